/-
 pavg.Free: what is free of a pool.
-/
import Derived.Test.YtjccjmmbebiegaaPfr
import Derived.Test.YtjccjmmbebiegaaPoolD
set_option linter.unusedVariables false
set_option linter.unusedSimpArgs false
namespace Go.Proofs.Ytjccjmmbebiegaa
open Go.RowKit Mc
namespace Fr
theorem take_qs {L:List Lay} {j:Nat} {x:Lay} (h:L[j]?=some x):qs (L.take (j+1))=qs (L.take j)+x.q:=by
 obtain⟨h1,h2⟩:=List.getElem?_eq_some_iff.1 h
 rw[List.take_succ_eq_append_getElem h1,qs_append,h2]
 simp[qs]
set_option maxHeartbeats 1000000
set_option maxRecDepth 1000000
theorem walk0 (oA oR oX oXr oS0 oS1 oS2 oY oYr:Option (RT Out))
  (rA:rnA b_A body 30 fi_A bi_A 0=oA) (tA:stopB oA=true) (kA:lK [some 0] oA fo_A bo_A=true)
  (rR:rnA b_R (oCode oA) 30 fi_R bi_R 1=oR) (tR:doneB oR 0=true) (kR:lK [some 0] oR fo_R bo_R=true)
  (rX:rnA b_X (oCode oA) 30 fi_X bi_X 1=oX) (tX:doneB oX 2=true) (kX:lK [some 0] oX fo_X bo_X=true)
  (rXr:rsA b_Xr oA 0 30 fi_Xr bi_Xr 1=oXr) (tXr:stopB oXr=true) (kXr:lK [] oXr fo_Xr bo_Xr=true)
  (rS0:rnA b_S0 (oCode oXr) 30 fi_S0 bi_S0 0=oS0) (tS0:doneB oS0 0=true) (kS0:lK [] oS0 fo_S0 bo_S0=true)
  (rS1:rnA b_S1 (oCode oXr) 30 fi_S1 bi_S1 0=oS1) (tS1:doneB oS1 0=true) (kS1:lK [] oS1 fo_S1 bo_S1=true)
  (rS2:rnA b_S2 (oCode oXr) 30 fi_S2 bi_S2 0=oS2) (tS2:doneB oS2 0=true) (kS2:lK [] oS2 fo_S2 bo_S2=true)
  (rY:rnA b_Y (oCode oXr) 30 fi_Y bi_Y 0=oY) (tY:doneB oY 4=true) (kY:lK [] oY fo_Y bo_Y=true)
  (rYr:rsA b_Yr oXr 2 30 fi_Yr bi_Yr 0=oYr) (tYr:doneB oYr 1=true) (kYr:resultsA Try.prog Try.f12 (lOf oYr) (oT oYr).get=some ((.e [([0],1)])))
  {L:List Lay} {p0 p1 p2:Int} (hL:LR L) (a0:B60 p0) (a1:B60 p1) (a2:B60 p2):CK Try.prog 12 [PoolD.av ⟨L,p0,p1,p2⟩] (.i (qs L-p0-p1-p2)):=by
 have h30:=hL.len
 have hk:∀j,0≤qs (L.take j)∧qs (L.take j)≤288230376151711744:=fun j=>qs_take_bd hL j
 refine CK.of_body Try.func12 (c:=body) (by kernel_rfl) (cl_cons (.agg _ (cl_poolRow _)) cl_nil) (.c _) fun A w0 ac=>?_
 intro mm w a pr
 rw[Try.ntmps12]at pr
 refine go_A body oA rA tA kA h30 (pr:=pr) ?_
 intro mm w a pr
 refine loop_rule (fun nn a w=>∃(j:Nat) (_:j≤L.length),nn=L.length-j∧∃mm,@Pre bk0 ev0 A w0 ac mm w a (headF L (qs (L.take j)) j) (hOf (headB [.lit 3 (laysR L),.i p0,.i p1,.i p2]))) ?_ (n:=L.length) ⟨0,by omega,by omega,_,pr⟩
 rintro nn a w ⟨j,hj,rfl,mm,pr⟩
 have hj0:=hk j
 rcases(by omega:j=L.length∨j<L.length)with h|h
 ·refine go_X (oCode oA) oX rX tX kX h30 ⟨by omega,by omega⟩ a0 a1 a2 (by omega) pr ?_
  intro mm w a pr
  refine go_Xr oA oXr rXr tXr kXr h30 ⟨by omega,by omega⟩ a0 a1 a2 (by omega) pr ?_
  intro mm w a pr
  rw[h,List.take_length]at pr hj0
  refine loop_rule (fun k a w=>∃n:Int,(-4000000000000000000≤n∧n≤4000000000000000000)∧∃mm,((k=3∧n=qs L∧@Pre bk0 ev0 A w0 ac mm w a (head2 n p0 p1 p2 0) (hOf []))∨(k=2∧n=qs L-p0∧@Pre bk0 ev0 A w0 ac mm w a (head2 n p0 p1 p2 1) (hOf []))∨(k=1∧n=qs L-p0-p1∧@Pre bk0 ev0 A w0 ac mm w a (head2 n p0 p1 p2 2) (hOf []))∨(k=0∧n=qs L-p0-p1-p2∧@Pre bk0 ev0 A w0 ac mm w a (head2 n p0 p1 p2 3) (hOf [])))) ?_ (n:=3) ⟨_,⟨by omega,by omega⟩,_,.inl ⟨rfl,rfl,pr⟩⟩
  rintro k a w ⟨n,hn,mm,⟨rfl,rfl,pr⟩|⟨rfl,rfl,pr⟩|⟨rfl,rfl,pr⟩|⟨rfl,rfl,pr⟩⟩
  ·refine go_S0 (oCode oXr) oS0 rS0 tS0 kS0 hn a0 a1 a2 rfl pr ?_
   intro mm w a pr
   exact⟨2,by omega,_,⟨by omega,by omega⟩,mm,.inr (.inl ⟨rfl,rfl,pr⟩)⟩
  ·refine go_S1 (oCode oXr) oS1 rS1 tS1 kS1 hn a0 a1 a2 rfl pr ?_
   intro mm w a pr
   exact⟨1,by omega,_,⟨by omega,by omega⟩,mm,.inr (.inr (.inl ⟨rfl,rfl,pr⟩))⟩
  ·refine go_S2 (oCode oXr) oS2 rS2 tS2 kS2 hn a0 a1 a2 rfl pr ?_
   intro mm w a pr
   exact⟨0,by omega,_,⟨by omega,by omega⟩,mm,.inr (.inr (.inr ⟨rfl,rfl,pr⟩))⟩
  ·refine go_Y (oCode oXr) oY rY tY kY hn a0 a1 a2 pr ?_
   intro mm w a pr
   exact go_Yr oXr oYr rYr tYr kYr hn a0 a1 a2 pr
 ·obtain⟨x,hx⟩:∃x,L[j]?=some x:=⟨_,List.getElem?_eq_getElem h⟩
  have hb:=hL.at_ (List.mem_of_getElem? hx)
  have hx':L[(j:Int).toNat]?=some ⟨x.q,x.v,x.p⟩:=by simpa using hx
  refine go_R (oCode oA) oR rR tR kR h30 ⟨by omega,by omega⟩ ⟨by omega,by omega⟩ (by omega) (by omega) (by omega) hx' (n2:=qs (L.take (j+1))) (take_qs hx) (i2:=((j+1:Nat):Int)) (by simp;omega) pr ?_
  intro mm w a pr
  exact⟨L.length-(j+1),by omega,j+1,by omega,rfl,mm,pr⟩
theorem walk {L:List Lay} {p0 p1 p2:Int} (hL:LR L) (a0:B60 p0) (a1:B60 p1) (a2:B60 p2):CK Try.prog 12 [PoolD.av ⟨L,p0,p1,p2⟩] (.i (qs L-p0-p1-p2)) :=
 walk0 s_A s_R s_X s_Xr s_S0 s_S1 s_S2 s_Y s_Yr rfl end_A look_A rfl end_R look_R rfl end_X look_X rfl end_Xr look_Xr rfl end_S0 look_S0 rfl end_S1 look_S1 rfl end_S2 look_S2 rfl end_Y look_Y rfl end_Yr res_Yr hL a0 a1 a2
end Fr
end Go.Proofs.Ytjccjmmbebiegaa
