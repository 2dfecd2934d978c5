/-
 The law's own sum of a pool's quantities.
-/
import Derived.Test.YtnalblnmplnhmaaGreatPqty
import Derived.Test.YtnalblnmplnhmaaGreatPoolD
set_option linter.unusedVariables false
set_option linter.unusedSimpArgs false
namespace Go.Proofs.YtnalblnmplnhmaaGreat
open Go.RowKit Mc
namespace Qty
theorem take_qs {L:List Lay} {j:Nat} {x:Lay} (h:L[j]?=some x):qs (L.take (j+1))=qs (L.take j)+x.q:=by
 obtain⟨h1,h2⟩:=List.getElem?_eq_some_iff.1 h
 rw[List.take_succ_eq_append_getElem h1,qs_append,h2]
 simp[qs]
set_option maxHeartbeats 1000000
set_option maxRecDepth 1000000
theorem walk0 (oA oR oX oXr:Option (RT Out))
  (rA:rnA b_A body 19 fi_A bi_A 0=oA) (tA:stopB oA=true) (kA:lK [] oA fo_A bo_A=true)
  (rR:rnA b_R (oCode oA) 19 fi_R bi_R 0=oR) (tR:doneB oR 0=true) (kR:lK [] oR fo_R bo_R=true)
  (rX:rnA b_X (oCode oA) 19 fi_X bi_X 0=oX) (tX:doneB oX 2=true) (kX:lK [] oX fo_X bo_X=true)
  (rXr:rsA b_Xr oA 0 19 fi_Xr bi_Xr 0=oXr) (tXr:doneB oXr 1=true) (kXr:resultsA Tryz.prog Tryz.f17 (lOf oXr) (oT oXr).get=some ((.e [([1],1)])))
  {L:List Lay} {p0 p1 p2:Int} (hL:LR L):CK Tryz.prog 17 [PoolD.av ⟨L,p0,p1,p2⟩] (.i (qs L)):=by
 have h30:=hL.len
 have hk:∀j,0≤qs (L.take j)∧qs (L.take j)≤288230376151711744:=fun j=>qs_take_bd hL j
 refine CK.of_body Tryz.func17 (c:=body) (by kernel_rfl) (cl_cons (.agg _ (cl_poolRow _)) cl_nil) (.c _) fun A w0 a0=>?_
 intro mm w a pr
 rw[Tryz.ntmps17]at pr
 refine go_A body oA rA tA kA h30 (pr:=pr) ?_
 intro mm w a pr
 refine loop_rule (fun nn a w=>∃(j:Nat) (_:j≤L.length),nn=L.length-j∧∃mm,@Pre bk0 ev0 A w0 a0 mm w a (headF L (qs (L.take j)) j) (hOf [])) ?_ (n:=L.length) ⟨0,by omega,by omega,_,pr⟩
 rintro nn a w ⟨j,hj,rfl,mm,pr⟩
 have hj0:=hk j
 rcases(by omega:j=L.length∨j<L.length)with h|h
 ·refine go_X (oCode oA) oX rX tX kX h30 ⟨by omega,by omega⟩ (by omega) pr ?_
  intro mm w a pr
  have:=go_Xr oA oXr rXr tXr kXr h30 ⟨by omega,by omega⟩ (by omega) pr
  rw[h,List.take_length]at this
  exact this
 ·obtain⟨x,hx⟩:∃x,L[j]?=some x:=⟨_,List.getElem?_eq_getElem h⟩
  have hb:=hL.at_ (List.mem_of_getElem? hx)
  have hx':L[(j:Int).toNat]?=some ⟨x.q,x.v,x.p⟩:=by simpa using hx
  refine go_R (oCode oA) oR rR tR kR h30 ⟨by omega,by omega⟩ ⟨by omega,by omega⟩ (by omega) (by omega) hx' (n2:=qs (L.take (j+1))) (take_qs hx) (i2:=((j+1:Nat):Int)) (by simp;omega) pr ?_
  intro mm w a pr
  exact⟨L.length-(j+1),by omega,j+1,by omega,rfl,mm,pr⟩
theorem walk {L:List Lay} {p0 p1 p2:Int} (hL:LR L):CK Tryz.prog 17 [PoolD.av ⟨L,p0,p1,p2⟩] (.i (qs L)) :=
 walk0 s_A s_R s_X s_Xr rfl end_A look_A rfl end_R look_R rfl end_X look_X rfl end_Xr res_Xr hL
end Qty
end Go.Proofs.YtnalblnmplnhmaaGreat
