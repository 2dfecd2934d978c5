/-
 More value over layers, as the document says it. (Printed by wip/mkw.py out of wip/src/XDu.src, wip/paths/d13seg.py, drs.py.)
-/
import Derived.Test.YtjccjmmbebiegaaDs
import Derived.Test.YtjccjmmbebiegaaPoolS2
import Derived.Test.YtjccjmmbebiegaaSp
set_option linter.unusedVariables false
set_option linter.unusedSimpArgs false
namespace Go.Proofs.Ytjccjmmbebiegaa
open Go.RowKit Mc
set_option maxRecDepth 1000000
def raiseL (L:List Lay) (v:Int):List Lay×Int :=
 if L.length=0 then(L,5)else if 288230376151711744<v then(L,2)else if rightL (raiseGo v (qs L) v L)=true then(raiseGo v (qs L) v L,0)else(L,2)
theorem qs_mem {L:List Lay} (h:LR L) {x:Lay} (hx:x∈L):x.q≤qs L:=by
 have go:∀(l:List Lay),(∀z∈l,layOk z=true)→x∈l→x.q≤qs l:=by
  intro l
  induction l with
  |nil=>intro _ hx;cases hx
  |cons z t ih =>
   intro hok hx
   have hz:=layOk_iff.1 (hok z (by simp))
   have ht:=(qs_pos (l:=t) fun y hy=>hok y (by simp[hy])).1
   rw[qs_cons]
   rcases List.mem_cons.1 hx with rfl|hx
   ·omega
   ·have:=ih (fun y hy=>hok y (by simp[hy])) hx;omega
 exact go L h.ok hx
theorem lays_set {L d:List Lay} {j:Nat} {x:Lay} (hd:d.length=j) (hdr:L.drop j=x::L.drop (j+1)) (y:Lay):(laysR (d++L.drop j)).set j [.i y.q,.i y.v,.i y.p]=laysR (d++[y]++L.drop (j+1)):=by
 subst hd
 rw[hdr]
 simp only[laysR,List.map_append,List.map_cons,List.map_nil]
 rw[List.set_append_right _ _ (by simp)]
 simp
 rfl
theorem allI3' {a b c:Int} (h1:I64 a) (h2:I64 b) (h3:I64 c):AllI [a,b,c]:=by
 intro v hv
 simp only[List.mem_cons,List.not_mem_nil,or_false]at hv
 rcases hv with rfl|rfl|rfl
 ·exact h1
 ·exact h2
 ·exact h3
theorem raiseGo_I {v t0:Int} {L:List Lay} (hv:0≤v∧v≤288230376151711744) (hall:1≤t0) (ht:t0=qs L) (h:LR L):∀z∈raiseGo v t0 v L,I64 z.q∧I64 z.v∧I64 z.p:=by
 have go:∀(l:List Lay) (left:Int),(∀x∈l,layOk x=true)→qs l≤t0→0≤left→left≤v→v*qs l≤left*t0→∀z∈raiseGo v t0 left l,I64 z.q∧I64 z.v∧I64 z.p:=by
  intro l
  induction l with
  |nil=>intro left _ _ _ _ _ z hz;cases hz
  |cons x r ih =>
   intro left hok hq l0 l1 hs z hz
   have hx:=layOk_iff.1 (hok x (by simp))
   have hr:=(qs_pos (l:=r) fun y hy=>hok y (by simp[hy])).1
   cases r with
   |nil =>
    simp only[raiseGo,List.mem_singleton]at hz
    subst hz
    exact⟨⟨by dsimp only;omega,by dsimp only;omega⟩,⟨by dsimp only;omega,by dsimp only;omega⟩,⟨by dsimp only;omega,by dsimp only;omega⟩⟩
   |cons y t =>
    rw[qs_cons]at hq hs
    obtain⟨p0,p1⟩:=part_share hv.1 hv.2 (q:=x.q) (by omega) (by omega) hall
    simp only[raiseGo]at hz
    have e1:v*(x.q+qs (y::t))=v*x.q+v*qs (y::t):=Int.mul_add _ _ _
    have e2:(left-partS v x.q t0)*t0=left*t0-partS v x.q t0*t0:=Int.sub_mul _ _ _
    have e3:0≤v*qs (y::t):=Int.mul_nonneg hv.1 hr
    have e4:0≤left-partS v x.q t0:=by
     have:0≤(left-partS v x.q t0)*t0:=by omega
     exact Int.nonneg_of_mul_nonneg_left this (by omega)
    rcases List.mem_cons.1 hz with rfl|hz
    ·exact⟨⟨by dsimp only;omega,by dsimp only;omega⟩,⟨by dsimp only;omega,by dsimp only;omega⟩,⟨by dsimp only;omega,by dsimp only;omega⟩⟩
    ·exact ih (left-partS v x.q t0) (fun y hy=>hok y (by simp[hy])) (by omega) e4 (by omega) (by omega) z hz
 exact go L v h.ok (by omega) hv.1 (Int.le_refl _) (by rw[ht];exact Int.le_refl _)
namespace RS
abbrev sF (v n l y i:AV):List AV:=fr 79 [(2,v),(4,.ptr 4 0 0 0),(6,.ptr 4 1 0 0),(7,.i 0),(8,n),(9,l),(10,.ptr 3 3 0 0),(11,y),(12,i)]
abbrev sB (L:List Lay) (p0 p1 p2 t0 t1 t2:Int) (c:List (List AV)):List Mc.Blk:=[.cells 26 4 [[.lit 3 (laysR L),.i p0,.i p1,.i p2]],.cells 26 4 [[.emp,.i 0,.i 0,.i 0]],.cells 32 3 c,.cells 32 3 [[.i t0,.i t1,.i t2]]]
noncomputable def body:Code:=(Try.f25).body.getD .skip
abbrev p_RSA (c:Code) (r:Option (RT Out)):Prop:=SegA { vars:=[(1,30),(1,3),(0,288230376151711744)],lens:=[(0,[([0],1)])],extV:=[(51,[(.agg [.q 3 0,.o 0,.o 1,.o 2])],(.agg [.o 3,.o 4,.o 5]))] } c ([.v 1,(.agg [.q 3 0,.o 0,.o 1,.o 2]),.v 2]++List.replicate 76 .undef) [] [some 0,some 1,some 2,some 3] (sF (.v 2) (.v 0) (.sown 32 3 2 [([0],1)]) (.v 2) (.i 0)) [(.cells 26 4 [[.q 3 0,.o 0,.o 1,.o 2]]),(.cells 26 4 [[.emp,.i 0,.i 0,.i 0]]),(.sc 32 3 0 [] [] [([0],1)]),(.cells 32 3 [[.o 3,.o 4,.o 5]])] r
noncomputable def s_RSA:Option (RT Out):=rnA { vars:=[(1,30),(1,3),(0,288230376151711744)],lens:=[(0,[([0],1)])],extV:=[(51,[(.agg [.q 3 0,.o 0,.o 1,.o 2])],(.agg [.o 3,.o 4,.o 5]))] } body ([.v 1,(.agg [.q 3 0,.o 0,.o 1,.o 2]),.v 2]++List.replicate 76 .undef:List AV).length ([.v 1,(.agg [.q 3 0,.o 0,.o 1,.o 2]),.v 2]++List.replicate 76 .undef) [] 0
theorem t_RSA:p_RSA body s_RSA:=⟨rfl,by decide +kernel,by decide +kernel⟩
abbrev p_RSp (c:Code):Prop:=SegD { vars:=[(1,30),(0,288230376151711744),(0,288230376151711744),(-576460752303423488,576460752303423488),(-576460752303423488,576460752303423488),(0,29)],facts:=[([([0],1),([5],-1)],2,30)],lens:=[(0,[([0],1)]),(1,[([0],1)])],ats:=[(1,[([5],1)],[.o 6,.v 2,.o 7])],extV:=[(52,[.v 1,.o 6,.o 3],(.v 4))] } c (sF (.v 1) (.v 0) (.sown 32 3 2 [([0],1)]) (.v 3) (.v 5)) [(.cells 26 4 [[.q 3 0,.o 0,.o 1,.o 2]]),(.cells 26 4 [[.emp,.i 0,.i 0,.i 0]]),(.sc 32 3 1 [] [] [([0],1)]),(.cells 32 3 [[.o 3,.o 4,.o 5]])] 0 [some 0,some 1,some 2,some 3] (sF (.v 1) (.v 0) (.sown 32 3 2 [([0],1)]) (.e [([3],1),([4],-1)]) (.e [([],1),([5],1)])) [(.cells 26 4 [[.q 3 0,.o 0,.o 1,.o 2]]),(.cells 26 4 [[.emp,.i 0,.i 0,.i 0]]),(.sc 32 3 1 [([([5],1)],[.o 6,(.e [([2],1),([4],1)]),.o 7])] [] [([0],1)]),(.cells 32 3 [[.o 3,.o 4,.o 5]])]
theorem t_RSp:p_RSp (oCode s_RSA):=⟨_,rfl,by decide +kernel,by decide +kernel⟩
abbrev p_RSl (c:Code):Prop:=SegD { vars:=[(1,30),(0,288230376151711744),(0,288230376151711744),(-576460752303423488,576460752303423488),(0,29)],facts:=[([([0],1),([4],-1)],1,1)],lens:=[(0,[([0],1)]),(1,[([0],1)])],ats:=[(1,[([4],1)],[.o 6,.v 2,.o 7])] } c (sF (.v 1) (.v 0) (.sown 32 3 2 [([0],1)]) (.v 3) (.v 4)) [(.cells 26 4 [[.q 3 0,.o 0,.o 1,.o 2]]),(.cells 26 4 [[.emp,.i 0,.i 0,.i 0]]),(.sc 32 3 1 [] [] [([0],1)]),(.cells 32 3 [[.o 3,.o 4,.o 5]])] 0 [some 0,some 1,some 2,some 3] (sF (.v 1) (.v 0) (.sown 32 3 2 [([0],1)]) (.i 0) (.e [([],1),([4],1)])) [(.cells 26 4 [[.q 3 0,.o 0,.o 1,.o 2]]),(.cells 26 4 [[.emp,.i 0,.i 0,.i 0]]),(.sc 32 3 1 [([([4],1)],[.o 6,(.e [([2],1),([3],1)]),.o 7])] [] [([0],1)]),(.cells 32 3 [[.o 3,.o 4,.o 5]])]
theorem t_RSl:p_RSl (oCode s_RSA):=⟨_,rfl,by decide +kernel,by decide +kernel⟩
abbrev p_RSX (c:Code):Prop:=SegD { vars:=[(1,30),(0,288230376151711744)],lens:=[(0,[([0],1)]),(1,[([0],1)])] } c (sF (.v 1) (.v 0) (.sown 32 3 2 [([0],1)]) (.o 6) (.v 0)) [(.cells 26 4 [[.q 3 0,.o 0,.o 1,.o 2]]),(.cells 26 4 [[.emp,.i 0,.i 0,.i 0]]),(.sc 32 3 1 [] [] [([0],1)]),(.cells 32 3 [[.o 3,.o 4,.o 5]])] 3 [some 0,some 1,some 2,some 3] (sF (.v 1) (.v 0) (.sown 32 3 2 [([0],1)]) (.o 6) (.v 0)) [(.cells 26 4 [[.q 3 0,.o 0,.o 1,.o 2]]),(.cells 26 4 [[.emp,.i 0,.i 0,.i 0]]),(.sc 32 3 1 [] [] [([0],1)]),(.cells 32 3 [[.o 3,.o 4,.o 5]])]
theorem t_RSX:p_RSX (oCode s_RSA):=⟨_,rfl,by decide +kernel,by decide +kernel⟩
abbrev p_RSXok (o:Option (RT Out)):Prop:=SegRR { vars:=[(1,30),(0,288230376151711744)],lens:=[(0,[([0],1)]),(1,[([0],1)])],extV:=[(53,[.q 3 1],(.c (.bool true)))] } Try.f25 o 1 (sF (.v 1) (.v 0) (.sown 32 3 2 [([0],1)]) (.o 6) (.v 0)) [(.cells 26 4 [[.q 3 0,.o 0,.o 1,.o 2]]),(.cells 26 4 [[.emp,.i 0,.i 0,.i 0]]),(.sc 32 3 1 [] [] [([0],1)]),(.cells 32 3 [[.o 3,.o 4,.o 5]])] ((.tup [(.agg [.q 3 1,.o 0,.o 1,.o 2]),.i 0]))
theorem t_RSXok:p_RSXok s_RSA:=⟨_,rfl,by decide +kernel,by decide +kernel,by kernel_rfl⟩
abbrev p_RSXbig (o:Option (RT Out)):Prop:=SegRR { vars:=[(1,30),(0,288230376151711744)],lens:=[(0,[([0],1)]),(1,[([0],1)])],extV:=[(53,[.q 3 1],(.c (.bool false)))] } Try.f25 o 1 (sF (.v 1) (.v 0) (.sown 32 3 2 [([0],1)]) (.o 6) (.v 0)) [(.cells 26 4 [[.q 3 0,.o 0,.o 1,.o 2]]),(.cells 26 4 [[.emp,.i 0,.i 0,.i 0]]),(.sc 32 3 1 [] [] [([0],1)]),(.cells 32 3 [[.o 3,.o 4,.o 5]])] ((.tup [(.agg [.q 3 0,.o 0,.o 1,.o 2]),.i 2]))
theorem t_RSXbig:p_RSXbig s_RSA:=⟨_,rfl,by decide +kernel,by decide +kernel,by kernel_rfl⟩
theorem walk (oA:Option (RT Out)) (rA:p_RSA body oA) (rp:p_RSp (oCode oA)) (rl:p_RSl (oCode oA)) (rX:p_RSX (oCode oA)) (rO:p_RSXok oA) (rB:p_RSXbig oA)
  {L:List Lay} {p0 p1 p2 m v:Int} (h:LR L) (h1:1≤L.length) (hm:1≤m∧m≤3) (hv:0≤v∧v≤288230376151711744) :
  Ck 25 [.i m,PoolD.av ⟨L,p0,p1,p2⟩,.i v] (.tup [PoolD.av ⟨if rightL (raiseGo v (qs L) v L)=true then raiseGo v (qs L) v L else L,p0,p1,p2⟩,.i (if rightL (raiseGo v (qs L) v L)=true then 0 else 2)]):=by
 have ht:=ck_d13Total (p0:=p0) (p1:=p1) (p2:=p2) h
 have hql:=h.q
 have h30:=h.len
 obtain⟨t1,ht1⟩:∃t1,t1=vs L:=⟨_,rfl⟩
 obtain⟨t2,ht2⟩:∃t2,t2=ps L:=⟨_,rfl⟩
 obtain⟨t0,ht0⟩:∃t0,t0=qs L:=⟨_,rfl⟩
 rw[←ht1,←ht2,←ht0]at ht
 rw[←ht0]at hql ⊢
 have hall:1≤t0:=by
  rw[ht0]
  match L,h1,h with
  |z::t,_,h =>
   have:=layOk_iff.1 (h.ok z (by simp))
   have:=(qs_pos (l:=t) fun x hx=>h.ok x (by simp[hx])).1
   rw[qs_cons];omega
 refine CK.of_body Try.func25 (c:=body) (by kernel_rfl) (ClL.out) (ClA.out) fun A w0 a0=>?_
 intro mm w a pr
 rw[Try.ntmps25]at pr
 refine rA.go (evS _ [(L.length:Int),m,v] [.int .i64 p0,.int .i64 p1,.int .i64 p2,.int .i64 t0,.int .i64 t1,.int .i64 t2] [laysR L] BndL.nil.c.c.c FctL.nil LenL.nil.c .nil) (xK (kc ht kn)) pr (fd:=sF (.i v) (.i (L.length:Int)) (.own 32 3 2 0 L.length) (.i v) (.i 0)) (bd:=sB L p0 p1 p2 t0 t1 t2 (laysR L)) ?_
 intro mm w a pr
 clear ht
 refine loop_rule (fun n a w=>∃(j:Nat) (left:Int) (d:List Lay),n=L.length-j∧j≤L.length∧d.length=j∧raiseGo v t0 v L=d++raiseGo v t0 left (L.drop j)∧0≤left∧left≤v∧v*qs (L.drop j)≤left*t0∧∃mm,@Pre bk0 ev0 A w0 a0 mm w a (sF (.i v) (.i (L.length:Int)) (.own 32 3 2 0 L.length) (.i left) (.i (j:Int))) (hOf (sB L p0 p1 p2 t0 t1 t2 (laysR (d++L.drop j))))) ?_ (n:=L.length) ⟨0,v,[],rfl,Nat.zero_le _,rfl,rfl,hv.1,Int.le_refl _,by rw[List.drop_zero,ht0];exact Int.le_refl _,_,pr⟩
 rintro n a w ⟨j,left,d,rfl,hj,hd,hR,l0,l1,hs,mm,pr⟩
 have hcl:(d++L.drop j).length=L.length:=by simp;omega
 rcases(by omega:j=L.length∨j<L.length)with rfl|hlt
 ·have hz:L.drop L.length=[]:=List.drop_length
  rw[hz]at hR hcl
  rw[hz]at pr
  simp only[raiseGo,List.append_nil]at hR hcl pr
  rw[hR]
  generalize d=c at *
  refine rX.go (evS _ [(L.length:Int),v] [.int .i64 p0,.int .i64 p1,.int .i64 p2,.int .i64 t0,.int .i64 t1,.int .i64 t2,.int .i64 left] [laysR L,laysR c] BndL.nil.c.c FctL.nil LenL.nil.c.c .nil) (xK kn) pr ?_
  intro mm w a pr
  have hI:AllI (flat c):=by
   rw[←hR]
   refine flat_I fun z hz=>?_
   obtain⟨o1,o2,o3⟩:=raiseGo_I hv hall ht0 h z hz
   exact allI3' o1 o2 o3
  have hr:=ck_d09Right hI (by omega)
  by_cases hg:rightL c=true
  ·rw[if_pos hg,if_pos hg]
   rw[hg]at hr
   exact rO.go (evS _ [(L.length:Int),v] [.int .i64 p0,.int .i64 p1,.int .i64 p2,.int .i64 t0,.int .i64 t1,.int .i64 t2,.int .i64 left] [laysR L,laysR c] BndL.nil.c.c FctL.nil LenL.nil.c.c .nil) (xK (kc hr kn)) pr
  ·rw[if_neg hg,if_neg hg]
   rw[show rightL c=false by simpa using hg]at hr
   exact rB.go (evS _ [(L.length:Int),v] [.int .i64 p0,.int .i64 p1,.int .i64 p2,.int .i64 t0,.int .i64 t1,.int .i64 t2,.int .i64 left] [laysR L,laysR c] BndL.nil.c.c FctL.nil LenL.nil.c.c .nil) (xK (kc hr kn)) pr
 ·obtain⟨x,hx0⟩:∃x,L[j]?=some x:=⟨_,List.getElem?_eq_getElem hlt⟩
  have hdr:L.drop j=x::L.drop (j+1):=by rw[←List.getElem_cons_drop hlt];congr 1;exact Option.some.inj (by rw[←List.getElem?_eq_getElem hlt,hx0])
  have hxo:=layOk_iff.1 (h.ok x (List.mem_of_getElem? hx0))
  have hx:(d++L.drop j)[(j:Int).toNat]?=some x:=by
   rw[Int.toNat_natCast,List.getElem?_append_right (by omega),hd,Nat.sub_self,hdr];rfl
  have hset:∀y,(laysR (d++L.drop j)).set j [.i y.q,.i y.v,.i y.p]=laysR (d++[y]++L.drop (j+1)):=fun y=>lays_set hd hdr y
  have hrest:=fun(z:Lay) (hz:z∈L.drop (j+1))=>h.ok z (List.mem_of_mem_drop hz)
  have hqr:=(qs_pos hrest).1
  rw[hdr,qs_cons]at hs
  generalize hc:d++L.drop j=c at *
  rcases(by omega:j+1=L.length∨j+1<L.length)with hlast|hmore
  ·refine rl.go (evS _ [(L.length:Int),v,x.v,left,(j:Int)] [.int .i64 p0,.int .i64 p1,.int .i64 p2,.int .i64 t0,.int .i64 t1,.int .i64 t2,.int .i64 x.q,.int .i64 x.p] [laysR L,laysR c] BndL.nil.c.c.c.c.c FctL.nil.d LenL.nil.c.c (.d (aY hx) .nil)) (xK kn) pr (fd:=sF (.i v) (.i (L.length:Int)) (.own 32 3 2 0 L.length) (.i 0) (.i (1+(j:Int)))) (bd:=sB L p0 p1 p2 t0 t1 t2 ((laysR c).set j [.i x.q,.i (x.v+left),.i x.p])) ?_
   intro mm w a pr
   have hz:L.drop (j+1)=[]:=List.drop_eq_nil_iff.2 (by omega)
   refine⟨L.length-(j+1),by omega,j+1,0,d++[⟨x.q,x.v+left,x.p⟩],rfl,by omega,by simp;omega,?_,Int.le_refl _,hv.1,?_,mm,?_⟩
   ·rw[hR,hdr,hz];simp[raiseGo]
   ·rw[hz];simp[qs]
   ·rw[show(1+(j:Int))=((j+1:Nat):Int)by omega]at pr
    rw[←hset ⟨x.q,x.v+left,x.p⟩]
    exact pr
  ·have hk:=ck_d01Part (v:=v) (q:=x.q) (n:=t0) ⟨by omega,by omega⟩ ⟨by omega,by omega⟩ ⟨by omega,by omega⟩
   have hqt:x.q≤t0:=by rw[ht0];exact qs_mem h (List.mem_of_getElem? hx0)
   obtain⟨k0,k1⟩:=part_share hv.1 hv.2 (q:=x.q) (by omega) hqt hall
   obtain⟨y,r,hyr⟩:∃y r,L.drop (j+1)=y::r:=by
    cases hq:L.drop (j+1)with
    |nil=>have:=List.drop_eq_nil_iff.1 hq;omega
    |cons y r=>exact⟨y,r,rfl⟩
   have hR2:raiseGo v t0 left (x::L.drop (j+1))=⟨x.q,x.v+partS v x.q t0,x.p⟩::raiseGo v t0 (left-partS v x.q t0) (L.drop (j+1)):=by rw[hyr];rfl
   rw[hdr,hR2]at hR
   generalize partS v x.q t0=k at *
   have e1:v*(x.q+qs (L.drop (j+1)))=v*x.q+v*qs (L.drop (j+1)):=Int.mul_add _ _ _
   have e2:(left-k)*t0=left*t0-k*t0:=Int.sub_mul _ _ _
   have e3:0≤v*qs (L.drop (j+1)):=Int.mul_nonneg hv.1 hqr
   have e4:0≤left-k:=by
    have:0≤(left-k)*t0:=by omega
    exact Int.nonneg_of_mul_nonneg_left this (by omega)
   refine rp.go (evS _ [(L.length:Int),v,x.v,left,k,(j:Int)] [.int .i64 p0,.int .i64 p1,.int .i64 p2,.int .i64 t0,.int .i64 t1,.int .i64 t2,.int .i64 x.q,.int .i64 x.p] [laysR L,laysR c] BndL.nil.c.c.c.c.c.c FctL.nil.d LenL.nil.c.c (.d (aY hx) .nil)) (xK (kc hk kn)) pr (fd:=sF (.i v) (.i (L.length:Int)) (.own 32 3 2 0 L.length) (.i (left-k)) (.i (1+(j:Int)))) (bd:=sB L p0 p1 p2 t0 t1 t2 ((laysR c).set j [.i x.q,.i (x.v+k),.i x.p])) ?_
   intro mm w a pr
   refine⟨L.length-(j+1),by omega,j+1,left-k,d++[⟨x.q,x.v+k,x.p⟩],rfl,by omega,by simp;omega,?_,e4,by omega,by omega,mm,?_⟩
   ·rw[hR];simp
   ·rw[show(1+(j:Int))=((j+1:Nat):Int)by omega]at pr
    rw[←hset ⟨x.q,x.v+k,x.p⟩]
    exact pr
end RS
theorem ck_d13Raise {L:List Lay} {p0 p1 p2 m v:Int} (h:LR L) (hm:1≤m∧m≤3) (hv:0≤v∧v≤9223372036854775807):Ck 25 [.i m,PoolD.av ⟨L,p0,p1,p2⟩,.i v] (.tup [PoolD.av ⟨(raiseL L v).1,p0,p1,p2⟩,.i (raiseL L v).2]):=by
 have hl:=h.len
 unfold raiseL
 by_cases h0:L.length=0
 ·rw[if_pos h0];exact CK.way _ (evS { vars:=[(0,0),(1,3),(0,9223372036854775807)],lens:=[(0,[([0],1)])] } [(L.length:Int),m,v] [.int .i64 p0,.int .i64 p1,.int .i64 p2] [laysR L] BndL.nil.c.c.c FctL.nil LenL.nil.c .nil) [.v 1,(.agg [.q 3 0,.o 0,.o 1,.o 2]),.v 2] (.tup [(.agg [.q 3 0,.o 0,.o 1,.o 2]),.i 5]) (by decide +kernel) kn
 rw[if_neg h0]
 by_cases hb:288230376151711744<v
 ·rw[if_pos hb];exact CK.way _ (evS { vars:=[(1,30),(1,3),(288230376151711745,9223372036854775807)],lens:=[(0,[([0],1)])] } [(L.length:Int),m,v] [.int .i64 p0,.int .i64 p1,.int .i64 p2] [laysR L] BndL.nil.c.c.c FctL.nil LenL.nil.c .nil) [.v 1,(.agg [.q 3 0,.o 0,.o 1,.o 2]),.v 2] (.tup [(.agg [.q 3 0,.o 0,.o 1,.o 2]),.i 2]) (by decide +kernel) kn
 rw[if_neg hb]
 have W:=RS.walk RS.s_RSA RS.t_RSA RS.t_RSp RS.t_RSl RS.t_RSX RS.t_RSXok RS.t_RSXbig (p0:=p0) (p1:=p1) (p2:=p2) h (by omega) hm ⟨hv.1,by omega⟩
 by_cases hr:rightL (raiseGo v (qs L) v L)=true
 ·simp only[if_pos hr]at W ⊢;exact W
 ·simp only[if_neg hr]at W ⊢;exact W
end Go.Proofs.Ytjccjmmbebiegaa
