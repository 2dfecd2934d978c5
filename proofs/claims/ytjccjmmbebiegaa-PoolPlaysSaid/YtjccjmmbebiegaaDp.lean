/-
 Pools as the document says them: contracts over closed data. (Printed by wip/mkw.py out of wip/src/XDp.src and wip/paths/dpool.py.)
-/
import Derived.Test.YtjccjmmbebiegaaZ
import Derived.Test.YtjccjmmbebiegaaPoolSA
import Derived.Test.YtjccjmmbebiegaaFifoC
set_option linter.unusedVariables false
set_option linter.unusedSimpArgs false
namespace Go.Proofs.Ytjccjmmbebiegaa
open Go.RowKit Mc
set_option maxRecDepth 1000000
theorem rdl_at {A:Nat→Prop} {w:World} {k:Nat} {els:List (List AV)} {v:Value} (h:@RdL bk0 ev0 A w (.lit k els) v):els=[]∨∃b off cap,v=.slice (some ⟨b,off,none⟩) els.length cap∧¬ A b∧b<w.heap.size:=by
 cases h with
 |lit s es b off cap vs hA hb hc hsz h1 hv hr=>exact .inr ⟨b,off,cap,rfl,hA,hb⟩
 |lit0 s a cap hm=>exact .inl rfl
theorem lays_out2 {A:Nat→Prop} {w':World} {l:List Lay} {a:Option Addr} {cap:Nat} (R:Row w' 3 a l.length cap (flat l)) (hb:∀b off,a=some ⟨b,off,none⟩→l≠[]→¬ A b):@RdL bk0 ev0 A w' (.lit 3 (laysR l)) (.slice a l.length cap):=by
 rw[lays_lit]
 have hl:(l.map Lay.r).length=l.length:=by simp
 obtain⟨-,hc,hm,-,hat⟩:=R
 rw[←hl]at hc ⊢
 refine rdl_of_row (by intro r hr;obtain⟨x,-,rfl⟩:=List.mem_map.1 hr;rfl) hc hm ?_
 rw[hl,flat_r]
 rcases hat with h|⟨b,off,h1,h2,h3⟩
 ·exact .inl h
 ·by_cases hn:l=[]
  ·exact .inl (by rw[hn];rfl)
  ·exact .inr ⟨b,off,h1,hb b off h1 hn,h2,h3⟩
theorem ck_d09Total {l:List Lay} (hI:AllI (flat l)):Ck 11 [.lit 3 (laysR l)] (.tup [(tot l).av,.i (totE l)]):=by
 refine⟨cl_cons (cl_lays _).lit cl_nil,.tup _ (cl_cons (cl_lay _) (cl_cons (.c _) cl_nil)),?_⟩
 intro A w vs hA hG hl hv
 have hvs:=one_arg hl
 generalize vs.getD 0 Go.undef=v0 at hvs
 subst hvs
 obtain⟨a,cap,rfl,R⟩:=lays_in (hv 0 _ rfl) hI
 refine(ref_Total9 a cap l w R).mono ?_
 rintro e w' ⟨rfl,hb⟩
 exact⟨_,rfl,rdl_tup2 (rdl_lay _) rdl_i,hb⟩
theorem ck_d09Right {l:List Lay} (hI:AllI (flat l)) (hn:l.length≤1000):Ck 53 [.lit 3 (laysR l)] (.c (.bool (rightL l))):=by
 refine⟨cl_cons (cl_lays _).lit cl_nil,.c _,?_⟩
 intro A w vs hA hG hl hv
 have hvs:=one_arg hl
 generalize vs.getD 0 Go.undef=v0 at hvs
 subst hvs
 obtain⟨a,cap,rfl,R⟩:=lays_in (hv 0 _ rfl) hI
 refine(ref_Right9 a cap l w R hn).mono ?_
 rintro e w' ⟨rfl,hb⟩
 exact⟨_,rfl,@RdL.c bk0 ev0 A w' _,hb⟩
theorem outS_nil {q:Int}:(outS [] q).1=[]:=by
 unfold outS
 split
 ·rfl
 ·split
  ·rfl
  ·rename_i h1 h2
   exact absurd (by simp[tot,totOk,sumV,sumE,sumGo];omega) h2
theorem ck_d09Out {l:List Lay} (h:LR l) {q:Int} (hq:I64 q):Ck 44 [.lit 3 (laysR l),.i q] (.tup [.lit 3 (laysR (outS l q).1),(outS l q).2.1.av,.i (outS l q).2.2]):=by
 refine⟨cl_cons (cl_lays _).lit (cl_cons (.c _) cl_nil),.tup _ (cl_cons (cl_lays _).lit (cl_cons (cl_lay _) (cl_cons (.c _) cl_nil))),?_⟩
 intro A w vs hA hG hl hv
 have hvs:=two_args hl
 generalize vs.getD 0 Go.undef=v0 at hvs
 generalize vs.getD 1 Go.undef=v1 at hvs
 subst hvs
 have hat:=rdl_at (hv 0 _ rfl)
 obtain⟨a,cap,e0,R⟩:=lays_in (hv 0 _ rfl) (flat_ok h.ok)
 have e0':v0=.slice a l.length cap:=e0
 subst e0'
 obtain rfl:v1=_:=rdl_i_inv (hv 1 _ rfl)
 refine(ref_Out9 a cap l w R h.right q hq).mono ?_
 rintro e w' ⟨v,rfl,⟨a',cap',rfl,R'⟩,hb,hw⟩
 refine⟨_,rfl,rdl_tup3 (lays_out2 R' ?_) (rdl_lay _) rdl_i,hb⟩
 intro b off h1 h2
 subst h1
 rcases hw _ _ _ rfl with h3|h3
 ·rcases hat with h4|⟨b',off',cap2,h4,h5,h6⟩
  ·have:l=[]:=by simpa[laysR]using h4
   subst this
   exact absurd outS_nil h2
  ·have h4:Value.slice a l.length cap=.slice (some ⟨b',off',none⟩) (laysR l).length cap2:=h4
   simp only[Value.slice.injEq]at h4
   have:=h3.trans h4.1
   cases this
   exact h5
 ·intro hAb
  have:=hA b hAb
  simp only at h3
  omega
theorem lays_snoc (l:List Lay) (x:Lay):laysR (l++[x])=laysR l++[rowI x.r]:=by simp[laysR]
theorem flat_I {l:List Lay} (h:∀x∈l,AllI [x.q,x.v,x.p]):AllI (flat l):=by
 intro z hz
 obtain⟨x,hx,hz⟩:=List.mem_flatMap.1 hz
 exact h x hx z hz
theorem lay_I {x:Lay} (h:layOk x=true):AllI [x.q,x.v,x.p]:=by
 have:=layOk_iff.1 h
 intro z hz
 simp only[List.mem_cons,List.not_mem_nil,or_false]at hz
 rcases hz with rfl|rfl|rfl<;>exact⟨by omega,by omega⟩
section
variable {L:List Lay} {q v z:Int}
theorem snocI (h:LR L) (hx:AllI [q,v,z]):AllI (flat (L++[⟨q,v,z⟩])):=flat_I fun x hx'=>by
 rcases List.mem_append.1 hx' with h'|h'
 ·exact lay_I (h.ok x h')
 ·rw[List.mem_singleton]at h';subst h';exact hx
theorem ck_d09In (h:LR L) (hx:AllI [q,v,z]):Ck 39 [.lit 3 (laysR L),Lay.av ⟨q,v,z⟩] (.tup [.lit 3 (laysR (inS L ⟨q,v,z⟩).1),.i (inS L ⟨q,v,z⟩).2]):=by
 have hl:=h.len
 have hq:=hx q (by simp);have hv:=hx v (by simp)
 have:=hq.lo;have:=hq.hi;have:=hv.lo;have:=hv.hi
 have hr:=ck_d09Right (snocI h hx) (by simp;omega)
 unfold inS
 rcases(by omega:q≤0∨(1≤q∧v≤-1)∨(1≤q∧0≤v))with h1|h1|h1
 ·rw[if_pos (.inl (by simp only;omega))];exact CK.way _ (evS { vars:=[(0,30),(-9223372036854775808,0),w64],lens:=[(0,[([0],1)])] } [(L.length:Int),q,v] [.int .i64 z] [laysR L] BndL.nil.c.c.c FctL.nil LenL.nil.c .nil) [.q 3 0,(.agg [.v 1,.v 2,.o 0])] (.tup [.q 3 0,.i 1]) (by decide +kernel) kn
 ·rw[if_pos (.inr (by simp only;omega))];exact CK.way _ (evS { vars:=[(0,30),(1,9223372036854775807),(-9223372036854775808,-1)],lens:=[(0,[([0],1)])] } [(L.length:Int),q,v] [.int .i64 z] [laysR L] BndL.nil.c.c.c FctL.nil LenL.nil.c .nil) [.q 3 0,(.agg [.v 1,.v 2,.o 0])] (.tup [.q 3 0,.i 1]) (by decide +kernel) kn
 rw[if_neg (by simp only;omega)]
 by_cases h2:30≤L.length
 ·rw[if_pos h2];exact CK.way _ (evS { vars:=[(30,30),(1,9223372036854775807),(0,9223372036854775807)],lens:=[(0,[([0],1)])] } [(L.length:Int),q,v] [.int .i64 z] [laysR L] BndL.nil.c.c.c FctL.nil LenL.nil.c .nil) [.q 3 0,(.agg [.v 1,.v 2,.o 0])] (.tup [.q 3 0,.i 6]) (by decide +kernel) kn
 rw[if_neg h2]
 generalize rightL (L++[⟨q,v,z⟩])=b at *
 rw[lays_snoc]at hr
 cases b with
 |false=>rw[if_neg (by simp)];exact CK.way _ (evS { vars:=[(0,29),(1,9223372036854775807),(0,9223372036854775807)],lens:=[(0,[([0],1)])],extV:=[(53,[(.seq 3 0 [] [[.v 1,.v 2,.o 0]])],(.c (.bool false)))] } [(L.length:Int),q,v] [.int .i64 z] [laysR L] BndL.nil.c.c.c FctL.nil LenL.nil.c .nil) [.q 3 0,(.agg [.v 1,.v 2,.o 0])] (.tup [.q 3 0,.i 2]) (by decide +kernel) (kc hr kn)
 |true=>rw[if_pos rfl];simp only[lays_snoc];exact CK.way _ (evS { vars:=[(0,29),(1,9223372036854775807),(0,9223372036854775807)],lens:=[(0,[([0],1)])],extV:=[(53,[(.seq 3 0 [] [[.v 1,.v 2,.o 0]])],(.c (.bool true)))] } [(L.length:Int),q,v] [.int .i64 z] [laysR L] BndL.nil.c.c.c FctL.nil LenL.nil.c .nil) [.q 3 0,(.agg [.v 1,.v 2,.o 0])] (.tup [(.seq 3 0 [] [[.v 1,.v 2,.o 0]]),.i 0]) (by decide +kernel) (kc hr kn)
theorem ck_d10In (h:LR L) (h1:L.length≤1) (hx:AllI [q,v,z]):Ck 40 [.lit 3 (laysR L),Lay.av ⟨q,v,z⟩] (.tup [.lit 3 (laysR (inM L ⟨q,v,z⟩).1),.i (inM L ⟨q,v,z⟩).2]):=by
 have hl:=h.len
 have hq:=hx q (by simp);have hv:=hx v (by simp)
 have:=hq.lo;have:=hq.hi;have:=hv.lo;have:=hv.hi
 have hr:=ck_d09Right (snocI h hx) (by simp;omega)
 have ht:=ck_d09Total (snocI h hx)
 unfold inM inS
 rcases(by omega:q≤0∨(1≤q∧v≤-1)∨(1≤q∧0≤v))with h1|h1|h1
 ·simp only[if_pos (show q<1∨v<0 from .inl (by omega))];exact CK.way _ (evS { vars:=[(0,30),(-9223372036854775808,0),w64],lens:=[(0,[([0],1)])] } [(L.length:Int),q,v] [.int .i64 z] [laysR L] BndL.nil.c.c.c FctL.nil LenL.nil.c .nil) [.q 3 0,(.agg [.v 1,.v 2,.o 0])] (.tup [.q 3 0,.i 1]) (by decide +kernel) kn
 ·simp only[if_pos (show q<1∨v<0 from .inr (by omega))];exact CK.way _ (evS { vars:=[(0,30),(1,9223372036854775807),(-9223372036854775808,-1)],lens:=[(0,[([0],1)])] } [(L.length:Int),q,v] [.int .i64 z] [laysR L] BndL.nil.c.c.c FctL.nil LenL.nil.c .nil) [.q 3 0,(.agg [.v 1,.v 2,.o 0])] (.tup [.q 3 0,.i 1]) (by decide +kernel) kn
 simp only[if_neg (show ¬(q<1∨v<0)by omega),if_neg (show ¬ 30≤L.length by omega)]
 rw[lays_snoc]at hr ht
 by_cases hb:rightL (L++[⟨q,v,z⟩])=true
 ·rw[(LR.of hb).tot.2]at ht
  rw[hb]at hr
  simp only[hb,if_true]
  generalize tot (L++[⟨q,v,z⟩])=t at *
  obtain⟨t0,t1,t2⟩:=t
  exact CK.way _ (evS { vars:=[(0,30),(1,9223372036854775807),(0,9223372036854775807)],lens:=[(0,[([0],1)])],extV:=[(53,[(.seq 3 0 [] [[.v 1,.v 2,.o 0]])],(.c (.bool true))),(11,[(.seq 3 0 [] [[.v 1,.v 2,.o 0]])],(.tup [(.agg [.o 1,.o 2,.o 3]),.i 0]))] } [(L.length:Int),q,v] [.int .i64 z,.int .i64 t0,.int .i64 t1,.int .i64 t2] [laysR L] BndL.nil.c.c.c FctL.nil LenL.nil.c .nil) [.q 3 0,(.agg [.v 1,.v 2,.o 0])] (.tup [(.lit 3 [[.o 1,.o 2,.o 3]]),.i 0]) (by decide +kernel) (kc hr (kc ht kn))
 ·have hb:rightL (L++[⟨q,v,z⟩])=false:=by simpa using hb
  rw[hb]at hr
  simp only[hb,Bool.false_eq_true,if_false]
  exact CK.way _ (evS { vars:=[(0,30),(1,9223372036854775807),(0,9223372036854775807)],lens:=[(0,[([0],1)])],extV:=[(53,[(.seq 3 0 [] [[.v 1,.v 2,.o 0]])],(.c (.bool false)))] } [(L.length:Int),q,v] [.int .i64 z] [laysR L] BndL.nil.c.c.c FctL.nil LenL.nil.c .nil) [.q 3 0,(.agg [.v 1,.v 2,.o 0])] (.tup [.q 3 0,.i 2]) (by decide +kernel) (kc hr kn)
theorem ck_d01MulDiv {a b c:Int} (ha:I64 a) (hb:I64 b) (hc:I64 c):Ck 66 [.i a,.i b,.i c] (.tup [.i (mdQ a b c),.i (mdR a b c),.i (mdE a b c)]) :=
 ⟨cl_cons (.c _) (cl_cons (.c _) (cl_cons (.c _) cl_nil)),.tup _ (cl_cons (.c _) (cl_cons (.c _) (cl_cons (.c _) cl_nil))),@kn_ct bk0 ev0 _ [.int .i64 a,.int .i64 b,.int .i64 c] [.int .i64 (mdQ a b c),.int .i64 (mdR a b c),.int .i64 (mdE a b c)] (fun w=>(ref_MulDiv a b c w ha hb hc).mono fun e w' h=>⟨h.1,h.2▸Below.refl _ _⟩) (by simp)⟩
theorem ck_d01Part {v q n:Int} (hv:I64 v) (hq:I64 q) (hn:I64 n):Ck 52 [.i v,.i q,.i n] (.i (partS v q n)) :=
 ⟨cl_cons (.c _) (cl_cons (.c _) (cl_cons (.c _) cl_nil)),.c _,@kn_c bk0 ev0 _ [.int .i64 v,.int .i64 q,.int .i64 n] _ fun w=>(ref_Part v q n w hv hq hn).mono fun e w' h=>⟨h.1,h.2▸Below.refl _ _⟩⟩
variable {p0 p1 p2 c:Int}
theorem ck_d13In {m:Int} (hm:1≤m∧m≤4) (h:LR L) (h1:m=1∨L.length≤1) (hx:AllI [q,v,z]) (hc:0≤c∧c≤1073741824) :
  Ck 20 [.i m,.i c,PoolD.av ⟨L,p0,p1,p2⟩,Lay.av ⟨q,v,z⟩] (.tup [PoolD.av ⟨(poolInS m c L ⟨q,v,z⟩).1,p0,p1,p2⟩,.i (poolInS m c L ⟨q,v,z⟩).2.1,.i (poolInS m c L ⟨q,v,z⟩).2.2]):=by
 have hl:=h.len
 have hq:=hx q (by simp);have hv:=hx v (by simp)
 have:=hq.lo;have:=hq.hi;have:=hv.lo;have:=hv.hi
 have er {x:Lay}:=@inS_err1 L x
 have no {x:Lay}:=@inS_no L x
 have nm {x:Lay}:=@inM_no L x
 have em {x:Lay}:0≤(inM L x).2∧(inM L x).2≤20:=by unfold inM;split;exact⟨by simp,by simp⟩;exact inS_err1
 have ln {x:Lay}:=(inS_LR (x:=x) h).len
 have lm {x:Lay}:=(inM_LR (x:=x) h).len
 have hm4:m=1∨m=2∨m=3∨m=4:=by omega
 unfold poolInS
 rcases hm4 with rfl|rfl|rfl|rfl
 ·have hi:=ck_d09In h hx
  simp only[if_true]
  have er:=er (x:=⟨q,v,z⟩);have no:=no (x:=⟨q,v,z⟩);have ln:=ln (x:=⟨q,v,z⟩)
  generalize inS L ⟨q,v,z⟩=r at *
  obtain⟨L2,f⟩:=r
  simp only at *
  by_cases h0:f=0
  ·subst h0;exact CK.way _ (evS { vars:=[(0,30),(0,30)],lens:=[(0,[([0],1)]),(1,[([1],1)])],extV:=[(39,[.q 3 0,(.agg [.o 3,.o 4,.o 6])],(.tup [.q 3 1,.i 0]))] } [(L.length:Int),(L2.length:Int)] [.int .i64 p0,.int .i64 p1,.int .i64 p2,.int .i64 q,.int .i64 v,.int .i64 c,.int .i64 z] [laysR L,laysR L2] BndL.nil.c.c FctL.nil LenL.nil.c.c .nil) [.i 1,.o 5,(.agg [.q 3 0,.o 0,.o 1,.o 2]),(.agg [.o 3,.o 4,.o 6])] (.tup [(.agg [.q 3 1,.o 0,.o 1,.o 2]),.i 0,.i 0]) (by decide +kernel) (kc hi kn)
  ·rw[no h0];exact CK.way _ (evS { vars:=[(0,30),(0,30),(1,20)],lens:=[(0,[([0],1)]),(1,[([1],1)])],extV:=[(39,[.q 3 0,(.agg [.o 3,.o 4,.o 6])],(.tup [.q 3 1,.v 2]))] } [(L.length:Int),(L2.length:Int),f] [.int .i64 p0,.int .i64 p1,.int .i64 p2,.int .i64 q,.int .i64 v,.int .i64 c,.int .i64 z] [laysR L,laysR L2] BndL.nil.c.c.c FctL.nil LenL.nil.c.c .nil) [.i 1,.o 5,(.agg [.q 3 0,.o 0,.o 1,.o 2]),(.agg [.o 3,.o 4,.o 6])] (.tup [(.agg [.q 3 0,.o 0,.o 1,.o 2]),.i 0,.v 2]) (by decide +kernel) (kc hi kn)
 all_goals (have h1:L.length≤1:=by omega)
 ·have hi:=ck_d10In h h1 hx
  simp only[show ¬((2:Int)=1)by decide,if_false,if_true]
  have er:=em (x:=⟨q,v,z⟩);have no:=nm (x:=⟨q,v,z⟩);have ln:=lm (x:=⟨q,v,z⟩)
  generalize inM L ⟨q,v,z⟩=r at *
  obtain⟨L2,f⟩:=r
  simp only at *
  by_cases h0:f=0
  ·subst h0;exact CK.way _ (evS { vars:=[(0,30),(0,30)],lens:=[(0,[([0],1)]),(1,[([1],1)])],extV:=[(40,[.q 3 0,(.agg [.o 3,.o 4,.o 6])],(.tup [.q 3 1,.i 0]))] } [(L.length:Int),(L2.length:Int)] [.int .i64 p0,.int .i64 p1,.int .i64 p2,.int .i64 q,.int .i64 v,.int .i64 c,.int .i64 z] [laysR L,laysR L2] BndL.nil.c.c FctL.nil LenL.nil.c.c .nil) [.i 2,.o 5,(.agg [.q 3 0,.o 0,.o 1,.o 2]),(.agg [.o 3,.o 4,.o 6])] (.tup [(.agg [.q 3 1,.o 0,.o 1,.o 2]),.i 0,.i 0]) (by decide +kernel) (kc hi kn)
  ·rw[no h0];exact CK.way _ (evS { vars:=[(0,30),(0,30),(1,20)],lens:=[(0,[([0],1)]),(1,[([1],1)])],extV:=[(40,[.q 3 0,(.agg [.o 3,.o 4,.o 6])],(.tup [.q 3 1,.v 2]))] } [(L.length:Int),(L2.length:Int),f] [.int .i64 p0,.int .i64 p1,.int .i64 p2,.int .i64 q,.int .i64 v,.int .i64 c,.int .i64 z] [laysR L,laysR L2] BndL.nil.c.c.c FctL.nil LenL.nil.c.c .nil) [.i 2,.o 5,(.agg [.q 3 0,.o 0,.o 1,.o 2]),(.agg [.o 3,.o 4,.o 6])] (.tup [(.agg [.q 3 0,.o 0,.o 1,.o 2]),.i 0,.v 2]) (by decide +kernel) (kc hi kn)
 ·have hi:=ck_d10In h h1 hx
  simp only[show ¬((3:Int)=1)by decide,show ¬((3:Int)=2)by decide,if_false,if_true]
  have er:=em (x:=⟨q,v,z⟩);have no:=nm (x:=⟨q,v,z⟩);have ln:=lm (x:=⟨q,v,z⟩)
  generalize inM L ⟨q,v,z⟩=r at *
  obtain⟨L2,f⟩:=r
  simp only at *
  by_cases h0:f=0
  ·subst h0;exact CK.way _ (evS { vars:=[(0,30),(0,30)],lens:=[(0,[([0],1)]),(1,[([1],1)])],extV:=[(40,[.q 3 0,(.agg [.o 3,.o 4,.o 6])],(.tup [.q 3 1,.i 0]))] } [(L.length:Int),(L2.length:Int)] [.int .i64 p0,.int .i64 p1,.int .i64 p2,.int .i64 q,.int .i64 v,.int .i64 c,.int .i64 z] [laysR L,laysR L2] BndL.nil.c.c FctL.nil LenL.nil.c.c .nil) [.i 3,.o 5,(.agg [.q 3 0,.o 0,.o 1,.o 2]),(.agg [.o 3,.o 4,.o 6])] (.tup [(.agg [.q 3 1,.o 0,.o 1,.o 2]),.i 0,.i 0]) (by decide +kernel) (kc hi kn)
  ·rw[no h0];exact CK.way _ (evS { vars:=[(0,30),(0,30),(1,20)],lens:=[(0,[([0],1)]),(1,[([1],1)])],extV:=[(40,[.q 3 0,(.agg [.o 3,.o 4,.o 6])],(.tup [.q 3 1,.v 2]))] } [(L.length:Int),(L2.length:Int),f] [.int .i64 p0,.int .i64 p1,.int .i64 p2,.int .i64 q,.int .i64 v,.int .i64 c,.int .i64 z] [laysR L,laysR L2] BndL.nil.c.c.c FctL.nil LenL.nil.c.c .nil) [.i 3,.o 5,(.agg [.q 3 0,.o 0,.o 1,.o 2]),(.agg [.o 3,.o 4,.o 6])] (.tup [(.agg [.q 3 0,.o 0,.o 1,.o 2]),.i 0,.v 2]) (by decide +kernel) (kc hi kn)
 ·simp only[show ¬((4:Int)=1)by decide,show ¬((4:Int)=2)by decide,show ¬((4:Int)=3)by decide,if_false,if_true]
  have hf:fitsR c=true:=fitsR_iff.2 hc
  unfold inC
  rcases(by omega:q≤0∨(1≤q∧v≤-1)∨(1≤q∧0≤v))with g1|g1|g1
  ·simp only[if_pos (show fitsR c=false∨q<1∨v<0 from .inr (.inl (by omega)))];exact CK.way _ (evS { vars:=[(0,30),(-9223372036854775808,0),w64,(0,1073741824)],lens:=[(0,[([0],1)])] } [(L.length:Int),q,v,c] [.int .i64 p0,.int .i64 p1,.int .i64 p2,.int .i64 z] [laysR L] BndL.nil.c.c.c.c FctL.nil LenL.nil.c .nil) [.i 4,.v 3,(.agg [.q 3 0,.o 0,.o 1,.o 2]),(.agg [.v 1,.v 2,.o 3])] (.tup [(.agg [.q 3 0,.o 0,.o 1,.o 2]),.i 0,.i 1]) (by decide +kernel) kn
  ·simp only[if_pos (show fitsR c=false∨q<1∨v<0 from .inr (.inr (by omega)))];exact CK.way _ (evS { vars:=[(0,30),(1,9223372036854775807),(-9223372036854775808,-1),(0,1073741824)],lens:=[(0,[([0],1)])] } [(L.length:Int),q,v,c] [.int .i64 p0,.int .i64 p1,.int .i64 p2,.int .i64 z] [laysR L] BndL.nil.c.c.c.c FctL.nil LenL.nil.c .nil) [.i 4,.v 3,(.agg [.q 3 0,.o 0,.o 1,.o 2]),(.agg [.v 1,.v 2,.o 3])] (.tup [(.agg [.q 3 0,.o 0,.o 1,.o 2]),.i 0,.i 1]) (by decide +kernel) kn
  simp only[if_neg (show ¬(fitsR c=false∨q<1∨v<0)by rw[hf];rintro(h|h|h)<;>first|cases h|omega)]
  have hm:=ck_d01MulDiv (a:=q) (b:=c) (c:=1) hq ⟨by omega,by omega⟩ ⟨by omega,by omega⟩
  obtain⟨o0,o1,o2⟩:=of_bd (q:=q) hf
  rw[show mdQ q c 1=ofV c q by unfold ofV;rw[show max q 0=q by omega],show mdE q c 1=ofE c q by unfold ofE;rw[show max q 0=q by omega]]at hm
  generalize mdR q c 1=r at hm
  generalize ofV c q=o at *
  generalize ofE c q=f at *
  rcases o2 with rfl|rfl
  rotate_left
  ·simp only[if_pos (show(2:Int)≠0∨288230376151711744<v from .inl (by decide))]
   obtain⟨f,hf⟩:∃f:Int,f=2:=⟨_,rfl⟩
   rw[←hf]at hm
   exact CK.way _ (evS { vars:=[(0,30),(1,9223372036854775807),(0,9223372036854775807),(0,1073741824),(0,288230376151711744),(1,20)],lens:=[(0,[([0],1)])],extV:=[(66,[.v 1,.v 3,.i 1],(.tup [.v 4,.o 4,.v 5]))] } [(L.length:Int),q,v,c,o,f] [.int .i64 p0,.int .i64 p1,.int .i64 p2,.int .i64 z,.int .i64 r] [laysR L] BndL.nil.c.c.c.c.c.c FctL.nil LenL.nil.c .nil) [.i 4,.v 3,(.agg [.q 3 0,.o 0,.o 1,.o 2]),(.agg [.v 1,.v 2,.o 3])] (.tup [(.agg [.q 3 0,.o 0,.o 1,.o 2]),.i 0,.i 2]) (by decide +kernel) (kc hm kn)
  by_cases g2:288230376151711744<v
  ·simp only[if_pos (show(0:Int)≠0∨288230376151711744<v from .inr g2)];exact CK.way _ (evS { vars:=[(0,30),(1,9223372036854775807),(288230376151711745,9223372036854775807),(0,1073741824),(0,288230376151711744)],lens:=[(0,[([0],1)])],extV:=[(66,[.v 1,.v 3,.i 1],(.tup [.v 4,.o 4,.i 0]))] } [(L.length:Int),q,v,c,o] [.int .i64 p0,.int .i64 p1,.int .i64 p2,.int .i64 z,.int .i64 r] [laysR L] BndL.nil.c.c.c.c.c FctL.nil LenL.nil.c .nil) [.i 4,.v 3,(.agg [.q 3 0,.o 0,.o 1,.o 2]),(.agg [.v 1,.v 2,.o 3])] (.tup [(.agg [.q 3 0,.o 0,.o 1,.o 2]),.i 0,.i 2]) (by decide +kernel) (kc hm kn)
  simp only[if_neg (show ¬((0:Int)≠0∨288230376151711744<v)by omega)]
  have hi:=ck_d10In (q:=q) (v:=o) (z:=z) h h1 (by
   intro y hy
   simp only[List.mem_cons,List.not_mem_nil,or_false]at hy
   rcases hy with rfl|rfl|rfl
   ·exact hq
   ·exact⟨by omega,by omega⟩
   ·exact hx y (by simp))
  have er:=em (x:=⟨q,o,z⟩);have no:=nm (x:=⟨q,o,z⟩);have ln:=lm (x:=⟨q,o,z⟩)
  generalize inM L ⟨q,o,z⟩=r at *
  obtain⟨L2,f⟩:=r
  simp only at *
  by_cases h0:f=0
  ·subst h0;simp only[if_true];exact CK.way _ (evS { vars:=[(0,30),(1,9223372036854775807),(0,288230376151711744),(0,1073741824),(0,288230376151711744),(0,30)],lens:=[(0,[([0],1)]),(1,[([5],1)])],extV:=[(66,[.v 1,.v 3,.i 1],(.tup [.v 4,.o 4,.i 0])),(40,[.q 3 0,(.agg [.v 1,.v 4,.o 3])],(.tup [.q 3 1,.i 0]))] } [(L.length:Int),q,v,c,o,(L2.length:Int)] [.int .i64 p0,.int .i64 p1,.int .i64 p2,.int .i64 z,.int .i64 r] [laysR L,laysR L2] BndL.nil.c.c.c.c.c.c FctL.nil LenL.nil.c.c .nil) [.i 4,.v 3,(.agg [.q 3 0,.o 0,.o 1,.o 2]),(.agg [.v 1,.v 2,.o 3])] (.tup [(.agg [.q 3 1,.o 0,.o 1,.o 2]),(.e [([2],1),([4],(-1))]),.i 0]) (by decide +kernel) (kc hm (kc hi kn))
  ·simp only[if_neg h0];exact CK.way _ (evS { vars:=[(0,30),(1,9223372036854775807),(0,288230376151711744),(0,1073741824),(0,288230376151711744),(0,30),(1,20)],lens:=[(0,[([0],1)]),(1,[([5],1)])],extV:=[(66,[.v 1,.v 3,.i 1],(.tup [.v 4,.o 4,.i 0])),(40,[.q 3 0,(.agg [.v 1,.v 4,.o 3])],(.tup [.q 3 1,.v 6]))] } [(L.length:Int),q,v,c,o,(L2.length:Int),f] [.int .i64 p0,.int .i64 p1,.int .i64 p2,.int .i64 z,.int .i64 r] [laysR L,laysR L2] BndL.nil.c.c.c.c.c.c.c FctL.nil LenL.nil.c.c .nil) [.i 4,.v 3,(.agg [.q 3 0,.o 0,.o 1,.o 2]),(.agg [.v 1,.v 2,.o 3])] (.tup [(.agg [.q 3 0,.o 0,.o 1,.o 2]),.i 0,.v 6]) (by decide +kernel) (kc hm (kc hi kn))
theorem ck_d13Out {m kind:Int} (hm:1≤m∧m≤4) (h:LR L) (h1:m=1∨L.length≤1) (hd:PndOk ⟨p0,p1,p2⟩) (hq:I64 q) (hk:0≤kind∧kind≤3) (hc:0≤c∧c≤1073741824) :
  Ck 22 [.i m,.i c,PoolD.av ⟨L,p0,p1,p2⟩,.i kind,.i q] (.tup [PoolD.av ⟨(poolOutS m c L ⟨p0,p1,p2⟩ kind q).1,(poolOutS m c L ⟨p0,p1,p2⟩ kind q).2.1.a,(poolOutS m c L ⟨p0,p1,p2⟩ kind q).2.1.b,(poolOutS m c L ⟨p0,p1,p2⟩ kind q).2.1.c⟩,(poolOutS m c L ⟨p0,p1,p2⟩ kind q).2.2.1.av,.c (.bool (poolOutS m c L ⟨p0,p1,p2⟩ kind q).2.2.2.1),.i (poolOutS m c L ⟨p0,p1,p2⟩ kind q).2.2.2.2]):=by
 have hl:=h.len
 have:=hq.lo;have:=hq.hi
 obtain⟨a0,b0,c0,a1,b1,c1⟩:=hd
 simp only at a0 b0 c0 a1 b1 c1
 have ho:=ck_d09Out h hq
 have F:=outS_facts h (q:=q)
 have Fv:=outS_val h (q:=q)
 have Fi:=outS_I h (q:=q)
 have Fl:=(outS_LR (q:=q) h).len
 have Fn:=outS_len (l:=L) (q:=q)
 have Fp:(-288230376151711744≤ps (outS L q).1∧ps (outS L q).1≤288230376151711744)∧0≤vs (outS L q).1:=by
  have k:=outS_LR (q:=q) h
  have:=ps_le (outS L q).1;have:=k.p;have:=(qs_pos k.ok).2
  omega
 have hT:=ck_d09Total (flat_I fun x hx=>lay_I (h.ok x hx))
 rw[h.tot.1,h.tot.2]at hT
 obtain⟨tb0,tb1,tb2⟩:=h.bds
 have:=qs_pos h.ok;have:=h.q;have:=h.v;have:=h.p;have:=ps_le L
 have hf:freeP L ⟨p0,p1,p2⟩=qs L-p0-p1-p2:=rfl
 have hm4:m=1∨m=2∨m=3∨m=4:=by omega
 unfold poolOutS
 rw[if_neg (by omega),if_neg (by omega)]
 rcases hm4 with rfl|rfl|rfl|rfl
 ·rw[if_neg (by omega)]
  simp only[methOut,show ¬((1:Int)=3)by decide,show ¬((1:Int)=4)by decide,if_false]
  generalize outS L q=r at *
  obtain⟨L2,⟨xq,xv,xp⟩,f⟩:=r
  simp only at *
  rcases F with⟨rfl,-⟩|⟨hf,hL,hz⟩
  ·exact CK.way _ (evS { vars:=[(0,30),w64,(0,3),(0,30),(0,288230376151711744),(0,288230376151711744),(-576460752303423488,576460752303423488)],lens:=[(0,[([0],1)]),(1,[([3],1)])],extV:=[(44,[.q 3 0,.v 1],(.tup [.q 3 1,(.agg [.v 4,.v 5,.v 6]),.i 0]))] } [(L.length:Int),q,kind,(L2.length:Int),xq,xv,xp] [.int .i64 p0,.int .i64 p1,.int .i64 p2,.int .i64 c] [laysR L,laysR L2] BndL.nil.c.c.c.c.c.c.c FctL.nil LenL.nil.c.c .nil) [.i 1,.o 3,(.agg [.q 3 0,.o 0,.o 1,.o 2]),.v 2,.v 1] (.tup [(.agg [.q 3 1,.o 0,.o 1,.o 2]),(.agg [.v 4,.v 5,.v 6]),(.c (.bool false)),.i 0]) (by decide +kernel) (kc ho kn)
  ·simp only[Lay.zero,Lay.mk.injEq]at hz;obtain⟨z1,z2,z3⟩:=hz;rw[hL,z1,z2,z3];exact CK.way _ (evS { vars:=[(0,30),w64,(0,3),(0,30),(0,288230376151711744),(0,288230376151711744),(-576460752303423488,576460752303423488),(1,20)],lens:=[(0,[([0],1)]),(1,[([3],1)])],extV:=[(44,[.q 3 0,.v 1],(.tup [.q 3 1,(.agg [.v 4,.v 5,.v 6]),.v 7]))] } [(L.length:Int),q,kind,(L2.length:Int),xq,xv,xp,f] [.int .i64 p0,.int .i64 p1,.int .i64 p2,.int .i64 c] [laysR L,laysR L2] BndL.nil.c.c.c.c.c.c.c.c FctL.nil LenL.nil.c.c .nil) [.i 1,.o 3,(.agg [.q 3 0,.o 0,.o 1,.o 2]),.v 2,.v 1] (.tup [(.agg [.q 3 0,.o 0,.o 1,.o 2]),(.agg [.i 0,.i 0,.i 0]),(.c (.bool false)),.v 7]) (by decide +kernel) (kc ho kn)
 ·rw[if_neg (by omega)]
  simp only[methOut,show ¬((2:Int)=3)by decide,show ¬((2:Int)=4)by decide,if_false]
  generalize outS L q=r at *
  obtain⟨L2,⟨xq,xv,xp⟩,f⟩:=r
  simp only at *
  rcases F with⟨rfl,-⟩|⟨hf,hL,hz⟩
  ·exact CK.way _ (evS { vars:=[(0,30),w64,(0,3),(0,30),(0,288230376151711744),(0,288230376151711744),(-576460752303423488,576460752303423488)],lens:=[(0,[([0],1)]),(1,[([3],1)])],extV:=[(44,[.q 3 0,.v 1],(.tup [.q 3 1,(.agg [.v 4,.v 5,.v 6]),.i 0]))] } [(L.length:Int),q,kind,(L2.length:Int),xq,xv,xp] [.int .i64 p0,.int .i64 p1,.int .i64 p2,.int .i64 c] [laysR L,laysR L2] BndL.nil.c.c.c.c.c.c.c FctL.nil LenL.nil.c.c .nil) [.i 2,.o 3,(.agg [.q 3 0,.o 0,.o 1,.o 2]),.v 2,.v 1] (.tup [(.agg [.q 3 1,.o 0,.o 1,.o 2]),(.agg [.v 4,.v 5,.v 6]),(.c (.bool false)),.i 0]) (by decide +kernel) (kc ho kn)
  ·simp only[Lay.zero,Lay.mk.injEq]at hz;obtain⟨z1,z2,z3⟩:=hz;rw[hL,z1,z2,z3];exact CK.way _ (evS { vars:=[(0,30),w64,(0,3),(0,30),(0,288230376151711744),(0,288230376151711744),(-576460752303423488,576460752303423488),(1,20)],lens:=[(0,[([0],1)]),(1,[([3],1)])],extV:=[(44,[.q 3 0,.v 1],(.tup [.q 3 1,(.agg [.v 4,.v 5,.v 6]),.v 7]))] } [(L.length:Int),q,kind,(L2.length:Int),xq,xv,xp,f] [.int .i64 p0,.int .i64 p1,.int .i64 p2,.int .i64 c] [laysR L,laysR L2] BndL.nil.c.c.c.c.c.c.c.c FctL.nil LenL.nil.c.c .nil) [.i 2,.o 3,(.agg [.q 3 0,.o 0,.o 1,.o 2]),.v 2,.v 1] (.tup [(.agg [.q 3 0,.o 0,.o 1,.o 2]),(.agg [.i 0,.i 0,.i 0]),(.c (.bool false)),.v 7]) (by decide +kernel) (kc ho kn)
 ·have h3:L.length≤1:=by omega
  obtain⟨tq,htq⟩:∃t,t=qs L:=⟨_,rfl⟩
  obtain⟨tv,htv⟩:∃t,t=vs L:=⟨_,rfl⟩
  obtain⟨tp,htp⟩:∃t,t=ps L:=⟨_,rfl⟩
  have ht:=hT
  rw[←htq,←htv,←htp]at ht
  have hk4:kind=0∨kind=1∨kind=2∨kind=3:=by omega
  by_cases hq1:q<1
  ·rcases hk4 with rfl|rfl|rfl|rfl
   ·simp only[waitS,if_pos (show(3:Int)=3∧(0:Int)≠3 by decide),if_pos (show(0:Int)<0∨3≤(0:Int)∨q<1 by omega)];exact CK.way _ (evS { vars:=[(0,30),(-9223372036854775808,0)],lens:=[(0,[([0],1)])] } [(L.length:Int),q] [.int .i64 p0,.int .i64 p1,.int .i64 p2,.int .i64 c] [laysR L] BndL.nil.c.c FctL.nil LenL.nil.c .nil) [.i 3,.o 3,(.agg [.q 3 0,.o 0,.o 1,.o 2]),.i 0,.v 1] (.tup [(.agg [.q 3 0,.o 0,.o 1,.o 2]),(.agg [.i 0,.i 0,.i 0]),(.c (.bool false)),.i 1]) (by decide +kernel) kn
   ·simp only[waitS,if_pos (show(3:Int)=3∧(1:Int)≠3 by decide),if_pos (show(1:Int)<0∨3≤(1:Int)∨q<1 by omega)];exact CK.way _ (evS { vars:=[(0,30),(-9223372036854775808,0)],lens:=[(0,[([0],1)])] } [(L.length:Int),q] [.int .i64 p0,.int .i64 p1,.int .i64 p2,.int .i64 c] [laysR L] BndL.nil.c.c FctL.nil LenL.nil.c .nil) [.i 3,.o 3,(.agg [.q 3 0,.o 0,.o 1,.o 2]),.i 1,.v 1] (.tup [(.agg [.q 3 0,.o 0,.o 1,.o 2]),(.agg [.i 0,.i 0,.i 0]),(.c (.bool false)),.i 1]) (by decide +kernel) kn
   ·simp only[waitS,if_pos (show(3:Int)=3∧(2:Int)≠3 by decide),if_pos (show(2:Int)<0∨3≤(2:Int)∨q<1 by omega)];exact CK.way _ (evS { vars:=[(0,30),(-9223372036854775808,0)],lens:=[(0,[([0],1)])] } [(L.length:Int),q] [.int .i64 p0,.int .i64 p1,.int .i64 p2,.int .i64 c] [laysR L] BndL.nil.c.c FctL.nil LenL.nil.c .nil) [.i 3,.o 3,(.agg [.q 3 0,.o 0,.o 1,.o 2]),.i 2,.v 1] (.tup [(.agg [.q 3 0,.o 0,.o 1,.o 2]),(.agg [.i 0,.i 0,.i 0]),(.c (.bool false)),.i 1]) (by decide +kernel) kn
   ·simp only[methOut,outP,if_neg (show ¬((3:Int)=3∧(3:Int)≠3)by decide),if_true,if_pos hq1];exact CK.way _ (evS { vars:=[(0,30),(-9223372036854775808,0)],lens:=[(0,[([0],1)])] } [(L.length:Int),q] [.int .i64 p0,.int .i64 p1,.int .i64 p2,.int .i64 c] [laysR L] BndL.nil.c.c FctL.nil LenL.nil.c .nil) [.i 3,.o 3,(.agg [.q 3 0,.o 0,.o 1,.o 2]),.i 3,.v 1] (.tup [(.agg [.q 3 0,.o 0,.o 1,.o 2]),(.agg [.i 0,.i 0,.i 0]),(.c (.bool false)),.i 1]) (by decide +kernel) kn
  by_cases hq2:qs L-p0-p1-p2<q
  ·rcases hk4 with rfl|rfl|rfl|rfl
   ·simp only[waitS,hf,if_pos (show(3:Int)=3∧(0:Int)≠3 by decide),if_neg (show ¬((0:Int)<0∨3≤(0:Int)∨q<1)by omega),if_pos hq2];exact CK.way _ (evS { vars:=[(0,30),(0,288230376151711744),(0,288230376151711744),(0,288230376151711744),(0,288230376151711744),(0,288230376151711744),w58,(1,9223372036854775807)],facts:=[([([1],-1),([2],-1),([3],-1),([4],1),([7],-1)],-18446744073709551616,-1)],lens:=[(0,[([0],1)])],extV:=[(11,[.q 3 0],(.tup [(.agg [.v 4,.v 5,.v 6]),.i 0]))] } [(L.length:Int),p0,p1,p2,tq,tv,tp,q] [.int .i64 c] [laysR L] BndL.nil.c.c.c.c.c.c.c.c FctL.nil.c LenL.nil.c .nil) [.i 3,.o 0,(.agg [.q 3 0,.v 1,.v 2,.v 3]),.i 0,.v 7] (.tup [(.agg [.q 3 0,.v 1,.v 2,.v 3]),(.agg [.i 0,.i 0,.i 0]),(.c (.bool false)),.i 5]) (by decide +kernel) (kc ht kn)
   ·simp only[waitS,hf,if_pos (show(3:Int)=3∧(1:Int)≠3 by decide),if_neg (show ¬((1:Int)<0∨3≤(1:Int)∨q<1)by omega),if_pos hq2];exact CK.way _ (evS { vars:=[(0,30),(0,288230376151711744),(0,288230376151711744),(0,288230376151711744),(0,288230376151711744),(0,288230376151711744),w58,(1,9223372036854775807)],facts:=[([([1],-1),([2],-1),([3],-1),([4],1),([7],-1)],-18446744073709551616,-1)],lens:=[(0,[([0],1)])],extV:=[(11,[.q 3 0],(.tup [(.agg [.v 4,.v 5,.v 6]),.i 0]))] } [(L.length:Int),p0,p1,p2,tq,tv,tp,q] [.int .i64 c] [laysR L] BndL.nil.c.c.c.c.c.c.c.c FctL.nil.c LenL.nil.c .nil) [.i 3,.o 0,(.agg [.q 3 0,.v 1,.v 2,.v 3]),.i 1,.v 7] (.tup [(.agg [.q 3 0,.v 1,.v 2,.v 3]),(.agg [.i 0,.i 0,.i 0]),(.c (.bool false)),.i 5]) (by decide +kernel) (kc ht kn)
   ·simp only[waitS,hf,if_pos (show(3:Int)=3∧(2:Int)≠3 by decide),if_neg (show ¬((2:Int)<0∨3≤(2:Int)∨q<1)by omega),if_pos hq2];exact CK.way _ (evS { vars:=[(0,30),(0,288230376151711744),(0,288230376151711744),(0,288230376151711744),(0,288230376151711744),(0,288230376151711744),w58,(1,9223372036854775807)],facts:=[([([1],-1),([2],-1),([3],-1),([4],1),([7],-1)],-18446744073709551616,-1)],lens:=[(0,[([0],1)])],extV:=[(11,[.q 3 0],(.tup [(.agg [.v 4,.v 5,.v 6]),.i 0]))] } [(L.length:Int),p0,p1,p2,tq,tv,tp,q] [.int .i64 c] [laysR L] BndL.nil.c.c.c.c.c.c.c.c FctL.nil.c LenL.nil.c .nil) [.i 3,.o 0,(.agg [.q 3 0,.v 1,.v 2,.v 3]),.i 2,.v 7] (.tup [(.agg [.q 3 0,.v 1,.v 2,.v 3]),(.agg [.i 0,.i 0,.i 0]),(.c (.bool false)),.i 5]) (by decide +kernel) (kc ht kn)
   ·simp only[methOut,outP,hf,if_neg (show ¬((3:Int)=3∧(3:Int)≠3)by decide),if_true,if_neg hq1,if_pos hq2];exact CK.way _ (evS { vars:=[(0,30),(0,288230376151711744),(0,288230376151711744),(0,288230376151711744),(0,288230376151711744),(0,288230376151711744),w58,(1,9223372036854775807)],facts:=[([([1],-1),([2],-1),([3],-1),([4],1),([7],-1)],-18446744073709551616,-1)],lens:=[(0,[([0],1)])],extV:=[(11,[.q 3 0],(.tup [(.agg [.v 4,.v 5,.v 6]),.i 0]))] } [(L.length:Int),p0,p1,p2,tq,tv,tp,q] [.int .i64 c] [laysR L] BndL.nil.c.c.c.c.c.c.c.c FctL.nil.c LenL.nil.c .nil) [.i 3,.o 0,(.agg [.q 3 0,.v 1,.v 2,.v 3]),.i 3,.v 7] (.tup [(.agg [.q 3 0,.v 1,.v 2,.v 3]),(.agg [.i 0,.i 0,.i 0]),(.c (.bool false)),.i 5]) (by decide +kernel) (kc ht kn)
  ·rcases hk4 with rfl|rfl|rfl|rfl
   ·simp only[waitS,Pnd.add,hf,if_pos (show(3:Int)=3∧(0:Int)≠3 by decide),if_neg (show ¬((0:Int)<0∨3≤(0:Int)∨q<1)by omega),if_neg hq2,if_true];exact CK.way _ (evS { vars:=[(0,30),(0,288230376151711744),(0,288230376151711744),(0,288230376151711744),(0,288230376151711744),(0,288230376151711744),w58,(1,288230376151711744)],facts:=[([([1],-1),([2],-1),([3],-1),([4],1),([7],-1)],0,1152921504606846976)],lens:=[(0,[([0],1)])],extV:=[(11,[.q 3 0],(.tup [(.agg [.v 4,.v 5,.v 6]),.i 0]))] } [(L.length:Int),p0,p1,p2,tq,tv,tp,q] [.int .i64 c] [laysR L] BndL.nil.c.c.c.c.c.c.c.c FctL.nil.c LenL.nil.c .nil) [.i 3,.o 0,(.agg [.q 3 0,.v 1,.v 2,.v 3]),.i 0,.v 7] (.tup [(.agg [.q 3 0,(.e [([1],1),([7],1)]),.v 2,.v 3]),(.agg [.i 0,.i 0,.i 0]),(.c (.bool true)),.i 0]) (by decide +kernel) (kc ht kn)
   ·simp only[waitS,Pnd.add,hf,if_pos (show(3:Int)=3∧(1:Int)≠3 by decide),if_neg (show ¬((1:Int)<0∨3≤(1:Int)∨q<1)by omega),if_neg hq2,if_neg (show ¬((1:Int)=0)by decide),if_true];exact CK.way _ (evS { vars:=[(0,30),(0,288230376151711744),(0,288230376151711744),(0,288230376151711744),(0,288230376151711744),(0,288230376151711744),w58,(1,288230376151711744)],facts:=[([([1],-1),([2],-1),([3],-1),([4],1),([7],-1)],0,1152921504606846976)],lens:=[(0,[([0],1)])],extV:=[(11,[.q 3 0],(.tup [(.agg [.v 4,.v 5,.v 6]),.i 0]))] } [(L.length:Int),p0,p1,p2,tq,tv,tp,q] [.int .i64 c] [laysR L] BndL.nil.c.c.c.c.c.c.c.c FctL.nil.c LenL.nil.c .nil) [.i 3,.o 0,(.agg [.q 3 0,.v 1,.v 2,.v 3]),.i 1,.v 7] (.tup [(.agg [.q 3 0,.v 1,(.e [([2],1),([7],1)]),.v 3]),(.agg [.i 0,.i 0,.i 0]),(.c (.bool true)),.i 0]) (by decide +kernel) (kc ht kn)
   ·simp only[waitS,Pnd.add,hf,if_pos (show(3:Int)=3∧(2:Int)≠3 by decide),if_neg (show ¬((2:Int)<0∨3≤(2:Int)∨q<1)by omega),if_neg hq2,if_neg (show ¬((2:Int)=0)by decide),if_neg (show ¬((2:Int)=1)by decide),if_true];exact CK.way _ (evS { vars:=[(0,30),(0,288230376151711744),(0,288230376151711744),(0,288230376151711744),(0,288230376151711744),(0,288230376151711744),w58,(1,288230376151711744)],facts:=[([([1],-1),([2],-1),([3],-1),([4],1),([7],-1)],0,1152921504606846976)],lens:=[(0,[([0],1)])],extV:=[(11,[.q 3 0],(.tup [(.agg [.v 4,.v 5,.v 6]),.i 0]))] } [(L.length:Int),p0,p1,p2,tq,tv,tp,q] [.int .i64 c] [laysR L] BndL.nil.c.c.c.c.c.c.c.c FctL.nil.c LenL.nil.c .nil) [.i 3,.o 0,(.agg [.q 3 0,.v 1,.v 2,.v 3]),.i 2,.v 7] (.tup [(.agg [.q 3 0,.v 1,.v 2,(.e [([3],1),([7],1)])]),(.agg [.i 0,.i 0,.i 0]),(.c (.bool true)),.i 0]) (by decide +kernel) (kc ht kn)
   ·simp only[methOut,outP,hf,if_neg (show ¬((3:Int)=3∧(3:Int)≠3)by decide),if_true,if_neg hq1,if_neg hq2]
    generalize outS L q=r at *
    obtain⟨L2,⟨xq,xv,xp⟩,f⟩:=r
    simp only at *
    rcases F with⟨rfl,-⟩|⟨hf,-⟩
    ·exact CK.way _ (evS { vars:=[(0,30),(0,288230376151711744),(0,288230376151711744),(0,288230376151711744),(0,288230376151711744),(0,288230376151711744),w58,(1,288230376151711744),(0,30),(0,288230376151711744),(0,288230376151711744),(-576460752303423488,576460752303423488)],facts:=[([([1],-1),([2],-1),([3],-1),([4],1),([7],-1)],0,1152921504606846976)],lens:=[(0,[([0],1)]),(1,[([8],1)])],extV:=[(11,[.q 3 0],(.tup [(.agg [.v 4,.v 5,.v 6]),.i 0])),(44,[.q 3 0,.v 7],(.tup [.q 3 1,(.agg [.v 9,.v 10,.v 11]),.i 0]))] } [(L.length:Int),p0,p1,p2,tq,tv,tp,q,(L2.length:Int),xq,xv,xp] [.int .i64 c] [laysR L,laysR L2] BndL.nil.c.c.c.c.c.c.c.c.c.c.c.c FctL.nil.c LenL.nil.c.c .nil) [.i 3,.o 0,(.agg [.q 3 0,.v 1,.v 2,.v 3]),.i 3,.v 7] (.tup [(.agg [.q 3 1,.v 1,.v 2,.v 3]),(.agg [.v 9,.v 10,.v 11]),(.c (.bool false)),.i 0]) (by decide +kernel) (kc ht (kc ho kn))
    ·omega
 ·have h3:L.length≤1:=by omega
  have hfit:fitsR c=true:=fitsR_iff.2 hc
  rw[if_neg (by omega)]
  simp only[methOut,show ¬((4:Int)=3)by decide,if_false,if_true]
  unfold outC
  rw[if_neg (by rw[hfit];simp)]
  have hm:=ck_d01MulDiv (a:=q) (b:=c) (c:=1) hq ⟨by omega,by omega⟩ ⟨by omega,by omega⟩
  obtain⟨o0,o1,o2⟩:=of_bd (q:=q) hfit
  obtain⟨tq,htq⟩:∃t,t=qs L:=⟨_,rfl⟩
  obtain⟨tv,htv⟩:∃t,t=vs L:=⟨_,rfl⟩
  obtain⟨tp,htp⟩:∃t,t=ps L:=⟨_,rfl⟩
  have ht:=hT
  rw[←htq,←htv,←htp]at ht
  generalize outS L q=r at *
  obtain⟨L2,⟨xq,xv,xp⟩,f⟩:=r
  simp only at *
  rcases F with⟨rfl,g1,g2,g3,g4,g5,g6⟩|⟨hf,hL,hz⟩
  rotate_left
  ·simp only[Lay.zero,Lay.mk.injEq]at hz
   obtain⟨z1,z2,z3⟩:=hz
   have W:Ck 22 [.i 4,.i c,PoolD.av ⟨L,p0,p1,p2⟩,.i kind,.i q] (.tup [PoolD.av ⟨L,p0,p1,p2⟩,Lay.av ⟨0,0,0⟩,.c (.bool false),.i f]):=CK.way _ (evS { vars:=[(0,30),(0,1073741824),w64,(0,3),(0,30),(0,288230376151711744),(0,288230376151711744),(-576460752303423488,576460752303423488),(1,20)],lens:=[(0,[([0],1)]),(1,[([4],1)])],extV:=[(44,[.q 3 0,.v 2],(.tup [.q 3 1,(.agg [.v 5,.v 6,.v 7]),.v 8]))] } [(L.length:Int),c,q,kind,(L2.length:Int),xq,xv,xp,f] [.int .i64 p0,.int .i64 p1,.int .i64 p2] [laysR L,laysR L2] BndL.nil.c.c.c.c.c.c.c.c.c FctL.nil LenL.nil.c.c .nil) [.i 4,.v 1,(.agg [.q 3 0,.o 0,.o 1,.o 2]),.v 3,.v 2] (.tup [(.agg [.q 3 0,.o 0,.o 1,.o 2]),(.agg [.i 0,.i 0,.i 0]),(.c (.bool false)),.v 8]) (by decide +kernel) (kc ho kn)
   rw[z1,z2,z3]
   cases L2 with
   |nil=>subst hL;exact W
   |cons z t=>simp only[if_pos (show f≠0 by omega)];subst hL;exact W
  rw[show mdQ q c 1=ofV c q by unfold ofV;rw[show max q 0=q by omega],show mdE q c 1=ofE c q by unfold ofE;rw[show max q 0=q by omega]]at hm
  generalize mdR q c 1=r at hm
  generalize ofV c q=o at *
  generalize ofE c q=f at *
  match L2,Fn with
  |[],Fn =>
   show Ck 22 [.i 4,.i c,PoolD.av ⟨L,p0,p1,p2⟩,.i kind,.i q] (.tup [PoolD.av ⟨[],p0,p1,p2⟩,Lay.av ⟨xq,xv,xp⟩,.c (.bool false),.i 0])
   obtain⟨L2,hL2⟩:∃L2:List Lay,L2=[]:=⟨_,rfl⟩
   rw[←hL2]at ho ⊢
   have hL2:L2.length=0:=by rw[hL2];rfl
   exact CK.way _ (evS { vars:=[(0,30),(0,1073741824),(1,288230376151711744),(0,3),(0,0),(0,288230376151711744),(0,288230376151711744),(-576460752303423488,576460752303423488)],lens:=[(0,[([0],1)]),(1,[([4],1)])],extV:=[(44,[.q 3 0,.v 2],(.tup [.q 3 1,(.agg [.v 5,.v 6,.v 7]),.i 0]))] } [(L.length:Int),c,q,kind,(L2.length:Int),xq,xv,xp] [.int .i64 p0,.int .i64 p1,.int .i64 p2] [laysR L,laysR L2] BndL.nil.c.c.c.c.c.c.c.c FctL.nil LenL.nil.c.c .nil) [.i 4,.v 1,(.agg [.q 3 0,.o 0,.o 1,.o 2]),.v 3,.v 2] (.tup [(.agg [.q 3 1,.o 0,.o 1,.o 2]),(.agg [.v 5,.v 6,.v 7]),(.c (.bool false)),.i 0]) (by decide +kernel) (kc ho kn)
  |[⟨zq,zv,zp⟩],Fn =>
   obtain⟨L2,hL2⟩:∃L2:List Lay,L2=[⟨zq,zv,zp⟩]:=⟨_,rfl⟩
   rw[←hL2]at ho
   have hL2:L2.length=1:=by rw[hL2];rfl
   rw[←htq]at g2 g4;rw[←htv]at g5;rw[←htp]at g6
   simp only[qs,vs,ps,List.map_cons,List.map_nil,List.sum_cons,List.sum_nil,Int.add_zero]at g4 g5 g6 Fp
   simp only[show ¬((0:Int)≠0)by simp,if_false]
   rcases o2 with rfl|rfl
   ·by_cases hv:zv+xv<o
    ·simp only[if_pos (show(0:Int)≠0∨zv+xv<o from .inr hv)]
     rw[show zq=-q+tq by omega,show zv+(xv-(zv+xv))=0 by omega,show zv+xv=tv by omega,show zp=-xp+tp by omega]
     exact CK.way _ (evS { vars:=[(0,30),(0,1073741824),(1,288230376151711744),(0,3),(1,1),(0,288230376151711744),(0,288230376151711744),(-576460752303423488,576460752303423488),(0,288230376151711744),(0,288230376151711744),w58,(0,288230376151711744)],facts:=[([([9],-1),([11],1)],1,288230376151711744),([([7],-1),([10],1)],-288230376151711744,288230376151711744),([([2],-1),([8],1)],0,288230376151711744)],lens:=[(0,[([0],1)]),(1,[([4],1)])],extV:=[(44,[.q 3 0,.v 2],(.tup [.q 3 1,(.agg [.v 5,.v 6,.v 7]),.i 0])),(11,[.q 3 0],(.tup [(.agg [.v 8,.v 9,.v 10]),.i 0])),(66,[.v 2,.v 1,.i 1],(.tup [.v 11,.o 3,.i 0]))] } [(L.length:Int),c,q,kind,(L2.length:Int),xq,xv,xp,tq,tv,tp,o] [.int .i64 p0,.int .i64 p1,.int .i64 p2,.int .i64 r] [laysR L,laysR L2] BndL.nil.c.c.c.c.c.c.c.c.c.c.c.c FctL.nil.c.c.c LenL.nil.c.c .nil) [.i 4,.v 1,(.agg [.q 3 0,.o 0,.o 1,.o 2]),.v 3,.v 2] (.tup [(.agg [(.lit 3 [[(.e [([2],(-1)),([8],1)]),.i 0,(.e [([7],(-1)),([10],1)])]]),.o 0,.o 1,.o 2]),(.agg [.v 5,.v 9,.v 7]),(.c (.bool false)),.i 0]) (by decide +kernel) (kc ho (kc ht (kc hm kn)))
    ·simp only[if_neg (show ¬((0:Int)≠0∨zv+xv<o)by omega)]
     rw[show zq=-q+tq by omega,show zv+(xv-o)=tv-o by omega,show zp=-xp+tp by omega]
     exact CK.way _ (evS { vars:=[(0,30),(0,1073741824),(1,288230376151711744),(0,3),(1,1),(0,288230376151711744),(0,288230376151711744),(-576460752303423488,576460752303423488),(0,288230376151711744),(0,288230376151711744),w58,(0,288230376151711744)],facts:=[([([9],-1),([11],1)],-288230376151711744,0),([([7],-1),([10],1)],-288230376151711744,288230376151711744),([([2],-1),([8],1)],0,288230376151711744)],lens:=[(0,[([0],1)]),(1,[([4],1)])],extV:=[(44,[.q 3 0,.v 2],(.tup [.q 3 1,(.agg [.v 5,.v 6,.v 7]),.i 0])),(11,[.q 3 0],(.tup [(.agg [.v 8,.v 9,.v 10]),.i 0])),(66,[.v 2,.v 1,.i 1],(.tup [.v 11,.o 3,.i 0]))] } [(L.length:Int),c,q,kind,(L2.length:Int),xq,xv,xp,tq,tv,tp,o] [.int .i64 p0,.int .i64 p1,.int .i64 p2,.int .i64 r] [laysR L,laysR L2] BndL.nil.c.c.c.c.c.c.c.c.c.c.c.c FctL.nil.c.c.c LenL.nil.c.c .nil) [.i 4,.v 1,(.agg [.q 3 0,.o 0,.o 1,.o 2]),.v 3,.v 2] (.tup [(.agg [(.lit 3 [[(.e [([2],(-1)),([8],1)]),(.e [([9],1),([11],(-1))]),(.e [([7],(-1)),([10],1)])]]),.o 0,.o 1,.o 2]),(.agg [.v 5,.v 11,.v 7]),(.c (.bool false)),.i 0]) (by decide +kernel) (kc ho (kc ht (kc hm kn)))
   ·simp only[if_pos (show(2:Int)≠0∨zv+xv<o from .inl (by decide))]
    obtain⟨f,hf⟩:∃f:Int,f=2:=⟨_,rfl⟩
    rw[←hf]at hm
    rw[show zq=-q+tq by omega,show zv+(xv-(zv+xv))=0 by omega,show zv+xv=tv by omega,show zp=-xp+tp by omega]
    exact CK.way _ (evS { vars:=[(0,30),(0,1073741824),(1,288230376151711744),(0,3),(1,1),(0,288230376151711744),(0,288230376151711744),(-576460752303423488,576460752303423488),(0,288230376151711744),(0,288230376151711744),w58,(0,288230376151711744),(1,20)],facts:=[([([7],-1),([10],1)],-288230376151711744,288230376151711744),([([2],-1),([8],1)],0,288230376151711744)],lens:=[(0,[([0],1)]),(1,[([4],1)])],extV:=[(44,[.q 3 0,.v 2],(.tup [.q 3 1,(.agg [.v 5,.v 6,.v 7]),.i 0])),(11,[.q 3 0],(.tup [(.agg [.v 8,.v 9,.v 10]),.i 0])),(66,[.v 2,.v 1,.i 1],(.tup [.v 11,.o 3,.v 12]))] } [(L.length:Int),c,q,kind,(L2.length:Int),xq,xv,xp,tq,tv,tp,o,f] [.int .i64 p0,.int .i64 p1,.int .i64 p2,.int .i64 r] [laysR L,laysR L2] BndL.nil.c.c.c.c.c.c.c.c.c.c.c.c.c FctL.nil.c.c LenL.nil.c.c .nil) [.i 4,.v 1,(.agg [.q 3 0,.o 0,.o 1,.o 2]),.v 3,.v 2] (.tup [(.agg [(.lit 3 [[(.e [([2],(-1)),([8],1)]),.i 0,(.e [([7],(-1)),([10],1)])]]),.o 0,.o 1,.o 2]),(.agg [.v 5,.v 9,.v 7]),(.c (.bool false)),.i 0]) (by decide +kernel) (kc ho (kc ht (kc hm kn)))
  |z::z'::t,Fn=>simp at Fn;omega
theorem ck_d13Total (h:LR L):Ck 51 [PoolD.av ⟨L,p0,p1,p2⟩] (Lay.av ⟨qs L,vs L,ps L⟩):=by
 have hl:=h.len
 have ht:=ck_d09Total (flat_I fun x hx=>lay_I (h.ok x hx))
 rw[h.tot.1,h.tot.2]at ht
 generalize qs L=t0 at *;generalize vs L=t1 at *;generalize ps L=t2 at *
 exact CK.way _ (evS { vars:=[(0,30)],lens:=[(0,[([0],1)])],extV:=[(11,[.q 3 0],(.tup [(.agg [.o 3,.o 4,.o 5]),.i 0]))] } [(L.length:Int)] [.int .i64 p0,.int .i64 p1,.int .i64 p2,.int .i64 t0,.int .i64 t1,.int .i64 t2] [laysR L] BndL.nil.c FctL.nil LenL.nil.c .nil) [(.agg [.q 3 0,.o 0,.o 1,.o 2])] (.agg [.o 3,.o 4,.o 5]) (by decide +kernel) (kc ht kn)
end
end Go.Proofs.Ytjccjmmbebiegaa
