/-
 pool.In, Out, Total, Free, pavg.Back: contracts over closed data, whatever the method: out of their ways.
-/
import Derived.Test.YtjccjmmbebiegaaGpool
import Derived.Test.YtjccjmmbebiegaaTfr
import Derived.Test.YtjccjmmbebiegaaPoolD
import Derived.Test.YtjccjmmbebiegaaFifoB
set_option linter.unusedVariables false
set_option linter.unusedSimpArgs false
namespace Go.Proofs.Ytjccjmmbebiegaa
open Go.RowKit Mc
def PoolD.pn (p:PoolD):Pnd:=⟨p.p0,p.p1,p.p2⟩
theorem ck_fifoOut {l:List Lay} (h:LR l) {q:Int} (hq:I64 q):Ck 70 [.lit 3 (laysR l),.i q] (.tup [.lit 3 (laysR (outS l q).1),(outS l q).2.1.av,.i (outS l q).2.2]):=by
 refine⟨cl_cons (cl_lays _).lit (cl_cons (.c _) cl_nil),.tup _ (cl_cons (cl_lays _).lit (cl_cons (cl_lay _) (cl_cons (.c _) cl_nil))),?_⟩
 intro A w vs hA hG hl hv
 have hvs:=two_args hl
 generalize vs.getD 0 Go.undef=v0 at hvs
 generalize vs.getD 1 Go.undef=v1 at hvs
 subst hvs
 obtain⟨a,cap,rfl,R⟩:=lays_in (hv 0 _ rfl) (flat_ok h.ok)
 obtain rfl:=rdl_i_inv (hv 1 _ rfl)
 refine(fifo_Out a cap l w R h q hq).mono ?_
 rintro e w' ⟨v,rfl,hh,hb⟩
 obtain⟨a',cap',rfl,k1,k2,k3⟩:=hh
 refine⟨_,rfl,rdl_tup3 (lays_out hA k1 k2 (k3.imp id fun⟨b,off,h1,h2,h3,h4,_⟩=>⟨b,off,h1,h2,h3,h4⟩)) (rdl_lay _) rdl_i,hb⟩
theorem ck_MulDiv {a b c:Int} (ha:I64 a) (hb:I64 b) (hc:I64 c):Ck 65 [.i a,.i b,.i c] (.tup [.i (mdQ a b c),.i (mdR a b c),.i (mdE a b c)]) :=
 ⟨cl_cons (.c _) (cl_cons (.c _) (cl_cons (.c _) cl_nil)),.tup _ (cl_cons (.c _) (cl_cons (.c _) (cl_cons (.c _) cl_nil))),@kn_ct bk0 ev0 _ [.int .i64 a,.int .i64 b,.int .i64 c] [.int .i64 (mdQ a b c),.int .i64 (mdR a b c),.int .i64 (mdE a b c)] (fun w=>(money_MulDiv a b c w ha hb hc).mono fun e w' h=>h) (by simp)⟩
theorem ck_pavgFree {p:PoolD} (hL:LR p.layers) (hd:PndOk p.pn):Ck 12 [p.av] (.i (freeP p.layers p.pn)):=by
 obtain⟨L,p0,p1,p2⟩:=p
 have h0:=hd.a0;have h1:=hd.b0;have h2:=hd.c0;have h3:=hd.a1;have h4:=hd.b1;have h5:=hd.c1
 simp only[PoolD.pn]at h0 h1 h2 h3 h4 h5
 exact Fr.walk hL ⟨by omega,by omega⟩ ⟨by omega,by omega⟩ ⟨by omega,by omega⟩
theorem mdE_02 (a b c:Int):mdE a b c=0∨(1≤mdE a b c∧mdE a b c≤20):=by
 unfold mdE
 split
 ·right;simp
 ·split
  ·right;simp
  ·left;rfl
theorem inS_err1 {l:List Lay} {x:Lay}:0≤(inS l x).2∧(inS l x).2≤20:=by
 unfold inS
 split
 ·exact⟨by simp,by simp⟩
 ·split
  ·exact⟨by simp,by simp⟩
  ·split<;>exact⟨by simp,by simp⟩
theorem md_bd {a b c:Int} (ha:0≤a) (hb:0≤b):0≤mdQ a b c∧mdQ a b c≤288230376151711744:=by
 unfold mdQ
 split
 ·simp
 ·split
  ·simp
  ·have:=Int.ediv_nonneg (Int.mul_nonneg ha hb) (show 0≤c by omega)
   omega
theorem ck_poolIn {m c:Int} {p:PoolD} {x:Lay} (hm:1≤m∧m≤4) (hL:LR p.layers) (hx:AllI [x.q,x.v,x.p]) (hc:0≤c∧c≤1073741824) {l':List Lay} {up e':Int} (hI:poolInS m c p.layers x=(l',up,e')) :
  CK Try.prog 16 [.i m,.i c,p.av,x.av] (.tup [({ p with layers:=l' }:PoolD).av,.i up,.i e']):=by
 obtain⟨L,p0,p1,p2⟩:=p
 obtain⟨q,v,z⟩:=x
 have hq:=hx q (by simp)
 have hv:=hx v (by simp)
 have hl:=hL.len
 simp only at hL hl hI ⊢
 have F:=ck_fifoIn hL ⟨q,v,z⟩ hx
 have key:∀(x:Lay),AllI [x.q,x.v,x.p]→(inS L x).2≠0→1≤(inS L x).2∧(inS L x).2≤20∧(inS L x).1=L:=by
  intro x _ h
  have:=@inS_err1 L x
  exact⟨by omega,by omega,inS_no h⟩
 have tot3:∀(x:Lay),(inS L x).2=0→CK Try.prog 54 [.lit 3 (laysR (inS L x).1)] (.tup [Lay.av ⟨(tot (inS L x).1).q,(tot (inS L x).1).v,(tot (inS L x).1).p⟩,.i 0]):=by
  intro x h
  have hR:=inS_LR (x:=x) hL
  have T:=ck_fifoTotal hR
  rw[hR.tot.1];exact T
 rcases(by omega:m=1∨m=2∨m=3∨m=4)with rfl|rfl|rfl|rfl
 ·simp only[poolInS,if_true]at hI
  obtain⟨rfl,h2⟩:=Prod.mk.injEq ..▸hI
  obtain⟨rfl,rfl⟩:=Prod.mk.injEq ..▸h2
  by_cases h:(inS L ⟨q,v,z⟩).2=0
  ·rw[h]at F ⊢
   exact PIn_1ok hl (inS_LR hL).len F
  ·obtain⟨a,b,e⟩:=key _ hx h
   have W:=PIn_1err (p0:=p0) (p1:=p1) (p2:=p2) (c:=c) hl (inS_LR (x:=⟨q,v,z⟩) hL).len ⟨a,b⟩ F
   rw[e];exact W
 ·simp only[poolInS,show ¬((2:Int)=1)by decide,if_false,if_true]at hI
  obtain⟨rfl,h2⟩:=Prod.mk.injEq ..▸hI
  obtain⟨rfl,rfl⟩:=Prod.mk.injEq ..▸h2
  unfold inM
  by_cases h:(inS L ⟨q,v,z⟩).2=0
  ·rw[if_pos h]
   have T:=tot3 _ h
   rw[h]at F
   exact PIn_2ok hl (inS_LR hL).len F T
  ·rw[if_neg h]
   obtain⟨a,b,e⟩:=key _ hx h
   exact PIn_2err hl (inS_LR (x:=⟨q,v,z⟩) hL).len ⟨a,b⟩ F
 ·simp only[poolInS,show ¬((3:Int)=1)by decide,show ¬((3:Int)=2)by decide,if_false,if_true]at hI
  obtain⟨rfl,h2⟩:=Prod.mk.injEq ..▸hI
  obtain⟨rfl,rfl⟩:=Prod.mk.injEq ..▸h2
  unfold inM
  by_cases h:(inS L ⟨q,v,z⟩).2=0
  ·rw[if_pos h]
   have T:=tot3 _ h
   rw[h]at F
   exact PIn_3ok hl (inS_LR hL).len F T
  ·rw[if_neg h]
   obtain⟨a,b,e⟩:=key _ hx h
   exact PIn_3err hl (inS_LR (x:=⟨q,v,z⟩) hL).len ⟨a,b⟩ F
 ·simp only[poolInS,show ¬((4:Int)=1)by decide,show ¬((4:Int)=2)by decide,show ¬((4:Int)=3)by decide,if_false,if_true]at hI
  have hf:fitsR c=true:=fitsR_iff.2 hc
  unfold inC at hI
  simp only[hf]at hI
  by_cases h1:q<1
  ·rw[if_pos (.inr (.inl h1))]at hI
   cases hI
   exact PIn_4q hl ⟨hq.lo,hq.hi⟩ ⟨hv.lo,hv.hi⟩ hc (by omega)
  by_cases h2:v<0
  ·rw[if_pos (.inr (.inr h2))]at hI
   cases hI
   exact PIn_4v hl ⟨hq.lo,hq.hi⟩ ⟨hv.lo,hv.hi⟩ hc (by omega) (by omega)
  rw[if_neg (by simp;omega)]at hI
  have M:=ck_MulDiv (a:=q) (b:=c) (c:=1) hq ⟨by omega,by omega⟩ ⟨by omega,by omega⟩
  have eV:ofV c q=mdQ q c 1:=by unfold ofV;rw[show max q 0=q by omega]
  have eE:ofE c q=mdE q c 1:=by unfold ofE;rw[show max q 0=q by omega]
  rw[eV,eE]at hI
  have hQ:0≤mdQ q c 1∧mdQ q c 1≤288230376151711744:=md_bd (by omega) (by omega)
  rcases mdE_02 q c 1 with h3|h3
  rotate_left
  ·rw[if_pos (.inl (by omega))]at hI
   cases hI
   exact PIn_4mul hl ⟨hq.lo,hq.hi⟩ ⟨hv.lo,hv.hi⟩ hc (by omega) (by omega) hQ h3 M
  rw[h3]at M hI
  by_cases h4:288230376151711744<v
  ·rw[if_pos (.inr h4)]at hI
   cases hI
   exact PIn_4great hl ⟨hq.lo,hq.hi⟩ ⟨hv.lo,hv.hi⟩ hc (by omega) (by omega) hQ h4 M
  rw[if_neg (by simp;omega)]at hI
  have hx2:AllI [q,mdQ q c 1,z]:=by
   intro t ht
   simp only[List.mem_cons,List.not_mem_nil,or_false]at ht
   rcases ht with rfl|rfl|rfl
   ·exact hq
   ·exact⟨by omega,by omega⟩
   ·exact hx t (by simp)
  have F2:=ck_fifoIn hL ⟨q,mdQ q c 1,z⟩ hx2
  by_cases h:(inS L ⟨q,mdQ q c 1,z⟩).2=0
  ·have T:=tot3 _ h
   have e:inM L ⟨q,mdQ q c 1,z⟩=([tot (inS L ⟨q,mdQ q c 1,z⟩).1],0):=by unfold inM;rw[if_pos h]
   rw[h]at F2
   rw[e]at hI
   simp only[if_true]at hI
   cases hI
   exact PIn_4ok hl ⟨hq.lo,hq.hi⟩ ⟨hv.lo,hv.hi⟩ hc (by omega) (by omega) hQ (by omega) (inS_LR (x:=⟨q,mdQ q c 1,z⟩) hL).len rfl M F2 T
  ·obtain⟨a,b,e⟩:=key _ hx2 h
   have e:inM L ⟨q,mdQ q c 1,z⟩=(L,(inS L ⟨q,mdQ q c 1,z⟩).2):=by unfold inM;rw[if_neg h]
   rw[e]at hI
   simp only[if_neg h]at hI
   cases hI
   exact PIn_4err hl ⟨hq.lo,hq.hi⟩ ⟨hv.lo,hv.hi⟩ hc (by omega) (by omega) hQ (by omega) (inS_LR (x:=⟨q,mdQ q c 1,z⟩) hL).len ⟨a,b⟩ rfl M F2
theorem freeP_bd {l:List Lay} {d:Pnd} (h:LR l) (hd:PndOk d):-1000000000000000000≤freeP l d∧freeP l d≤1000000000000000000:=by
 have h0:=hd.a0;have h1:=hd.b0;have h2:=hd.c0;have h3:=hd.a1;have h4:=hd.b1;have h5:=hd.c1
 have:=(qs_pos h.ok).1;have:=h.q
 unfold freeP
 omega
theorem ck_poolOut {m c kind q:Int} {p:PoolD} (hm:1≤m∧m≤4) (hL:LR p.layers) (h1:m=4→p.layers.length≤1) (hd:PndOk p.pn) (hk:0≤kind∧kind≤3) (hq:I64 q) (hc:0≤c∧c≤1073741824) {l':List Lay} {d':Pnd} {y:Lay} {wt:Bool} {e':Int} (hO:poolOutS m c p.layers p.pn kind q=(l',d',y,wt,e')) :
  CK Try.prog 17 [.i m,.i c,p.av,.i kind,.i q] (.tup [(⟨l',d'.a,d'.b,d'.c⟩:PoolD).av,y.av,.c (.bool wt),.i e']):=by
 have hfr:=freeP_bd hL hd
 have Fr:=ck_pavgFree hL hd
 obtain⟨L,p0,p1,p2⟩:=p
 have hl:=hL.len
 have a0:=hd.a0;have b0:=hd.b0;have c0:=hd.c0;have a1:=hd.a1;have b1:=hd.b1;have c1:=hd.c1
 simp only[PoolD.pn]at hL h1 hl hO a0 b0 c0 a1 b1 c1 hfr Fr ⊢
 have O:=ck_fifoOut hL hq
 have key:(outS L q).2.2≠0→1≤(outS L q).2.2∧(outS L q).2.2≤20∧(outS L q).1=L∧(outS L q).2.1=.zero:=by
  intro h
  have:0≤(outS L q).2.2∧(outS L q).2.2≤20:=by
   unfold outS
   split
   ·exact⟨by simp,by simp⟩
   ·split<;>exact⟨by simp,by simp⟩
  obtain⟨e1,e2⟩:=outS_no h
  exact⟨by omega,by omega,e1,e2⟩
 have hO1:=(outS_LR (q:=q) hL).len
 unfold poolOutS at hO
 rw[if_neg (by omega),if_neg (by omega)]at hO
 by_cases hw:m=3∧kind≠3
 ·obtain⟨rfl,hk3⟩:=hw
  rw[if_pos ⟨rfl,hk3⟩]at hO
  unfold waitS at hO
  by_cases hq1:q<1
  ·rw[if_pos (.inr (.inr hq1))]at hO
   simp only[show ¬((1:Int)=0)by decide,decide_false]at hO
   cases hO
   rcases(by omega:kind=0∨kind=1∨kind=2)with rfl|rfl|rfl
   ·exact POut_w0q hl ⟨hq.lo,hq.hi⟩ (by omega)
   ·exact POut_w1q hl ⟨hq.lo,hq.hi⟩ (by omega)
   ·exact POut_w2q hl ⟨hq.lo,hq.hi⟩ (by omega)
  rw[if_neg (by omega)]at hO
  by_cases hf:freeP L ⟨p0,p1,p2⟩<q
  ·rw[if_pos hf]at hO
   simp only[show ¬((5:Int)=0)by decide,decide_false]at hO
   cases hO
   rcases(by omega:kind=0∨kind=1∨kind=2)with rfl|rfl|rfl
   ·exact POut_w0short hl ⟨hq.lo,hq.hi⟩ (by omega) ⟨by omega,by omega⟩ hf Fr
   ·exact POut_w1short hl ⟨hq.lo,hq.hi⟩ (by omega) ⟨by omega,by omega⟩ hf Fr
   ·exact POut_w2short hl ⟨hq.lo,hq.hi⟩ (by omega) ⟨by omega,by omega⟩ hf Fr
  rw[if_neg hf]at hO
  simp only[decide_true]at hO
  cases hO
  rcases(by omega:kind=0∨kind=1∨kind=2)with rfl|rfl|rfl
  ·exact POut_w0ok hl ⟨hq.lo,hq.hi⟩ (by omega) ⟨by omega,by omega⟩ (by omega) ⟨by omega,by omega⟩ rfl Fr
  ·exact POut_w1ok hl ⟨hq.lo,hq.hi⟩ (by omega) ⟨by omega,by omega⟩ (by omega) ⟨by omega,by omega⟩ rfl Fr
  ·exact POut_w2ok hl ⟨hq.lo,hq.hi⟩ (by omega) ⟨by omega,by omega⟩ (by omega) ⟨by omega,by omega⟩ rfl Fr
 rw[if_neg hw]at hO
 cases hO
 rcases(by omega:m=1∨m=2∨m=3∨m=4)with rfl|rfl|rfl|rfl
 ·simp only[methOut,show ¬((1:Int)=3)by decide,show ¬((1:Int)=4)by decide,if_false]
  by_cases h:(outS L q).2.2=0
  ·rw[h]at O ⊢
   exact POut_1ok hl ⟨hq.lo,hq.hi⟩ hk hO1 O
  ·obtain⟨a,b,e1,e2⟩:=key h
   have W:=POut_1err (p0:=p0) (p1:=p1) (p2:=p2) (c:=c) hl ⟨hq.lo,hq.hi⟩ hk hO1 ⟨a,b⟩ O
   rw[e1,e2];exact W
 ·simp only[methOut,show ¬((2:Int)=3)by decide,show ¬((2:Int)=4)by decide,if_false]
  by_cases h:(outS L q).2.2=0
  ·rw[h]at O ⊢
   exact POut_2ok hl ⟨hq.lo,hq.hi⟩ hk hO1 O
  ·obtain⟨a,b,e1,e2⟩:=key h
   have W:=POut_2err (p0:=p0) (p1:=p1) (p2:=p2) (c:=c) hl ⟨hq.lo,hq.hi⟩ hk hO1 ⟨a,b⟩ O
   rw[e1,e2];exact W
 ·obtain rfl:kind=3:=by omega
  simp only[methOut,if_true]
  unfold outP
  by_cases hq1:q<1
  ·rw[if_pos hq1]
   exact POut_3q hl ⟨hq.lo,hq.hi⟩ (by omega)
  rw[if_neg hq1]
  by_cases hf:freeP L ⟨p0,p1,p2⟩<q
  ·rw[if_pos hf]
   exact POut_3short hl ⟨hq.lo,hq.hi⟩ (by omega) ⟨by omega,by omega⟩ hf Fr
  rw[if_neg hf]
  by_cases h:(outS L q).2.2=0
  ·rw[h]at O ⊢
   exact POut_3ok hl ⟨hq.lo,hq.hi⟩ (by omega) ⟨by omega,by omega⟩ (by omega) hO1 Fr O
  ·obtain⟨a,b,e1,e2⟩:=key h
   have W:=POut_3err (p0:=p0) (p1:=p1) (p2:=p2) (c:=c) hl ⟨hq.lo,hq.hi⟩ (by omega) ⟨by omega,by omega⟩ (by omega) hO1 ⟨a,b⟩ Fr O
   rw[e1,e2];exact W
 ·simp only[methOut,show ¬((4:Int)=3)by decide,if_false,if_true]
  have hf:fitsR c=true:=fitsR_iff.2 hc
  unfold outC
  rw[if_neg (by rw[hf];simp)]
  clear O key hO1
  have h1:=h1 rfl
  match L,h1,hL with
  |[],_,hL =>
   by_cases hq1:q<1
   ·have e:outS [] q=([],.zero,1):=by rw[outS,if_pos hq1]
    simp only[e]
    exact POut_4eq hc ⟨hq.lo,hq.hi⟩ hk (by omega)
   ·have e:outS [] q=([],.zero,5):=outS_short hL (by omega) (by simp[qs];omega)
    simp only[e]
    exact POut_4es hc ⟨hq.lo,hq.hi⟩ hk (by omega)
  |[x],_,hL =>
   obtain⟨n,v,pf⟩:=x
   have hx:=hL.at_ (x:=⟨n,v,pf⟩) (by simp)
   simp only at hx
   have eq:qs [⟨n,v,pf⟩]=n:=by simp[qs]
   by_cases hq1:q<1
   ·have e:outS [⟨n,v,pf⟩] q=([⟨n,v,pf⟩],.zero,1):=by rw[outS,if_pos hq1]
    simp only[e,ne_eq,show ¬((1:Int)=0)by decide,not_false_eq_true,if_true]
    exact POut_41q hc ⟨hq.lo,hq.hi⟩ hk ⟨hx.1,hx.2.1⟩ ⟨hx.2.2.1,hx.2.2.2.1⟩ ⟨hx.2.2.2.2.1,hx.2.2.2.2.2⟩ (by omega)
   by_cases hq2:n<q
   ·have e:outS [⟨n,v,pf⟩] q=([⟨n,v,pf⟩],.zero,5):=outS_short hL (by omega) (by rw[eq];exact hq2)
    simp only[e,ne_eq,show ¬((5:Int)=0)by decide,not_false_eq_true,if_true]
    exact POut_41s hc ⟨hq.lo,hq.hi⟩ hk ⟨hx.1,hx.2.1⟩ ⟨hx.2.2.1,hx.2.2.2.1⟩ ⟨hx.2.2.2.2.1,hx.2.2.2.2.2⟩ (by omega) hq2
   have eo:=outS_ok hL (q:=q) (by omega) (by rw[eq];omega)
   by_cases hq3:q=n
   ·rw[outL_whole (by omega) hq3.symm]at eo
    simp only[eo]
    exact POut_41a hc ⟨hq.lo,hq.hi⟩ hk ⟨hx.1,hx.2.1⟩ ⟨hx.2.2.1,hx.2.2.2.1⟩ ⟨hx.2.2.2.2.1,hx.2.2.2.2.2⟩ (by omega) hq3
   ·rw[outL_one (by omega) (by simp only;omega)]at eo
    simp only[eo,minusL,cutL,ne_eq,not_true_eq_false,if_false]
    have A:=ck_Part (v:=v) (q:=q) (n:=n) ⟨by omega,by omega⟩ hq ⟨by omega,by omega⟩
    have B:=ck_Part (v:=pf) (q:=q) (n:=n) ⟨by omega,by omega⟩ hq ⟨by omega,by omega⟩
    have cb:=cut_bd (x:=⟨n,v,pf⟩) (q:=q) (layOk_iff.2 hx) (by omega) (by simp only;omega)
    have M:=ck_MulDiv (a:=q) (b:=c) (c:=1) hq ⟨by omega,by omega⟩ ⟨by omega,by omega⟩
    have eV:ofV c q=mdQ q c 1:=by unfold ofV;rw[show max q 0=q by omega]
    have eE:ofE c q=mdE q c 1:=by unfold ofE;rw[show max q 0=q by omega]
    have hQ:0≤mdQ q c 1∧mdQ q c 1≤288230376151711744:=md_bd (by omega) (by omega)
    have pb1:=part_bd (v:=v) (q:=q) (n:=n) (by omega) (by omega) (by omega) (inB_iff.2 ⟨by omega,by omega⟩)
    have pb2:=part_bd (v:=pf) (q:=q) (n:=n) (by omega) (by omega) (by omega) (inB_iff.2 ⟨by omega,by omega⟩)
    have ab:=pb1.1 (by omega)
    have bb:-288230376151711744≤partS pf q n∧partS pf q n≤288230376151711744∧-288230376151711744≤pf-partS pf q n∧pf-partS pf q n≤288230376151711744:=by
     rcases Int.lt_or_le pf 0 with h|h
     ·have:=pb2.2 h;omega
     ·have:=pb2.1 h;omega
    rw[eV,eE]
    generalize partS v q n=pa at *
    generalize partS pf q n=pb at *
    rcases mdE_02 q c 1 with h3|h3
    ·rw[h3]at M ⊢
     generalize mdQ q c 1=w at *
     by_cases h4:v<w
     ·rw[if_pos (.inr (by omega))]
      have W:=POut_41g (k:=kind) (p0:=p0) (p1:=p1) (p2:=p2) hc ⟨hq.lo,hq.hi⟩ hk ⟨hx.1,hx.2.1⟩ ⟨hx.2.2.1,hx.2.2.2.1⟩ ⟨hx.2.2.2.2.1,hx.2.2.2.2.2⟩ (by omega) (by omega) ⟨by omega,by omega⟩ ⟨by omega,by omega⟩ hQ (by omega) ⟨bb.2.2.1,bb.2.2.2⟩ h4 rfl rfl A B M
      rw[show v-pa+(pa-(v-pa+pa))=0 by omega,show v-pa+pa=v by omega]
      exact W
     ·rw[if_neg (by omega)]
      have W:=POut_41f (k:=kind) (p0:=p0) (p1:=p1) (p2:=p2) hc ⟨hq.lo,hq.hi⟩ hk ⟨hx.1,hx.2.1⟩ ⟨hx.2.2.1,hx.2.2.2.1⟩ ⟨hx.2.2.2.2.1,hx.2.2.2.2.2⟩ (by omega) (by omega) ⟨by omega,by omega⟩ ⟨by omega,by omega⟩ hQ (by omega) ⟨bb.2.2.1,bb.2.2.2⟩ (by omega) rfl rfl rfl A B M
      rw[show v-pa+(pa-w)=v-w by omega]
      exact W
    ·rw[if_pos (.inl (by omega))]
     generalize mdQ q c 1=w at *
     generalize mdE q c 1=f at *
     have W:=POut_41m (k:=kind) (p0:=p0) (p1:=p1) (p2:=p2) hc ⟨hq.lo,hq.hi⟩ hk ⟨hx.1,hx.2.1⟩ ⟨hx.2.2.1,hx.2.2.2.1⟩ ⟨hx.2.2.2.2.1,hx.2.2.2.2.2⟩ (by omega) (by omega) ⟨by omega,by omega⟩ ⟨by omega,by omega⟩ hQ h3 (by omega) ⟨bb.2.2.1,bb.2.2.2⟩ rfl rfl A B M
     rw[show v-pa+(pa-(v-pa+pa))=0 by omega,show v-pa+pa=v by omega]
     exact W
theorem ck_poolTotal {p:PoolD} (hL:LR p.layers):CK Try.prog 26 [p.av] (tot p.layers).av:=by
 obtain⟨L,p0,p1,p2⟩:=p
 have T:=ck_fifoTotal hL
 rw[hL.tot.1]
 exact PTotal hL.len T
end Go.Proofs.Ytjccjmmbebiegaa
