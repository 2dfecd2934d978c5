/-
 Texts joined and made small by wip/small.sh.
-/
import Derived.Test.YtnepgggkgnckcaaGreatJ4
import Derived.Deep.AppendLies
import Derived.BigQuiet
set_option linter.unusedVariables false
set_option linter.unusedSimpArgs false
namespace Go.Proofs.YtnepgggkgnckcaaGreat
open Go.RowKit
section
open Mc
set_option maxRecDepth 1000000
theorem aka {A:Nat→Prop} {w:World} {k:Nat} {aW:List (List AV)} {v:Value} (h:@cO dI dN A w (.lit k aW) v):aW=[]∨∃b off cap,v=.slice (some ⟨b,off,none⟩) aW.length cap∧¬ A b∧b<w.heap.size:=by
 cases h with
 |lit s es b off cap vs hA hb hc hsz h1 hv hr=>exact .inr ⟨b,off,cap,rfl,hA,hb⟩
 |lJ s a cap hm=>exact .inl rfl
theorem acI {A:Nat→Prop} {w':World} {l:List bF} {a:Option Addr} {cap:Nat} (R:Row w' 3 a l.length cap (flat l)) (hb:∀b off,a=some ⟨b,off,none⟩→l≠[]→¬ A b):@cO dI dN A w' (.lit 3 (aG l)) (.slice a l.length cap):=by
 rw[Sf];have hl:(l.map bF.r).length=l.length:=by simp
 obtain⟨-,hc,hm,-,hat⟩:=R;rw[←hl]at hc ⊢;refine uT (by intro r hr;obtain⟨x,-,rfl⟩:=List.mem_map.1 hr;rfl) hc hm ?_
 rw[hl,XQ];rcases hat with h|⟨b,off,h1,h2,h3⟩
 ·exact .inl h
 ·by_cases hn:l=[]
  ·exact .inl (by rw[hn];rfl)
  ·exact .inr ⟨b,off,h1,hb b off h1 hn,h2,h3⟩
theorem oH {l:List bF} (hI:eH (flat l)):Ck 198 [.lit 3 (aG l)] (.bB [(vV l).av,.i (Mo l)]):=by
 refine⟨aX (sK _).lit eR,.bB _ (aX (X3 _) (aX (.c _) eR)),?_⟩
 intro A w vs hA hG hl hv;have hvs:=xR hl;generalize vs.getD 0 Go.undef=v0 at hvs
 subst hvs;obtain⟨a,cap,rfl,R⟩:=FQ (hv 0 _ rfl) hI
 refine(qE a cap l w R).mono ?_
 rintro e w' ⟨rfl,hb⟩
 exact⟨_,rfl,mN (aaN _) qH,hb⟩
theorem xD {l:List bF} (hI:eH (flat l)) (hn:l.length≤1000):Ck 199 [.lit 3 (aG l)] (.c (.bool (gT l))):=by
 refine⟨aX (sK _).lit eR,.c _,?_⟩
 intro A w vs hA hG hl hv;have hvs:=xR hl;generalize vs.getD 0 Go.undef=v0 at hvs
 subst hvs;obtain⟨a,cap,rfl,R⟩:=FQ (hv 0 _ rfl) hI
 refine(T5 a cap l w R hn).mono ?_
 rintro e w' ⟨rfl,hb⟩
 exact⟨_,rfl,@cO.c dI dN A w' _,hb⟩
theorem SO {l:List bF} (hI:eH (flat l)) (hok:l.all jE=true):Ck 197 [.lit 3 (aG l)] (.bB [.i (dU (l.map iV)),.i (eI (l.map iV))]):=by
 refine⟨aX (sK _).lit eR,.bB _ (aX (.c _) (aX (.c _) eR)),?_⟩
 intro A w vs hA hG hl hv;have hvs:=xR hl;generalize vs.getD 0 Go.undef=v0 at hvs
 subst hvs;obtain⟨a,cap,rfl,R⟩:=FQ (hv 0 _ rfl) hI
 refine(M7 a cap l w R hok).mono ?_
 rintro e w' ⟨rfl,hb⟩
 exact⟨_,rfl,mN qH qH,hb⟩
theorem aeG {q:Int}:(dJ [] q).1=[]:=by
 unfold dJ;split
 ·rfl
 ·split
  ·rfl
  ·rename_i h1 h2
   exact absurd (by simp[vV,nC,dU,eI,bY];omega) h2
theorem NH {l:List bF} (h:LR l) {q:Int} (hq:jY q):Ck 215 [.lit 3 (aG l),.i q] (.bB [.lit 3 (aG (dJ l q).1),(dJ l q).2.1.av,.i (dJ l q).2.2]):=by
 refine⟨aX (sK _).lit (aX (.c _) eR),.bB _ (aX (sK _).lit (aX (X3 _) (aX (.c _) eR))),?_⟩
 intro A w vs hA hG hl hv;have hvs:=Ii hl;generalize vs.getD 0 Go.undef=v0 at hvs
 generalize vs.getD 1 Go.undef=v1 at hvs
 subst hvs;have hat:=aka (hv 0 _ rfl)
 obtain⟨a,cap,e0,R⟩:=FQ (hv 0 _ rfl) (abn h.ok)
 have e0':v0=.slice a l.length cap:=e0
 subst e0';obtain rfl:v1=_:=acf (hv 1 _ rfl)
 refine(ad0 a cap l w R h.right q hq).mono ?_
 rintro e w' ⟨v,rfl,⟨a',cap',rfl,R'⟩,hb,hw⟩
 refine⟨_,rfl,ad1 (acI R' ?_) (aaN _) qH,hb⟩
 intro b off h1 h2;subst h1;rcases hw _ _ _ rfl with h3|h3
 ·rcases hat with h4|⟨b',off',cap2,h4,h5,h6⟩
  ·have:l=[]:=by simpa[aG]using h4
   subst this;exact absurd aeG h2
  ·have h4:Value.slice a l.length cap=.slice (some ⟨b',off',none⟩) (aG l).length cap2:=h4
   simp only[Value.slice.injEq]at h4;have:=h3.trans h4.1
   cases this;exact h5
 ·intro hAb
  have:=hA b hAb
  simp only at h3
  omega
theorem Ei (l:List bF) (x:bF):aG (l++[x])=aG l++[iC x.r]:=by simp[aG]
theorem zQ {l:List bF} (h:∀x∈l,eH [x.q,x.v,x.p]):eH (flat l):=by
 intro z hz;obtain⟨x,hx,hz⟩:=List.mem_flatMap.1 hz;exact h x hx z hz
theorem Nu {x:bF} (h:jE x=true):eH [x.q,x.v,x.p]:=by
 have:=cT.1 h
 intro z hz;simp only[List.mem_cons,List.not_mem_nil,or_false]at hz;rcases hz with rfl|rfl|rfl<;>exact⟨by omega,by omega⟩
section
variable {L:List bF} {q v z:Int}
theorem adI (h:LR L) (hx:eH [q,v,z]):eH (flat (L++[⟨q,v,z⟩])):=zQ fun x hx'=>by
 rcases List.mem_append.1 hx' with h'|h'
 ·exact Nu (h.ok x h')
 ·rw[List.mem_singleton]at h';subst h';exact hx
theorem af2 (h:LR L) (hx:eH [q,v,z]):Ck 225 [.lit 3 (aG L),bF.av ⟨q,v,z⟩] (.bB [.lit 3 (aG (AY L ⟨q,v,z⟩).1),.i (AY L ⟨q,v,z⟩).2]):=by
 have hl:=h.len;have hq:=hx q (by simp);have hv:=hx v (by simp)
 have:=hq.lo;have:=hq.hi;have:=hv.lo;have:=hv.hi
 have hr:=xD (adI h hx) (by simp;omega)
 unfold AY;rcases(by omega:q≤0∨(1≤q∧v≤-1)∨(1≤q∧0≤v))with h1|h1|h1
 ·rw[if_pos (.inl (by simp only;omega))];exact cw _ (ev1 { vars:=G0,lens:=Kcw } [(L.length:Int),q,v] [.I z] [aG L] .nil) BD KbZ kn
 ·rw[if_pos (.inr (by simp only;omega))];exact cw _ (ev1 { vars:=Vm,lens:=Kcw } [(L.length:Int),q,v] [.I z] [aG L] .nil) BD KbZ kn
 rw[if_neg (by simp only;omega)]
 by_cases h2:30≤L.length
 ·rw[if_pos h2];exact cw _ (ev1 { vars:=[(30,30),(1,9223372036854775807),(0,9223372036854775807)],lens:=Kcw } [(L.length:Int),q,v] [.I z] [aG L] .nil) BD (.bB [.q 3 0,.i 6]) kn
 rw[if_neg h2];generalize gT (L++[⟨q,v,z⟩])=b at *
 rw[Ei]at hr;cases b with
 |false=>rw[if_neg (by simp)];exact cw _ (ev1 { vars:=Vs,lens:=Kcw,bN:=Vb } [(L.length:Int),q,v] [.I z] [aG L] .nil) BD (.bB [.q 3 0,.i 2]) (kc hr kn)
 |true=>rw[if_pos rfl];simp only[Ei];exact cw _ (ev1 { vars:=Vs,lens:=Kcw,bN:=[Vn] } [(L.length:Int),q,v] [.I z] [aG L] .nil) BD (.bB [(.seq 3 0 [] [[.v 1,.v 2,.o 0]]),.i 0]) (kc hr kn)
theorem LL (h:LR L) (h1:L.length≤1) (hx:eH [q,v,z]):Ck 226 [.lit 3 (aG L),bF.av ⟨q,v,z⟩] (.bB [.lit 3 (aG (zZ L ⟨q,v,z⟩).1),.i (zZ L ⟨q,v,z⟩).2]):=by
 have hl:=h.len;have hq:=hx q (by simp);have hv:=hx v (by simp)
 have:=hq.lo;have:=hq.hi;have:=hv.lo;have:=hv.hi
 have hr:=xD (adI h hx) (by simp;omega)
 have ht:=oH (adI h hx)
 unfold zZ AY;rcases(by omega:q≤0∨(1≤q∧v≤-1)∨(1≤q∧0≤v))with h1|h1|h1
 ·simp only[if_pos (show q<1∨v<0 from .inl (by omega))];exact cw _ (ev1 { vars:=G0,lens:=Kcw } [(L.length:Int),q,v] [.I z] [aG L] .nil) BD KbZ kn
 ·simp only[if_pos (show q<1∨v<0 from .inr (by omega))];exact cw _ (ev1 { vars:=Vm,lens:=Kcw } [(L.length:Int),q,v] [.I z] [aG L] .nil) BD KbZ kn
 simp only[if_neg (show ¬(q<1∨v<0)by omega),if_neg (show ¬ 30≤L.length by omega)]
 rw[Ei]at hr ht;by_cases hb:gT (L++[⟨q,v,z⟩])=true
 ·rw[(LR.of hb).vV.2]at ht
  rw[hb]at hr;simp only[hb,if_true];generalize vV (L++[⟨q,v,z⟩])=t at *
  obtain⟨t0,t1,t2⟩:=t;exact cw _ (ev1 { vars:=Vt,lens:=Kcw,bN:=[Vn,(198,DM,(.bB [(.agg [.o 1,.o 2,.o 3]),.i 0]))] } [(L.length:Int),q,v] [.I z,.I t0,.I t1,.I t2] [aG L] .nil) BD (.bB [(.lit 3 [[.o 1,.o 2,.o 3]]),.i 0]) (kc hr (kc ht kn))
 ·have hb:gT (L++[⟨q,v,z⟩])=false:=by simpa using hb
  rw[hb]at hr;simp only[hb,Bool.false_eq_true,if_false];exact cw _ (ev1 { vars:=Vt,lens:=Kcw,bN:=Vb } [(L.length:Int),q,v] [.I z] [aG L] .nil) BD (.bB [.q 3 0,.i 2]) (kc hr kn)
theorem mT {a b c:Int} (ha:jY a) (hb:jY b) (hc:jY c):Ck 148 [.i a,.i b,.i c] (.bB [.i (zY a b c),.i (PE a b c),.i (ER a b c)]) :=
 ⟨aX (.c _) (aX (.c _) (aX (.c _) eR)),.bB _ (aX (.c _) (aX (.c _) (aX (.c _) eR))),@ai5 dI dN _ [.int .i64 a,.int .i64 b,.int .i64 c] [.int .i64 (zY a b c),.int .i64 (PE a b c),.int .i64 (ER a b c)] (fun w=>(qF a b c w ha hb hc).mono fun e w' h=>⟨h.1,h.2▸Below.refl _ _⟩) (by simp)⟩
theorem kV {v q n:Int} (hv:jY v) (hq:jY q) (hn:jY n):Ck 149 [.i v,.i q,.i n] (.i (cA v q n)) :=
 ⟨aX (.c _) (aX (.c _) (aX (.c _) eR)),.c _,@akl dI dN _ [.int .i64 v,.int .i64 q,.int .i64 n] _ fun w=>(Ri v q n w hv hq hn).mono fun e w' h=>⟨h.1,h.2▸Below.refl _ _⟩⟩
variable {p0 p1 p2 c:Int}
theorem af1 {m:Int} (hm:1≤m∧m≤4) (h:LR L) (h1:m=1∨L.length≤1) (hx:eH [q,v,z]) (hc:0≤c∧c≤1073741824) :
  Ck 196 [.i m,.i c,dF.av ⟨L,p0,p1,p2⟩,bF.av ⟨q,v,z⟩] (.bB [dF.av ⟨(dZ m c L ⟨q,v,z⟩).1,p0,p1,p2⟩,.i (dZ m c L ⟨q,v,z⟩).2.1,.i (dZ m c L ⟨q,v,z⟩).2.2]):=by
 have hl:=h.len;have hq:=hx q (by simp);have hv:=hx v (by simp)
 have:=hq.lo;have:=hq.hi;have:=hv.lo;have:=hv.hi
 have er {x:bF}:=@Sm L x
 have no {x:bF}:=@afp L x
 have nm {x:bF}:=@XM L x
 have em {x:bF}:0≤(zZ L x).2∧(zZ L x).2≤20:=by unfold zZ;split;exact⟨by simp,by simp⟩;exact Sm
 have ln {x:bF}:=(afq (x:=x) h).len
 have lm {x:bF}:=(O2 (x:=x) h).len
 have hm4:m=1∨m=2∨m=3∨m=4:=by omega
 unfold dZ;rcases hm4 with rfl|rfl|rfl|rfl
 ·have hi:=af2 h hx
  simp only[if_true];have er:=er (x:=⟨q,v,z⟩);have no:=no (x:=⟨q,v,z⟩);have ln:=ln (x:=⟨q,v,z⟩)
  generalize AY L ⟨q,v,z⟩=r at *
  obtain⟨L2,f⟩:=r;simp only at *
  by_cases h0:f=0
  ·subst h0;exact cw _ (ev1 { vars:=[(0,30),(0,30)],lens:=Kai,bN:=[(225,BE,Kb0)] } [(L.length:Int),(L2.length:Int)] [.I p0,.I p1,.I p2,.I q,.I v,.I c,.I z] [aG L,aG L2] .nil) UE WN (kc hi kn)
  ·rw[no h0];exact cw _ (ev1 { vars:=KbD,lens:=Kai,bN:=[(225,BE,(.bB [.q 3 1,.v 2]))] } [(L.length:Int),(L2.length:Int),f] [.I p0,.I p1,.I p2,.I q,.I v,.I c,.I z] [aG L,aG L2] .nil) UE WO (kc hi kn)
 all_goals (have h1:L.length≤1:=by omega)
 ·have hi:=LL h h1 hx
  simp only[show ¬((2:Int)=1)by decide,if_false,if_true]
  have er:=em (x:=⟨q,v,z⟩);have no:=nm (x:=⟨q,v,z⟩);have ln:=lm (x:=⟨q,v,z⟩)
  generalize zZ L ⟨q,v,z⟩=r at *
  obtain⟨L2,f⟩:=r;simp only at *
  by_cases h0:f=0
  ·subst h0;exact cw _ (ev1 { vars:=[(0,30),(0,30)],lens:=Kai,bN:=Vc } [(L.length:Int),(L2.length:Int)] [.I p0,.I p1,.I p2,.I q,.I v,.I c,.I z] [aG L,aG L2] .nil) UF WN (kc hi kn)
  ·rw[no h0];exact cw _ (ev1 { vars:=KbD,lens:=Kai,bN:=Vd } [(L.length:Int),(L2.length:Int),f] [.I p0,.I p1,.I p2,.I q,.I v,.I c,.I z] [aG L,aG L2] .nil) UF WO (kc hi kn)
 ·have hi:=LL h h1 hx
  simp only[show ¬((3:Int)=1)by decide,show ¬((3:Int)=2)by decide,if_false,if_true]
  have er:=em (x:=⟨q,v,z⟩);have no:=nm (x:=⟨q,v,z⟩);have ln:=lm (x:=⟨q,v,z⟩)
  generalize zZ L ⟨q,v,z⟩=r at *
  obtain⟨L2,f⟩:=r;simp only at *
  by_cases h0:f=0
  ·subst h0;exact cw _ (ev1 { vars:=[(0,30),(0,30)],lens:=Kai,bN:=Vc } [(L.length:Int),(L2.length:Int)] [.I p0,.I p1,.I p2,.I q,.I v,.I c,.I z] [aG L,aG L2] .nil) UG WN (kc hi kn)
  ·rw[no h0];exact cw _ (ev1 { vars:=KbD,lens:=Kai,bN:=Vd } [(L.length:Int),(L2.length:Int),f] [.I p0,.I p1,.I p2,.I q,.I v,.I c,.I z] [aG L,aG L2] .nil) UG WO (kc hi kn)
 ·simp only[show ¬((4:Int)=1)by decide,show ¬((4:Int)=2)by decide,show ¬((4:Int)=3)by decide,if_false,if_true]
  have hf:vN c=true:=Ek.2 hc
  unfold inC;rcases(by omega:q≤0∨(1≤q∧v≤-1)∨(1≤q∧0≤v))with g1|g1|g1
  ·simp only[if_pos (show vN c=false∨q<1∨v<0 from .inr (.inl (by omega)))];exact cw _ (ev1 { vars:=[(0,30),(-9223372036854775808,0),Me,(0,1073741824)],lens:=Kcw } [(L.length:Int),q,v,c] [.I p0,.I p1,.I p2,.I z] [aG L] .nil) UH WP kn
  ·simp only[if_pos (show vN c=false∨q<1∨v<0 from .inr (.inr (by omega)))];exact cw _ (ev1 { vars:=[(0,30),(1,9223372036854775807),(-9223372036854775808,-1),(0,1073741824)],lens:=Kcw } [(L.length:Int),q,v,c] [.I p0,.I p1,.I p2,.I z] [aG L] .nil) UH WP kn
  simp only[if_neg (show ¬(vN c=false∨q<1∨v<0)by rw[hf];rintro(h|h|h)<;>first|cases h|omega)]
  have hm:=mT (a:=q) (b:=c) (c:=1) hq ⟨by omega,by omega⟩ ⟨by omega,by omega⟩
  obtain⟨o0,o1,o2⟩:=aeY (q:=q) hf
  rw[show zY q c 1=Nn c q by unfold Nn;rw[show max q 0=q by omega],show ER q c 1=ofE c q by unfold ofE;rw[show max q 0=q by omega]]at hm
  generalize PE q c 1=r at hm
  generalize Nn c q=o at *;generalize ofE c q=f at *;rcases o2 with rfl|rfl;rotate_left
  ·simp only[if_pos (show(2:Int)≠0∨288230376151711744<v from .inl (by decide))]
   obtain⟨f,hf⟩:∃f:Int,f=2:=⟨_,rfl⟩
   rw[←hf]at hm;exact cw _ (ev1 { vars:=[(0,30),(1,9223372036854775807),(0,9223372036854775807),(0,1073741824),(0,288230376151711744),(1,20)],lens:=Kcw,bN:=[(148,[.v 1,.v 3,.i 1],(.bB [.v 4,.o 4,.v 5]))] } [(L.length:Int),q,v,c,o,f] [.I p0,.I p1,.I p2,.I z,.I r] [aG L] .nil) UH WQ (kc hm kn)
  by_cases g2:288230376151711744<v
  ·simp only[if_pos (show(0:Int)≠0∨288230376151711744<v from .inr g2)];exact cw _ (ev1 { vars:=[(0,30),(1,9223372036854775807),(288230376151711745,9223372036854775807),(0,1073741824),(0,288230376151711744)],lens:=Kcw,bN:=[Hp] } [(L.length:Int),q,v,c,o] [.I p0,.I p1,.I p2,.I z,.I r] [aG L] .nil) UH WQ (kc hm kn)
  simp only[if_neg (show ¬((0:Int)≠0∨288230376151711744<v)by omega)]
  have hi:=LL (q:=q) (v:=o) (z:=z) h h1 (by
   intro y hy;simp only[List.mem_cons,List.not_mem_nil,or_false]at hy;rcases hy with rfl|rfl|rfl
   ·exact hq
   ·exact⟨by omega,by omega⟩
   ·exact hx y (by simp))
  have er:=em (x:=⟨q,o,z⟩);have no:=nm (x:=⟨q,o,z⟩);have ln:=lm (x:=⟨q,o,z⟩)
  generalize zZ L ⟨q,o,z⟩=r at *
  obtain⟨L2,f⟩:=r;simp only at *
  by_cases h0:f=0
  ·subst h0;simp only[if_true];exact cw _ (ev1 { vars:=[(0,30),(1,9223372036854775807),(0,288230376151711744),(0,1073741824),(0,288230376151711744),(0,30)],lens:=[(0,[([0],1)]),(1,[([5],1)])],bN:=[Hp,(226,[.q 3 0,(.agg [.v 1,.v 4,.o 3])],Kb0)] } [(L.length:Int),q,v,c,o,(L2.length:Int)] [.I p0,.I p1,.I p2,.I z,.I r] [aG L,aG L2] .nil) UH (.bB [B3,(.e [([2],1),([4],(-1))]),.i 0]) (kc hm (kc hi kn))
  ·simp only[if_neg h0];exact cw _ (ev1 { vars:=[(0,30),(1,9223372036854775807),(0,288230376151711744),(0,1073741824),(0,288230376151711744),(0,30),(1,20)],lens:=[(0,[([0],1)]),(1,[([5],1)])],bN:=[Hp,(226,[.q 3 0,(.agg [.v 1,.v 4,.o 3])],(.bB [.q 3 1,.v 6]))] } [(L.length:Int),q,v,c,o,(L2.length:Int),f] [.I p0,.I p1,.I p2,.I z,.I r] [aG L,aG L2] .nil) UH (.bB [BZ,.i 0,.v 6]) (kc hm (kc hi kn))
theorem acZ {m kind:Int} (hm:1≤m∧m≤4) (h:LR L) (h1:m=1∨L.length≤1) (hd:NU ⟨p0,p1,p2⟩) (hq:jY q) (hk:0≤kind∧kind≤3) (hc:0≤c∧c≤1073741824) :
  Ck 238 [.i m,.i c,dF.av ⟨L,p0,p1,p2⟩,.i kind,.i q] (.bB [dF.av ⟨(cC m c L ⟨p0,p1,p2⟩ kind q).1,(cC m c L ⟨p0,p1,p2⟩ kind q).2.1.a,(cC m c L ⟨p0,p1,p2⟩ kind q).2.1.b,(cC m c L ⟨p0,p1,p2⟩ kind q).2.1.c⟩,(cC m c L ⟨p0,p1,p2⟩ kind q).2.2.1.av,.c (.bool (cC m c L ⟨p0,p1,p2⟩ kind q).2.2.2.1),.i (cC m c L ⟨p0,p1,p2⟩ kind q).2.2.2.2]):=by
 have hl:=h.len;have:=hq.lo;have:=hq.hi
 obtain⟨a0,b0,c0,a1,b1,c1⟩:=hd;simp only at a0 b0 c0 a1 b1 c1
 have ho:=NH h hq;have F:=Xp h (q:=q)
 have Fv:=RG h (q:=q)
 have Fi:=aeH h (q:=q)
 have Fl:=(pI (q:=q) h).len
 have Fn:=I3 (l:=L) (q:=q)
 have Fp:(-288230376151711744≤ps (dJ L q).1∧ps (dJ L q).1≤288230376151711744)∧0≤vs (dJ L q).1:=by
  have k:=pI (q:=q) h
  have:=Az (dJ L q).1;have:=k.p;have:=(gW k.ok).2
  omega
 have hT:=oH (zQ fun x hx=>Nu (h.ok x hx))
 rw[h.vV.1,h.vV.2]at hT;obtain⟨tb0,tb1,tb2⟩:=h.bds;have:=gW h.ok;have:=h.q;have:=h.v;have:=h.p;have:=Az L
 have hf:vM L ⟨p0,p1,p2⟩=qs L-p0-p1-p2:=rfl
 have hm4:m=1∨m=2∨m=3∨m=4:=by omega
 unfold cC;rw[if_neg (by omega),if_neg (by omega)]
 rcases hm4 with rfl|rfl|rfl|rfl
 ·rw[if_neg (by omega)]
  simp only[eY,show ¬((1:Int)=3)by decide,show ¬((1:Int)=4)by decide,if_false]
  generalize dJ L q=r at *;obtain⟨L2,⟨xq,xv,xp⟩,f⟩:=r
  simp only at *
  rcases F with⟨rfl,-⟩|⟨hf,hL,hz⟩
  ·exact cw _ (ev1 { vars:=J2,lens:=Kaj,bN:=UI } [(L.length:Int),q,kind,(L2.length:Int),xq,xv,xp] [.I p0,.I p1,.I p2,.I c] [aG L,aG L2] .nil) Wd Zk (kc ho kn)
  ·simp only[bF.zero,bF.mk.injEq]at hz;obtain⟨z1,z2,z3⟩:=hz;rw[hL,z1,z2,z3];exact cw _ (ev1 { vars:=JF,lens:=Kaj,bN:=UJ } [(L.length:Int),q,kind,(L2.length:Int),xq,xv,xp,f] [.I p0,.I p1,.I p2,.I c] [aG L,aG L2] .nil) Wd Zl (kc ho kn)
 ·rw[if_neg (by omega)]
  simp only[eY,show ¬((2:Int)=3)by decide,show ¬((2:Int)=4)by decide,if_false]
  generalize dJ L q=r at *;obtain⟨L2,⟨xq,xv,xp⟩,f⟩:=r
  simp only at *
  rcases F with⟨rfl,-⟩|⟨hf,hL,hz⟩
  ·exact cw _ (ev1 { vars:=J2,lens:=Kaj,bN:=UI } [(L.length:Int),q,kind,(L2.length:Int),xq,xv,xp] [.I p0,.I p1,.I p2,.I c] [aG L,aG L2] .nil) We Zk (kc ho kn)
  ·simp only[bF.zero,bF.mk.injEq]at hz;obtain⟨z1,z2,z3⟩:=hz;rw[hL,z1,z2,z3];exact cw _ (ev1 { vars:=JF,lens:=Kaj,bN:=UJ } [(L.length:Int),q,kind,(L2.length:Int),xq,xv,xp,f] [.I p0,.I p1,.I p2,.I c] [aG L,aG L2] .nil) We Zl (kc ho kn)
 ·have h3:L.length≤1:=by omega
  obtain⟨tq,htq⟩:∃t,t=qs L:=⟨_,rfl⟩
  obtain⟨tv,htv⟩:∃t,t=vs L:=⟨_,rfl⟩
  obtain⟨tp,htp⟩:∃t,t=ps L:=⟨_,rfl⟩
  have ht:=hT;rw[←htq,←htv,←htp]at ht;have hk4:kind=0∨kind=1∨kind=2∨kind=3:=by omega
  by_cases hq1:q<1
  ·rcases hk4 with rfl|rfl|rfl|rfl
   ·simp only[pC,if_pos (show(3:Int)=3∧(0:Int)≠3 by decide),if_pos (show(0:Int)<0∨3≤(0:Int)∨q<1 by omega)];exact cw _ (ev1 { vars:=Bj,lens:=Kcw } [(L.length:Int),q] [.I p0,.I p1,.I p2,.I c] [aG L] .nil) [.i 3,.o 3,BZ,.i 0,.v 1] Zm kn
   ·simp only[pC,if_pos (show(3:Int)=3∧(1:Int)≠3 by decide),if_pos (show(1:Int)<0∨3≤(1:Int)∨q<1 by omega)];exact cw _ (ev1 { vars:=Bj,lens:=Kcw } [(L.length:Int),q] [.I p0,.I p1,.I p2,.I c] [aG L] .nil) [.i 3,.o 3,BZ,.i 1,.v 1] Zm kn
   ·simp only[pC,if_pos (show(3:Int)=3∧(2:Int)≠3 by decide),if_pos (show(2:Int)<0∨3≤(2:Int)∨q<1 by omega)];exact cw _ (ev1 { vars:=Bj,lens:=Kcw } [(L.length:Int),q] [.I p0,.I p1,.I p2,.I c] [aG L] .nil) [.i 3,.o 3,BZ,.i 2,.v 1] Zm kn
   ·simp only[eY,zO,if_neg (show ¬((3:Int)=3∧(3:Int)≠3)by decide),if_true,if_pos hq1];exact cw _ (ev1 { vars:=Bj,lens:=Kcw } [(L.length:Int),q] [.I p0,.I p1,.I p2,.I c] [aG L] .nil) [.i 3,.o 3,BZ,.i 3,.v 1] Zm kn
  by_cases hq2:qs L-p0-p1-p2<q
  ·rcases hk4 with rfl|rfl|rfl|rfl
   ·simp only[pC,hf,if_pos (show(3:Int)=3∧(0:Int)≠3 by decide),if_neg (show ¬((0:Int)<0∨3≤(0:Int)∨q<1)by omega),if_pos hq2];exact cw _ (ev1 { vars:=KW,facts:=YY,lens:=Kcw,bN:=VG } [(L.length:Int),p0,p1,p2,tq,tv,tp,q] [.I c] [aG L] .nil) Wg Zn (kc ht kn)
   ·simp only[pC,hf,if_pos (show(3:Int)=3∧(1:Int)≠3 by decide),if_neg (show ¬((1:Int)<0∨3≤(1:Int)∨q<1)by omega),if_pos hq2];exact cw _ (ev1 { vars:=KW,facts:=YY,lens:=Kcw,bN:=VG } [(L.length:Int),p0,p1,p2,tq,tv,tp,q] [.I c] [aG L] .nil) Wh Zn (kc ht kn)
   ·simp only[pC,hf,if_pos (show(3:Int)=3∧(2:Int)≠3 by decide),if_neg (show ¬((2:Int)<0∨3≤(2:Int)∨q<1)by omega),if_pos hq2];exact cw _ (ev1 { vars:=KW,facts:=YY,lens:=Kcw,bN:=VG } [(L.length:Int),p0,p1,p2,tq,tv,tp,q] [.I c] [aG L] .nil) Wi Zn (kc ht kn)
   ·simp only[eY,zO,hf,if_neg (show ¬((3:Int)=3∧(3:Int)≠3)by decide),if_true,if_neg hq1,if_pos hq2];exact cw _ (ev1 { vars:=KW,facts:=YY,lens:=Kcw,bN:=VG } [(L.length:Int),p0,p1,p2,tq,tv,tp,q] [.I c] [aG L] .nil) Wj Zn (kc ht kn)
  ·rcases hk4 with rfl|rfl|rfl|rfl
   ·simp only[pC,rM.add,hf,if_pos (show(3:Int)=3∧(0:Int)≠3 by decide),if_neg (show ¬((0:Int)<0∨3≤(0:Int)∨q<1)by omega),if_neg hq2,if_true];exact cw _ (ev1 { vars:=KY,facts:=Uo,lens:=Kcw,bN:=VG } [(L.length:Int),p0,p1,p2,tq,tv,tp,q] [.I c] [aG L] .nil) Wg (.bB [(.agg [.q 3 0,(.e [([1],1),([7],1)]),.v 2,.v 3]),Kbp,Kcm,.i 0]) (kc ht kn)
   ·simp only[pC,rM.add,hf,if_pos (show(3:Int)=3∧(1:Int)≠3 by decide),if_neg (show ¬((1:Int)<0∨3≤(1:Int)∨q<1)by omega),if_neg hq2,if_neg (show ¬((1:Int)=0)by decide),if_true];exact cw _ (ev1 { vars:=KY,facts:=Uo,lens:=Kcw,bN:=VG } [(L.length:Int),p0,p1,p2,tq,tv,tp,q] [.I c] [aG L] .nil) Wh (.bB [(.agg [.q 3 0,.v 1,(.e [([2],1),([7],1)]),.v 3]),Kbp,Kcm,.i 0]) (kc ht kn)
   ·simp only[pC,rM.add,hf,if_pos (show(3:Int)=3∧(2:Int)≠3 by decide),if_neg (show ¬((2:Int)<0∨3≤(2:Int)∨q<1)by omega),if_neg hq2,if_neg (show ¬((2:Int)=0)by decide),if_neg (show ¬((2:Int)=1)by decide),if_true];exact cw _ (ev1 { vars:=KY,facts:=Uo,lens:=Kcw,bN:=VG } [(L.length:Int),p0,p1,p2,tq,tv,tp,q] [.I c] [aG L] .nil) Wi (.bB [(.agg [.q 3 0,.v 1,.v 2,(.e [([3],1),([7],1)])]),Kbp,Kcm,.i 0]) (kc ht kn)
   ·simp only[eY,zO,hf,if_neg (show ¬((3:Int)=3∧(3:Int)≠3)by decide),if_true,if_neg hq1,if_neg hq2]
    generalize dJ L q=r at *;obtain⟨L2,⟨xq,xv,xp⟩,f⟩:=r
    simp only at *
    rcases F with⟨rfl,-⟩|⟨hf,-⟩
    ·exact cw _ (ev1 { vars:=[(0,30),(0,288230376151711744),(0,288230376151711744),(0,288230376151711744),(0,288230376151711744),(0,288230376151711744),jI,(1,288230376151711744),(0,30),(0,288230376151711744),(0,288230376151711744),(-576460752303423488,576460752303423488)],facts:=Uo,lens:=[(0,[([0],1)]),(1,[([8],1)])],bN:=[Wf,(215,[.q 3 0,.v 7],(.bB [.q 3 1,(.agg [.v 9,.v 10,.v 11]),.i 0]))] } [(L.length:Int),p0,p1,p2,tq,tv,tp,q,(L2.length:Int),xq,xv,xp] [.I c] [aG L,aG L2] .nil) Wj (.bB [(.agg [.q 3 1,.v 1,.v 2,.v 3]),(.agg [.v 9,.v 10,.v 11]),Kcd,.i 0]) (kc ht (kc ho kn))
    ·omega
 ·have h3:L.length≤1:=by omega
  have hfit:vN c=true:=Ek.2 hc
  rw[if_neg (by omega)]
  simp only[eY,show ¬((4:Int)=3)by decide,if_false,if_true]
  unfold AD;rw[if_neg (by rw[hfit];simp)]
  have hm:=mT (a:=q) (b:=c) (c:=1) hq ⟨by omega,by omega⟩ ⟨by omega,by omega⟩
  obtain⟨o0,o1,o2⟩:=aeY (q:=q) hfit
  obtain⟨tq,htq⟩:∃t,t=qs L:=⟨_,rfl⟩
  obtain⟨tv,htv⟩:∃t,t=vs L:=⟨_,rfl⟩
  obtain⟨tp,htp⟩:∃t,t=ps L:=⟨_,rfl⟩
  have ht:=hT;rw[←htq,←htv,←htp]at ht;generalize dJ L q=r at *;obtain⟨L2,⟨xq,xv,xp⟩,f⟩:=r
  simp only at *
  rcases F with⟨rfl,g1,g2,g3,g4,g5,g6⟩|⟨hf,hL,hz⟩
  rotate_left
  ·simp only[bF.zero,bF.mk.injEq]at hz
   obtain⟨z1,z2,z3⟩:=hz;have W:Ck 238 [.i 4,.i c,dF.av ⟨L,p0,p1,p2⟩,.i kind,.i q] (.bB [dF.av ⟨L,p0,p1,p2⟩,bF.av ⟨0,0,0⟩,.c (.bool false),.i f]):=cw _ (ev1 { vars:=[(0,30),(0,1073741824),Me,(0,3),(0,30),(0,288230376151711744),(0,288230376151711744),(-576460752303423488,576460752303423488),(1,20)],lens:=Kak,bN:=[(215,[.q 3 0,.v 2],(.bB [.q 3 1,Kbq,.v 8]))] } [(L.length:Int),c,q,kind,(L2.length:Int),xq,xv,xp,f] [.I p0,.I p1,.I p2] [aG L,aG L2] .nil) Wk (.bB [BZ,Kbp,Kcd,.v 8]) (kc ho kn)
   rw[z1,z2,z3];cases L2 with
   |nil=>subst hL;exact W
   |cons z t=>simp only[if_pos (show f≠0 by omega)];subst hL;exact W
  rw[show zY q c 1=Nn c q by unfold Nn;rw[show max q 0=q by omega],show ER q c 1=ofE c q by unfold ofE;rw[show max q 0=q by omega]]at hm
  generalize PE q c 1=r at hm
  generalize Nn c q=o at *;generalize ofE c q=f at *;match L2,Fn with
  |[],Fn =>
   show Ck 238 [.i 4,.i c,dF.av ⟨L,p0,p1,p2⟩,.i kind,.i q] (.bB [dF.av ⟨[],p0,p1,p2⟩,bF.av ⟨xq,xv,xp⟩,.c (.bool false),.i 0])
   obtain⟨L2,hL2⟩:∃L2:List bF,L2=[]:=⟨_,rfl⟩
   rw[←hL2]at ho ⊢;have hL2:L2.length=0:=by rw[hL2];rfl
   exact cw _ (ev1 { vars:=[(0,30),(0,1073741824),(1,288230376151711744),(0,3),(0,0),(0,288230376151711744),(0,288230376151711744),(-576460752303423488,576460752303423488)],lens:=Kak,bN:=[US] } [(L.length:Int),c,q,kind,(L2.length:Int),xq,xv,xp] [.I p0,.I p1,.I p2] [aG L,aG L2] .nil) Wk (.bB [B3,Kbq,Kcd,.i 0]) (kc ho kn)
  |[⟨zq,zv,zp⟩],Fn =>
   obtain⟨L2,hL2⟩:∃L2:List bF,L2=[⟨zq,zv,zp⟩]:=⟨_,rfl⟩
   rw[←hL2]at ho;have hL2:L2.length=1:=by rw[hL2];rfl
   rw[←htq]at g2 g4;rw[←htv]at g5;rw[←htp]at g6
   simp only[qs,vs,ps,List.map_cons,List.map_nil,List.sum_cons,List.sum_nil,Int.add_zero]at g4 g5 g6 Fp;simp only[show ¬((0:Int)≠0)by simp,if_false]
   rcases o2 with rfl|rfl
   ·by_cases hv:zv+xv<o
    ·simp only[if_pos (show(0:Int)≠0∨zv+xv<o from .inr hv)]
     rw[show zq=-q+tq by omega,show zv+(xv-(zv+xv))=0 by omega,show zv+xv=tv by omega,show zp=-xp+tp by omega]
     exact cw _ (ev1 { vars:=Kv,facts:=[([([9],-1),([11],1)],1,288230376151711744),Vj,Gj],lens:=Kak,bN:=KK } [(L.length:Int),c,q,kind,(L2.length:Int),xq,xv,xp,tq,tv,tp,o] [.I p0,.I p1,.I p2,.I r] [aG L,aG L2] .nil) Wk KX (kc ho (kc ht (kc hm kn)))
    ·simp only[if_neg (show ¬((0:Int)≠0∨zv+xv<o)by omega)]
     rw[show zq=-q+tq by omega,show zv+(xv-o)=tv-o by omega,show zp=-xp+tp by omega]
     exact cw _ (ev1 { vars:=Kv,facts:=[([([9],-1),([11],1)],-288230376151711744,0),Vj,Gj],lens:=Kak,bN:=KK } [(L.length:Int),c,q,kind,(L2.length:Int),xq,xv,xp,tq,tv,tp,o] [.I p0,.I p1,.I p2,.I r] [aG L,aG L2] .nil) Wk (.bB [(.agg [(.lit 3 [[(.e [([2],(-1)),([8],1)]),(.e [([9],1),([11],(-1))]),(.e [([7],(-1)),([10],1)])]]),.o 0,.o 1,.o 2]),(.agg [.v 5,.v 11,.v 7]),Kcd,.i 0]) (kc ho (kc ht (kc hm kn)))
   ·simp only[if_pos (show(2:Int)≠0∨zv+xv<o from .inl (by decide))]
    obtain⟨f,hf⟩:∃f:Int,f=2:=⟨_,rfl⟩
    rw[←hf]at hm;rw[show zq=-q+tq by omega,show zv+(xv-(zv+xv))=0 by omega,show zv+xv=tv by omega,show zp=-xp+tp by omega]
    exact cw _ (ev1 { vars:=[(0,30),(0,1073741824),(1,288230376151711744),(0,3),(1,1),(0,288230376151711744),(0,288230376151711744),(-576460752303423488,576460752303423488),(0,288230376151711744),(0,288230376151711744),jI,(0,288230376151711744),(1,20)],facts:=[Vj,Gj],lens:=Kak,bN:=[US,VP,(148,[.v 2,.v 1,.i 1],(.bB [.v 11,.o 3,.v 12]))] } [(L.length:Int),c,q,kind,(L2.length:Int),xq,xv,xp,tq,tv,tp,o,f] [.I p0,.I p1,.I p2,.I r] [aG L,aG L2] .nil) Wk KX (kc ho (kc ht (kc hm kn)))
  |z::z'::t,Fn=>simp at Fn;omega
theorem oG (h:LR L):Ck 146 [dF.av ⟨L,p0,p1,p2⟩] (bF.av ⟨qs L,vs L,ps L⟩):=by
 have hl:=h.len;have ht:=oH (zQ fun x hx=>Nu (h.ok x hx))
 rw[h.vV.1,h.vV.2]at ht;generalize qs L=t0 at *;generalize vs L=t1 at *;generalize ps L=t2 at *
 exact cw _ (ev1 { vars:=[(0,30)],lens:=Kcw,bN:=VH } [(L.length:Int)] [.I p0,.I p1,.I p2,.I t0,.I t1,.I t2] [aG L] .nil) [BZ] Kbr (kc ht kn)
theorem X7 {m:Int} (hm:1≤m∧m≤4) (h:LR L) (hd:NU ⟨p0,p1,p2⟩):Ck 221 [.i m,dF.av ⟨L,p0,p1,p2⟩] (.i (if m=3 then vM L ⟨p0,p1,p2⟩else qs L)):=by
 have hl:=h.len;have ht:=oH (zQ fun x hx=>Nu (h.ok x hx))
 rw[h.vV.1,h.vV.2]at ht;have:=gW h.ok;have:=h.q;have:=h.v;have:=h.p;have:=Az L
 have hm4:m=1∨m=2∨m=3∨m=4:=by omega
 rcases hm4 with rfl|rfl|rfl|rfl
 ·rw[if_neg (by decide)];generalize qs L=t0 at *;generalize vs L=t1 at *;generalize ps L=t2 at *;exact cw _ (ev1 { vars:=[(0,30)],lens:=Kcw,bN:=VH } [(L.length:Int)] [.I p0,.I p1,.I p2,.I t0,.I t1,.I t2] [aG L] .nil) [.i 1,BZ] (.o 3) (kc ht kn)
 ·rw[if_neg (by decide)];generalize qs L=t0 at *;generalize vs L=t1 at *;generalize ps L=t2 at *;exact cw _ (ev1 { vars:=[(0,30)],lens:=Kcw,bN:=VH } [(L.length:Int)] [.I p0,.I p1,.I p2,.I t0,.I t1,.I t2] [aG L] .nil) [.i 2,BZ] (.o 3) (kc ht kn)
 ·rw[if_pos rfl,show vM L ⟨p0,p1,p2⟩=qs L-p0-p1-p2 from rfl]
  obtain⟨a0,b0,c0,a1,b1,c1⟩:=hd;simp only at a0 b0 c0 a1 b1 c1
  generalize qs L=tq at *;generalize vs L=tv at *;generalize ps L=tp at *
  rw[show tq-p0-p1-p2=-p0-p1-p2+tq by omega]
  exact cw _ (ev1 { vars:=[(0,30),(0,288230376151711744),(0,288230376151711744),(0,288230376151711744),(0,288230376151711744),(0,288230376151711744),jI],lens:=Kcw,bN:=VG } [(L.length:Int),p0,p1,p2,tq,tv,tp] [] [aG L] .nil) [.i 3,B4] (.e [([1],(-1)),([2],(-1)),([3],(-1)),([4],1)]) (kc ht kn)
 ·rw[if_neg (by decide)];generalize qs L=t0 at *;generalize vs L=t1 at *;generalize ps L=t2 at *;exact cw _ (ev1 { vars:=[(0,30)],lens:=Kcw,bN:=VH } [(L.length:Int)] [.I p0,.I p1,.I p2,.I t0,.I t1,.I t2] [aG L] .nil) [.i 4,BZ] (.o 3) (kc ht kn)
theorem X8 (hl:L.length≤30) (hp:0≤p0∧p0≤288230376151711744) (hq:1≤q∧q≤1073741824):Ck 218 [dF.av ⟨L,p0,p1,p2⟩,.i 0,.i q] (.bB [dF.av ⟨L,if p0<q then p0 else p0-q,p1,p2⟩,.i (if p0<q then 5 else 0)]):=by
 by_cases h:p0<q
 ·rw[if_pos h,if_pos h];exact cw _ (ev1 { vars:=Hq,facts:=[(Kce,-1073741824,-1)],lens:=Kcw } [(L.length:Int),p0,q] [.I p0,.I p1,.I p2] [aG L] .nil) Ga (.bB [(.agg [.q 3 0,.v 1,.o 1,.o 2]),.i 5]) kn
 ·rw[if_neg h,if_neg h];exact cw _ (ev1 { vars:=Hq,facts:=[(Kce,0,288230376151711744)],lens:=Kcw } [(L.length:Int),p0,q] [.I p0,.I p1,.I p2] [aG L] .nil) Ga (.bB [(.agg [.q 3 0,(.e [([1],1),([2],(-1))]),.o 1,.o 2]),.i 0]) kn
end
end
section
def aiw (x:dO):dO:=⟨x.a,if mD x.n then -x.n else 0⟩
def aax (l:List dO):List dO:=l.map aiw
theorem ahC {x y:dO} (h1:x.a=y.a) (h2:x.n=y.n):x=y:=by cases x;cases y;simp only at h1 h2;rw[h1,h2]
instance:DecidableEq dO:=fun x y=>if h:x.a=y.a∧x.n=y.n then .isTrue (ahC h.1 h.2)else .isFalse fun e=>h (by subst e;exact⟨rfl,rfl⟩)
set_option maxHeartbeats 1000000 in
theorem Au (x:dO) (w:World):Calls Tryz.prog 82 #[x.val] w fun e w'=>e=.returned (.bool (!rL x))∧Below w.heap.size w w':=by
 obtain⟨a,n⟩:=x;unfold dO.val;generalize hr:(!rL ⟨a,n⟩)=r
 have hrh:=Lib.hid hr;clear hr;go_enter Tryz.func82,Tryz.ntmps82
 by_cases h0:0≤a
 ·by_cases h1:a<17
  ·have e:r=mD n:=by rw[←hrh.out];simp[rL,ES,h0,h1]
   clear hrh;subst e;go_wp2_with (go_at_call 144;refine(qG _ _).mono ?_;rintro e w' ⟨rfl,rfl⟩)
   go_ret
   exact⟨rfl,blw⟩
  ·have e:r=false:=by rw[←hrh.out];simp[rL,ES,h1]
   clear hrh;subst e;go_wp2_with (go_at_call 144;refine(qG _ _).mono ?_;rintro e w' ⟨rfl,rfl⟩)
   go_ret
   exact⟨rfl,blw⟩
 ·have e:r=false:=by rw[←hrh.out];simp[rL,ES,h0]
  clear hrh;subst e;go_wp2_with (go_at_call 144;refine(qG _ _).mono ?_;rintro e w' ⟨rfl,rfl⟩)
  go_ret
  exact⟨rfl,blw⟩
theorem Nv {l:List dO} {j:Nat} {x:dO} (p:dO→Bool) (hx:l[j]?=some x):(l.take (j+1)).any p=((l.take j).any p||p x):=by
 rw[List.take_add_one,hx];simp
theorem abc {l:List dO} {j:Nat} {x:dO} {p:dO→Bool} (hx:l[j]?=some x) (h:p x=true):l.any p=true:=List.any_eq_true.2 ⟨x,List.mem_of_getElem? hx,h⟩
theorem ada {l:List dO} {j:Nat} {x:dO} (hx:l[j]?=some x):nT (l.take (j+1))=nT (l.take j)++[x.n]:=by
 rw[List.take_add_one,hx];simp[nT]
theorem akV {l:List dO} (h:eH (eF l)):eH (nT l):=fun z hz=>by
 obtain⟨x,hx,rfl⟩:=List.mem_map.1 hz;exact(Ny h hx).2
theorem akO (x:dO):MH x=(rL x||decide (x.n=0)):=by
 unfold MH rL;cases ES x.a<;>cases mD x.n<;>cases decide (x.n=0)<;>rfl
set_option maxRecDepth 20000 in
set_option maxHeartbeats 2000000 in
theorem T4 (a:Option Addr) (cap:Nat) (l:List dO) (w:World) (h:Row w 2 a l.length cap (eF l)) (hn:l.length≤1000000) :
  Calls Tryz.prog 200 #[.slice a l.length cap] w fun e w'=>e=.returned (.bool (nS l))∧Below w.heap.size w w':=by
 obtain⟨n,hN⟩:∃n,l.length=n:=⟨_,rfl⟩
 have hall:=h.all;have hat:=h.at_;have hmax:=h.max;have hle:=h.le;unfold maxLen at hmax;clear h;rw[hN]at hn hat hle ⊢;have nP:nS l=(decide (1≤n)&&decide (n≤12)&&!(l.any MH)&&decide (dU (nT l)=0)&&decide (eI (nT l)=0)):=by unfold nS;rw[hN]
 have hf:l.any MH=true→nS l=false:=fun h=>by rw[nP,h];simp
 obtain⟨r,hr⟩:∃r,nS l=r:=⟨_,rfl⟩
 rw[hr]at nP hf ⊢;have hclh:=Lib.hid nP;have hfh:=Lib.hid hf;have hNh:=Lib.hid hN;clear nP hf hN hr;go_enter Tryz.func200,Tryz.ntmps200
 go_wp2_with fail
 go_loopw [3,4] (fun v i wr=>∃j:Nat,j≤n∧i=.int .i64 j∧Hid ((l.take j).any MH=false)∧dK wr w.heap.size 3 1 v j (nT (l.take j))∧Below w.heap.size w wr) (fun _ i _=>n-(intOf i).toNat)
 case atStart=>exact⟨0,by omega,rfl,rfl,dK.nil _ _ _ _,Below.refl _ _⟩
 case round =>
  obtain⟨j,hj,rfl,hnb,T,hbel⟩:=hrel;have hsz:=hbel.size;by_cases hlt:j<n
  ·obtain⟨b,off,rfl,hb,hc⟩:∃b off,a=some ⟨b,off,none⟩∧b<w.heap.size∧bJ w b off (eF l):=by
    rcases hat with h0|h0
    ·omega
    ·exact h0
   obtain⟨x,hx⟩:∃x,l[j]?=some x:=⟨l[j]'(by rw[hNh.out];exact hlt),List.getElem?_eq_getElem _⟩
   have hcw:=hc.below hb hbel;have hltI:(j:Int)<(n:Int):=by omega
   have hj0:(0:Int)≤(j:Int):=by omega
   have s2:=Nv MH hx;rw[hnb.out,Bool.false_or]at s2;have hbad:MH x=true→r=false:=fun h=>hfh.out (abc hx h)
   have eh:=Lib.hid (ada hx)
   obtain⟨c0,c1⟩:=hcw.line hx;have hxh:=Lib.hid hx;have hbr:b<wr.heap.size:=Nat.lt_of_lt_of_le hb hsz
   have hcb:=akO x;clear hc hx hat hcw;obtain⟨xa,xn⟩:=x;simp only at c0 c1 eh
   cases hbp:rL ⟨xa,xn⟩with
   |true =>
    have hr:=hbad (by rw[hcb,hbp];rfl)
    subst hr;clear hbad s2 hcb;go_wp2_with fail
    refine(Au ⟨xa,xn⟩ _).mono ?_
    rw[hbp];rintro e w1 ⟨rfl,hw1⟩
    clear hbp;go_wp2_with fail
    go_ret
    exact⟨rfl,blw⟩
   |false =>
    by_cases hz:xn=0
    ·have hr:=hbad (by rw[hcb,hbp];simp[hz])
     subst hr;subst hz;clear hbad s2 hcb;go_wp2_with fail
     refine(Au ⟨xa,0⟩ _).mono ?_
     rw[hbp];rintro e w1 ⟨rfl,hw1⟩
     have c1':=(hw1.cell (p:=⟨b,off+j*2+1,none⟩) hbr).trans c1
     clear hbp;go_wp2_with fail
     go_ret
     exact⟨rfl,blw⟩
    ·rw[hcb,hbp,show(decide (xn=0))=false from decide_eq_false hz]at s2
     have s2h:=Lib.hid s2;have hz2:(xn==0)=false:=by rw[beq_eq_false_iff_ne];exact hz
     clear hbad s2 hcb;go_wp2_with fail
     refine(Au ⟨xa,xn⟩ _).mono ?_
     rw[hbp];rintro e w1 ⟨rfl,hw1⟩
     have c1':=(hw1.cell (p:=⟨b,off+j*2+1,none⟩) hbr).trans c1
     have T1:=T.below hw1;have hb1:Below w.heap.size w w1:=blw
     have hs1:=hb1.size;clear hbp hw1 T hbel;go_wp2_with (at_builtin;refine rQ _ rfl _ _ 22 rfl w.heap.size 3 1 Ly _ j (nT (l.take j)) rfl (T1.alloc _) w1.heap.size 0 1 [xn] rfl rfl (al2 rfl) ?c1 ?c2 ?_)
     case c1=>omega
     case c2=>simp;omega
     intro l' w2 hown' hb2;rw[←eh.out]at hown';have hbel':Below w.heap.size w w2:=Below.trans blw hb2
     clear T1 hb2;go_wp2_with fail
     go_roundw
     case rel=>exact⟨j+1,by omega,by go_num,s2h,hown',hbel'⟩
     case measure=>simp[intOf];omega
  ·have ej:j=n:=by omega
   subst ej;have hge:¬ (j:Int)<(j:Int):=by omega
   have htk:l.take j=l:=List.take_of_length_le (by rw[hNh.out];omega)
   rw[htk]at hnb T;obtain⟨a1,c1,rfl,R1⟩:=T.row (akV hall)
   have hc:=hclh.out;rw[hnb.out]at hc;obtain⟨V,hV⟩:∃V,dU (nT l)=V:=⟨_,rfl⟩
   obtain⟨E,hE⟩:∃E,eI (nT l)=E:=⟨_,rfl⟩
   have hsum:=Oj a1 j c1 (nT l) wr R1
   rw[hV,hE]at hc hsum;have hsumh:=Lib.hid hsum;clear htk hnb T hV hE hsum R1;by_cases h1:1≤j
   ·by_cases h2:j≤12
    ·have h1I:(1:Int)≤(j:Int):=by omega
     have h2I:(j:Int)≤12:=by omega
     have hc2:r=(decide (E=0)&&decide (V=0)):=by rw[hc];simp[h1,h2,Bool.and_comm]
     by_cases h3:E=0
     ·subst h3
      have hc3:r=decide (V=0):=by rw[hc2];simp
      subst hc3;clear hc hc2;go_wp2_with fail
      refine hsumh.out.mono ?_
      rintro e w1 ⟨rfl,rfl⟩
      go_wp2_with fail
      go_ret
      exact⟨tX (by rw[Bool.eq_iff_iff];simp),hbel⟩
     ·have hc3:r=false:=by rw[hc2];simp[h3]
      subst hc3;have h3B:(E==0)=false:=by rw[beq_eq_false_iff_ne];exact h3
      clear hc hc2;go_wp2_with fail
      refine hsumh.out.mono ?_
      rintro e w1 ⟨rfl,rfl⟩
      go_wp2_with fail
      go_ret
      exact⟨rfl,hbel⟩
    ·have h1I:(1:Int)≤(j:Int):=by omega
     have h2I:¬ (j:Int)≤12:=by omega
     have hc3:r=false:=by rw[hc];simp[h2]
     subst hc3;clear hc;go_wp2_with fail
     refine hsumh.out.mono ?_
     rintro e w1 ⟨rfl,rfl⟩
     go_wp2_with fail
     go_ret
     exact⟨by first|rfl|exact tX (by simp;omega),hbel⟩
   ·have h1I:¬ (1:Int)≤(j:Int):=by omega
    have hc3:r=false:=by rw[hc];simp[h1]
    subst hc3;clear hc;go_wp2_with fail
    refine hsumh.out.mono ?_
    rintro e w1 ⟨rfl,rfl⟩
    go_wp2_with fail
    go_ret
    exact⟨by first|rfl|exact tX (by simp;omega),hbel⟩
theorem PR:∀(l:List Int) (n:Int),(∀z,z∈l→-50000≤z∧z≤50000)→-(200000000-50000*(l.length:Int))≤n→n≤200000000-50000*(l.length:Int)→bY n l=some (n+l.sum):=by
 intro l;induction l with
 |nil=>intro n _ _ _;simp[bY]
 |cons z l ih =>
  intro n hz h1 h2;have hz0:=hz z (by simp)
  simp only[List.length_cons]at h1 h2;have ho:fM n z=true:=pX.2 ⟨eP.2 (by omega),eP.2 (by omega),eP.2 (by omega)⟩
  simp only[bY,ho,if_true];rw[ih (n+z) (fun y hy=>hz y (by simp[hy])) (by omega) (by omega)]
  simp only[List.sum_cons];congr 1
  omega
structure jX (l:List dO):Prop where
 len:l.length≤100
 acc:∀x,x∈l→0≤x.a∧x.a<17
 amt:∀x,x∈l→-50000≤x.n∧x.n≤50000
theorem TK {l:List Int} (hl:l.length≤100) (h:∀z,z∈l→-50000≤z∧z≤50000):dU l=l.sum∧eI l=0:=by
 have:=PR l 0 h (by omega) (by omega)
 rw[Int.zero_add]at this;exact CU this
theorem jX.app {l m:List dO} (h:jX l) (g:jX m) (hl:l.length+m.length≤100):jX (l++m) :=
 ⟨by rw[List.length_append];exact hl,fun x hx=>(List.mem_append.1 hx).elim (h.acc x) (g.acc x),fun x hx=>(List.mem_append.1 hx).elim (h.amt x) (g.amt x)⟩
theorem jX.I {l:List dO} (h:jX l):eH (eF l):=A5 fun x hx=>by
 have a:=h.acc x hx;have b:=h.amt x hx;exact⟨⟨by omega,by omega⟩,⟨by omega,by omega⟩⟩
def val (l:List dO) (a:Int):Int:=(kE l a).sum
theorem jX.val {l:List dO} (h:jX l) (a:Int):dU (kE l a)=val l a∧eI (kE l a)=0:=by
 refine TK ?_ ?_
 ·unfold kE nT
  rw[List.length_map];exact Nat.le_trans (List.length_filter_le _ _) h.len
 ·intro z hz
  obtain⟨x,hx,rfl⟩:=List.mem_map.1 hz;exact h.amt x (List.mem_filter.1 hx).1
def aed (f:Int→Int):List dO:=((List.range 17).map fun(a:Nat)=>(⟨(a:Int),f (a:Int)⟩:dO)).filter (fun x=>!EF x)
theorem jX.plain {l:List dO} (h:jX l):cY l=(aed (Go.Proofs.YtnepgggkgnckcaaGreat.val l),0):=by
 have h1:l.any rL=false:=by
  rw[List.any_eq_false];intro x hx;have a:=h.acc x hx;have b:=h.amt x hx;simp[rL,xW.2 a,eP.2 (show -288230376151711744≤x.n∧x.n≤288230376151711744 by omega)]
 have h2:(List.range 17).any (fun(a:Nat)=>decide (eI (kE l (a:Int))≠0))=false:=by
  rw[List.any_eq_false];intro a _;simp[(h.val a).2]
 simp only[cY,h1,h2];simp only[Bool.false_eq_true,if_false,Prod.mk.injEq,and_true];unfold aed;congr 1
 refine List.map_congr_left fun a _=>?_
 rw[(h.val a).1]
theorem jX.ajn {l:List dO} (h:jX l):aax l=l.map fun x=>⟨x.a,-x.n⟩:=by
 refine List.map_congr_left fun x hx=>?_
 have:=h.amt x hx
 simp only[aiw,eP.2 (show -288230376151711744≤x.n∧x.n≤288230376151711744 by omega),if_true]
theorem jX.amx {l:List dO} (h:jX l):jX (aax l):=by
 rw[h.ajn];refine⟨by rw[List.length_map];exact h.len,fun x hx=>?_,fun x hx=>?_⟩
 ·obtain⟨y,hy,rfl⟩:=List.mem_map.1 hx;exact h.acc y hy
 ·obtain⟨y,hy,rfl⟩:=List.mem_map.1 hx;have:=h.amt y hy;simp only;omega
def amF (l:List dO):Int:=(nT (l.filter fun x=>!aa6 x)).sum
theorem jX.vV {l:List dO} (h:jX l):ak8 l=(amF l,0):=by
 have h1:l.any akN=false:=by
  rw[List.any_eq_false];intro x hx;have b:=h.amt x hx;simp[akN,eP.2 (show -288230376151711744≤x.n∧x.n≤288230376151711744 by omega)]
 have h2:=TK (l:=nT (l.filter fun x=>!aa6 x)) (by unfold nT;rw[List.length_map];exact Nat.le_trans (List.length_filter_le _ _) h.len) (fun z hz=>by
  obtain⟨x,hx,rfl⟩:=List.mem_map.1 hz;exact h.amt x (List.mem_filter.1 hx).1)
 unfold ak8;rw[h1,h2.1,h2.2];rfl
theorem jX.check {l:List dO} (h:jX l) (h0:(nT l).sum=0) (hz:∀x,x∈l→x.n≠0):nS l=(decide (1≤l.length)&&decide (l.length≤12)):=by
 have h1:l.any MH=false:=by
  rw[List.any_eq_false];intro x hx;have a:=h.acc x hx;have b:=h.amt x hx;have c:=hz x hx;simp[MH,xW.2 a,c,eP.2 (show -288230376151711744≤x.n∧x.n≤288230376151711744 by omega)]
 have h2:=TK (l:=nT l) (by unfold nT;rw[List.length_map];exact h.len) (fun z hz=>by
  obtain⟨x,hx,rfl⟩:=List.mem_map.1 hz;exact h.amt x hx)
 unfold nS;rw[h1,h2.1,h2.2,h0];simp
theorem aaO {a b:Int} (h:fM a b=true) (w:World):Calls Tryz.prog 83 #[.int .i64 a,.int .i64 b] w fun e w'=>e=.returned (.tuple #[.int .i64 (a+b),.int .i64 0])∧w=w':=by
 have:=xN a b w
 unfold mW mK at this;rw[h]at this;exact this
theorem aaP {a b:Int} (h:fM a b=false) (w:World):Calls Tryz.prog 83 #[.int .i64 a,.int .i64 b] w fun e w'=>e=.returned (.tuple #[.int .i64 0,.int .i64 2])∧w=w':=by
 have:=xN a b w
 unfold mW mK at this;rw[h]at this;exact this
theorem MD {l:List Int} {i:Nat} {v:Int} (h:i<l.length):(l.set i v).getD i 0=v:=by
 rw[List.getD_eq_getElem?_getD,List.getElem?_set_self h];rfl
theorem Ls {l:List Int} {i j:Nat} {v:Int} (h:i≠j):(l.set i v).getD j 0=l.getD j 0:=by
 rw[List.getD_eq_getElem?_getD,List.getElem?_set_ne h,←List.getD_eq_getElem?_getD]
def kK (P:List dO):List Int:=(List.range 17).map fun(a:Nat)=>dU (kE P (a:Int))
theorem nQ (P:List dO):(kK P).length=17:=by simp[kK]
theorem Ej (P:List dO) {a:Nat} (h:a<17):(kK P).getD a 0=dU (kE P (a:Int)):=by simp[kK,List.getD_eq_getElem?_getD,h]
def Sound (P:List dO):Prop:=∀a:Nat,a<17→bY 0 (kE P (a:Int))=some ((kK P).getD a 0)
theorem Sound.nil:Sound []:=fun a h=>by rw[Ej _ h];rfl
theorem Sound.more {P:List dO} {x:dO} (h:Sound P) (h0:0≤x.a) (h1:x.a<17) (ho:fM ((kK P).getD x.a.toNat 0) x.n=true) :
  Sound (P++[x])∧kK (P++[x])=(kK P).set x.a.toNat ((kK P).getD x.a.toNat 0+x.n):=by
 have hN:(x.a.toNat:Int)=x.a:=Int.toNat_of_nonneg h0
 have hg:bY 0 (kE (P++[x]) x.a)=some ((kK P).getD x.a.toNat 0+x.n):=by
  have:=h x.a.toNat (by omega)
  rw[hN]at this;rw[pY,if_pos rfl,rT _ _ _ this,ho];rfl
 have key:∀a:Nat,a<17→bY 0 (kE (P++[x]) (a:Int))=some (((kK P).set x.a.toNat ((kK P).getD x.a.toNat 0+x.n)).getD a 0):=by
  intro a ha;by_cases e:x.a.toNat=a
  ·subst e
   rw[hN,hg,MD (by rw[nQ];omega)]
  ·rw[pY,if_neg (by omega),h a ha,Ls e]
 have e:kK (P++[x])=(kK P).set x.a.toNat ((kK P).getD x.a.toNat 0+x.n):=by
  apply List.ext_getElem
  ·rw[nQ,List.length_set,nQ]
  ·intro i h2 h3
   have hi:i<17:=by rw[nQ]at h2;exact h2
   have k:=key i hi;have g:=Ej (P++[x]) hi
   rw[(CU k).1]at g;rw[List.getD_eq_getElem?_getD,List.getElem?_eq_getElem h2,List.getD_eq_getElem?_getD,List.getElem?_eq_getElem h3]at g;exact g
 exact⟨fun a ha=>by rw[e];exact key a ha,e⟩
theorem Sound.stop {l:List dO} {j:Nat} {x:dO} (h:Sound (l.take j)) (hx:l[j]?=some x) (hb:l.any rL=false) (ho:fM ((kK (l.take j)).getD x.a.toNat 0) x.n=false):cY l=([],2):=by
 obtain⟨h0,h1,-⟩:=abj hb (List.mem_of_getElem? hx)
 refine acp (a:=x.a) hb (pO.refl l) ⟨h0,h1⟩ ?_
 have hN:(x.a.toNat:Int)=x.a:=Int.toNat_of_nonneg h0
 have hs:=h x.a.toNat (by omega)
 rw[hN]at hs;have e2:l.take (j+1)=l.take j++[x]:=by rw[List.take_add_one,hx];rfl
 have h3:bY 0 (kE (l.take (j+1)) x.a)=none:=by
  rw[e2,pY,if_pos rfl,rT _ _ _ hs,ho];rfl
 have h4:kE l x.a=kE (l.take (j+1)) x.a++kE (l.drop (j+1)) x.a:=by
  conv=>lhs;rw[←List.take_append_drop (j+1) l]
  unfold kE nT;rw[List.filter_append,List.map_append]
 rw[h4,uM,h3];rfl
def mQ (l:List dO) (k:Nat):List dO:=((List.range k).map fun(a:Nat)=>(⟨(a:Int),(kK l).getD a 0⟩:dO)).filter fun x=>!EF x
theorem XI (l:List dO) (k:Nat):mQ l (k+1)=mQ l k++[(⟨(k:Int),(kK l).getD k 0⟩:dO)].filter (fun x=>!EF x):=by
 unfold mQ;rw[List.range_succ,List.map_append,List.filter_append];rfl
theorem acH (l:List dO) (k:Nat):(mQ l k).length≤k:=by
 unfold mQ;refine Nat.le_trans (List.length_filter_le _ _) ?_
 simp
theorem Sound.plain {l:List dO} (h:Sound l) (hb:l.any rL=false):cY l=(mQ l 17,0):=by
 have hE:(List.range 17).any (fun(a:Nat)=>decide (eI (kE l (a:Int))≠0))=false:=by
  rw[List.any_eq_false];intro a ha;have:=(CU (h a (List.mem_range.1 ha))).2
  simp[this]
 unfold cY;rw[hb,hE];simp only[Bool.false_eq_true,if_false,Prod.mk.injEq,and_true];unfold mQ;have e:((List.range 17).map fun(a:Nat)=>(⟨(a:Int),dU (kE l (a:Int))⟩:dO))=(List.range 17).map fun(a:Nat)=>(⟨(a:Int),(kK l).getD a 0⟩:dO):=List.map_congr_left fun a ha=>by
  rw[Ej _ (List.mem_range.1 ha)]
 rw[e]
theorem dK.alZ {w:World} {base base':Nat} {e:TypeId} {k:Nat} {v:Value} {n:Nat} {zs:List Int} (h:dK w base e k v n zs) (g:base'≤base):dK w base' e k v n zs:=by
 obtain⟨h1,h2⟩:=h;refine⟨h1,?_⟩
 rcases h2 with h2|⟨b,cap,cur,rfl,hb,h3⟩
 ·exact .inl h2
 ·exact .inr ⟨b,cap,cur,rfl,Nat.le_trans g hb,h3⟩
def amk (w:World) (r:List dO×Int) (e:Ending) (w':World):Prop :=
 ∃v,e=.returned (.tuple #[v,.int .i64 r.2])∧dK w' w.heap.size 44 2 v r.1.length (eF r.1)∧Below w.heap.size w w'
set_option maxRecDepth 20000 in
set_option maxHeartbeats 4000000 in
theorem T3 (a:Option Addr) (cap:Nat) (l:List dO) (w:World) (h:Row w 2 a l.length cap (eF l)) (hn:l.length≤1000000) :
  Calls Tryz.prog 45 #[.slice a l.length cap] w (amk w (cY l)):=by
 obtain⟨n,hN⟩:∃n,l.length=n:=⟨_,rfl⟩
 have hall:=h.all;have hat:=h.at_;have hmax:=h.max;have hle:=h.le;unfold maxLen at hmax;clear h;rw[hN]at hn hat hle ⊢;have hcells:∀j,j<n→∃b off x,l[j]?=some x∧a=some ⟨b,off,none⟩∧b<w.heap.size∧∀w',Below w.heap.size w w'→w'.cell? ⟨b,off+j*2,none⟩=some (.int .i64 x.a)∧w'.cell? ⟨b,off+j*2+1,none⟩=some (.int .i64 x.n):=by
  intro j hj;obtain⟨b,off,e,hb,hc⟩:∃b off,a=some ⟨b,off,none⟩∧b<w.heap.size∧bJ w b off (eF l):=by
   rcases hat with h0|h0
   ·omega
   ·exact h0
  exact⟨b,off,l[j]'(by omega),List.getElem?_eq_getElem _,e,hb,fun w' hw=>(hc.below hb hw).line (List.getElem?_eq_getElem _)⟩
 have hch:=Lib.hid hcells;have hNh:=Lib.hid hN;obtain⟨r,hr⟩:∃r,cY l=r:=⟨_,rfl⟩
 rw[hr];have hrh:=Lib.hid hr;clear hcells hat hN hr;go_enter Tryz.func45,Tryz.ntmps45
 go_wp2_with fail
 go_loopw [4] (fun i wr=>∃j:Nat,j≤n∧i=.int .i64 j∧Hid ((l.take j).any rL=false)∧Below w.heap.size w wr) (fun i _=>n-(intOf i).toNat)
 case atStart=>exact⟨0,by omega,rfl,rfl,Below.refl _ _⟩
 case round =>
  obtain⟨j,hj,rfl,hnb,hbel⟩:=hrel;have hsz:=hbel.size;by_cases hlt:j<n
  ·obtain⟨b,off,x,hx,rfl,hb,hc⟩:=hch.out j hlt
   obtain⟨c0,c1⟩:=hc wr hbel;have hltI:(j:Int)<(n:Int):=by omega
   have hj0:(0:Int)≤(j:Int):=by omega
   have s2:=Nv rL hx;rw[hnb.out,Bool.false_or]at s2;have hbad:rL x=true→r=([],1):=fun h=>by rw[←hrh.out];exact acq (abc hx h)
   clear hc hx;obtain⟨xa,xn⟩:=x;simp only at c0 c1
   cases hbp:rL ⟨xa,xn⟩with
   |true =>
    have hr:=hbad hbp;subst hr;clear hbad s2;go_wp2_with fail
    refine(Au ⟨xa,xn⟩ _).mono ?_
    rw[hbp];rintro e w1 ⟨rfl,hw1⟩
    clear hbp;go_wp2_with fail
    go_ret2
    exact⟨_,rfl,dK.nil _ _ _ _,blw⟩
   |false =>
    have s3:Hid ((l.take (j+1)).any rL=false):=by rw[Hid,s2];exact hbp
    clear hbad s2;go_wp2_with fail
    refine(Au ⟨xa,xn⟩ _).mono ?_
    rw[hbp];rintro e w1 ⟨rfl,hw1⟩
    clear hbp;go_wp2_with fail
    go_roundw
    case rel=>exact⟨j+1,by omega,by go_num,s3,blw⟩
    case measure=>simp[intOf];omega
  ·have ej:j=n:=by omega
   subst ej;have hge:¬ (j:Int)<(j:Int):=by omega
   have htk:l.take j=l:=List.take_of_length_le (by rw[hNh.out];omega)
   rw[htk]at hnb;clear htk;go_wp2_with fail
   have hsz:=hbel.size;have hW0:Below w.heap.size w (wr.alloc (.cells #[.int .i64 0,.int .i64 0,.int .i64 0,.int .i64 0,.int .i64 0,.int .i64 0,.int .i64 0,.int .i64 0,.int .i64 0,.int .i64 0,.int .i64 0,.int .i64 0,.int .i64 0,.int .i64 0,.int .i64 0,.int .i64 0,.int .i64 0] 142)):=blw
   have hC0:bJ (wr.alloc (.cells #[.int .i64 0,.int .i64 0,.int .i64 0,.int .i64 0,.int .i64 0,.int .i64 0,.int .i64 0,.int .i64 0,.int .i64 0,.int .i64 0,.int .i64 0,.int .i64 0,.int .i64 0,.int .i64 0,.int .i64 0,.int .i64 0,.int .i64 0] 142)) wr.heap.size 0 (kK []):=bJ.new wr [0,0,0,0,0,0,0,0,0,0,0,0,0,0,0,0,0] 142
   have hF0:∀i,(wr.alloc (.cells #[.int .i64 0,.int .i64 0,.int .i64 0,.int .i64 0,.int .i64 0,.int .i64 0,.int .i64 0,.int .i64 0,.int .i64 0,.int .i64 0,.int .i64 0,.int .i64 0,.int .i64 0,.int .i64 0,.int .i64 0,.int .i64 0,.int .i64 0] 142)).frozen? ⟨wr.heap.size,i,none⟩=false:=World.frozen?_alloc_new wr _ 142
   have hS0:wr.heap.size<(wr.alloc (.cells #[.int .i64 0,.int .i64 0,.int .i64 0,.int .i64 0,.int .i64 0,.int .i64 0,.int .i64 0,.int .i64 0,.int .i64 0,.int .i64 0,.int .i64 0,.int .i64 0,.int .i64 0,.int .i64 0,.int .i64 0,.int .i64 0,.int .i64 0] 142)).heap.size:=by simp
   generalize wr.alloc (.cells #[.int .i64 0,.int .i64 0,.int .i64 0,.int .i64 0,.int .i64 0,.int .i64 0,.int .i64 0,.int .i64 0,.int .i64 0,.int .i64 0,.int .i64 0,.int .i64 0,.int .i64 0,.int .i64 0,.int .i64 0,.int .i64 0,.int .i64 0] 142)=W0 at *
   obtain⟨B,hB⟩:∃B,wr.heap.size=B:=⟨_,rfl⟩
   rw[hB]at hC0 hF0 hS0 hsz ⊢;clear hbel hB;go_loopw [6] (fun i wr=>∃q:Nat,q≤j∧i=.int .i64 q∧Hid (Sound (l.take q))∧bJ wr B 0 (kK (l.take q))∧(∀i,wr.frozen? ⟨B,i,none⟩=false)∧B<wr.heap.size∧Below w.heap.size w wr) (fun i _=>j-(intOf i).toNat)
   case atStart=>exact⟨0,by omega,rfl,Sound.nil,hC0,hF0,hS0,hW0⟩
   case round =>
    obtain⟨q,hq,rfl,hSo,hC,hF,hS,hbel⟩:=hrel;by_cases hlt2:q<j
    ·obtain⟨b,off,x,hx,rfl,hb,hc⟩:=hch.out q hlt2
     obtain⟨c0,c1⟩:=hc wr hbel;have hqI:(q:Int)<(j:Int):=by omega
     have hq0:(0:Int)≤(q:Int):=by omega
     obtain⟨g0,g1,g2⟩:=abj hnb.out (List.mem_of_getElem? hx)
     have hN2:(x.a.toNat:Int)=x.a:=Int.toNat_of_nonneg g0
     have hcell:=hC x.a.toNat (by rw[nQ];omega)
     rw[Nat.zero_add]at hcell;have hstop:=hSo.out.stop hx hnb.out;have hmore:=hSo.out.more (x:=x) g0 g1
     have htk:l.take (q+1)=l.take q++[x]:=by rw[List.take_add_one,hx];rfl
     rw[←htk]at hmore;rw[hrh.out]at hstop;have hput:=bJ.put hC (j:=x.a.toNat) (by rw[nQ];omega) ((kK (l.take q)).getD x.a.toNat 0+x.n)
     rw[Nat.zero_add]at hput;obtain⟨v,hv⟩:∃v,(kK (l.take q)).getD x.a.toNat 0=v:=⟨_,rfl⟩
     rw[hv]at hcell hstop hmore hput;have hfr:=hF x.a.toNat;have hstoph:=Lib.hid hstop;have hmoreh:=Lib.hid hmore;have hputh:=Lib.hid hput;have hbb:b<wr.heap.size:=Nat.lt_of_lt_of_le hb hbel.size
     clear hstop hmore hput hv hx htk hc hN2;obtain⟨xa,xn⟩:=x;simp only at c0 c1 g0 g1 hcell hfr
     obtain⟨k,rfl⟩:∃k:Nat,xa=(k:Int):=⟨xa.toNat,by omega⟩
     rw[Int.toNat_natCast]at hcell hfr;have hkI:(k:Int)<17:=g1
     cases hok:fM v xn with
     |true =>
      obtain⟨m1,m2⟩:=hmoreh.out hok;have hp:=hputh.out;rw[Int.toNat_natCast]at hp;simp only[Int.toNat_natCast]at m2;have m1h:=Lib.hid m1;have m2h:=Lib.hid m2;have hph:=Lib.hid hp;clear m1 m2 hp;go_wp2_with fail
      go_quiet ((go_at_call 83;first|exact wI (aaO hok _)|exact IP (aaO hok _)))
      go_wp2_with fail
      go_roundw
      case rel=>exact⟨q+1,by omega,by go_num,m1h.out,by rw[m2h.out];exact hph.out,(fun i=>by simpa using hF i),by simpa[World.setCell]using hS,(below_drewN hbel _).setCell (p:=⟨B,k,none⟩) (by simp only;omega) _⟩
      case measure=>simp[intOf];omega
     |false =>
      have hr:=hstoph.out hok;subst hr;go_wp2_with fail
      go_quiet ((go_at_call 83;first|exact wI (aaP hok _)|exact IP (aaP hok _)))
      go_wp2_with fail
      go_ret2
      exact⟨_,rfl,dK.nil _ _ _ _,blw⟩
    ·have eq:q=j:=by omega
     subst eq;have hgeq:¬ (q:Int)<(q:Int):=by omega
     have htk:l.take q=l:=List.take_of_length_le (by rw[hNh.out];omega)
     rw[htk]at hSo hC;have hr:=hSo.out.plain hnb.out;rw[hrh.out]at hr;subst hr;obtain⟨wq,hwq⟩:∃wq:World,wr=wq:=⟨_,rfl⟩
     rw[hwq]at hC hF hS hbel ⊢;have hwqs:=hbel.size;clear hwq htk hSo hrh;go_wp2_with fail
     go_loopw [9,10] (fun v a wr=>∃k:Nat,k≤17∧a=.int .i64 k∧dK wr wq.heap.size 44 2 v (mQ l k).length (eF (mQ l k))∧Below wq.heap.size wq wr) (fun _ a _=>17-(intOf a).toNat)
     case atStart=>exact⟨0,by omega,rfl,dK.nil _ _ _ _,Below.refl _ _⟩
     case round =>
      obtain⟨k,hk,rfl,T,hb3⟩:=hrel;have hs3:=hb3.size;by_cases hk2:k<17
      ·have hkI:(k:Int)<17:=by omega
       have hk0:(0:Int)≤(k:Int):=by omega
       have c0:=(hb3.cell (p:=⟨B,0+k,none⟩) hS).trans (hC k (by rw[nQ];exact hk2))
       rw[Nat.zero_add]at c0;have hsu:=XI l k;have hln:=acH l k;obtain⟨z,hz⟩:∃z,(kK l).getD k 0=z:=⟨_,rfl⟩
       rw[hz]at c0 hsu;have hBr:B<wr.heap.size:=Nat.lt_of_lt_of_le hS hs3
       clear hz;by_cases hz0:z=0
       ·have e:mQ l (k+1)=mQ l k:=by
         rw[hsu];have:EF ⟨(k:Int),z⟩=true:=by simp[EF,hz0]
         simp[this]
        have eh:=Lib.hid e;subst hz0;clear hsu e;go_wp2_with fail
        go_roundw
        case rel=>exact⟨k+1,by omega,by go_num,by rw[eh.out];exact T,hb3⟩
        case measure=>simp[intOf];omega
       ·have e:mQ l (k+1)=mQ l k++[⟨(k:Int),z⟩]:=by
         rw[hsu];have:EF ⟨(k:Int),z⟩=false:=by simp[EF,hz0]
         simp[this]
        have e1:eF (mQ l k)++[(k:Int),z]=eF (mQ l (k+1)):=by rw[e,XR]
        have e2:(mQ l k).length+1=(mQ l (k+1)).length:=by rw[e];simp
        obtain⟨m,hm⟩:∃m,(mQ l k).length=m:=⟨_,rfl⟩
        rw[hm]at T hln e2;have e1h:=Lib.hid e1;have e2h:=Lib.hid e2;have hzB:(z==0)=false:=by rw[beq_eq_false_iff_ne];exact hz0
        clear hsu e e1 e2 hm;go_wp2_with (at_builtin;refine rQ _ rfl _ _ 36 rfl wq.heap.size 44 2 acP _ m (eF (mQ l k)) rfl (T.alloc _) wr.heap.size 0 1 [(k:Int),z] rfl rfl (amD (x:=⟨(k:Int),z⟩) rfl) ?c1 ?c2 ?_)
        case c1=>omega
        case c2=>simp;omega
        intro l' w2 hown' hb4;rw[e1h.out,e2h.out]at hown';have hb5:Below wq.heap.size wq w2:=Below.trans blw hb4
        clear T hb4 hb3;go_wp2_with fail
        go_roundw
        case rel=>exact⟨k+1,by omega,by go_num,hown',hb5⟩
        case measure=>simp[intOf];omega
      ·have ek:k=17:=by omega
       subst ek;go_wp2_with fail
       go_ret2
       exact⟨_,rfl,T.alZ hwqs,hbel.trans (hb3.mono hwqs)⟩
end
section
open Mc
set_option maxRecDepth 1000000
theorem iP (a b:Int):Ck 83 [.i a,.i b] (.bB [.i (mW a b),.i (mK a b)]) :=
 ⟨aX (.c _) (aX (.c _) eR),.bB _ (aX (.c _) (aX (.c _) eR)),@ai5 dI dN _ [.int .i64 a,.int .i64 b] [.int .i64 (mW a b),.int .i64 (mK a b)] (fun w=>(xN a b w).mono fun e w' h=>⟨h.1,h.2▸Below.refl _ _⟩) (by simp)⟩
theorem Et (zs:List Int) (hI:eH zs):Ck 81 [.lit 1 (aA zs)] (.bB [.i (dU zs),.i (eI zs)]):=by
 refine⟨aX (gJ _).lit eR,.bB _ (aX (.c _) (aX (.c _) eR)),?_⟩
 intro A w vs hA hG hl hv;have hvs:=xR hl;generalize vs.getD 0 Go.undef=v0 at hvs
 subst hvs;obtain⟨a,cap,rfl,R⟩:=OZ (hv 0 _ rfl) hI
 refine(Oj a _ cap zs w R).mono ?_
 rintro e w' ⟨rfl,rfl⟩
 exact⟨_,rfl,mN qH qH,Below.refl _ _⟩
theorem E5 (l:List dO) (hI:eH (eF l)) (hn:l.length≤1000000):Ck 45 [.lit 2 (dQ l)] (.bB [.lit 2 (dQ (cY l).1),.i (cY l).2]):=by
 refine⟨aX (F5 _).lit eR,.bB _ (aX (F5 _).lit (aX (.c _) eR)),?_⟩
 intro A w vs hA hG hl hv;have hvs:=xR hl;generalize vs.getD 0 Go.undef=v0 at hvs
 subst hvs;obtain⟨a,cap,rfl,R⟩:=abb (hv 0 _ rfl) hI
 refine(T3 a cap l w R hn).mono ?_
 rintro e w' ⟨v,rfl,ho,hb⟩
 rcases Nat.eq_zero_or_pos (cY l).1.length with hz|h0
 ·obtain⟨a',cap',rfl,R'⟩:=ho.row (Oo l)
  exact⟨_,rfl,mN (R9 hA R'.le R'.max (.inl hz)) qH,hb⟩
 ·obtain⟨g,cap',rfl,g1,g2,k1,k2,k3,-⟩:=ho.full h0
  exact⟨_,rfl,mN (R9 hA k1 k2 (.inr ⟨g,0,rfl,g1,g2,k3⟩)) qH,hb⟩
theorem SP (l:List dO) (hI:eH (eF l)) (hn:l.length≤1000000):Ck 200 [.lit 2 (dQ l)] (.c (.bool (nS l))):=by
 refine⟨aX (F5 _).lit eR,.c _,?_⟩
 intro A w vs hA hG hl hv;have hvs:=xR hl;generalize vs.getD 0 Go.undef=v0 at hvs
 subst hvs;obtain⟨a,cap,rfl,R⟩:=abb (hv 0 _ rfl) hI
 refine(T4 a cap l w R hn).mono ?_
 rintro e w' ⟨rfl,hb⟩
 exact⟨_,rfl,@cO.c dI dN A w' _,hb⟩
namespace P8
abbrev hF (m b c i:AV):List AV:=fr 74 [(6,b),(7,m),(9,c),(10,i)]
noncomputable def body:Code:=(Tryz.f152).body.getD .skip
abbrev aiT (c:Code) (r:Option (RT Out)):Prop:=CG { vars:=[(1,20)],lens:=Kal,bN:=Us } c (Kcx++List.replicate 72 .undef) [] [some 0,some 1] (hF (.q 2 2) Kbs Kbt (.i 0)) [Kay,Kay] r
noncomputable def M3:Option (RT Out):=Tz { vars:=[(1,20)],lens:=Kal,bN:=Us } body (Kcx++List.replicate 72 .undef:List AV).length (Kcx++List.replicate 72 .undef) [] 0
theorem alw:aiT body M3:=⟨rfl,by decide +kernel,by decide +kernel⟩
abbrev aaZ (c:Code):Prop:=gN { vars:=[(1,20),(0,19),(0,16)],facts:=[(Kcf,1,20)],lens:=HR,hH:=WY,bN:=[(83,[.o 1,.o 0],(.bB [.o 2,.i 0]))] } c (hF (.q 2 1) Kbs Kbt (.v 1)) Vq 0 [some 0,some 1] (hF (.q 2 1) Kbs Kbt KbH) [Kay,(.sc 3 1 2 [([([2],1)],[.o 2])] [] [([],17)])]
theorem agC:aaZ (bE M3):=⟨_,rfl,by decide +kernel,by decide +kernel⟩
abbrev RA (c:Code):Prop:=Ts { vars:=[(1,20),(0,19),(0,16)],facts:=[(Kcf,1,20)],lens:=HR,hH:=WY,bN:=[(83,[.o 1,.o 0],(.bB [.o 2,.i 2]))] } Tryz.f152 c (hF (.q 2 1) Kbs Kbt (.v 1)) Vq ((.bB [.q 1 0,.i 2]))
theorem adu:RA (bE M3):=⟨_,rfl,by decide +kernel,by decide +kernel,by kernel_rfl⟩
abbrev aiS (c:Code):Prop:=gN { vars:=[(1,20)],lens:=HR } c (hF (.q 2 1) Kbs Kbt (.v 0)) Vq 2 [some 0,some 1] (hF (.q 2 1) Kbs Kbt (.v 0)) Vq
theorem alv:aiS (bE M3):=⟨_,rfl,by decide +kernel,by decide +kernel⟩
abbrev aem (o:Option (RT Out)):Prop:=mI { vars:=[(1,20)],lens:=HR } Tryz.f152 o 0 (hF (.q 2 1) Kbs Kbt (.v 0)) Vq ((.bB [.q 1 2,.i 0]))
theorem ajz:aem M3:=⟨_,rfl,by decide +kernel,by decide +kernel,by kernel_rfl⟩
theorem walk (oA:Option (RT Out)) (rA:aiT body oA) (rO:aaZ (bE oA)) (rE:RA (bE oA)) (rX:aiS (bE oA)) (rR:aem oA) {b:List Int} {l m:List dO} (hb:b.length=17) (h1:1≤m.length) (h20:m.length≤20) (hm:∀x∈m,0≤x.a∧x.a≤16)
  (hp:Ck 45 [.lit 2 (dQ l)] (.bB [.lit 2 (dQ m),.i 0])) (hk:Ck 200 [.lit 2 (dQ m)] Kcm) :
  Ck 152 [.lit 1 (aA b),.lit 2 (dQ l)] (.bB [.lit 1 (aA ((jW b m).getD b)),.i (match jW b m with|some _=>0|none=>2)]):=by
 refine CK.gY Tryz.func152 (c:=body) (by kernel_rfl) (Fh.out) (yC.out) fun A w0 a0=>?_
 intro mm w a pr;rw[Tryz.ntmps152]at pr;refine rA.go (ev1 _ [(m.length:Int)] [] [aA b,dQ l,dQ m] .nil) (xK (kc hp (kc hk kn))) pr (fd:=hF (.lit 2 (dQ m)) (.own 3 1 0 0 17) (.own 3 1 1 0 17) (.i 0)) (bd:=[.cells 3 1 (aA b),.cells 3 1 (aA b)]) ?_
 intro mm w a pr;refine fQ (fun n a w=>∃(j:Nat) (c:List Int),n=m.length-j∧j≤m.length∧c.length=17∧jW b m=jW c (m.drop j)∧∃mm,@gZ dI dN A w0 a0 mm w a (hF (.lit 2 (dQ m)) (.own 3 1 0 0 17) (.own 3 1 1 0 17) (.i (j:Int))) (eS [.cells 3 1 (aA b),.cells 3 1 (aA c)])) ?_ (n:=m.length) ⟨0,b,rfl,Nat.zero_le _,hb,rfl,_,pr⟩
 rintro n a w ⟨j,c,rfl,hj,hc,hA,mm,pr⟩
 rcases(by omega:j=m.length∨j<m.length)with rfl|hlt
 ·rw[List.drop_length]at hA
  have hA:jW b m=some c:=hA
  rw[hA];refine rX.go (ev1 _ [(m.length:Int)] [] [aA b,dQ m,aA c] .nil) (xK kn) pr ?_
  intro mm w a pr;exact rR.go (ev1 _ [(m.length:Int)] [] [aA b,dQ m,aA c] .nil) (xK kn) pr
 ·obtain⟨x,hx0⟩:∃x,m[j]?=some x:=⟨_,List.getElem?_eq_getElem hlt⟩
  have hx:m[(j:Int).toNat]?=some x:=by simpa using hx0
  have hxa:=hm x (List.mem_of_getElem? hx0)
  have hd:m.drop j=x::m.drop (j+1):=by rw[←List.getElem_cons_drop hlt];congr 1;exact Option.some.inj (by rw[←List.getElem?_eq_getElem hlt,hx0])
  rw[hd]at hA;simp only[jW]at hA;obtain⟨ca,hca⟩:∃v,v=c.getD x.a.toNat 0:=⟨_,rfl⟩
  have hc':c[x.a.toNat]?=some ca:=by rw[hca,List.getD,List.getElem?_eq_getElem (by omega)];rfl
  have ha:=iP ca x.n;rw[←hca]at hA;unfold mW mK at ha;by_cases ho:fM ca x.n=true
  ·rw[if_pos ho]at hA
   rw[if_pos ho,if_pos ho]at ha;obtain⟨z,hz⟩:∃z,z=ca+x.n:=⟨_,rfl⟩
   rw[←hz]at ha hA;refine rO.go (ev1 _ [(m.length:Int),(j:Int),x.a] [.I x.n,.I ca,.I z] [aA b,dQ m,aA c] (.d (aL hx) (.d (aI hc') .nil))) (xK (kc ha kn)) pr (fd:=hF (.lit 2 (dQ m)) (.own 3 1 0 0 17) (.own 3 1 1 0 17) (.i (1+(j:Int)))) (bd:=[.cells 3 1 (aA b),.cells 3 1 ((aA c).set x.a.toNat [.i z])]) ?_
   intro mm w a pr;refine⟨m.length-(j+1),by omega,j+1,c.set x.a.toNat z,rfl,by omega,by simpa using hc,hA,mm,?_⟩
   rw[show(1+(j:Int))=((j+1:Nat):Int)by omega]at pr
   rw[show aA (c.set x.a.toNat z)=(aA c).set x.a.toNat [.i z]by simp[aA,List.map_set]]
   exact pr
  ·rw[if_neg ho]at hA
   rw[if_neg ho,if_neg ho]at ha;rw[hA];obtain⟨z,hz⟩:∃z:Int,z=0:=⟨_,rfl⟩
   rw[←hz]at ha;exact rE.go (ev1 _ [(m.length:Int),(j:Int),x.a] [.I x.n,.I ca,.I z] [aA b,dQ m,aA c] (.d (aL hx) (.d (aI hc') .nil))) (xK (kc ha kn)) pr fun a w h=>tN h _
end P8
theorem ad9 (b:List Int) (l:List dO):tY b l=if(cY l).2≠0∨(0<(cY l).1.length∧nS (cY l).1=false)then(b,(10:Int))else match jW b (cY l).1 with|some c=>(c,(0:Int))|none=>(b,(2:Int)):=by
 unfold tY aaS aea;by_cases h:(cY l).2≠0∨(0<(cY l).1.length∧nS (cY l).1=false)
 ·simp only[if_pos h,show ¬((10:Int)=0)by decide,if_false]
 ·simp only[if_neg h]
  cases jW b (cY l).1 with
  |none=>rfl
  |some c=>rfl
theorem X9 (b:List Int) (l:List dO) (hb:b.length=17) (hI:eH (eF l)) (hn:l.length≤1000000):Ck 152 [.lit 1 (aA b),.lit 2 (dQ l)] (.bB [.lit 1 (aA (tY b l).1),.i (tY b l).2]):=by
 have hp:=E5 l hI hn;have hPI:=Oo l;have hpe:=zM l;have hln:=Nd l;have hall:=Nf l;rw[ad9];generalize hr:cY l=r at *
 obtain⟨m,f⟩:=r;simp only at *
 by_cases hf:f=0
 rotate_left
 ·rw[if_pos (Or.inl hf)]
  exact cw _ (ev1 { vars:=[(0,20),(1,20)],lens:=Kal,bN:=[(45,[.q 2 1],(.bB [.q 2 2,.v 1]))] } [(m.length:Int),f] [] [aA b,dQ l,dQ m] .nil) Kcx (.bB [.q 1 0,.i 10]) (kc hp kn)
 subst hf;have hk:=SP m hPI (by omega)
 by_cases h0:0<m.length
 rotate_left
 ·have hm:m=[]:=List.length_eq_zero_iff.1 (by omega)
  subst hm;rw[if_neg (by simp)]
  show Ck 152 [.lit 1 (aA b),.lit 2 (dQ l)] (.bB [.lit 1 (aA b),.i 0])
  exact cw _ (ev1 { lens:=[(0,[([],17)])],bN:=[(45,[.q 2 1],(.bB [(.lit 2 []),.i 0]))] } [] [] [aA b,dQ l] .nil) Kcx (.bB [.q 1 0,.i 0]) (kc hp kn)
 by_cases hc:nS m=true
 ·rw[if_neg (by simp[hc])]
  rw[hc]at hk;have W:=P8.walk P8.M3 P8.alw P8.agC P8.adu P8.alv P8.ajz hb (by omega) (by omega) (fun x hx=>by have:=hall x hx;omega) hp hk
  generalize jW b m=o at W ⊢
  cases o with
  |none=>exact W
  |some c=>exact W
 ·have hc:nS m=false:=by simpa using hc
  rw[if_pos (Or.inr ⟨h0,hc⟩)]
  rw[hc]at hk;exact cw _ (ev1 { vars:=[(1,20)],lens:=Kal,bN:=[DN,(200,[.q 2 2],Kcd)] } [(m.length:Int)] [] [aA b,dQ l,dQ m] .nil) Kcx (.bB [.q 1 0,.i 10]) (kc hp (kc hk kn))
abbrev ρl (l:List Int):Nat→Int:=fun i=>l.getD i 0
abbrev νl (l:List Value):Nat→Value:=fun i=>l.getD i (.bool false)
abbrev gX (S:bL) (e item m c:Int) (X:List Int):List Int:=e::(S.bG.length:Int)::item::(S.weights.length:Int)::m::c::X
abbrev gVs (S:bL) (now:Int) (closed:Bool) (vs:List Value):List Value:=.int .i64 S.aB::.int .i64 S.aD::.int .i64 S.done::.int .i64 now::.bool closed::vs
abbrev A2 (cl:AV) (V:List (Int×Int)) (F:List (Poly×Int×Int)) (L:List (Nat×Poly)) (A:List (Nat×Poly×List AV)) (D:List (Nat×Poly×Poly×Poly)) (C:List (Nat×Nat×Nat)) (x:List (Nat×List AV×AV)):Bk:={ vars:=gV++V,facts:=gF++F,lens:=gL++L,hH:=gAw cl++A,defs:=D,SU:=C,bN:=x }
section
variable {S:bL} {e item now m c:Int} {closed:Bool} {bM:List dF} {eJ:List Int} {aF:List (List Int)} {bD down:List Int} {ahead:List EntC} {ms cs:List Int}
theorem gBo (H:Wx S e item now closed bM eJ aF bD down ahead ms cs m c) {V:List (Int×Int)} {X:List Int} (h:kG V X):kG (gV++V) (gX S e item m c X):=by
 have:=H.bd;exact h.c.c.c.c.c.c
theorem gFo (H:Wx S e item now closed bM eJ aF bD down ahead ms cs m c) {X:List Int} {F:List (Poly×Int×Int)} (h:kJ (ρl (gX S e item m c X)) F):kJ (ρl (gX S e item m c X)) (gF++F):=by
 have:=H.bd;exact h.c.c
theorem gLo (H:Wx S e item now closed bM eJ aF bD down ahead ms cs m c) {X:List Int} {ss:List (List (List AV))} {L:List (Nat×Poly)} (h:lN (ρl (gX S e item m c X)) (gS S bM eJ aF bD down ahead ms cs ss) L):lN (ρl (gX S e item m c X)) (gS S bM eJ aF bD down ahead ms cs ss) (gL++L):=by
 have:=H.bd;exact h.c.c.c.c.c.c.c.c
theorem gAo (H:Wx S e item now closed bM eJ aF bD down ahead ms cs m c) {cl:AV} {X:List Int} {vs:List Value} {ss:List (List (List AV))} {A:List (Nat×Poly×List AV)} (h:vS (ρl (gX S e item m c X)) (νl (gVs S now closed vs)) (gS S bM eJ aF bD down ahead ms cs ss) A)
  (hc:cl=.o 4∨cl=.c (.bool closed)):vS (ρl (gX S e item m c X)) (νl (gVs S now closed vs)) (gS S bM eJ aF bD down ahead ms cs ss) (gAw cl++A):=by
 have:=H.bd;rcases hc with rfl|rfl
 ·exact .d (aE H.hx) (.d (aS H.rJ) (.d (aS H.CI) (.d (aI H.hm) (.d (aI H.hc) h))))
 ·exact .d (aE H.hx) (.d (aS H.rJ) (.d (aS H.CI) (.d (aI H.hm) (.d (aI H.hc) h))))
abbrev gEv (H:Wx S e item now closed bM eJ aF bD down ahead ms cs m c) {V:List (Int×Int)} (X:List Int) (vs:List Value) (ss:List (List (List AV))) [ClS ss] {F:List (Poly×Int×Int)} {L:List (Nat×Poly)} {A:List (Nat×Poly×List AV)} {D:List (Nat×Poly×Poly×Poly)} {C:List (Nat×Nat×Nat)} {x:List (Nat×List AV×AV)} {cl:AV}
  (hV:kG V X) (hF:kJ (ρl (gX S e item m c X)) F) (hL:lN (ρl (gX S e item m c X)) (gS S bM eJ aF bD down ahead ms cs ss) L) (hA:vS (ρl (gX S e item m c X)) (νl (gVs S now closed vs)) (gS S bM eJ aF bD down ahead ms cs ss) A)
  (hD:tP (ρl (gX S e item m c X)) D:=by exact .nil) (ho:((gVs S now closed vs).all Value.oneCell')=true:=by rfl) (hc:cl=.o 4∨cl=.c (.bool closed):=by first|exact .inl rfl|exact .inr rfl) (hC:∀t∈C,(gS S bM eJ aF bD down ahead ms cs ss).getD t.2.2 []=(gS S bM eJ aF bD down ahead ms cs ss).getD t.1 []++(gS S bM eJ aF bD down ahead ms cs ss).getD t.2.1 []:=by exact fun t h=>nomatch h):@Ev (A2 cl V F L A D C x) :=
 evS _ (gX S e item m c X) (gVs S now closed vs) (gS S bM eJ aF bD down ahead ms cs ss) (gBo H hV) (gFo H hF) (gLo H hL) (gAo H hA hc) hD ho rfl hC
abbrev ev2 (H:Wx S e item now closed bM eJ aF bD down ahead ms cs m c) {V:List (Int×Int)} (X:List Int) (vs:List Value) (ss:List (List (List AV))) [ClS ss] {F:List (Poly×Int×Int)} {L:List (Nat×Poly)} {A:List (Nat×Poly×List AV)} {D:List (Nat×Poly×Poly×Poly)} {C:List (Nat×Nat×Nat)} {x:List (Nat×List AV×AV)} {cl:AV} (hA:vS (ρl (gX S e item m c X)) (νl (gVs S now closed vs)) (gS S bM eJ aF bD down ahead ms cs ss) A) (hD:tP (ρl (gX S e item m c X)) D:=by exact .nil) (ho:((gVs S now closed vs).all Value.oneCell')=true:=by rfl) (hc:cl=.o 4∨cl=.c (.bool closed):=by first|exact .inl rfl|exact .inr rfl) (hC:∀t∈C,(gS S bM eJ aF bD down ahead ms cs ss).getD t.2.2 []=(gS S bM eJ aF bD down ahead ms cs ss).getD t.1 []++(gS S bM eJ aF bD down ahead ms cs ss).getD t.2.1 []:=by exact fun t h=>nomatch h) (hV:kG V X:=by repeat (first|exact kG.nil|refine kG.c ?_ (by omega) (by omega))) (hF:kJ (ρl (gX S e item m c X)) F:=by repeat (first|exact kJ.nil|refine kJ.e ?_)) (hL:lN (ρl (gX S e item m c X)) (gS S bM eJ aF bD down ahead ms cs ss) L:=by repeat (first|exact lN.nil|refine lN.c ?_)):@Ev (A2 cl V F L A D C x) :=gEv H X vs ss hV hF hL hA hD ho hc hC
end
abbrev oV:List (Int×Int):=[(0,3),(0,4),(0,1),(0,3),(0,1073741824),(0,1125899906842624),(0,39),(0,1000000),(0,40),(0,40),(0,40),(0,4),(0,5),(1,20)]
abbrev oL:List (Nat×Poly):=[(0,[([11],1)]),(1,[([12],1)]),(2,[([11],1)]),(3,[([11],1)]),(4,[([8],1)]),(5,[([9],1)]),(6,[([10],1)])]
abbrev fU (V:List (Int×Int)) (F:List (Poly×Int×Int)) (L:List (Nat×Poly)) (A:List (Nat×Poly×List AV)) (x:List (Nat×List AV×AV)):Bk:={ vars:=oV++V,facts:=F,lens:=oL++L,hH:=A,bN:=x }
abbrev oX (S:bL) (e item loc dst q a ref f:Int) (X:List Int):List Int:=e::item::loc::dst::q::a::ref::S.done::(S.aH.length:Int)::(S.aM.length:Int)::(S.bK.length:Int)::(S.bG.length:Int)::(S.weights.length:Int)::f::X
abbrev oVs (S:bL) (vs:List Value):List Value:=.int .i64 S.aB::.int .i64 S.aD::vs
structure OpI (S:bL) (e item loc dst q a ref f:Int):Prop where
 he:0≤e∧e≤3
 hi:0≤item∧item≤4
 hl:0≤loc∧loc≤1
 hd:0≤dst∧dst≤3
 hq:0≤q∧q≤1073741824
 ha:0≤a∧a≤1125899906842624
 hr:0≤ref∧ref≤39
 hf:1≤f∧f≤20
 od:Od S
 hn:S.bG.length≤4
 hw:S.weights.length≤5
 hm:S.methods.length=S.bG.length
 hc:S.cP.length=S.bG.length
section
variable {S:bL} {e item loc dst q a ref f:Int}
theorem OpI.bd (H:OpI S e item loc dst q a ref f):(0≤e∧e≤3)∧(0≤item∧item≤4)∧(0≤loc∧loc≤1)∧(0≤dst∧dst≤3)∧(0≤q∧q≤1073741824)∧(0≤a∧a≤1125899906842624)∧(0≤ref∧ref≤39)∧(1≤f∧f≤20)∧((0≤S.done∧S.done≤1000000)∧S.aH.length≤40∧S.aM.length≤40∧S.bK.length≤40)∧S.bG.length≤4∧S.weights.length≤5∧S.methods.length=S.bG.length∧S.cP.length=S.bG.length :=
 ⟨H.he,H.hi,H.hl,H.hd,H.hq,H.ha,H.hr,H.hf,H.od,H.hn,H.hw,H.hm,H.hc⟩
theorem oBo (H:OpI S e item loc dst q a ref f) {V:List (Int×Int)} {X:List Int} (h:kG V X):kG (oV++V) (oX S e item loc dst q a ref f X):=by
 have:=H.bd;exact h.c.c.c.c.c.c.c.c.c.c.c.c.c.c
theorem oLo (H:OpI S e item loc dst q a ref f) {X:List Int} {ss:List (List (List AV))} {L:List (Nat×Poly)} (h:lN (ρl (oX S e item loc dst q a ref f X)) (oS S ss) L):lN (ρl (oX S e item loc dst q a ref f X)) (oS S ss) (oL++L):=by
 have:=H.bd;exact h.c.c.c.c.c.c.c
abbrev oEv (H:OpI S e item loc dst q a ref f) {V:List (Int×Int)} (X:List Int) (vs:List Value) (ss:List (List (List AV))) [ClS ss] {F:List (Poly×Int×Int)} {L:List (Nat×Poly)} {A:List (Nat×Poly×List AV)} {x:List (Nat×List AV×AV)}
  (hV:kG V X) (hF:kJ (ρl (oX S e item loc dst q a ref f X)) F) (hL:lN (ρl (oX S e item loc dst q a ref f X)) (oS S ss) L) (hA:vS (ρl (oX S e item loc dst q a ref f X)) (νl (oVs S vs)) (oS S ss) A) (ho:((oVs S vs).all Value.oneCell')=true:=by rfl):@Ev (fU V F L A x) :=
 evS _ (oX S e item loc dst q a ref f X) (oVs S vs) (oS S ss) (oBo H hV) hF (oLo H hL) hA .nil ho
abbrev ev3 (H:OpI S e item loc dst q a ref f) {V:List (Int×Int)} (X:List Int) (vs:List Value) (ss:List (List (List AV))) [ClS ss] {F:List (Poly×Int×Int)} {L:List (Nat×Poly)} {A:List (Nat×Poly×List AV)} {x:List (Nat×List AV×AV)} (hA:vS (ρl (oX S e item loc dst q a ref f X)) (νl (oVs S vs)) (oS S ss) A) (ho:((oVs S vs).all Value.oneCell')=true:=by rfl) (hV:kG V X:=by repeat (first|exact kG.nil|refine kG.c ?_ (by omega) (by omega))) (hF:kJ (ρl (oX S e item loc dst q a ref f X)) F:=by repeat (first|exact kJ.nil|refine kJ.e ?_)) (hL:lN (ρl (oX S e item loc dst q a ref f X)) (oS S ss) L:=by repeat (first|exact lN.nil|refine lN.c ?_)):@Ev (fU V F L A x) :=oEv H X vs ss hV hF hL hA ho
end
end
section
open Mc
set_option maxRecDepth 1000000
def stC:List AV:=[.o 0,.o 1,.seq 1 1 [] [],.seq 1 2 [] [],.seq 1 3 [] [],.seq 8 0 [] [],.seq 8 4 [] [],.seq 9 5 [] [],.seq 6 6 [] [],.o 2]
def stN:AV:=.agg stC
def sw (l:List bF):List Int:=l.map fun x=>max x.p (-x.p)
namespace ak0
@[reducible] def bkH:Bk:={ vars:=[(-9223372036854775808,9223372036854775807),(-9223372036854775808,9223372036854775807),(0,30),(0,30),(0,60),(-288230376151711744,288230376151711744),(0,288230376151711744),(0,2)],lens:=Kam }
@[reducible] def bkR:Bk:={ vars:=KG,lens:=Kam,bN:=[(112,[stN,.e [([0],1)],.e [([1],1)],.e [([7],1)]],.agg [.seq 3 7 [] [],.o 3,.o 4,.o 5])] }
@[reducible] def bkJ:Bk:={ vars:=[(-9223372036854775808,9223372036854775807),(-9223372036854775808,9223372036854775807),(0,29),(0,30),(0,60),(-288230376151711744,288230376151711744),(0,288230376151711744),(0,1)],facts:=[(Kcg,1,30)],defs:=[(2,[([5],1)],[([5],-1)],[([6],1)])],lens:=Kam,hH:=[(7,[([2],1)],[.o 6,.o 7,.e [([5],1)]])] }
@[reducible] def bkE:Bk:={ vars:=KG,facts:=[(Kcg,0,0)],lens:=Kam }
@[reducible] def amO:Bk:={ vars:=[(-9223372036854775808,9223372036854775807),(-9223372036854775808,9223372036854775807),(0,30),(0,30),(0,60),(-288230376151711744,288230376151711744),(0,0),(2,2)],lens:=Kam,bN:=WZ }
@[reducible] def amN:Bk:={ vars:=[(-9223372036854775808,9223372036854775807),(-9223372036854775808,9223372036854775807),(0,30),(0,30),(0,60),(-288230376151711744,288230376151711744),(2,2),(2,2)],lens:=Kam,bN:=WZ }
def f0:List AV:=[stN,.e [([0],1)],.e [([1],1)]]++List.replicate 42 .undef
def fO:List AV:=[stN,.e [([0],1)],.e [([1],1)],.ptr 10 0 0 0,.fY,.fY,.c (.bool false),.cQ 3 1 1 [([4],1)],.fY,.fY,.fY,.fY,.fY,.e [([7],1)]]++List.replicate 31 .fY
def bO:List Mc.bX:=[.cells 31 10 [stC],.sc 3 1 8 [] [] [([4],1)]]
set_option maxRecDepth 1000000
section
variable {S:bL} {e item:Int}
abbrev vsG (S:bL) (u3 u4 u5 u6 u7:Int):List Value:=(vT S [.int .i64 u3,.int .i64 u4,.int .i64 u5,.int .i64 u6,.int .i64 u7])
abbrev ssG (S:bL) (L:List bF) (ws:List Int):List (List (List AV)):=(sT S [aG L,aA ws])
theorem amy (S:bL) (L:List bF) (ws:List Int):∀l∈ssG S L ws,∀r∈l,∀x∈r,Cl x:=lH (F6 _) (lH (gJ _) (lH (jG _) (lH (jG _) (lH (Ph _) (lH (Pg _) (lH (Pf _) (lH (sK _) (lH (gJ _) aaA))))))))
theorem amC (S:bL) (u3 u4 u5 u6 u7:Int):∀v∈vsG S u3 u4 u5 u6 u7,v.oneCell'=true:=mC rfl (mC rfl (mC rfl (mC rfl (mC rfl (mC rfl (mC rfl (mC rfl aeU)))))))
abbrev evG (b:Bk) (S:bL) (e item i nL nW p a loc u3 u4 u5 u6 u7:Int) (L:List bF) (ws:List Int) (hd:tP (fun k=>([e,item,i,nL,nW,p,a,loc]:List Int).getD k 0) b.defs) (hb:kG b.vars [e,item,i,nL,nW,p,a,loc]) (hf:kJ (fun k=>([e,item,i,nL,nW,p,a,loc]:List Int).getD k 0) b.facts)
  (hl:lN (fun k=>([e,item,i,nL,nW,p,a,loc]:List Int).getD k 0) (ssG S L ws) b.lens) (ha:vS (fun k=>([e,item,i,nL,nW,p,a,loc]:List Int).getD k 0) (fun i=>(vsG S u3 u4 u5 u6 u7).getD i (.bool false)) (ssG S L ws) b.hH) (hk:b.kinds=[]:=by rfl) (hc:b.SU=[]:=by rfl):@Ev b :=
 ajd b [e,item,i,nL,nW,p,a,loc] (vsG S u3 u4 u5 u6 u7) (ssG S L ws) hd hb hf (amC S u3 u4 u5 u6 u7) hl ha (amy S L ws) hk (fun t h=>absurd (hc▸h:t∈[]) List.not_mem_nil)
end
def fC:List AV:=[stN,.e [([0],1)],.e [([1],1)],.ptr 10 0 0 0,.fY,.fY,.c (.bool false),.cQ 3 1 1 [([],1),([4],1)],.fY,.fY,.fY,.fY,.fY,.e [([7],1)],.fY,.fY,.fY,.fY,.fY,.fY,.fY,.seq 3 7 [] [],.e [([3],1)],.e Kcq]++List.replicate 21 .fY
set_option maxHeartbeats 2000000
end ak0
end
section
open Mc
structure Small (l:List dO):Prop where
 ok:∀x∈l,0≤x.a∧x.a<17∧-1125899906842624≤x.n∧x.n≤1125899906842624
 len:l.length≤12
abbrev M58:Int:=288230376151711744
abbrev pB (v:Int):Prop:=-288230376151711744≤v∧v≤288230376151711744
def dR.nil:dR:=⟨⟨0,false,[],[],[],[],[]⟩,[]⟩
def bL.aJ (S:bL) (e:Int):dR:=S.bG.getD e.toNat dR.nil
def bL.cG (S:bL) (e item:Int):Int:=(S.methods.getD e.toNat []).getD item.toNat 0
def bL.cost (S:bL) (e item:Int):Int:=(S.cP.getD e.toNat []).getD item.toNat 0
def dR.bS (x:dR) (k:Int):dF:=x.bM.getD k.toNat ⟨[],0,0,0⟩
def dR.acb (x:dR) (item:Int):List Int:=x.aF.getD item.toNat []
def dR.dG (x:dR) (k:Int) (p:dF):dR:={ x with bM:=x.bM.set k.toNat p }
def dR.uQ (x:dR) (item:Int) (r:List Int):dR:={ x with aF:=x.aF.set item.toNat r }
structure Md (n:Nat) (ms:List Int) (x:EntC):Prop where
 pl:x.bM.length=2*n
 ok:∀(k:Nat) (p:dF),x.bM[k]?=some p→iU (ms.getD (k/2) 0) p.bH p.pn
 bl:x.eJ.length=17
 bb:∀v∈x.eJ,pB v
 rl:x.aF.length=n
 rr:∀r∈x.aF,r.length=11∧∀v∈r,pB v
 pr:x.bD.length=n
 prb:∀v∈x.bD,-1≤v∧v≤M58
 dl:x.down.length=n
 db:∀v∈x.down,0≤v∧v≤M58
 now:1≤x.now∧x.now≤12
structure StOk (S:bL):Prop where
 hn:S.bG.length≤4
 hw:S.weights.length≤5
 Fq:S.methods.length=S.bG.length
 Aa:S.cP.length=S.bG.length
 Fs:∀r∈S.methods,r.length=S.weights.length
 nP:∀r∈S.cP,r.length=S.weights.length
 mb:∀r∈S.methods,∀v∈r,1≤v∧v≤4
 cb:∀r∈S.cP,∀v∈r,0≤v∧v≤1073741824
 aJ:∀(e:Nat) (x:dR),S.bG[e]?=some x→Md S.weights.length (S.methods.getD e []) x.toEntC
 ahead:∀x∈S.bG,∀(e:Nat),S.bG[e]?=some x→∀y∈x.ahead,Md S.weights.length (S.methods.getD e []) y
structure Ix (S:bL) (e item:Int):Prop where
 e0:0≤e
 e1:e<S.bG.length
 i0:0≤item
 i1:item<S.weights.length
section
variable {S:bL} {e item:Int}
theorem StOk.at_ (h:StOk S) (x:Ix S e item):S.bG[e.toNat]?=some (S.aJ e):=getD_some (by have:=x.e0;have:=x.e1;omega)
theorem StOk.CJ (h:StOk S) (x:Ix S e item):Md S.weights.length (S.methods.getD e.toNat []) (S.aJ e).toEntC:=h.aJ _ _ (h.at_ x)
theorem StOk.wx (h:StOk S) (x:Ix S e item):Wx S e item (S.aJ e).now (S.aJ e).closed (S.aJ e).bM (S.aJ e).eJ (S.aJ e).aF (S.aJ e).bD (S.aJ e).down (S.aJ e).ahead (S.methods.getD e.toNat []) (S.cP.getD e.toNat []) (S.cG e item) (S.cost e item):=by
 have E:=h.CJ x;have he:e.toNat<S.bG.length:=by have:=x.e0;have:=x.e1;omega
 have hm:e.toNat<S.methods.length:=by rw[h.Fq];exact he
 have hc:e.toNat<S.cP.length:=by rw[h.Aa];exact he
 have m1:=eL (d:=[]) hm
 have c1:=eL (d:=[]) hc
 have Fs:=h.Fs _ m1;have nP:=h.nP _ c1;have hi:item.toNat<S.weights.length:=by have:=x.i0;have:=x.i1;omega
 have m2:=h.mb _ m1 _ (eL (d:=0) (k:=item.toNat) (by omega))
 have c2:=h.cb _ c1 _ (eL (d:=0) (k:=item.toNat) (by omega))
 exact⟨h.hn,x.e0,x.e1,h.at_ x,h.hw,x.i0,x.i1,h.Fq,h.Aa,getD_some hm,getD_some hc,Fs,nP,E.pl,E.rl,getD_some (by omega),getD_some (by omega),⟨by unfold bL.cG;omega,by unfold bL.cG;omega⟩,⟨by unfold bL.cost;omega,by unfold bL.cost;omega⟩⟩
theorem StOk.mb' (h:StOk S) (x:Ix S e item):1≤S.cG e item∧S.cG e item≤4:=by
 have he:e.toNat<S.bG.length:=by have:=x.e0;have:=x.e1;omega
 have hm:e.toNat<S.methods.length:=by rw[h.Fq];exact he
 have m1:=eL (d:=[]) hm
 have Fs:=h.Fs _ m1;have hi:item.toNat<S.weights.length:=by have:=x.i0;have:=x.i1;omega
 exact h.mb _ m1 _ (eL (d:=0) (k:=item.toNat) (by omega))
theorem StOk.cb' (h:StOk S) (x:Ix S e item):0≤S.cost e item∧S.cost e item≤1073741824:=by
 have he:e.toNat<S.bG.length:=by have:=x.e0;have:=x.e1;omega
 have hc:e.toNat<S.cP.length:=by rw[h.Aa];exact he
 have c1:=eL (d:=[]) hc
 have nP:=h.nP _ c1;have hi:item.toNat<S.weights.length:=by have:=x.i0;have:=x.i1;omega
 exact h.cb _ c1 _ (eL (d:=0) (k:=item.toNat) (by omega))
theorem StOk.plt (h:StOk S) (x:Ix S e item) {loc:Int} (l0:0≤loc) (l1:loc≤1):(2*item+loc).toNat<(S.aJ e).bM.length:=by
 have:=(h.CJ x).pl;have:=x.i0;have:=x.i1
 omega
theorem StOk.pat (h:StOk S) (x:Ix S e item) {loc:Int} (l0:0≤loc) (l1:loc≤1):(S.aJ e).bM[(2*item+loc).toNat]?=some ((S.aJ e).bS (2*item+loc)):=getD_some (h.plt x l0 l1)
theorem StOk.Rv (h:StOk S) (x:Ix S e item) {loc:Int} (l0:0≤loc) (l1:loc≤1):iU (S.cG e item) ((S.aJ e).bS (2*item+loc)).bH ((S.aJ e).bS (2*item+loc)).pn:=by
 have k:=(h.CJ x).ok _ _ (h.pat x l0 l1)
 have e1:(2*item+loc).toNat/2=item.toNat:=by have:=x.i0;omega
 rw[e1]at k;exact k
theorem Ix.ie (x:Ix S e item) (h:StOk S):jY e:=by have:=x.e0;have:=x.e1;have:=h.hn;exact⟨by omega,by omega⟩
def cE (S:bL) (e item:Int):bF×Bool :=
 let a:=((S.aJ e).bS (2*item)).bH
 let b:=((S.aJ e).bS (2*item+1)).bH
 (⟨dU [qs a,qs b],dU [vs a,vs b],dU [ps a,ps b]⟩,decide (eI [qs a,qs b]=0∧eI [vs a,vs b]=0∧eI [ps a,ps b]=0))
theorem FI (l:List Int):eI l=0∨eI l=2:=by unfold eI;split<;>simp
theorem agh {a b:Int} (h1:jY a) (h2:jY b):eH [a,b]:=by
 intro v hv;simp only[List.mem_cons,List.not_mem_nil,or_false]at hv;rcases hv with rfl|rfl
 ·exact h1
 ·exact h2
def N5 (S:bL) (e item:Int):Bool:=decide (eI (sw ((S.aJ e).bS (2*item)).bH++sw ((S.aJ e).bS (2*item+1)).bH)=0)
end
end
section
open Mc
theorem abe {l:List bF} {x:bF}:fF (AY l x).2:=by
 unfold AY;split
 ·exact⟨by simp,by simp⟩
 ·split
  ·exact⟨by simp,by simp⟩
  ·split<;>exact⟨by simp,by simp⟩
theorem O1 {l:List bF} {x:bF}:fF (zZ l x).2:=by
 unfold zZ;split
 ·exact⟨by simp,by simp⟩
 ·exact abe
theorem ahG {l:List bF} {x:bF} {c:Int}:fF (inC l x c).2.2:=by
 unfold inC;split
 ·exact⟨by simp,by simp⟩
 ·split
  ·exact⟨by simp,by simp⟩
  ·split
   ·exact⟨by simp,by simp⟩
   ·exact O1
theorem EP {m c:Int} {l:List bF} {x:bF}:fF (dZ m c l x).2.2:=by
 unfold dZ;split
 ·exact abe
 ·split
  ·exact O1
  ·split
   ·exact O1
   ·split
    ·exact ahG
    ·exact⟨by simp,by simp⟩
theorem I4 {l:List bF} {q:Int}:fF (dJ l q).2.2:=by
 unfold dJ;split
 ·exact⟨by simp,by simp⟩
 ·split<;>exact⟨by simp,by simp⟩
theorem aeI {l:List bF} {d:rM} {q:Int}:fF (zO l d q).2.2:=by
 unfold zO;split
 ·exact⟨by simp,by simp⟩
 ·split
  ·exact⟨by simp,by simp⟩
  ·exact I4
theorem aeJ {l:List bF} {q c:Int}:fF (AD l q c).2.2:=by
 have h:=@I4 l q
 unfold AD;split
 ·exact⟨by simp,by simp⟩
 ·split
  ·rename_i y e hS;rw[hS]at h;exact h
  ·rename_i z t y e hS
   rw[hS]at h;split
   ·exact h
   ·exact⟨by simp,by simp⟩
theorem abR {l:List bF} {d:rM} {k q:Int}:fF (pC l d k q).2:=by
 unfold pC;split
 ·exact⟨by simp,by simp⟩
 ·split<;>exact⟨by simp,by simp⟩
theorem AA {m c:Int} {l:List bF} {d:rM} {kind q:Int}:fF (cC m c l d kind q).2.2.2.2:=by
 unfold cC;split
 ·exact⟨by simp,by simp⟩
 ·split
  ·exact⟨by simp,by simp⟩
  ·split
   ·exact abR
   ·simp only[eY]
    split
    ·exact aeI
    ·split
     ·exact aeJ
     ·exact I4
theorem abd {l:List bF} {x:bF} (h:(AY l x).2=0):1≤x.q∧x.q≤288230376151711744∧0≤x.v∧x.v≤288230376151711744∧-288230376151711744≤x.p∧x.p≤288230376151711744:=by
 unfold AY at h;split at h
 ·cases h
 ·split at h
  ·cases h
  ·split at h
   ·rename_i hr
    exact(LR.of hr).at_ (x:=x) (by simp)
   ·cases h
theorem O0 {l:List bF} {x:bF} (h:(zZ l x).2=0):1≤x.q∧x.q≤288230376151711744∧0≤x.v∧x.v≤288230376151711744∧-288230376151711744≤x.p∧x.p≤288230376151711744:=by
 unfold zZ at h;split at h
 ·exact abd ‹_›
 ·exact absurd h ‹_›
theorem zL {m c:Int} {l l':List bF} {x:bF} {up:Int} (h:dZ m c l x=(l',up,0)):0≤x.v∧x.v≤288230376151711744∧-288230376151711744≤up∧up≤288230376151711744∧0≤x.v-up∧x.v-up≤288230376151711744∧1≤x.q:=by
 unfold dZ at h;split at h
 ·have:=abd (l:=l) (x:=x) (congrArg (fun r=>r.2.2) h)
  have hu:up=0:=(congrArg (fun r=>r.2.1) h).symm
  omega
 ·split at h
  ·have:=O0 (l:=l) (x:=x) (congrArg (fun r=>r.2.2) h)
   have hu:up=0:=(congrArg (fun r=>r.2.1) h).symm
   omega
  ·split at h
   ·have:=O0 (l:=l) (x:=x) (congrArg (fun r=>r.2.2) h)
    have hu:up=0:=(congrArg (fun r=>r.2.1) h).symm
    omega
   ·split at h
    ·unfold inC at h
     split at h
     ·exact absurd (congrArg (fun r=>r.2.2) h) (by simp)
     ·split at h
      ·exact absurd (congrArg (fun r=>r.2.2) h) (by simp)
      ·split at h
       ·rename_i h1 h2 h3
        have:=O0 h3
        simp only at this
        have hu:up=x.v-Nn c x.q:=(congrArg (fun r=>r.2.1) h).symm
        omega
       ·rename_i h3
        exact absurd (congrArg (fun r=>r.2.2) h) h3
    ·exact absurd (congrArg (fun r=>r.2.2) h) (by simp)
theorem StOk.bT {S:bL} (h:StOk S) {e:Int} {x:dR} (e0:0≤e) (hx:Md S.weights.length (S.methods.getD e.toNat []) x.toEntC) (ha:∀y∈x.ahead,Md S.weights.length (S.methods.getD e.toNat []) y):StOk (S.bT e x):=by
 refine⟨by simp only[bL.bT,List.length_set];exact h.hn,h.hw,by simp only[bL.bT,List.length_set];exact h.Fq,by simp only[bL.bT,List.length_set];exact h.Aa,h.Fs,h.nP,h.mb,h.cb,?_,?_⟩
 ·intro k y hy
  simp only[bL.bT]at hy ⊢;rw[List.getElem?_set]at hy;split at hy
  ·rename_i hk
   subst hk;split at hy
   ·cases hy;exact hx
   ·cases hy
  ·exact h.aJ k y hy
 ·intro y hym k hy z hz
  simp only[bL.bT]at hy ⊢;rw[List.getElem?_set]at hy;split at hy
  ·rename_i hk
   subst hk;split at hy
   ·cases hy;exact ha z hz
   ·cases hy
  ·exact h.ahead y (List.mem_of_getElem? hy) k hy z hz
section
variable {S:bL} {e item:Int}
theorem StOk.dG (h:StOk S) (x:Ix S e item) {loc:Int} (l0:0≤loc) (l1:loc≤1) {p:dF} (hp:iU (S.cG e item) p.bH p.pn):StOk (S.bT e ((S.aJ e).dG (2*item+loc) p)):=by
 have E:=h.CJ x;refine h.bT x.e0 ?_ (h.ahead _ (List.mem_of_getElem? (h.at_ x)) _ (h.at_ x))
 refine⟨by simp only[dR.dG,List.length_set];exact E.pl,?_,E.bl,E.bb,E.rl,E.rr,E.pr,E.prb,E.dl,E.db,E.now⟩
 intro k q hq;simp only[dR.dG]at hq;rw[List.getElem?_set]at hq;split at hq
 ·rename_i hk
  subst hk;split at hq
  ·cases hq
   have e1:(2*item+loc).toNat/2=item.toNat:=by have:=x.i0;omega
   rw[e1];exact hp
  ·cases hq
 ·exact E.ok k q hq
theorem Ix.bT (x:Ix S e item) {e':Int} {y:dR}:Ix (S.bT e' y) e item:=⟨x.e0,by simp only[bL.bT,List.length_set];exact x.e1,x.i0,x.i1⟩
def eB (S:bL) (e item loc:Int) (y:bF):bL×Int×Int×Int :=
 if(dZ (S.cG e item) (S.cost e item) ((S.aJ e).bS (2*item+loc)).bH y).2.2≠0 then(S,0,0,(dZ (S.cG e item) (S.cost e item) ((S.aJ e).bS (2*item+loc)).bH y).2.2)
 else if(cE (S.bT e ((S.aJ e).dG (2*item+loc) { (S.aJ e).bS (2*item+loc)with bH:=(dZ (S.cG e item) (S.cost e item) ((S.aJ e).bS (2*item+loc)).bH y).1 })) e item).2=false then(S,0,0,2)
 else if N5 (S.bT e ((S.aJ e).dG (2*item+loc) { (S.aJ e).bS (2*item+loc)with bH:=(dZ (S.cG e item) (S.cost e item) ((S.aJ e).bS (2*item+loc)).bH y).1 })) e item=false then(S,0,0,2)
 else(S.bT e ((S.aJ e).dG (2*item+loc) { (S.aJ e).bS (2*item+loc)with bH:=(dZ (S.cG e item) (S.cost e item) ((S.aJ e).bS (2*item+loc)).bH y).1 }),y.v-(dZ (S.cG e item) (S.cost e item) ((S.aJ e).bS (2*item+loc)).bH y).2.1,(dZ (S.cG e item) (S.cost e item) ((S.aJ e).bS (2*item+loc)).bH y).2.1,0)
def dD (S:bL) (e item loc kind q:Int):bL×bF×Bool×Int :=
 if(cC (S.cG e item) (S.cost e item) ((S.aJ e).bS (2*item+loc)).bH ((S.aJ e).bS (2*item+loc)).pn kind q).2.2.2.2≠0 then(S,⟨0,0,0⟩,false,(cC (S.cG e item) (S.cost e item) ((S.aJ e).bS (2*item+loc)).bH ((S.aJ e).bS (2*item+loc)).pn kind q).2.2.2.2)
 else(S.bT e ((S.aJ e).dG (2*item+loc) ⟨(cC (S.cG e item) (S.cost e item) ((S.aJ e).bS (2*item+loc)).bH ((S.aJ e).bS (2*item+loc)).pn kind q).1,(cC (S.cG e item) (S.cost e item) ((S.aJ e).bS (2*item+loc)).bH ((S.aJ e).bS (2*item+loc)).pn kind q).2.1.a,(cC (S.cG e item) (S.cost e item) ((S.aJ e).bS (2*item+loc)).bH ((S.aJ e).bS (2*item+loc)).pn kind q).2.1.b,(cC (S.cG e item) (S.cost e item) ((S.aJ e).bS (2*item+loc)).bH ((S.aJ e).bS (2*item+loc)).pn kind q).2.1.c⟩),(cC (S.cG e item) (S.cost e item) ((S.aJ e).bS (2*item+loc)).bH ((S.aJ e).bS (2*item+loc)).pn kind q).2.2.1,(cC (S.cG e item) (S.cost e item) ((S.aJ e).bS (2*item+loc)).bH ((S.aJ e).bS (2*item+loc)).pn kind q).2.2.2.1,0)
def L4:List Int→List Int→Option (List Int)
 |a::l,b::r=>if mK a b=0 then(L4 l r).map (mW a b::·)else none
 |_,_=>some []
def eO (S:bL) (e item:Int) (r:List Int):bL×Int :=
 match L4 ((S.aJ e).acb item) r with
 |none=>(S,2)
 |some s=>(S.bT e ((S.aJ e).uQ item s),0)
theorem mX (a b:Int):mK a b=0∨mK a b=2:=by unfold mK;split<;>simp
theorem air (a b:Int):pB (mW a b):=by
 unfold mW;split
 ·rename_i h
  have:=xE h
  exact⟨by omega,by omega⟩
 ·exact⟨by omega,by omega⟩
theorem OW {l:List Int} (h:l.length=11):∃r0 r1 r2 r3 r4 r5 r6 r7 r8 r9 r10,l=[r0,r1,r2,r3,r4,r5,r6,r7,r8,r9,r10]:=by
 match l,h with
 |[r0,r1,r2,r3,r4,r5,r6,r7,r8,r9,r10],_=>exact⟨_,_,_,_,_,_,_,_,_,_,_,rfl⟩
theorem aaI (h:StOk S) (x:Ix S e item):(S.aJ e).aF[item.toNat]?=some ((S.aJ e).acb item):=getD_some (by have:=(h.CJ x).rl;have:=x.i0;have:=x.i1;omega)
theorem aaH (h:StOk S) (x:Ix S e item):((S.aJ e).acb item).length=11∧∀v∈(S.aJ e).acb item,pB v:=(h.CJ x).rr _ (List.mem_of_getElem? (aaI h x))
def dH (S:bL) (e:Int) (l:List dO):bL×Int :=
 if(cY l).2≠0 then(S,(cY l).2)else if(tY (S.aJ e).eJ (cY l).1).2≠0 then(S,(tY (S.aJ e).eJ (cY l).1).2)else(S.bT e ((S.aJ e).Iv (tY (S.aJ e).eJ (cY l).1).1),0)
theorem Nc (b:List Int) (l:List dO):fF (tY b l).2:=by
 unfold tY;split
 ·exact⟨by simp,by simp⟩
 ·unfold aaS
  split
  ·exact⟨by simp,by simp⟩
  ·split<;>exact⟨by simp,by simp⟩
end
end
section
open Mc
structure Kin (S S1:bL):Prop where
 eq:S1=S.aZ S1.bG
 len:S1.bG.length=S.bG.length
 ok:StOk S1
theorem Kin.refl {S:bL} (h:StOk S):Kin S S:=⟨rfl,rfl,h⟩
theorem Kin.trans {S S1 S2:bL} (h:Kin S S1) (g:Kin S1 S2):Kin S S2:=⟨by rw[g.eq,h.eq];rfl,g.len.trans h.len,g.ok⟩
theorem Kin.ix {S S1:bL} (h:Kin S S1) {e item:Int} (x:Ix S e item):Ix S1 e item:=⟨x.e0,by rw[h.len];exact x.e1,x.i0,by rw[h.eq];exact x.i1⟩
theorem Kin.bT {S:bL} {e:Int} {y:dR} (h:StOk (S.bT e y)):Kin S (S.bT e y):=⟨rfl,by simp[bL.bT],h⟩
section
variable {S:bL} {e item:Int}
theorem Po (h:StOk S) (x:Ix S e item) {loc:Int} (l0:0≤loc) (l1:loc≤1) (y:bF) :
  Kin S (eB S e item loc y).1∧fF (eB S e item loc y).2.2.2∧pB (eB S e item loc y).2.1∧pB (eB S e item loc y).2.2.1∧((eB S e item loc y).2.2.2≠0→(eB S e item loc y).1=S∧(eB S e item loc y).2.1=0∧(eB S e item loc y).2.2.1=0):=by
 have hpo:=h.Rv x l0 l1;have hm:=h.mb' x;have her:=@EP (S.cG e item) (S.cost e item) ((S.aJ e).bS (2*item+loc)).bH y
 have hset:=fun p hp=>h.dG x (p:=p) l0 l1 hp
 unfold eB;obtain⟨l',up,e',hI⟩:∃l' up e',dZ (S.cG e item) (S.cost e item) ((S.aJ e).bS (2*item+loc)).bH y=(l',up,e'):=⟨_,_,_,rfl⟩
 have k1:=hpo.in_ hm hI;have k3:e'=0→_:=fun(h0:e'=0)=>zL (by rw[hI,h0])
 simp only[hI]at her ⊢;clear hI;have k:=Kin.bT (hset { (S.aJ e).bS (2*item+loc)with bH:=l' } k1.1)
 split
 ·exact⟨Kin.refl h,her,⟨by simp,by simp⟩,⟨by simp,by simp⟩,fun _=>⟨rfl,rfl,rfl⟩⟩
 ·rename_i he
  have he:e'=0:=by simpa using he
  have k3:=k3 he;split
  ·exact⟨Kin.refl h,⟨by simp,by simp⟩,⟨by simp,by simp⟩,⟨by simp,by simp⟩,fun _=>⟨rfl,rfl,rfl⟩⟩
  ·split
   ·exact⟨Kin.refl h,⟨by simp,by simp⟩,⟨by simp,by simp⟩,⟨by simp,by simp⟩,fun _=>⟨rfl,rfl,rfl⟩⟩
   ·exact⟨k,⟨by simp,by simp⟩,⟨by simp only;omega,by simp only;omega⟩,⟨by simp only;omega,by simp only;omega⟩,fun h=>absurd rfl h⟩
theorem On {m c:Int} {l:List bF} {d:rM} {kind q:Int} (hp:iU m l d) (hm:1≤m∧m≤4) (hk:0≤kind∧kind≤3):-288230376151711744≤(cC m c l d kind q).2.2.1.v∧(cC m c l d kind q).2.2.1.v≤288230376151711744:=by
 obtain⟨k1,k2⟩:=hp.alV (c:=c) (kind:=kind) (q:=q) hm hk (l':=(cC m c l d kind q).1) (d':=(cC m c l d kind q).2.1) (y:=(cC m c l d kind q).2.2.1) (wt:=(cC m c l d kind q).2.2.2.1) (e':=(cC m c l d kind q).2.2.2.2) rfl
 have h1:=hp.lr.v;have h2:=(gW hp.lr.ok).2.1
 have h3:=k1.lr.v;have h4:=(gW k1.lr.ok).2.1
 omega
theorem T9 {m c:Int} {l:List bF} {d:rM} {kind q:Int} (hl:LR l):(0≤(cC m c l d kind q).2.2.1.q∧(cC m c l d kind q).2.2.1.q≤288230376151711744)∧-576460752303423488≤(cC m c l d kind q).2.2.1.p∧(cC m c l d kind q).2.2.1.p≤576460752303423488:=by
 have k:=aeH hl (q:=q)
 unfold cC;split
 ·simp[bF.zero]
 ·split
  ·simp[bF.zero]
  ·split
   ·simp[bF.zero]
   ·simp only[eY]
    split
    ·unfold zO
     split
     ·simp[bF.zero]
     ·split
      ·simp[bF.zero]
      ·exact k
    ·split
     ·unfold AD
      split
      ·simp[bF.zero]
      ·split
       ·rename_i y e hS;rw[hS]at k;exact k
       ·rename_i z t y e hS
        rw[hS]at k;split
        ·exact k
        ·exact k
     ·exact k
theorem O7 (h:StOk S) (x:Ix S e item) {loc kind:Int} (l0:0≤loc) (l1:loc≤1) (k0:0≤kind) (k1:kind≤3) (q:Int) :
  Kin S (dD S e item loc kind q).1∧fF (dD S e item loc kind q).2.2.2∧pB (dD S e item loc kind q).2.1.v∧((0≤(dD S e item loc kind q).2.1.q∧(dD S e item loc kind q).2.1.q≤288230376151711744)∧-576460752303423488≤(dD S e item loc kind q).2.1.p∧(dD S e item loc kind q).2.1.p≤576460752303423488)∧((dD S e item loc kind q).2.2.2≠0→(dD S e item loc kind q).1=S∧(dD S e item loc kind q).2.1=⟨0,0,0⟩∧(dD S e item loc kind q).2.2.1=false):=by
 have hpo:=h.Rv x l0 l1;have hm:=h.mb' x;have her:=@AA (S.cG e item) (S.cost e item) ((S.aJ e).bS (2*item+loc)).bH ((S.aJ e).bS (2*item+loc)).pn kind q
 have hv:=On (c:=S.cost e item) (kind:=kind) (q:=q) hpo hm ⟨k0,k1⟩
 have hi:=T9 (m:=S.cG e item) (c:=S.cost e item) (d:=((S.aJ e).bS (2*item+loc)).pn) (kind:=kind) (q:=q) hpo.lr
 unfold dD;obtain⟨l',d',y,wt,e',hO⟩:∃l' d' y wt e',cC (S.cG e item) (S.cost e item) ((S.aJ e).bS (2*item+loc)).bH ((S.aJ e).bS (2*item+loc)).pn kind q=(l',d',y,wt,e'):=⟨_,_,_,_,_,rfl⟩
 have k:=hpo.alV hm ⟨k0,k1⟩ hO
 simp only[hO]at her hv hi ⊢;clear hO;have kk:=Kin.bT (h.dG x l0 l1 (p:=⟨l',d'.a,d'.b,d'.c⟩) k.1)
 split
 ·exact⟨Kin.refl h,her,⟨by simp,by simp⟩,by simp,fun _=>⟨rfl,rfl,rfl⟩⟩
 ·exact⟨kk,⟨by simp,by simp⟩,⟨by simp only;omega,by simp only;omega⟩,hi,fun h=>absurd rfl h⟩
theorem Tc:∀(a b s:List Int),a.length=b.length→L4 a b=some s→s.length=a.length∧∀v∈s,pB v
 |[],[],s,_,h=>by simp[L4]at h;subst h;simp
 |[],_::_,s,hl,h=>by simp at hl
 |_::_,[],s,hl,h=>by simp at hl
 |a::l,b::r,s,hl,h=>by
  simp only[L4]at h;split at h
  ·cases hx:L4 l r with
   |none=>rw[hx]at h;cases h
   |some t =>
    rw[hx]at h;cases h;obtain⟨h1,h2⟩:=Tc l r t (by simpa using hl) hx
    refine⟨by simp[h1],?_⟩
    intro v hv;rcases List.mem_cons.1 hv with rfl|hv
    ·exact air _ _
    ·exact h2 v hv
  ·cases h
theorem StOk.uQ (h:StOk S) (x:Ix S e item) {r:List Int} (hr:r.length=11∧∀v∈r,pB v):StOk (S.bT e ((S.aJ e).uQ item r)):=by
 have E:=h.CJ x;refine h.bT x.e0 ?_ (h.ahead _ (List.mem_of_getElem? (h.at_ x)) _ (h.at_ x))
 refine⟨E.pl,E.ok,E.bl,E.bb,by simp only[dR.uQ,List.length_set];exact E.rl,?_,E.pr,E.prb,E.dl,E.db,E.now⟩
 intro q hq;simp only[dR.uQ]at hq;rcases List.mem_or_eq_of_mem_set hq with hq|rfl
 ·exact E.rr q hq
 ·exact hr
theorem PN (h:StOk S) (x:Ix S e item) {r:List Int} (hr:r.length=11):Kin S (eO S e item r).1∧fF (eO S e item r).2∧((eO S e item r).2≠0→(eO S e item r).1=S):=by
 have hro:=aaH h x;unfold eO;split
 ·exact⟨Kin.refl h,⟨by simp,by simp⟩,fun _=>rfl⟩
 ·rename_i s hs
  obtain⟨k1,k2⟩:=Tc _ _ _ (by rw[hro.1,hr]) hs
  exact⟨Kin.bT (h.uQ x ⟨by rw[k1,hro.1],k2⟩),⟨by simp,by simp⟩,fun h=>absurd rfl h⟩
theorem Td:∀(m:List dO) (eJ next:List Int),(∀v∈eJ,pB v)→jW eJ m=some next→∀v∈next,pB v
 |[],eJ,next,hI,h=>by simp[jW]at h;rw[←h];exact hI
 |x::m,eJ,next,hI,h=>by
  simp only[jW]at h;split at h
  ·rename_i ho
   have hb:=xE ho;refine Td m _ _ (fun z hz=>?_) h
   rcases List.mem_or_eq_of_mem_set hz with h|rfl
   ·exact hI z h
   ·exact⟨by omega,by omega⟩
  ·cases h
theorem ad8 {b:List Int} {l:List dO} (hb:b.length=17) (hB:∀v∈b,pB v):(tY b l).1.length=17∧∀v∈(tY b l).1,pB v:=by
 unfold tY;split
 ·simp only[aea]
  cases h:jW b (cY l).1 with
  |none=>simp only[Option.getD_none];exact⟨hb,hB⟩
  |some n=>simp only[Option.getD_some];exact⟨by rw[L5 _ _ _ h,hb],Td _ _ _ hB h⟩
 ·exact⟨hb,hB⟩
theorem StOk.Iv (h:StOk S) (x:Ix S e item) {b:List Int} (hb:b.length=17∧∀v∈b,pB v):StOk (S.bT e ((S.aJ e).Iv b)):=by
 have E:=h.CJ x;refine h.bT x.e0 ?_ (h.ahead _ (List.mem_of_getElem? (h.at_ x)) _ (h.at_ x))
 exact⟨E.pl,E.ok,hb.1,hb.2,E.rl,E.rr,E.pr,E.prb,E.dl,E.db,E.now⟩
theorem Rr (h:StOk S) (x:Ix S e item) (l:List dO):Kin S (dH S e l).1∧fF (dH S e l).2∧((dH S e l).2≠0→(dH S e l).1=S):=by
 have E:=h.CJ x;have e1:=zM l;have e2:=Nc (S.aJ e).eJ (cY l).1
 have e3:=ad8 (l:=(cY l).1) E.bl E.bb
 unfold dH;split
 ·exact⟨Kin.refl h,e1.1,fun _=>rfl⟩
 ·split
  ·exact⟨Kin.refl h,e2,fun _=>rfl⟩
  ·exact⟨Kin.bT (h.Iv x e3),⟨by simp,by simp⟩,fun h=>absurd rfl h⟩
end
end
section
open Mc
set_option maxRecDepth 1000000
section
variable {S:bL} {e item:Int}
theorem eQ (h:StOk S) (x:Ix S e item):Ck 89 [S.av,.i e,.i item] (.i (if(S.aJ e).closed then 7 else 0)):=by
 have H:=h.wx x;have:=H.bd;generalize (S.aJ e).closed=cl at *
 cases cl with
 |true=>exact cw (A2 Kcm [] [] [] [] [] [] []) (ev2 H [] [] [] .nil) BF (.i 7) kn
 |false=>exact cw (A2 Kcd [] [] [] [] [] [] []) (ev2 H [] [] [] .nil) BF (.i 0) kn
theorem kD (h:StOk S) (x:Ix S e item) {loc:Int} (l0:0≤loc) (l1:loc≤1):Ck 121 [S.av,.i e,.i item,.i loc] ((S.aJ e).bS (2*item+loc)).av:=by
 have H:=h.wx x;have:=H.bd;have hp:=h.pat x l0 l1;have hl:=(h.Rv x l0 l1).lr.len
 generalize (S.aJ e).bS (2*item+loc)=P at *
 obtain⟨L,p0,p1,p2⟩:=P;simp only at hl
 exact cw (A2 (.o 4) [(0,1),(0,30)] Dd [(15,[([7],1)])] W5 [] [] []) (ev2 H [loc,(L.length:Int)] [.I p0,.I p1,.I p2] [aG L] (.d (aQ hp) .nil)) G1 BR kn
theorem EY (h:StOk S) (x:Ix S e item):Ck 88 [S.av,.i e,.i item] (.bB [(cE S e item).1.av,.i (if(cE S e item).2 then 0 else 2)]):=by
 have:=x.e0;have:=x.e1;have:=h.hn;have:=x.i0;have:=x.i1;have:=h.hw
 have h0:=kD h x (loc:=0) (by omega) (by omega)
 have h1:=kD h x (loc:=1) (by omega) (by omega)
 have r0:=(h.Rv x (loc:=0) (by omega) (by omega)).lr
 have r1:=(h.Rv x (loc:=1) (by omega) (by omega)).lr
 rw[Int.add_zero]at h0 r0;have c0:=r0.bds;have c1:=r1.bds
 unfold cE;generalize (S.aJ e).bS (2*item)=P0 at *
 generalize (S.aJ e).bS (2*item+1)=P1 at *
 obtain⟨L0,a0,a1,a2⟩:=P0;obtain⟨L1,b0,b1,b2⟩:=P1;dsimp only at *
 have t0:=oG (p0:=a0) (p1:=a1) (p2:=a2) r0
 have t1:=oG (p0:=b0) (p1:=b1) (p2:=b2) r1
 have sq:=Et [qs L0,qs L1] (agh c0.1 c1.1)
 have sv:=Et [vs L0,vs L1] (agh c0.2.1 c1.2.1)
 have sw:=Et [ps L0,ps L1] (agh c0.2.2 c1.2.2)
 have e1:=FI [qs L0,qs L1];have e2:=FI [vs L0,vs L1];have e3:=FI [ps L0,ps L1]
 simp only[decide_eq_true_eq];generalize dU [qs L0,qs L1]=q at *;generalize dU [vs L0,vs L1]=v at *;generalize dU [ps L0,ps L1]=w at *
 generalize eI [qs L0,qs L1]=f1 at *;generalize eI [vs L0,vs L1]=f2 at *;generalize eI [ps L0,ps L1]=f3 at *
 generalize qs L0=q0 at *;generalize vs L0=v0 at *;generalize ps L0=w0 at *
 generalize qs L1=q1 at *;generalize vs L1=v1 at *;generalize ps L1=w1 at *
 rcases e1 with rfl|rfl<;>rcases e2 with rfl|rfl<;>rcases e3 with rfl|rfl
 ·exact cw _ (ev1 { vars:=KcD,bN:=[Yj,UM,Yk,UN,WI,WA,WB] } [e,item] [.I S.aB,.I S.aD,.I S.done,.I q0,.I v0,.I w0,.I q1,.I v1,.I w1,.I q,.I v,.I w,.I a0,.I a1,.I a2,.I b0,.I b1,.I b2] (sT S [aG L0,aG L1]) .nil) BG (.bB [(.agg [.o 9,.o 10,.o 11]),.i 0]) (kc h0 (kc t0 (kc h1 (kc t1 (kc sq (kc sv (kc sw kn)))))))
 ·exact cw _ (ev1 { vars:=KcD,bN:=[Yj,UM,Yk,UN,WI,WA,WC] } [e,item] [.I S.aB,.I S.aD,.I S.done,.I q0,.I v0,.I w0,.I q1,.I v1,.I w1,.I q,.I v,.I w,.I a0,.I a1,.I a2,.I b0,.I b1,.I b2] (sT S [aG L0,aG L1]) .nil) BG GM (kc h0 (kc t0 (kc h1 (kc t1 (kc sq (kc sv (kc sw kn)))))))
 ·exact cw _ (ev1 { vars:=KcD,bN:=[Yj,UM,Yk,UN,WI,WD,WB] } [e,item] [.I S.aB,.I S.aD,.I S.done,.I q0,.I v0,.I w0,.I q1,.I v1,.I w1,.I q,.I v,.I w,.I a0,.I a1,.I a2,.I b0,.I b1,.I b2] (sT S [aG L0,aG L1]) .nil) BG GM (kc h0 (kc t0 (kc h1 (kc t1 (kc sq (kc sv (kc sw kn)))))))
 ·exact cw _ (ev1 { vars:=KcD,bN:=[Yj,UM,Yk,UN,WI,WD,WC] } [e,item] [.I S.aB,.I S.aD,.I S.done,.I q0,.I v0,.I w0,.I q1,.I v1,.I w1,.I q,.I v,.I w,.I a0,.I a1,.I a2,.I b0,.I b1,.I b2] (sT S [aG L0,aG L1]) .nil) BG GM (kc h0 (kc t0 (kc h1 (kc t1 (kc sq (kc sv (kc sw kn)))))))
 ·exact cw _ (ev1 { vars:=KcD,bN:=[Yj,UM,Yk,UN,WJ,WA,WB] } [e,item] [.I S.aB,.I S.aD,.I S.done,.I q0,.I v0,.I w0,.I q1,.I v1,.I w1,.I q,.I v,.I w,.I a0,.I a1,.I a2,.I b0,.I b1,.I b2] (sT S [aG L0,aG L1]) .nil) BG GM (kc h0 (kc t0 (kc h1 (kc t1 (kc sq (kc sv (kc sw kn)))))))
 ·exact cw _ (ev1 { vars:=KcD,bN:=[Yj,UM,Yk,UN,WJ,WA,WC] } [e,item] [.I S.aB,.I S.aD,.I S.done,.I q0,.I v0,.I w0,.I q1,.I v1,.I w1,.I q,.I v,.I w,.I a0,.I a1,.I a2,.I b0,.I b1,.I b2] (sT S [aG L0,aG L1]) .nil) BG GM (kc h0 (kc t0 (kc h1 (kc t1 (kc sq (kc sv (kc sw kn)))))))
 ·exact cw _ (ev1 { vars:=KcD,bN:=[Yj,UM,Yk,UN,WJ,WD,WB] } [e,item] [.I S.aB,.I S.aD,.I S.done,.I q0,.I v0,.I w0,.I q1,.I v1,.I w1,.I q,.I v,.I w,.I a0,.I a1,.I a2,.I b0,.I b1,.I b2] (sT S [aG L0,aG L1]) .nil) BG GM (kc h0 (kc t0 (kc h1 (kc t1 (kc sq (kc sv (kc sw kn)))))))
 ·exact cw _ (ev1 { vars:=KcD,bN:=[Yj,UM,Yk,UN,WJ,WD,WC] } [e,item] [.I S.aB,.I S.aD,.I S.done,.I q0,.I v0,.I w0,.I q1,.I v1,.I w1,.I q,.I v,.I w,.I a0,.I a1,.I a2,.I b0,.I b1,.I b2] (sT S [aG L0,aG L1]) .nil) BG GM (kc h0 (kc t0 (kc h1 (kc t1 (kc sq (kc sv (kc sw kn)))))))
theorem EZ (h:StOk S) (x:Ix S e item):Ck 52 [S.av,.i e,.i item] (cE S e item).1.av:=by
 have:=x.e0;have:=x.e1;have:=h.hn;have:=x.i0;have:=x.i1;have:=h.hw
 have hw:=EY h x;obtain⟨f,hf⟩:∃f:Int,f=if(cE S e item).2 then 0 else 2:=⟨_,rfl⟩
 rw[←hf]at hw;have:0≤f∧f≤2:=by rw[hf];split<;>omega
 clear hf;generalize (cE S e item).1=t at *
 obtain⟨q,v,w⟩:=t;exact cw _ (ev1 { vars:=[(0,3),(0,4),(0,2)],bN:=[(88,BG,(.bB [Kbr,.v 2]))] } [e,item,f] [.I S.aB,.I S.aD,.I S.done,.I q,.I v,.I w] (sT S []) .nil) BG Kbr (kc hw kn)
theorem pW (h:StOk S) (x:Ix S e item) {loc:Int} (l0:0≤loc) (l1:loc≤1) (P:dF):Ck 123 [S.av,.i e,.i item,.i loc,P.av] (S.bT e ((S.aJ e).dG (2*item+loc) P)).av:=by
 have H:=h.wx x;have:=H.bd;have hp:=h.pat x l0 l1;have E:=h.CJ x;have hbl:=E.bl;have hpr:=E.pr;have hdl:=E.dl
 have hav:(S.bT e ((S.aJ e).dG (2*item+loc) P)).av=S.setRow e (xA (S.aJ e).now (S.aJ e).closed ((bU (S.aJ e).bM).set (2*item+loc).toNat P.row) (aA (S.aJ e).eJ) (bQ (S.aJ e).aF) (aA (S.aJ e).bD) (aA (S.aJ e).down) (cN (S.aJ e).ahead)):=by
  rw[bL.mA,←IV];rfl
 rw[hav];clear hav E;generalize (S.aJ e).bS (2*item+loc)=Q at *
 obtain⟨L,p0,p1,p2⟩:=Q;obtain⟨L2,d0,d1,d2⟩:=P;exact cw (A2 (.o 4) [(0,1)] Dd Hz W5 [] [] []) (ev2 H [loc] [.I p0,.I p1,.I p2,.I d0,.I d1,.I d2] [aG L,aG L2] (.d (aQ hp) .nil)) [Kb1,.v 0,.v 2,.v 6,(.agg [.q 3 16,.o 8,.o 9,.o 10])] (sN (.seq 8 0 [([([0],1)],[.o 3,.o 4,(.seq 4 7 [([([2],2),([6],1)],[.q 3 16,.o 8,.o 9,.o 10])] []),.q 1 8,.q 11 9,.q 1 10,.q 1 11,.q 8 12])] []) (.o 2)) kn
theorem dA (h:StOk S) (x:Ix S e item) {l:List dO} (hI:eH (eF l)) (hl:l.length≤1000000):Ck 92 [S.av,.i e,.lit 2 (dQ l)] (.bB [(dH S e l).1.av,.i (dH S e l).2]):=by
 have H:=h.wx x;have:=H.bd;have E:=h.CJ x;have hbl:=E.bl;have hpr:=E.pr;have hdl:=E.dl
 have hp:=E5 l hI hl;have hpI:=Oo l;have hpe:=zM l;have hln:=Nd l;unfold dH;generalize cY l=r at *;obtain⟨m,f⟩:=r;simp only at *
 by_cases hf:f=0
 rotate_left
 ·rw[if_pos hf];exact cw (A2 (.o 4) [(1,20)] [] [] [] [] [] [(45,[.q 2 15],(.bB [.q 2 16,.v 6]))]) (ev2 H [f] [] [dQ l,dQ m] .nil) Du DO (kc hp kn)
 subst hf;rw[if_neg (by simp)]
 have hb:=X9 (S.aJ e).eJ m E.bl hpI (by omega)
 have hbe:=Nc (S.aJ e).eJ m
 generalize tY (S.aJ e).eJ m=r at *
 obtain⟨b,f⟩:=r;simp only at *
 by_cases hf:f=0
 rotate_left
 ·rw[if_pos hf];exact cw (A2 (.o 4) [(1,20)] [] [] [] [] [] [De,(152,[.q 1 8,.q 2 16],(.bB [.q 1 17,.v 6]))]) (ev2 H [f] [] [dQ l,dQ m,aA b] .nil) Du DO (kc hp (kc hb kn))
 subst hf;rw[if_neg (by simp)]
 have hav:(S.bT e ((S.aJ e).Iv b)).av=S.setRow e (xA (S.aJ e).now (S.aJ e).closed (bU (S.aJ e).bM) (aA b) (bQ (S.aJ e).aF) (aA (S.aJ e).bD) (aA (S.aJ e).down) (cN (S.aJ e).ahead)):=by rw[bL.mA];rfl
 rw[hav];exact cw (A2 (.o 4) [] [] Hz [] [] [] [De,(152,[.q 1 8,.q 2 16],(.bB [.q 1 17,.i 0]))]) (ev2 H [] [] [dQ l,dQ m,aA b] .nil) Du (.bB [(sN (.seq 8 0 [([([0],1)],[.o 3,.o 4,.q 4 7,.q 1 17,.q 11 9,.q 1 10,.q 1 11,.q 8 12])] []) (.o 2)),.i 0]) (kc hp (kc hb kn))
theorem Xa {m c:Int} {l l':List bF} {x:bF} {up f:Int} (hI:dZ m c l x=(l',up,f)):-288230376151711744≤up∧up≤288230376151711744:=by
 by_cases he:f=0
 ·subst he;have:=zL hI;omega
 ·have:=(IW (m:=m) (c:=c) (l:=l) (x:=x) (by rw[hI];exact he)).2
  rw[hI]at this;simp only at this
  omega
theorem jN (h:StOk S) (x:Ix S e item) {loc:Int} (l0:0≤loc) (l1:loc≤1) {y:bF} (hy:eH [y.q,y.v,y.p]):Ck 145 [S.av,.i e,.i item,.i loc,y.av] (.bB [(eB S e item loc y).1.av,.i (eB S e item loc y).2.1,.i (eB S e item loc y).2.2.1,.i (eB S e item loc y).2.2.2]):=by
 have H:=h.wx x;have:=H.bd;have hp:=h.pat x l0 l1;have hpo:=h.Rv x l0 l1;have hm:=h.mb' x;have hc:=h.cb' x;have ha:=kD h x l0 l1;have her:=@EP (S.cG e item) (S.cost e item) ((S.aJ e).bS (2*item+loc)).bH y
 have hin:∀{L2:List bF} {up f:Int},dZ (S.cG e item) (S.cost e item) ((S.aJ e).bS (2*item+loc)).bH y=(L2,up,f)→_:=fun hI=>hpo.in_ hm hI
 have hbd:∀{L2:List bF} {up:Int},dZ (S.cG e item) (S.cost e item) ((S.aJ e).bS (2*item+loc)).bH y=(L2,up,0)→_:=fun hI=>zL hI
 have hset:=fun p hp=>h.dG x (p:=p) l0 l1 hp
 have hput:=fun P=>pW h x l0 l1 P
 obtain⟨yq,yv,yp⟩:=y;have hi:=fun p0 p1 p2=>af1 (p0:=p0) (p1:=p1) (p2:=p2) (q:=yq) (v:=yv) (z:=yp) (c:=S.cost e item) hm hpo.lr hpo.one hy hc
 have hyv:=hy yv (by simp)
 have:=hyv.lo;have:=hyv.hi
 unfold eB;obtain⟨L2,up,f,hI⟩:∃L2 up f,dZ (S.cG e item) (S.cost e item) ((S.aJ e).bS (2*item+loc)).bH ⟨yq,yv,yp⟩=(L2,up,f):=⟨_,_,_,rfl⟩
 have k1:=hin hI;have hui:=Xa hI;have k3:=fun(h0:f=0)=>hbd (by rw[hI,h0])
 simp only[hI]at her hi ⊢;clear hin hbd hI;have hok:=hset { (S.aJ e).bS (2*item+loc)with bH:=L2 } k1.1
 have xx:=x.bT (e':=e) (y:=(S.aJ e).dG (2*item+loc) { (S.aJ e).bS (2*item+loc)with bH:=L2 })
 have hu:=hput { (S.aJ e).bS (2*item+loc)with bH:=L2 }
 have hw:=EY hok xx;have h0:=kD hok xx (loc:=0) (by omega) (by omega)
 have h1:=kD hok xx (loc:=1) (by omega) (by omega)
 have g0:=(hok.Rv xx (loc:=0) (by omega) (by omega)).lr
 have g1:=(hok.Rv xx (loc:=1) (by omega) (by omega)).lr
 rw[Int.add_zero]at h0 g0;have hst:N5 (S.bT e ((S.aJ e).dG (2*item+loc) { (S.aJ e).bS (2*item+loc)with bH:=L2 })) e item=decide (eI (((((S.bT e ((S.aJ e).dG (2*item+loc) { (S.aJ e).bS (2*item+loc)with bH:=L2 })).aJ e).bS (2*item)).bH++(((S.bT e ((S.aJ e).dG (2*item+loc) { (S.aJ e).bS (2*item+loc)with bH:=L2 })).aJ e).bS (2*item+1)).bH).map iV)=0):=by unfold N5 sw iV;rw[List.map_append]
 have hi:=hi ((S.aJ e).bS (2*item+loc)).p0 ((S.aJ e).bS (2*item+loc)).p1 ((S.aJ e).bS (2*item+loc)).p2
 clear hset hput;generalize hT:S.bT e ((S.aJ e).dG (2*item+loc) { (S.aJ e).bS (2*item+loc)with bH:=L2 })=T at *
 have av1:T.av=(S.aZ T.bG).av:=by rw[←hT];rfl
 clear hok xx;generalize (S.aJ e).bS (2*item+loc)=Q at *
 obtain⟨L,p0,p1,p2⟩:=Q;simp only at *
 by_cases he:f=0
 rotate_left
 ·rw[if_pos he]
  exact cw (A2 (.o 4) [(0,1),Me,Me,(1,20)] Dd [] W5 [] [] [YR,(196,UA,(.bB [BS,.v 8,.v 9]))]) (ev2 H [loc,yv,up,f] [.I p0,.I p1,.I p2,.I yq,.I yp] [aG L,aG L2] (.d (aQ hp) .nil)) Ve (.bB [Kb1,.i 0,.i 0,.v 9]) (kc ha (kc hi kn))
 subst he;have k3:=k3 rfl;rw[if_neg (by simp)]
 rw[av1]at hu hw h0 h1;generalize (cE T e item).2=wb at *
 generalize (cE T e item).1=wt at *
 obtain⟨wq,wv,wp⟩:=wt;cases wb with
 |false =>
  rw[if_pos rfl];simp only[Bool.false_eq_true,if_false]at hw;exact cw (A2 (.o 4) [(0,1),Me,Me] Dd [] W5 [] [] [YR,Jy,QA,(88,Bn,(.bB [(.agg [.o 10,.o 11,.o 12]),.i 2]))]) (ev2 H [loc,yv,up] [.I p0,.I p1,.I p2,.I yq,.I yp,.I wq,.I wv,.I wp] [aG L,aG L2,aN T.bG] (.d (aQ hp) .nil)) Ve HE (kc ha (kc hi (kc hu (kc hw kn))))
 |true =>
  rw[if_neg (by simp)]
  simp only[if_true]at hw;rw[hst];generalize ((T.aJ e).bS (2*item))=A at *
  generalize ((T.aJ e).bS (2*item+1))=B at *
  obtain⟨La,a0,a1,a2⟩:=A;obtain⟨Lb,b0,b1,b2⟩:=B;simp only at *
  obtain⟨Lc,hc'⟩:∃Lc,Lc=La++Lb:=⟨_,rfl⟩
  have hok:∀z∈Lc,jE z=true:=fun z hz=>by
   rw[hc']at hz;exact(List.mem_append.1 hz).elim (g0.ok z) (g1.ok z)
  have hs:=SO (zQ fun z hz=>Nu (hok z hz)) (List.all_eq_true.2 hok)
  have se:=FI (Lc.map iV)
  have hla:=g0.len;have hlb:=g1.len
  rw[←hc'];have hc:aG Lc=aG La++aG Lb:=by rw[hc'];simp[aG]
  have hlc:Lc.length=La.length+Lb.length:=by rw[hc',List.length_append]
  generalize dU (Lc.map iV)=n at *
  generalize eI (Lc.map iV)=f at *
  rcases se with rfl|rfl
  ·rw[if_neg (by simp)]
   simp only[av1];exact cw (A2 (.o 4) [(0,1),w60,w60,(0,30),(0,30)] Dd Vu W5 [] [(18,19,20)] [YR,Jy,QA,ZP,ZQ,ZR,(197,[.q 3 20],(.bB [.o 19,.i 0]))]) (ev2 H [loc,yv,up,(La.length:Int),(Lb.length:Int)] [.I p0,.I p1,.I p2,.I yq,.I yp,.I wq,.I wv,.I wp,.I a0,.I a1,.I a2,.I b0,.I b1,.I b2,.I n] [aG L,aG L2,aN T.bG,aG La,aG Lb,aG Lc] (.d (aQ hp) .nil) (hC:=by simp[hc])) Ve (.bB [KbI,(.e [([7],1),([8],(-1))]),.v 8,.i 0]) (kc ha (kc hi (kc hu (kc hw (kc h0 (kc h1 (kc hs kn)))))))
  ·rw[if_pos (by simp)]
   exact cw (A2 (.o 4) [(0,1),Me,Me,(0,30),(0,30)] Dd Vu W5 [] [(18,19,20)] [YR,Jy,QA,ZP,ZQ,ZR,(197,[.q 3 20],(.bB [.o 19,.i 2]))]) (ev2 H [loc,yv,up,(La.length:Int),(Lb.length:Int)] [.I p0,.I p1,.I p2,.I yq,.I yp,.I wq,.I wv,.I wp,.I a0,.I a1,.I a2,.I b0,.I b1,.I b2,.I n] [aG L,aG L2,aN T.bG,aG La,aG Lb,aG Lc] (.d (aQ hp) .nil) (hC:=by simp[hc])) Ve HE (kc ha (kc hi (kc hu (kc hw (kc h0 (kc h1 (kc hs kn)))))))
theorem kU (h:StOk S) (x:Ix S e item) {loc kind q:Int} (l0:0≤loc) (l1:loc≤1) (hk:0≤kind∧kind≤3) (hq:jY q):Ck 217 [S.av,.i e,.i item,.i loc,.i kind,.i q] (.bB [(dD S e item loc kind q).1.av,(dD S e item loc kind q).2.1.av,.c (.bool (dD S e item loc kind q).2.2.1),.i (dD S e item loc kind q).2.2.2]):=by
 have H:=h.wx x;have:=H.bd;have:=hq.lo;have:=hq.hi
 have hp:=h.pat x l0 l1;have hpo:=h.Rv x l0 l1;have hm:=h.mb' x;have hc:=h.cb' x;have ha:=kD h x l0 l1;have E:=h.CJ x;have hbl:=E.bl;have hpr:=E.pr;have hdl:=E.dl
 have her:=@AA (S.cG e item) (S.cost e item) ((S.aJ e).bS (2*item+loc)).bH ((S.aJ e).bS (2*item+loc)).pn kind q
 have hav:∀p,(S.bT e ((S.aJ e).dG (2*item+loc) p)).av=S.setRow e (xA (S.aJ e).now (S.aJ e).closed ((bU (S.aJ e).bM).set (2*item+loc).toNat p.row) (aA (S.aJ e).eJ) (bQ (S.aJ e).aF) (aA (S.aJ e).bD) (aA (S.aJ e).down) (cN (S.aJ e).ahead)):=by
  intro p;rw[bL.mA,←IV];rfl
 have ho:=acZ (p0:=((S.aJ e).bS (2*item+loc)).p0) (p1:=((S.aJ e).bS (2*item+loc)).p1) (p2:=((S.aJ e).bS (2*item+loc)).p2) (c:=S.cost e item) hm hpo.lr hpo.one hpo.pnd hq hk hc
 unfold dD;rw[show(⟨((S.aJ e).bS (2*item+loc)).p0,((S.aJ e).bS (2*item+loc)).p1,((S.aJ e).bS (2*item+loc)).p2⟩:rM)=((S.aJ e).bS (2*item+loc)).pn from rfl]at ho
 generalize cC (S.cG e item) (S.cost e item) ((S.aJ e).bS (2*item+loc)).bH ((S.aJ e).bS (2*item+loc)).pn kind q=r at *
 obtain⟨L2,⟨d0,d1,d2⟩,⟨xq,xv,xp⟩,wt,f⟩:=r
 clear hpo;generalize (S.aJ e).bS (2*item+loc)=Q at *
 obtain⟨L,p0,p1,p2⟩:=Q;simp only at *
 by_cases hf:f=0
 rotate_left
 ·rw[if_pos hf];exact cw (A2 (.o 4) [(0,1),(0,3),Me,(1,20)] Dd [] W5 [] [] [YR,(238,VQ,(.bB [DP,Ka2,.o 14,.v 9]))]) (ev2 H [loc,kind,q,f] [.I p0,.I p1,.I p2,.I xq,.I xv,.I xp,.I d0,.I d1,.I d2,.bool wt] [aG L,aG L2] (.d (aQ hp) .nil)) Hi (.bB [Kb1,Kbp,Kcd,.v 9]) (kc ha (kc ho kn))
 subst hf;rw[if_neg (by simp)]
 simp only[hav];exact cw (A2 (.o 4) [(0,1),(0,3),Me] Dd Hz W5 [] [] [YR,(238,VQ,(.bB [DP,Ka2,.o 14,.i 0]))]) (ev2 H [loc,kind,q] [.I p0,.I p1,.I p2,.I xq,.I xv,.I xp,.I d0,.I d1,.I d2,.bool wt] [aG L,aG L2] (.d (aQ hp) .nil)) Hi (.bB [(sN (.seq 8 0 [([([0],1)],[.o 3,.o 4,(.seq 4 7 [([([2],2),([6],1)],[.q 3 16,.o 11,.o 12,.o 13])] []),.q 1 8,.q 11 9,.q 1 10,.q 1 11,.q 8 12])] []) (.o 2)),Ka2,.o 14,.i 0]) (kc ha (kc ho kn))
theorem eG (h:StOk S) (x:Ix S e item) {r:List Int} (hr:r.length=11):Ck 124 [S.av,.i e,.i item,.agg (iC r)] (.bB [(eO S e item r).1.av,.i (eO S e item r).2]):=by
 have H:=h.wx x;have:=H.bd;have E:=h.CJ x;have hbl:=E.bl;have hpr:=E.pr;have hdl:=E.dl
 have hat:=aaI h x;have hl:=(aaH h x).1
 have hav:∀s,(S.bT e ((S.aJ e).uQ item s)).av=S.setRow e (xA (S.aJ e).now (S.aJ e).closed (bU (S.aJ e).bM) (aA (S.aJ e).eJ) ((bQ (S.aJ e).aF).set item.toNat (iC s)) (aA (S.aJ e).bD) (aA (S.aJ e).down) (cN (S.aJ e).ahead)):=by
  intro s;rw[bL.mA,←TW];rfl
 unfold eO;generalize (S.aJ e).acb item=A at *
 obtain⟨a0,a1,a2,a3,a4,a5,a6,a7,a8,a9,a10,rfl⟩:=OW hl;obtain⟨b0,b1,b2,b3,b4,b5,b6,b7,b8,b9,b10,rfl⟩:=OW hr;have hr:=hat;have k0:=iP a0 b0;have f0:=mX a0 b0;have k1:=iP a1 b1;have f1:=mX a1 b1;have k2:=iP a2 b2;have f2:=mX a2 b2;have k3:=iP a3 b3;have f3:=mX a3 b3;have k4:=iP a4 b4;have f4:=mX a4 b4;have k5:=iP a5 b5;have f5:=mX a5 b5;have k6:=iP a6 b6;have f6:=mX a6 b6;have k7:=iP a7 b7;have f7:=mX a7 b7;have k8:=iP a8 b8;have f8:=mX a8 b8;have k9:=iP a9 b9;have f9:=mX a9 b9;have k10:=iP a10 b10;have f10:=mX a10 b10;simp only[L4];generalize mW a0 b0=s0 at *;generalize mK a0 b0=g0 at *;generalize mW a1 b1=s1 at *;generalize mK a1 b1=g1 at *;generalize mW a2 b2=s2 at *;generalize mK a2 b2=g2 at *;generalize mW a3 b3=s3 at *;generalize mK a3 b3=g3 at *;generalize mW a4 b4=s4 at *;generalize mK a4 b4=g4 at *;generalize mW a5 b5=s5 at *;generalize mK a5 b5=g5 at *;generalize mW a6 b6=s6 at *;generalize mK a6 b6=g6 at *;generalize mW a7 b7=s7 at *;generalize mK a7 b7=g7 at *;generalize mW a8 b8=s8 at *;generalize mK a8 b8=g8 at *;generalize mW a9 b9=s9 at *;generalize mK a9 b9=g9 at *;generalize mW a10 b10=s10 at *;generalize mK a10 b10=g10 at *;rcases f0 with rfl|rfl;rotate_left
 ·obtain⟨z,hz⟩:∃z,z=s0:=⟨_,rfl⟩
  rw[←hz]at k0;simp only[show ¬((2:Int)=0)by decide,if_false,if_true,Option.map_none,ite_self]
  exact cw (A2 (.o 4) [] [] [] Z5 [] [] [(83,[.o 5,.o 16],(.bB [.o 27,.i 2]))]) (ev2 H [] [.I a0,.I a1,.I a2,.I a3,.I a4,.I a5,.I a6,.I a7,.I a8,.I a9,.I a10,.I b0,.I b1,.I b2,.I b3,.I b4,.I b5,.I b6,.I b7,.I b8,.I b9,.I b10,.I z] [] (.d (aR hr) .nil)) Qg DQ (kc k0 kn)
 rcases f1 with rfl|rfl;rotate_left
 ·obtain⟨z,hz⟩:∃z,z=s1:=⟨_,rfl⟩
  rw[←hz]at k1;simp only[show ¬((2:Int)=0)by decide,if_false,if_true,Option.map_none,ite_self]
  exact cw (A2 (.o 4) [] [] [] Z5 [] [] [G2,(83,[.o 6,.o 17],(.bB [.o 28,.i 2]))]) (ev2 H [] [.I a0,.I a1,.I a2,.I a3,.I a4,.I a5,.I a6,.I a7,.I a8,.I a9,.I a10,.I b0,.I b1,.I b2,.I b3,.I b4,.I b5,.I b6,.I b7,.I b8,.I b9,.I b10,.I s0,.I z] [] (.d (aR hr) .nil)) Qg DQ (kc k0 (kc k1 kn))
 rcases f2 with rfl|rfl;rotate_left
 ·obtain⟨z,hz⟩:∃z,z=s2:=⟨_,rfl⟩
  rw[←hz]at k2;simp only[show ¬((2:Int)=0)by decide,if_false,if_true,Option.map_none,ite_self]
  exact cw (A2 (.o 4) [] [] [] Z5 [] [] [G2,G4,(83,[.o 7,.o 18],(.bB [.o 29,.i 2]))]) (ev2 H [] [.I a0,.I a1,.I a2,.I a3,.I a4,.I a5,.I a6,.I a7,.I a8,.I a9,.I a10,.I b0,.I b1,.I b2,.I b3,.I b4,.I b5,.I b6,.I b7,.I b8,.I b9,.I b10,.I s0,.I s1,.I z] [] (.d (aR hr) .nil)) Qg DQ (kc k0 (kc k1 (kc k2 kn)))
 rcases f3 with rfl|rfl;rotate_left
 ·obtain⟨z,hz⟩:∃z,z=s3:=⟨_,rfl⟩
  rw[←hz]at k3;simp only[show ¬((2:Int)=0)by decide,if_false,if_true,Option.map_none,ite_self]
  exact cw (A2 (.o 4) [] [] [] Z5 [] [] [G2,G4,G5,(83,[.o 8,.o 19],(.bB [.o 30,.i 2]))]) (ev2 H [] [.I a0,.I a1,.I a2,.I a3,.I a4,.I a5,.I a6,.I a7,.I a8,.I a9,.I a10,.I b0,.I b1,.I b2,.I b3,.I b4,.I b5,.I b6,.I b7,.I b8,.I b9,.I b10,.I s0,.I s1,.I s2,.I z] [] (.d (aR hr) .nil)) Qg DQ (kc k0 (kc k1 (kc k2 (kc k3 kn))))
 rcases f4 with rfl|rfl;rotate_left
 ·obtain⟨z,hz⟩:∃z,z=s4:=⟨_,rfl⟩
  rw[←hz]at k4;simp only[show ¬((2:Int)=0)by decide,if_false,if_true,Option.map_none,ite_self]
  exact cw (A2 (.o 4) [] [] [] Z5 [] [] [G2,G4,G5,G6,(83,[.o 9,.o 20],(.bB [.o 31,.i 2]))]) (ev2 H [] [.I a0,.I a1,.I a2,.I a3,.I a4,.I a5,.I a6,.I a7,.I a8,.I a9,.I a10,.I b0,.I b1,.I b2,.I b3,.I b4,.I b5,.I b6,.I b7,.I b8,.I b9,.I b10,.I s0,.I s1,.I s2,.I s3,.I z] [] (.d (aR hr) .nil)) Qg DQ (kc k0 (kc k1 (kc k2 (kc k3 (kc k4 kn)))))
 rcases f5 with rfl|rfl;rotate_left
 ·obtain⟨z,hz⟩:∃z,z=s5:=⟨_,rfl⟩
  rw[←hz]at k5;simp only[show ¬((2:Int)=0)by decide,if_false,if_true,Option.map_none,ite_self]
  exact cw (A2 (.o 4) [] [] [] Z5 [] [] [G2,G4,G5,G6,G7,(83,[.o 10,.o 21],(.bB [.o 32,.i 2]))]) (ev2 H [] [.I a0,.I a1,.I a2,.I a3,.I a4,.I a5,.I a6,.I a7,.I a8,.I a9,.I a10,.I b0,.I b1,.I b2,.I b3,.I b4,.I b5,.I b6,.I b7,.I b8,.I b9,.I b10,.I s0,.I s1,.I s2,.I s3,.I s4,.I z] [] (.d (aR hr) .nil)) Qg DQ (kc k0 (kc k1 (kc k2 (kc k3 (kc k4 (kc k5 kn))))))
 rcases f6 with rfl|rfl;rotate_left
 ·obtain⟨z,hz⟩:∃z,z=s6:=⟨_,rfl⟩
  rw[←hz]at k6;simp only[show ¬((2:Int)=0)by decide,if_false,if_true,Option.map_none,ite_self]
  exact cw (A2 (.o 4) [] [] [] Z5 [] [] [G2,G4,G5,G6,G7,GQ,(83,[.o 11,.o 22],(.bB [.o 33,.i 2]))]) (ev2 H [] [.I a0,.I a1,.I a2,.I a3,.I a4,.I a5,.I a6,.I a7,.I a8,.I a9,.I a10,.I b0,.I b1,.I b2,.I b3,.I b4,.I b5,.I b6,.I b7,.I b8,.I b9,.I b10,.I s0,.I s1,.I s2,.I s3,.I s4,.I s5,.I z] [] (.d (aR hr) .nil)) Qg DQ (kc k0 (kc k1 (kc k2 (kc k3 (kc k4 (kc k5 (kc k6 kn)))))))
 rcases f7 with rfl|rfl;rotate_left
 ·obtain⟨z,hz⟩:∃z,z=s7:=⟨_,rfl⟩
  rw[←hz]at k7;simp only[show ¬((2:Int)=0)by decide,if_false,if_true,Option.map_none,ite_self]
  exact cw (A2 (.o 4) [] [] [] Z5 [] [] [G2,G4,G5,G6,G7,GQ,GR,(83,[.o 12,.o 23],(.bB [.o 34,.i 2]))]) (ev2 H [] [.I a0,.I a1,.I a2,.I a3,.I a4,.I a5,.I a6,.I a7,.I a8,.I a9,.I a10,.I b0,.I b1,.I b2,.I b3,.I b4,.I b5,.I b6,.I b7,.I b8,.I b9,.I b10,.I s0,.I s1,.I s2,.I s3,.I s4,.I s5,.I s6,.I z] [] (.d (aR hr) .nil)) Qg DQ (kc k0 (kc k1 (kc k2 (kc k3 (kc k4 (kc k5 (kc k6 (kc k7 kn))))))))
 rcases f8 with rfl|rfl;rotate_left
 ·obtain⟨z,hz⟩:∃z,z=s8:=⟨_,rfl⟩
  rw[←hz]at k8;simp only[show ¬((2:Int)=0)by decide,if_false,if_true,Option.map_none,ite_self]
  exact cw (A2 (.o 4) [] [] [] Z5 [] [] [G2,G4,G5,G6,G7,GQ,GR,GS,(83,[.o 13,.o 24],(.bB [.o 35,.i 2]))]) (ev2 H [] [.I a0,.I a1,.I a2,.I a3,.I a4,.I a5,.I a6,.I a7,.I a8,.I a9,.I a10,.I b0,.I b1,.I b2,.I b3,.I b4,.I b5,.I b6,.I b7,.I b8,.I b9,.I b10,.I s0,.I s1,.I s2,.I s3,.I s4,.I s5,.I s6,.I s7,.I z] [] (.d (aR hr) .nil)) Qg DQ (kc k0 (kc k1 (kc k2 (kc k3 (kc k4 (kc k5 (kc k6 (kc k7 (kc k8 kn)))))))))
 rcases f9 with rfl|rfl;rotate_left
 ·obtain⟨z,hz⟩:∃z,z=s9:=⟨_,rfl⟩
  rw[←hz]at k9;simp only[show ¬((2:Int)=0)by decide,if_false,if_true,Option.map_none,ite_self]
  exact cw (A2 (.o 4) [] [] [] Z5 [] [] [G2,G4,G5,G6,G7,GQ,GR,GS,GT,(83,[.o 14,.o 25],(.bB [.o 36,.i 2]))]) (ev2 H [] [.I a0,.I a1,.I a2,.I a3,.I a4,.I a5,.I a6,.I a7,.I a8,.I a9,.I a10,.I b0,.I b1,.I b2,.I b3,.I b4,.I b5,.I b6,.I b7,.I b8,.I b9,.I b10,.I s0,.I s1,.I s2,.I s3,.I s4,.I s5,.I s6,.I s7,.I s8,.I z] [] (.d (aR hr) .nil)) Qg DQ (kc k0 (kc k1 (kc k2 (kc k3 (kc k4 (kc k5 (kc k6 (kc k7 (kc k8 (kc k9 kn))))))))))
 rcases f10 with rfl|rfl;rotate_left
 ·obtain⟨z,hz⟩:∃z,z=s10:=⟨_,rfl⟩
  rw[←hz]at k10;simp only[show ¬((2:Int)=0)by decide,if_false,if_true,Option.map_none,ite_self]
  exact cw (A2 (.o 4) [] [] [] Z5 [] [] [G2,G4,G5,G6,G7,GQ,GR,GS,GT,GU,(83,[.o 15,.o 26],(.bB [.o 37,.i 2]))]) (ev2 H [] [.I a0,.I a1,.I a2,.I a3,.I a4,.I a5,.I a6,.I a7,.I a8,.I a9,.I a10,.I b0,.I b1,.I b2,.I b3,.I b4,.I b5,.I b6,.I b7,.I b8,.I b9,.I b10,.I s0,.I s1,.I s2,.I s3,.I s4,.I s5,.I s6,.I s7,.I s8,.I s9,.I z] [] (.d (aR hr) .nil)) Qg DQ (kc k0 (kc k1 (kc k2 (kc k3 (kc k4 (kc k5 (kc k6 (kc k7 (kc k8 (kc k9 (kc k10 kn)))))))))))
 simp only[if_true,Option.map_some,hav];exact cw (A2 (.o 4) [] [] Hz Z5 [] [] [G2,G4,G5,G6,G7,GQ,GR,GS,GT,GU,(83,[.o 15,.o 26],(.bB [.o 37,.i 0]))]) (ev2 H [] [.I a0,.I a1,.I a2,.I a3,.I a4,.I a5,.I a6,.I a7,.I a8,.I a9,.I a10,.I b0,.I b1,.I b2,.I b3,.I b4,.I b5,.I b6,.I b7,.I b8,.I b9,.I b10,.I s0,.I s1,.I s2,.I s3,.I s4,.I s5,.I s6,.I s7,.I s8,.I s9,.I s10] [] (.d (aR hr) .nil)) Qg (.bB [(sN (.seq 8 0 [([([0],1)],[.o 3,.o 4,.q 4 7,.q 1 8,(.seq 11 9 [([([2],1)],[.o 27,.o 28,.o 29,.o 30,.o 31,.o 32,.o 33,.o 34,.o 35,.o 36,.o 37])] []),.q 1 10,.q 1 11,.q 8 12])] []) (.o 2)),.i 0]) (kc k0 (kc k1 (kc k2 (kc k3 (kc k4 (kc k5 (kc k6 (kc k7 (kc k8 (kc k9 (kc k10 kn)))))))))))
end
end
section
open Mc
def adh (n w:Nat) (x:yJ):Prop:=(0≤x.aU∧x.aU<n)∧(0≤x.item∧x.item<w)∧(0≤x.loc∧x.loc≤1)∧(1≤x.eT∧x.eT≤1073741824)∧(0≤x.value∧x.value≤1125899906842624)∧(0≤x.rC∧x.rC≤x.eT)∧(0≤x.bZ∧x.bZ≤1125899906842624)∧(0≤x.back∧x.back≤x.eT)
def aan (n w:Nat) (x:pZ):Prop:=(0≤x.aU∧x.aU<n)∧(0≤x.item∧x.item<w)∧(0≤x.loc∧x.loc≤1)∧(1≤x.eT∧x.eT≤1073741824)∧(0≤x.back∧x.back≤x.eT)∧pB x.cost∧pB x.dV∧(1≤x.period∧x.period≤12)
def adg (n w:Nat) (x:PG):Prop:=(0≤x.src∧x.src<n)∧(0≤x.dst∧x.dst<n)∧(0≤x.item∧x.item<w)∧(0≤x.eT∧x.eT≤1073741824)∧(0≤x.value∧x.value≤1125899906842624)∧pB x.dV
def dR.sh (x:dR):Int×Bool×List EntC:=(x.now,x.closed,x.ahead)
def amp (s:Int×Bool×List EntC):Prop:=s.2.2.length=(if s.2.1 then 1 else 0)∧∀y∈s.2.2,y.now=s.1∧y.closed=false
structure Gn (S:bL):Prop extends StOk S where
 IM:S.aH.length≤40
 MY:S.aM.length≤40
 TF:S.bK.length≤40
 FM:∀x∈S.aH,adh S.bG.length S.weights.length x
 Mf:∀x∈S.aM,aan S.bG.length S.weights.length x
 trb:∀x∈S.bK,adg S.bG.length S.weights.length x
 d0:0≤S.done
 al:∀x∈S.bG,amp x.sh
 pb:∀x∈S.aM,x.period≤(S.aJ x.aU).now
structure Kn (S S1:bL):Prop extends Kin S S1 where
 sh:S1.bG.map dR.sh=S.bG.map dR.sh
theorem Kn.refl {S:bL} (h:StOk S):Kn S S:=⟨.refl h,rfl⟩
theorem Kn.trans {S S1 S2:bL} (h:Kn S S1) (g:Kn S1 S2):Kn S S2:=⟨h.toKin.trans g.toKin,g.sh.trans h.sh⟩
theorem Kn.ex {S S1:bL} (h:Kn S S1):∃E,S1=S.aZ E:=⟨_,h.eq⟩
theorem Kn.ix {S S1:bL} (h:Kn S S1) {e item:Int} (x:Ix S e item):Ix S1 e item:=h.toKin.ix x
theorem FW (l:List dR) (k:Nat) (d:dR):(l.getD k d).sh=(l.map dR.sh).getD k d.sh:=by
 simp only[List.getD_eq_getElem?_getD,List.getElem?_map];cases l[k]?<;>rfl
theorem Kn.shE {S S1:bL} (h:Kn S S1) (e:Int):(S1.aJ e).sh=(S.aJ e).sh:=by
 unfold bL.aJ;rw[FW,FW,h.sh]
theorem Kn.now {S S1:bL} (h:Kn S S1) (e:Int):(S1.aJ e).now=(S.aJ e).now:=congrArg Prod.fst (h.shE e)
theorem Kn.gn {S S1:bL} (h:Kn S S1) (G:Gn S):Gn S1:=by
 have e:=h.eq;have l:=h.len;have k:=h.ok;have s:=h.sh;have n:=h.now
 generalize S1.bG=E at *;subst e;refine⟨k,G.IM,G.MY,G.TF,by show ∀x∈_,adh E.length _ x;rw[l];exact G.FM,by show ∀x∈_,aan E.length _ x;rw[l];exact G.Mf,by show ∀x∈_,adg E.length _ x;rw[l];exact G.trb,G.d0,?_,fun x hx=>by rw[n];exact G.pb x hx⟩
 intro x hx;have:x.sh∈S.bG.map dR.sh:=by rw[←s];exact List.mem_map_of_mem hx
 obtain⟨y,hy,e⟩:=List.mem_map.1 this;rw[←e];exact G.al y hy
theorem nH {S:bL} {e item:Int} (x:Ix S e item) {y:dR} (h:y.sh=(S.aJ e).sh):(S.bT e y).bG.map dR.sh=S.bG.map dR.sh:=by
 show(S.bG.set e.toNat y).map dR.sh=_
 rw[List.map_set];apply List.ext_getElem?
 intro i;rw[List.getElem?_set];split
 ·rename_i hi
  subst hi;have he:e.toNat<S.bG.length:=by have:=x.e0;have:=x.e1;omega
  rw[if_pos (by simpa using he),List.getElem?_map,getD_some (d:=⟨⟨0,false,[],[],[],[],[]⟩,[]⟩) he]
  simp only[Option.map_some,Option.some.injEq,h];rfl
 ·rfl
section
variable {S:bL} {e item:Int}
theorem mG (h:StOk S) (x:Ix S e item) {loc:Int} (l0:0≤loc) (l1:loc≤1) (y:bF) :
  Kn S (eB S e item loc y).1∧fF (eB S e item loc y).2.2.2∧pB (eB S e item loc y).2.1∧pB (eB S e item loc y).2.2.1∧((eB S e item loc y).2.2.2≠0→(eB S e item loc y).1=S∧(eB S e item loc y).2.1=0∧(eB S e item loc y).2.2.1=0):=by
 obtain⟨k,r⟩:=Po h x l0 l1 y;refine⟨⟨k,?_⟩,r⟩
 clear k r;unfold eB;split
 ·rfl
 ·split
  ·rfl
  ·split
   ·rfl
   ·exact nH x rfl
theorem ahi (l:List bF):∀(a:bF) (q:Int),LR l→a.p-F8 l≤(iW l a q).2.p∧(iW l a q).2.p≤a.p+F8 l:=by
 induction l with
 |nil=>intro a q h;simp[iW,F8,kY]
 |cons x r ih =>
  intro a q h;simp only[iW];have hx:=h.ok x (by simp)
  have hr:=aai r;rw[mV];split
  ·dsimp only;omega
  ·split
   ·have cp:=afO hx (q:=q) (by omega) (by omega)
    dsimp only[fX,iS];omega
   ·have k:=ih (fX a x) (q-x.q) h.tail
    dsimp only[fX]at k ⊢
    omega
theorem aa4 {l:List bF} (hl:LR l) (q:Int):pB (dJ l q).2.1.p:=by
 have k:=ahi l .zero q hl;have:=hl.p;unfold dJ;split
 ·exact⟨by simp[bF.zero],by simp[bF.zero]⟩
 ·split
  ·exact⟨by simp[bF.zero],by simp[bF.zero]⟩
  ·dsimp only[bF.zero]at k ⊢;exact⟨by omega,by omega⟩
theorem Rt {m c:Int} {l:List bF} {d:rM} {kind q:Int} (hl:LR l):pB (cC m c l d kind q).2.2.1.p:=by
 have k:=aa4 hl q;have z:pB bF.zero.p:=⟨by simp[bF.zero],by simp[bF.zero]⟩
 unfold cC;split
 ·exact z
 ·split
  ·exact z
  ·split
   ·exact z
   ·simp only[eY]
    split
    ·unfold zO
     split
     ·exact z
     ·split
      ·exact z
      ·exact k
    ·split
     ·unfold AD
      split
      ·exact z
      ·split
       ·rename_i y e hS;rw[hS]at k;exact k
       ·rename_i z' t y e hS
        rw[hS]at k;split
        ·exact k
        ·exact k
     ·exact k
theorem nR (h:StOk S) (x:Ix S e item) {loc kind:Int} (l0:0≤loc) (l1:loc≤1) (k0:0≤kind) (k1:kind≤3) (q:Int) :
  Kn S (dD S e item loc kind q).1∧fF (dD S e item loc kind q).2.2.2∧pB (dD S e item loc kind q).2.1.v∧((0≤(dD S e item loc kind q).2.1.q∧(dD S e item loc kind q).2.1.q≤288230376151711744)∧pB (dD S e item loc kind q).2.1.p)∧((dD S e item loc kind q).2.2.2≠0→(dD S e item loc kind q).1=S∧(dD S e item loc kind q).2.1=⟨0,0,0⟩∧(dD S e item loc kind q).2.2.1=false):=by
 obtain⟨k,r1,r2,r3,r4⟩:=O7 h x l0 l1 k0 k1 q;have pb:=Rt (m:=S.cG e item) (c:=S.cost e item) (d:=((S.aJ e).bS (2*item+loc)).pn) (kind:=kind) (q:=q) (h.Rv x l0 l1).lr
 refine⟨⟨k,?_⟩,r1,r2,⟨r3.1,?_⟩,r4⟩
 ·clear k r1 r2 r3 r4
  unfold dD;split
  ·rfl
  ·exact nH x rfl
 ·clear k r1 r2 r3 r4
  unfold dD;split
  ·exact⟨by simp,by simp⟩
  ·exact pb
theorem fJ (h:StOk S) (x:Ix S e item) {r:List Int} (hr:r.length=11):Kn S (eO S e item r).1∧fF (eO S e item r).2∧((eO S e item r).2≠0→(eO S e item r).1=S):=by
 obtain⟨k,r'⟩:=PN h x hr;refine⟨⟨k,?_⟩,r'⟩
 clear k r';unfold eO;split
 ·rfl
 ·exact nH x rfl
theorem dY (h:StOk S) (x:Ix S e item) (l:List dO):Kn S (dH S e l).1∧fF (dH S e l).2∧((dH S e l).2≠0→(dH S e l).1=S):=by
 obtain⟨k,r'⟩:=Rr h x l;refine⟨⟨k,?_⟩,r'⟩
 clear k r';unfold dH;split
 ·rfl
 ·split
  ·rfl
  ·exact nH x rfl
theorem nK (h:StOk S) (x:Ix S e item) {loc:Int} (l0:0≤loc) (l1:loc≤1) {p:dF} (hp:iU (S.cG e item) p.bH p.pn):Kn S (S.bT e ((S.aJ e).dG (2*item+loc) p)) :=
 ⟨Kin.bT (h.dG x l0 l1 hp),nH x rfl⟩
end
def bL.IT (S:bL) (x:yJ):bL:={ S with aH:=S.aH++[x] }
def bL.IS (S:bL) (x:pZ):bL:={ S with aM:=S.aM++[x] }
def bL.IQ (S:bL) (x:PG):bL:={ S with bK:=S.bK++[x] }
def bL.EJ (S:bL) (k:Int) (x:yJ):bL:={ S with aH:=S.aH.set k.toNat x }
def bL.EI (S:bL) (k:Int) (x:pZ):bL:={ S with aM:=S.aM.set k.toNat x }
def bL.P5 (S:bL) (k:Int) (x:PG):bL:={ S with bK:=S.bK.set k.toNat x }
theorem aco (S:bL) (x:yJ):(S.IT x).av=S.avX (aN S.bG) (gH S.aH++[iC x.r]) (cR S.aM) (gG S.bK) S.done:=by rw[ad2];rfl
theorem acn (S:bL) (x:pZ):(S.IS x).av=S.avX (aN S.bG) (gH S.aH) (cR S.aM++[x.row]) (gG S.bK) S.done:=by rw[adP];rfl
theorem acm (S:bL) (x:PG):(S.IQ x).av=S.avX (aN S.bG) (gH S.aH) (cR S.aM) (gG S.bK++[iC x.r]) S.done:=by
 rw[show gG S.bK++[iC x.r]=gG (S.bK++[x])by simp[gG]];rfl
theorem Iu (S:bL) (k:Int) (x:yJ):(S.EJ k x).av=S.avX (aN S.bG) ((gH S.aH).set k.toNat (iC x.r)) (cR S.aM) (gG S.bK) S.done:=by rw[ag8];rfl
theorem It (S:bL) (k:Int) (x:pZ):(S.EI k x).av=S.avX (aN S.bG) (gH S.aH) ((cR S.aM).set k.toNat x.row) (gG S.bK) S.done:=by rw[ag1];rfl
theorem adM (S:bL) (k:Int) (x:PG):(S.P5 k x).av=S.avX (aN S.bG) (gH S.aH) (cR S.aM) ((gG S.bK).set k.toNat (iC x.r)) S.done:=by
 rw[show(gG S.bK).set k.toNat (iC x.r)=gG (S.bK.set k.toNat x)by simp[gG,List.map_set]];rfl
theorem ahz {α:Type} {l:List α} {x:α} {P:α→Prop} (h:∀y∈l,P y) (hx:P x):∀y∈l++[x],P y:=fun y hy=>by
 rcases List.mem_append.1 hy with hy|hy
 ·exact h y hy
 ·rw[List.mem_singleton]at hy;rw[hy];exact hx
theorem ahy {α:Type} {l:List α} {k:Nat} {x:α} {P:α→Prop} (h:∀y∈l,P y) (hx:P x):∀y∈l.set k x,P y:=fun y hy=>by
 rcases List.mem_or_eq_of_mem_set hy with hy|rfl
 ·exact h y hy
 ·exact hx
section
variable {S:bL}
theorem Gn.IT (G:Gn S) {x:yJ} (h:S.aH.length<40) (hx:adh S.bG.length S.weights.length x):Gn (S.IT x) :=
 ⟨⟨G.hn,G.hw,G.Fq,G.Aa,G.Fs,G.nP,G.mb,G.cb,G.aJ,G.ahead⟩,by show(S.aH++[x]).length≤40;simp;omega,G.MY,G.TF,ahz G.FM hx,G.Mf,G.trb,G.d0,G.al,G.pb⟩
theorem Gn.IS (G:Gn S) {x:pZ} (h:S.aM.length<40) (hx:aan S.bG.length S.weights.length x) (hp:x.period≤(S.aJ x.aU).now):Gn (S.IS x) :=
 ⟨⟨G.hn,G.hw,G.Fq,G.Aa,G.Fs,G.nP,G.mb,G.cb,G.aJ,G.ahead⟩,G.IM,by show(S.aM++[x]).length≤40;simp;omega,G.TF,G.FM,ahz G.Mf hx,G.trb,G.d0,G.al,ahz G.pb hp⟩
theorem Gn.IQ (G:Gn S) {x:PG} (h:S.bK.length<40) (hx:adg S.bG.length S.weights.length x):Gn (S.IQ x) :=
 ⟨⟨G.hn,G.hw,G.Fq,G.Aa,G.Fs,G.nP,G.mb,G.cb,G.aJ,G.ahead⟩,G.IM,G.MY,by show(S.bK++[x]).length≤40;simp;omega,G.FM,G.Mf,ahz G.trb hx,G.d0,G.al,G.pb⟩
theorem Gn.EJ (G:Gn S) {k:Int} {x:yJ} (hx:adh S.bG.length S.weights.length x):Gn (S.EJ k x) :=
 ⟨⟨G.hn,G.hw,G.Fq,G.Aa,G.Fs,G.nP,G.mb,G.cb,G.aJ,G.ahead⟩,by show(S.aH.set _ _).length≤40;simp;exact G.IM,G.MY,G.TF,ahy G.FM hx,G.Mf,G.trb,G.d0,G.al,G.pb⟩
theorem Gn.EI (G:Gn S) {k:Int} {x:pZ} (hx:aan S.bG.length S.weights.length x) (hp:x.period≤(S.aJ x.aU).now):Gn (S.EI k x) :=
 ⟨⟨G.hn,G.hw,G.Fq,G.Aa,G.Fs,G.nP,G.mb,G.cb,G.aJ,G.ahead⟩,G.IM,by show(S.aM.set _ _).length≤40;simp;exact G.MY,G.TF,G.FM,ahy G.Mf hx,G.trb,G.d0,G.al,ahy G.pb hp⟩
theorem Gn.P5 (G:Gn S) {k:Int} {x:PG} (hx:adg S.bG.length S.weights.length x):Gn (S.P5 k x) :=
 ⟨⟨G.hn,G.hw,G.Fq,G.Aa,G.Fs,G.nP,G.mb,G.cb,G.aJ,G.ahead⟩,G.IM,G.MY,by show(S.bK.set _ _).length≤40;simp;exact G.TF,G.FM,G.Mf,ahy G.trb hx,G.d0,G.al,G.pb⟩
end
structure mY (S:bL) (r:bL×Int):Prop where
 gn:Gn r.1
 err:fF r.2
 no:r.2≠0→r.1=S
 le:r.1.bG.length=S.bG.length
 wt:r.1.weights=S.weights
 pe:r.1.aD=S.aD
 en:r.1.aB=S.aB
 me:r.1.methods=S.methods
 dn:r.1.done=S.done
theorem mY.bad {S:bL} (G:Gn S) {f:Int} (h:fF f):mY S (S,f):=⟨G,h,fun _=>rfl,rfl,rfl,rfl,rfl,rfl,rfl⟩
theorem mY.ok {S S1 T:bL} (k:Kn S S1) (g:Gn T) (h1:T.bG=S1.bG) (h2:T.weights=S1.weights) (h3:T.aD=S1.aD) (h4:T.aB=S1.aB) (h5:T.methods=S1.methods) (h6:T.done=S1.done):mY S (T,0):=by
 have e:=k.eq;have l:=k.len
 rw[e]at h2 h3 h4 h5 h6;exact⟨g,⟨by simp,by simp⟩,fun h=>absurd rfl h,by show T.bG.length=_;rw[h1,l],h2,h3,h4,h5,h6⟩
theorem _root_.Go.Proofs.YtnepgggkgnckcaaGreat.Mc.kJ.d {ρ:Nat→Int} {p:Poly} {a b:Int} {l:List (Poly×Int×Int)} (h:kJ ρ l) (h1:a≤bR ρ p:=by simp[bR,rH]<;>omega) (h2:bR ρ p≤b:=by simp[bR,rH]<;>omega):kJ ρ ((p,a,b)::l):=.cons h1 h2 h
theorem sX {l:List dO} (h:∀x∈l,(0≤x.a∧x.a≤100)∧(-4611686018427387904≤x.n∧x.n≤4611686018427387904)):eH (eF l):=A5 fun x hx=>by
 have:=h x hx
 exact⟨⟨by omega,by omega⟩,⟨by omega,by omega⟩⟩
end
section
open Mc
theorem Ix.en {S:bL} {e item:Int} (x:Ix S e item):0≤e∧e<(S.bG.length:Int):=⟨x.e0,x.e1⟩
theorem Ix.iw {S:bL} {e item:Int} (x:Ix S e item):0≤item∧item<(S.weights.length:Int):=⟨x.i0,x.i1⟩
theorem ag9 {n w:Nat} {x:yJ} (h1:0≤x.aU∧x.aU<n) (h2:0≤x.item∧x.item<w) (h:(0≤x.loc∧x.loc≤1)∧(1≤x.eT∧x.eT≤1073741824)∧(0≤x.value∧x.value≤1125899906842624)∧(0≤x.rC∧x.rC≤x.eT)∧(0≤x.bZ∧x.bZ≤1125899906842624)∧(0≤x.back∧x.back≤x.eT)):adh n w x:=⟨h1,h2,h⟩
theorem ag2 {n w:Nat} {x:pZ} (h1:0≤x.aU∧x.aU<n) (h2:0≤x.item∧x.item<w) (h:(0≤x.loc∧x.loc≤1)∧(1≤x.eT∧x.eT≤1073741824)∧(0≤x.back∧x.back≤x.eT)∧pB x.cost∧pB x.dV∧(1≤x.period∧x.period≤12)):aan n w x:=⟨h1,h2,h⟩
theorem ak7 {n w:Nat} {x:PG} (h1:0≤x.src∧x.src<n) (h2:0≤x.dst∧x.dst<n) (h3:0≤x.item∧x.item<w) (h:(0≤x.eT∧x.eT≤1073741824)∧(0≤x.value∧x.value≤1125899906842624)∧pB x.dV):adg n w x:=⟨h1,h2,h3,h⟩
def wE (S:bL) (e item loc q a:Int):bL×Int :=
 if(S.aJ e).closed=true then(S,7)else
 if S.aH.length=40 then(S,6)else
 match eB S e item loc ⟨q,a,0⟩with
 |(S1,ca,up,f)=>if f≠0 then(S,f)else
 match dH S1 e [⟨0,ca⟩,⟨6,up⟩,⟨1,-a⟩]with
 |(S2,f)=>if f≠0 then(S,f)else
 match eO S2 e item [0,ca,0,0,0,0,0,0,0,0,0]with
 |(S3,f)=>if f≠0 then(S,f)else
 (S3.IT ⟨e,item,loc,q,a,q,a,0⟩,0)
def P7 (S:bL) (e item loc q a:Int):bL×Int :=
 if(S.aJ e).closed=true then(S,7)else
 if S.aM.length=40 then(S,6)else
 match dD S e item loc 0 q with
 |(S1,⟨xq,xv,xp⟩,wt,f)=>if f≠0 then(S,f)else
 match dH S1 e [⟨3,a⟩,⟨4,-a⟩,⟨5,xv⟩,⟨0,-xv⟩]with
 |(S2,f)=>if f≠0 then(S,f)else
 match eO S2 e item [0,0,0,0,0,xv,0,0,0,0,0]with
 |(S3,f)=>if f≠0 then(S,f)else
 (S3.IS ⟨e,item,loc,q,0,xv,xp,(S.aJ e).now,wt⟩,0)
def PO (S:bL) (s:pZ) (ref q a c pf:Int):bL×Int :=
 match eB S s.aU s.item s.loc ⟨q,c,pf⟩with
 |(S1,ca,up,f)=>if f≠0 then(S,f)else
 match dH S1 s.aU [⟨4,a⟩,⟨3,-a⟩,⟨0,ca⟩,⟨6,up⟩,⟨5,-c⟩]with
 |(S2,f)=>if f≠0 then(S,f)else
 match eO S2 s.aU s.item [0,0,0,0,ca,0,0,0,0,0,0]with
 |(S3,f)=>if f≠0 then(S,f)else
 (S3.EI ref ⟨s.aU,s.item,s.loc,s.eT,q+s.back,s.cost-c,s.dV-pf,s.period,s.waits⟩,0)
def aaw (S:bL) (s:pZ) (ref q a:Int):bL×Int :=
 if((S.aJ s.aU).bS (2*s.item+s.loc)).p0<q then(S,5)else
 match dH (S.bT s.aU ((S.aJ s.aU).dG (2*s.item+s.loc) { (S.aJ s.aU).bS (2*s.item+s.loc)with p0:=((S.aJ s.aU).bS (2*s.item+s.loc)).p0-q })) s.aU [⟨4,a⟩,⟨3,-a⟩]with
 |(S2,f)=>if f≠0 then(S,f)else
 (S2.EI ref ⟨s.aU,s.item,s.loc,s.eT,q+s.back,s.cost,s.dV,s.period,s.waits⟩,0)
def PQ (S:bL) (ref q a:Int):bL×Int :=
 match S.aM[ref.toNat]? with
 |none=>(S,4)
 |some s=>if(S.aJ s.aU).closed=true then(S,7)else if s.eT-s.back<q then(S,5)else
  if s.waits=true∧s.period=(S.aJ s.aU).now then aaw S s ref q a else PO S s ref q a (cA s.cost q (s.eT-s.back)) (cA s.dV q (s.eT-s.back))
def Iw (S:bL) (e item loc q:Int):bL×Int :=
 if(S.aJ e).closed=true then(S,7)else
 match dD S e item loc 1 q with
 |(S1,⟨xq,xv,xp⟩,wt,f)=>if f≠0 then(S,f)else
 match dH S1 e [⟨7,xv⟩,⟨0,-xv⟩]with
 |(S2,f)=>if f≠0 then(S,f)else
 match eO S2 e item [0,0,0,0,0,0,0,0,xv,0,0]with
 |(S3,f)=>if f≠0 then(S,f)else
 (S3,0)
def RV (S:bL) (e item loc dst q:Int):bL×Int :=
 if(S.aJ e).closed=true then(S,7)else
 match dD S e item loc 3 q with
 |(S1,⟨xq,xv,xp⟩,wt,f)=>if f≠0 then(S,f)else
 match eB S1 e item dst ⟨xq,xv,xp⟩with
 |(S2,ca,up,f)=>if f≠0 then(S,f)else
 match dH S2 e [⟨0,ca-xv⟩,⟨6,up⟩]with
 |(S3,f)=>if f≠0 then(S,f)else
 match eO S3 e item [0,0,0,0,0,0,0,0,0,0,ca-xv]with
 |(S4,f)=>if f≠0 then(S,f)else
 (S4,0)
def Fw (r:yJ) (q:Int):Int:=if q=r.rC then r.bZ else cA r.bZ q r.rC
def afn (S:bL) (ref q a:Int):bL×Int :=
 match S.aH[ref.toNat]? with
 |none=>(S,4)
 |some ⟨e,item,loc,rq,rv,ro,ra,rb⟩ =>
  if(S.aJ e).closed=true then(S,7)else if ro<q then(S,5)else
  match dH S e [⟨1,Fw ⟨e,item,loc,rq,rv,ro,ra,rb⟩ q⟩,⟨6,a-Fw ⟨e,item,loc,rq,rv,ro,ra,rb⟩ q⟩,⟨2,-a⟩]with
  |(S1,f)=>if f≠0 then(S,f)else(S1.EJ ref ⟨e,item,loc,rq,rv,-q+ro,ra-Fw ⟨e,item,loc,rq,rv,ro,ra,rb⟩ q,rb⟩,0)
def TT (S:bL) (ref q e item loc acc d:Int) (r:yJ):bL×Int :=
 match dD S e item loc 3 q with
 |(S1,⟨xq,xv,xp⟩,wt,f)=>if f≠0 then(S,f)else
 match dH S1 e [⟨acc,d⟩,⟨6,xv-d⟩,⟨0,-xv⟩]with
 |(S2,f)=>if f≠0 then(S,f)else
 match eO S2 e item [0,0,0,0,0,0,0,xv,0,0,0]with
 |(S3,f)=>if f≠0 then(S,f)else(S3.EJ ref r,0)
def sbS (S:bL) (ref q:Int):bL×Int :=
 match S.aH[ref.toNat]? with
 |none=>(S,4)
 |some ⟨e,item,loc,rq,rv,ro,ra,rb⟩ =>
  if(S.aJ e).closed=true then(S,7)else if rq-rb<q then(S,5)else if 0<ro∧ro<q then(S,9)else
  if 0<ro then TT S ref q e item loc 1 (Fw ⟨e,item,loc,rq,rv,ro,ra,rb⟩ q) ⟨e,item,loc,rq,rv,-q+ro,ra-Fw ⟨e,item,loc,rq,rv,ro,ra,rb⟩ q,q+rb⟩
  else TT S ref q e item loc 2 (cA rv q rq) ⟨e,item,loc,rq,rv,ro,ra,q+rb⟩
def P4 (S:bL) (e item loc dst q a:Int):bL×Int :=
 if(S.aJ e).closed=true then(S,7)else
 if(S.aJ dst).closed=true then(S,7)else
 if S.bK.length=40 then(S,6)else
 match dD S e item loc 3 q with
 |(S1,⟨xq,xv,xp⟩,wt,f)=>if f≠0 then(S,f)else
 match dH S1 e [⟨13,a⟩,⟨15,-a⟩,⟨16,xv⟩,⟨0,-xv⟩]with
 |(S2,f)=>if f≠0 then(S,f)else
 match dH S2 dst [⟨12,a⟩,⟨14,-a⟩]with
 |(S3,f)=>if f≠0 then(S,f)else
 match eO S3 e item [0,0,0,0,0,0,xv,0,0,0,0]with
 |(S4,f)=>if f≠0 then(S,f)else
 if -288230376151711744≤a-xv+xp∧a-xv+xp≤288230376151711744 then
 (S4.IQ ⟨e,dst,item,q,a,a-xv+xp⟩,0)else(S,2)
def abH (S:bL) (src e item tq tv tp loc q ref v pf:Int):bL×Int :=
 match eB S e item loc ⟨q,v,pf⟩with
 |(S1,ca,up,f)=>if f≠0 then(S,f)else
 match dH S1 e [⟨0,ca⟩,⟨6,up⟩,⟨12,-v⟩]with
 |(S2,f)=>if f≠0 then(S,f)else
 match eO S2 e item [0,0,0,ca,0,0,0,0,0,0,0]with
 |(S3,f)=>if f≠0 then(S,f)else(S3.P5 ref ⟨src,e,item,-q+tq,tv-v,tp-pf⟩,0)
def Cs (S:bL) (loc q ref:Int):bL×Int :=
 match S.bK[ref.toNat]? with
 |none=>(S,4)
 |some ⟨src,e,item,tq,tv,tp⟩ =>
  if(S.aJ e).closed=true then(S,7)else if tq<q then(S,5)else
  abH S src e item tq tv tp loc q ref (cA tv q tq) (cA tp q tq)
def ai4 (S:bL) (e item loc d:Int):bL×Int :=
 match dD S e item loc 2 d with
 |(S1,⟨xq,xv,xp⟩,wt,f)=>if f≠0 then(S,f)else
 match dH S1 e [⟨8,xv⟩,⟨0,-xv⟩]with
 |(S2,f)=>if f≠0 then(S,f)else
 match eO S2 e item [0,0,0,0,0,0,0,0,0,xv,0]with
 |(S3,f)=>if f≠0 then(S,f)else(S3,0)
def abk (S:bL) (e item loc d v f:Int):bL×Int :=
 if f≠0 then(S,f)else
 match eB S e item loc ⟨d,v,0⟩with
 |(S1,ca,up,f)=>if f≠0 then(S,f)else
 match dH S1 e [⟨0,ca⟩,⟨6,up⟩,⟨8,-v⟩]with
 |(S2,f)=>if f≠0 then(S,f)else
 match eO S2 e item [0,0,0,0,0,0,0,0,0,-ca,0]with
 |(S3,f)=>if f≠0 then(S,f)else(S3,0)
def dR.wW (x:dR) (m k:Int):Int:=if m=3 then vM (x.bS k).bH (x.bS k).pn else qs (x.bS k).bH
def LH (S:bL) (e item loc q:Int):bL×Int :=
 if(S.aJ e).closed=true then(S,7)else
 if q-(S.aJ e).wW (S.cG e item) (2*item+loc)=0 then(S,0)else
 if q-(S.aJ e).wW (S.cG e item) (2*item+loc)<0 then ai4 S e item loc (-q+(S.aJ e).wW (S.cG e item) (2*item+loc))else
 if S.cG e item=4 then abk S e item loc (q-(S.aJ e).wW (S.cG e item) (2*item+loc)) (zY (q-(S.aJ e).wW (S.cG e item) (2*item+loc)) (S.cost e item) 1) (ER (q-(S.aJ e).wW (S.cG e item) (2*item+loc)) (S.cost e item) 1)else
 if 0<qs ((S.aJ e).bS (2*item+loc)).bH then abk S e item loc (q-(S.aJ e).wW (S.cG e item) (2*item+loc)) (zY (vs ((S.aJ e).bS (2*item+loc)).bH) (q-(S.aJ e).wW (S.cG e item) (2*item+loc)) (qs ((S.aJ e).bS (2*item+loc)).bH)) (ER (vs ((S.aJ e).bS (2*item+loc)).bH) (q-(S.aJ e).wW (S.cG e item) (2*item+loc)) (qs ((S.aJ e).bS (2*item+loc)).bH))else
 abk S e item loc (q-(S.aJ e).wW (S.cG e item) (2*item+loc)) 0 0
def dR.Ag (x:dR) (item v:Int):dR:={ x with bD:=x.bD.set item.toNat v }
def IU (S:bL) (e item a:Int):bL×Int :=
 if(S.aJ e).closed=true then(S,7)else(S.bT e ((S.aJ e).Ag item a),0)
theorem ad7 {S:bL} (h:StOk S) {e item a:Int} (x:Ix S e item) (ha:0≤a∧a≤1125899906842624):Kn S (S.bT e ((S.aJ e).Ag item a)):=by
 have E:=h.CJ x;refine⟨Kin.bT (h.bT x.e0 ⟨E.pl,E.ok,E.bl,E.bb,E.rl,E.rr,by simp only[dR.Ag,List.length_set];exact E.pr,?_,E.dl,E.db,E.now⟩ (h.ahead _ (List.mem_of_getElem? (h.at_ x)) _ (h.at_ x))),nH x rfl⟩
 intro v hv;rcases List.mem_or_eq_of_mem_set hv with hv|rfl
 ·exact E.prb v hv
 ·simp only[M58];omega
theorem Oq {v q n:Int} (hn:1≤n) (hq:0≤q) (hqn:q≤n) (h0:0≤v) (hv:v≤1125899906842624):0≤cA v q n∧cA v q n≤v :=
 (xP hn hq hqn (eP.2 ⟨by omega,by omega⟩)).1 h0
theorem OR {a b c:Int} (ha:0≤a) (hb:0≤b):0≤zY a b c∧zY a b c≤288230376151711744:=by
 unfold zY;split
 ·simp
 ·split
  ·simp
  ·have:=Int.ediv_nonneg (Int.mul_nonneg ha hb) (show 0≤c by omega)
   omega
theorem ae9 (a b c:Int):fF (ER a b c):=by
 unfold ER;split
 ·exact⟨by simp,by simp⟩
 ·split<;>exact⟨by simp,by simp⟩
theorem abt {r:yJ} {q:Int} (h1:1≤q) (h2:q≤r.rC) (h3:0≤r.bZ) (h4:r.bZ≤1125899906842624):0≤Fw r q∧Fw r q≤r.bZ:=by
 unfold Fw;split
 ·omega
 ·exact Oq (by omega) (by omega) h2 h3 h4
def Ms (L:List bF) (a:Int):List bF×Int×Int :=
 if L.length=0 then(L,0,0)else if ER (qs L) a 1≠0 then(L,0,2)else([⟨qs L,zY (qs L) a 1,ps L⟩],-vs L+zY (qs L) a 1,0)
def bL.vX (S:bL) (e k:Int) (L:List bF):bL:=S.bT e ((S.aJ e).dG k { (S.aJ e).bS k with bH:=L })
def bL.fN (S:bL) (C:List (List Int)):bL:={ S with cP:=C }
def wC (S:bL) (e item a:Int):bL×Int :=
 if(S.aJ e).closed=true then(S,7)else if S.cG e item≠4 then(S,12)else
 match Ms ((S.aJ e).bS (2*item+0)).bH a with
 |(M0,d0,f)=>if f≠0 then(S,f)else
 match Ms (((S.vX e (2*item+0) M0).aJ e).bS (2*item+1)).bH a with
 |(M1,d1,f)=>if f≠0 then(S,f)else
 match dH (((S.vX e (2*item+0) M0).vX e (2*item+1) M1).fN (S.cP.set e.toNat ((S.cP.getD e.toNat []).set item.toNat a))) e [⟨0,d0+d1⟩,⟨6,-d0-d1⟩]with
 |(S4,f)=>if f≠0 then(S,f)else
 match eO S4 e item [0,0,0,0,0,0,0,0,0,0,d0+d1]with
 |(S5,f)=>if f≠0 then(S,f)else(S5,0)
theorem aaJ {L:List bF} {d:rM} {a:Int} (h:iU 4 L d) (h0:0≤a) {M:List bF} {dd f:Int} (hR:Ms L a=(M,dd,f)):iU 4 M d∧(-288230376151711744≤dd∧dd≤288230376151711744)∧(f=0∨f=2):=by
 unfold Ms at hR;have hq:=gW h.lr.ok;have:=h.lr.q;have:=h.lr.v;have:=h.lr.p
 have hp:=Az L;have hm:=OR (a:=qs L) (b:=a) (c:=1) hq.1 h0
 split at hR
 ·cases hR;exact⟨h,⟨by omega,by omega⟩,.inl rfl⟩
 ·rename_i hl
  split at hR
  ·cases hR;exact⟨h,⟨by omega,by omega⟩,.inr rfl⟩
  ·cases hR
   have h1:1≤qs L:=by
    match L,hl with
    |z::t,_ =>
     have:=cT.1 (h.lr.ok z (by simp))
     have:=(gW (l:=t) fun x hx=>h.lr.ok x (by simp[hx])).1
     rw[fV];omega
   have k:jE ⟨qs L,zY (qs L) a 1,ps L⟩=true:=cT.2 ⟨h1,by simp only;omega,hm.1,hm.2,by simp only;omega,by simp only;omega⟩
   refine⟨⟨LR.one k,.inr (by simp),h.a0,h.b0,h.c0,?_,h.zero⟩,⟨by omega,by omega⟩,.inl rfl⟩
   have:=h.sum;have e:qs [(⟨qs L,zY (qs L) a 1,ps L⟩:bF)]=qs L:=by rw[fV];simp[qs]
   omega
set_option maxRecDepth 1000000
theorem Fb {a b c:Int} (h1:-9223372036854775808≤a∧a≤9223372036854775807) (h2:-9223372036854775808≤b∧b≤9223372036854775807) (h3:-9223372036854775808≤c∧c≤9223372036854775807):eH [a,b,c]:=by
 intro v hv;simp only[List.mem_cons,List.not_mem_nil,or_false]at hv;rcases hv with rfl|rfl|rfl
 ·exact⟨h1.1,h1.2⟩
 ·exact⟨h2.1,h2.2⟩
 ·exact⟨h3.1,h3.2⟩
theorem OpI.er {S:bL} {e item loc dst q a ref f g:Int} (H:OpI S e item loc dst q a ref g) (h:1≤f∧f≤20):OpI S e item loc dst q a ref f:=⟨H.he,H.hi,H.hl,H.hd,H.hq,H.ha,H.hr,h,H.od,H.hn,H.hw,H.hm,H.hc⟩
theorem Gn.op {S:bL} {e item loc dst q a ref:Int} (G:Gn S) (hd:S.done≤1000000) (h1:0≤e∧e≤3) (h2:0≤item∧item≤4) (h3:0≤loc∧loc≤1) (h4:0≤dst∧dst≤3) (h5:0≤q∧q≤1073741824) (h6:0≤a∧a≤1125899906842624) (h7:0≤ref∧ref≤39):OpI S e item loc dst q a ref 1 :=
 ⟨h1,h2,h3,h4,h5,h6,h7,⟨by omega,by omega⟩,⟨⟨G.d0,hd⟩,G.IM,G.MY,G.TF⟩,G.hn,G.hw,G.Fq,G.Aa⟩
section
variable {S:bL} {e item loc dst q a ref:Int}
theorem Ix.eb (x:Ix S e item) (h:StOk S):0≤e∧e≤3:=by have:=x.e0;have:=x.e1;have:=h.hn;omega
theorem Ix.ib (x:Ix S e item) (h:StOk S):0≤item∧item≤4:=by have:=x.i0;have:=x.i1;have:=h.hw;omega
theorem Ot {v q n:Int} (hn:1≤n) (hq:0≤q) (hqn:q≤n) (hv:pB v):pB (cA v q n)∧pB (v-cA v q n):=by
 have:=xP hn hq hqn (eP.2 ⟨hv.1,hv.2⟩)
 rcases Int.lt_or_le v 0 with h|h
 ·have:=this.2 h;exact⟨⟨by omega,by omega⟩,⟨by omega,by omega⟩⟩
 ·have:=this.1 h;exact⟨⟨by omega,by omega⟩,⟨by omega,by omega⟩⟩
theorem aeb {m:Int} {L:List bF} {p0 p1 p2 q:Int} (h:iU m L ⟨p0,p1,p2⟩) (h1:1≤q) (h2:q≤p0):iU m L ⟨p0-q,p1,p2⟩:=by
 have:=h.a0;have:=h.b0;have:=h.c0;have:=h.sum;have:=h.zero
 dsimp only at *
 exact⟨h.lr,h.one,by dsimp only;omega,h.b0,h.c0,by dsimp only;omega,by dsimp only;omega⟩
theorem acT (G:Gn S) (hd:S.done≤1000000) (x:Ix S e item) (hl:0≤loc∧loc≤1) (hq:1≤q∧q≤1073741824) (ha:0≤a∧a≤1125899906842624) :
  Ck 87 [S.av,dC 1 e item loc 0 q a 0] (.bB [(wE S e item loc q a).1.av,.i (wE S e item loc q a).2])∧mY S (wE S e item loc q a):=by
 have h:=G.toStOk;have H:=G.op hd (x.eb h) (x.ib h) hl (dst:=0) (by omega) (q:=q) (by omega) ha (ref:=0) (by omega)
 unfold wE;have R1:=eQ h x;by_cases hc1:(S.aJ e).closed=true
 ·rw[if_pos hc1]at R1 ⊢
  exact⟨cw (fU [] [] [] [] Hr) (ev3 H [] [] [] .nil) Yu DR (kc R1 kn),.bad G (by decide)⟩
 rw[if_neg hc1]at R1 ⊢;by_cases hf:S.aH.length=40
 ·rw[if_pos hf]
  exact⟨cw (fU [] [([([8],1)],40,40)] [] [] Hs) (ev3 H [] [] [] .nil) Yu DS (kc R1 kn),.bad G (by decide)⟩
 rw[if_neg hf];have hf:S.aH.length<40:=by have:=G.IM;omega
 have C1:=jN h x hl.1 hl.2 (y:=⟨q,a,0⟩) (show eH [q,a,0]from Fb (by omega) (by omega) (by omega))
 obtain⟨k1,g1,cb,ub,z1⟩:=mG h x hl.1 hl.2 ⟨q,a,0⟩
 generalize eB S e item loc ⟨q,a,0⟩=b at *
 obtain⟨S1,ca,up,f⟩:=b;dsimp only at *
 have K1:=k1;by_cases h0:f=0
 rotate_left
 ·rw[if_pos h0]
  obtain⟨hz,rfl,rfl⟩:=z1 h0;have hz:=hz.symm;subst hz
  have H:=H.er (f:=f) (by omega)
  exact⟨cw (fU [] Kch [] [] [HF,(145,Vf,HA)]) (ev3 H [] [] [] .nil) Yu Dw (kc R1 (kc C1 kn)),.bad G g1⟩
 subst h0;rw[if_neg (by simp)]
 clear z1;obtain⟨E1,rfl⟩:=K1.ex;have C2:=dA K1.ok (K1.ix x) (l:=[⟨0,ca⟩,⟨6,up⟩,⟨1,-a⟩]) (sX fmo) (by simp)
 obtain⟨k2,g2,z2⟩:=dY K1.ok (K1.ix x) [⟨0,ca⟩,⟨6,up⟩,⟨1,-a⟩]
 generalize dH (S.aZ E1) e [⟨0,ca⟩,⟨6,up⟩,⟨1,-a⟩]=b at *
 obtain⟨S2,f⟩:=b;dsimp only at *
 have K2:=K1.trans k2;by_cases h0:f=0
 rotate_left
 ·rw[if_pos h0]
  obtain hz:=z2 h0
  have hz:=hz.symm;subst hz
  have H:=H.er (f:=f) (by omega)
  exact⟨cw (fU [jI,jI] Kch [] [] [HF,JY,(92,Zo,Dx)]) (ev3 H [ca,up] [] [aN E1] .nil) Yu Dw (kc R1 (kc C1 (kc C2 kn))),.bad G g2⟩
 subst h0;rw[if_neg (by simp)]
 clear z2;obtain⟨E2,rfl⟩:=K2.ex;have C3:=eG K2.ok (K2.ix x) (r:=[0,ca,0,0,0,0,0,0,0,0,0]) rfl
 obtain⟨k3,g3,z3⟩:=fJ K2.ok (K2.ix x) (r:=[0,ca,0,0,0,0,0,0,0,0,0]) rfl
 generalize eO (S.aZ E2) e item [0,ca,0,0,0,0,0,0,0,0,0]=b at *
 obtain⟨S3,f⟩:=b;dsimp only at *
 have K3:=K2.trans k3;by_cases h0:f=0
 rotate_left
 ·rw[if_pos h0]
  obtain hz:=z3 h0
  have hz:=hz.symm;subst hz
  have H:=H.er (f:=f) (by omega)
  exact⟨cw (fU [jI,jI] Kch [] [] [HF,JY,Jw,(124,QC,Dy)]) (ev3 H [ca,up] [] [aN E1,aN E2] .nil) Yu Dw (kc R1 (kc C1 (kc C2 (kc C3 kn)))),.bad G g3⟩
 subst h0;rw[if_neg (by simp)]
 clear z3;obtain⟨E3,rfl⟩:=K3.ex;rw[aco];refine⟨cw (fU [jI,jI] Kch [] [] [HF,JY,Jw,(124,QC,DU)]) (ev3 H [ca,up] [] [aN E1,aN E2,aN E3] .nil) Yu (.bB [(.agg [.o 0,.o 1,.q 1 1,.q 1 2,.q 1 3,.q 8 9,(.seq 8 4 [] [[.v 0,.v 1,.v 2,.v 4,.v 5,.v 4,.v 5,.i 0]]),.q 9 5,.q 6 6,.v 7]),.i 0]) (kc R1 (kc C1 (kc C2 (kc C3 kn)))),.ok K3 ((K3.gn G).IT hf (ag9 (x:=⟨e,item,loc,q,a,q,a,0⟩) (by rw[K3.len];exact x.en) x.iw (by dsimp only;omega))) rfl rfl rfl rfl rfl rfl⟩
theorem akx (G:Gn S) (hd:S.done≤1000000) (x:Ix S e item) (hl:0≤loc∧loc≤1) (hq:1≤q∧q≤1073741824) (ha:0≤a∧a≤1125899906842624) :
  Ck 139 [S.av,dC 4 e item loc 0 q a 0] (.bB [(P7 S e item loc q a).1.av,.i (P7 S e item loc q a).2])∧mY S (P7 S e item loc q a):=by
 have h:=G.toStOk;have H:=G.op hd (x.eb h) (x.ib h) hl (dst:=0) (by omega) (q:=q) (by omega) ha (ref:=0) (by omega)
 unfold P7;have R1:=eQ h x;by_cases hc1:(S.aJ e).closed=true
 ·rw[if_pos hc1]at R1 ⊢
  exact⟨cw (fU [] [] [] [] Hr) (ev3 H [] [] [] .nil) Yv DR (kc R1 kn),.bad G (by decide)⟩
 rw[if_neg hc1]at R1 ⊢;by_cases hf:S.aM.length=40
 ·rw[if_pos hf]
  exact⟨cw (fU [] [([([9],1)],40,40)] [] [] Hs) (ev3 H [] [] [] .nil) Yv DS (kc R1 kn),.bad G (by decide)⟩
 rw[if_neg hf];have hf:S.aM.length<40:=by have:=G.MY;omega
 have C1:=kU h x (kind:=0) hl.1 hl.2 (by omega) (q:=q) ⟨by omega,by omega⟩
 obtain⟨k1,g1,vb,ib,z1⟩:=nR h x (kind:=0) hl.1 hl.2 (by omega) (by omega) q
 generalize dD S e item loc 0 q=b at *;obtain⟨S1,⟨xq,xv,xp⟩,wt,f⟩:=b
 dsimp only at *
 have K1:=k1;by_cases h0:f=0
 rotate_left
 ·rw[if_pos h0]
  obtain⟨hz,hx,rfl⟩:=z1 h0;cases hx;have hz:=hz.symm;subst hz
  have H:=H.er (f:=f) (by omega)
  exact⟨cw (fU [] [Kcr] [] [] [HF,(217,Hj,Z6)]) (ev3 H [] [] [] .nil) Yv Dw (kc R1 (kc C1 kn)),.bad G g1⟩
 subst h0;rw[if_neg (by simp)]
 clear z1;obtain⟨E1,rfl⟩:=K1.ex;have C2:=dA K1.ok (K1.ix x) (l:=[⟨3,a⟩,⟨4,-a⟩,⟨5,xv⟩,⟨0,-xv⟩]) (sX fmo) (by simp)
 obtain⟨k2,g2,z2⟩:=dY K1.ok (K1.ix x) [⟨3,a⟩,⟨4,-a⟩,⟨5,xv⟩,⟨0,-xv⟩]
 generalize dH (S.aZ E1) e [⟨3,a⟩,⟨4,-a⟩,⟨5,xv⟩,⟨0,-xv⟩]=b at *
 obtain⟨S2,f⟩:=b;dsimp only at *
 have K2:=K1.trans k2;by_cases h0:f=0
 rotate_left
 ·rw[if_pos h0]
  obtain hz:=z2 h0
  have hz:=hz.symm;subst hz
  have H:=H.er (f:=f) (by omega)
  exact⟨cw (fU [jI] [Kcr] [] [] [HF,JI,(92,J8,Dx)]) (ev3 H [xv] [.I xq,.I xp,.bool wt] [aN E1] .nil) Yv Dw (kc R1 (kc C1 (kc C2 kn))),.bad G g2⟩
 subst h0;rw[if_neg (by simp)]
 clear z2;obtain⟨E2,rfl⟩:=K2.ex;have C3:=eG K2.ok (K2.ix x) (r:=[0,0,0,0,0,xv,0,0,0,0,0]) rfl
 obtain⟨k3,g3,z3⟩:=fJ K2.ok (K2.ix x) (r:=[0,0,0,0,0,xv,0,0,0,0,0]) rfl
 generalize eO (S.aZ E2) e item [0,0,0,0,0,xv,0,0,0,0,0]=b at *
 obtain⟨S3,f⟩:=b;dsimp only at *
 have K3:=K2.trans k3;by_cases h0:f=0
 rotate_left
 ·rw[if_pos h0]
  obtain hz:=z3 h0
  have hz:=hz.symm;subst hz
  have H:=H.er (f:=f) (by omega)
  exact⟨cw (fU [jI] [Kcr] [] [] [HF,JI,KZ,(124,QD,Dy)]) (ev3 H [xv] [.I xq,.I xp,.bool wt] [aN E1,aN E2] .nil) Yv Dw (kc R1 (kc C1 (kc C2 (kc C3 kn)))),.bad G g3⟩
 subst h0;rw[if_neg (by simp)]
 clear z3;obtain⟨E3,rfl⟩:=K3.ex;have hat:=h.at_ x;have:=(h.CJ x).now
 have:=x.e0;have:=x.e1;have:=h.hn
 rw[acn];refine⟨cw (fU [jI] [Kcr,KaL] [] [(0,[([0],1)],[.o 5,.o 6,.q 4 10,.q 1 11,.q 11 12,.q 1 13,.q 1 14,.q 8 15])] [HF,JI,KZ,(124,QD,DU)]) (ev3 H [xv] [.I xq,.I xp,.bool wt,.I (S.aJ e).now,.bool (S.aJ e).closed] [aN E1,aN E2,aN E3,bU (S.aJ e).bM,aA (S.aJ e).eJ,bQ (S.aJ e).aF,aA (S.aJ e).bD,aA (S.aJ e).down,cN (S.aJ e).ahead] (.d (aE hat) .nil)) Yv (.bB [(.agg [.o 0,.o 1,.q 1 1,.q 1 2,.q 1 3,.q 8 9,.q 8 4,(.seq 9 5 [] [[.v 0,.v 1,.v 2,.v 4,.i 0,.v 14,.o 3,.o 5,.o 4]]),.q 6 6,.v 7]),.i 0]) (kc R1 (kc C1 (kc C2 (kc C3 kn)))),.ok K3 ((K3.gn G).IS hf (ag2 (x:=⟨e,item,loc,q,0,xv,xp,(S.aJ e).now,wt⟩) (by rw[K3.len];exact x.en) x.iw (by dsimp only;omega)) (Int.le_of_eq (K3.now e).symm)) rfl rfl rfl rfl rfl rfl⟩
theorem ah1 (G:Gn S) (hd:S.done≤1000000) (x:Ix S e item) (hl:0≤loc∧loc≤1) (hq:1≤q∧q≤1073741824) :
  Ck 140 [S.av,dC 6 e item loc 0 q 0 0] (.bB [(Iw S e item loc q).1.av,.i (Iw S e item loc q).2])∧mY S (Iw S e item loc q):=by
 have h:=G.toStOk;have H:=G.op hd (x.eb h) (x.ib h) hl (dst:=0) (by omega) (q:=q) (by omega) (a:=0) (by omega) (ref:=0) (by omega)
 unfold Iw;have R1:=eQ h x;by_cases hc1:(S.aJ e).closed=true
 ·rw[if_pos hc1]at R1 ⊢
  exact⟨cw (fU [] [] [] [] Hr) (ev3 H [] [] [] .nil) Yw DR (kc R1 kn),.bad G (by decide)⟩
 rw[if_neg hc1]at R1 ⊢;have C1:=kU h x (kind:=1) hl.1 hl.2 (by omega) (q:=q) ⟨by omega,by omega⟩
 obtain⟨k1,g1,vb,ib,z1⟩:=nR h x (kind:=1) hl.1 hl.2 (by omega) (by omega) q
 generalize dD S e item loc 1 q=b at *;obtain⟨S1,⟨xq,xv,xp⟩,wt,f⟩:=b
 dsimp only at *
 have K1:=k1;by_cases h0:f=0
 rotate_left
 ·rw[if_pos h0]
  obtain⟨hz,hx,rfl⟩:=z1 h0;cases hx;have hz:=hz.symm;subst hz
  have H:=H.er (f:=f) (by omega)
  exact⟨cw (fU [] [] [] [] [HF,(217,Hk,Z6)]) (ev3 H [] [] [] .nil) Yw Dw (kc R1 (kc C1 kn)),.bad G g1⟩
 subst h0;rw[if_neg (by simp)]
 clear z1;obtain⟨E1,rfl⟩:=K1.ex;have C2:=dA K1.ok (K1.ix x) (l:=[⟨7,xv⟩,⟨0,-xv⟩]) (sX fmo) (by simp)
 obtain⟨k2,g2,z2⟩:=dY K1.ok (K1.ix x) [⟨7,xv⟩,⟨0,-xv⟩]
 generalize dH (S.aZ E1) e [⟨7,xv⟩,⟨0,-xv⟩]=b at *
 obtain⟨S2,f⟩:=b;dsimp only at *
 have K2:=K1.trans k2;by_cases h0:f=0
 rotate_left
 ·rw[if_pos h0]
  obtain hz:=z2 h0
  have hz:=hz.symm;subst hz
  have H:=H.er (f:=f) (by omega)
  exact⟨cw (fU [jI] [] [] [] [HF,JJ,(92,YS,Dx)]) (ev3 H [xv] [.I xq,.I xp,.bool wt] [aN E1] .nil) Yw Dw (kc R1 (kc C1 (kc C2 kn))),.bad G g2⟩
 subst h0;rw[if_neg (by simp)]
 clear z2;obtain⟨E2,rfl⟩:=K2.ex;have C3:=eG K2.ok (K2.ix x) (r:=[0,0,0,0,0,0,0,0,xv,0,0]) rfl
 obtain⟨k3,g3,z3⟩:=fJ K2.ok (K2.ix x) (r:=[0,0,0,0,0,0,0,0,xv,0,0]) rfl
 generalize eO (S.aZ E2) e item [0,0,0,0,0,0,0,0,xv,0,0]=b at *
 obtain⟨S3,f⟩:=b;dsimp only at *
 have K3:=K2.trans k3;by_cases h0:f=0
 rotate_left
 ·rw[if_pos h0]
  obtain hz:=z3 h0
  have hz:=hz.symm;subst hz
  have H:=H.er (f:=f) (by omega)
  exact⟨cw (fU [jI] [] [] [] [HF,JJ,JU,(124,QE,Dy)]) (ev3 H [xv] [.I xq,.I xp,.bool wt] [aN E1,aN E2] .nil) Yw Dw (kc R1 (kc C1 (kc C2 (kc C3 kn)))),.bad G g3⟩
 subst h0;rw[if_neg (by simp)]
 clear z3;obtain⟨E3,rfl⟩:=K3.ex;refine⟨cw (fU [jI] [] [] [] [HF,JJ,JU,(124,QE,DU)]) (ev3 H [xv] [.I xq,.I xp,.bool wt] [aN E1,aN E2,aN E3] .nil) Yw DU (kc R1 (kc C1 (kc C2 (kc C3 kn)))),.ok K3 (K3.gn G) rfl rfl rfl rfl rfl rfl⟩
theorem aky (G:Gn S) (hd:S.done≤1000000) (x:Ix S e item) (hl:0≤loc∧loc≤1) (ht:0≤dst∧dst≤1) (hq:1≤q∧q≤1073741824) :
  Ck 140 [S.av,dC 8 e item loc dst q 0 0] (.bB [(RV S e item loc dst q).1.av,.i (RV S e item loc dst q).2])∧mY S (RV S e item loc dst q):=by
 have h:=G.toStOk;have H:=G.op hd (x.eb h) (x.ib h) hl (dst:=dst) (by omega) (q:=q) (by omega) (a:=0) (by omega) (ref:=0) (by omega)
 unfold RV;have R1:=eQ h x;by_cases hc1:(S.aJ e).closed=true
 ·rw[if_pos hc1]at R1 ⊢
  exact⟨cw (fU [] [] [] [] Hr) (ev3 H [] [] [] .nil) Yx DR (kc R1 kn),.bad G (by decide)⟩
 rw[if_neg hc1]at R1 ⊢;have C1:=kU h x (kind:=3) hl.1 hl.2 (by omega) (q:=q) ⟨by omega,by omega⟩
 obtain⟨k1,g1,vb,ib,z1⟩:=nR h x (kind:=3) hl.1 hl.2 (by omega) (by omega) q
 generalize dD S e item loc 3 q=b at *;obtain⟨S1,⟨xq,xv,xp⟩,wt,f⟩:=b
 dsimp only at *
 have K1:=k1;by_cases h0:f=0
 rotate_left
 ·rw[if_pos h0]
  obtain⟨hz,hx,rfl⟩:=z1 h0;cases hx;have hz:=hz.symm;subst hz
  have H:=H.er (f:=f) (by omega)
  exact⟨cw (fU [] [] [] [] KF) (ev3 H [] [] [] .nil) Yx Dw (kc R1 (kc C1 kn)),.bad G g1⟩
 subst h0;rw[if_neg (by simp)]
 clear z1;obtain⟨E1,rfl⟩:=K1.ex;have C2:=jN K1.ok (K1.ix x) ht.1 ht.2 (y:=⟨xq,xv,xp⟩) (show eH [xq,xv,xp]from Fb (by omega) (by omega) (by omega))
 obtain⟨k2,g2,cb,ub,z2⟩:=mG K1.ok (K1.ix x) ht.1 ht.2 ⟨xq,xv,xp⟩
 generalize eB (S.aZ E1) e item dst ⟨xq,xv,xp⟩=b at *
 obtain⟨S2,ca,up,f⟩:=b;dsimp only at *
 have K2:=K1.trans k2;by_cases h0:f=0
 rotate_left
 ·rw[if_pos h0]
  obtain⟨hz,rfl,rfl⟩:=z2 h0;have hz:=hz.symm;subst hz
  have H:=H.er (f:=f) (by omega)
  exact⟨cw (fU [jI] [] [] [] [HF,(217,Hl,UT),(145,[Kb3,.v 0,.v 1,.v 3,(.agg [.o 2,.v 14,.o 3])],(.bB [Kb3,.i 0,.i 0,.v 13]))]) (ev3 H [xv] [.I xq,.I xp,.bool wt] [aN E1] .nil) Yx Dw (kc R1 (kc C1 (kc C2 kn))),.bad G g2⟩
 subst h0;rw[if_neg (by simp)]
 clear z2;obtain⟨E2,rfl⟩:=K2.ex;have C3:=dA K2.ok (K2.ix x) (l:=[⟨0,ca-xv⟩,⟨6,up⟩]) (sX fmo) (by simp)
 obtain⟨k3,g3,z3⟩:=dY K2.ok (K2.ix x) [⟨0,ca-xv⟩,⟨6,up⟩]
 generalize dH (S.aZ E2) e [⟨0,ca-xv⟩,⟨6,up⟩]=b at *
 obtain⟨S3,f⟩:=b;dsimp only at *
 have K3:=K2.trans k3;by_cases h0:f=0
 rotate_left
 ·rw[if_pos h0]
  obtain hz:=z3 h0
  have hz:=hz.symm;subst hz
  have H:=H.er (f:=f) (by omega)
  exact⟨cw (fU [jI,jI,jI] [] [] [] [HF,JK,JV,(92,Zu,Dy)]) (ev3 H [ca,up,xv] [.I xq,.I xp,.bool wt] [aN E1,aN E2] .nil) Yx Dw (kc R1 (kc C1 (kc C2 (kc C3 kn)))),.bad G g3⟩
 subst h0;rw[if_neg (by simp)]
 clear z3;obtain⟨E3,rfl⟩:=K3.ex;have C4:=eG K3.ok (K3.ix x) (r:=[0,0,0,0,0,0,0,0,0,0,ca-xv]) rfl
 obtain⟨k4,g4,z4⟩:=fJ K3.ok (K3.ix x) (r:=[0,0,0,0,0,0,0,0,0,0,ca-xv]) rfl
 generalize eO (S.aZ E3) e item [0,0,0,0,0,0,0,0,0,0,ca-xv]=b at *
 obtain⟨S4,f⟩:=b;dsimp only at *
 have K4:=K3.trans k4;by_cases h0:f=0
 rotate_left
 ·rw[if_pos h0]
  obtain hz:=z4 h0
  have hz:=hz.symm;subst hz
  have H:=H.er (f:=f) (by omega)
  exact⟨cw (fU [jI,jI,jI] [] [] [] [HF,JK,JV,Jz,(124,JM,Dz)]) (ev3 H [ca,up,xv] [.I xq,.I xp,.bool wt] [aN E1,aN E2,aN E3] .nil) Yx Dw (kc R1 (kc C1 (kc C2 (kc C3 (kc C4 kn))))),.bad G g4⟩
 subst h0;rw[if_neg (by simp)]
 clear z4;obtain⟨E4,rfl⟩:=K4.ex;refine⟨cw (fU [jI,jI,jI] [] [] [] [HF,JK,JV,Jz,(124,JM,DA)]) (ev3 H [ca,up,xv] [.I xq,.I xp,.bool wt] [aN E1,aN E2,aN E3,aN E4] .nil) Yx DA (kc R1 (kc C1 (kc C2 (kc C3 (kc C4 kn))))),.ok K4 (K4.gn G) rfl rfl rfl rfl rfl rfl⟩
set_option maxHeartbeats 1000000 in
theorem akv (G:Gn S) (hd:S.done≤1000000) (hq:1≤q∧q≤1073741824) (ha:0≤a∧a≤1125899906842624) (hr:0≤ref∧ref≤39) :
  Ck 139 [S.av,dC 5 0 0 0 0 q a ref] (.bB [(PQ S ref q a).1.av,.i (PQ S ref q a).2])∧mY S (PQ S ref q a):=by
 have h:=G.toStOk;unfold PQ;cases hsa:S.aM[ref.toNat]? with
 |none =>
  have H:=G.op hd (e:=0) (by omega) (item:=0) (by omega) (loc:=0) (by omega) (dst:=0) (by omega) (q:=q) (by omega) ha hr
  have:=List.getElem?_eq_none_iff.1 hsa
  exact⟨cw (fU [] [([([6],1),([9],-1)],0,1152921504606846976)] [] [] []) (ev3 H [] [] [] .nil) Yy DV kn,.bad G (by decide)⟩
 |some s =>
  have hm:=List.mem_of_getElem? hsa
  have hpe:=G.pb s hm;have B:=G.Mf s hm;have:=(List.getElem?_eq_some_iff.1 hsa).1
  have:=G.MY;obtain⟨e,item,loc,sq,sb,sc,sp,st,sw⟩:=s;dsimp only at *
  obtain⟨b1,b2,hl,b4,b5,b6,b7,b8⟩:=B;dsimp only at *
  have x:Ix S e item:=⟨b1.1,b1.2,b2.1,b2.2⟩
  have H:=G.op hd (x.eb h) (x.ib h) hl (dst:=0) (by omega) (q:=q) (by omega) ha hr
  have R1:=eQ h x;by_cases hc1:(S.aJ e).closed=true
  ·rw[if_pos hc1]at R1 ⊢
   exact⟨cw (fU Hm [KaM] [] UB Hr) (ev3 H [sq,sb,sc,sp,st] [.bool sw] [] (.d (aV hsa) .nil)) Yy DR (kc R1 kn),.bad G (by decide)⟩
  rw[if_neg hc1]at R1 ⊢;by_cases hsh:sq-sb<q
  ·rw[if_pos hsh]
   exact⟨cw (fU Hm [KaM,([([4],1),([14],-1),([15],1)],1,1152921504606846976)] [] UB Hs) (ev3 H [sq,sb,sc,sp,st] [.bool sw] [] (.d (aV hsa) .nil)) Yy DW (kc R1 kn),.bad G (by decide)⟩
  rw[if_neg hsh];have hat:=h.at_ x;have:=x.e0;have:=x.e1;have:=h.hn
  have:=(h.CJ x).now
  have Cc:=kV (v:=sc) (q:=q) (n:=sq-sb) ⟨by omega,by omega⟩ ⟨by omega,by omega⟩ ⟨by omega,by omega⟩
  have Cp:=kV (v:=sp) (q:=q) (n:=sq-sb) ⟨by omega,by omega⟩ ⟨by omega,by omega⟩ ⟨by omega,by omega⟩
  obtain⟨c1,c2⟩:=Ot (v:=sc) (q:=q) (n:=sq-sb) (by omega) (by omega) (by omega) b6
  obtain⟨c3,c4⟩:=Ot (v:=sp) (q:=q) (n:=sq-sb) (by omega) (by omega) (by omega) b7
  unfold PO;dsimp only
  generalize cA sc q (sq-sb)=c at *
  generalize cA sp q (sq-sb)=pf at *
  cases sw with
  |false =>
   rw[if_neg (by simp)]
   have C1:=jN h x hl.1 hl.2 (y:=⟨q,c,pf⟩) (show eH [q,c,pf]from Fb (by omega) (by omega) (by omega))
   obtain⟨k1,g1,cb,ub,z1⟩:=mG h x hl.1 hl.2 ⟨q,c,pf⟩
   generalize eB S e item loc ⟨q,c,pf⟩=b at *
   obtain⟨S1,ca,up,f⟩:=b;dsimp only at *
   have K1:=k1;by_cases h0:f=0
   rotate_left
   ·rw[if_pos h0]
    obtain⟨hz,rfl,rfl⟩:=z1 h0;have hz:=hz.symm;subst hz
    have H:=H.er (f:=f) (by omega)
    exact⟨cw (fU [(0,1073741824),(0,1073741824),jI,jI,(0,100),jI,jI] ZH [] ZI Ko) (ev3 H [sq,sb,sc,sp,st,c,pf] [] [] (.d (aV hsa) .nil)) Yy Dw (kc R1 (kc Cc (kc Cp (kc C1 kn)))),.bad G g1⟩
   subst h0;rw[if_neg (by simp)]
   clear z1;obtain⟨E1,rfl⟩:=K1.ex;have C2:=dA K1.ok (K1.ix x) (l:=[⟨4,a⟩,⟨3,-a⟩,⟨0,ca⟩,⟨6,up⟩,⟨5,-c⟩]) (sX fmo) (by simp)
   obtain⟨k2,g2,z2⟩:=dY K1.ok (K1.ix x) [⟨4,a⟩,⟨3,-a⟩,⟨0,ca⟩,⟨6,up⟩,⟨5,-c⟩]
   generalize dH (S.aZ E1) e [⟨4,a⟩,⟨3,-a⟩,⟨0,ca⟩,⟨6,up⟩,⟨5,-c⟩]=b at *
   obtain⟨S2,f⟩:=b;dsimp only at *
   have K2:=K1.trans k2;by_cases h0:f=0
   rotate_left
   ·rw[if_pos h0]
    obtain hz:=z2 h0
    have hz:=hz.symm;subst hz
    have H:=H.er (f:=f) (by omega)
    exact⟨cw (fU U4 ZH [] ZI [HF,Wl,Wm,JR,(92,JB,Dx)]) (ev3 H [sq,sb,sc,sp,st,c,pf,ca,up] [] [aN E1] (.d (aV hsa) .nil)) Yy Dw (kc R1 (kc Cc (kc Cp (kc C1 (kc C2 kn))))),.bad G g2⟩
   subst h0;rw[if_neg (by simp)]
   clear z2;obtain⟨E2,rfl⟩:=K2.ex;have C3:=eG K2.ok (K2.ix x) (r:=[0,0,0,0,ca,0,0,0,0,0,0]) rfl
   obtain⟨k3,g3,z3⟩:=fJ K2.ok (K2.ix x) (r:=[0,0,0,0,ca,0,0,0,0,0,0]) rfl
   generalize eO (S.aZ E2) e item [0,0,0,0,ca,0,0,0,0,0,0]=b at *
   obtain⟨S3,f⟩:=b;dsimp only at *
   have K3:=K2.trans k3;by_cases h0:f=0
   rotate_left
   ·rw[if_pos h0]
    obtain hz:=z3 h0
    have hz:=hz.symm;subst hz
    have H:=H.er (f:=f) (by omega)
    exact⟨cw (fU U4 ZH [] ZI [HF,Wl,Wm,JR,KN,(124,QG,Dy)]) (ev3 H [sq,sb,sc,sp,st,c,pf,ca,up] [] [aN E1,aN E2] (.d (aV hsa) .nil)) Yy Dw (kc R1 (kc Cc (kc Cp (kc C1 (kc C2 (kc C3 kn)))))),.bad G g3⟩
   subst h0;rw[if_neg (by simp)]
   clear z3;obtain⟨E3,rfl⟩:=K3.ex;rw[It];refine⟨cw (fU U4 ZH [] ZI [HF,Wl,Wm,JR,KN,(124,QG,DU)]) (ev3 H [sq,sb,sc,sp,st,c,pf,ca,up] [] [aN E1,aN E2,aN E3] (.d (aV hsa) .nil)) Yy (.bB [(.agg [.o 0,.o 1,.q 1 1,.q 1 2,.q 1 3,.q 8 9,.q 8 4,(.seq 9 5 [([([6],1)],[.v 0,.v 1,.v 2,.v 14,Kbv,(.e [([16],1),([19],(-1))]),Kaz,.v 18,Kcd])] []),.q 6 6,.v 7]),.i 0]) (kc R1 (kc Cc (kc Cp (kc C1 (kc C2 (kc C3 kn)))))),.ok K3 ((K3.gn G).EI (ag2 (x:=⟨e,item,loc,sq,q+sb,sc-c,sp-pf,st,false⟩) (by rw[K3.len];exact x.en) x.iw (by dsimp only;omega)) (by rw[show(((S.aZ E3).aJ e).now)=(S.aJ e).now from K3.now e];exact hpe)) rfl rfl rfl rfl rfl rfl⟩
  |true =>
   by_cases hst:st=(S.aJ e).now
   rotate_left
   ·rw[if_neg (by simp[hst])]
    have C1:=jN h x hl.1 hl.2 (y:=⟨q,c,pf⟩) (show eH [q,c,pf]from Fb (by omega) (by omega) (by omega))
    obtain⟨k1,g1,cb,ub,z1⟩:=mG h x hl.1 hl.2 ⟨q,c,pf⟩
    generalize eB S e item loc ⟨q,c,pf⟩=b at *
    obtain⟨S1,ca,up,f⟩:=b;dsimp only at *
    have K1:=k1;by_cases h0:f=0
    rotate_left
    ·rw[if_pos h0]
     obtain⟨hz,rfl,rfl⟩:=z1 h0;have hz:=hz.symm;subst hz
     have H:=H.er (f:=f) (by omega)
     exact⟨cw (fU [(0,1073741824),(0,1073741824),jI,jI,(0,100),jI,jI,(-100,100)] [KaM,VS,KaL,([([18],-1),([21],1)],1,200)] [] [Z7,(0,[([0],1)],[.v 21,.o 2,.q 4 7,.q 1 8,.q 11 9,.q 1 10,.q 1 11,.q 8 12])] Ko) (ev3 H [sq,sb,sc,sp,st,c,pf,(S.aJ e).now] [.bool (S.aJ e).closed] [bU (S.aJ e).bM,aA (S.aJ e).eJ,bQ (S.aJ e).aF,aA (S.aJ e).bD,aA (S.aJ e).down,cN (S.aJ e).ahead] (.d (aV hsa) (.d (aE hat) .nil))) Yy Dw (kc R1 (kc Cc (kc Cp (kc C1 kn)))),.bad G g1⟩
    subst h0;rw[if_neg (by simp)]
    clear z1;obtain⟨E1,rfl⟩:=K1.ex;have C2:=dA K1.ok (K1.ix x) (l:=[⟨4,a⟩,⟨3,-a⟩,⟨0,ca⟩,⟨6,up⟩,⟨5,-c⟩]) (sX fmo) (by simp)
    obtain⟨k2,g2,z2⟩:=dY K1.ok (K1.ix x) [⟨4,a⟩,⟨3,-a⟩,⟨0,ca⟩,⟨6,up⟩,⟨5,-c⟩]
    generalize dH (S.aZ E1) e [⟨4,a⟩,⟨3,-a⟩,⟨0,ca⟩,⟨6,up⟩,⟨5,-c⟩]=b at *
    obtain⟨S2,f⟩:=b;dsimp only at *
    have K2:=K1.trans k2;by_cases h0:f=0
    rotate_left
    ·rw[if_pos h0]
     obtain hz:=z2 h0
     have hz:=hz.symm;subst hz
     have H:=H.er (f:=f) (by omega)
     exact⟨cw (fU YZ Jj [] KR [HF,Wl,Wm,JN,(92,JA,(.bB [KbK,.v 13]))]) (ev3 H [sq,sb,sc,sp,st,c,pf,ca,up,(S.aJ e).now] [.bool (S.aJ e).closed] [bU (S.aJ e).bM,aA (S.aJ e).eJ,bQ (S.aJ e).aF,aA (S.aJ e).bD,aA (S.aJ e).down,cN (S.aJ e).ahead,aN E1] (.d (aV hsa) (.d (aE hat) .nil))) Yy Dw (kc R1 (kc Cc (kc Cp (kc C1 (kc C2 kn))))),.bad G g2⟩
    subst h0;rw[if_neg (by simp)]
    clear z2;obtain⟨E2,rfl⟩:=K2.ex;have C3:=eG K2.ok (K2.ix x) (r:=[0,0,0,0,ca,0,0,0,0,0,0]) rfl
    obtain⟨k3,g3,z3⟩:=fJ K2.ok (K2.ix x) (r:=[0,0,0,0,ca,0,0,0,0,0,0]) rfl
    generalize eO (S.aZ E2) e item [0,0,0,0,ca,0,0,0,0,0,0]=b at *
    obtain⟨S3,f⟩:=b;dsimp only at *
    have K3:=K2.trans k3;by_cases h0:f=0
    rotate_left
    ·rw[if_pos h0]
     obtain hz:=z3 h0
     have hz:=hz.symm;subst hz
     have H:=H.er (f:=f) (by omega)
     exact⟨cw (fU YZ Jj [] KR [HF,Wl,Wm,JN,KL,(124,Qw,Df)]) (ev3 H [sq,sb,sc,sp,st,c,pf,ca,up,(S.aJ e).now] [.bool (S.aJ e).closed] [bU (S.aJ e).bM,aA (S.aJ e).eJ,bQ (S.aJ e).aF,aA (S.aJ e).bD,aA (S.aJ e).down,cN (S.aJ e).ahead,aN E1,aN E2] (.d (aV hsa) (.d (aE hat) .nil))) Yy Dw (kc R1 (kc Cc (kc Cp (kc C1 (kc C2 (kc C3 kn)))))),.bad G g3⟩
    subst h0;rw[if_neg (by simp)]
    clear z3;obtain⟨E3,rfl⟩:=K3.ex;rw[It];refine⟨cw (fU YZ Jj [] KR [HF,Wl,Wm,JN,KL,(124,Qw,DB)]) (ev3 H [sq,sb,sc,sp,st,c,pf,ca,up,(S.aJ e).now] [.bool (S.aJ e).closed] [bU (S.aJ e).bM,aA (S.aJ e).eJ,bQ (S.aJ e).aF,aA (S.aJ e).bD,aA (S.aJ e).down,cN (S.aJ e).ahead,aN E1,aN E2,aN E3] (.d (aV hsa) (.d (aE hat) .nil))) Yy (.bB [(.agg [.o 0,.o 1,.q 1 1,.q 1 2,.q 1 3,.q 8 15,.q 8 4,(.seq 9 5 [([([6],1)],[.v 0,.v 1,.v 2,.v 14,Kbv,(.e [([16],1),([19],(-1))]),Kaz,.v 18,Kcm])] []),.q 6 6,.v 7]),.i 0]) (kc R1 (kc Cc (kc Cp (kc C1 (kc C2 (kc C3 kn)))))),.ok K3 ((K3.gn G).EI (ag2 (x:=⟨e,item,loc,sq,q+sb,sc-c,sp-pf,st,true⟩) (by rw[K3.len];exact x.en) x.iw (by dsimp only;omega)) (by rw[show(((S.aZ E3).aJ e).now)=(S.aJ e).now from K3.now e];exact hpe)) rfl rfl rfl rfl rfl rfl⟩
   rw[if_pos ⟨rfl,hst⟩]
   unfold aaw;have hpo:=h.Rv x hl.1 hl.2;have Ca:=kD h x hl.1 hl.2;dsimp only
   generalize (S.aJ e).bS (2*item+loc)=P at *
   obtain⟨L,p0,p1,p2⟩:=P;have:=hpo.pnd.a0;have:=hpo.pnd.a1
   dsimp only[dF.pn]at *
   have Cb:=X8 (L:=L) (p0:=p0) (p1:=p1) (p2:=p2) (q:=q) hpo.lr.len (by omega) hq
   by_cases hb:p0<q
   ·rw[if_pos hb]
    rw[if_pos hb,if_pos hb]at Cb;exact⟨cw (fU Vo Jn [] KT [HF,YT,(218,HS,(.bB [BT,.i 5]))]) (ev3 H [sq,sb,sc,sp,st,(S.aJ e).now] [.bool (S.aJ e).closed,.I p0,.I p1,.I p2] [bU (S.aJ e).bM,aA (S.aJ e).eJ,bQ (S.aJ e).aF,aA (S.aJ e).bD,aA (S.aJ e).down,cN (S.aJ e).ahead,aG L] (.d (aV hsa) (.d (aE hat) .nil))) Yy DW (kc R1 (kc Ca (kc Cb kn))),.bad G (by decide)⟩
   rw[if_neg hb];rw[if_neg hb,if_neg hb]at Cb;have C1:=pW h x hl.1 hl.2 ⟨L,p0-q,p1,p2⟩
   have k1:=nK h x hl.1 hl.2 (p:=⟨L,p0-q,p1,p2⟩) (aeb hpo (by omega) (by omega))
   generalize S.bT e ((S.aJ e).dG (2*item+loc) ⟨L,p0-q,p1,p2⟩)=S1 at *
   have K1:=k1;obtain⟨E1,rfl⟩:=K1.ex;have C2:=dA K1.ok (K1.ix x) (l:=[⟨4,a⟩,⟨3,-a⟩]) (sX fmo) (by simp)
   obtain⟨k2,g2,z2⟩:=dY K1.ok (K1.ix x) [⟨4,a⟩,⟨3,-a⟩]
   generalize dH (S.aZ E1) e [⟨4,a⟩,⟨3,-a⟩]=b at *
   obtain⟨S2,f⟩:=b;dsimp only at *
   have K2:=K1.trans k2;by_cases h0:f=0
   rotate_left
   ·rw[if_pos h0]
    obtain hz:=z2 h0
    have hz:=hz.symm;subst hz
    have H:=H.er (f:=f) (by omega)
    exact⟨cw (fU Vo Jn [] KT [HF,YT,QU,QH,(92,Y0,Df)]) (ev3 H [sq,sb,sc,sp,st,(S.aJ e).now] [.bool (S.aJ e).closed,.I p0,.I p1,.I p2,.I (p0-q)] [bU (S.aJ e).bM,aA (S.aJ e).eJ,bQ (S.aJ e).aF,aA (S.aJ e).bD,aA (S.aJ e).down,cN (S.aJ e).ahead,aG L,aN E1] (.d (aV hsa) (.d (aE hat) .nil))) Yy Dw (kc R1 (kc Ca (kc Cb (kc C1 (kc C2 kn))))),.bad G g2⟩
   subst h0;rw[if_neg (by simp)]
   clear z2;obtain⟨E2,rfl⟩:=K2.ex;rw[It];refine⟨cw (fU Vo Jn [] KT [HF,YT,QU,QH,(92,Y0,DB)]) (ev3 H [sq,sb,sc,sp,st,(S.aJ e).now] [.bool (S.aJ e).closed,.I p0,.I p1,.I p2,.I (p0-q)] [bU (S.aJ e).bM,aA (S.aJ e).eJ,bQ (S.aJ e).aF,aA (S.aJ e).bD,aA (S.aJ e).down,cN (S.aJ e).ahead,aG L,aN E1,aN E2] (.d (aV hsa) (.d (aE hat) .nil))) Yy (.bB [(.agg [.o 0,.o 1,.q 1 1,.q 1 2,.q 1 3,.q 8 15,.q 8 4,(.seq 9 5 [([([6],1)],[.v 0,.v 1,.v 2,.v 14,Kbv,.v 16,.v 17,.v 18,Kcm])] []),.q 6 6,.v 7]),.i 0]) (kc R1 (kc Ca (kc Cb (kc C1 (kc C2 kn))))),.ok K2 ((K2.gn G).EI (ag2 (x:=⟨e,item,loc,sq,q+sb,sc,sp,st,true⟩) (by rw[K2.len];exact x.en) x.iw (by dsimp only;omega)) (by rw[show(((S.aZ E2).aJ e).now)=(S.aJ e).now from K2.now e];exact hpe)) rfl rfl rfl rfl rfl rfl⟩
end
end
section
open Mc
set_option maxRecDepth 1000000
theorem NG {e item loc rq rv ro ra rb q:Int} (hq:1≤q) (h1:q≤ro) (h2:ro≤1073741824) (h3:0≤ra) (h4:ra≤1125899906842624):Ck 223 [.agg (iC [e,item,loc,rq,rv,ro,ra,rb]),.i q] (.i (Fw ⟨e,item,loc,rq,rv,ro,ra,rb⟩ q)):=by
 have hp:=kV (v:=ra) (q:=q) (n:=ro) ⟨by omega,by omega⟩ ⟨by omega,by omega⟩ ⟨by omega,by omega⟩
 unfold Fw;dsimp only
 generalize cA ra q ro=d at *;by_cases hf:q=ro
 ·rw[if_pos hf];exact cw _ (ev1 { vars:=Wn,facts:=[(Kcf,0,0)] } [ro,q,ra] [.I e,.I item,.I loc,.I rq,.I rv,.I rb,.I d] [] .nil) VA (.v 2) kn
 ·rw[if_neg hf];exact cw _ (ev1 { vars:=Wn,facts:=[(Kcf,1,1099511627776)],bN:=[(149,[.v 2,.v 1,.v 0],(.o 6))] } [ro,q,ra] [.I e,.I item,.I loc,.I rq,.I rv,.I rb,.I d] [] .nil) VA (.o 6) (kc hp kn)
section
variable {S:bL} {e item loc dst q a ref:Int}
set_option maxHeartbeats 1000000 in
theorem al8 (G:Gn S) (hd:S.done≤1000000) (hq:1≤q∧q≤1073741824) (ha:0≤a∧a≤1125899906842624) (hr:0≤ref∧ref≤39) :
  Ck 141 [S.av,dC 2 0 0 0 0 q a ref] (.bB [(afn S ref q a).1.av,.i (afn S ref q a).2])∧mY S (afn S ref q a):=by
 have h:=G.toStOk;unfold afn;cases hsa:S.aH[ref.toNat]? with
 |none =>
  have H:=G.op hd (e:=0) (by omega) (item:=0) (by omega) (loc:=0) (by omega) (dst:=0) (by omega) (q:=q) (by omega) ha hr
  have:=List.getElem?_eq_none_iff.1 hsa
  exact⟨cw (fU [] HG [] [] []) (ev3 H [] [] [] .nil) Yz DV kn,.bad G (by decide)⟩
 |some s =>
  have hm:=List.mem_of_getElem? hsa
  have B:=G.FM s hm;have:=(List.getElem?_eq_some_iff.1 hsa).1
  have:=G.IM;obtain⟨e,item,loc,rq,rv,ro,ra,rb⟩:=s;obtain⟨b1,b2,hl,b4,b5,b6,b7,b8⟩:=B;dsimp only at *
  have x:Ix S e item:=⟨b1.1,b1.2,b2.1,b2.2⟩
  have H:=G.op hd (x.eb h) (x.ib h) hl (dst:=0) (by omega) (q:=q) (by omega) ha hr
  have R1:=eQ h x;by_cases hc1:(S.aJ e).closed=true
  ·rw[if_pos hc1]at R1 ⊢
   exact⟨cw (fU Zg [KaN] [] U8 Hr) (ev3 H [rq,rv,ro,ra,rb] [] [] (.d (aC hsa) .nil)) Yz DR (kc R1 kn),.bad G (by decide)⟩
  rw[if_neg hc1]at R1 ⊢;by_cases hsh:ro<q
  ·rw[if_pos hsh]
   exact⟨cw (fU Zg [KaN,HT] [] U8 Hs) (ev3 H [rq,rv,ro,ra,rb] [] [] (.d (aC hsa) .nil)) Yz DW (kc R1 kn),.bad G (by decide)⟩
  rw[if_neg hsh];have Cd:=NG (e:=e) (item:=item) (loc:=loc) (rq:=rq) (rv:=rv) (rb:=rb) (q:=q) (ro:=ro) (ra:=ra) (by omega) (by omega) (by omega) (by omega) (by omega)
  have db:=abt (r:=⟨e,item,loc,rq,rv,ro,ra,rb⟩) (q:=q) (by omega) (by dsimp only;omega) (by dsimp only;omega) (by dsimp only;omega)
  dsimp only at db
  generalize Fw ⟨e,item,loc,rq,rv,ro,ra,rb⟩ q=d at *
  have C1:=dA h x (l:=[⟨1,d⟩,⟨6,a-d⟩,⟨2,-a⟩]) (sX fmo) (by simp)
  obtain⟨k1,g1,z1⟩:=dY h x [⟨1,d⟩,⟨6,a-d⟩,⟨2,-a⟩]
  generalize dH S e [⟨1,d⟩,⟨6,a-d⟩,⟨2,-a⟩]=b at *
  obtain⟨S1,f⟩:=b;dsimp only at *
  have K1:=k1;by_cases h0:f=0
  rotate_left
  ·rw[if_pos h0]
   obtain hz:=z1 h0
   have hz:=hz.symm;subst hz
   have H:=H.er (f:=f) (by omega)
   exact⟨cw (fU J9 Ui [] U8 [HF,Y1,(92,Qm,Dw)]) (ev3 H [rq,rv,ro,ra,rb,d] [] [] (.d (aC hsa) .nil)) Yz Dw (kc R1 (kc Cd (kc C1 kn))),.bad G g1⟩
  subst h0;rw[if_neg (by simp)]
  clear z1;obtain⟨E1,rfl⟩:=K1.ex;rw[Iu];refine⟨cw (fU J9 Ui [] U8 [HF,Y1,(92,Qm,(.bB [Kb3,.i 0]))]) (ev3 H [rq,rv,ro,ra,rb,d] [] [aN E1] (.d (aC hsa) .nil)) Yz (.bB [(.agg [.o 0,.o 1,.q 1 1,.q 1 2,.q 1 3,.q 8 7,(.seq 8 4 [([([6],1)],[.v 0,.v 1,.v 2,.v 14,.v 15,(.e [([4],(-1)),([16],1)]),(.e [([17],1),([19],(-1))]),.v 18])] []),.q 9 5,.q 6 6,.v 7]),.i 0]) (kc R1 (kc Cd (kc C1 kn))),.ok K1 ((K1.gn G).EJ (ag9 (x:=⟨e,item,loc,rq,rv,-q+ro,ra-d,rb⟩) (by rw[K1.len];exact x.en) x.iw (by dsimp only;omega))) rfl rfl rfl rfl rfl rfl⟩
set_option maxHeartbeats 1000000 in
theorem amG (G:Gn S) (hd:S.done≤1000000) (hq:1≤q∧q≤1073741824) (hr:0≤ref∧ref≤39) :
  Ck 141 [S.av,dC 3 0 0 0 0 q 0 ref] (.bB [(sbS S ref q).1.av,.i (sbS S ref q).2])∧mY S (sbS S ref q):=by
 have h:=G.toStOk;unfold sbS;cases hsa:S.aH[ref.toNat]? with
 |none =>
  have H:=G.op hd (e:=0) (by omega) (item:=0) (by omega) (loc:=0) (by omega) (dst:=0) (by omega) (q:=q) (by omega) (a:=0) (by omega) hr
  have:=List.getElem?_eq_none_iff.1 hsa
  exact⟨cw (fU [] HG [] [] []) (ev3 H [] [] [] .nil) YA DV kn,.bad G (by decide)⟩
 |some s =>
  have hm:=List.mem_of_getElem? hsa
  have B:=G.FM s hm;have:=(List.getElem?_eq_some_iff.1 hsa).1
  have:=G.IM;obtain⟨e,item,loc,rq,rv,ro,ra,rb⟩:=s;obtain⟨b1,b2,hl,b4,b5,b6,b7,b8⟩:=B;dsimp only at *
  have x:Ix S e item:=⟨b1.1,b1.2,b2.1,b2.2⟩
  have H:=G.op hd (x.eb h) (x.ib h) hl (dst:=0) (by omega) (q:=q) (by omega) (a:=0) (by omega) hr
  have R1:=eQ h x;by_cases hc1:(S.aJ e).closed=true
  ·rw[if_pos hc1]at R1 ⊢
   exact⟨cw (fU Zg [KaN] [] U8 Hr) (ev3 H [rq,rv,ro,ra,rb] [] [] (.d (aC hsa) .nil)) YA DR (kc R1 kn),.bad G (by decide)⟩
  rw[if_neg hc1]at R1 ⊢;by_cases hsh:rq-rb<q
  ·rw[if_pos hsh]
   exact⟨cw (fU Zg [KaN,([([4],1),([14],-1),([18],1)],1,1152921504606846976)] [] U8 Hs) (ev3 H [rq,rv,ro,ra,rb] [] [] (.d (aC hsa) .nil)) YA DW (kc R1 kn),.bad G (by decide)⟩
  rw[if_neg hsh];by_cases hst:0<ro∧ro<q
  ·rw[if_pos hst]
   exact⟨cw (fU Zg [KaN,VT,DX,HT] [] U8 Hs) (ev3 H [rq,rv,ro,ra,rb] [] [] (.d (aC hsa) .nil)) YA (.bB [Kb2,.i 9]) (kc R1 kn),.bad G (by decide)⟩
  rw[if_neg hst];have Cp:=kV (v:=rv) (q:=q) (n:=rq) ⟨by omega,by omega⟩ ⟨by omega,by omega⟩ ⟨by omega,by omega⟩
  have pb:=Oq (v:=rv) (q:=q) (n:=rq) (by omega) (by omega) (by omega) (by omega) (by omega)
  unfold TT;by_cases ho:0<ro
  ·rw[if_pos ho]
   have Cd:=NG (e:=e) (item:=item) (loc:=loc) (rq:=rq) (rv:=rv) (rb:=rb) (q:=q) (ro:=ro) (ra:=ra) (by omega) (by omega) (by omega) (by omega) (by omega)
   have db:=abt (r:=⟨e,item,loc,rq,rv,ro,ra,rb⟩) (q:=q) (by omega) (by dsimp only;omega) (by dsimp only;omega) (by dsimp only;omega)
   dsimp only at db
   generalize Fw ⟨e,item,loc,rq,rv,ro,ra,rb⟩ q=d at *
   generalize cA rv q rq=dd at *;have C1:=kU h x (kind:=3) hl.1 hl.2 (by omega) (q:=q) ⟨by omega,by omega⟩
   obtain⟨k1,g1,vb,ib,z1⟩:=nR h x (kind:=3) hl.1 hl.2 (by omega) (by omega) q
   generalize dD S e item loc 3 q=b at *;obtain⟨S1,⟨xq,xv,xp⟩,wt,f⟩:=b
   dsimp only at *
   have K1:=k1;by_cases h0:f=0
   rotate_left
   ·rw[if_pos h0]
    obtain⟨hz,hx,rfl⟩:=z1 h0;cases hx;have hz:=hz.symm;subst hz
    have H:=H.er (f:=f) (by omega)
    exact⟨cw (fU QY KO [] U8 KF) (ev3 H [rq,rv,ro,ra,rb,d] [.I dd] [] (.d (aC hsa) .nil)) YA Dw (kc R1 (kc C1 kn)),.bad G g1⟩
   subst h0;rw[if_neg (by simp)]
   clear z1;obtain⟨E1,rfl⟩:=K1.ex;have C2:=dA K1.ok (K1.ix x) (l:=[⟨1,d⟩,⟨6,xv-d⟩,⟨0,-xv⟩]) (sX fmo) (by simp)
   obtain⟨k2,g2,z2⟩:=dY K1.ok (K1.ix x) [⟨1,d⟩,⟨6,xv-d⟩,⟨0,-xv⟩]
   generalize dH (S.aZ E1) e [⟨1,d⟩,⟨6,xv-d⟩,⟨0,-xv⟩]=b at *
   obtain⟨S2,f⟩:=b;dsimp only at *
   have K2:=K1.trans k2;by_cases h0:f=0
   rotate_left
   ·rw[if_pos h0]
    obtain hz:=z2 h0
    have hz:=hz.symm;subst hz
    have H:=H.er (f:=f) (by omega)
    exact⟨cw (fU QO KO [] U8 [HF,JL,BU,Y2,(92,Qd,Dx)]) (ev3 H [rq,rv,ro,ra,rb,xv,d] [.I xq,.I xp,.bool wt,.I dd] [aN E1] (.d (aC hsa) .nil)) YA Dw (kc R1 (kc C1 (kc Cp (kc Cd (kc C2 kn))))),.bad G g2⟩
   subst h0;rw[if_neg (by simp)]
   clear z2;obtain⟨E2,rfl⟩:=K2.ex;have C3:=eG K2.ok (K2.ix x) (r:=[0,0,0,0,0,0,0,xv,0,0,0]) rfl
   obtain⟨k3,g3,z3⟩:=fJ K2.ok (K2.ix x) (r:=[0,0,0,0,0,0,0,xv,0,0,0]) rfl
   generalize eO (S.aZ E2) e item [0,0,0,0,0,0,0,xv,0,0,0]=b at *
   obtain⟨S3,f⟩:=b;dsimp only at *
   have K3:=K2.trans k3;by_cases h0:f=0
   rotate_left
   ·rw[if_pos h0]
    obtain hz:=z3 h0
    have hz:=hz.symm;subst hz
    have H:=H.er (f:=f) (by omega)
    exact⟨cw (fU QO KO [] U8 [HF,JL,BU,Y2,K8,Jg]) (ev3 H [rq,rv,ro,ra,rb,xv,d] [.I xq,.I xp,.bool wt,.I dd] [aN E1,aN E2] (.d (aC hsa) .nil)) YA Dw (kc R1 (kc C1 (kc Cp (kc Cd (kc C2 (kc C3 kn)))))),.bad G g3⟩
   subst h0;rw[if_neg (by simp)]
   clear z3;obtain⟨E3,rfl⟩:=K3.ex;rw[Iu];refine⟨cw (fU QO KO [] U8 [HF,JL,BU,Y2,K8,Jh]) (ev3 H [rq,rv,ro,ra,rb,xv,d] [.I xq,.I xp,.bool wt,.I dd] [aN E1,aN E2,aN E3] (.d (aC hsa) .nil)) YA (.bB [(.agg [.o 0,.o 1,.q 1 1,.q 1 2,.q 1 3,.q 8 9,(.seq 8 4 [([([6],1)],[.v 0,.v 1,.v 2,.v 14,.v 15,(.e [([4],(-1)),([16],1)]),Kaz,(.e [([4],1),([18],1)])])] []),.q 9 5,.q 6 6,.v 7]),.i 0]) (kc R1 (kc C1 (kc Cp (kc Cd (kc C2 (kc C3 kn)))))),.ok K3 ((K3.gn G).EJ (ag9 (x:=⟨e,item,loc,rq,rv,-q+ro,ra-d,q+rb⟩) (by rw[K3.len];exact x.en) x.iw (by dsimp only;omega))) rfl rfl rfl rfl rfl rfl⟩
  ·rw[if_neg ho]
   generalize cA rv q rq=d at *;have C1:=kU h x (kind:=3) hl.1 hl.2 (by omega) (q:=q) ⟨by omega,by omega⟩
   obtain⟨k1,g1,vb,ib,z1⟩:=nR h x (kind:=3) hl.1 hl.2 (by omega) (by omega) q
   generalize dD S e item loc 3 q=b at *;obtain⟨S1,⟨xq,xv,xp⟩,wt,f⟩:=b
   dsimp only at *
   have K1:=k1;by_cases h0:f=0
   rotate_left
   ·rw[if_pos h0]
    obtain⟨hz,hx,rfl⟩:=z1 h0;cases hx;have hz:=hz.symm;subst hz
    have H:=H.er (f:=f) (by omega)
    exact⟨cw (fU QY JO [] U8 KF) (ev3 H [rq,rv,ro,ra,rb,d] [] [] (.d (aC hsa) .nil)) YA Dw (kc R1 (kc C1 kn)),.bad G g1⟩
   subst h0;rw[if_neg (by simp)]
   clear z1;obtain⟨E1,rfl⟩:=K1.ex;have C2:=dA K1.ok (K1.ix x) (l:=[⟨2,d⟩,⟨6,xv-d⟩,⟨0,-xv⟩]) (sX fmo) (by simp)
   obtain⟨k2,g2,z2⟩:=dY K1.ok (K1.ix x) [⟨2,d⟩,⟨6,xv-d⟩,⟨0,-xv⟩]
   generalize dH (S.aZ E1) e [⟨2,d⟩,⟨6,xv-d⟩,⟨0,-xv⟩]=b at *
   obtain⟨S2,f⟩:=b;dsimp only at *
   have K2:=K1.trans k2;by_cases h0:f=0
   rotate_left
   ·rw[if_pos h0]
    obtain hz:=z2 h0
    have hz:=hz.symm;subst hz
    have H:=H.er (f:=f) (by omega)
    exact⟨cw (fU QO JO [] U8 [HF,JL,BH,(92,Qe,Dx)]) (ev3 H [rq,rv,ro,ra,rb,xv,d] [.I xq,.I xp,.bool wt] [aN E1] (.d (aC hsa) .nil)) YA Dw (kc R1 (kc C1 (kc Cp (kc C2 kn)))),.bad G g2⟩
   subst h0;rw[if_neg (by simp)]
   clear z2;obtain⟨E2,rfl⟩:=K2.ex;have C3:=eG K2.ok (K2.ix x) (r:=[0,0,0,0,0,0,0,xv,0,0,0]) rfl
   obtain⟨k3,g3,z3⟩:=fJ K2.ok (K2.ix x) (r:=[0,0,0,0,0,0,0,xv,0,0,0]) rfl
   generalize eO (S.aZ E2) e item [0,0,0,0,0,0,0,xv,0,0,0]=b at *
   obtain⟨S3,f⟩:=b;dsimp only at *
   have K3:=K2.trans k3;by_cases h0:f=0
   rotate_left
   ·rw[if_pos h0]
    obtain hz:=z3 h0
    have hz:=hz.symm;subst hz
    have H:=H.er (f:=f) (by omega)
    exact⟨cw (fU QO JO [] U8 [HF,JL,BH,K9,Jg]) (ev3 H [rq,rv,ro,ra,rb,xv,d] [.I xq,.I xp,.bool wt] [aN E1,aN E2] (.d (aC hsa) .nil)) YA Dw (kc R1 (kc C1 (kc Cp (kc C2 (kc C3 kn))))),.bad G g3⟩
   subst h0;rw[if_neg (by simp)]
   clear z3;obtain⟨E3,rfl⟩:=K3.ex;rw[Iu];refine⟨cw (fU QO JO [] U8 [HF,JL,BH,K9,Jh]) (ev3 H [rq,rv,ro,ra,rb,xv,d] [.I xq,.I xp,.bool wt] [aN E1,aN E2,aN E3] (.d (aC hsa) .nil)) YA (.bB [(.agg [.o 0,.o 1,.q 1 1,.q 1 2,.q 1 3,.q 8 9,(.seq 8 4 [([([6],1)],[.v 0,.v 1,.v 2,.v 14,.v 15,.v 16,.v 17,(.e [([4],1),([18],1)])])] []),.q 9 5,.q 6 6,.v 7]),.i 0]) (kc R1 (kc C1 (kc Cp (kc C2 (kc C3 kn))))),.ok K3 ((K3.gn G).EJ (ag9 (x:=⟨e,item,loc,rq,rv,ro,ra,q+rb⟩) (by rw[K3.len];exact x.en) x.iw (by dsimp only;omega))) rfl rfl rfl rfl rfl rfl⟩
set_option maxHeartbeats 1000000 in
theorem akw (G:Gn S) (hd:S.done≤1000000) (x:Ix S e item) (hl:0≤loc∧loc≤1) (x2:Ix S dst item) (hq:1≤q∧q≤1073741824) (ha:0≤a∧a≤1125899906842624) :
  Ck 142 [S.av,dC 12 e item loc dst q a 0] (.bB [(P4 S e item loc dst q a).1.av,.i (P4 S e item loc dst q a).2])∧mY S (P4 S e item loc dst q a):=by
 have h:=G.toStOk;have H:=G.op hd (x.eb h) (x.ib h) hl (x2.eb h) (q:=q) (by omega) ha (ref:=0) (by omega)
 unfold P4;have R1:=eQ h x;by_cases hc1:(S.aJ e).closed=true
 ·rw[if_pos hc1]at R1 ⊢
  exact⟨cw (fU [] [] [] [] Hr) (ev3 H [] [] [] .nil) Yl DR (kc R1 kn),.bad G (by decide)⟩
 rw[if_neg hc1]at R1 ⊢;have R2:=eQ h x2;by_cases hc2:(S.aJ dst).closed=true
 ·rw[if_pos hc2]at R2 ⊢
  exact⟨cw (fU [] [] [] [] [HF,(89,[Kb2,.v 3,.v 1],(.i 7))]) (ev3 H [] [] [] .nil) Yl DR (kc R1 (kc R2 kn)),.bad G (by decide)⟩
 rw[if_neg hc2]at R2 ⊢;by_cases hf:S.bK.length=40
 ·rw[if_pos hf]
  exact⟨cw (fU [] [([([10],1)],40,40)] [] [] [HF,HI]) (ev3 H [] [] [] .nil) Yl DS (kc R1 (kc R2 kn)),.bad G (by decide)⟩
 rw[if_neg hf];have hf:S.bK.length<40:=by have:=G.TF;omega
 have C1:=kU h x (kind:=3) hl.1 hl.2 (by omega) (q:=q) ⟨by omega,by omega⟩
 obtain⟨k1,g1,vb,ib,z1⟩:=nR h x (kind:=3) hl.1 hl.2 (by omega) (by omega) q
 generalize dD S e item loc 3 q=b at *;obtain⟨S1,⟨xq,xv,xp⟩,wt,f⟩:=b
 dsimp only at *
 have K1:=k1;by_cases h0:f=0
 rotate_left
 ·rw[if_pos h0]
  obtain⟨hz,hx,rfl⟩:=z1 h0;cases hx;have hz:=hz.symm;subst hz
  have H:=H.er (f:=f) (by omega)
  exact⟨cw (fU [] Kca [] [] [HF,HI,Jp]) (ev3 H [] [] [] .nil) Yl Dw (kc R1 (kc R2 (kc C1 kn))),.bad G g1⟩
 subst h0;rw[if_neg (by simp)]
 clear z1;obtain⟨E1,rfl⟩:=K1.ex;have C2:=dA K1.ok (K1.ix x) (l:=[⟨13,a⟩,⟨15,-a⟩,⟨16,xv⟩,⟨0,-xv⟩]) (sX fmo) (by simp)
 obtain⟨k2,g2,z2⟩:=dY K1.ok (K1.ix x) [⟨13,a⟩,⟨15,-a⟩,⟨16,xv⟩,⟨0,-xv⟩]
 generalize dH (S.aZ E1) e [⟨13,a⟩,⟨15,-a⟩,⟨16,xv⟩,⟨0,-xv⟩]=b at *
 obtain⟨S2,f⟩:=b;dsimp only at *
 have K2:=K1.trans k2;by_cases h0:f=0
 rotate_left
 ·rw[if_pos h0]
  obtain hz:=z2 h0
  have hz:=hz.symm;subst hz
  have H:=H.er (f:=f) (by omega)
  exact⟨cw (fU [jI,jI] Kca [] [] [HF,HI,JG,(92,J1,Dx)]) (ev3 H [xv,xp] [.I xq,.bool wt] [aN E1] .nil) Yl Dw (kc R1 (kc R2 (kc C1 (kc C2 kn)))),.bad G g2⟩
 subst h0;rw[if_neg (by simp)]
 clear z2;obtain⟨E2,rfl⟩:=K2.ex;have C3:=dA K2.ok (K2.ix x2) (l:=[⟨12,a⟩,⟨14,-a⟩]) (sX fmo) (by simp)
 obtain⟨k3,g3,z3⟩:=dY K2.ok (K2.ix x2) [⟨12,a⟩,⟨14,-a⟩]
 generalize dH (S.aZ E2) dst [⟨12,a⟩,⟨14,-a⟩]=b at *
 obtain⟨S3,f⟩:=b;dsimp only at *
 have K3:=K2.trans k3;by_cases h0:f=0
 rotate_left
 ·rw[if_pos h0]
  obtain hz:=z3 h0
  have hz:=hz.symm;subst hz
  have H:=H.er (f:=f) (by omega)
  exact⟨cw (fU [jI,jI] Kca [] [] [HF,HI,JG,KU,(92,YU,Dy)]) (ev3 H [xv,xp] [.I xq,.bool wt] [aN E1,aN E2] .nil) Yl Dw (kc R1 (kc R2 (kc C1 (kc C2 (kc C3 kn))))),.bad G g3⟩
 subst h0;rw[if_neg (by simp)]
 clear z3;obtain⟨E3,rfl⟩:=K3.ex;have C4:=eG K3.ok (K3.ix x) (r:=[0,0,0,0,0,0,xv,0,0,0,0]) rfl
 obtain⟨k4,g4,z4⟩:=fJ K3.ok (K3.ix x) (r:=[0,0,0,0,0,0,xv,0,0,0,0]) rfl
 generalize eO (S.aZ E3) e item [0,0,0,0,0,0,xv,0,0,0,0]=b at *
 obtain⟨S4,f⟩:=b;dsimp only at *
 have K4:=K3.trans k4;by_cases h0:f=0
 rotate_left
 ·rw[if_pos h0]
  obtain hz:=z4 h0
  have hz:=hz.symm;subst hz
  have H:=H.er (f:=f) (by omega)
  exact⟨cw (fU [jI,jI] Kca [] [] [HF,HI,JG,KU,JW,(124,QJ,Dz)]) (ev3 H [xv,xp] [.I xq,.bool wt] [aN E1,aN E2,aN E3] .nil) Yl Dw (kc R1 (kc R2 (kc C1 (kc C2 (kc C3 (kc C4 kn)))))),.bad G g4⟩
 subst h0;rw[if_neg (by simp)]
 clear z4;obtain⟨E4,rfl⟩:=K4.ex;by_cases hin:-288230376151711744≤a-xv+xp∧a-xv+xp≤288230376151711744
 rotate_left
 ·rw[if_neg hin]
  rcases(by omega:a-xv+xp≤-288230376151711745∨288230376151711745≤a-xv+xp)with hlo|hlo
  ·exact⟨cw (fU [jI,jI] [Kcn,(Kau,-4611686018427387904,-288230376151711745)] [] [] Kb) (ev3 H [xv,xp] [.I xq,.bool wt] [aN E1,aN E2,aN E3,aN E4] .nil) Yl DY (kc R1 (kc R2 (kc C1 (kc C2 (kc C3 (kc C4 kn)))))),.bad G (by decide)⟩
  ·exact⟨cw (fU [jI,jI] [Kcn,(Kau,288230376151711745,4611686018427387904)] [] [] Kb) (ev3 H [xv,xp] [.I xq,.bool wt] [aN E1,aN E2,aN E3,aN E4] .nil) Yl DY (kc R1 (kc R2 (kc C1 (kc C2 (kc C3 (kc C4 kn)))))),.bad G (by decide)⟩
 rw[if_pos hin];rw[acm];refine⟨cw (fU [jI,jI] [Kcn,(Kau,-288230376151711744,288230376151711744)] [] [] Kb) (ev3 H [xv,xp] [.I xq,.bool wt] [aN E1,aN E2,aN E3,aN E4] .nil) Yl (.bB [(.agg [.o 0,.o 1,.q 1 1,.q 1 2,.q 1 3,.q 8 10,.q 8 4,.q 9 5,(.seq 6 6 [] [[.v 0,.v 3,.v 1,.v 4,.v 5,(.e [([5],1),([14],(-1)),([15],1)])]]),.v 7]),.i 0]) (kc R1 (kc R2 (kc C1 (kc C2 (kc C3 (kc C4 kn)))))),.ok K4 ((K4.gn G).IQ hf (ak7 (x:=⟨e,dst,item,q,a,a-xv+xp⟩) (by rw[K4.len];exact x.en) (by rw[K4.len];exact x2.en) x.iw (by dsimp only;omega))) rfl rfl rfl rfl rfl rfl⟩
set_option maxHeartbeats 1000000 in
theorem afN (G:Gn S) (hd:S.done≤1000000) (hl:0≤loc∧loc≤1) (hq:1≤q∧q≤1073741824) (hr:0≤ref∧ref≤39) :
  Ck 142 [S.av,dC 13 0 0 loc 0 q 0 ref] (.bB [(Cs S loc q ref).1.av,.i (Cs S loc q ref).2])∧mY S (Cs S loc q ref):=by
 have h:=G.toStOk;unfold Cs;cases hsa:S.bK[ref.toNat]? with
 |none =>
  have H:=G.op hd (e:=0) (by omega) (item:=0) (by omega) hl (dst:=0) (by omega) (q:=q) (by omega) (a:=0) (by omega) hr
  have:=List.getElem?_eq_none_iff.1 hsa
  exact⟨cw (fU [] [([([6],1),([10],-1)],0,1152921504606846976)] [] [] []) (ev3 H [] [] [] .nil) Ym DV kn,.bad G (by decide)⟩
 |some s =>
  have hm:=List.mem_of_getElem? hsa
  have B:=G.trb s hm;have:=(List.getElem?_eq_some_iff.1 hsa).1
  have:=G.TF;obtain⟨dst,e,item,tq,tv,tp⟩:=s;obtain⟨b1,b2,b3,b4,b5,b6⟩:=B;dsimp only at *
  have x:Ix S e item:=⟨b2.1,b2.2,b3.1,b3.2⟩
  have:=h.hn;have H:=G.op hd (x.eb h) (x.ib h) hl (dst:=dst) (by omega) (q:=q) (by omega) (a:=0) (by omega) hr
  have R1:=eQ h x;by_cases hc1:(S.aJ e).closed=true
  ·rw[if_pos hc1]at R1 ⊢
   exact⟨cw (fU Gk [KaG] [] WK Hr) (ev3 H [tq,tv,tp] [] [] (.d (aT hsa) .nil)) Ym DR (kc R1 kn),.bad G (by decide)⟩
  rw[if_neg hc1]at R1 ⊢;by_cases hsh:tq<q
  ·rw[if_pos hsh]
   exact⟨cw (fU Gk [KaG,([([4],1),([14],-1)],1,1152921504606846976)] [] WK Hs) (ev3 H [tq,tv,tp] [] [] (.d (aT hsa) .nil)) Ym DW (kc R1 kn),.bad G (by decide)⟩
  rw[if_neg hsh];have Cv:=kV (v:=tv) (q:=q) (n:=tq) ⟨by omega,by omega⟩ ⟨by omega,by omega⟩ ⟨by omega,by omega⟩
  have Cp:=kV (v:=tp) (q:=q) (n:=tq) ⟨by omega,by omega⟩ ⟨by omega,by omega⟩ ⟨by omega,by omega⟩
  have vb:=Oq (v:=tv) (q:=q) (n:=tq) (by omega) (by omega) (by omega) (by omega) (by omega)
  obtain⟨c3,c4⟩:=Ot (v:=tp) (q:=q) (n:=tq) (by omega) (by omega) (by omega) b6
  unfold abH;generalize cA tv q tq=v at *;generalize cA tp q tq=pf at *;have C1:=jN h x hl.1 hl.2 (y:=⟨q,v,pf⟩) (show eH [q,v,pf]from Fb (by omega) (by omega) (by omega))
  obtain⟨k1,g1,cb,ub,z1⟩:=mG h x hl.1 hl.2 ⟨q,v,pf⟩
  generalize eB S e item loc ⟨q,v,pf⟩=b at *
  obtain⟨S1,ca,up,f⟩:=b;dsimp only at *
  have K1:=k1;by_cases h0:f=0
  rotate_left
  ·rw[if_pos h0]
   obtain⟨hz,rfl,rfl⟩:=z1 h0;have hz:=hz.symm;subst hz
   have H:=H.er (f:=f) (by omega)
   exact⟨cw (fU [(0,1073741824),(0,1125899906842624),jI,(0,1125899906842624),jI] Ue [] WK [HF,BI,BJ,(145,U5,HA)]) (ev3 H [tq,tv,tp,v,pf] [] [] (.d (aT hsa) .nil)) Ym Dw (kc R1 (kc Cv (kc Cp (kc C1 kn)))),.bad G g1⟩
  subst h0;rw[if_neg (by simp)]
  clear z1;obtain⟨E1,rfl⟩:=K1.ex;have C2:=dA K1.ok (K1.ix x) (l:=[⟨0,ca⟩,⟨6,up⟩,⟨12,-v⟩]) (sX fmo) (by simp)
  obtain⟨k2,g2,z2⟩:=dY K1.ok (K1.ix x) [⟨0,ca⟩,⟨6,up⟩,⟨12,-v⟩]
  generalize dH (S.aZ E1) e [⟨0,ca⟩,⟨6,up⟩,⟨12,-v⟩]=b at *
  obtain⟨S2,f⟩:=b;dsimp only at *
  have K2:=K1.trans k2;by_cases h0:f=0
  rotate_left
  ·rw[if_pos h0]
   obtain hz:=z2 h0
   have hz:=hz.symm;subst hz
   have H:=H.er (f:=f) (by omega)
   exact⟨cw (fU Y3 Ue [] WK [HF,BI,BJ,JS,(92,Zb,Dx)]) (ev3 H [tq,tv,tp,v,pf,ca,up] [] [aN E1] (.d (aT hsa) .nil)) Ym Dw (kc R1 (kc Cv (kc Cp (kc C1 (kc C2 kn))))),.bad G g2⟩
  subst h0;rw[if_neg (by simp)]
  clear z2;obtain⟨E2,rfl⟩:=K2.ex;have C3:=eG K2.ok (K2.ix x) (r:=[0,0,0,ca,0,0,0,0,0,0,0]) rfl
  obtain⟨k3,g3,z3⟩:=fJ K2.ok (K2.ix x) (r:=[0,0,0,ca,0,0,0,0,0,0,0]) rfl
  generalize eO (S.aZ E2) e item [0,0,0,ca,0,0,0,0,0,0,0]=b at *
  obtain⟨S3,f⟩:=b;dsimp only at *
  have K3:=K2.trans k3;by_cases h0:f=0
  rotate_left
  ·rw[if_pos h0]
   obtain hz:=z3 h0
   have hz:=hz.symm;subst hz
   have H:=H.er (f:=f) (by omega)
   exact⟨cw (fU Y3 Ue [] WK [HF,BI,BJ,JS,Jt,(124,QK,Dy)]) (ev3 H [tq,tv,tp,v,pf,ca,up] [] [aN E1,aN E2] (.d (aT hsa) .nil)) Ym Dw (kc R1 (kc Cv (kc Cp (kc C1 (kc C2 (kc C3 kn)))))),.bad G g3⟩
  subst h0;rw[if_neg (by simp)]
  clear z3;obtain⟨E3,rfl⟩:=K3.ex;rw[adM];refine⟨cw (fU Y3 Ue [] WK [HF,BI,BJ,JS,Jt,(124,QK,DU)]) (ev3 H [tq,tv,tp,v,pf,ca,up] [] [aN E1,aN E2,aN E3] (.d (aT hsa) .nil)) Ym (.bB [(.agg [.o 0,.o 1,.q 1 1,.q 1 2,.q 1 3,.q 8 9,.q 8 4,.q 9 5,(.seq 6 6 [([([6],1)],[.v 3,.v 0,.v 1,(.e [([4],(-1)),([14],1)]),(.e [([15],1),([17],(-1))]),(.e [([16],1),([18],(-1))])])] []),.v 7]),.i 0]) (kc R1 (kc Cv (kc Cp (kc C1 (kc C2 (kc C3 kn)))))),.ok K3 ((K3.gn G).P5 (ak7 (x:=⟨dst,e,item,-q+tq,tv-v,tp-pf⟩) (by rw[K3.len];exact b1) (by rw[K3.len];exact x.en) x.iw (by dsimp only;omega))) rfl rfl rfl rfl rfl rfl⟩
set_option maxHeartbeats 1000000 in
theorem ah3 (G:Gn S) (hd:S.done≤1000000) (x:Ix S e item) (hl:0≤loc∧loc≤1) (hq:0≤q∧q≤1073741824) :
  Ck 140 [S.av,dC 7 e item loc 0 q 0 0] (.bB [(LH S e item loc q).1.av,.i (LH S e item loc q).2])∧mY S (LH S e item loc q):=by
 have h:=G.toStOk;have H:=G.op hd (x.eb h) (x.ib h) hl (dst:=0) (by omega) (q:=q) (by omega) (a:=0) (by omega) (ref:=0) (by omega)
 have W:=h.wx x;generalize S.methods.getD e.toNat []=ms at W
 generalize S.cP.getD e.toNat []=cs at W
 have:=W.bd;have hm:=h.mb' x;have hc:=h.cb' x;unfold LH;have R1:=eQ h x;by_cases hc1:(S.aJ e).closed=true
 ·rw[if_pos hc1]at R1 ⊢
  exact⟨cw (fU [(1,4)] VV Kct Hu Hr) (ev3 H [(S.cG e item)] [] [aA ms] (.d (aS W.rJ) (.d (aI W.hm) .nil))) YB DR (kc R1 kn),.bad G (by decide)⟩
 rw[if_neg hc1]at R1 ⊢;have hpo:=h.Rv x hl.1 hl.2;have Ca:=kD h x hl.1 hl.2;unfold dR.wW;have Cf:=X7 (p0:=((S.aJ e).bS (2*item+loc)).p0) (p1:=((S.aJ e).bS (2*item+loc)).p1) (p2:=((S.aJ e).bS (2*item+loc)).p2) hm hpo.lr hpo.pnd
 have Ct:=oG (p0:=((S.aJ e).bS (2*item+loc)).p0) (p1:=((S.aJ e).bS (2*item+loc)).p1) (p2:=((S.aJ e).bS (2*item+loc)).p2) hpo.lr
 have qb:=(gW hpo.lr.ok).1
 have vb:=(gW hpo.lr.ok).2.1
 have qb2:=hpo.lr.q;have vb2:=hpo.lr.v;have fb:0≤(if S.cG e item=3 then vM ((S.aJ e).bS (2*item+loc)).bH ((S.aJ e).bS (2*item+loc)).pn else qs ((S.aJ e).bS (2*item+loc)).bH)∧(if S.cG e item=3 then vM ((S.aJ e).bS (2*item+loc)).bH ((S.aJ e).bS (2*item+loc)).pn else qs ((S.aJ e).bS (2*item+loc)).bH)≤288230376151711744:=by
  have:=hpo.a0;have:=hpo.b0;have:=hpo.c0;have:=hpo.sum
  split
  ·unfold vM;omega
  ·omega
 rw[show(⟨((S.aJ e).bS (2*item+loc)).p0,((S.aJ e).bS (2*item+loc)).p1,((S.aJ e).bS (2*item+loc)).p2⟩:rM)=((S.aJ e).bS (2*item+loc)).pn from rfl]at Cf
 generalize (if S.cG e item=3 then vM ((S.aJ e).bS (2*item+loc)).bH ((S.aJ e).bS (2*item+loc)).pn else qs ((S.aJ e).bS (2*item+loc)).bH)=fr at *
 clear hpo;generalize (S.aJ e).bS (2*item+loc)=P at *
 obtain⟨L,p0,p1,p2⟩:=P;dsimp only at *
 by_cases hd0:q-fr=0
 ·rw[if_pos hd0]
  exact⟨cw (fU [(1,4),(0,288230376151711744)] [KaL,KaO,(Kcb,0,0)] Kct Hu [HF,Y4,Wo]) (ev3 H [(S.cG e item),fr] [.I p0,.I p1,.I p2] [aA ms,aG L] (.d (aS W.rJ) (.d (aI W.hm) .nil))) YB (.bB [Kb2,.i 0]) (kc R1 (kc Ca (kc Cf kn))),.ok (Kn.refl h) G rfl rfl rfl rfl rfl rfl⟩
 rw[if_neg hd0];by_cases hd1:q-fr<0
 ·rw[if_pos hd1]
  unfold ai4;have C1:=kU h x (kind:=2) hl.1 hl.2 (by omega) (q:=-q+fr) ⟨by omega,by omega⟩
  obtain⟨k1,g1,vb,ib,z1⟩:=nR h x (kind:=2) hl.1 hl.2 (by omega) (by omega) (-q+fr)
  generalize dD S e item loc 2 (-q+fr)=b at *
  obtain⟨S1,⟨xq,xv,xp⟩,wt,f⟩:=b
  dsimp only at *
  have K1:=k1;by_cases h0:f=0
  rotate_left
  ·rw[if_pos h0]
   obtain⟨hz,hx,rfl⟩:=z1 h0;cases hx;have hz:=hz.symm;subst hz
   have H:=H.er (f:=f) (by omega)
   exact⟨cw (fU [(1,4),(0,288230376151711744)] Qu Kct Hu [HF,Y4,Wo,(217,UC,Z6)]) (ev3 H [(S.cG e item),fr] [.I p0,.I p1,.I p2] [aA ms,aG L] (.d (aS W.rJ) (.d (aI W.hm) .nil))) YB Dw (kc R1 (kc Ca (kc Cf (kc C1 kn)))),.bad G g1⟩
  subst h0;rw[if_neg (by simp)]
  clear z1;obtain⟨E1,rfl⟩:=K1.ex;have C2:=dA K1.ok (K1.ix x) (l:=[⟨8,xv⟩,⟨0,-xv⟩]) (sX fmo) (by simp)
  obtain⟨k2,g2,z2⟩:=dY K1.ok (K1.ix x) [⟨8,xv⟩,⟨0,-xv⟩]
  generalize dH (S.aZ E1) e [⟨8,xv⟩,⟨0,-xv⟩]=b at *
  obtain⟨S2,f⟩:=b;dsimp only at *
  have K2:=K1.trans k2;by_cases h0:f=0
  rotate_left
  ·rw[if_pos h0]
   obtain hz:=z2 h0
   have hz:=hz.symm;subst hz
   have H:=H.er (f:=f) (by omega)
   exact⟨cw (fU DZ Qu Kct Hu [HF,Y5,Wp,Ji,(92,YV,Dz)]) (ev3 H [(S.cG e item),fr,xv] [.I xq,.I xp,.bool wt,.I p0,.I p1,.I p2] [aA ms,aG L,aN E1] (.d (aS W.rJ) (.d (aI W.hm) .nil))) YB Dw (kc R1 (kc Ca (kc Cf (kc C1 (kc C2 kn))))),.bad G g2⟩
  subst h0;rw[if_neg (by simp)]
  clear z2;obtain⟨E2,rfl⟩:=K2.ex;have C3:=eG K2.ok (K2.ix x) (r:=[0,0,0,0,0,0,0,0,0,xv,0]) rfl
  obtain⟨k3,g3,z3⟩:=fJ K2.ok (K2.ix x) (r:=[0,0,0,0,0,0,0,0,0,xv,0]) rfl
  generalize eO (S.aZ E2) e item [0,0,0,0,0,0,0,0,0,xv,0]=b at *
  obtain⟨S3,f⟩:=b;dsimp only at *
  have K3:=K2.trans k3;by_cases h0:f=0
  rotate_left
  ·rw[if_pos h0]
   obtain hz:=z3 h0
   have hz:=hz.symm;subst hz
   have H:=H.er (f:=f) (by omega)
   exact⟨cw (fU DZ Qu Kct Hu [HF,Y5,Wp,Ji,JT,(124,Qx,Dg)]) (ev3 H [(S.cG e item),fr,xv] [.I xq,.I xp,.bool wt,.I p0,.I p1,.I p2] [aA ms,aG L,aN E1,aN E2] (.d (aS W.rJ) (.d (aI W.hm) .nil))) YB Dw (kc R1 (kc Ca (kc Cf (kc C1 (kc C2 (kc C3 kn)))))),.bad G g3⟩
  subst h0;rw[if_neg (by simp)]
  clear z3;obtain⟨E3,rfl⟩:=K3.ex;refine⟨cw (fU DZ Qu Kct Hu [HF,Y5,Wp,Ji,JT,(124,Qx,DD)]) (ev3 H [(S.cG e item),fr,xv] [.I xq,.I xp,.bool wt,.I p0,.I p1,.I p2] [aA ms,aG L,aN E1,aN E2,aN E3] (.d (aS W.rJ) (.d (aI W.hm) .nil))) YB DD (kc R1 (kc Ca (kc Cf (kc C1 (kc C2 (kc C3 kn)))))),.ok K3 (K3.gn G) rfl rfl rfl rfl rfl rfl⟩
 rw[if_neg hd1];generalize qs L=uq at *;generalize vs L=uv at *;generalize ps L=uw at *;unfold abk;by_cases hm4:S.cG e item=4
 ·rw[if_pos hm4]
  have Cm:=mT (a:=q-fr) (b:=S.cost e item) (c:=1) ⟨by omega,by omega⟩ ⟨by omega,by omega⟩ ⟨by omega,by omega⟩
  have mb:=OR (a:=q-fr) (b:=S.cost e item) (c:=1) (by omega) hc.1
  have hf:=ae9 (q-fr) (S.cost e item) 1
  generalize zY (q-fr) (S.cost e item) 1=v at *
  generalize PE (q-fr) (S.cost e item) 1=r at *
  generalize ER (q-fr) (S.cost e item) 1=f at *
  by_cases h0:f=0
  rotate_left
  ·rw[if_pos h0]
   have H:=H.er (f:=f) (by omega)
   exact⟨cw (fU JZ J0 BV Q0 [HF,Y6,Wq,UV,(148,G9,(.bB [.v 19,.o 3,.v 13]))]) (ev3 H [(S.cG e item),fr,uq,uv,(S.cost e item),v] [.I uw,.I r,.I p0,.I p1,.I p2] [aA ms,aA cs,aG L] (.d (aS W.rJ) (.d (aI W.hm) (.d (aS W.CI) (.d (aI W.hc) .nil))))) YB Dw (kc R1 (kc Ca (kc Cf (kc Ct (kc Cm kn))))),.bad G hf⟩
  subst h0;rw[if_neg (by simp)]
  have C1:=jN h x hl.1 hl.2 (y:=⟨q-fr,v,0⟩) (show eH [q-fr,v,0]from Fb (by omega) (by omega) (by omega))
  obtain⟨k1,g1,cb,ub,z1⟩:=mG h x hl.1 hl.2 ⟨q-fr,v,0⟩
  generalize eB S e item loc ⟨q-fr,v,0⟩=b at *
  obtain⟨S1,ca,up,f⟩:=b;dsimp only at *
  have K1:=k1;by_cases h0:f=0
  rotate_left
  ·rw[if_pos h0]
   obtain⟨hz,rfl,rfl⟩:=z1 h0;have hz:=hz.symm;subst hz
   have H:=H.er (f:=f) (by omega)
   exact⟨cw (fU JZ J0 BV Q0 [HF,Y6,Wq,UV,Uw,(145,ZE,HA)]) (ev3 H [(S.cG e item),fr,uq,uv,(S.cost e item),v] [.I uw,.I r,.I p0,.I p1,.I p2] [aA ms,aA cs,aG L] (.d (aS W.rJ) (.d (aI W.hm) (.d (aS W.CI) (.d (aI W.hc) .nil))))) YB Dw (kc R1 (kc Ca (kc Cf (kc Ct (kc Cm (kc C1 kn)))))),.bad G g1⟩
  subst h0;rw[if_neg (by simp)]
  clear z1;obtain⟨E1,rfl⟩:=K1.ex;have C2:=dA K1.ok (K1.ix x) (l:=[⟨0,ca⟩,⟨6,up⟩,⟨8,-v⟩]) (sX fmo) (by simp)
  obtain⟨k2,g2,z2⟩:=dY K1.ok (K1.ix x) [⟨0,ca⟩,⟨6,up⟩,⟨8,-v⟩]
  generalize dH (S.aZ E1) e [⟨0,ca⟩,⟨6,up⟩,⟨8,-v⟩]=b at *
  obtain⟨S2,f⟩:=b;dsimp only at *
  have K2:=K1.trans k2;by_cases h0:f=0
  rotate_left
  ·rw[if_pos h0]
   obtain hz:=z2 h0
   have hz:=hz.symm;subst hz
   have H:=H.er (f:=f) (by omega)
   exact⟨cw (fU JD J0 BV Q0 [HF,Y6,Wq,UV,Uw,Jk,(92,Zc,Dg)]) (ev3 H [(S.cG e item),fr,uq,uv,(S.cost e item),v,ca,up] [.I uw,.I r,.I p0,.I p1,.I p2] [aA ms,aA cs,aG L,aN E1] (.d (aS W.rJ) (.d (aI W.hm) (.d (aS W.CI) (.d (aI W.hc) .nil))))) YB Dw (kc R1 (kc Ca (kc Cf (kc Ct (kc Cm (kc C1 (kc C2 kn))))))),.bad G g2⟩
  subst h0;rw[if_neg (by simp)]
  clear z2;obtain⟨E2,rfl⟩:=K2.ex;have C3:=eG K2.ok (K2.ix x) (r:=[0,0,0,0,0,0,0,0,0,-ca,0]) rfl
  obtain⟨k3,g3,z3⟩:=fJ K2.ok (K2.ix x) (r:=[0,0,0,0,0,0,0,0,0,-ca,0]) rfl
  generalize eO (S.aZ E2) e item [0,0,0,0,0,0,0,0,0,-ca,0]=b at *
  obtain⟨S3,f⟩:=b;dsimp only at *
  have K3:=K2.trans k3;by_cases h0:f=0
  rotate_left
  ·rw[if_pos h0]
   obtain hz:=z3 h0
   have hz:=hz.symm;subst hz
   have H:=H.er (f:=f) (by omega)
   exact⟨cw (fU JD J0 BV Q0 [HF,Y6,Wq,UV,Uw,Jk,Js,(124,Qa,Dh)]) (ev3 H [(S.cG e item),fr,uq,uv,(S.cost e item),v,ca,up] [.I uw,.I r,.I p0,.I p1,.I p2] [aA ms,aA cs,aG L,aN E1,aN E2] (.d (aS W.rJ) (.d (aI W.hm) (.d (aS W.CI) (.d (aI W.hc) .nil))))) YB Dw (kc R1 (kc Ca (kc Cf (kc Ct (kc Cm (kc C1 (kc C2 (kc C3 kn)))))))),.bad G g3⟩
  subst h0;rw[if_neg (by simp)]
  clear z3;obtain⟨E3,rfl⟩:=K3.ex;refine⟨cw (fU JD J0 BV Q0 [HF,Y6,Wq,UV,Uw,Jk,Js,(124,Qa,DE)]) (ev3 H [(S.cG e item),fr,uq,uv,(S.cost e item),v,ca,up] [.I uw,.I r,.I p0,.I p1,.I p2] [aA ms,aA cs,aG L,aN E1,aN E2,aN E3] (.d (aS W.rJ) (.d (aI W.hm) (.d (aS W.CI) (.d (aI W.hc) .nil))))) YB DE (kc R1 (kc Ca (kc Cf (kc Ct (kc Cm (kc C1 (kc C2 (kc C3 kn)))))))),.ok K3 (K3.gn G) rfl rfl rfl rfl rfl rfl⟩
 rw[if_neg hm4];by_cases hh:0<uq
 ·rw[if_pos hh]
  have Cm:=mT (a:=uv) (b:=q-fr) (c:=uq) ⟨by omega,by omega⟩ ⟨by omega,by omega⟩ ⟨by omega,by omega⟩
  have mb:=OR (a:=uv) (b:=q-fr) (c:=uq) (by omega) (by omega)
  have hf:=ae9 uv (q-fr) uq
  generalize zY uv (q-fr) uq=v at *
  generalize PE uv (q-fr) uq=r at *
  generalize ER uv (q-fr) uq=f at *
  by_cases h0:f=0
  rotate_left
  ·rw[if_pos h0]
   have H:=H.er (f:=f) (by omega)
   exact⟨cw (fU Qv K7 Kct Hu [HF,Y7,Wr,UW,(148,GV,(.bB [.v 18,.o 3,.v 13]))]) (ev3 H [(S.cG e item),fr,uq,uv,v] [.I uw,.I r,.I p0,.I p1,.I p2] [aA ms,aG L] (.d (aS W.rJ) (.d (aI W.hm) .nil))) YB Dw (kc R1 (kc Ca (kc Cf (kc Ct (kc Cm kn))))),.bad G hf⟩
  subst h0;rw[if_neg (by simp)]
  have C1:=jN h x hl.1 hl.2 (y:=⟨q-fr,v,0⟩) (show eH [q-fr,v,0]from Fb (by omega) (by omega) (by omega))
  obtain⟨k1,g1,cb,ub,z1⟩:=mG h x hl.1 hl.2 ⟨q-fr,v,0⟩
  generalize eB S e item loc ⟨q-fr,v,0⟩=b at *
  obtain⟨S1,ca,up,f⟩:=b;dsimp only at *
  have K1:=k1;by_cases h0:f=0
  rotate_left
  ·rw[if_pos h0]
   obtain⟨hz,rfl,rfl⟩:=z1 h0;have hz:=hz.symm;subst hz
   have H:=H.er (f:=f) (by omega)
   exact⟨cw (fU Qv K7 Kct Hu [HF,Y7,Wr,UW,Ut,(145,ZF,HA)]) (ev3 H [(S.cG e item),fr,uq,uv,v] [.I uw,.I r,.I p0,.I p1,.I p2] [aA ms,aG L] (.d (aS W.rJ) (.d (aI W.hm) .nil))) YB Dw (kc R1 (kc Ca (kc Cf (kc Ct (kc Cm (kc C1 kn)))))),.bad G g1⟩
  subst h0;rw[if_neg (by simp)]
  clear z1;obtain⟨E1,rfl⟩:=K1.ex;have C2:=dA K1.ok (K1.ix x) (l:=[⟨0,ca⟩,⟨6,up⟩,⟨8,-v⟩]) (sX fmo) (by simp)
  obtain⟨k2,g2,z2⟩:=dY K1.ok (K1.ix x) [⟨0,ca⟩,⟨6,up⟩,⟨8,-v⟩]
  generalize dH (S.aZ E1) e [⟨0,ca⟩,⟨6,up⟩,⟨8,-v⟩]=b at *
  obtain⟨S2,f⟩:=b;dsimp only at *
  have K2:=K1.trans k2;by_cases h0:f=0
  rotate_left
  ·rw[if_pos h0]
   obtain hz:=z2 h0
   have hz:=hz.symm;subst hz
   have H:=H.er (f:=f) (by omega)
   exact⟨cw (fU Qh K7 Kct Hu [HF,Y7,Wr,UW,Ut,Jl,(92,Zh,Dz)]) (ev3 H [(S.cG e item),fr,uq,uv,v,ca,up] [.I uw,.I r,.I p0,.I p1,.I p2] [aA ms,aG L,aN E1] (.d (aS W.rJ) (.d (aI W.hm) .nil))) YB Dw (kc R1 (kc Ca (kc Cf (kc Ct (kc Cm (kc C1 (kc C2 kn))))))),.bad G g2⟩
  subst h0;rw[if_neg (by simp)]
  clear z2;obtain⟨E2,rfl⟩:=K2.ex;have C3:=eG K2.ok (K2.ix x) (r:=[0,0,0,0,0,0,0,0,0,-ca,0]) rfl
  obtain⟨k3,g3,z3⟩:=fJ K2.ok (K2.ix x) (r:=[0,0,0,0,0,0,0,0,0,-ca,0]) rfl
  generalize eO (S.aZ E2) e item [0,0,0,0,0,0,0,0,0,-ca,0]=b at *
  obtain⟨S3,f⟩:=b;dsimp only at *
  have K3:=K2.trans k3;by_cases h0:f=0
  rotate_left
  ·rw[if_pos h0]
   obtain hz:=z3 h0
   have hz:=hz.symm;subst hz
   have H:=H.er (f:=f) (by omega)
   exact⟨cw (fU Qh K7 Kct Hu [HF,Y7,Wr,UW,Ut,Jl,Ju,(124,Qb,Dg)]) (ev3 H [(S.cG e item),fr,uq,uv,v,ca,up] [.I uw,.I r,.I p0,.I p1,.I p2] [aA ms,aG L,aN E1,aN E2] (.d (aS W.rJ) (.d (aI W.hm) .nil))) YB Dw (kc R1 (kc Ca (kc Cf (kc Ct (kc Cm (kc C1 (kc C2 (kc C3 kn)))))))),.bad G g3⟩
  subst h0;rw[if_neg (by simp)]
  clear z3;obtain⟨E3,rfl⟩:=K3.ex;refine⟨cw (fU Qh K7 Kct Hu [HF,Y7,Wr,UW,Ut,Jl,Ju,(124,Qb,DD)]) (ev3 H [(S.cG e item),fr,uq,uv,v,ca,up] [.I uw,.I r,.I p0,.I p1,.I p2] [aA ms,aG L,aN E1,aN E2,aN E3] (.d (aS W.rJ) (.d (aI W.hm) .nil))) YB DD (kc R1 (kc Ca (kc Cf (kc Ct (kc Cm (kc C1 (kc C2 (kc C3 kn)))))))),.ok K3 (K3.gn G) rfl rfl rfl rfl rfl rfl⟩
 rw[if_neg hh,if_neg (by simp)]
 simp only[Int.neg_zero];have C1:=jN h x hl.1 hl.2 (y:=⟨q-fr,0,0⟩) (show eH [q-fr,0,0]from Fb (by omega) (by omega) (by omega))
 obtain⟨k1,g1,cb,ub,z1⟩:=mG h x hl.1 hl.2 ⟨q-fr,0,0⟩
 generalize eB S e item loc ⟨q-fr,0,0⟩=b at *
 obtain⟨S1,ca,up,f⟩:=b;dsimp only at *
 have K1:=k1;by_cases h0:f=0
 rotate_left
 ·rw[if_pos h0]
  obtain⟨hz,rfl,rfl⟩:=z1 h0;have hz:=hz.symm;subst hz
  have H:=H.er (f:=f) (by omega)
  exact⟨cw (fU [(1,4),(0,288230376151711744),(0,288230376151711744),(0,288230376151711744)] K6 Kct Hu [HF,Y8,Ws,UX,(145,ZJ,HA)]) (ev3 H [(S.cG e item),fr,uq,uv] [.I uw,.I p0,.I p1,.I p2] [aA ms,aG L] (.d (aS W.rJ) (.d (aI W.hm) .nil))) YB Dw (kc R1 (kc Ca (kc Cf (kc Ct (kc C1 kn))))),.bad G g1⟩
 subst h0;rw[if_neg (by simp)]
 clear z1;obtain⟨E1,rfl⟩:=K1.ex;have C2:=dA K1.ok (K1.ix x) (l:=[⟨0,ca⟩,⟨6,up⟩,⟨8,0⟩]) (sX fmo) (by simp)
 obtain⟨k2,g2,z2⟩:=dY K1.ok (K1.ix x) [⟨0,ca⟩,⟨6,up⟩,⟨8,0⟩]
 generalize dH (S.aZ E1) e [⟨0,ca⟩,⟨6,up⟩,⟨8,0⟩]=b at *
 obtain⟨S2,f⟩:=b;dsimp only at *
 have K2:=K1.trans k2;by_cases h0:f=0
 rotate_left
 ·rw[if_pos h0]
  obtain hz:=z2 h0
  have hz:=hz.symm;subst hz
  have H:=H.er (f:=f) (by omega)
  exact⟨cw (fU Zv K6 Kct Hu [HF,Y8,Ws,UX,Jo,(92,YC,Dz)]) (ev3 H [(S.cG e item),fr,uq,uv,ca,up] [.I uw,.I p0,.I p1,.I p2] [aA ms,aG L,aN E1] (.d (aS W.rJ) (.d (aI W.hm) .nil))) YB Dw (kc R1 (kc Ca (kc Cf (kc Ct (kc C1 (kc C2 kn)))))),.bad G g2⟩
 subst h0;rw[if_neg (by simp)]
 clear z2;obtain⟨E2,rfl⟩:=K2.ex;have C3:=eG K2.ok (K2.ix x) (r:=[0,0,0,0,0,0,0,0,0,-ca,0]) rfl
 obtain⟨k3,g3,z3⟩:=fJ K2.ok (K2.ix x) (r:=[0,0,0,0,0,0,0,0,0,-ca,0]) rfl
 generalize eO (S.aZ E2) e item [0,0,0,0,0,0,0,0,0,-ca,0]=b at *
 obtain⟨S3,f⟩:=b;dsimp only at *
 have K3:=K2.trans k3;by_cases h0:f=0
 rotate_left
 ·rw[if_pos h0]
  obtain hz:=z3 h0
  have hz:=hz.symm;subst hz
  have H:=H.er (f:=f) (by omega)
  exact⟨cw (fU Zv K6 Kct Hu [HF,Y8,Ws,UX,Jo,JP,(124,Qc,Dg)]) (ev3 H [(S.cG e item),fr,uq,uv,ca,up] [.I uw,.I p0,.I p1,.I p2] [aA ms,aG L,aN E1,aN E2] (.d (aS W.rJ) (.d (aI W.hm) .nil))) YB Dw (kc R1 (kc Ca (kc Cf (kc Ct (kc C1 (kc C2 (kc C3 kn))))))),.bad G g3⟩
 subst h0;rw[if_neg (by simp)]
 clear z3;obtain⟨E3,rfl⟩:=K3.ex;refine⟨cw (fU Zv K6 Kct Hu [HF,Y8,Ws,UX,Jo,JP,(124,Qc,DD)]) (ev3 H [(S.cG e item),fr,uq,uv,ca,up] [.I uw,.I p0,.I p1,.I p2] [aA ms,aG L,aN E1,aN E2,aN E3] (.d (aS W.rJ) (.d (aI W.hm) .nil))) YB DD (kc R1 (kc Ca (kc Cf (kc Ct (kc C1 (kc C2 (kc C3 kn))))))),.ok K3 (K3.gn G) rfl rfl rfl rfl rfl rfl⟩
set_option maxHeartbeats 1000000 in
theorem ah2 (G:Gn S) (x:Ix S e item) (ha:0≤a∧a≤1125899906842624) :
  Ck 143 [S.av,dC 10 e item 0 0 0 a 0] (.bB [(IU S e item a).1.av,.i (IU S e item a).2])∧mY S (IU S e item a):=by
 have h:=G.toStOk;have H:=h.wx x;have:=H.bd;have E:=h.CJ x;have hbl:=E.bl;have hpr:=E.pr;have hdl:=E.dl
 have R1:=eQ h x;have k:=ad7 h x ha;have hav:(S.bT e ((S.aJ e).Ag item a)).av=S.setRow e (xA (S.aJ e).now (S.aJ e).closed (bU (S.aJ e).bM) (aA (S.aJ e).eJ) (bQ (S.aJ e).aF) ((aA (S.aJ e).bD).set item.toNat [.i a]) (aA (S.aJ e).down) (cN (S.aJ e).ahead)):=by
  rw[bL.mA,show(aA (S.aJ e).bD).set item.toNat [.i a]=aA ((S.aJ e).bD.set item.toNat a)by simp[aA,List.map_set]];rfl
 obtain⟨pr,hpri⟩:∃pr,(S.aJ e).bD[item.toNat]?=some pr:=⟨_,getD_some (d:=0) (by have:=x.i0;have:=x.i1;omega)⟩
 unfold IU;generalize (S.aJ e).closed=cl at *
 cases cl with
 |true =>
  rw[if_pos rfl]at R1 ⊢;exact⟨cw (A2 (.o 4) [(0,1125899906842624)] [] Hz [(10,[([2],1)],[.o 5])] [] [] [(89,BF,(.i 7))]) (ev2 H [a] [.I pr] [] (.d (aI hpri) .nil)) Yn D0 (kc R1 kn),.bad G (by decide)⟩
 |false =>
  rw[if_neg (by simp)]at R1 ⊢
  dsimp only
  rw[hav];exact⟨cw (A2 (.o 4) [(0,1125899906842624)] [] Hz [(10,[([2],1)],[.o 5])] [] [] [(89,BF,(.i 0))]) (ev2 H [a] [.I pr] [] (.d (aI hpri) .nil)) Yn (.bB [(sN (.seq 8 0 [([([0],1)],[.o 3,.o 4,.q 4 7,.q 1 8,.q 11 9,(.seq 1 10 [([([2],1)],[.v 6])] []),.q 1 11,.q 8 12])] []) (.o 2)),.i 0]) (kc R1 kn),.ok k (k.gn G) rfl rfl rfl rfl rfl rfl⟩
end
end
section
open Mc
set_option maxRecDepth 1000000
theorem yU {L:List bF} {a:Int} (h:LR L) (ha:0≤a∧a≤1073741824):Ck 222 [.lit 3 (aG L),.i a] (.bB [.lit 3 (aG (Ms L a).1),.i (Ms L a).2.1,.i (Ms L a).2.2]):=by
 have hl:=h.len;have hq:=gW h.ok;have:=h.q;have:=h.v;have:=h.p
 have hp:=Az L;unfold Ms;by_cases h0:L.length=0
 ·rw[if_pos h0];exact cw _ (ev1 { vars:=[(0,0),(0,1073741824)],lens:=Kcw } [(L.length:Int),a] [] [aG L] .nil) KcC (.bB [.q 3 0,.i 0,.i 0]) kn
 rw[if_neg h0];have ht:=oH (zQ fun x hx=>Nu (h.ok x hx))
 rw[h.vV.1,h.vV.2]at ht;have hm:=mT (a:=qs L) (b:=a) (c:=1) ⟨by omega,by omega⟩ ⟨by omega,by omega⟩ ⟨by omega,by omega⟩
 have vb:=OR (a:=qs L) (b:=a) (c:=1) hq.1 ha.1
 have he:ER (qs L) a 1=0∨ER (qs L) a 1=2:=by
  unfold ER;rw[if_neg (by omega)]
  split<;>simp
 generalize zY (qs L) a 1=v at *
 generalize PE (qs L) a 1=r at *
 generalize ER (qs L) a 1=f at *
 generalize qs L=t0 at *;generalize vs L=t1 at *;generalize ps L=t2 at *
 rcases he with rfl|rfl
 ·rw[if_neg (by simp)];exact cw _ (ev1 { vars:=Uu,lens:=Kcw,bN:=[Wu,(148,[.o 0,.v 1,.i 1],(.bB [.v 3,.o 2,.i 0]))] } [(L.length:Int),a,t1,v] [.I t0,.I t2,.I r] [aG L] .nil) KcC (.bB [(.lit 3 [[.o 0,.v 3,.o 1]]),(.e [([2],(-1)),([3],1)]),.i 0]) (kc ht (kc hm kn))
 ·rw[if_pos (by simp)];exact cw _ (ev1 { vars:=Uu,lens:=Kcw,bN:=[Wu,(148,[.o 0,.v 1,.i 1],(.bB [.v 3,.o 2,.i 2]))] } [(L.length:Int),a,t1,v] [.I t0,.I t2,.I r] [aG L] .nil) KcC (.bB [.q 3 0,.i 0,.i 2]) (kc ht (kc hm kn))
theorem afP (C:List (List Int)) (cs:List Int) (e item a:Int):aO (C.set e.toNat (cs.set item.toNat a))=(aO C).set e.toNat [.lit 1 ((aA cs).set item.toNat [.i a])]:=by
 simp[aO,aA,List.map_set]
theorem StOk.fN {S:bL} (h:StOk S) {e item a:Int} (x:Ix S e item) (ha:0≤a∧a≤1073741824):StOk (S.fN (S.cP.set e.toNat ((S.cP.getD e.toNat []).set item.toNat a))):=by
 have hc:e.toNat<S.cP.length:=by rw[h.Aa];have:=x.e0;have:=x.e1;omega
 have m1:=eL (d:=[]) hc
 refine⟨h.hn,h.hw,h.Fq,by show(S.cP.set _ _).length=_;simp;exact h.Aa,h.Fs,fun r hr=>?_,h.mb,fun r hr=>?_,h.aJ,h.ahead⟩
 ·rcases List.mem_or_eq_of_mem_set hr with hr|rfl
  ·exact h.nP r hr
  ·simp;exact h.nP _ m1
 ·rcases List.mem_or_eq_of_mem_set hr with hr|rfl
  ·exact h.cb r hr
  ·intro v hv
   rcases List.mem_or_eq_of_mem_set hv with hv|rfl
   ·exact h.cb _ m1 v hv
   ·exact ha
section
variable {S:bL} {e item a:Int}
set_option maxHeartbeats 1000000 in
theorem acS (G:Gn S) (hd:S.done≤1000000) (x:Ix S e item) (ha:0≤a∧a≤1073741824) :
  Ck 140 [S.av,dC 9 e item 0 0 0 a 0] (.bB [(wC S e item a).1.av,.i (wC S e item a).2])∧mY S (wC S e item a):=by
 have h:=G.toStOk;have H:=G.op hd (x.eb h) (x.ib h) (loc:=0) (by omega) (dst:=0) (by omega) (q:=0) (by omega) (a:=a) (by omega) (ref:=0) (by omega)
 have W:=h.wx x;have hmb:=h.mb' x;have hz:(0:Int)≤0∧(0:Int)≤1:=by omega
 have ho:(0:Int)≤1∧(1:Int)≤1:=by omega
 have hw:=h.fN (a:=a) x ha
 unfold wC;have hC2:=afP S.cP (S.cP.getD e.toNat []) e item a
 generalize hC:S.cP.set e.toNat ((S.cP.getD e.toNat []).set item.toNat a)=C2 at *
 generalize S.methods.getD e.toNat []=ms at W
 generalize S.cP.getD e.toNat []=cs at W hC2
 have:=W.bd;have R1:=eQ h x;by_cases hc1:(S.aJ e).closed=true
 ·rw[if_pos hc1]at R1 ⊢
  exact⟨cw (fU [(1,4)] VV Kct Hu Hr) (ev3 H [(S.cG e item)] [] [aA ms] (.d (aS W.rJ) (.d (aI W.hm) .nil))) YD DR (kc R1 kn),.bad G (by decide)⟩
 rw[if_neg hc1]at R1 ⊢;by_cases hm4:S.cG e item=4
 rotate_left
 ·rw[if_pos hm4]
  exact⟨cw (fU [(1,4)] [KaL,KaO,Kcv] Kct Hu Hs) (ev3 H [(S.cG e item)] [] [aA ms] (.d (aS W.rJ) (.d (aI W.hm) .nil))) YD (.bB [Kb2,.i 12]) (kc R1 kn),.bad G (by decide)⟩
 rw[if_neg (by simp[hm4])]
 have Ca0:=kD h x hz.1 hz.2;have p0:=h.Rv x hz.1 hz.2;rw[hm4]at p0;have Cr0:=yU p0.lr ha;obtain⟨M0,d0,f,hR0⟩:∃M dd f,Ms ((S.aJ e).bS (2*item+0)).bH a=(M,dd,f):=⟨_,_,_,rfl⟩
 have q0:=aaJ p0 ha.1 hR0;rw[hR0]at Cr0 ⊢;have f0:=q0.2.2;have Cp0:=pW h x hz.1 hz.2 { (S.aJ e).bS (2*item+0)with bH:=M0 }
 have k1:=nK h x hz.1 hz.2 (p:={ (S.aJ e).bS (2*item+0)with bH:=M0 }) (by rw[hm4];exact q0.1)
 dsimp only at Cr0 ⊢
 by_cases h0:f=0
 rotate_left
 ·rw[if_pos h0]
  have H:=H.er (f:=f) (by omega)
  clear Cp0 k1 q0 p0 hR0;generalize (S.aJ e).bS (2*item+0)=P at *
  obtain⟨L0,u0,y0,z0⟩:=P;obtain⟨dd,hdd⟩:∃dd,dd=d0:=⟨_,rfl⟩
  rw[←hdd]at Cr0;exact⟨cw (fU [(1,4)] Uq Kct Hu [HF,Y9,(222,[.q 3 8,.v 5],(.bB [.q 3 9,.o 5,.v 13]))]) (ev3 H [(S.cG e item)] [.I u0,.I y0,.I z0,.I dd] [aA ms,aG L0,aG M0] (.d (aS W.rJ) (.d (aI W.hm) .nil))) YD Dw (kc R1 (kc Ca0 (kc Cr0 kn))),.bad G (by unfold fF;omega)⟩
 subst h0;rw[if_neg (by simp)]
 rw[show S.vX e (2*item+0) M0=S.bT e ((S.aJ e).dG (2*item+0) { (S.aJ e).bS (2*item+0)with bH:=M0 })from rfl]
 generalize S.bT e ((S.aJ e).dG (2*item+0) { (S.aJ e).bS (2*item+0)with bH:=M0 })=S1 at *
 obtain⟨E1,rfl⟩:=k1.ex;clear hR0 p0;generalize (S.aJ e).bS (2*item+0)=P at *
 obtain⟨L0,u0,y0,z0⟩:=P;dsimp only at *
 have x1:=k1.ix x;have Ca1:=kD k1.ok x1 ho.1 ho.2;have p1:=k1.ok.Rv x1 ho.1 ho.2;rw[show(S.aZ E1).cG e item=S.cG e item from rfl,hm4]at p1
 have Cr1:=yU p1.lr ha;obtain⟨M1,d1,f,hR1⟩:∃M dd f,Ms (((S.aZ E1).aJ e).bS (2*item+1)).bH a=(M,dd,f):=⟨_,_,_,rfl⟩
 have q1:=aaJ p1 ha.1 hR1;rw[hR1]at Cr1 ⊢;have f1:=q1.2.2;have Cp1:=pW k1.ok x1 ho.1 ho.2 { ((S.aZ E1).aJ e).bS (2*item+1)with bH:=M1 }
 have k2:=nK k1.ok x1 ho.1 ho.2 (p:={ ((S.aZ E1).aJ e).bS (2*item+1)with bH:=M1 }) (by rw[show(S.aZ E1).cG e item=S.cG e item from rfl,hm4];exact q1.1)
 dsimp only at Cr1 ⊢
 by_cases h0:f=0
 rotate_left
 ·rw[if_pos h0]
  have H:=H.er (f:=f) (by omega)
  clear Cp1 k2 p1 hR1;generalize ((S.aZ E1).aJ e).bS (2*item+1)=P at *
  obtain⟨L1,u1,y1,z1⟩:=P;obtain⟨dd,hdd⟩:∃dd,dd=d1:=⟨_,rfl⟩
  rw[←hdd]at Cr1;exact⟨cw (fU [(1,4),(-576460752303423488,576460752303423488)] Uq Kct Hu [HF,Y9,Hv,QP,YE,(222,[.q 3 11,.v 5],(.bB [.q 3 12,.o 8,.v 13]))]) (ev3 H [(S.cG e item),d0] [.I u0,.I y0,.I z0,.I u1,.I y1,.I z1,.I dd] [aA ms,aG L0,aG M0,aN E1,aG L1,aG M1] (.d (aS W.rJ) (.d (aI W.hm) .nil))) YD Dw (kc R1 (kc Ca0 (kc Cr0 (kc Cp0 (kc Ca1 (kc Cr1 kn)))))),.bad G (by unfold fF;omega)⟩
 subst h0;rw[if_neg (by simp)]
 rw[show(S.aZ E1).vX e (2*item+1) M1=(S.aZ E1).bT e (((S.aZ E1).aJ e).dG (2*item+1) { ((S.aZ E1).aJ e).bS (2*item+1)with bH:=M1 })from rfl]
 generalize (S.aZ E1).bT e (((S.aZ E1).aJ e).dG (2*item+1) { ((S.aZ E1).aJ e).bS (2*item+1)with bH:=M1 })=S2 at *
 have K2:=k1.trans k2;obtain⟨E2,rfl⟩:=K2.ex;clear hR1 p1;generalize ((S.aZ E1).aJ e).bS (2*item+1)=P at *
 obtain⟨L1,u1,y1,z1⟩:=P;dsimp only at *
 have x2:=K2.ix x;have h3:StOk ((S.aZ E2).fN C2):=by
  have g:=K2.ok.fN (a:=a) x2 ha
  rw[show(S.aZ E2).cP=S.cP from rfl,hC]at g
  exact g
 have x3:Ix ((S.aZ E2).fN C2) e item:=⟨x2.e0,x2.e1,x2.i0,x2.i1⟩
 have Cq:=dA h3 x3 (l:=[⟨0,d0+d1⟩,⟨6,-d0-d1⟩]) (sX fmo) (by simp)
 obtain⟨k4,g4,z4⟩:=dY h3 x3 [⟨0,d0+d1⟩,⟨6,-d0-d1⟩]
 have G3:Gn ((S.aZ E2).fN C2):=by
  have g:=K2.gn G;exact⟨h3,g.IM,g.MY,g.TF,g.FM,g.Mf,g.trb,g.d0,g.al,g.pb⟩
 generalize dH ((S.aZ E2).fN C2) e [⟨0,d0+d1⟩,⟨6,-d0-d1⟩]=b at *
 obtain⟨S4,f⟩:=b;dsimp only at *
 have hav:∀E,((S.aZ E).fN C2).av=.agg [.i S.aB,.i S.aD,.lit 1 (aA S.weights),.lit 1 (aO S.methods),.lit 1 ((aO S.cP).set e.toNat [.lit 1 ((aA cs).set item.toNat [.i a])]),.lit 8 (aN E),.lit 8 (gH S.aH),.lit 9 (cR S.aM),.lit 6 (gG S.bK),.i S.done]:=fun E=>by rw[←hC2];rfl
 by_cases h0:f=0
 rotate_left
 ·rw[if_pos h0]
  have hz4:=(z4 h0).symm
  subst hz4;have H:=H.er (f:=f) (by have:=g4;unfold fF at this;omega)
  have Cq:Ck 92 [.agg [.i S.aB,.i S.aD,.lit 1 (aA S.weights),.lit 1 (aO S.methods),.lit 1 ((aO S.cP).set e.toNat [.lit 1 ((aA cs).set item.toNat [.i a])]),.lit 8 (aN E2),.lit 8 (gH S.aH),.lit 9 (cR S.aM),.lit 6 (gG S.bK),.i S.done],.i e,.lit 2 (dQ [⟨0,d0+d1⟩,⟨6,-d0-d1⟩])] (.bB [((S.aZ E2).fN C2).av,.i f]):=by rw[←hav];exact Cq
  exact⟨cw (fU Zd Uq BK QZ [HF,Y9,Hv,QP,YE,W6,Qy,(92,Kw,(.bB [(.agg [.o 0,.o 1,.q 1 1,.q 1 2,.q 1 15,.q 8 13,.q 8 4,.q 9 5,.q 6 6,.v 7]),.v 13]))]) (ev3 H [(S.cG e item),d0,d1] [.I u0,.I y0,.I z0,.I u1,.I y1,.I z1,.I (S.cost e item)] [aA ms,aG L0,aG M0,aN E1,aG L1,aG M1,aN E2,aA cs,aO C2] (.d (aS W.rJ) (.d (aI W.hm) (.d (aS W.CI) (.d (aI W.hc) .nil))))) YD Dw (kc R1 (kc Ca0 (kc Cr0 (kc Cp0 (kc Ca1 (kc Cr1 (kc Cp1 (kc Cq kn)))))))),.bad G g4⟩
 subst h0;rw[if_neg (by simp)]
 clear z4;obtain⟨E3,rfl⟩:∃E,S4=(S.aZ E).fN C2:=⟨S4.bG,k4.eq⟩
 have Cq:Ck 92 [.agg [.i S.aB,.i S.aD,.lit 1 (aA S.weights),.lit 1 (aO S.methods),.lit 1 ((aO S.cP).set e.toNat [.lit 1 ((aA cs).set item.toNat [.i a])]),.lit 8 (aN E2),.lit 8 (gH S.aH),.lit 9 (cR S.aM),.lit 6 (gG S.bK),.i S.done],.i e,.lit 2 (dQ [⟨0,d0+d1⟩,⟨6,-d0-d1⟩])] (.bB [((S.aZ E3).fN C2).av,.i 0]):=by rw[←hav];exact Cq
 have x4:=k4.ix x3;have Ct:=eG k4.ok x4 (r:=[0,0,0,0,0,0,0,0,0,0,d0+d1]) rfl
 obtain⟨k5,g5,z5⟩:=fJ k4.ok x4 (r:=[0,0,0,0,0,0,0,0,0,0,d0+d1]) rfl
 generalize eO ((S.aZ E3).fN C2) e item [0,0,0,0,0,0,0,0,0,0,d0+d1]=b at *
 obtain⟨S5,f⟩:=b;dsimp only at *
 by_cases h0:f=0
 rotate_left
 ·rw[if_pos h0]
  have hz5:=(z5 h0).symm
  subst hz5;have H:=H.er (f:=f) (by have:=g5;unfold fF at this;omega)
  exact⟨cw (fU Zd Uq BK QZ [HF,Y9,Hv,QP,YE,W6,Qy,Kk,(124,KJ,(.bB [Ua,.v 13]))]) (ev3 H [(S.cG e item),d0,d1] [.I u0,.I y0,.I z0,.I u1,.I y1,.I z1,.I (S.cost e item)] [aA ms,aG L0,aG M0,aN E1,aG L1,aG M1,aN E2,aA cs,aO C2,aN E3] (.d (aS W.rJ) (.d (aI W.hm) (.d (aS W.CI) (.d (aI W.hc) .nil))))) YD Dw (kc R1 (kc Ca0 (kc Cr0 (kc Cp0 (kc Ca1 (kc Cr1 (kc Cp1 (kc Cq (kc Ct kn))))))))),.bad G g5⟩
 subst h0;rw[if_neg (by simp)]
 have K5:=k4.trans k5;obtain⟨E4,rfl⟩:∃E,S5=(S.aZ E).fN C2:=⟨S5.bG,K5.eq⟩
 have F:=mY.ok K5 (K5.gn G3) rfl rfl rfl rfl rfl rfl
 exact⟨cw (fU Zd Uq BK QZ [HF,Y9,Hv,QP,YE,W6,Qy,Kk,(124,KJ,Zi)]) (ev3 H [(S.cG e item),d0,d1] [.I u0,.I y0,.I z0,.I u1,.I y1,.I z1,.I (S.cost e item)] [aA ms,aG L0,aG M0,aN E1,aG L1,aG M1,aN E2,aA cs,aO C2,aN E3,aN E4] (.d (aS W.rJ) (.d (aI W.hm) (.d (aS W.CI) (.d (aI W.hc) .nil))))) YD Zi (kc R1 (kc Ca0 (kc Cr0 (kc Cp0 (kc Ca1 (kc Cr1 (kc Cp1 (kc Cq (kc Ct kn))))))))),⟨F.gn,F.err,fun h=>absurd rfl h,F.le.trans K2.len,rfl,rfl,rfl,rfl,rfl⟩⟩
end
end
section
def eW (v all:Int):Int→List bF→List bF
 |_,[]=>[]
 |left,[x]=>[⟨x.q,x.v+left,x.p⟩]
 |left,x::y::r=>⟨x.q,x.v+cA v x.q all,x.p⟩::eW v all (left-cA v x.q all) (y::r)
theorem EO (v all:Int):∀(l:List bF) (left:Int),(eW v all left l).length=l.length
 |[],_=>rfl
 |[x],_=>rfl
 |x::y::r,left=>by simp only[eW,List.length_cons];rw[EO v all (y::r)];rfl
theorem IN (v all:Int):∀(l:List bF) (left:Int),qs (eW v all left l)=qs l
 |[],_=>rfl
 |[x],_=>rfl
 |x::y::r,left=>by simp only[eW];rw[fV,IN v all (y::r),fV (l:=y::r)]
theorem IZ {v q all:Int} (hv0:0≤v) (hv1:v≤288230376151711744) (hq0:0≤q) (hq:q≤all) (hall:1≤all):0≤cA v q all∧cA v q all*all≤v*q:=by
 have e:cA v q all=v*q/all:=by
  unfold cA;rw[if_neg,if_neg (by omega)]
  have:mD v=true:=eP.2 ⟨by omega,by omega⟩
  rw[this];simp;omega
 rw[e];exact⟨(wL hall hq0 hq hv0).1,Int.ediv_mul_le _ (by omega)⟩
end
section
open Mc
set_option maxRecDepth 1000000
def wG (L:List bF) (v:Int):List bF×Int :=
 if L.length=0 then(L,5)else if 288230376151711744<v then(L,2)else if gT (eW v (qs L) v L)=true then(eW v (qs L) v L,0)else(L,2)
theorem akb {L:List bF} (h:LR L) {x:bF} (hx:x∈L):x.q≤qs L:=by
 have go:∀(l:List bF),(∀z∈l,jE z=true)→x∈l→x.q≤qs l:=by
  intro l;induction l with
  |nil=>intro _ hx;cases hx
  |cons z t ih =>
   intro hok hx;have hz:=cT.1 (hok z (by simp))
   have ht:=(gW (l:=t) fun y hy=>hok y (by simp[hy])).1
   rw[fV];rcases List.mem_cons.1 hx with rfl|hx
   ·omega
   ·have:=ih (fun y hy=>hok y (by simp[hy])) hx;omega
 exact go L h.ok hx
theorem afi {L d:List bF} {j:Nat} {x:bF} (hd:d.length=j) (hdr:L.drop j=x::L.drop (j+1)) (y:bF):(aG (d++L.drop j)).set j [.i y.q,.i y.v,.i y.p]=aG (d++[y]++L.drop (j+1)):=by
 subst hd;rw[hdr];simp only[aG,List.map_append,List.map_cons,List.map_nil];rw[List.set_append_right _ _ (by simp)]
 simp
 rfl
theorem akW {a b c:Int} (h1:jY a) (h2:jY b) (h3:jY c):eH [a,b,c]:=by
 intro v hv;simp only[List.mem_cons,List.not_mem_nil,or_false]at hv;rcases hv with rfl|rfl|rfl
 ·exact h1
 ·exact h2
 ·exact h3
theorem ach {v t0:Int} {L:List bF} (hv:0≤v∧v≤288230376151711744) (hall:1≤t0) (ht:t0=qs L) (h:LR L):∀z∈eW v t0 v L,jY z.q∧jY z.v∧jY z.p:=by
 have go:∀(l:List bF) (left:Int),(∀x∈l,jE x=true)→qs l≤t0→0≤left→left≤v→v*qs l≤left*t0→∀z∈eW v t0 left l,jY z.q∧jY z.v∧jY z.p:=by
  intro l;induction l with
  |nil=>intro left _ _ _ _ _ z hz;cases hz
  |cons x r ih =>
   intro left hok hq l0 l1 hs z hz;have hx:=cT.1 (hok x (by simp))
   have hr:=(gW (l:=r) fun y hy=>hok y (by simp[hy])).1
   cases r with
   |nil =>
    simp only[eW,List.mem_singleton]at hz;subst hz;exact⟨⟨by dsimp only;omega,by dsimp only;omega⟩,⟨by dsimp only;omega,by dsimp only;omega⟩,⟨by dsimp only;omega,by dsimp only;omega⟩⟩
   |cons y t =>
    rw[fV]at hq hs;obtain⟨p0,p1⟩:=IZ hv.1 hv.2 (q:=x.q) (by omega) (by omega) hall
    simp only[eW]at hz;have e1:v*(x.q+qs (y::t))=v*x.q+v*qs (y::t):=Int.mul_add _ _ _
    have e2:(left-cA v x.q t0)*t0=left*t0-cA v x.q t0*t0:=Int.sub_mul _ _ _
    have e3:0≤v*qs (y::t):=Int.mul_nonneg hv.1 hr
    have e4:0≤left-cA v x.q t0:=by
     have:0≤(left-cA v x.q t0)*t0:=by omega
     exact Int.nonneg_of_mul_nonneg_left this (by omega)
    rcases List.mem_cons.1 hz with rfl|hz
    ·exact⟨⟨by dsimp only;omega,by dsimp only;omega⟩,⟨by dsimp only;omega,by dsimp only;omega⟩,⟨by dsimp only;omega,by dsimp only;omega⟩⟩
    ·exact ih (left-cA v x.q t0) (fun y hy=>hok y (by simp[hy])) (by omega) e4 (by omega) (by omega) z hz
 exact go L v h.ok (by omega) hv.1 (Int.le_refl _) (by rw[ht];exact Int.le_refl _)
namespace RS
abbrev sF (v n l y i:AV):List AV:=fr 79 [(2,v),(4,.ptr 4 0 0 0),(6,.ptr 4 1 0 0),(7,.i 0),(8,n),(9,l),(10,.ptr 3 3 0 0),(11,y),(12,i)]
abbrev sB (L:List bF) (p0 p1 p2 t0 t1 t2:Int) (c:List (List AV)):List Mc.bX:=[.cells 161 4 [[.lit 3 (aG L),.i p0,.i p1,.i p2]],.cells 161 4 [[.emp,.i 0,.i 0,.i 0]],.cells 101 3 c,.cells 101 3 [[.i t0,.i t1,.i t2]]]
noncomputable def body:Code:=(Tryz.f150).body.getD .skip
abbrev aiM (c:Code) (r:Option (RT Out)):Prop:=CG { vars:=Da,lens:=Kcw,bN:=UY } c (Gb++List.replicate 76 .undef) [] [some 0,some 1,some 2,some 3] (sF (.v 2) (.v 0) KaQ (.v 2) (.i 0)) [GE,GW,(.sc 101 3 0 [] [] [([0],1)]),Bo] r
noncomputable def Iy:Option (RT Out):=Tz { vars:=Da,lens:=Kcw,bN:=UY } body (Gb++List.replicate 76 .undef:List AV).length (Gb++List.replicate 76 .undef) [] 0
theorem alo:aiM body Iy:=⟨rfl,by decide +kernel,by decide +kernel⟩
abbrev aiJ (c:Code):Prop:=gN { vars:=[(1,30),(0,288230376151711744),(0,288230376151711744),(-576460752303423488,576460752303423488),(-576460752303423488,576460752303423488),(0,29)],facts:=[([([0],1),([5],-1)],2,30)],lens:=Kan,hH:=[(1,[([5],1)],[.o 6,.v 2,.o 7])],bN:=[(149,[.v 1,.o 6,.o 3],(.v 4))] } c (sF (.v 1) (.v 0) KaQ (.v 3) (.v 5)) Ja 0 [some 0,some 1,some 2,some 3] (sF (.v 1) (.v 0) KaQ (.e Kci) KbO) [GE,GW,(.sc 101 3 1 [([([5],1)],[.o 6,(.e [([2],1),([4],1)]),.o 7])] [] [([0],1)]),Bo]
theorem alk:aiJ (bE Iy):=⟨_,rfl,by decide +kernel,by decide +kernel⟩
abbrev aiK (c:Code):Prop:=gN { vars:=[(1,30),(0,288230376151711744),(0,288230376151711744),(-576460752303423488,576460752303423488),(0,29)],facts:=[([([0],1),([4],-1)],1,1)],lens:=Kan,hH:=[(1,[([4],1)],[.o 6,.v 2,.o 7])] } c (sF (.v 1) (.v 0) KaQ (.v 3) (.v 4)) Ja 0 [some 0,some 1,some 2,some 3] (sF (.v 1) (.v 0) KaQ (.i 0) KbP) [GE,GW,(.sc 101 3 1 [([([4],1)],[.o 6,(.e [([2],1),([3],1)]),.o 7])] [] [([0],1)]),Bo]
theorem alm:aiK (bE Iy):=⟨_,rfl,by decide +kernel,by decide +kernel⟩
abbrev aiL (c:Code):Prop:=gN { vars:=BW,lens:=Kan } c (sF (.v 1) (.v 0) KaQ (.o 6) (.v 0)) Ja 3 [some 0,some 1,some 2,some 3] (sF (.v 1) (.v 0) KaQ (.o 6) (.v 0)) Ja
theorem aln:aiL (bE Iy):=⟨_,rfl,by decide +kernel,by decide +kernel⟩
abbrev aaY (o:Option (RT Out)):Prop:=mI { vars:=BW,lens:=Kan,bN:=[(199,[.q 3 1],Kcm)] } Tryz.f150 o 1 (sF (.v 1) (.v 0) KaQ (.o 6) (.v 0)) Ja ((.bB [B3,.i 0]))
theorem agB:aaY Iy:=⟨_,rfl,by decide +kernel,by decide +kernel,by kernel_rfl⟩
abbrev Rz (o:Option (RT Out)):Prop:=mI { vars:=BW,lens:=Kan,bN:=[(199,[.q 3 1],Kcd)] } Tryz.f150 o 1 (sF (.v 1) (.v 0) KaQ (.o 6) (.v 0)) Ja (HJ)
theorem adt:Rz Iy:=⟨_,rfl,by decide +kernel,by decide +kernel,by kernel_rfl⟩
theorem walk (oA:Option (RT Out)) (rA:aiM body oA) (rp:aiJ (bE oA)) (rl:aiK (bE oA)) (rX:aiL (bE oA)) (rO:aaY oA) (rB:Rz oA)
  {L:List bF} {p0 p1 p2 m v:Int} (h:LR L) (h1:1≤L.length) (hm:1≤m∧m≤3) (hv:0≤v∧v≤288230376151711744) :
  Ck 150 [.i m,dF.av ⟨L,p0,p1,p2⟩,.i v] (.bB [dF.av ⟨if gT (eW v (qs L) v L)=true then eW v (qs L) v L else L,p0,p1,p2⟩,.i (if gT (eW v (qs L) v L)=true then 0 else 2)]):=by
 have ht:=oG (p0:=p0) (p1:=p1) (p2:=p2) h
 have hql:=h.q;have h30:=h.len;obtain⟨t1,ht1⟩:∃t1,t1=vs L:=⟨_,rfl⟩
 obtain⟨t2,ht2⟩:∃t2,t2=ps L:=⟨_,rfl⟩
 obtain⟨t0,ht0⟩:∃t0,t0=qs L:=⟨_,rfl⟩
 rw[←ht1,←ht2,←ht0]at ht;rw[←ht0]at hql ⊢;have hall:1≤t0:=by
  rw[ht0];match L,h1,h with
  |z::t,_,h =>
   have:=cT.1 (h.ok z (by simp))
   have:=(gW (l:=t) fun x hx=>h.ok x (by simp[hx])).1
   rw[fV];omega
 refine CK.gY Tryz.func150 (c:=body) (by kernel_rfl) (Fh.out) (yC.out) fun A w0 a0=>?_
 intro mm w a pr;rw[Tryz.ntmps150]at pr;refine rA.go (ev1 _ [(L.length:Int),m,v] [.I p0,.I p1,.I p2,.I t0,.I t1,.I t2] [aG L] .nil) (xK (kc ht kn)) pr (fd:=sF (.i v) (.i (L.length:Int)) (.own 101 3 2 0 L.length) (.i v) (.i 0)) (bd:=sB L p0 p1 p2 t0 t1 t2 (aG L)) ?_
 intro mm w a pr;clear ht;refine fQ (fun n a w=>∃(j:Nat) (left:Int) (d:List bF),n=L.length-j∧j≤L.length∧d.length=j∧eW v t0 v L=d++eW v t0 left (L.drop j)∧0≤left∧left≤v∧v*qs (L.drop j)≤left*t0∧∃mm,@gZ dI dN A w0 a0 mm w a (sF (.i v) (.i (L.length:Int)) (.own 101 3 2 0 L.length) (.i left) (.i (j:Int))) (eS (sB L p0 p1 p2 t0 t1 t2 (aG (d++L.drop j))))) ?_ (n:=L.length) ⟨0,v,[],rfl,Nat.zero_le _,rfl,rfl,hv.1,Int.le_refl _,by rw[List.drop_zero,ht0];exact Int.le_refl _,_,pr⟩
 rintro n a w ⟨j,left,d,rfl,hj,hd,hR,l0,l1,hs,mm,pr⟩
 have nP:(d++L.drop j).length=L.length:=by simp;omega
 rcases(by omega:j=L.length∨j<L.length)with rfl|hlt
 ·have hz:L.drop L.length=[]:=List.drop_length
  rw[hz]at hR nP;rw[hz]at pr;simp only[eW,List.append_nil]at hR nP pr;rw[hR];generalize d=c at *;refine rX.go (ev1 _ [(L.length:Int),v] [.I p0,.I p1,.I p2,.I t0,.I t1,.I t2,.I left] [aG L,aG c] .nil) (xK kn) pr ?_
  intro mm w a pr;have hI:eH (flat c):=by
   rw[←hR];refine zQ fun z hz=>?_
   obtain⟨o1,o2,o3⟩:=ach hv hall ht0 h z hz;exact akW o1 o2 o3
  have hr:=xD hI (by omega)
  by_cases hg:gT c=true
  ·rw[if_pos hg,if_pos hg]
   rw[hg]at hr;exact rO.go (ev1 _ [(L.length:Int),v] [.I p0,.I p1,.I p2,.I t0,.I t1,.I t2,.I left] [aG L,aG c] .nil) (xK (kc hr kn)) pr
  ·rw[if_neg hg,if_neg hg]
   rw[show gT c=false by simpa using hg]at hr
   exact rB.go (ev1 _ [(L.length:Int),v] [.I p0,.I p1,.I p2,.I t0,.I t1,.I t2,.I left] [aG L,aG c] .nil) (xK (kc hr kn)) pr
 ·obtain⟨x,hx0⟩:∃x,L[j]?=some x:=⟨_,List.getElem?_eq_getElem hlt⟩
  have hdr:L.drop j=x::L.drop (j+1):=by rw[←List.getElem_cons_drop hlt];congr 1;exact Option.some.inj (by rw[←List.getElem?_eq_getElem hlt,hx0])
  have hxo:=cT.1 (h.ok x (List.mem_of_getElem? hx0))
  have hx:(d++L.drop j)[(j:Int).toNat]?=some x:=by
   rw[Int.toNat_natCast,List.getElem?_append_right (by omega),hd,Nat.sub_self,hdr];rfl
  have hset:∀y,(aG (d++L.drop j)).set j [.i y.q,.i y.v,.i y.p]=aG (d++[y]++L.drop (j+1)):=fun y=>afi hd hdr y
  have hrest:=fun(z:bF) (hz:z∈L.drop (j+1))=>h.ok z (List.mem_of_mem_drop hz)
  have hqr:=(gW hrest).1
  rw[hdr,fV]at hs;generalize hc:d++L.drop j=c at *
  rcases(by omega:j+1=L.length∨j+1<L.length)with hlast|hmore
  ·refine rl.go (ev1 _ [(L.length:Int),v,x.v,left,(j:Int)] [.I p0,.I p1,.I p2,.I t0,.I t1,.I t2,.I x.q,.I x.p] [aG L,aG c] (.d (aY hx) .nil)) (xK kn) pr (fd:=sF (.i v) (.i (L.length:Int)) (.own 101 3 2 0 L.length) (.i 0) (.i (1+(j:Int)))) (bd:=sB L p0 p1 p2 t0 t1 t2 ((aG c).set j [.i x.q,.i (x.v+left),.i x.p])) ?_
   intro mm w a pr;have hz:L.drop (j+1)=[]:=List.drop_eq_nil_iff.2 (by omega)
   refine⟨L.length-(j+1),by omega,j+1,0,d++[⟨x.q,x.v+left,x.p⟩],rfl,by omega,by simp;omega,?_,Int.le_refl _,hv.1,?_,mm,?_⟩
   ·rw[hR,hdr,hz];simp[eW]
   ·rw[hz];simp[qs]
   ·rw[show(1+(j:Int))=((j+1:Nat):Int)by omega]at pr
    rw[←hset ⟨x.q,x.v+left,x.p⟩]
    exact pr
  ·have hk:=kV (v:=v) (q:=x.q) (n:=t0) ⟨by omega,by omega⟩ ⟨by omega,by omega⟩ ⟨by omega,by omega⟩
   have hqt:x.q≤t0:=by rw[ht0];exact akb h (List.mem_of_getElem? hx0)
   obtain⟨k0,k1⟩:=IZ hv.1 hv.2 (q:=x.q) (by omega) hqt hall
   obtain⟨y,r,hyr⟩:∃y r,L.drop (j+1)=y::r:=by
    cases hq:L.drop (j+1)with
    |nil=>have:=List.drop_eq_nil_iff.1 hq;omega
    |cons y r=>exact⟨y,r,rfl⟩
   have hR2:eW v t0 left (x::L.drop (j+1))=⟨x.q,x.v+cA v x.q t0,x.p⟩::eW v t0 (left-cA v x.q t0) (L.drop (j+1)):=by rw[hyr];rfl
   rw[hdr,hR2]at hR;generalize cA v x.q t0=k at *;have e1:v*(x.q+qs (L.drop (j+1)))=v*x.q+v*qs (L.drop (j+1)):=Int.mul_add _ _ _
   have e2:(left-k)*t0=left*t0-k*t0:=Int.sub_mul _ _ _
   have e3:0≤v*qs (L.drop (j+1)):=Int.mul_nonneg hv.1 hqr
   have e4:0≤left-k:=by
    have:0≤(left-k)*t0:=by omega
    exact Int.nonneg_of_mul_nonneg_left this (by omega)
   refine rp.go (ev1 _ [(L.length:Int),v,x.v,left,k,(j:Int)] [.I p0,.I p1,.I p2,.I t0,.I t1,.I t2,.I x.q,.I x.p] [aG L,aG c] (.d (aY hx) .nil)) (xK (kc hk kn)) pr (fd:=sF (.i v) (.i (L.length:Int)) (.own 101 3 2 0 L.length) (.i (left-k)) (.i (1+(j:Int)))) (bd:=sB L p0 p1 p2 t0 t1 t2 ((aG c).set j [.i x.q,.i (x.v+k),.i x.p])) ?_
   intro mm w a pr;refine⟨L.length-(j+1),by omega,j+1,left-k,d++[⟨x.q,x.v+k,x.p⟩],rfl,by omega,by simp;omega,?_,e4,by omega,by omega,mm,?_⟩
   ·rw[hR];simp
   ·rw[show(1+(j:Int))=((j+1:Nat):Int)by omega]at pr
    rw[←hset ⟨x.q,x.v+k,x.p⟩]
    exact pr
end RS
theorem SN {L:List bF} {p0 p1 p2 m v:Int} (h:LR L) (hm:1≤m∧m≤3) (hv:0≤v∧v≤9223372036854775807):Ck 150 [.i m,dF.av ⟨L,p0,p1,p2⟩,.i v] (.bB [dF.av ⟨(wG L v).1,p0,p1,p2⟩,.i (wG L v).2]):=by
 have hl:=h.len;unfold wG;by_cases h0:L.length=0
 ·rw[if_pos h0];exact cw _ (ev1 { vars:=[(0,0),(1,3),(0,9223372036854775807)],lens:=Kcw } [(L.length:Int),m,v] [.I p0,.I p1,.I p2] [aG L] .nil) Gb (.bB [BZ,.i 5]) kn
 rw[if_neg h0];by_cases hb:288230376151711744<v
 ·rw[if_pos hb];exact cw _ (ev1 { vars:=[(1,30),(1,3),(288230376151711745,9223372036854775807)],lens:=Kcw } [(L.length:Int),m,v] [.I p0,.I p1,.I p2] [aG L] .nil) Gb HJ kn
 rw[if_neg hb];have W:=RS.walk RS.Iy RS.alo RS.alk RS.alm RS.aln RS.agB RS.adt (p0:=p0) (p1:=p1) (p2:=p2) h (by omega) hm ⟨hv.1,by omega⟩
 by_cases hr:gT (eW v (qs L) v L)=true
 ·simp only[if_pos hr]at W ⊢;exact W
 ·simp only[if_neg hr]at W ⊢;exact W
set_option maxRecDepth 1000000
theorem acg {m:Int} {L:List bF} {d:rM} (h:iU m L d) (v:Int):iU m (wG L v).1 d∧fF (wG L v).2:=by
 unfold wG;split
 ·exact⟨h,⟨by simp,by simp⟩⟩
 ·split
  ·exact⟨h,⟨by simp,by simp⟩⟩
  ·split
   ·rename_i hr
    refine⟨⟨LR.of hr,?_,h.a0,h.b0,h.c0,?_,h.zero⟩,⟨by simp,by simp⟩⟩
    ·show m=1∨(eW v (qs L) v L).length≤1
     rw[EO];exact h.one
    ·show d.a+d.b+d.c≤qs (eW v (qs L) v L)
     rw[IN];exact h.sum
   ·exact⟨h,⟨by simp,by simp⟩⟩
def af5 (S:bL) (r:yJ) (v:Int):Int:=cA v (min (r.eT-r.back) (qs ((S.aJ r.aU).bS (2*r.item+r.loc)).bH)) r.eT
def kM (S:bL) (r:yJ) (v:Int):bL×Int×Int :=
 if S.cG r.aU r.item=4 then(S,0,0)else if af5 S r v=0 then(S,0,0)else
 match wG ((S.aJ r.aU).bS (2*r.item+r.loc)).bH (af5 S r v)with
 |(M,f)=>if f≠0 then(S,0,f)else
 match eO (S.bT r.aU ((S.aJ r.aU).dG (2*r.item+r.loc) { (S.aJ r.aU).bS (2*r.item+r.loc)with bH:=M })) r.aU r.item [0,0,af5 S r v,0,0,0,0,0,0,0,0]with
 |(S2,f)=>(S2,af5 S r v,f)
section
variable {S:bL} {e item loc rq rv ro ra rb v:Int}
set_option maxHeartbeats 1000000 in
theorem abv (G:Gn S) (hd:S.done≤1000000) (x:Ix S e item) (hl:0≤loc∧loc≤1) (hq:1≤rq∧rq≤1073741824) (hb:0≤rb∧rb≤rq) (hv:0≤v∧v≤1125899906842624) :
  Ck 91 [S.av,.agg (iC [e,item,loc,rq,rv,ro,ra,rb]),.i v] (.bB [(kM S ⟨e,item,loc,rq,rv,ro,ra,rb⟩ v).1.av,.i (kM S ⟨e,item,loc,rq,rv,ro,ra,rb⟩ v).2.1,.i (kM S ⟨e,item,loc,rq,rv,ro,ra,rb⟩ v).2.2]) ∧
  Kn S (kM S ⟨e,item,loc,rq,rv,ro,ra,rb⟩ v).1∧(0≤(kM S ⟨e,item,loc,rq,rv,ro,ra,rb⟩ v).2.1∧(kM S ⟨e,item,loc,rq,rv,ro,ra,rb⟩ v).2.1≤v)∧fF (kM S ⟨e,item,loc,rq,rv,ro,ra,rb⟩ v).2.2:=by
 have h:=G.toStOk;have H:=G.op hd (x.eb h) (x.ib h) hl (dst:=0) (by omega) (q:=0) (by omega) (a:=0) (by omega) (ref:=0) (by omega)
 have W:=h.wx x;have hm:=h.mb' x;generalize S.methods.getD e.toNat []=ms at W
 generalize S.cP.getD e.toNat []=cs at W
 have:=W.bd;have hpo:=h.Rv x hl.1 hl.2;have Ca:=kD h x hl.1 hl.2;have Ct:=oG (p0:=((S.aJ e).bS (2*item+loc)).p0) (p1:=((S.aJ e).bS (2*item+loc)).p1) (p2:=((S.aJ e).bS (2*item+loc)).p2) hpo.lr
 have tb:=(gW hpo.lr.ok).1
 have tb2:=hpo.lr.q;have hput:=fun P=>pW h x hl.1 hl.2 P
 have hkn:=fun P hP=>nK h x hl.1 hl.2 (p:=P) hP
 have Cc:=kV (v:=v) (q:=min (rq-rb) (qs ((S.aJ e).bS (2*item+loc)).bH)) (n:=rq) ⟨by omega,by omega⟩ ⟨by omega,by omega⟩ ⟨by omega,by omega⟩
 have cb:=Oq (v:=v) (q:=min (rq-rb) (qs ((S.aJ e).bS (2*item+loc)).bH)) (n:=rq) (by omega) (by omega) (by omega) (by omega) (by omega)
 have e0:af5 S ⟨e,item,loc,rq,rv,ro,ra,rb⟩ v=cA v (min (rq-rb) (qs ((S.aJ e).bS (2*item+loc)).bH)) rq:=rfl
 unfold kM;rw[e0];dsimp only
 obtain⟨hrok,hrerr⟩:=acg hpo (cA v (min (rq-rb) (qs ((S.aJ e).bS (2*item+loc)).bH)) rq)
 have hraise:=fun(h3:S.cG e item≠4)=>SN (p0:=((S.aJ e).bS (2*item+loc)).p0) (p1:=((S.aJ e).bS (2*item+loc)).p1) (p2:=((S.aJ e).bS (2*item+loc)).p2) (m:=S.cG e item) (v:=cA v (min (rq-rb) (qs ((S.aJ e).bS (2*item+loc)).bH)) rq) hpo.lr (by omega) (by omega)
 generalize cA v (min (rq-rb) (qs ((S.aJ e).bS (2*item+loc)).bH)) rq=c at *
 generalize wG ((S.aJ e).bS (2*item+loc)).bH c=R at *
 obtain⟨M,f⟩:=R;have hput:=hput { (S.aJ e).bS (2*item+loc)with bH:=M }
 have hkn:=hkn { (S.aJ e).bS (2*item+loc)with bH:=M } hrok
 generalize S.bT e ((S.aJ e).dG (2*item+loc) { (S.aJ e).bS (2*item+loc)with bH:=M })=S1 at *
 clear hpo hrok;generalize (S.aJ e).bS (2*item+loc)=P at *
 obtain⟨L,p0,p1,p2⟩:=P;dsimp only at *
 generalize qs L=tq at *;generalize vs L=tv at *;generalize ps L=tp at *;obtain⟨E1,rfl⟩:=hkn.ex;have z0:Kn S S:=.refl h
 have x1:=hkn.ix x;have Cu:=eG hkn.ok x1 (r:=[0,0,c,0,0,0,0,0,0,0,0]) rfl
 obtain⟨k2,g2,z2⟩:=fJ hkn.ok x1 (r:=[0,0,c,0,0,0,0,0,0,0,0]) rfl
 generalize eO (S.aZ E1) e item [0,0,c,0,0,0,0,0,0,0,0]=T at *
 obtain⟨S2,g⟩:=T;dsimp only at *
 have K2:=hkn.trans k2;obtain⟨E2,rfl⟩:=K2.ex;by_cases hm4:S.cG e item=4
 ·rw[if_pos hm4]
  refine⟨?_,z0,⟨Int.le_refl _,hv.1⟩,⟨by simp,by simp⟩⟩
  rcases(by omega:rq-rb≤tq∨tq<rq-rb)with hk|hk
  ·rw[Int.min_eq_left hk]at Cc
   exact cw (fU Qq [KaL,KaO,VX,Kcu] Kct Hu KC) (ev3 H [(S.cG e item),rq,rb,tq,v,c] [.I rv,.I ro,.I ra,.I tv,.I tp,.I p0,.I p1,.I p2] [aA ms,aG L] (.d (aS W.rJ) (.d (aI W.hm) .nil))) ZS GN (kc Ca (kc Ct (kc Cc kn)))
  ·rw[Int.min_eq_right (by omega)]at Cc
   exact cw (fU Qq [KaL,KaO,VB,Kcu] Kct Hu KH) (ev3 H [(S.cG e item),rq,rb,tq,v,c] [.I rv,.I ro,.I ra,.I tv,.I tp,.I p0,.I p1,.I p2] [aA ms,aG L] (.d (aS W.rJ) (.d (aI W.hm) .nil))) ZS GN (kc Ca (kc Ct (kc Cc kn)))
 rw[if_neg hm4];have Cr:=hraise hm4;by_cases hc0:c=0
 ·rw[if_pos hc0]
  refine⟨?_,z0,⟨Int.le_refl _,hv.1⟩,⟨by simp,by simp⟩⟩
  rcases(by omega:rq-rb≤tq∨tq<rq-rb)with hk|hk
  ·rw[Int.min_eq_left hk]at Cc
   exact cw (fU Qq [KaL,KaO,VX,Kcv,([([19],1)],0,0)] Kct Hu KC) (ev3 H [(S.cG e item),rq,rb,tq,v,c] [.I rv,.I ro,.I ra,.I tv,.I tp,.I p0,.I p1,.I p2] [aA ms,aG L] (.d (aS W.rJ) (.d (aI W.hm) .nil))) ZS GN (kc Ca (kc Ct (kc Cc kn)))
  ·rw[Int.min_eq_right (by omega)]at Cc
   exact cw (fU Qq [KaL,KaO,VB,Kcv,([([19],1)],0,0)] Kct Hu KH) (ev3 H [(S.cG e item),rq,rb,tq,v,c] [.I rv,.I ro,.I ra,.I tv,.I tp,.I p0,.I p1,.I p2] [aA ms,aG L] (.d (aS W.rJ) (.d (aI W.hm) .nil))) ZS GN (kc Ca (kc Ct (kc Cc kn)))
 rw[if_neg hc0];by_cases hf:f=0
 rotate_left
 ·rw[if_pos hf]
  refine⟨?_,z0,⟨Int.le_refl _,hv.1⟩,hrerr⟩
  have H:=H.er (f:=f) (by have:=hrerr;unfold fF at this;omega)
  rcases(by omega:rq-rb≤tq∨tq<rq-rb)with hk|hk
  ·rw[Int.min_eq_left hk]at Cc
   exact cw (fU Qq KQ Kct Hu [Ub,U6,VY,QQ]) (ev3 H [(S.cG e item),rq,rb,tq,v,c] [.I rv,.I ro,.I ra,.I tv,.I tp,.I p0,.I p1,.I p2] [aA ms,aG L,aG M] (.d (aS W.rJ) (.d (aI W.hm) .nil))) ZS GF (kc Ca (kc Ct (kc Cc (kc Cr kn))))
  ·rw[Int.min_eq_right (by omega)]at Cc
   exact cw (fU Qq KP Kct Hu [Ub,U6,Bp,QQ]) (ev3 H [(S.cG e item),rq,rb,tq,v,c] [.I rv,.I ro,.I ra,.I tv,.I tp,.I p0,.I p1,.I p2] [aA ms,aG L,aG M] (.d (aS W.rJ) (.d (aI W.hm) .nil))) ZS GF (kc Ca (kc Ct (kc Cc (kc Cr kn))))
 subst hf;rw[if_neg (by simp)]
 have Cp:=hput;refine⟨?_,K2,cb,g2⟩
 by_cases hg:g=0
 ·subst hg
  rcases(by omega:rq-rb≤tq∨tq<rq-rb)with hk|hk
  ·rw[Int.min_eq_left hk]at Cc
   exact cw (fU Qq KQ Kct Hu [Ub,U6,VY,QV,QR,Je]) (ev3 H [(S.cG e item),rq,rb,tq,v,c] [.I rv,.I ro,.I ra,.I tv,.I tp,.I p0,.I p1,.I p2] [aA ms,aG L,aG M,aN E1,aN E2] (.d (aS W.rJ) (.d (aI W.hm) .nil))) ZS Gl (kc Ca (kc Ct (kc Cc (kc Cr (kc Cp (kc Cu kn))))))
  ·rw[Int.min_eq_right (by omega)]at Cc
   exact cw (fU Qq KP Kct Hu [Ub,U6,Bp,QV,QR,Je]) (ev3 H [(S.cG e item),rq,rb,tq,v,c] [.I rv,.I ro,.I ra,.I tv,.I tp,.I p0,.I p1,.I p2] [aA ms,aG L,aG M,aN E1,aN E2] (.d (aS W.rJ) (.d (aI W.hm) .nil))) ZS Gl (kc Ca (kc Ct (kc Cc (kc Cr (kc Cp (kc Cu kn))))))
 ·have H:=H.er (f:=g) (by have:=g2;unfold fF at this;omega)
  obtain⟨f,rfl⟩:∃f,f=g:=⟨_,rfl⟩
  rcases(by omega:rq-rb≤tq∨tq<rq-rb)with hk|hk
  ·rw[Int.min_eq_left hk]at Cc
   exact cw (fU Qq KQ Kct Hu [Ub,U6,VY,QV,QR,Jd]) (ev3 H [(S.cG e item),rq,rb,tq,v,c] [.I rv,.I ro,.I ra,.I tv,.I tp,.I p0,.I p1,.I p2] [aA ms,aG L,aG M,aN E1,aN E2] (.d (aS W.rJ) (.d (aI W.hm) .nil))) ZS Gc (kc Ca (kc Ct (kc Cc (kc Cr (kc Cp (kc Cu kn))))))
  ·rw[Int.min_eq_right (by omega)]at Cc
   exact cw (fU Qq KP Kct Hu [Ub,U6,Bp,QV,QR,Jd]) (ev3 H [(S.cG e item),rq,rb,tq,v,c] [.I rv,.I ro,.I ra,.I tv,.I tp,.I p0,.I p1,.I p2] [aA ms,aG L,aG M,aN E1,aN E2] (.d (aS W.rJ) (.d (aI W.hm) .nil))) ZS Gc (kc Ca (kc Ct (kc Cc (kc Cr (kc Cp (kc Cu kn))))))
end
end
section
open Mc
set_option maxRecDepth 1000000
def cJ (S:bL) (basis k:Int):Int :=
 if k<0 then 0 else match S.aH[k.toNat]? with
 |none=>0
 |some g=>if basis=0 then g.eT else if basis=1 then g.value else if basis=2 then g.eT*S.weights.getD g.item.toNat 0 else 0
namespace WT
abbrev wF (r b l i:AV):List AV:=fr 66 [(1,r),(2,b),(3,.ptr 10 0 0 0),(7,l),(8,i)]
abbrev wB (S:bL) (l:List (List AV)):List Mc.bX:=[.cells 31 10 [[.i S.aB,.i S.aD,.lit 1 (aA S.weights),.lit 1 (aO S.methods),.lit 1 (aO S.cP),.lit 8 (aN S.bG),.lit 8 (gH S.aH),.lit 9 (cR S.aM),.lit 6 (gG S.bK),.i S.done]],.cells 3 1 l]
noncomputable def body:Code:=(Tryz.f28).body.getD .skip
abbrev aiD (c:Code) (r:Option (RT Out)):Prop:=CG { vars:=[(1,60)],lens:=[(7,[([0],1)])] } c (D4++List.replicate 63 .undef) [] [some 0,none] (wF (.q 1 7) (.o 3) (.own 3 1 1 0 0) (.i 0)) [ZG,(.cells 3 1 [])] r
noncomputable def vZ:Option (RT Out):=Tz { vars:=[(1,60)],lens:=[(7,[([0],1)])] } body (D4++List.replicate 63 .undef:List AV).length (D4++List.replicate 63 .undef) [] 0
theorem ale:aiD body vZ:=⟨rfl,by decide +kernel,by decide +kernel⟩
abbrev aiB (c:Code):Prop:=gN { vars:=KaH,facts:=Uj,lens:=HV,hH:=ZT } c (wF (.q 1 7) (.i 0) Kbw (.v 1)) J3 0 [some 0,some 4] (wF (.q 1 7) (.i 0) Kac KbH) [ZG,(.sc 3 1 8 [] [[.o 6]] Kcp)]
theorem alc:aiB (bE vZ):=⟨_,rfl,by decide +kernel,by decide +kernel⟩
abbrev aiA (c:Code):Prop:=gN { vars:=KaH,facts:=Uj,lens:=HV,hH:=ZT } c (wF (.q 1 7) (.i 1) Kbw (.v 1)) J3 0 [some 0,some 4] (wF (.q 1 7) (.i 1) Kac KbH) [ZG,(.sc 3 1 8 [] [[.o 7]] Kcp)]
theorem alb:aiA (bE vZ):=⟨_,rfl,by decide +kernel,by decide +kernel⟩
abbrev aiz (c:Code):Prop:=gN { vars:=[(1,60),(0,59),(0,40),Me,(0,5),(0,4),(0,1073741824),(0,1073741824)],facts:=QL,lens:=[(7,[([0],1)]),(8,[([1],1)]),(4,[([2],1)]),(1,[([4],1)])],hH:=[Kb6,(1,[([5],1)],[.v 7]),Vw] } c (wF (.q 1 7) (.i 2) Kbw (.v 1)) J3 0 [some 0,some 4] (wF (.q 1 7) (.i 2) Kac KbH) [ZG,(.sc 3 1 8 [] [[(.e [([6,7],1)])]] Kcp)]
theorem ala:aiz (bE vZ):=⟨_,rfl,by decide +kernel,by decide +kernel⟩
abbrev aee (c:Code):Prop:=gN { vars:=[(1,60),(0,59),(0,40),Me,(-9223372036854775808,-1)],facts:=Uj,lens:=HV,hH:=ZT } c (wF (.q 1 7) (.v 4) Kbw (.v 1)) J3 0 [some 0,some 4] (wF (.q 1 7) (.v 4) Kac KbH) Jx
theorem ajr:aee (bE vZ):=⟨_,rfl,by decide +kernel,by decide +kernel⟩
abbrev aef (c:Code):Prop:=gN { vars:=[(1,60),(0,59),(0,40),Me,(3,9223372036854775807)],facts:=Uj,lens:=HV,hH:=ZT } c (wF (.q 1 7) (.v 4) Kbw (.v 1)) J3 0 [some 0,some 4] (wF (.q 1 7) (.v 4) Kac KbH) Jx
theorem ajs:aef (bE vZ):=⟨_,rfl,by decide +kernel,by decide +kernel⟩
abbrev aaU (c:Code):Prop:=gN { vars:=KaH,facts:=U7,lens:=HV,hH:=KbF } c (wF (.q 1 7) (.o 3) Kbw (.v 1)) J3 0 [some 0,some 3] (wF (.q 1 7) (.o 3) Kac KbH) Jx
theorem agx:aaU (bE vZ):=⟨_,rfl,by decide +kernel,by decide +kernel⟩
abbrev aaV (c:Code):Prop:=gN { vars:=KaH,facts:=Qn,lens:=HV,hH:=KbF } c (wF (.q 1 7) (.o 3) Kbw (.v 1)) J3 0 [some 0,some 3] (wF (.q 1 7) (.o 3) Kac KbH) Jx
theorem agy:aaV (bE vZ):=⟨_,rfl,by decide +kernel,by decide +kernel⟩
abbrev aiC (c:Code):Prop:=gN { vars:=[(1,60)],lens:=Kao } c (wF (.q 1 7) (.o 3) Kbx (.v 0)) J4 2 [some 0,some 1] (wF (.q 1 7) (.o 3) Kbx (.v 0)) J4
theorem ald:aiC (bE vZ):=⟨_,rfl,by decide +kernel,by decide +kernel⟩
abbrev aeg (o:Option (RT Out)):Prop:=mI { vars:=[(1,60)],lens:=Kao } Tryz.f28 o 0 (wF (.q 1 7) (.o 3) Kbx (.v 0)) J4 ((.q 1 8))
theorem ajt:aeg vZ:=⟨_,rfl,by decide +kernel,by decide +kernel,by kernel_rfl⟩
theorem walk (oA:Option (RT Out)) (rA:aiD body oA) (rq:aiB (bE oA)) (rv:aiA (bE oA)) (rw':aiz (bE oA)) (rlo:aee (bE oA)) (rhi:aef (bE oA)) (rneg:aaU (bE oA)) (rbig:aaV (bE oA)) (rX:aiC (bE oA)) (rR:aeg oA)
  {S:bL} {refs:List Int} {basis:Int} (h1:1≤refs.length) (h60:refs.length≤60) (hI:eH refs) (hb:jY basis) (PF:S.aH.length≤40) (hwl:S.weights.length≤5) (hg:∀g∈S.aH,(0≤g.item∧g.item<S.weights.length)∧0≤g.eT∧g.eT≤1073741824) (hw:∀v∈S.weights,0≤v∧v≤1073741824) :
  Ck 28 [S.av,.lit 1 (aA refs),.i basis] (.lit 1 (aA (refs.map (cJ S basis)))):=by
 refine CK.gY Tryz.func28 (c:=body) (by kernel_rfl) (Fh.out) (yC.out) fun A w0 a0=>?_
 intro mm w a pr;rw[Tryz.ntmps28]at pr;refine rA.go (ev1 _ [(refs.length:Int)] [.I S.aB,.I S.aD,.I S.done,.I basis] (sT S [aA refs]) .nil) (xK kn) pr (fd:=wF (.lit 1 (aA refs)) (.i basis) (.own 3 1 1 0 0) (.i 0)) (bd:=wB S []) ?_
 intro mm w a pr;refine fQ (fun n a w=>∃(j:Nat) (l:List Int),n=refs.length-j∧j≤refs.length∧l=(refs.take j).map (cJ S basis)∧∃mm,@gZ dI dN A w0 a0 mm w a (wF (.lit 1 (aA refs)) (.i basis) (.own 3 1 1 0 j) (.i (j:Int))) (eS (wB S (aA l)))) ?_ (n:=refs.length) ⟨0,[],rfl,Nat.zero_le _,rfl,_,pr⟩
 rintro n a w ⟨j,l,rfl,hj,hl,mm,pr⟩
 have hll:l.length=j:=by rw[hl];simp;omega
 rcases(by omega:j=refs.length∨j<refs.length)with rfl|hlt
 ·rw[List.take_length]at hl
  rw[←hl];refine rX.go (ev1 _ [(refs.length:Int)] [.I S.aB,.I S.aD,.I S.done,.I basis] (sT S [aA refs,aA l]) .nil) (xK kn) pr ?_
  intro mm w a pr;exact rR.go (ev1 _ [(refs.length:Int)] [.I S.aB,.I S.aD,.I S.done,.I basis] (sT S [aA refs,aA l]) .nil) (xK kn) pr
 ·obtain⟨k,hk0⟩:∃k,refs[j]?=some k:=⟨_,List.getElem?_eq_getElem hlt⟩
  have hk:refs[(j:Int).toNat]?=some k:=by simpa using hk0
  have hki:=hI k (List.mem_of_getElem? hk0)
  have:=hki.lo;have:=hki.hi;have:=hb.lo;have:=hb.hi
  have fin:∀v,v=cJ S basis k→∀mm w a,@gZ dI dN A w0 a0 mm w a (wF (.lit 1 (aA refs)) (.i basis) (.own 3 1 1 0 (1+(j:Int)).toNat) (.i (1+(j:Int)))) (eS (wB S (aA l++[[.i v]])))→∃n',n'<refs.length-j∧∃(j':Nat) (l':List Int),n'=refs.length-j'∧j'≤refs.length∧l'=(refs.take j').map (cJ S basis)∧∃mm,@gZ dI dN A w0 a0 mm w a (wF (.lit 1 (aA refs)) (.i basis) (.own 3 1 1 0 j') (.i (j':Int))) (eS (wB S (aA l'))):=by
   rintro v rfl mm w a pr
   rw[show(1+(j:Int))=((j+1:Nat):Int)by omega,Int.toNat_natCast,show aA l++[[.i (cJ S basis k)]]=aA (l++[cJ S basis k])by simp[aA]]at pr
   exact⟨_,by omega,j+1,_,rfl,by omega,by rw[List.take_add_one,hk0,hl];simp,mm,pr⟩
  by_cases hneg:k<0
  ·refine rneg.go (ev1 _ [(refs.length:Int),(j:Int),(S.aH.length:Int),k] [.I S.aB,.I S.aD,.I S.done,.I basis] (sT S [aA refs,aA l]) (.d (aI hk) .nil)) (xK kn) pr (fd:=wF (.lit 1 (aA refs)) (.i basis) (.own 3 1 1 0 (1+(j:Int)).toNat) (.i (1+(j:Int)))) (bd:=wB S (aA l++[[.i 0]])) ?_
   exact fun mm w a pr=>fin 0 (by unfold cJ;rw[if_pos hneg]) mm w a pr
  cases hg0:S.aH[k.toNat]? with
  |none =>
   have:=List.getElem?_eq_none_iff.1 hg0
   refine rbig.go (ev1 _ [(refs.length:Int),(j:Int),(S.aH.length:Int),k] [.I S.aB,.I S.aD,.I S.done,.I basis] (sT S [aA refs,aA l]) (.d (aI hk) .nil)) (xK kn) pr (fd:=wF (.lit 1 (aA refs)) (.i basis) (.own 3 1 1 0 (1+(j:Int)).toNat) (.i (1+(j:Int)))) (bd:=wB S (aA l++[[.i 0]])) ?_
   exact fun mm w a pr=>fin 0 (by unfold cJ;rw[if_neg hneg,hg0]) mm w a pr
  |some g =>
   have hlt2:=(List.getElem?_eq_some_iff.1 hg0).1
   have hgm:=hg g (List.mem_of_getElem? hg0)
   have hg':=hg;have hg:S.aH[k.toNat]?=some ⟨g.aU,g.item,g.loc,g.eT,g.value,g.rC,g.bZ,g.back⟩:=hg0
   have hW:cJ S basis k=if basis=0 then g.eT else if basis=1 then g.value else if basis=2 then g.eT*S.weights.getD g.item.toNat 0 else 0:=by unfold cJ;rw[if_neg hneg,hg0]
   rcases(by omega:basis=0∨basis=1∨basis=2∨basis<0∨2<basis)with hbs|hbs|hbs|hbs|hbs
   ·subst hbs
    refine rq.go (ev1 _ [(refs.length:Int),(j:Int),(S.aH.length:Int),k] [.I S.aB,.I S.aD,.I S.done,.I g.aU,.I g.item,.I g.loc,.I g.eT,.I g.value,.I g.rC,.I g.bZ,.I g.back] (sT S [aA refs,aA l]) (.d (aI hk) (.d (aC hg) .nil))) (xK kn) pr (fd:=wF (.lit 1 (aA refs)) (.i 0) (.own 3 1 1 0 (1+(j:Int)).toNat) (.i (1+(j:Int)))) (bd:=wB S (aA l++[[.i g.eT]])) ?_
    exact fun mm w a pr=>fin _ (by rw[hW];rfl) mm w a pr
   ·subst hbs
    refine rv.go (ev1 _ [(refs.length:Int),(j:Int),(S.aH.length:Int),k] [.I S.aB,.I S.aD,.I S.done,.I g.aU,.I g.item,.I g.loc,.I g.eT,.I g.value,.I g.rC,.I g.bZ,.I g.back] (sT S [aA refs,aA l]) (.d (aI hk) (.d (aC hg) .nil))) (xK kn) pr (fd:=wF (.lit 1 (aA refs)) (.i 1) (.own 3 1 1 0 (1+(j:Int)).toNat) (.i (1+(j:Int)))) (bd:=wB S (aA l++[[.i g.value]])) ?_
    exact fun mm w a pr=>fin _ (by rw[hW];rfl) mm w a pr
   ·subst hbs
    obtain⟨x,hxe⟩:∃x,x=S.weights.getD g.item.toNat 0:=⟨_,rfl⟩
    have hx:S.weights[g.item.toNat]?=some x:=by rw[hxe];exact getD_some (by omega)
    have hxb:=hw x (List.mem_of_getElem? hx)
    rw[←hxe]at hW;refine rw'.go (ev1 _ [(refs.length:Int),(j:Int),(S.aH.length:Int),k,(S.weights.length:Int),g.item,g.eT,x] [.I S.aB,.I S.aD,.I S.done,.I g.aU,.I g.item,.I g.loc,.I g.eT,.I g.value,.I g.rC,.I g.bZ,.I g.back] (sT S [aA refs,aA l]) (.d (aI hk) (.d (aI hx) (.d (aC hg) .nil)))) (xK kn) pr (fd:=wF (.lit 1 (aA refs)) (.i 2) (.own 3 1 1 0 (1+(j:Int)).toNat) (.i (1+(j:Int)))) (bd:=wB S (aA l++[[.i (1*(g.eT*(x*1)))]])) ?_
    exact fun mm w a pr=>fin _ (by rw[hW,Int.one_mul,Int.mul_one];rfl) mm w a pr
   ·refine rlo.go (ev1 _ [(refs.length:Int),(j:Int),(S.aH.length:Int),k,basis] [.I S.aB,.I S.aD,.I S.done,.I g.aU,.I g.item,.I g.loc,.I g.eT,.I g.value,.I g.rC,.I g.bZ,.I g.back] (sT S [aA refs,aA l]) (.d (aI hk) (.d (aC hg) .nil))) (xK kn) pr (fd:=wF (.lit 1 (aA refs)) (.i basis) (.own 3 1 1 0 (1+(j:Int)).toNat) (.i (1+(j:Int)))) (bd:=wB S (aA l++[[.i 0]])) ?_
    exact fun mm w a pr=>fin _ (by rw[hW,if_neg (by omega),if_neg (by omega),if_neg (by omega)]) mm w a pr
   ·refine rhi.go (ev1 _ [(refs.length:Int),(j:Int),(S.aH.length:Int),k,basis] [.I S.aB,.I S.aD,.I S.done,.I g.aU,.I g.item,.I g.loc,.I g.eT,.I g.value,.I g.rC,.I g.bZ,.I g.back] (sT S [aA refs,aA l]) (.d (aI hk) (.d (aC hg) .nil))) (xK kn) pr (fd:=wF (.lit 1 (aA refs)) (.i basis) (.own 3 1 1 0 (1+(j:Int)).toNat) (.i (1+(j:Int)))) (bd:=wB S (aA l++[[.i 0]])) ?_
    exact fun mm w a pr=>fin _ (by rw[hW,if_neg (by omega),if_neg (by omega),if_neg (by omega)]) mm w a pr
end WT
theorem yT {S:bL} (G:Gn S) (hw:∀v∈S.weights,0≤v∧v≤1073741824) {refs:List Int} {basis:Int} (h60:refs.length≤60) (hI:eH refs) (hb:jY basis) :
  Ck 28 [S.av,.lit 1 (aA refs),.i basis] (.lit 1 (aA (refs.map (cJ S basis)))):=by
 by_cases h0:refs.length=0
 ·have:=List.length_eq_zero_iff.1 h0
  subst this;exact cw _ (ev1 {  } [] [.I S.aB,.I S.aD,.I S.done,.I basis] (sT S []) .nil) [Kb1,(.lit 1 []),.o 3] (.lit 1 []) kn
 ·refine WT.walk WT.vZ WT.ale WT.alc WT.alb WT.ala WT.ajr WT.ajs WT.agx WT.agy WT.ald WT.ajt (by omega) h60 hI hb G.IM G.hw ?_ hw
  intro g hg;obtain⟨b1,b2,b3,b4,b5⟩:=G.FM g hg;exact⟨b2,by omega,b4.2⟩
end
section
def uZ (rest:List Int) (x:Nat):Int:=-(rest.getD x 0)
def iZ (v:Int):Bool:=decide (v<0)||decide (288230376151711744<v)
def yL (v:Int):Bool:=decide (v≠0)
def pM (t:Int) (ws:List Int):Bool:=iZ t||ws.any iZ||!(ws.any yL)
def gQ (t s:Int) (ws:List Int):List Int:=ws.map fun x=>t*x/s
def gU (t s:Int) (ws:List Int):List Int:=ws.map fun x=>t*x%s
def mJ (l:List Int) (ps:List Nat):List Int:=ps.foldl (fun l i=>l.set i (l.getD i 0+1)) l
theorem ac4 (l:List Int) (ps:List Nat) (i:Nat):mJ l (ps++[i])=(mJ l ps).set i ((mJ l ps).getD i 0+1):=by simp[mJ,List.foldl_append]
theorem LN (l:List Int) (ps:List Nat):(mJ l ps).length=l.length:=by
 induction ps generalizing l with
 |nil=>rfl
 |cons i ps ih=>simp only[mJ,List.foldl_cons]at ih ⊢;rw[ih];simp
theorem T6 {t s x:Int} (ht:0≤t) (hs:0<s) (hx:0≤x) (hxs:x≤s):0≤t*x/s∧t*x/s≤t∧0≤t*x%s∧t*x%s<s:=by
 refine⟨Int.ediv_nonneg (Int.mul_nonneg ht hx) (by omega),?_,Int.emod_nonneg _ (by omega),Int.emod_lt_of_pos _ hs⟩
 apply Int.ediv_le_of_le_mul hs
 exact Int.mul_le_mul_of_nonneg_left hxs ht
theorem aaQ {t s:Int} (ht:0≤t) (hs:0<s):∀(ws:List Int),(∀x,x∈ws→0≤x)→0≤(gQ t s ws).sum∧(gQ t s ws).sum*s≤t*ws.sum
 |[],_=>by simp[gQ]
 |x::ws,h=>by
  have ih:=aaQ ht hs ws fun y hy=>h y (by simp[hy])
  have hx:=h x (by simp)
  have h1:0≤t*x/s:=Int.ediv_nonneg (Int.mul_nonneg ht hx) (by omega)
  have h2:t*x/s*s≤t*x:=Int.ediv_mul_le _ (by omega)
  simp only[gQ,List.map_cons,List.sum_cons]at ih ⊢;rw[Int.add_mul,Int.mul_add];omega
theorem N0:∀(l:List Int) (x:Int),(∀y,y∈l→0≤y)→x∈l→x≤l.sum∧0≤l.sum
 |[],x,_,hx=>by simp at hx
 |y::l,x,h,hx=>by
  have hy:=h y (by simp)
  have h0:0≤l.sum:=by
   clear hx;induction l with
   |nil=>simp
   |cons z l ih =>
    rw[List.sum_cons];have:=ih fun u hu=>h u (by simp at hu ⊢;rcases hu with rfl|hu<;>simp[*])
    have:=h z (by simp)
    omega
  rw[List.sum_cons];rcases List.mem_cons.1 hx with rfl|hx
  ·omega
  ·have:=N0 l x (fun u hu=>h u (by simp[hu])) hx
   omega
structure oC (t:Int) (ws:List Int) (s:Int):Prop where
 t0:0≤t
 t1:t≤288230376151711744
 s0:1≤s
 s1:s≤288230376151711744
 all:∀x,x∈ws→0≤x∧x≤s
 sum:ws.sum=s
theorem oC.of {t:Int} {ws:List Int} (h:pM t ws=false) (he:eI ws=0):oC t ws (dU ws):=by
 simp only[pM,Bool.or_eq_false_iff,Bool.not_eq_false']at h;obtain⟨⟨h1,h2⟩,h3⟩:=h
 simp[iZ]at h1
 have hall:∀x,x∈ws→0≤x:=fun x hx=>by
  have:=List.any_eq_false.1 h2 x hx
  simp[iZ]at this
  omega
 obtain⟨s,hs⟩:∃s,bY 0 ws=some s:=by
  unfold eI at he;cases hg:bY 0 ws with
  |none=>rw[hg]at he;simp at he
  |some s=>exact⟨s,rfl⟩
 have hV:dU ws=s:=by simp[dU,hs]
 have hsum:=xI ws 0 s hs;have hin:=eP.1 (PS ws 0 s (by decide +kernel) hs)
 obtain⟨x,hx,hx0⟩:=List.any_eq_true.1 h3;simp[yL]at hx0
 have h4:=N0 ws x hall hx;have h5:=hall x hx;rw[hV];exact⟨by omega,by omega,by omega,by omega,fun y hy=>⟨hall y hy,by have:=N0 ws y hall hy;omega⟩,by omega⟩
theorem oC.left {t s:Int} {ws:List Int} (h:oC t ws s) (j:Nat):0≤(gQ t s (ws.take j)).sum∧(gQ t s (ws.take j)).sum≤t:=by
 have a:=aaQ h.t0 (show 0<s by have:=h.s0;omega) (ws.take j) fun x hx=>(h.all x (List.mem_of_mem_take hx)).1
 refine⟨a.1,?_⟩
 have hle:(ws.take j).sum≤s:=by
  have e:(ws.take j).sum+(ws.drop j).sum=s:=by rw[←List.sum_append,List.take_append_drop,h.sum]
  have:∀l:List Int,(∀y,y∈l→0≤y)→0≤l.sum:=by
   intro l;induction l with
   |nil=>simp
   |cons z l ih=>intro hl;rw[List.sum_cons];have:=ih fun u hu=>hl u (by simp[hu]);have:=hl z (by simp);omega
  have:=this (ws.drop j) fun y hy=>(h.all y (List.mem_of_mem_drop hy)).1
  omega
 have h2:t*(ws.take j).sum≤t*s:=Int.mul_le_mul_of_nonneg_left hle h.t0
 have h3:(gQ t s (ws.take j)).sum*s≤t*s:=by omega
 exact Int.le_of_mul_le_mul_right h3 (by have:=h.s0;omega)
theorem oC.md {t s x:Int} {ws:List Int} (h:oC t ws s) (hx:x∈ws):zY t x s=t*x/s∧PE t x s=t*x%s:=by
 have hb:=h.all x hx;have q:=T6 h.t0 (show 0<s by have:=h.s0;omega) hb.1 hb.2
 have:=h.t0;have:=h.t1;have:=h.s0
 simp only[zY,PE];rw[if_neg (by omega),if_neg (by omega),if_neg (by omega),if_neg (by omega)]
 exact⟨rfl,rfl⟩
theorem aci (t s:Int) {ws:List Int} {j:Nat} (hj:j<ws.length):gQ t s (ws.take (j+1))=gQ t s (ws.take j)++[t*ws.getD j 0/s]:=by
 rw[CT hj];simp[gQ]
theorem ace (t s:Int) {ws:List Int} {j:Nat} (hj:j<ws.length):gU t s (ws.take (j+1))=gU t s (ws.take j)++[t*ws.getD j 0%s]:=by
 rw[CT hj];simp[gU]
theorem Sp (l:List Int) (i j:Nat) (v:Int) (hi:i<l.length):(l.set i v).getD j 0=if i=j then v else l.getD j 0:=by
 rw[List.getD_eq_getElem?_getD,List.getD_eq_getElem?_getD,List.getElem?_set];by_cases h:i=j
 ·subst h;simp[hi]
 ·simp[h]
theorem LO:∀(ps:List Nat) (l:List Int) (i:Nat),(∀p,p∈ps→p<l.length)→(mJ l ps).getD i 0=l.getD i 0+(ps.count i:Int)
 |[],l,i,h=>by simp[mJ]
 |p::ps,l,i,h=>by
  have hp:=h p (by simp)
  have ih:=LO ps (l.set p (l.getD p 0+1)) i (fun q hq=>by rw[List.length_set];exact h q (by simp[hq]))
  have e:mJ l (p::ps)=mJ (l.set p (l.getD p 0+1)) ps:=rfl
  rw[e,ih,Sp _ _ _ _ hp,List.count_cons];by_cases hpi:p=i
  ·subst hpi;simp;omega
  ·simp[hpi]
theorem agW (l:List Int):∀(i:Nat) (v:Int),i<l.length→(l.set i v).sum=l.sum-l.getD i 0+v:=by
 induction l with
 |nil=>intro i v h;simp at h
 |cons x l ih =>
  intro i v h;cases i with
  |zero=>simp;omega
  |succ i =>
   have:=ih i v (by simpa using h)
   simp only[List.set_cons_succ,List.sum_cons,this];simp
   omega
theorem SW:∀(ps:List Nat) (l:List Int),(∀p,p∈ps→p<l.length)→(mJ l ps).sum=l.sum+(ps.length:Int)
 |[],l,h=>by simp[mJ]
 |p::ps,l,h=>by
  have hp:=h p (by simp)
  have ih:=SW ps (l.set p (l.getD p 0+1)) (fun q hq=>by rw[List.length_set];exact h q (by simp[hq]))
  have e:mJ l (p::ps)=mJ (l.set p (l.getD p 0+1)) ps:=rfl
  rw[e,ih,agW _ _ _ hp,List.length_cons];omega
theorem aaR (t s:Int):∀(ws:List Int),t*ws.sum=(gQ t s ws).sum*s+(gU t s ws).sum
 |[]=>by simp[gQ,gU]
 |x::ws=>by
  have ih:=aaR t s ws;have h:=Int.mul_ediv_add_emod (t*x) s
  simp only[gQ,gU,List.map_cons,List.sum_cons]at ih ⊢;rw[Int.mul_add,Int.add_mul,ih];have e:s*(t*x/s)=t*x/s*s:=Int.mul_comm _ _
  omega
theorem uO {n:Nat} {key:Nat→Int} {m:List Nat} (h:pO key (List.range n) m):m.Nodup∧∀i,i∈m↔i<n:=by
 refine⟨?_,fun i=>(pO.mem h).trans List.mem_range⟩
 rw[List.nodup_iff_count];intro a;have hk:=h (key a)
 have c1:m.count a=(m.filter fun x=>key x==key a).count a:=by rw[List.count_filter];simp
 have c2:(List.range n).count a=((List.range n).filter fun x=>key x==key a).count a:=by rw[List.count_filter];simp
 rw[c1,hk,←c2];exact List.nodup_iff_count.1 List.nodup_range a
theorem A6 {n:Nat} {key:Nat→Int} {m:List Nat} (hr:iI key m) (hs:pO key (List.range n) m) {L i k:Nat} (hi:i∈m.take L) (hk:k<n) (h:key k<key i∨(key k=key i∧k<i)):k∈m.take L:=by
 have hm:m=m.take L++m.drop L:=(List.take_append_drop L m).symm
 have hkm:k∈m:=((uO hs).2 k).2 hk
 rw[hm]at hkm;rcases List.mem_append.1 hkm with h1|h1
 ·exact h1
 ·exfalso
  rw[hm]at hr;have hle:=(iI.app.1 hr).2.2 i hi k h1
  have he:key k=key i∧k<i:=by
   rcases h with h|h
   ·omega
   ·exact h
  have hf:=hs (key i)
  rw[hm,List.filter_append]at hf;have hp:((List.range n).filter fun x=>key x==key i).Pairwise (·<·):=(List.pairwise_lt_range (n:=n)).filter _
  rw[←hf]at hp;have:=(List.pairwise_append.1 hp).2.2 i (List.mem_filter.2 ⟨hi,by simp⟩) k (List.mem_filter.2 ⟨h1,by simp[he.1]⟩)
  omega
def sD (t s:Int) (ws:List Int):Nat:=(min (t-(gQ t s ws).sum) ws.length).toNat
theorem adZ (t s:Int) (hs:0<s):∀(ws:List Int),0≤(gU t s ws).sum∧(gU t s ws).sum≤(s-1)*ws.length
 |[]=>by simp[gU]
 |x::ws=>by
  have ih:=adZ t s hs ws;have h1:=Int.emod_nonneg (t*x) (show s≠0 by omega)
  have h2:=Int.emod_lt_of_pos (t*x) hs
  simp only[gU,List.map_cons,List.sum_cons,List.length_cons]at ih ⊢;have e:(s-1)*((ws.length+1:Nat):Int)=(s-1)*(ws.length:Int)+(s-1):=by rw[Int.natCast_add,Int.mul_add];simp
  omega
theorem aa8 {t s:Int} {ws:List Int} (h:oC t ws s):(sD t s ws:Int)=t-(gQ t s ws).sum∧sD t s ws≤ws.length∧(sD t s ws:Int)*s=(gU t s ws).sum:=by
 have hs:0<s:=by have:=h.s0;omega
 have a:=h.left ws.length;rw[List.take_length]at a;have b:=aaR t s ws;rw[h.sum]at b;have c:=adZ t s hs ws;have e:(t-(gQ t s ws).sum)*s=(gU t s ws).sum:=by rw[Int.sub_mul];omega
 have d:t-(gQ t s ws).sum≤ws.length:=by
  rcases Int.lt_or_le (ws.length:Int) (t-(gQ t s ws).sum)with h1|h1
  ·exfalso
   have h2:(ws.length:Int)*s≤(t-(gQ t s ws).sum)*s:=Int.mul_le_mul_of_nonneg_right (by omega) (by omega)
   have h3:((ws.length:Int)+1)*s≤(t-(gQ t s ws).sum)*s:=Int.mul_le_mul_of_nonneg_right (by omega) (by omega)
   have h4:(s-1)*(ws.length:Int)=(ws.length:Int)*s-(ws.length:Int):=by rw[Int.sub_mul,Int.mul_comm];omega
   rw[Int.add_mul]at h3;omega
  ·exact h1
 have f:(sD t s ws:Int)=t-(gQ t s ws).sum:=by unfold sD;omega
 exact⟨f,by omega,by rw[f];exact e⟩
theorem Rm {t s:Int} {ws:List Int} {i:Nat} (hi:i<ws.length):(gQ t s ws).getD i 0=t*ws.getD i 0/s:=by
 simp[gQ,List.getD_eq_getElem?_getD,hi]
theorem Rg {t s:Int} {ws:List Int} {i:Nat} (hi:i<ws.length):(gU t s ws).getD i 0=t*ws.getD i 0%s:=by
 simp[gU,List.getD_eq_getElem?_getD,hi]
theorem wH (t s:Int) (ws:List Int):(gQ t s ws).length=ws.length:=by simp[gQ]
theorem IK (t s:Int) (ws:List Int):(gU t s ws).length=ws.length:=by simp[gU]
theorem Nr:∀(l m:List Nat),l.Nodup→(∀x,x∈l→x∈m)→l.length≤m.length
 |[],m,_,_=>by simp
 |x::l,m,h,hm=>by
  have h':=List.nodup_cons.1 h;have hx:=hm x (by simp)
  have ih:=Nr l (m.erase x) h'.2 fun y hy=>(List.mem_erase_of_ne (by rintro rfl;exact h'.1 hy)).2 (hm y (by simp[hy]))
  rw[List.length_erase_of_mem hx]at ih;have:=List.length_pos_of_mem hx
  simp only[List.length_cons];omega
structure Fair (t s:Int) (ws A:List Int):Prop where
 len:A.length=ws.length
 sum:A.sum=t
 one:∀i,i<ws.length→A.getD i 0=t*ws.getD i 0/s∨A.getD i 0=t*ws.getD i 0/s+1
 none:∀i,i<ws.length→ws.getD i 0=0→A.getD i 0=0
 mono:∀i k,k<i→i<ws.length→ws.getD i 0≤ws.getD k 0→A.getD i 0≤A.getD k 0
theorem Mp (l:List Int) (s:Int) (hl:∀z,z∈l→0≤z∧z<s):l.sum≤(s-1)*((l.filter fun z=>decide (0<z)).length:Int):=by
 induction l with
 |nil=>simp
 |cons z l ih =>
  have ih:=ih fun y hy=>hl y (by simp[hy])
  have hz:=hl z (by simp)
  by_cases h:0<z
  ·rw[List.filter_cons_of_pos (by simpa using h),List.sum_cons,List.length_cons]
   have e:(s-1)*(((l.filter fun z=>decide (0<z)).length+1:Nat):Int)=(s-1)*((l.filter fun z=>decide (0<z)).length:Int)+(s-1):=by rw[Int.natCast_add,Int.mul_add];simp
   omega
  ·rw[List.filter_cons_of_neg (by simpa using h),List.sum_cons]
   omega
theorem El (l:List Int) (p:Int→Bool):((List.range l.length).filter fun i=>p (l.getD i 0)).length=(l.filter p).length:=by
 have:l=(List.range l.length).map fun i=>l.getD i 0:=by
  apply List.ext_getElem
  ·simp
  ·intro i h1 h2
   simp[List.getD_eq_getElem?_getD,h1]
 conv=>rhs;rw[this]
 rw[List.filter_map,List.length_map];rfl
theorem ahJ {t s:Int} {ws:List Int} {m:List Nat} (h:oC t ws s) (hr:iI (uZ (gU t s ws)) m) (hs:pO (uZ (gU t s ws)) (List.range ws.length) m) :
  Fair t s ws (mJ (gQ t s ws) (m.take (sD t s ws))):=by
 have hs0:0<s:=by have:=h.s0;omega
 obtain⟨nd,mem⟩:=uO hs;obtain⟨L1,L2,L3⟩:=aa8 h;obtain⟨L,hL⟩:∃L,sD t s ws=L:=⟨_,rfl⟩
 rw[hL]at L1 L2 L3 ⊢;have Fs:m.length=ws.length:=by
  have:=(List.perm_ext_iff_of_nodup nd List.nodup_range).2 fun i=>(mem i).trans List.mem_range.symm
  rw[this.length_eq,List.length_range]
 have hin:∀p,p∈m.take L→p<(gQ t s ws).length:=fun p hp=>by rw[wH];exact(mem p).1 (List.mem_of_mem_take hp)
 have hcnt:∀i,(m.take L).count i=if i∈m.take L then 1 else 0:=fun i=>by
  have h1:=List.nodup_iff_count.1 (nd.sublist (List.take_sublist L m)) i
  by_cases h2:i∈m.take L
  ·have:=List.count_pos_iff.2 h2
   rw[if_pos h2];omega
  ·rw[if_neg h2,List.count_eq_zero.2 h2]
 have hget:∀i,i<ws.length→(mJ (gQ t s ws) (m.take L)).getD i 0=t*ws.getD i 0/s+if i∈m.take L then 1 else 0:=fun i hi=>by
  rw[LO _ _ _ hin,Rm hi,hcnt];split<;>rfl
 have hwpos:∀i,i<ws.length→0≤ws.getD i 0:=fun i hi=>by
  have:ws.getD i 0∈ws:=by rw[List.getD_eq_getElem?_getD,List.getElem?_eq_getElem hi];exact List.getElem_mem hi
  exact(h.all _ this).1
 have hkey:∀i,i<ws.length→uZ (gU t s ws) i=-(t*ws.getD i 0%s):=fun i hi=>by unfold uZ;rw[Rg hi]
 have hpos:∀i,i∈m.take L→0<t*ws.getD i 0%s:=by
  intro i hi;have hiw:i<ws.length:=(mem i).1 (List.mem_of_mem_take hi)
  rcases Int.lt_or_le 0 (t*ws.getD i 0%s)with h1|h1
  ·exact h1
  ·exfalso
   have h0:=Int.emod_nonneg (t*ws.getD i 0) (show s≠0 by omega)
   have hsub:∀k,k∈((List.range ws.length).filter fun k=>decide (0<(gU t s ws).getD k 0))→k∈(m.take L).erase i:=by
    intro k hk;obtain⟨hk1,hk2⟩:=List.mem_filter.1 hk;have hkw:=List.mem_range.1 hk1;simp only[decide_eq_true_eq]at hk2;rw[Rg hkw]at hk2;have:k∈m.take L:=A6 hr hs hi hkw (.inl (by rw[hkey k hkw,hkey i hiw];omega))
    exact(List.Nodup.mem_erase_iff (nd.sublist (List.take_sublist L m))).2 ⟨by rintro rfl;omega,this⟩
   have hlen:((List.range ws.length).filter fun k=>decide (0<(gU t s ws).getD k 0)).length≤((m.take L).erase i).length:=by
    have nd2:((List.range ws.length).filter fun k=>decide (0<(gU t s ws).getD k 0)).Nodup:=List.nodup_range.filter _
    exact Nr _ _ nd2 hsub
   have hl2:((m.take L).erase i).length+1=L:=by
    rw[List.length_erase_of_mem hi,List.length_take];have:=List.length_pos_of_mem hi
    rw[List.length_take]at this;omega
   have hc:=Mp (gU t s ws) s (fun z hz=>by
    obtain⟨x,hx,rfl⟩:=List.mem_map.1 hz;exact⟨Int.emod_nonneg _ (by omega),Int.emod_lt_of_pos _ hs0⟩)
   have e1:=El (gU t s ws) fun z=>decide (0<z)
   rw[IK]at e1;rw[←e1]at hc;obtain⟨c,hcE⟩:∃c,((List.range ws.length).filter fun k=>decide (0<(gU t s ws).getD k 0)).length=c:=⟨_,rfl⟩
   rw[hcE]at hc hlen;have h5:(s-1)*(c:Int)≤(s-1)*((L:Int)-1):=Int.mul_le_mul_of_nonneg_left (by omega) (by omega)
   have h6:(s-1)*((L:Int)-1)=(L:Int)*s-s-L+1:=by rw[Int.sub_mul,Int.mul_sub,Int.mul_comm s];omega
   have hL1:1≤L:=by omega
   omega
 refine⟨by rw[LN,wH],?_,fun i hi=>?_,fun i hi h0=>?_,fun i k hki hi hle=>?_⟩
 ·rw[SW _ _ hin,List.length_take,Fs]
  omega
 ·rw[hget i hi]
  split<;>omega
 ·rw[hget i hi,h0]
  have:i ∉ m.take L:=fun hm=>by have:=hpos i hm;rw[h0]at this;simp at this
  rw[if_neg this];simp
 ·have hk:k<ws.length:=by omega
  rw[hget i hi,hget k hk];have hq:t*ws.getD i 0/s≤t*ws.getD k 0/s:=Int.ediv_le_ediv hs0 (Int.mul_le_mul_of_nonneg_left hle h.t0)
  by_cases hiL:i∈m.take L
  ·rw[if_pos hiL]
   by_cases hqe:t*ws.getD i 0/s=t*ws.getD k 0/s
   ·have d1:=Int.mul_ediv_add_emod (t*ws.getD i 0) s
    have d2:=Int.mul_ediv_add_emod (t*ws.getD k 0) s
    have d3:t*ws.getD i 0≤t*ws.getD k 0:=Int.mul_le_mul_of_nonneg_left hle h.t0
    rw[hqe]at d1;have hkL:k∈m.take L:=A6 hr hs hiL hk (by
     rw[hkey k hk,hkey i hi];rcases Int.lt_or_le (t*ws.getD i 0%s) (t*ws.getD k 0%s)with g|g
     ·exact .inl (by omega)
     ·exact .inr ⟨by omega,hki⟩)
    rw[if_pos hkL];omega
   ·split<;>omega
  ·rw[if_neg hiL]
   split<;>omega
def iK (l:List Int) (ps:List Nat):List Int:=ps.foldl (fun l i=>l.set i (-1)) l
theorem PU (l:List Int) (ps:List Nat) (i:Nat):iK l (ps++[i])=(iK l ps).set i (-1):=by simp[iK,List.foldl_append]
theorem TL (l:List Int) (ps:List Nat):(iK l ps).length=l.length:=by
 induction ps generalizing l with
 |nil=>rfl
 |cons i ps ih=>simp only[iK,List.foldl_cons]at ih ⊢;rw[ih];simp
theorem qA:∀(ps:List Nat) (l:List Int) (i:Nat),i<l.length→(iK l ps).getD i 0=if i∈ps then -1 else l.getD i 0
 |[],l,i,h=>by simp[iK]
 |p::ps,l,i,h=>by
  have ih:=qA ps (l.set p (-1)) i (by rw[List.length_set];exact h)
  have e:iK l (p::ps)=iK (l.set p (-1)) ps:=rfl
  rw[e,ih];by_cases hi:i∈ps
  ·simp[hi]
  ·rw[if_neg hi]
   by_cases hpi:p=i
   ·subst hpi
    rw[Sp _ _ _ _ h];simp
   ·have:i ∉ p::ps:=by simp[hi];exact fun e=>hpi e.symm
    rw[if_neg this,List.getD_eq_getElem?_getD,List.getElem?_set_ne hpi,←List.getD_eq_getElem?_getD]
theorem aih {rem:List Int} {m:List Nat} {i B:Nat} (hr:iI (uZ rem) m) (hs:pO (uZ rem) (List.range rem.length) m) (hpos:∀z,z∈rem→0≤z) (hi:i<rem.length) (hB:B<rem.length)
  (h1:∀k,k<rem.length→(iK rem (m.take i)).getD k 0≤(iK rem (m.take i)).getD B 0) (h2:∀k,k<B→(iK rem (m.take i)).getD k 0<(iK rem (m.take i)).getD B 0):m[i]?=some B:=by
 obtain⟨nd,mem⟩:=uO hs;have Fs:m.length=rem.length:=by
  have:=(List.perm_ext_iff_of_nodup nd List.nodup_range).2 fun i=>(mem i).trans List.mem_range.symm
  rw[this.length_eq,List.length_range]
 obtain⟨x,hx⟩:∃x,m[i]?=some x:=⟨m[i]'(by omega),List.getElem?_eq_getElem _⟩
 rw[hx];have hxm:x∈m:=List.mem_of_getElem? hx
 have hxn:x<rem.length:=(mem x).1 hxm
 have htk:m.take (i+1)=m.take i++[x]:=by rw[List.take_add_one,hx];rfl
 have hxt:x ∉ m.take i:=by
  intro h;have:=nd.sublist (List.take_sublist (i+1) m)
  rw[htk]at this;exact(List.nodup_append.1 this).2.2 x h x (by simp) rfl
 have posD:∀k,k<rem.length→0≤rem.getD k 0:=fun k hk=>hpos _ (by rw[List.getD_eq_getElem?_getD,List.getElem?_eq_getElem hk];exact List.getElem_mem hk)
 have e1:=h1 x hxn;rw[qA _ _ _ hxn,if_neg hxt,qA _ _ _ hB]at e1;have hBt:B ∉ m.take i:=fun h=>by rw[if_pos h]at e1;have:=posD x hxn;omega
 rw[if_neg hBt]at e1;have hd:B=x:=by
  have key:B∈m.take (i+1)→B=x:=fun h=>by
   rw[htk]at h;rcases List.mem_append.1 h with h|h
   ·exact absurd h hBt
   ·simpa using h
  have hxt1:x∈m.take (i+1):=by rw[htk];simp
  rcases Int.lt_or_le (rem.getD x 0) (rem.getD B 0)with g|g
  ·exact key (A6 hr hs hxt1 hB (.inl (by unfold uZ;omega)))
  ·rcases Nat.lt_trichotomy B x with g2|g2|g2
   ·exact key (A6 hr hs hxt1 hB (.inr ⟨by unfold uZ;omega,g2⟩))
   ·exact g2
   ·have:=h2 x g2
    rw[qA _ _ _ hxn,if_neg hxt,qA _ _ _ hB,if_neg hBt]at this;omega
 rw[hd]
def AU (key:Nat→Int) (x:Nat):List Nat→List Nat
 |[]=>[x]
 |y::l=>if key x<key y then x::y::l else y::AU key x l
def OG (key:Nat→Int) (l:List Nat):List Nat:=l.foldl (fun a x=>AU key x a) []
theorem Sk {key:Nat→Int} {x z:Nat}:∀{l:List Nat},z∈AU key x l↔z=x∨z∈l
 |[]=>by simp[AU]
 |y::l=>by
  unfold AU;split
  ·simp
  ·rw[List.mem_cons,Sk,List.mem_cons]
   constructor
   ·rintro(h|h|h)
    ·exact .inr (.inl h)
    ·exact .inl h
    ·exact .inr (.inr h)
   ·rintro(h|h|h)
    ·exact .inr (.inl h)
    ·exact .inl h
    ·exact .inr (.inr h)
theorem Lp {key:Nat→Int} {x:Nat}:∀{l:List Nat},iI key l→iI key (AU key x l)
 |[],_=>by simp[AU,iI]
 |y::l,h=>by
  unfold AU;have h1:=List.pairwise_cons.1 h;split
  ·refine List.pairwise_cons.2 ⟨fun z hz=>?_,h⟩
   rcases List.mem_cons.1 hz with rfl|hz
   ·omega
   ·have:=h1.1 z hz;omega
  ·refine List.pairwise_cons.2 ⟨fun z hz=>?_,Lp h1.2⟩
   rcases Sk.1 hz with rfl|hz
   ·omega
   ·exact h1.1 z hz
theorem EU {key:Nat→Int} {x:Nat} (k:Int):∀{l:List Nat},iI key l→(AU key x l).filter (fun z=>key z==k)=l.filter (fun z=>key z==k)++[x].filter (fun z=>key z==k)
 |[],_=>by simp[AU]
 |y::l,h=>by
  unfold AU;have h1:=List.pairwise_cons.1 h;split
  ·rename_i hlt
   by_cases hk:key x=k
   ·have e:(y::l).filter (fun z=>key z==k)=[]:=by
     rw[List.filter_eq_nil_iff];intro z hz;have:key y≤key z:=by
      rcases List.mem_cons.1 hz with rfl|hz
      ·omega
      ·exact h1.1 z hz
     simp;omega
    rw[List.filter_cons,e];simp[hk]
   ·rw[List.filter_cons];simp[hk]
  ·have ih:=EU (x:=x) k h1.2
   rw[List.filter_cons,ih,show(y::l).filter (fun z=>key z==k)=if(key y==k)=true then y::l.filter (fun z=>key z==k)else l.filter (fun z=>key z==k)from List.filter_cons ..]
   split<;>simp
theorem OE {key:Nat→Int} (l:List Nat):iI key (OG key l)∧pO key l (OG key l):=by
 have go:∀(l a b:List Nat),iI key b→pO key a b→iI key (l.foldl (fun a x=>AU key x a) b)∧pO key (a++l) (l.foldl (fun a x=>AU key x a) b):=by
  intro l;induction l with
  |nil=>intro a b h1 h2;simpa using⟨h1,h2⟩
  |cons x l ih =>
   intro a b h1 h2;have:=ih (a++[x]) (AU key x b) (Lp h1) (fun k=>by rw[EU k h1,h2 k,List.filter_append])
   simpa using this
 unfold OG;simpa using go l [] [] (by simp[iI]) (fun k=>rfl)
def eC (t:Int) (ws:List Int):List Int×Int :=
 if pM t ws then([],1)else if eI ws≠0 then([],2)else(mJ (gQ t (dU ws) ws) ((OG (uZ (gU t (dU ws) ws)) (List.range ws.length)).take (sD t (dU ws) ws)),0)
theorem dK.ai6 {w w':World} {B:Nat} {e:TypeId} {k:Nat} {v:Value} {n:Nat} {zs:List Int} {r:Option Nat} (h:dK w B e k v n zs) (g:w.grownBy w' r) (hne:v.ownBlock=none∨v.ownBlock≠r):dK w' B e k v n zs:=World.ownsRow.kept h g hne
theorem dK.lt2 {w:World} {B:Nat} {e:TypeId} {k:Nat} {v:Value} {n:Nat} {zs:List Int} (h:dK w B e k v n zs):∀b,v.ownBlock=some b→b<w.heap.size∧B≤b:=fun b hb=>by
 have:=World.ownsRow.lt h b hb
 exact⟨by omega,by omega⟩
theorem E7 {B:Nat} {w w':World} {r:Option Nat} (g:w.grownBy w' r) (hB:B≤w.heap.size) (hr:∀k,r=some k→B≤k):Below B w w':=(Below.refl B w).grown g hB hr
theorem Ab {P:Program} (w:World) {ops:Array Oper} {rest:List Oper} {o:Oper} {a:Act} {Q:Exit→Act→World→Prop} (hgd:o.guard=none) (s x:Operand) (t:TypeId)
  (ho:o.op=.call { callee:=.builtin .append,args:=#[s,x],argTypes:=#[t,t] })
  (base:Nat) (e:TypeId) (size:Nat) (E:agp P t e size)
  (v:Value) (n:Nat) (zs:List Int) (hs:a.eval s=v) (hown:dK w base e size v n zs)
  (b off c:Nat) (ns:List Int) (hx:a.eval x=.slice (some ⟨b,off,none⟩) 1 c) (hl:ns.length=size) (hc:bJ w b off ns)
  (hn:(n+1)*(size*8)≤140737488355328) (hbase:base≤w.heap.size)
  (h:∀g cap w',dK w' base e size (.slice (some ⟨g,0,none⟩) (n+1) cap) (n+1) (zs++ns)→w.grownBy w' v.ownBlock→(v.ownBlock=some g∨g=w.heap.size)→g<w'.heap.size→wpList P ops Q rest (a.put o.dst (.slice (some ⟨g,0,none⟩) (n+1) cap)) w'):wpList P ops Q (o::rest) a w:=by
 obtain⟨ht,⟨i,z,hi,hz,hsize,hby,hzs⟩,hp⟩:=E
 have h8:n+1≤(n+1)*(size*8):=Nat.le_mul_of_pos_right _ (by omega)
 refine wpList_append_lies w hgd s x t ho base e i z size (size*8) ht hi hz hsize hby hzs hp v n (ints zs) hs hown ⟨b,off,none⟩ 1 c (ints ns) hx (by rw[wU];omega) ?_ ?_ (by omega) (by unfold maxLen;omega) hn hbase w.heap.size rfl ?_
 ·intro j u hj
  rw[uB]at hj;have hlt:j<ns.length:=by
   rcases Nat.lt_or_ge j ns.length with h|h
   ·exact h
   ·rw[List.getElem?_eq_none h]at hj;cases hj
  have:=hc j hlt
  rw[List.getElem?_eq_getElem hlt]at hj;rw[List.getD_eq_getElem?_getD,List.getElem?_eq_getElem hlt]at this;simp only[Option.map_some,Option.some.injEq]at hj;subst hj;by_cases h0:j=0
  ·subst h0;simpa[Addr.add]using this
  ·simpa[Addr.add,h0]using this
 ·intro u hu
  simp only[ints,List.mem_map]at hu;obtain⟨y,-,rfl⟩:=hu;rfl
 ·intro g cap w' hown' hg hl hlt
  exact h g cap w' (by rw[dK,ET];exact hown') hg hl hlt
def aiu (w:World) (t:Int) (ws:List Int) (m:List Nat) (e:Ending) (w':World):Prop :=
 (if pM t ws then e=.returned (.tuple #[.slice none 0 0,.int .i64 1])
  else if eI ws≠0 then e=.returned (.tuple #[.slice none 0 0,.int .i64 2])
  else ∃g cap,e=.returned (.tuple #[.slice (some ⟨g,0,none⟩) ws.length cap,.int .i64 0])∧ws.length≤cap∧cap≤maxLen∧g<w'.heap.size∧w.heap.size≤g ∧
   bJ w' g 0 (mJ (gQ t (dU ws) ws) (m.take (sD t (dU ws) ws)))∧∀i,w'.frozen? ⟨g,i,none⟩=false)∧Below w.heap.size w w'
structure Two (w:World) (gl gr B:Nat) (A R:List Int) (w0:World):Prop where
 l:bJ w gl 0 A
 r:bJ w gr 0 R
 fl:∀i,w.frozen? ⟨gl,i,none⟩=false
 fr:∀i,w.frozen? ⟨gr,i,none⟩=false
 ll:gl<w.heap.size
 rl:gr<w.heap.size
 bl:B≤gl
 br:B≤gr
 ne:gl≠gr
 bel:Below B w0 w
theorem Two.below {w w' w0:World} {gl gr B:Nat} {A R:List Int} (h:Two w gl gr B A R w0) (g:Below w.heap.size w w'):Two w' gl gr B A R w0 :=
 ⟨h.l.below h.ll g,h.r.below h.rl g,fun i=>(g.frozen (p:=⟨gl,i,none⟩) h.ll).trans (h.fl i),fun i=>(g.frozen (p:=⟨gr,i,none⟩) h.rl).trans (h.fr i),Nat.lt_of_lt_of_le h.ll g.size,Nat.lt_of_lt_of_le h.rl g.size,h.bl,h.br,h.ne,h.bel.trans (g.mono (Nat.le_of_lt (Nat.lt_of_le_of_lt h.bl h.ll)))⟩
theorem Two.set {w w0:World} {gl gr B:Nat} {A R:List Int} (h:Two w gl gr B A R w0) {b:Nat} (hb:b<A.length) (hr:b<R.length) (x y:Int) :
  Two ((w.setCell ⟨gl,b,none⟩ (.int .i64 x)).setCell ⟨gr,b,none⟩ (.int .i64 y)) gl gr B (A.set b x) (R.set b y) w0:=by
 have hB:=h.bl;have hB2:=h.br
 refine⟨?_,?_,fun i=>by rw[World.frozen?_setCell,World.frozen?_setCell];exact h.fl i,fun i=>by rw[World.frozen?_setCell,World.frozen?_setCell];exact h.fr i,by simpa[World.setCell]using h.ll,by simpa[World.setCell]using h.rl,h.bl,h.br,h.ne,(h.bel.setCell (p:=⟨gl,b,none⟩) (by simp only;omega) _).setCell (p:=⟨gr,b,none⟩) (by simp only;omega) _⟩
 ·have:=bJ.put h.l hb x
  rw[Nat.zero_add]at this;exact fun i hi=>(World.cell?_of_block (w:=w.setCell ⟨gl,b,none⟩ (.int .i64 x)) (Below.heap_setCell _ _ _ _ h.ne)).trans (this i hi)
 ·have h1:bJ (w.setCell ⟨gl,b,none⟩ (.int .i64 x)) gr 0 R:=fun i hi=>(World.cell?_of_block (w:=w) (Below.heap_setCell _ _ _ _ (Ne.symm h.ne))).trans (h.r i hi)
  have:=bJ.put h1 hr y
  rw[Nat.zero_add]at this;exact this
theorem Tb {ws:List Int} {j:Nat} {x:Int} (p:Int→Bool) (hx:ws[j]?=some x):(ws.take (j+1)).any p=((ws.take j).any p||p x):=by
 rw[List.take_add_one,hx];simp
theorem aal {ws:List Int} {j:Nat} {x:Int} {p:Int→Bool} (hx:ws[j]?=some x) (h:p x=true):ws.any p=true:=List.any_eq_true.2 ⟨x,List.mem_of_getElem? hx,h⟩
set_option maxRecDepth 20000 in
set_option maxHeartbeats 4000000 in
theorem M8 (a:Option Addr) (cap:Nat) (ws:List Int) (m:List Nat) (t:Int) (w:World) (h:Row w 1 a ws.length cap ws) (hn6:ws.length≤1000000) (htI:jY t)
  (hm:pM t ws=false→eI ws=0→iI (uZ (gU t (dU ws) ws)) m∧pO (uZ (gU t (dU ws) ws)) (List.range ws.length) m) :
  Calls Tryz.prog 90 #[.int .i64 t,.slice a ws.length cap] w (aiu w t ws m):=by
 have hbad:∀e w',pM t ws=true→e=Ending.returned (.tuple #[.slice none 0 0,.int .i64 1])→Below w.heap.size w w'→aiu w t ws m e w':=fun e w' h1 h2 h3=>⟨by rw[if_pos h1];exact h2,h3⟩
 have hbig:∀e w',pM t ws=false→eI ws≠0→e=Ending.returned (.tuple #[.slice none 0 0,.int .i64 2])→Below w.heap.size w w'→aiu w t ws m e w':=fun e w' h1 h2 h3 h4=>⟨by rw[h1,if_neg (by simp),if_pos h2];exact h3,h4⟩
 have hfine:∀g cap' e w',pM t ws=false→eI ws=0→e=Ending.returned (.tuple #[.slice (some ⟨g,0,none⟩) ws.length cap',.int .i64 0])→ws.length≤cap'→cap'≤maxLen→g<w'.heap.size→w.heap.size≤g→bJ w' g 0 (mJ (gQ t (dU ws) ws) (m.take (sD t (dU ws) ws)))→(∀i,w'.frozen? ⟨g,i,none⟩=false)→Below w.heap.size w w'→aiu w t ws m e w' :=
  fun g cap' e w' h1 h2 h3 h4 h5 h6 h9 h7 hz h8=>⟨by rw[h1,if_neg (by simp),if_neg (by simp[h2])];exact⟨g,cap',h3,h4,h5,h6,h9,h7,hz⟩,h8⟩
 obtain⟨n,hN⟩:∃n,ws.length=n:=⟨_,rfl⟩
 rw[hN]at h hn6 hm hfine ⊢;have hNh:=Lib.hid hN;have hr0:=h;obtain⟨hl,hcap,hmax,hall,hat⟩:=h;unfold maxLen at hmax;have hcells:∀j x,ws[j]?=some x→∃b off,a=some ⟨b,off,none⟩∧w.cell? ⟨b,off+j,none⟩=some (.int .i64 x)∧b<w.heap.size:=by
  intro j x hx;have hj:j<ws.length:=by
   rcases Nat.lt_or_ge j ws.length with g|g
   ·exact g
   ·rw[List.getElem?_eq_none g]at hx;cases hx
  rcases hat with h0|⟨b,off,e,hb,hc⟩
  ·omega
  ·exact⟨b,off,e,by rw[hc j hj,List.getD_eq_getElem?_getD,hx];rfl,hb⟩
 have hch:=Lib.hid hcells;have hrh:=Lib.hid hr0;have hmh:=Lib.hid hm;have hbadh:=Lib.hid hbad;have hbigh:=Lib.hid hbig;have hfineh:=Lib.hid hfine;have hallh:=Lib.hid hall;clear hN hat hcells hr0 hm hbad hbig hfine hall hl;go_enter Tryz.func90,Tryz.ntmps90
 go_wp2_with fail
 go_loop [6,7] (fun s i=>∃j:Nat,j≤n∧i=.int .i64 j∧s=.bool ((ws.take j).any yL)∧Hid ((ws.take j).any iZ=false)) (fun _ i=>n-(intOf i).toNat)
 case atStart=>exact⟨0,by omega,rfl,rfl,rfl⟩
 case round =>
  obtain⟨j,hj,rfl,rfl,hnw⟩:=hrel;by_cases hlt:j<n
  ·have hltI:(j:Int)<(n:Int):=by omega
   have hj0:(0:Int)≤(j:Int):=by omega
   obtain⟨x,hx⟩:∃x,ws[j]?=some x:=⟨ws[j]'(by rw[hNh.out];exact hlt),List.getElem?_eq_getElem _⟩
   obtain⟨b,off,rfl,c0,hbl⟩:=hch.out j x hx;have hb1:iZ x=true→pM t ws=true:=fun h1=>by simp[pM,aal hx h1]
   have s1:=Tb yL hx;have s2:=Tb iZ hx;rw[hnw.out]at s2;have hxh:=Lib.hid hx;clear hx;by_cases hx0:x<0
   ·have hb2:=Lib.hid (hb1 (by simp[iZ,hx0]))
    clear hb1 s1 s2;go_wp2_with fail
    go_ret2
    exact hbadh.out _ _ hb2.out rfl (Below.refl _ _)
   ·by_cases hx1:288230376151711744<x
    ·have hb2:=Lib.hid (hb1 (by simp[iZ,hx1]))
     clear hb1 s1 s2;go_wp2_with fail
     go_ret2
     exact hbadh.out _ _ hb2.out rfl (Below.refl _ _)
    ·have hw:iZ x=false:=by simp[iZ];omega
     rw[hw]at s2;have s2h:=Lib.hid s2;clear hb1 s2 hw;cases hsm:(ws.take j).any yL with
     |true =>
      rw[hsm]at s1;have s1h:=Lib.hid s1;clear hsm s1;go_wp2_with fail
      go_round
      case rel=>exact⟨j+1,by omega,by go_num,by rw[s1h.out];rfl,s2h⟩
      case measure=>simp[intOf];omega
     |false =>
      rw[hsm]at s1;have hsx:yL x=decide (0<x):=by unfold yL;rw[Bool.eq_iff_iff];simp;omega
      rw[hsx]at s1;have s1h:=Lib.hid s1;clear hsm s1 hsx;go_wp2_with fail
      go_round
      case rel=>exact⟨j+1,by omega,by go_num,by rw[s1h.out];simp,s2h⟩
      case measure=>simp[intOf];omega
  ·have ej:j=n:=by omega
   subst ej;have hge:¬ (j:Int)<(j:Int):=by omega
   have htk:ws.take j=ws:=List.take_of_length_le (by rw[hNh.out];omega)
   rw[htk]at hnw ⊢;clear htk;by_cases ht:iZ t=true
   ·have hb:=Lib.hid (show pM t ws=true by simp[pM,ht])
    by_cases ht0:t<0
    ·go_wp2_with fail
     go_ret2
     exact hbadh.out _ _ hb.out rfl (Below.refl _ _)
    ·have ht1:288230376151711744<t:=by simp[iZ]at ht;omega
     go_wp2_with fail
     go_ret2
     exact hbadh.out _ _ hb.out rfl (Below.refl _ _)
   ·have ht':iZ t=false:=by simpa using ht
    have ht0:¬ t<0:=fun h=>ht (by simp[iZ,h])
    have ht1:¬ 288230376151711744<t:=fun h=>ht (by simp[iZ,h])
    cases hsm:ws.any yL with
    |false =>
     have hb:=Lib.hid (show pM t ws=true by simp[pM,hsm])
     clear hsm ht ht';go_wp2_with fail
     go_ret2
     exact hbadh.out _ _ hb.out rfl (Below.refl _ _)
    |true =>
     have hb:=Lib.hid (show pM t ws=false by simp[pM,hsm,ht',hnw.out])
     clear hsm ht ht' hnw;go_wp2_with fail
     refine(Oj _ _ _ _ _ hrh.out).mono ?_
     rintro e w1 ⟨rfl,rfl⟩
     by_cases hse:eI ws=0
     ·have hO:=oC.of hb.out hse
      obtain⟨hr,hs⟩:=hmh.out hb.out hse;have hfine:=fun g cap' e w'=>hfineh.out g cap' e w' hb.out hse
      rw[hse];obtain⟨s,hsV⟩:∃s,dU ws=s:=⟨_,rfl⟩
      rw[hsV]at hO hr hs hfine ⊢;have hfineh2:=Lib.hid hfine;have hOh:=Lib.hid hO;have hrh2:=Lib.hid hr;have hsh2:=Lib.hid hs;have hj1:1≤j:=by
       rcases Nat.eq_zero_or_pos j with h0|h0
       ·exfalso
        subst h0;have:ws=[]:=List.eq_nil_of_length_eq_zero hNh.out
        have h1:=hO.sum;have h2:=hO.s0;rw[this]at h1;simp at h1
        omega
       ·exact h0
      have hs0:1≤s:=hO.s0
      have hs1:s≤288230376151711744:=hO.s1
      have htt:0≤t:=hO.t0
      have htt1:t≤288230376151711744:=hO.t1
      clear hO hr hs hfine hfineh hmh hse hsV;go_wp2_with fail
      go_loopw [10,11,12,13] (fun l r u i wr=>∃k:Nat,k≤j∧i=.int .i64 (k:Int)∧u=.int .i64 (t-(gQ t s (ws.take k)).sum)∧dK wr w.heap.size 3 1 l k (gQ t s (ws.take k))∧dK wr w.heap.size 3 1 r k (gU t s (ws.take k))∧(l.ownBlock=none∨l.ownBlock≠r.ownBlock)∧Below w.heap.size w wr) (fun _ _ _ i _=>j-(intOf i).toNat)
      case atStart=>exact⟨0,by omega,rfl,by simp[gQ],dK.nil _ _ _ _,dK.nil _ _ _ _,.inl rfl,Below.refl _ _⟩
      case round =>
       obtain⟨k,hk,rfl,rfl,hOl,hOr,hap,hbel⟩:=hrel;have hsz:=hbel.size;have hlf:=hOh.out.left k;by_cases hlt:k<j
       ·have hltI:(k:Int)<(j:Int):=by omega
        have hk0:(0:Int)≤(k:Int):=by omega
        obtain⟨x,hx⟩:∃x,ws[k]?=some x:=⟨ws[k]'(by rw[hNh.out];exact hlt),List.getElem?_eq_getElem _⟩
        obtain⟨b,off,rfl,c00,hbl⟩:=hch.out k x hx;have c0:=(hbel.cell (p:=⟨b,off+k,none⟩) hbl).trans c00
        have hgx:ws.getD k 0=x:=by rw[List.getD_eq_getElem?_getD,hx];rfl
        have hmd:=hOh.out.md (List.mem_of_getElem? hx)
        have hxb:=hOh.out.all x (List.mem_of_getElem? hx)
        have hqb:=T6 htt (show 0<s by omega) hxb.1 hxb.2
        have hMD:=qF t x s;rw[hmd.1,hmd.2]at hMD;have hqs:=aci t s (ws:=ws) (j:=k) (by rw[hNh.out];exact hlt)
        have hrs:=ace t s (ws:=ws) (j:=k) (by rw[hNh.out];exact hlt)
        rw[hgx]at hqs hrs;have hlf2:=hOh.out.left (k+1)
        have hsum:(gQ t s (ws.take (k+1))).sum=(gQ t s (ws.take k)).sum+t*x/s:=by rw[hqs];simp
        obtain⟨q,hq⟩:∃q,t*x/s=q:=⟨_,rfl⟩
        obtain⟨r,hr⟩:∃r,t*x%s=r:=⟨_,rfl⟩
        rw[hq]at hMD hqs hsum hqb;rw[hr]at hMD hrs hqb;obtain⟨A,hA⟩:∃A,(gQ t s (ws.take k)).sum=A:=⟨_,rfl⟩
        rw[hA]at hlf hsum ⊢;have hsumh:=Lib.hid hsum;have hqsh:=Lib.hid hqs;have hrsh:=Lib.hid hrs;have hxI:jY x:=⟨by omega,by omega⟩
        have hsI:jY s:=⟨by omega,by omega⟩
        have hb1:0≤t-A:=by omega
        have hb2:0≤t-A-q:=by omega
        have hb3:t-A-q≤t:=by omega
        have f1:IntKind.i64.wrap (t-A-q)=t-A-q:=IntWalk.i64_in _ (by omega)
        have hMDh:=Lib.hid hMD;clear hmd hMD hqs hrs hsum hq hr hA hx hgx hlf hlf2 c00;go_wp2_with fail
        refine(hMDh.out _ htI hxI hsI).mono ?_
        rintro e w1 ⟨rfl,rfl⟩
        go_wp2_with (at_builtin;refine Ab _ rfl _ _ 22 rfl w.heap.size 3 1 Ly _ k (gQ t s (ws.take k)) rfl (hOl.alloc _) wr.heap.size 0 1 [q] rfl rfl (bJ.new wr [q] 3) ?c1 ?c2 ?_)
        case c1=>omega
        case c2=>simp;omega
        intro g1 cap1 w1 hO1 hg1 hl1 hlt1;have hne1:u11.ownBlock=none∨u11.ownBlock≠u10.ownBlock:=by
         cases h11:u11.ownBlock with
         |none=>exact .inl rfl
         |some z =>
          right
          rcases hap with h10|h10
          ·rw[h10];simp
          ·rw[h11]at h10;exact Ne.symm h10
        have hOr1:=(dK.alloc hOr (.cells #[.int .i64 q] 3)).ai6 hg1 hne1
        have hb1':Below w.heap.size w w1:=(hbel.alloc hsz _).trans (E7 hg1 (by simp;omega) fun z hz=>(hOl.lt2 z hz).2)
        have hw1s:wr.heap.size<w1.heap.size:=by have:=hg1.size;simp at this;omega
        have hll:u10.ownBlock=some g1∨g1=wr.heap.size+1:=by simpa using hl1
        have hg11:u11.ownBlock≠some g1:=fun e=>by
         rcases hll with h10|h10
         ·rcases hne1 with h|h
          ·rw[h]at e;cases e
          ·rw[h10]at h;exact h e
         ·have:=(hOr.lt2 g1 e).1;omega
        have hr1s:w.heap.size≤w1.heap.size:=by omega
        clear hg1 hl1 hOr hbel;go_wp2_with (at_builtin;refine Ab _ rfl _ _ 22 rfl w.heap.size 3 1 Ly _ k (gU t s (ws.take k)) rfl (hOr1.alloc _) w1.heap.size 0 1 [r] rfl rfl (bJ.new w1 [r] 3) ?c1 ?c2 ?_)
        case c1=>omega
        case c2=>simp;omega
        intro g2 cap2 w2 hO2 hg2 hl2 hlt2;have hO1b:=(dK.alloc hO1 (.cells #[.int .i64 r] 3)).ai6 hg2 (.inr (fun e=>hg11 e.symm))
        have hl22:u11.ownBlock=some g2∨g2=w1.heap.size+1:=by simpa using hl2
        have hgg:g1≠g2:=by
         rintro rfl
         rcases hl22 with h|h
         ·exact hg11 h
         ·omega
        have hb2':Below w.heap.size w w2:=(hb1'.alloc hr1s _).trans (E7 hg2 (by simp;omega) fun z hz=>(hOr1.lt2 z hz).2)
        rw[←hqsh.out]at hO1b;rw[←hrsh.out]at hO2;clear hg2 hl2 hOr1 hO1 hb1' hne1 hll hg11 hl22 hap hOl;go_wp2_with fail
        go_roundw
        case rel=>exact⟨k+1,by omega,by go_num,by rw[hsumh.out];congr 1;omega,hO1b,hO2,.inr (fun e=>hgg (by injection e)),hb2'⟩
        case measure=>simp[intOf];omega
       ·have ek:k=j:=by omega
        subst ek;have hgek:¬ (k:Int)<(k:Int):=by omega
        have htk:ws.take k=ws:=List.take_of_length_le (by rw[hNh.out];omega)
        rw[htk]at hOl hOr ⊢;obtain⟨gl,cl,rfl,hl1,hl2,hl3,hl4,hl5,hl6⟩:=hOl.aja (by omega)
        obtain⟨gr,cr,rfl,hr1,hr2,hr3,hr4,hr5,hr6⟩:=hOr.aja (by omega)
        have hgg:gl≠gr:=by
         rintro rfl
         rcases hap with h|h
         ·cases h
         ·exact h rfl
        have hTwo:Two wr gl gr w.heap.size (gQ t s ws) (gU t s ws) w:=⟨hl5,hr5,hl6,hr6,hl2,hr2,hl1,hr1,hgg,hbel⟩
        obtain⟨L1,L2,L3⟩:=aa8 hOh.out;rw[←L1];obtain⟨L,hL⟩:∃L,sD t s ws=L:=⟨_,rfl⟩
        rw[hL]at L2 L3 hfineh2 ⊢;rw[hNh.out]at L2;have hLL3:=Lib.hid L3;have hLh:=Lib.hid hL;unfold maxLen at hl4 hr4;clear hl5 hr5 hl6 hr6 hl2 hr2 hl1 hr1 hap hbel hOl hOr htk L1 L3 hL hlf;go_wp2_with fail
        go_loopw [12] (fun u wr=>∃i r:Nat,i+r=L∧u=.int .i64 (r:Int)∧Two wr gl gr w.heap.size (mJ (gQ t s ws) (m.take i)) (iK (gU t s ws) (m.take i)) w) (fun u _=>(intOf u).toNat)
        case atStart=>exact⟨0,L,by omega,rfl,hTwo⟩
        case round =>
         obtain⟨i,r,hir,rfl,hT⟩:=hrel;obtain⟨wo,rfl⟩:∃wo:World,wo=wr:=⟨_,rfl⟩
         by_cases hr0:0<r
         ·have hr0I:(0:Int)<(r:Int):=by omega
          have hAl:(mJ (gQ t s ws) (m.take i)).length=k:=by rw[LN,wH];exact hNh.out
          have hRl:(iK (gU t s ws) (m.take i)).length=k:=by rw[TL,IK];exact hNh.out
          have hAb:∀b,b<k→0≤(mJ (gQ t s ws) (m.take i)).getD b 0∧(mJ (gQ t s ws) (m.take i)).getD b 0≤288230376152711744:=by
           intro b hb;have hbw:b<ws.length:=by rw[hNh.out];exact hb
           have hxm:ws.getD b 0∈ws:=by rw[List.getD_eq_getElem?_getD,List.getElem?_eq_getElem hbw];exact List.getElem_mem hbw
           have hx:=hOh.out.all _ hxm;have hq:=T6 htt (show 0<s by omega) hx.1 hx.2
           have hmem:=(uO hsh2.out).2
           rw[LO _ _ _ (fun p hp=>by rw[wH,hNh.out];exact(hmem p).1 (List.mem_of_mem_take hp)),Rm hbw]
           have hc:=List.count_le_length (a:=b) (l:=m.take i)
           rw[List.length_take]at hc;omega
          have hbest:∀B,B<k→(∀p,p<k→(iK (gU t s ws) (m.take i)).getD p 0≤(iK (gU t s ws) (m.take i)).getD B 0)→(∀p,p<B→(iK (gU t s ws) (m.take i)).getD p 0<(iK (gU t s ws) (m.take i)).getD B 0)→m[i]?=some B:=by
           intro B hB h1 h2;have PF:(gU t s ws).length=k:=by rw[IK];exact hNh.out
           refine aih hrh2.out (by rw[PF];exact hsh2.out) (fun z hz=>?_) (by omega) (by omega) (by rw[PF];exact h1) h2
           obtain⟨x,hx,rfl⟩:=List.mem_map.1 hz;exact Int.emod_nonneg _ (by omega)
          have hstep:∀B,m[i]?=some B→mJ (gQ t s ws) (m.take (i+1))=(mJ (gQ t s ws) (m.take i)).set B ((mJ (gQ t s ws) (m.take i)).getD B 0+1)∧iK (gU t s ws) (m.take (i+1))=(iK (gU t s ws) (m.take i)).set B (-1):=by
           intro B hB;have htk:m.take (i+1)=m.take i++[B]:=by rw[List.take_add_one,hB];rfl
           rw[htk,ac4,PU];exact⟨rfl,rfl⟩
          generalize mJ (gQ t s ws) (m.take i)=A at hT hAl hAb hstep
          generalize iK (gU t s ws) (m.take i)=R at hT hRl hbest hstep
          have hAlh:=Lib.hid hAl;have hRlh:=Lib.hid hRl;have hAbh:=Lib.hid hAb;have hbesth:=Lib.hid hbest;have hsteph:=Lib.hid hstep;have hirh:=Lib.hid hir;clear hAl hRl hAb hbest hstep hir;have hkI:(1:Int)≤(k:Int):=by omega
          have hrb:r≤1000000:=by have:=hirh.out;omega
          go_wp2_with fail
          go_loopw [17,18] (fun b q wx=>∃B p:Nat,1≤p∧p≤k∧B<p∧b=.int .i64 (B:Int)∧q=.int .i64 (p:Int)∧Hid (∀z,z<p→R.getD z 0≤R.getD B 0)∧Hid (∀z,z<B→R.getD z 0<R.getD B 0)∧Below wo.heap.size wo wx) (fun _ q _=>k-(intOf q).toNat)
          case atStart =>
           have hz1:Hid (∀z,z<1→R.getD z 0≤R.getD 0 0):=fun z hz=>by
            have:z=0:=by omega
            subst this;exact Int.le_refl _
           exact⟨0,1,by omega,by omega,by omega,rfl,rfl,hz1,fun z hz=>by omega,Below.refl _ _⟩
          case round =>
           obtain⟨B,p,hp1,hpk,hBp,rfl,rfl,hA1,hA2,hbw⟩:=hrel;have hT2:=hT.below hbw;have hB0:(0:Int)≤(B:Int):=by omega
           have hBkI:(B:Int)<(k:Int):=by omega
           by_cases hpk2:p<k
           ·have hpkI:(p:Int)<(k:Int):=by omega
            have hp0:(0:Int)≤(p:Int):=by omega
            have c0:=hT2.r p (by rw[hRlh.out];exact hpk2)
            have c1:=hT2.r B (by rw[hRlh.out];omega)
            rw[Nat.zero_add]at c0 c1;obtain⟨x,hx⟩:∃x,R.getD p 0=x:=⟨_,rfl⟩
            obtain⟨y,hy⟩:∃y,R.getD B 0=y:=⟨_,rfl⟩
            rw[hx]at c0;rw[hy]at c1;have hxh:=Lib.hid hx;have hyh:=Lib.hid hy;clear hx hy hT2;by_cases hxy:y<x
            ·have hd:decide (y<x)=true:=decide_eq_true hxy
             go_wp2_with fail
             go_quiet (fail)
             go_wp2_with fail
             case' roundEnd =>
              refine⟨⟨p,p+1,by omega,by omega,by omega,rfl,by go_num,fun z hz=>?_,fun z hz=>?_,blw⟩,?_⟩
              ·rcases Nat.lt_or_ge z p with g|g
               ·have:=hA1.out z g;rw[hxh.out];rw[hyh.out]at this;omega
               ·have:z=p:=by omega
                subst this;omega
              ·have:=hA1.out z hz;rw[hxh.out];rw[hyh.out]at this;omega
              ·simp[intOf];omega
            ·have hd:decide (y<x)=false:=decide_eq_false hxy
             go_wp2_with fail
             go_quiet (fail)
             go_wp2_with fail
             case' roundEnd =>
              refine⟨⟨B,p+1,by omega,by omega,by omega,rfl,by go_num,fun z hz=>?_,hA2.out,blw⟩,?_⟩
              ·rcases Nat.lt_or_ge z p with g|g
               ·exact hA1.out z g
               ·have:z=p:=by omega
                subst this;rw[hxh.out,hyh.out];omega
              ·simp[intOf];omega
           ·have ep:p=k:=by omega
            have hpkI:¬ (p:Int)<(k:Int):=by omega
            have hm:=hbesth.out B (by omega) (fun z hz=>hA1.out z (by omega)) hA2.out
            obtain⟨e1,e2⟩:=hsteph.out B hm;have hab:=hAbh.out B (by omega)
            have c0:=hT2.l B (by rw[hAlh.out];omega)
            rw[Nat.zero_add]at c0;have hT3:=hT2.set (b:=B) (by rw[hAlh.out];omega) (by rw[hRlh.out];omega) (A.getD B 0+1) (-1)
            rw[←e1,←e2]at hT3;obtain⟨y,hy⟩:∃y,A.getD B 0=y:=⟨_,rfl⟩
            rw[hy]at c0 hab hT3;obtain⟨hab1,hab2⟩:=hab;have f1:=hT2.fl B;have f2:=hT2.fr B;have c1:=hT2.r B (by rw[hRlh.out];omega)
            rw[Nat.zero_add]at c1;have w1:IntKind.i64.wrap (y+1)=y+1:=IntWalk.i64_in _ (by omega)
            clear hy hT2 hm e1 e2 hA1 hA2 hbw hT;go_wp2_with fail
            case' roundEnd =>
             obtain⟨r',rfl⟩:∃r',r=r'+1:=⟨r-1,by omega⟩
             refine⟨⟨i+1,r',by have:=hirh.out;omega,by go_num,hT3⟩,?_⟩
             simp[intOf]
         ·obtain rfl:r=0:=by omega
          obtain rfl:i=L:=by omega
          have hz:¬ (0:Int)<((0:Nat):Int):=by omega
          have hf:=hT.l;go_wp2_with fail
          go_ret2
          exact hfineh2.out gl cl _ _ rfl hl3 (by unfold maxLen;exact hl4) hT.ll hT.bl hf hT.fl hT.bel
     ·have he2:eI ws=2:=by unfold eI at hse ⊢;split<;>simp_all
      have hseh:=Lib.hid hse;rw[he2];clear he2 hse;go_wp2_with fail
      go_ret2
      exact hbigh.out _ _ hb.out hseh.out rfl (Below.refl _ _)
end
section
open Mc
theorem Rk {A:Nat→Prop} {w:World}:@cO dI dN A w (.lit 1 (aA [])) (.slice none 0 0):=@cO.lJ dI dN A w 1 none 0 (by unfold maxLen;omega)
theorem E6 {t:Int} {ws:List Int} (ht:jY t) (hI:eH ws) (hn:ws.length≤1000000):Ck 90 [.i t,.lit 1 (aA ws)] (.bB [.lit 1 (aA (eC t ws).1),.i (eC t ws).2]):=by
 refine⟨aX (.c _) (aX (gJ _).lit eR),.bB _ (aX (gJ _).lit (aX (.c _) eR)),?_⟩
 intro A w vs hA hG hl hv;have hvs:=Ii hl;have h0:=hv 0 _ rfl;generalize vs.getD 0 Go.undef=v0 at *;have h1:=hv 1 _ rfl;generalize vs.getD 1 Go.undef=v1 at *;subst hvs;cases h0;obtain⟨a,cap,rfl,R⟩:=OZ h1 hI;have ho:=OE (key:=uZ (gU t (dU ws) ws)) (List.range ws.length)
 refine(M8 a cap ws (OG (uZ (gU t (dU ws) ws)) (List.range ws.length)) t w R hn ht (fun _ _=>ho)).mono ?_
 rintro e w' ⟨he,hb⟩
 unfold eC;by_cases hbad:pM t ws=true
 ·rw[if_pos hbad]at he ⊢
  subst he;exact⟨_,rfl,mN Rk qH,hb⟩
 rw[if_neg hbad]at he ⊢;by_cases hs:eI ws≠0
 ·rw[if_pos hs]at he ⊢
  subst he;exact⟨_,rfl,mN Rk qH,hb⟩
 rw[if_neg hs]at he ⊢;obtain⟨g,cap',rfl,k1,k2,k3,k4,k5,-⟩:=he;have hlen:(mJ (gQ t (dU ws) ws) ((OG (uZ (gU t (dU ws) ws)) (List.range ws.length)).take (sD t (dU ws) ws))).length=ws.length:=by rw[LN,wH]
 refine⟨_,rfl,mN ?_ qH,hb⟩
 generalize mJ (gQ t (dU ws) ws) ((OG (uZ (gU t (dU ws) ws)) (List.range ws.length)).take (sD t (dU ws) ws))=B at *
 rw[←hlen]at k1 ⊢;exact Sj hA k1 k2 (.inr ⟨g,0,rfl,k4,k3,k5⟩)
theorem xJ {t:Int} {ws:List Int}:((eC t ws).2=0∧0≤t∧t≤288230376151711744∧(eC t ws).1.length=ws.length∧(∀x∈(eC t ws).1,0≤x∧x≤t)∧(eC t ws).1.sum=t)∨(((eC t ws).2=1∨(eC t ws).2=2)∧(eC t ws).1=[]):=by
 unfold eC;by_cases hbad:pM t ws=true
 ·rw[if_pos hbad];exact .inr ⟨.inl rfl,rfl⟩
 rw[if_neg hbad];by_cases hs:eI ws≠0
 ·rw[if_pos hs];exact .inr ⟨.inr rfl,rfl⟩
 rw[if_neg hs];left
 have hO:=oC.of (by simpa using hbad) (by simpa using hs)
 obtain⟨o1,o2⟩:=OE (key:=uZ (gU t (dU ws) ws)) (List.range ws.length)
 have F:=ahJ hO o1 o2;dsimp only
 generalize mJ (gQ t (dU ws) ws) ((OG (uZ (gU t (dU ws) ws)) (List.range ws.length)).take (sD t (dU ws) ws))=B at *
 have hp:∀x,x∈B→0≤x:=by
  intro x hx;obtain⟨i,hi⟩:=List.mem_iff_getElem?.1 hx
  have hlt:=(List.getElem?_eq_some_iff.1 hi).1
  have hB:B.getD i 0=x:=by rw[List.getD_eq_getElem?_getD,hi];rfl
  have hw:0≤ws.getD i 0:=(hO.all _ (eL (by rw[←F.len];exact hlt))).1
  have hq:=Int.ediv_nonneg (Int.mul_nonneg hO.t0 hw) (show 0≤dU ws by have:=hO.s0;omega)
  rcases F.one i (by rw[←F.len];exact hlt)with h|h<;>omega
 refine⟨rfl,hO.t0,hO.t1,F.len,fun x hx=>⟨hp x hx,?_⟩,F.sum⟩
 have:=(N0 B x hp hx).1
 rw[F.sum]at this;exact this
end
end Go.Proofs.YtnepgggkgnckcaaGreat
