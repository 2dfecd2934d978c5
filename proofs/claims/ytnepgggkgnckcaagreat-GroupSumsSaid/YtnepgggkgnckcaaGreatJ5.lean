/-
 Texts joined and made small by wip/small.sh.
-/
import Derived.Test.YtnepgggkgnckcaaGreatJ4
set_option linter.all false
set_option maxHeartbeats 4000000
set_option maxRecDepth 1000000
namespace Go.Proofs.YtnepgggkgnckcaaGreat
open Go.RowKit
section
open Mc
def zZ {l:List bP} (i:fM (flat l)) (f:l.length<=1000):Ck 199 [.lit 3 (aM l)] (.c (.bool (lM l))):=by
 refine⟨bL (Fa _).lit fW,.c _,?_⟩;intro A w vs m k g d;have b:=uX g;generalize vs.getD 0 Go.undef=j at b;subst b;obtain⟨a,cap,rfl,R⟩:=RQ (d 0 _ rfl) i;refine(aaW a cap l w R f).mono ?_;rintro e w' ⟨rfl,h⟩;exact⟨_,rfl,@eC.c dY dZ A w' _,h⟩
def XH {l:List bP} (j:fM (flat l)) (d:l.all kQ=true):Ck 197 [.lit 3 (aM l)] (.bE [.i (dP (l.map kO)),.i (eB (l.map kO))]):=by
 refine⟨bL (Fa _).lit fW,.bE _ (bL (.c _) (bL (.c _) fW)),?_⟩;intro A w vs n m g f;have b:=uX g;generalize vs.getD 0 Go.undef=k at b;subst b;obtain⟨a,cap,rfl,R⟩:=RQ (f 0 _ rfl) j;refine(OY a cap l w R d).mono ?_;rintro e w' ⟨rfl,h⟩;exact⟨_,rfl,mK qD qD,h⟩
def Ic (l:List bP) (x:bP):aM (l++[x])=aM l++[jH x.r]:=by simp[aM]
def CW {l:List bP} (h:∀x∈l,fM [x.q,x.v,x.p]):fM (flat l):=by
 intro z a;obtain⟨x,b,a⟩:=a2d.1 a;exact h x b z a
def Ph {x:bP} (h:kQ x=true):fM [x.q,x.v,x.p]:=by
 have:=eE.1 h;intro z a;simp only[a0d,a0b,or_false]at a;rcases a with rfl|rfl|rfl<;>exact⟨by omega,by omega⟩
section
variable {L:List bP} {q v z:Int}
def afT (h:LR L) (b:fM [q,v,z]):fM (flat (L++[⟨q,v,z⟩])):=CW fun x a=>by
 rcases a0m.1 a with h'|h'
 .exact Ph (h.ok x h')
 .rw[a05]at h';subst h';exact b
def aiJ (h:LR L) (a:fM [q,v,z]):Ck 225 [.lit 3 (aM L),bP.av ⟨q,v,z⟩] (.bE [.lit 3 (aM (CT L ⟨q,v,z⟩).1),.i (CT L ⟨q,v,z⟩).2]):=by
 have j:=h.len;have e:=a q (by simp);have d:=a v (by simp);have:=e.lo;have:=e.hi;have:=d.lo;have:=d.hi;have c:=zZ (afT h a) (by simp;omega);unfold CT;rcases(by omega:q<=0\/(1<=q/\v<=-1)\/(1<=q/\0<=v))with g|g|g
 .rw[if_pos (.inl (by simp only;omega))];exact cw _ (ev1 { vars:=By,lens:=KeY } [(L.length:Int),q,v] [.I z] [aM L] .nil) Kbg Ked kn
 .rw[if_pos (.inr (by simp only;omega))];exact cw _ (ev1 { vars:=Wg,lens:=KeY } [(L.length:Int),q,v] [.I z] [aM L] .nil) Kbg Ked kn
 rw[if_neg (by simp only;omega)];by_cases f:30<=L.length
 .rw[if_pos f];exact cw _ (ev1 { vars:=[(30,30),Kdp,Kdq],lens:=KeY } [(L.length:Int),q,v] [.I z] [aM L] .nil) Kbg (.bE [.q 3 0,.i 6]) kn
 rw[if_neg f];generalize lM (L++[⟨q,v,z⟩])=b at *;rw[Ic]at c;cases b with
 |false=>rw[if_neg (by simp)];exact cw _ (ev1 { vars:=Wr,lens:=KeY,bQ:=V3 } [(L.length:Int),q,v] [.I z] [aM L] .nil) Kbg (.bE [.q 3 0,.i 2]) (kc c kn)
 |true=>rw[if_pos rfl];simp only[Ic];exact cw _ (ev1 { vars:=Wr,lens:=KeY,bQ:=[Wh] } [(L.length:Int),q,v] [.I z] [aM L] .nil) Kbg (.bE [(.seq 3 0 [] [[.v 1,.v 2,.o 0]]),.i 0]) (kc c kn)
def Nu (h:LR L) (h1:L.length<=1) (c:fM [q,v,z]):Ck 226 [.lit 3 (aM L),bP.av ⟨q,v,z⟩] (.bE [.lit 3 (aM (zS L ⟨q,v,z⟩).1),.i (zS L ⟨q,v,z⟩).2]):=by
 have l:=h.len;have f:=c q (by simp);have e:=c v (by simp);have:=f.lo;have:=f.hi;have:=e.lo;have:=e.hi;have b:=zZ (afT h c) (by simp;omega);have d:=mP (afT h c);unfold zS CT;rcases(by omega:q<=0\/(1<=q/\v<=-1)\/(1<=q/\0<=v))with h1|h1|h1
 .simp only[if_pos (show q<1\/v<0 from .inl (by omega))];exact cw _ (ev1 { vars:=By,lens:=KeY } [(L.length:Int),q,v] [.I z] [aM L] .nil) Kbg Ked kn
 .simp only[if_pos (show q<1\/v<0 from .inr (by omega))];exact cw _ (ev1 { vars:=Wg,lens:=KeY } [(L.length:Int),q,v] [.I z] [aM L] .nil) Kbg Ked kn
 simp only[if_neg (show ¬(q<1\/v<0)by omega),if_neg (show ¬ 30<=L.length by omega)];rw[Ic]at b d;by_cases a:lM (L++[⟨q,v,z⟩])=true
 .rw[(LR.of a).uL.2]at d
  rw[a]at b;simp only[a,if_true];generalize uL (L++[⟨q,v,z⟩])=t at *;obtain⟨k,j,g⟩:=t;exact cw _ (ev1 { vars:=Ws,lens:=KeY,bQ:=[Wh,(198,Kas,(.bE [(.agg [.o 1,.o 2,.o 3]),.i 0]))] } [(L.length:Int),q,v] [.I z,.I k,.I j,.I g] [aM L] .nil) Kbg (.bE [(.lit 3 [[.o 1,.o 2,.o 3]]),.i 0]) (kc b (kc d kn))
 .have a:lM (L++[⟨q,v,z⟩])=false:=by simpa using a
  rw[a]at b;simp only[a,a2i,if_false];exact cw _ (ev1 { vars:=Ws,lens:=KeY,bQ:=V3 } [(L.length:Int),q,v] [.I z] [aM L] .nil) Kbg (.bE [.q 3 0,.i 2]) (kc b kn)
def oZ {a b c:Int} (g:kS a) (f:kS b) (d:kS c):Ck 148 [.i a,.i b,.i c] (.bE [.i (xD a b c),.i (mdR a b c),.i (Lo a b c)]) :=
 ⟨bL (.c _) (bL (.c _) (bL (.c _) fW)),.bE _ (bL (.c _) (bL (.c _) (bL (.c _) fW))),@amq dY dZ _ [.int .i64 a,.int .i64 b,.int .i64 c] [.int .i64 (xD a b c),.int .i64 (mdR a b c),.int .i64 (Lo a b c)] (fun w=>(xS a b c w g f d).mono fun e w' h=>⟨h.1,h.2▸Below.refl _ _⟩) (by simp)⟩
variable {p0 p1 p2 c:Int}
def aiI {m:Int} (k:1<=m/\m<=4) (h:LR L) (h1:m=1\/L.length<=1) (l:fM [q,v,z]) (F:0<=c/\c<=1073741824) :
  Ck 196 [.i m,.i c,cY.av ⟨L,p0,p1,p2⟩,bP.av ⟨q,v,z⟩] (.bE [cY.av ⟨(eR m c L ⟨q,v,z⟩).1,p0,p1,p2⟩,.i (eR m c L ⟨q,v,z⟩).2.1,.i (eR m c L ⟨q,v,z⟩).2.2]):=by
 have K:=h.len;have p:=l q (by simp);have B:=l v (by simp);have:=p.lo;have:=p.hi;have:=B.lo;have:=B.hi;have er {x:bP}:=@T9 L x;have no {x:bP}:=@ahR L x;have t {x:bP}:=@abL L x;have w {x:bP}:0<=(zS L x).2/\(zS L x).2<=20:=by unfold zS;split;exact⟨by simp,by simp⟩;exact T9
 have n {x:bP}:=(ahS (x:=x) h).len;have u {x:bP}:=(RW (x:=x) h).len;have C:m=1\/m=2\/m=3\/m=4:=by omega
 unfold eR;rcases C with rfl|rfl|rfl|rfl
 .have g:=aiJ h l
  simp only[if_true];have er:=er (x:=⟨q,v,z⟩);have no:=no (x:=⟨q,v,z⟩);have n:=n (x:=⟨q,v,z⟩);generalize CT L ⟨q,v,z⟩=r at *;obtain⟨d,f⟩:=r;simp only at *;by_cases j:f=0
  .subst j;exact cw _ (ev1 { vars:=[(0,30),(0,30)],lens:=KbU,bQ:=[(225,Kbh,Kee)] } [(L.length:Int),(d.length:Int)] [.I p0,.I p1,.I p2,.I q,.I v,.I c,.I z] [aM L,aM d] .nil) Vu HY (kc g kn)
  .rw[no j];exact cw _ (ev1 { vars:=KdQ,lens:=KbU,bQ:=[(225,Kbh,(.bE [.q 3 1,.v 2]))] } [(L.length:Int),(d.length:Int),f] [.I p0,.I p1,.I p2,.I q,.I v,.I c,.I z] [aM L,aM d] .nil) Vu HZ (kc g kn)
 all_goals (have h1:L.length<=1:=by omega)
 .have g:=Nu h h1 l
  simp only[show ¬((2:Int)=1)by decide,if_false,if_true];have er:=w (x:=⟨q,v,z⟩);have no:=t (x:=⟨q,v,z⟩);have n:=u (x:=⟨q,v,z⟩);generalize zS L ⟨q,v,z⟩=r at *;obtain⟨d,f⟩:=r;simp only at *;by_cases j:f=0
  .subst j;exact cw _ (ev1 { vars:=[(0,30),(0,30)],lens:=KbU,bQ:=V4 } [(L.length:Int),(d.length:Int)] [.I p0,.I p1,.I p2,.I q,.I v,.I c,.I z] [aM L,aM d] .nil) Vv HY (kc g kn)
  .rw[no j];exact cw _ (ev1 { vars:=KdQ,lens:=KbU,bQ:=V5 } [(L.length:Int),(d.length:Int),f] [.I p0,.I p1,.I p2,.I q,.I v,.I c,.I z] [aM L,aM d] .nil) Vv HZ (kc g kn)
 .have g:=Nu h h1 l
  simp only[show ¬((3:Int)=1)by decide,show ¬((3:Int)=2)by decide,if_false,if_true];have er:=w (x:=⟨q,v,z⟩);have no:=t (x:=⟨q,v,z⟩);have n:=u (x:=⟨q,v,z⟩);generalize zS L ⟨q,v,z⟩=r at *;obtain⟨d,f⟩:=r;simp only at *;by_cases j:f=0
  .subst j;exact cw _ (ev1 { vars:=[(0,30),(0,30)],lens:=KbU,bQ:=V4 } [(L.length:Int),(d.length:Int)] [.I p0,.I p1,.I p2,.I q,.I v,.I c,.I z] [aM L,aM d] .nil) Vw HY (kc g kn)
  .rw[no j];exact cw _ (ev1 { vars:=KdQ,lens:=KbU,bQ:=V5 } [(L.length:Int),(d.length:Int),f] [.I p0,.I p1,.I p2,.I q,.I v,.I c,.I z] [aM L,aM d] .nil) Vw HZ (kc g kn)
 .simp only[show ¬((4:Int)=1)by decide,show ¬((4:Int)=2)by decide,show ¬((4:Int)=3)by decide,if_false,if_true]
  have s:yR c=true:=Ik.2 F;unfold inC;rcases(by omega:q<=0\/(1<=q/\v<=-1)\/(1<=q/\0<=v))with D|D|D
  .simp only[if_pos (show yR c=false\/q<1\/v<0 from .inr (.inl (by omega)))];exact cw _ (ev1 { vars:=[(0,30),KcU,yU,Ke8],lens:=KeY } [(L.length:Int),q,v,c] [.I p0,.I p1,.I p2,.I z] [aM L] .nil) Vx H3 kn
  .simp only[if_pos (show yR c=false\/q<1\/v<0 from .inr (.inr (by omega)))];exact cw _ (ev1 { vars:=[(0,30),Kdp,KcA,Ke8],lens:=KeY } [(L.length:Int),q,v,c] [.I p0,.I p1,.I p2,.I z] [aM L] .nil) Vx H3 kn
  simp only[if_neg (show ¬(yR c=false\/q<1\/v<0)by rw[s];rintro(h|h|h)<;>first|cases h|omega)];have k:=oZ (a:=q) (b:=c) (c:=1) p ⟨by omega,by omega⟩ ⟨by omega,by omega⟩;obtain⟨J,H,E⟩:=ahl (q:=q) s;rw[show xD q c 1=C8 c q by unfold C8;rw[show max q 0=q by omega],show Lo q c 1=ofE c q by unfold ofE;rw[show max q 0=q by omega]]at k;generalize mdR q c 1=r at k;generalize C8 c q=o at *;generalize ofE c q=f at *;rcases E with rfl|rfl;rotate_left
  .simp only[if_pos (show(2:Int)≠0\/288230376151711744<v from .inl (by decide))]
   obtain⟨f,s⟩:∃f:Int,f=2:=⟨_,rfl⟩;rw[<-s]at k;exact cw _ (ev1 { vars:=[(0,30),Kdp,Kdq,Ke8,KdO,(1,20)],lens:=KeY,bQ:=[(148,[.v 1,.v 3,.i 1],(.bE [.v 4,.o 4,.v 5]))] } [(L.length:Int),q,v,c,o,f] [.I p0,.I p1,.I p2,.I z,.I r] [aM L] .nil) Vx H4 (kc k kn)
  by_cases G:288230376151711744<v
  .simp only[if_pos (show(0:Int)≠0\/288230376151711744<v from .inr G)];exact cw _ (ev1 { vars:=[(0,30),Kdp,DY,Ke8,KdO],lens:=KeY,bQ:=[Gz] } [(L.length:Int),q,v,c,o] [.I p0,.I p1,.I p2,.I z,.I r] [aM L] .nil) Vx H4 (kc k kn)
  simp only[if_neg (show ¬((0:Int)≠0\/288230376151711744<v)by omega)]
  have g:=Nu (q:=q) (v:=o) (z:=z) h h1 (by
   intro y A;simp only[a0d,a0b,or_false]at A;rcases A with rfl|rfl|rfl
   .exact p
   .exact⟨by omega,by omega⟩
   .exact l y (by simp))
  have er:=w (x:=⟨q,o,z⟩);have no:=t (x:=⟨q,o,z⟩);have n:=u (x:=⟨q,o,z⟩);generalize zS L ⟨q,o,z⟩=r at *;obtain⟨d,f⟩:=r;simp only at *;by_cases j:f=0
  .subst j;simp only[if_true];exact cw _ (ev1 { vars:=[(0,30),Kdp,KdO,Ke8,KdO,(0,30)],lens:=[Kfc,(1,[([5],1)])],bQ:=[Gz,(226,[.q 3 0,(.agg [.v 1,.v 4,.o 3])],Kee)] } [(L.length:Int),q,v,c,o,(d.length:Int)] [.I p0,.I p1,.I p2,.I z,.I r] [aM L,aM d] .nil) Vx (.bE [KbF,(.e [([2],1),([4],(-1))]),.i 0]) (kc k (kc g kn))
  .simp only[if_neg j];exact cw _ (ev1 { vars:=[(0,30),Kdp,KdO,Ke8,KdO,(0,30),(1,20)],lens:=[Kfc,(1,[([5],1)])],bQ:=[Gz,(226,[.q 3 0,(.agg [.v 1,.v 4,.o 3])],(.bE [.q 3 1,.v 6]))] } [(L.length:Int),q,v,c,o,(d.length:Int),f] [.I p0,.I p1,.I p2,.I z,.I r] [aM L,aM d] .nil) Vx (.bE [KbE,.i 0,.v 6]) (kc k (kc g kn))
def ae1 {m kind:Int} (A:1<=m/\m<=4) (h:LR L) (h1:m=1\/L.length<=1) (hd:ad1 ⟨p0,p1,p2⟩) (Q:kS q) (hk:0<=kind/\kind<=3) (hc:0<=c/\c<=1073741824) :
  Ck 238 [.i m,.i c,cY.av ⟨L,p0,p1,p2⟩,.i kind,.i q] (.bE [cY.av ⟨(cX m c L ⟨p0,p1,p2⟩ kind q).1,(cX m c L ⟨p0,p1,p2⟩ kind q).2.1.a,(cX m c L ⟨p0,p1,p2⟩ kind q).2.1.b,(cX m c L ⟨p0,p1,p2⟩ kind q).2.1.c⟩,(cX m c L ⟨p0,p1,p2⟩ kind q).2.2.1.av,.c (.bool (cX m c L ⟨p0,p1,p2⟩ kind q).2.2.2.1),.i (cX m c L ⟨p0,p1,p2⟩ kind q).2.2.2.2]):=by
 have hl:=h.len;have:=Q.lo;have:=Q.hi;obtain⟨a0,b0,c0,a1,b1,c1⟩:=hd;simp only at a0 b0 c0 a1 b1 c1;have u:=PC h Q;have F:=abj h (q:=q);have Fv:=TB h (q:=q);have Fi:=ag5 h (q:=q);have Fl:=(nL (q:=q) h).len;have Fn:=EC (l:=L) (q:=q)
 have Fp:(-288230376151711744<=ps (fN L q).1/\ps (fN L q).1<=288230376151711744)/\0<=vs (fN L q).1:=by
  have k:=nL (q:=q) h;have:=Ew (fN L q).1;have:=k.p;have:=(fQ k.ok).2;omega
 have R:=mP (CW fun x Y=>Ph (h.ok x Y));rw[h.uL.1,h.uL.2]at R;obtain⟨ac,ab,aa⟩:=h.bds;have:=fQ h.ok;have:=h.q;have:=h.v;have:=h.p;have:=Ew L;have j:wS L ⟨p0,p1,p2⟩=qs L-p0-p1-p2:=rfl;have S:m=1\/m=2\/m=3\/m=4:=by omega
 unfold cX;rw[if_neg (by omega),if_neg (by omega)];rcases S with rfl|rfl|rfl|rfl
 .rw[if_neg (by omega)]
  simp only[fR,show ¬((1:Int)=3)by decide,show ¬((1:Int)=4)by decide,if_false];generalize fN L q=r at *;obtain⟨d,⟨xq,xv,xp⟩,f⟩:=r;simp only at *;rcases F with⟨rfl,-⟩|⟨j,E,y⟩
  .exact cw _ (ev1 { vars:=Qw,lens:=KbS,bQ:=Vy } [(L.length:Int),q,kind,(d.length:Int),xq,xv,xp] [.I p0,.I p1,.I p2,.I c] [aM L,aM d] .nil) Hi ZN (kc u kn)
  .simp only[bP.zero,bP.mk.injEq]at y;obtain⟨J,H,G⟩:=y;rw[E,J,H,G];exact cw _ (ev1 { vars:=J8,lens:=KbS,bQ:=Vz } [(L.length:Int),q,kind,(d.length:Int),xq,xv,xp,f] [.I p0,.I p1,.I p2,.I c] [aM L,aM d] .nil) Hi ZO (kc u kn)
 .rw[if_neg (by omega)]
  simp only[fR,show ¬((2:Int)=3)by decide,show ¬((2:Int)=4)by decide,if_false];generalize fN L q=r at *;obtain⟨d,⟨xq,xv,xp⟩,f⟩:=r;simp only at *;rcases F with⟨rfl,-⟩|⟨j,E,y⟩
  .exact cw _ (ev1 { vars:=Qw,lens:=KbS,bQ:=Vy } [(L.length:Int),q,kind,(d.length:Int),xq,xv,xp] [.I p0,.I p1,.I p2,.I c] [aM L,aM d] .nil) Hj ZN (kc u kn)
  .simp only[bP.zero,bP.mk.injEq]at y;obtain⟨J,H,G⟩:=y;rw[E,J,H,G];exact cw _ (ev1 { vars:=J8,lens:=KbS,bQ:=Vz } [(L.length:Int),q,kind,(d.length:Int),xq,xv,xp,f] [.I p0,.I p1,.I p2,.I c] [aM L,aM d] .nil) Hj ZO (kc u kn)
 .have h3:L.length<=1:=by omega
  obtain⟨tq,C⟩:∃t,t=qs L:=⟨_,rfl⟩;obtain⟨tv,B⟩:∃t,t=vs L:=⟨_,rfl⟩;obtain⟨tp,D⟩:∃t,t=ps L:=⟨_,rfl⟩;have g:=R;rw[<-C,<-B,<-D]at g;have M:kind=0\/kind=1\/kind=2\/kind=3:=by omega
  by_cases K:q<1
  .rcases M with rfl|rfl|rfl|rfl
   .simp only[qB,if_pos (show(3:Int)=3/\(0:Int)≠3 by decide),if_pos (show(0:Int)<0\/3<=(0:Int)\/q<1 by omega)];exact cw _ (ev1 { vars:=KaV,lens:=KeY } [(L.length:Int),q] [.I p0,.I p1,.I p2,.I c] [aM L] .nil) [.i 3,.o 3,KbE,.i 0,.v 1] ZP kn
   .simp only[qB,if_pos (show(3:Int)=3/\(1:Int)≠3 by decide),if_pos (show(1:Int)<0\/3<=(1:Int)\/q<1 by omega)];exact cw _ (ev1 { vars:=KaV,lens:=KeY } [(L.length:Int),q] [.I p0,.I p1,.I p2,.I c] [aM L] .nil) [.i 3,.o 3,KbE,.i 1,.v 1] ZP kn
   .simp only[qB,if_pos (show(3:Int)=3/\(2:Int)≠3 by decide),if_pos (show(2:Int)<0\/3<=(2:Int)\/q<1 by omega)];exact cw _ (ev1 { vars:=KaV,lens:=KeY } [(L.length:Int),q] [.I p0,.I p1,.I p2,.I c] [aM L] .nil) [.i 3,.o 3,KbE,.i 2,.v 1] ZP kn
   .simp only[fR,AO,if_neg (show ¬((3:Int)=3/\(3:Int)≠3)by decide),if_true,if_pos K];exact cw _ (ev1 { vars:=KaV,lens:=KeY } [(L.length:Int),q] [.I p0,.I p1,.I p2,.I c] [aM L] .nil) [.i 3,.o 3,KbE,.i 3,.v 1] ZP kn
  by_cases n:qs L-p0-p1-p2<q
  .rcases M with rfl|rfl|rfl|rfl
   .simp only[qB,j,if_pos (show(3:Int)=3/\(0:Int)≠3 by decide),if_neg (show ¬((0:Int)<0\/3<=(0:Int)\/q<1)by omega),if_pos n];exact cw _ (ev1 { vars:=Jm,facts:=UC,lens:=KeY,bQ:=WG } [(L.length:Int),p0,p1,p2,tq,tv,tp,q] [.I c] [aM L] .nil) Hl ZQ (kc g kn)
   .simp only[qB,j,if_pos (show(3:Int)=3/\(1:Int)≠3 by decide),if_neg (show ¬((1:Int)<0\/3<=(1:Int)\/q<1)by omega),if_pos n];exact cw _ (ev1 { vars:=Jm,facts:=UC,lens:=KeY,bQ:=WG } [(L.length:Int),p0,p1,p2,tq,tv,tp,q] [.I c] [aM L] .nil) Hm ZQ (kc g kn)
   .simp only[qB,j,if_pos (show(3:Int)=3/\(2:Int)≠3 by decide),if_neg (show ¬((2:Int)<0\/3<=(2:Int)\/q<1)by omega),if_pos n];exact cw _ (ev1 { vars:=Jm,facts:=UC,lens:=KeY,bQ:=WG } [(L.length:Int),p0,p1,p2,tq,tv,tp,q] [.I c] [aM L] .nil) Hn ZQ (kc g kn)
   .simp only[fR,AO,j,if_neg (show ¬((3:Int)=3/\(3:Int)≠3)by decide),if_true,if_neg K,if_pos n];exact cw _ (ev1 { vars:=Jm,facts:=UC,lens:=KeY,bQ:=WG } [(L.length:Int),p0,p1,p2,tq,tv,tp,q] [.I c] [aM L] .nil) Ho ZQ (kc g kn)
  .rcases M with rfl|rfl|rfl|rfl
   .simp only[qB,uH.add,j,if_pos (show(3:Int)=3/\(0:Int)≠3 by decide),if_neg (show ¬((0:Int)<0\/3<=(0:Int)\/q<1)by omega),if_neg n,if_true];exact cw _ (ev1 { vars:=Jo,facts:=U9,lens:=KeY,bQ:=WG } [(L.length:Int),p0,p1,p2,tq,tv,tp,q] [.I c] [aM L] .nil) Hl (.bE [(.agg [.q 3 0,(.e [([1],1),([7],1)]),.v 2,.v 3]),Kdo,KeF,.i 0]) (kc g kn)
   .simp only[qB,uH.add,j,if_pos (show(3:Int)=3/\(1:Int)≠3 by decide),if_neg (show ¬((1:Int)<0\/3<=(1:Int)\/q<1)by omega),if_neg n,if_neg (show ¬((1:Int)=0)by decide),if_true];exact cw _ (ev1 { vars:=Jo,facts:=U9,lens:=KeY,bQ:=WG } [(L.length:Int),p0,p1,p2,tq,tv,tp,q] [.I c] [aM L] .nil) Hm (.bE [(.agg [.q 3 0,.v 1,(.e [([2],1),([7],1)]),.v 3]),Kdo,KeF,.i 0]) (kc g kn)
   .simp only[qB,uH.add,j,if_pos (show(3:Int)=3/\(2:Int)≠3 by decide),if_neg (show ¬((2:Int)<0\/3<=(2:Int)\/q<1)by omega),if_neg n,if_neg (show ¬((2:Int)=0)by decide),if_neg (show ¬((2:Int)=1)by decide),if_true];exact cw _ (ev1 { vars:=Jo,facts:=U9,lens:=KeY,bQ:=WG } [(L.length:Int),p0,p1,p2,tq,tv,tp,q] [.I c] [aM L] .nil) Hn (.bE [(.agg [.q 3 0,.v 1,.v 2,(.e [([3],1),([7],1)])]),Kdo,KeF,.i 0]) (kc g kn)
   .simp only[fR,AO,j,if_neg (show ¬((3:Int)=3/\(3:Int)≠3)by decide),if_true,if_neg K,if_neg n]
    generalize fN L q=r at *;obtain⟨d,⟨xq,xv,xp⟩,f⟩:=r;simp only at *;rcases F with⟨rfl,-⟩|⟨j,-⟩
    .exact cw _ (ev1 { vars:=[(0,30),KdO,KdO,KdO,KdO,KdO,jB,KdN,(0,30),KdO,KdO,DZ],facts:=U9,lens:=[Kfc,(1,[([8],1)])],bQ:=[Hk,(215,[.q 3 0,.v 7],(.bE [.q 3 1,(.agg [.v 9,.v 10,.v 11]),.i 0]))] } [(L.length:Int),p0,p1,p2,tq,tv,tp,q,(d.length:Int),xq,xv,xp] [.I c] [aM L,aM d] .nil) Ho (.bE [(.agg [.q 3 1,.v 1,.v 2,.v 3]),(.agg [.v 9,.v 10,.v 11]),Kev,.i 0]) (kc g (kc u kn))
    .omega
 .have h3:L.length<=1:=by omega
  have N:yR c=true:=Ik.2 hc;rw[if_neg (by omega)];simp only[fR,show ¬((4:Int)=3)by decide,if_false,if_true];unfold CQ;rw[if_neg (by rw[N];simp)];have A:=oZ (a:=q) (b:=c) (c:=1) Q ⟨by omega,by omega⟩ ⟨by omega,by omega⟩;obtain⟨o0,o1,X⟩:=ahl (q:=q) N;obtain⟨tq,C⟩:∃t,t=qs L:=⟨_,rfl⟩;obtain⟨tv,B⟩:∃t,t=vs L:=⟨_,rfl⟩;obtain⟨tp,D⟩:∃t,t=ps L:=⟨_,rfl⟩;have g:=R;rw[<-C,<-B,<-D]at g;generalize fN L q=r at *;obtain⟨d,⟨xq,xv,xp⟩,f⟩:=r;simp only at *;rcases F with⟨rfl,g1,g2,g3,V,U,T⟩|⟨j,E,y⟩;rotate_left
  .simp only[bP.zero,bP.mk.injEq]at y
   obtain⟨J,H,G⟩:=y;have W:Ck 238 [.i 4,.i c,cY.av ⟨L,p0,p1,p2⟩,.i kind,.i q] (.bE [cY.av ⟨L,p0,p1,p2⟩,bP.av ⟨0,0,0⟩,.c (.bool false),.i f]):=cw _ (ev1 { vars:=[(0,30),Ke8,yU,(0,3),(0,30),KdO,KdO,DZ,(1,20)],lens:=KbV,bQ:=[(215,[.q 3 0,.v 2],(.bE [.q 3 1,Kdt,.v 8]))] } [(L.length:Int),c,q,kind,(d.length:Int),xq,xv,xp,f] [.I p0,.I p1,.I p2] [aM L,aM d] .nil) Hp (.bE [KbE,Kdo,Kev,.v 8]) (kc u kn);rw[J,H,G];cases d with
   |nil=>subst E;exact W
   |cons z t=>simp only[if_pos (show f≠0 by omega)];subst E;exact W
  rw[show xD q c 1=C8 c q by unfold C8;rw[show max q 0=q by omega],show Lo q c 1=ofE c q by unfold ofE;rw[show max q 0=q by omega]]at A;generalize mdR q c 1=r at A;generalize C8 c q=o at *;generalize ofE c q=f at *;match d,Fn with
  |[],Fn =>
   show Ck 238 [.i 4,.i c,cY.av ⟨L,p0,p1,p2⟩,.i kind,.i q] (.bE [cY.av ⟨[],p0,p1,p2⟩,bP.av ⟨xq,xv,xp⟩,.c (.bool false),.i 0]);obtain⟨d,w⟩:∃d:List bP,d=[]:=⟨_,rfl⟩;rw[<-w]at u |-;have w:d.length=0:=by rw[w];rfl
   exact cw _ (ev1 { vars:=[(0,30),Ke8,KdN,(0,3),(0,0),KdO,KdO,DZ],lens:=KbV,bQ:=[VI] } [(L.length:Int),c,q,kind,(d.length:Int),xq,xv,xp] [.I p0,.I p1,.I p2] [aM L,aM d] .nil) Hp (.bE [KbF,Kdt,Kev,.i 0]) (kc u kn)
  |[⟨O,s,P⟩],Fn =>
   obtain⟨d,w⟩:∃d:List bP,d=[⟨O,s,P⟩]:=⟨_,rfl⟩;rw[<-w]at u;have w:d.length=1:=by rw[w];rfl
   rw[<-C]at g2 V;rw[<-B]at U;rw[<-D]at T;simp only[qs,vs,ps,a0r,a1x,a0p,a2e,a1i]at V U T Fp;simp only[show ¬((0:Int)≠0)by simp,if_false];rcases X with rfl|rfl
   .by_cases Z:s+xv<o
    .simp only[if_pos (show(0:Int)≠0\/s+xv<o from .inr Z)]
     rw[show O=-q+tq by omega,show s+(xv-(s+xv))=0 by omega,show s+xv=tv by omega,show P=-xp+tp by omega];exact cw _ (ev1 { vars:=KL,facts:=[([([9],-1),([11],1)],1,288230376151711744),Wc,DI],lens:=KbV,bQ:=K9 } [(L.length:Int),c,q,kind,(d.length:Int),xq,xv,xp,tq,tv,tp,o] [.I p0,.I p1,.I p2,.I r] [aM L,aM d] .nil) Hp Jn (kc u (kc g (kc A kn)))
    .simp only[if_neg (show ¬((0:Int)≠0\/s+xv<o)by omega)]
     rw[show O=-q+tq by omega,show s+(xv-o)=tv-o by omega,show P=-xp+tp by omega];exact cw _ (ev1 { vars:=KL,facts:=[([([9],-1),([11],1)],-288230376151711744,0),Wc,DI],lens:=KbV,bQ:=K9 } [(L.length:Int),c,q,kind,(d.length:Int),xq,xv,xp,tq,tv,tp,o] [.I p0,.I p1,.I p2,.I r] [aM L,aM d] .nil) Hp (.bE [(.agg [(.lit 3 [[(.e [([2],(-1)),([8],1)]),(.e [([9],1),([11],(-1))]),(.e [([7],(-1)),([10],1)])]]),.o 0,.o 1,.o 2]),(.agg [.v 5,.v 11,.v 7]),Kev,.i 0]) (kc u (kc g (kc A kn)))
   .simp only[if_pos (show(2:Int)≠0\/s+xv<o from .inl (by decide))]
    obtain⟨f,j⟩:∃f:Int,f=2:=⟨_,rfl⟩;rw[<-j]at A;rw[show O=-q+tq by omega,show s+(xv-(s+xv))=0 by omega,show s+xv=tv by omega,show P=-xp+tp by omega];exact cw _ (ev1 { vars:=[(0,30),Ke8,KdN,(0,3),(1,1),KdO,KdO,DZ,KdO,KdO,jB,KdO,(1,20)],facts:=[Wc,DI],lens:=KbV,bQ:=[VI,WP,(148,[.v 2,.v 1,.i 1],(.bE [.v 11,.o 3,.v 12]))] } [(L.length:Int),c,q,kind,(d.length:Int),xq,xv,xp,tq,tv,tp,o,f] [.I p0,.I p1,.I p2,.I r] [aM L,aM d] .nil) Hp Jn (kc u (kc g (kc A kn)))
  |z::z'::t,Fn=>simp at Fn;omega
def qG (h:LR L):Ck 146 [cY.av ⟨L,p0,p1,p2⟩] (bP.av ⟨qs L,vs L,ps L⟩):=by
 have f:=h.len;have a:=mP (CW fun x e=>Ph (h.ok x e));rw[h.uL.1,h.uL.2]at a;generalize qs L=d at *;generalize vs L=c at *;generalize ps L=b at *;exact cw _ (ev1 { vars:=[(0,30)],lens:=KeY,bQ:=WH } [(L.length:Int)] [.I p0,.I p1,.I p2,.I d,.I c,.I b] [aM L] .nil) [KbE] Kdn (kc a kn)
def ab3 {m:Int} (r:1<=m/\m<=4) (h:LR L) (j:ad1 ⟨p0,p1,p2⟩):Ck 221 [.i m,cY.av ⟨L,p0,p1,p2⟩] (.i (if m=3 then wS L ⟨p0,p1,p2⟩else qs L)):=by
 have s:=h.len;have d:=mP (CW fun x g=>Ph (h.ok x g));rw[h.uL.1,h.uL.2]at d;have:=fQ h.ok;have:=h.q;have:=h.v;have:=h.p;have:=Ew L;have f:m=1\/m=2\/m=3\/m=4:=by omega
 rcases f with rfl|rfl|rfl|rfl
 .rw[if_neg (by decide)];generalize qs L=c at *;generalize vs L=b at *;generalize ps L=a at *;exact cw _ (ev1 { vars:=[(0,30)],lens:=KeY,bQ:=WH } [(L.length:Int)] [.I p0,.I p1,.I p2,.I c,.I b,.I a] [aM L] .nil) [.i 1,KbE] (.o 3) (kc d kn)
 .rw[if_neg (by decide)];generalize qs L=c at *;generalize vs L=b at *;generalize ps L=a at *;exact cw _ (ev1 { vars:=[(0,30)],lens:=KeY,bQ:=WH } [(L.length:Int)] [.I p0,.I p1,.I p2,.I c,.I b,.I a] [aM L] .nil) [.i 2,KbE] (.o 3) (kc d kn)
 .rw[if_pos rfl,show wS L ⟨p0,p1,p2⟩=qs L-p0-p1-p2 from rfl]
  obtain⟨a0,b0,l,n,b1,k⟩:=j;simp only at a0 b0 l n b1 k;generalize qs L=tq at *;generalize vs L=tv at *;generalize ps L=tp at *;rw[show tq-p0-p1-p2=-p0-p1-p2+tq by omega];exact cw _ (ev1 { vars:=[(0,30),KdO,KdO,KdO,KdO,KdO,jB],lens:=KeY,bQ:=WG } [(L.length:Int),p0,p1,p2,tq,tv,tp] [] [aM L] .nil) [.i 3,KbG] (.e [([1],(-1)),([2],(-1)),([3],(-1)),([4],1)]) (kc d kn)
 .rw[if_neg (by decide)];generalize qs L=c at *;generalize vs L=b at *;generalize ps L=a at *;exact cw _ (ev1 { vars:=[(0,30)],lens:=KeY,bQ:=WH } [(L.length:Int)] [.I p0,.I p1,.I p2,.I c,.I b,.I a] [aM L] .nil) [.i 4,KbE] (.o 3) (kc d kn)
def ab4 (c:L.length<=30) (b:0<=p0/\p0<=288230376151711744) (a:1<=q/\q<=1073741824):Ck 218 [cY.av ⟨L,p0,p1,p2⟩,.i 0,.i q] (.bE [cY.av ⟨L,if p0<q then p0 else p0-q,p1,p2⟩,.i (if p0<q then 5 else 0)]):=by
 by_cases h:p0<q
 .rw[if_pos h,if_pos h];exact cw _ (ev1 { vars:=GA,facts:=[(Kew,-1073741824,-1)],lens:=KeY } [(L.length:Int),p0,q] [.I p0,.I p1,.I p2] [aM L] .nil) Du (.bE [(.agg [.q 3 0,.v 1,.o 1,.o 2]),.i 5]) kn
 .rw[if_neg h,if_neg h];exact cw _ (ev1 { vars:=GA,facts:=[(Kew,0,288230376151711744)],lens:=KeY } [(L.length:Int),p0,q] [.I p0,.I p1,.I p2] [aM L] .nil) Du (.bE [(.agg [.q 3 0,(.e [([1],1),([2],(-1))]),.o 1,.o 2]),.i 0]) kn
end
end
section
variable {x:cU} {j:Nat}
def akg {y:cU} (h1:x.a=y.a) (b:x.n=y.n):x=y:=by cases x;cases y;simp only at h1 b;rw[h1,b]
def Er (x:cU) (w:World):Calls Tryz.prog 82 #[x.val] w fun e w'=>e=.returned (.bool (!pB x))/\Below w.heap.size w w':=by
 obtain⟨a,n⟩:=x;unfold cU.val;generalize c:(!pB ⟨a,n⟩)=r;have b:=Lib.hid c;clear c;go_enter Tryz.func82,Tryz.ntmps82;by_cases f:0<=a
 .by_cases d:a<17
  .have e:r=mJ n:=by rw[<-b.out];simp[pB,zQ,f,d]
   clear b;subst e;go_wp2_with (go_at_call 144;refine(sZ _ _).mono ?_;rintro e w' ⟨rfl,rfl⟩);go_ret;exact⟨rfl,blw⟩
  .have e:r=false:=by rw[<-b.out];simp[pB,zQ,d]
   clear b;subst e;go_wp2_with (go_at_call 144;refine(sZ _ _).mono ?_;rintro e w' ⟨rfl,rfl⟩);go_ret;exact⟨rfl,blw⟩
 .have e:r=false:=by rw[<-b.out];simp[pB,zQ,f]
  clear b;subst e;go_wp2_with (go_at_call 144;refine(sZ _ _).mono ?_;rintro e w' ⟨rfl,rfl⟩);go_ret;exact⟨rfl,blw⟩
def Pj {l:List cU} (p:cU->Bool) (a:l[j]?=some x):(l.take (j+1)).any p=((l.take j).any p||p x):=by
 rw[a0u,a];simp
def adl {l:List cU} {p:cU->Bool} (a:l[j]?=some x) (h:p x=true):l.any p=true:=a1u.2 ⟨x,a0a a,h⟩
def afn {l:List cU} (a:l[j]?=some x):eY (l.take (j+1))=eY (l.take j)++[x.n]:=by
 rw[a0u,a];simp[eY]
def anR {l:List cU} (h:fM (dV l)):fM (eY l):=fun z a=>by
 obtain⟨x,b,rfl⟩:=a0j.1 a;exact(aeQ h b).2
def anK (x:cU):Oy x=(pB x||decide (x.n=0)):=by
 unfold Oy pB;cases zQ x.a<;>cases mJ x.n<;>cases decide (x.n=0)<;>rfl
def aaV (a:Option Addr) (cap:Nat) (l:List cU) (w:World) (h:Row w 2 a l.length cap (dV l)) (hn:l.length<=1000000) :
  Calls Tryz.prog 200 #[.slice a l.length cap] w fun e w'=>e=.returned (.bool (pA l))/\Below w.heap.size w w':=by
 obtain⟨n,K⟩:∃n,l.length=n:=⟨_,rfl⟩;have W:=h.all;have F:=h.at_;have R:=h.max;have ab:=h.le;unfold maxLen at R;clear h;rw[K]at hn F ab |-;have H:pA l=(decide (1<=n)&&decide (n<=12)&&!(l.any Oy)&&decide (dP (eY l)=0)&&decide (eB (eY l)=0)):=by unfold pA;rw[K]
 have S:l.any Oy=true->pA l=false:=fun h=>by rw[H,h];simp
 obtain⟨r,D⟩:∃r,pA l=r:=⟨_,rfl⟩;rw[D]at H S |-;have U:=Lib.hid H;have ac:=Lib.hid S;have P:=Lib.hid K;clear H S K D;go_enter Tryz.func200,Tryz.ntmps200;go_wp2_with fail;go_loopw [3,4] (fun v i wr=>∃j:Nat,j<=n/\i=.int .i64 j/\Hid ((l.take j).any Oy=false)/\gZ wr w.heap.size 3 1 v j (eY (l.take j))/\Below w.heap.size w wr) (fun _ i _=>n-(intOf i).toNat)
 case atStart=>exact⟨0,by omega,rfl,rfl,gZ.nil _ _ _ _,Below.refl _ _⟩
 case round =>
  obtain⟨j,hj,rfl,z,T,c⟩:=hrel;have Z:=c.size;by_cases aa:j<n
  .obtain⟨b,off,rfl,hb,f⟩:∃b off,a=some ⟨b,off,none⟩/\b<w.heap.size/\cD w b off (dV l):=by
    rcases F with h0|h0
    .omega
    .exact h0
   obtain⟨x,C⟩:∃x,l[j]?=some x:=⟨l[j]'(by rw[P.out];exact aa),a0f _⟩;have M:=f.below hb c;have ag:(j:Int)<(n:Int):=(by omega);have ak:(0:Int)<=(j:Int):=(by omega);have B:=Pj Oy C;rw[z.out,Bool.false_or]at B;have m:Oy x=true->r=false:=fun h=>ac.out (adl C h);have eh:=Lib.hid (afn C);obtain⟨c0,c1⟩:=M.line C;have ai:=Lib.hid C;have N:b<wr.heap.size:=a0x hb Z;have q:=anK x;clear f C F M;obtain⟨G,t⟩:=x;simp only at c0 c1 eh;cases d:pB ⟨G,t⟩with
   |true =>
    have D:=m (by rw[q,d];rfl);subst D;clear m B q;go_wp2_with fail;refine(Er ⟨G,t⟩ _).mono ?_;rw[d];rintro e s ⟨rfl,o⟩;clear d;go_wp2_with fail;go_ret;exact⟨rfl,blw⟩
   |false =>
    by_cases I:t=0
    .have D:=m (by rw[q,d];simp[I])
     subst D;subst I;clear m B q;go_wp2_with fail;refine(Er ⟨G,0⟩ _).mono ?_;rw[d];rintro e s ⟨rfl,o⟩;have af:=(o.cell (p:=⟨b,off+j*2+1,none⟩) N).trans c1;clear d;go_wp2_with fail;go_ret;exact⟨rfl,blw⟩
    .rw[q,d,show(decide (t=0))=false from decide_eq_false I]at B
     have Y:=Lib.hid B;have ah:(t==0)=false:=by rw[beq_eq_false_iff_ne];exact I
     clear m B q;go_wp2_with fail;refine(Er ⟨G,t⟩ _).mono ?_;rw[d];rintro e s ⟨rfl,o⟩;have af:=(o.cell (p:=⟨b,off+j*2+1,none⟩) N).trans c1;have T1:=T.below o;have ad:Below w.heap.size w s:=blw;have aj:=ad.size;clear d o T c;go_wp2_with (at_builtin;refine uN _ rfl _ _ 22 rfl w.heap.size 3 1 Np _ j (eY (l.take j)) rfl (T1.alloc _) s.heap.size 0 1 [t] rfl rfl (ao7 rfl) ?c1 ?c2 ?_)
     case c1=>omega
     case c2=>simp;omega
     intro l' w2 y O;rw[<-eh.out]at y;have J:Below w.heap.size w w2:=Below.trans blw O;clear T1 O;go_wp2_with fail;go_roundw
     case rel=>exact⟨j+1,by omega,by go_num,Y,y,J⟩
     case measure=>simp[intOf];omega
  .have ej:j=n:=by omega
   subst ej;have al:¬ (j:Int)<(j:Int):=by omega
   have L:l.take j=l:=a1l (by rw[P.out];omega);rw[L]at z T;obtain⟨a1,c1,rfl,R1⟩:=T.row (anR W);have f:=U.out;rw[z.out]at f;obtain⟨V,hV⟩:∃V,dP (eY l)=V:=⟨_,rfl⟩;obtain⟨E,hE⟩:∃E,eB (eY l)=E:=⟨_,rfl⟩;have u:=Rg a1 j c1 (eY l) wr R1;rw[hV,hE]at f u;have g:=Lib.hid u;clear L z T hV hE u R1;by_cases h1:1<=j
   .by_cases h2:j<=12
    .have Q:(1:Int)<=(j:Int):=by omega
     have ae:(j:Int)<=12:=(by omega);have A:r=(decide (E=0)&&decide (V=0)):=by rw[f];simp[h1,h2,Bool.and_comm]
     by_cases X:E=0
     .subst X
      have k:r=decide (V=0):=by rw[A];simp
      subst k;clear f A;go_wp2_with fail;refine g.out.mono ?_;rintro e s ⟨rfl,rfl⟩;go_wp2_with fail;go_ret;exact⟨lT (by rw[a4a];simp),c⟩
     .have k:r=false:=by rw[A];simp[X]
      subst k;have am:(E==0)=false:=by rw[beq_eq_false_iff_ne];exact X
      clear f A;go_wp2_with fail;refine g.out.mono ?_;rintro e s ⟨rfl,rfl⟩;go_wp2_with fail;go_ret;exact⟨rfl,c⟩
    .have Q:(1:Int)<=(j:Int):=by omega
     have ae:¬ (j:Int)<=12:=(by omega);have k:r=false:=by rw[f];simp[h2]
     subst k;clear f;go_wp2_with fail;refine g.out.mono ?_;rintro e s ⟨rfl,rfl⟩;go_wp2_with fail;go_ret;exact⟨by first|rfl|exact lT (by simp;omega),c⟩
   .have Q:¬ (1:Int)<=(j:Int):=by omega
    have k:r=false:=by rw[f];simp[h1]
    subst k;clear f;go_wp2_with fail;refine g.out.mono ?_;rintro e s ⟨rfl,rfl⟩;go_wp2_with fail;go_ret;exact⟨by first|rfl|exact lT (by simp;omega),c⟩
def val (l:List cU) (a:Int):Int:=(gT l a).sum
def FQ (f:Int->Int):List cU:=((List.range 17).map fun(a:Nat)=>(⟨(a:Int),f (a:Int)⟩:cU)).filter (fun x=>!jU x)
def MO {f:Int->Int}:x∈FQ f↔0<=x.a/\x.a<17/\x.n=f x.a/\x.n≠0:=by
 unfold FQ;simp only[List.mem_filter,a0j,a0t];constructor
 .rintro⟨⟨a,g,rfl⟩,b⟩
  simp[jU]at b;exact⟨by simp only;omega,by simp only;omega,rfl,b⟩
 .rintro⟨e,h,d,c⟩
  refine⟨⟨x.a.toNat,by omega,?_⟩,by simp[jU,c]⟩;rw[a1w e];exact akg rfl d.symm
def Oe (f:Int->Int):NR (FQ f):=by
 unfold FQ;refine List.Pairwise.filter _ ?_;rw[List.pairwise_map];refine(a23 (n:=17)).imp fun{a b} c=>?_
 simp only;omega
def PS (l m:List cU) (a:Int):val (l++m) a=val l a+val m a:=by simp[val,gT,eY,a1a]
def bY (x:cU) (m:List cU) (a:Int):val (x::m) a=(if x.a=a then x.n else 0)+val m a:=by
 unfold val gT eY;by_cases h:x.a=a
 .simp[h]
 .simp[h]
def cJ (a:Int):val [] a=0:=rfl
def L5:∀(l:List cU),NR l->∀a,(∀x,x∈l->x.a=a->val l a=x.n)/\((∀x,x∈l->x.a≠a)->val l a=0)
 |[],_,a=>⟨fun x b=>by simp at b,fun _=>rfl⟩
 |y::l,h,a=>by
  have f:=a2b.1 h;have c:=L5 l f.2 a;rw[bY];constructor
  .intro x b e
   rcases a0d.1 b with rfl|b
   .rw[if_pos e,c.2 fun z d g=>by have:=f.1 z d;omega]
    omega
   .have:=f.1 x b
    rw[if_neg (by omega),c.1 x b e];omega
  .intro b
   rw[if_neg (b y (by simp)),c.2 fun z d=>b z (by simp[d])];rfl
def aa6 {f:Int->Int} {a:Int} (d:0<=a) (h1:a<17):val (FQ f) a=f a:=by
 have h:=L5 (FQ f) (Oe f) a;by_cases b:f a=0
 .rw[b]
  refine h.2 fun x c e=>?_;have:=MO.1 c;rw[e]at this;omega
 .exact h.1 ⟨a,f a⟩ (MO.2 ⟨d,h1,rfl,b⟩) rfl
def SQ (n:Nat):((List.range n).map fun _=>(0:Int)).sum=0:=by induction n with|zero=>rfl|succ n a=>rw[a1v,a03,a1h,a];rfl
def ajp:∀(n:Nat) (a v:Int),0<=a->a<n->((List.range n).map fun(k:Nat)=>if a=(k:Int)then v else 0).sum=v:=by
 intro n;induction n with
 |zero=>intro a v b f;omega
 |succ n c =>
  intro a v b f;rw[a1v,a03,a1h];simp only[a0r,a1x,a0p,a2e,a1i];by_cases e:a=(n:Int)
  .rw[if_pos e]
   have:((List.range n).map fun(k:Nat)=>if a=(k:Int)then v else 0).sum=0:=by
    have:((List.range n).map fun(k:Nat)=>if a=(k:Int)then v else 0)=(List.range n).map fun _=>(0:Int):=by
     refine a01 fun k d=>if_neg ?_;have:=a0t.1 d;omega
    rw[this];exact SQ n
   omega
  .rw[if_neg e,c a v b (by omega)]
   omega
def sum_add (l:List Nat) (f g:Nat->Int):(l.map fun k=>f k+g k).sum=(l.map f).sum+(l.map g).sum:=by
 induction l with
 |nil=>rfl
 |cons k l a=>simp only[a0r,a0p,a];omega
def OH:∀(l:List cU),(∀x,x∈l->0<=x.a/\x.a<17)->((List.range 17).map fun(k:Nat)=>val l (k:Int)).sum=(eY l).sum
 |[],_=>by show((List.range 17).map fun _=>(0:Int)).sum=0;exact SQ 17
 |x::l,h=>by
  have c:=OH l fun y d=>h y (by simp[d]);have b:=h x (by simp)
  have:((List.range 17).map fun(k:Nat)=>val (x::l) (k:Int))=(List.range 17).map fun(k:Nat)=>(if x.a=(k:Int)then x.n else 0)+val l (k:Int) :=
   a01 fun k _=>bY x l k
  rw[this,sum_add,c,ajp 17 x.a x.n b.1 b.2];simp[eY]
def acQ {a b:Int} (h:gD a b=true) (w:World):Calls Tryz.prog 83 #[.int .i64 a,.int .i64 b] w fun e w'=>e=.returned (.tuple #[.int .i64 (a+b),.int .i64 0])/\w=w':=by
 have:=Am a b w;unfold mY mZ at this;rw[h]at this;exact this
def acR {a b:Int} (h:gD a b=false) (w:World):Calls Tryz.prog 83 #[.int .i64 a,.int .i64 b] w fun e w'=>e=.returned (.tuple #[.int .i64 0,.int .i64 2])/\w=w':=by
 have:=Am a b w;unfold mY mZ at this;rw[h]at this;exact this
def Oq {l:List Int} {i:Nat} {v:Int} (h:i<l.length):(l.set i v).getD i 0=v:=by
 rw[a0c,a3j h];rfl
def Ng {l:List Int} {i:Nat} {v:Int} (h:i≠j):(l.set i v).getD j 0=l.getD j 0:=by
 rw[a0c,a3a h,<-a0c]
def mH (P:List cU):List Int:=(List.range 17).map fun(a:Nat)=>dP (gT P (a:Int))
def pQ (P:List cU):(mH P).length=17:=by simp[mH]
def Ih (P:List cU) {a:Nat} (h:a<17):(mH P).getD a 0=dP (gT P (a:Int)):=by simp[mH,a0c,h]
def Sound (P:List cU):Prop:=∀a:Nat,a<17->dM 0 (gT P (a:Int))=some ((mH P).getD a 0)
def Sound.nil:Sound []:=fun a h=>by rw[Ih _ h];rfl
def Sound.more {P:List cU} (h:Sound P) (o:0<=x.a) (h1:x.a<17) (j:gD ((mH P).getD x.a.toNat 0) x.n=true) :
  Sound (P++[x])/\mH (P++[x])=(mH P).set x.a.toNat ((mH P).getD x.a.toNat 0+x.n):=by
 have f:(x.a.toNat:Int)=x.a:=a1w o
 have l:dM 0 (gT (P++[x]) x.a)=some ((mH P).getD x.a.toNat 0+x.n):=by
  have:=h x.a.toNat (by omega);rw[f]at this;rw[sM,if_pos rfl,uO _ _ _ this,j];rfl
 have key:∀a:Nat,a<17->dM 0 (gT (P++[x]) (a:Int))=some (((mH P).set x.a.toNat ((mH P).getD x.a.toNat 0+x.n)).getD a 0):=by
  intro a b;by_cases e:x.a.toNat=a
  .subst e
   rw[f,l,Oq (by rw[pQ];omega)]
  .rw[sM,if_neg (by omega),h a b,Ng e]
 have e:mH (P++[x])=(mH P).set x.a.toNat ((mH P).getD x.a.toNat 0+x.n):=by
  apply a26
  .rw[pQ,a1d,pQ]
  .intro i c m
   have d:i<17:=by rw[pQ]at c;exact c
   have k:=key i d;have g:=Ih (P++[x]) d;rw[(lX k).1]at g;rw[a0c,a0f c,a0c,a0f m]at g;exact g
 exact⟨fun a b=>by rw[e];exact key a b,e⟩
def Sound.stop {l:List cU} (h:Sound (l.take j)) (b:l[j]?=some x) (c:l.any pB=false) (e:gD ((mH (l.take j)).getD x.a.toNat 0) x.n=false):cQ l=([],2):=by
 obtain⟨d,k,-⟩:=LL c (a0a b);refine O5 (a:=x.a) c (kR.refl l) ⟨d,k⟩ ?_;have f:(x.a.toNat:Int)=x.a:=a1w d;have hs:=h x.a.toNat (by omega);rw[f]at hs;have e2:l.take (j+1)=l.take j++[x]:=by rw[a0u,b];rfl
 have i:dM 0 (gT (l.take (j+1)) x.a)=none:=by
  rw[e2,sM,if_pos rfl,uO _ _ _ hs,e];rfl
 have g:gT l x.a=gT (l.take (j+1)) x.a++gT (l.drop (j+1)) x.a:=by
  conv=>lhs;rw[<-a2j (j+1) l]
  unfold gT eY;rw[a1a,a03]
 rw[g,xH,i];rfl
def oQ (l:List cU) (k:Nat):List cU:=((List.range k).map fun(a:Nat)=>(⟨(a:Int),(mH l).getD a 0⟩:cU)).filter fun x=>!jU x
def abG (l:List cU) (k:Nat):oQ l (k+1)=oQ l k++[(⟨(k:Int),(mH l).getD k 0⟩:cU)].filter (fun x=>!jU x):=by
 unfold oQ;rw[a1v,a03,a1a];rfl
def aeJ (l:List cU) (k:Nat):(oQ l k).length<=k:=by
 unfold oQ;refine a1k (a4d _ _) ?_;simp
def Sound.plain {l:List cU} (h:Sound l) (c:l.any pB=false):cQ l=(oQ l 17,0):=by
 have d:(List.range 17).any (fun(a:Nat)=>decide (eB (gT l (a:Int))≠0))=false:=by
  rw[a1t];intro a b;have:=(lX (h a (a0t.1 b))).2;simp[this]
 unfold cQ;rw[c,d];simp only[a2i,if_false,a13,and_true];unfold oQ;have e:((List.range 17).map fun(a:Nat)=>(⟨(a:Int),dP (gT l (a:Int))⟩:cU))=(List.range 17).map fun(a:Nat)=>(⟨(a:Int),(mH l).getD a 0⟩:cU):=a01 fun a b=>by
  rw[Ih _ (a0t.1 b)]
 rw[e]
def gZ.adk {w:World} {base a:Nat} {e:TypeId} {k:Nat} {v:Value} {n:Nat} {zs:List Int} (h:gZ w base e k v n zs) (g:a<=base):gZ w a e k v n zs:=by
 obtain⟨j,c⟩:=h;refine⟨j,?_⟩;rcases c with c|⟨b,cap,d,rfl,f,i⟩
 .exact .inl c
 .exact .inr ⟨b,cap,d,rfl,a1k g f,i⟩
def aoW (w:World) (r:List cU×Int) (e:Ending) (w':World):Prop :=
 ∃v,e=.returned (.tuple #[v,.int .i64 r.2])/\gZ w' w.heap.size 44 2 v r.1.length (dV r.1)/\Below w.heap.size w w'
def aaU (a:Option Addr) (cap:Nat) (l:List cU) (w:World) (h:Row w 2 a l.length cap (dV l)) (hn:l.length<=1000000) :
  Calls Tryz.prog 45 #[.slice a l.length cap] w (aoW w (cQ l)):=by
 obtain⟨n,hN⟩:∃n,l.length=n:=⟨_,rfl⟩
 have aE:=h.all;have V:=h.at_;have aj:=h.max;have au:=h.le;unfold maxLen at aj;clear h;rw[hN]at hn V au |-;have F:∀j,j<n->∃b off x,l[j]?=some x/\a=some ⟨b,off,none⟩/\b<w.heap.size/\∀w',Below w.heap.size w w'->w'.cell? ⟨b,off+j*2,none⟩=some (.int .i64 x.a)/\w'.cell? ⟨b,off+j*2+1,none⟩=some (.int .i64 x.n):=by
  intro j hj;obtain⟨b,off,e,U,I⟩:∃b off,a=some ⟨b,off,none⟩/\b<w.heap.size/\cD w b off (dV l):=by
   rcases V with h0|h0
   .omega
   .exact h0
  exact⟨b,off,l[j]'(by omega),a0f _,e,U,fun w' hw=>(I.below U hw).line (a0f _)⟩
 have ad:=Lib.hid F;have ag:=Lib.hid hN;obtain⟨r,s⟩:∃r,cQ l=r:=⟨_,rfl⟩;rw[s];have L:=Lib.hid s;clear F V hN s;go_enter Tryz.func45,Tryz.ntmps45;go_wp2_with fail;go_loopw [4] (fun i wr=>∃j:Nat,j<=n/\i=.int .i64 j/\Hid ((l.take j).any pB=false)/\Below w.heap.size w wr) (fun i _=>n-(intOf i).toNat)
 case atStart=>exact⟨0,by omega,rfl,rfl,Below.refl _ _⟩
 case round =>
  obtain⟨j,hj,rfl,E,c⟩:=hrel;have ab:=c.size;by_cases aq:j<n
  .obtain⟨b,off,x,C,rfl,U,I⟩:=ad.out j aq
   obtain⟨O,c1⟩:=I wr c;have aC:(j:Int)<(n:Int):=(by omega);have aJ:(0:Int)<=(j:Int):=(by omega);have X:=Pj pB C;rw[E.out,Bool.false_or]at X;have J:pB x=true->r=([],1):=fun h=>by rw[<-L.out];exact O6 (adl C h)
   clear I C;obtain⟨N,P⟩:=x;simp only at O c1;cases u:pB ⟨N,P⟩with
   |true =>
    have s:=J u;subst s;clear J X;go_wp2_with fail;refine(Er ⟨N,P⟩ _).mono ?_;rw[u];rintro e w1 ⟨rfl,an⟩;clear u;go_wp2_with fail;go_ret2;exact⟨_,rfl,gZ.nil _ _ _ _,blw⟩
   |false =>
    have s3:Hid ((l.take (j+1)).any pB=false):=by rw[Hid,X];exact u
    clear J X;go_wp2_with fail;refine(Er ⟨N,P⟩ _).mono ?_;rw[u];rintro e w1 ⟨rfl,an⟩;clear u;go_wp2_with fail;go_roundw
    case rel=>exact⟨j+1,by omega,by go_num,s3,blw⟩
    case measure=>simp[intOf];omega
  .have ej:j=n:=by omega
   subst ej;have aK:¬ (j:Int)<(j:Int):=by omega
   have d:l.take j=l:=a1l (by rw[ag.out];omega);rw[d]at E;clear d;go_wp2_with fail;have ab:=c.size;have ay:Below w.heap.size w (wr.alloc (.cells #[.int .i64 0,.int .i64 0,.int .i64 0,.int .i64 0,.int .i64 0,.int .i64 0,.int .i64 0,.int .i64 0,.int .i64 0,.int .i64 0,.int .i64 0,.int .i64 0,.int .i64 0,.int .i64 0,.int .i64 0,.int .i64 0,.int .i64 0] 142)):=blw;have ai:cD (wr.alloc (.cells #[.int .i64 0,.int .i64 0,.int .i64 0,.int .i64 0,.int .i64 0,.int .i64 0,.int .i64 0,.int .i64 0,.int .i64 0,.int .i64 0,.int .i64 0,.int .i64 0,.int .i64 0,.int .i64 0,.int .i64 0,.int .i64 0,.int .i64 0] 142)) wr.heap.size 0 (mH []):=cD.new wr [0,0,0,0,0,0,0,0,0,0,0,0,0,0,0,0,0] 142;have ah:∀i,(wr.alloc (.cells #[.int .i64 0,.int .i64 0,.int .i64 0,.int .i64 0,.int .i64 0,.int .i64 0,.int .i64 0,.int .i64 0,.int .i64 0,.int .i64 0,.int .i64 0,.int .i64 0,.int .i64 0,.int .i64 0,.int .i64 0,.int .i64 0,.int .i64 0] 142)).frozen? ⟨wr.heap.size,i,none⟩=false:=World.frozen?_alloc_new wr _ 142;have af:wr.heap.size<(wr.alloc (.cells #[.int .i64 0,.int .i64 0,.int .i64 0,.int .i64 0,.int .i64 0,.int .i64 0,.int .i64 0,.int .i64 0,.int .i64 0,.int .i64 0,.int .i64 0,.int .i64 0,.int .i64 0,.int .i64 0,.int .i64 0,.int .i64 0,.int .i64 0] 142)).heap.size:=(by simp);generalize wr.alloc (.cells #[.int .i64 0,.int .i64 0,.int .i64 0,.int .i64 0,.int .i64 0,.int .i64 0,.int .i64 0,.int .i64 0,.int .i64 0,.int .i64 0,.int .i64 0,.int .i64 0,.int .i64 0,.int .i64 0,.int .i64 0,.int .i64 0,.int .i64 0] 142)=W0 at *;obtain⟨B,hB⟩:∃B,wr.heap.size=B:=⟨_,rfl⟩;rw[hB]at ai ah af ab |-;clear c hB;go_loopw [6] (fun i wr=>∃q:Nat,q<=j/\i=.int .i64 q/\Hid (Sound (l.take q))/\cD wr B 0 (mH (l.take q))/\(∀i,wr.frozen? ⟨B,i,none⟩=false)/\B<wr.heap.size/\Below w.heap.size w wr) (fun i _=>j-(intOf i).toNat)
   case atStart=>exact⟨0,by omega,rfl,Sound.nil,ai,ah,af,ay⟩
   case round =>
    obtain⟨q,hq,rfl,H,W,hF,Z,c⟩:=hrel;by_cases ak:q<j
    .obtain⟨b,off,x,C,rfl,U,I⟩:=ad.out q ak
     obtain⟨O,c1⟩:=I wr c;have aG:(q:Int)<(j:Int):=(by omega);have aH:(0:Int)<=(q:Int):=(by omega);obtain⟨g0,g1,g2⟩:=LL E.out (a0a C);have az:(x.a.toNat:Int)=x.a:=a1w g0;have o:=W x.a.toNat (by rw[pQ];omega);rw[a02]at o;have f:=H.out.stop C E.out;have g:=H.out.more (x:=x) g0 g1;have d:l.take (q+1)=l.take q++[x]:=by rw[a0u,C];rfl
     rw[<-d]at g;rw[L.out]at f;have y:=cD.put W (j:=x.a.toNat) (by rw[pQ];omega) ((mH (l.take q)).getD x.a.toNat 0+x.n);rw[a02]at y;obtain⟨v,hv⟩:∃v,(mH (l.take q)).getD x.a.toNat 0=v:=⟨_,rfl⟩;rw[hv]at o f g y;have ac:=hF x.a.toNat;have R:=Lib.hid f;have S:=Lib.hid g;have Y:=Lib.hid y;have aL:b<wr.heap.size:=a0x U c.size;clear f g y hv C d I az;obtain⟨N,P⟩:=x;simp only at O c1 g0 g1 o ac;obtain⟨k,rfl⟩:∃k:Nat,N=(k:Int):=⟨N.toNat,by omega⟩;rw[a00]at o ac;have av:(k:Int)<17:=g1;cases t:gD v P with
     |true =>
      obtain⟨m1,m2⟩:=S.out t;have hp:=Y.out;rw[a00]at hp;simp only[a00]at m2;have am:=Lib.hid m1;have al:=Lib.hid m2;have ap:=Lib.hid hp;clear m1 m2 hp;go_wp2_with fail;go_quiet ((go_at_call 83;first|exact oM (acQ t _)|exact xT (acQ t _)));go_wp2_with fail;go_roundw
      case rel=>exact⟨q+1,by omega,by go_num,am.out,by rw[al.out];exact ap.out,(fun i=>by simpa using hF i),by simpa[World.setCell]using Z,(below_drewN c _).setCell (p:=⟨B,k,none⟩) (by simp only;omega) _⟩
      case measure=>simp[intOf];omega
     |false =>
      have s:=R.out t;subst s;go_wp2_with fail;go_quiet ((go_at_call 83;first|exact oM (acR t _)|exact xT (acR t _)));go_wp2_with fail;go_ret2;exact⟨_,rfl,gZ.nil _ _ _ _,blw⟩
    .have eq:q=j:=by omega
     subst eq;have aD:¬ (q:Int)<(q:Int):=by omega
     have d:l.take q=l:=a1l (by rw[ag.out];omega);rw[d]at H W;have s:=H.out.plain E.out;rw[L.out]at s;subst s;obtain⟨A,aa⟩:∃A:World,wr=A:=⟨_,rfl⟩;rw[aa]at W hF Z c |-;have Q:=c.size;clear aa d H L;go_wp2_with fail;go_loopw [9,10] (fun v a wr=>∃k:Nat,k<=17/\a=.int .i64 k/\gZ wr A.heap.size 44 2 v (oQ l k).length (dV (oQ l k))/\Below A.heap.size A wr) (fun _ a _=>17-(intOf a).toNat)
     case atStart=>exact⟨0,by omega,rfl,gZ.nil _ _ _ _,Below.refl _ _⟩
     case round =>
      obtain⟨k,hk,rfl,T,G⟩:=hrel;have ao:=G.size;by_cases aw:k<17
      .have av:(k:Int)<17:=by omega
       have aI:(0:Int)<=(k:Int):=(by omega);have O:=(G.cell (p:=⟨B,0+k,none⟩) Z).trans (W k (by rw[pQ];exact aw));rw[a02]at O;have D:=abG l k;have ar:=aeJ l k;obtain⟨z,hz⟩:∃z,(mH l).getD k 0=z:=⟨_,rfl⟩;rw[hz]at O D;have aM:B<wr.heap.size:=a0x Z ao;clear hz;by_cases K:z=0
       .have e:oQ l (k+1)=oQ l k:=by
         rw[D];have:jU ⟨(k:Int),z⟩=true:=by simp[jU,K]
         simp[this]
        have eh:=Lib.hid e;subst K;clear D e;go_wp2_with fail;go_roundw
        case rel=>exact⟨k+1,by omega,by go_num,by rw[eh.out];exact T,G⟩
        case measure=>simp[intOf];omega
       .have e:oQ l (k+1)=oQ l k++[⟨(k:Int),z⟩]:=by
         rw[D];have:jU ⟨(k:Int),z⟩=false:=by simp[jU,K]
         simp[this]
        have e1:dV (oQ l k)++[(k:Int),z]=dV (oQ l (k+1)):=(by rw[e,tY]);have e2:(oQ l k).length+1=(oQ l (k+1)).length:=by rw[e];simp
        obtain⟨m,hm⟩:∃m,(oQ l k).length=m:=⟨_,rfl⟩;rw[hm]at T ar e2;have aB:=Lib.hid e1;have aA:=Lib.hid e2;have aF:(z==0)=false:=by rw[beq_eq_false_iff_ne];exact K
        clear D e e1 e2 hm;go_wp2_with (at_builtin;refine uN _ rfl _ _ 36 rfl A.heap.size 44 2 AE _ m (dV (oQ l k)) rfl (T.alloc _) wr.heap.size 0 1 [(k:Int),z] rfl rfl (ane (x:=⟨(k:Int),z⟩) rfl) ?c1 ?c2 ?_)
        case c1=>omega
        case c2=>simp;omega
        intro l' w2 M ae;rw[aB.out,aA.out]at M;have ax:Below A.heap.size A w2:=Below.trans blw ae;clear T ae G;go_wp2_with fail;go_roundw
        case rel=>exact⟨k+1,by omega,by go_num,M,ax⟩
        case measure=>simp[intOf];omega
      .have ek:k=17:=by omega
       subst ek;go_wp2_with fail;go_ret2;exact⟨_,rfl,T.adk Q,c.trans (G.mono Q)⟩
end
section
open Mc
variable {V:List (Int×Int)} {X:List Int} {F:List (Poly×Int×Int)} {ss:List (List (List AV))} {L:List (Nat×Poly)} {A:List (Nat×Poly×List AV)} {x:List (Nat×List AV×AV)}
def kC (a b:Int):Ck 83 [.i a,.i b] (.bE [.i (mY a b),.i (mZ a b)]) :=
 ⟨bL (.c _) (bL (.c _) fW),.bE _ (bL (.c _) (bL (.c _) fW)),@amq dY dZ _ [.int .i64 a,.int .i64 b] [.int .i64 (mY a b),.int .i64 (mZ a b)] (fun w=>(Am a b w).mono fun e w' h=>⟨h.1,h.2▸Below.refl _ _⟩) (by simp)⟩
def Is (zs:List Int) (g:fM zs):Ck 81 [.lit 1 (aA zs)] (.bE [.i (dP zs),.i (eB zs)]):=by
 refine⟨bL (kV _).lit fW,.bE _ (bL (.c _) (bL (.c _) fW)),?_⟩;intro A w vs k j f d;have b:=uX f;generalize vs.getD 0 Go.undef=h at b;subst b;obtain⟨a,cap,rfl,R⟩:=LK (d 0 _ rfl) g;refine(Rg a _ cap zs w R).mono ?_;rintro e w' ⟨rfl,rfl⟩;exact⟨_,rfl,mK qD qD,Below.refl _ _⟩
def I4 (l:List cU) (s:fM (dV l)) (q:l.length<=1000000):Ck 45 [.lit 2 (bU l)] (.bE [.lit 2 (bU (cQ l).1),.i (cQ l).2]):=by
 refine⟨bL (AG _).lit fW,.bE _ (bL (AG _).lit (bL (.c _) fW)),?_⟩;intro A w vs h z r p;have b:=uX r;generalize vs.getD 0 Go.undef=y at b;subst b;obtain⟨a,cap,rfl,R⟩:=RP (p 0 _ rfl) s;refine(aaU a cap l w R q).mono ?_;rintro e w' ⟨v,rfl,d,f⟩;rcases a4b (cQ l).1.length with o|t
 .obtain⟨B,mX,rfl,j⟩:=d.row (Rk l)
  exact⟨_,rfl,mK (M6 h j.le j.max (.inl o)) qD,f⟩
 .obtain⟨g,mX,rfl,x,u,n,m,k,-⟩:=d.full t
  exact⟨_,rfl,mK (M6 h n m (.inr ⟨g,0,rfl,x,u,k⟩)) qD,f⟩
def XI (l:List cU) (i:fM (dV l)) (f:l.length<=1000000):Ck 200 [.lit 2 (bU l)] (.c (.bool (pA l))):=by
 refine⟨bL (AG _).lit fW,.c _,?_⟩;intro A w vs m k g d;have b:=uX g;generalize vs.getD 0 Go.undef=j at b;subst b;obtain⟨a,cap,rfl,R⟩:=RP (d 0 _ rfl) i;refine(aaV a cap l w R f).mono ?_;rintro e w' ⟨rfl,h⟩;exact⟨_,rfl,@eC.c dY dZ A w' _,h⟩
namespace P8
abbrev hF (m b c i:AV):List AV:=fr 74 [(6,b),(7,m),(9,c),(10,i)]
noncomputable def body:Code:=(Tryz.f152).body.getD .skip
abbrev alK (c:Code) (r:Option (RT Out)):Prop:=uG { vars:=[(1,20)],lens:=KbW,bQ:=Vh } c (Ke0++List.replicate 72 .undef) [] [some 0,some 1] (hF (.q 2 2) Kdu Kdv (.i 0)) [Kcb,Kcb] r
noncomputable def alz:Option (RT Out):=yZ { vars:=[(1,20)],lens:=KbW,bQ:=Vh } body (Ke0++List.replicate 72 .undef:List AV).length (Ke0++List.replicate 72 .undef) [] 0
def an5:alK body alz:=⟨rfl,by decide +kernel,by decide +kernel⟩
def walk (oA:Option (RT Out)) (G:alK body oA) (E:eA { vars:=[(1,20),(0,19),(0,16)],facts:=[(Ket,1,20)],lens:=Dd,iG:=Gb,bQ:=[(83,[.o 1,.o 0],(.bE [.o 2,.i 0]))] } (bB oA) (hF (.q 2 1) Kdu Kdv (.v 1)) Wm 0 [some 0,some 1] (hF (.q 2 1) Kdu Kdv KdU) [Kcb,(.sc 3 1 2 [([([2],1)],[.o 2])] [] [([],17)])]) (F:OE { vars:=[(1,20),(0,19),(0,16)],facts:=[(Ket,1,20)],lens:=Dd,iG:=Gb,bQ:=[(83,[.o 1,.o 0],(.bE [.o 2,.i 2]))] } Tryz.f152 (bB oA) (hF (.q 2 1) Kdu Kdv (.v 1)) Wm ((.bE [.q 1 0,.i 2]))) (C:eA { vars:=[(1,20)],lens:=Dd } (bB oA) (hF (.q 2 1) Kdu Kdv (.v 0)) Wm 2 [some 0,some 1] (hF (.q 2 1) Kdu Kdv (.v 0)) Wm) (D:kH { vars:=[(1,20)],lens:=Dd } Tryz.f152 oA 0 (hF (.q 2 1) Kdu Kdv (.v 0)) Wm ((.bE [.q 1 2,.i 0]))) {b:List Int} {l m:List cU} (N:b.length=17) (h1:1<=m.length) (P:m.length<=20) (J:∀x∈m,0<=x.a/\x.a<=16)
  (H:Ck 45 [.lit 2 (bU l)] (.bE [.lit 2 (bU m),.i 0])) (K:Ck 200 [.lit 2 (bU m)] KeF) :
  Ck 152 [.lit 1 (aA b),.lit 2 (bU l)] (.bE [.lit 1 (aA ((gK b m).getD b)),.i (match gK b m with|some _=>0|none=>2)]):=by
 refine CK.hY Tryz.func152 (c:=body) (by kernel_rfl) (Cw.out) (yY.out) fun A w0 a0=>?_;intro mm w a e;rw[Tryz.ntmps152]at e;refine G.go (ev1 _ [(m.length:Int)] [] [aA b,bU l,bU m] .nil) (xK (kc H (kc K kn))) e (fd:=hF (.lit 2 (bU m)) (.own 3 1 0 0 17) (.own 3 1 1 0 17) (.i 0)) (bd:=[.cells 3 1 (aA b),.cells 3 1 (aA b)]) ?_;intro mm w a e;refine dQ (fun n a w=>∃(j:Nat) (c:List Int),n=m.length-j/\j<=m.length/\c.length=17/\gK b m=gK c (m.drop j)/\∃mm,@fD dY dZ A w0 a0 mm w a (hF (.lit 2 (bU m)) (.own 3 1 0 0 17) (.own 3 1 1 0 17) (.i (j:Int))) (fH [.cells 3 1 (aA b),.cells 3 1 (aA c)])) ?_ (n:=m.length) ⟨0,b,rfl,a0n _,N,rfl,_,e⟩;rintro n a w ⟨j,c,rfl,Q,M,f,mm,e⟩;rcases(by omega:j=m.length\/j<m.length)with rfl|s
 .rw[a3k]at f
  have f:gK b m=some c:=f;rw[f];refine C.go (ev1 _ [(m.length:Int)] [] [aA b,bU m,aA c] .nil) (xK kn) e ?_;intro mm w a e;exact D.go (ev1 _ [(m.length:Int)] [] [aA b,bU m,aA c] .nil) (xK kn) e
 .obtain⟨x,r⟩:∃x,m[j]?=some x:=⟨_,a0f s⟩
  have B:m[(j:Int).toNat]?=some x:=by simpa using r
  have O:=J x (a0a r);have L:m.drop j=x::m.drop (j+1):=by rw[<-a2x s];congr 1;exact Option.some.inj (by rw[<-a0f s,r])
  rw[L]at f;simp only[gK]at f;obtain⟨p,t⟩:∃v,v=c.getD x.a.toNat 0:=⟨_,rfl⟩;have u:c[x.a.toNat]?=some p:=by rw[t,List.getD,a0f (by omega)];rfl
  have g:=kC p x.n;rw[<-t]at f;unfold mY mZ at g;by_cases k:gD p x.n=true
  .rw[if_pos k]at f
   rw[if_pos k,if_pos k]at g;obtain⟨z,y⟩:∃z,z=p+x.n:=⟨_,rfl⟩;rw[<-y]at g f;refine E.go (ev1 _ [(m.length:Int),(j:Int),x.a] [.I x.n,.I p,.I z] [aA b,bU m,aA c] (.d (aL B) (.d (aI u) .nil))) (xK (kc g kn)) e (fd:=hF (.lit 2 (bU m)) (.own 3 1 0 0 17) (.own 3 1 1 0 17) (.i (1+(j:Int)))) (bd:=[.cells 3 1 (aA b),.cells 3 1 ((aA c).set x.a.toNat [.i z])]) ?_;intro mm w a e;refine⟨m.length-(j+1),by omega,j+1,c.set x.a.toNat z,rfl,by omega,by simpa using M,f,mm,?_⟩;rw[show(1+(j:Int))=((j+1:Nat):Int)by omega]at e;rw[show aA (c.set x.a.toNat z)=(aA c).set x.a.toNat [.i z]by simp[aA,a09]];exact e
  .rw[if_neg k]at f
   rw[if_neg k,if_neg k]at g;rw[f];obtain⟨z,y⟩:∃z:Int,z=0:=⟨_,rfl⟩;rw[<-y]at g;exact F.go (ev1 _ [(m.length:Int),(j:Int),x.a] [.I x.n,.I p,.I z] [aA b,bU m,aA c] (.d (aL B) (.d (aI u) .nil))) (xK (kc g kn)) e fun a w h=>vW h _
end P8
def agr (b:List Int) (l:List cU):nE b l=if(cQ l).2≠0\/(0<(cQ l).1.length/\pA (cQ l).1=false)then(b,(10:Int))else match gK b (cQ l).1 with|some c=>(c,(0:Int))|none=>(b,(2:Int)):=by
 unfold nE A5 ML;by_cases h:(cQ l).2≠0\/(0<(cQ l).1.length/\pA (cQ l).1=false)
 .simp only[if_pos h,show ¬((10:Int)=0)by decide,if_false]
 .simp only[if_neg h]
  cases gK b (cQ l).1 with
  |none=>rfl
  |some c=>rfl
def ab5 (b:List Int) (l:List cU) (s:b.length=17) (t:fM (dV l)) (n:l.length<=1000000):Ck 152 [.lit 1 (aA b),.lit 2 (bU l)] (.bE [.lit 1 (aA (nE b l).1),.i (nE b l).2]):=by
 have d:=I4 l t n;have j:=Rk l;have w:=CN l;have y:=O4 l;have g:=FP l;rw[agr];generalize z:cQ l=r at *;obtain⟨m,f⟩:=r;simp only at *;by_cases h:f=0;rotate_left
 .rw[if_pos (Or.inl h)]
  exact cw _ (ev1 { vars:=[(0,20),(1,20)],lens:=KbW,bQ:=[(45,[.q 2 1],(.bE [.q 2 2,.v 1]))] } [(m.length:Int),f] [] [aA b,bU l,bU m] .nil) Ke0 (.bE [.q 1 0,.i 10]) (kc d kn)
 subst h;have e:=XI m j (by omega);by_cases u:0<m.length;rotate_left
 .have p:m=[]:=a1f.1 (by omega)
  subst p;rw[if_neg (by simp)];show Ck 152 [.lit 1 (aA b),.lit 2 (bU l)] (.bE [.lit 1 (aA b),.i 0]);exact cw _ (ev1 { lens:=[(0,[([],17)])],bQ:=[(45,[.q 2 1],(.bE [(.lit 2 []),.i 0]))] } [] [] [aA b,bU l] .nil) Ke0 (.bE [.q 1 0,.i 0]) (kc d kn)
 by_cases a:pA m=true
 .rw[if_neg (by simp[a])]
  rw[a]at e;have W:=P8.walk P8.alz P8.an5 .of .of .of .of s (by omega) (by omega) (fun x k=>by have:=g x k;omega) d e;generalize gK b m=o at W |-;cases o with
  |none=>exact W
  |some c=>exact W
 .have a:pA m=false:=by simpa using a
  rw[if_pos (Or.inr ⟨u,a⟩)];rw[a]at e;exact cw _ (ev1 { vars:=[(1,20)],lens:=KbW,bQ:=[Kat,(200,[.q 2 2],Kev)] } [(m.length:Int)] [] [aA b,bU l,bU m] .nil) Ke0 (.bE [.q 1 0,.i 10]) (kc d (kc e kn))
abbrev ρl (l:List Int):Nat->Int:=fun i=>l.getD i 0
abbrev νl (l:List Value):Nat->Value:=fun i=>l.getD i (.bool false)
abbrev gX (S:bF) (e item m c:Int) (X:List Int):List Int:=e::(S.aH.length:Int)::item::(S.weights.length:Int)::m::c::X
abbrev gVs (S:bF) (now:Int) (closed:Bool) (vs:List Value):List Value:=.int .i64 S.bJ::.int .i64 S.bH::.int .i64 S.done::.int .i64 now::.bool closed::vs
abbrev EV (cl:AV) (V:List (Int×Int)) (F:List (Poly×Int×Int)) (L:List (Nat×Poly)) (A:List (Nat×Poly×List AV)) (D:List (Nat×Poly×Poly×Poly)) (C:List (Nat×Nat×Nat)) (x:List (Nat×List AV×AV)):Bk:={ vars:=gV++V,facts:=gF++F,lens:=gL++L,iG:=gAw cl++A,defs:=D,ae5:=C,bQ:=x }
section
variable {S:bF} {e item now m c:Int} {closed:Bool} {bK:List cY} {cN:List Int} {aJ:List (List Int)} {bD down:List Int} {ahead:List EntC} {ms cs:List Int}
def gBo (H:Wx S e item now closed bK cN aJ bD down ahead ms cs m c) (h:jI V X):jI (gV++V) (gX S e item m c X):=by
 have:=H.bd;exact h.c.c.c.c.c.c
def gFo (H:Wx S e item now closed bK cN aJ bD down ahead ms cs m c) (h:jT (ρl (gX S e item m c X)) F):jT (ρl (gX S e item m c X)) (gF++F):=by
 have:=H.bd;exact h.c.c
def gLo (H:Wx S e item now closed bK cN aJ bD down ahead ms cs m c) (h:kM (ρl (gX S e item m c X)) (gS S bK cN aJ bD down ahead ms cs ss) L):kM (ρl (gX S e item m c X)) (gS S bK cN aJ bD down ahead ms cs ss) (gL++L):=by
 have:=H.bd;exact h.c.c.c.c.c.c.c.c
def gAo (H:Wx S e item now closed bK cN aJ bD down ahead ms cs m c) {cl:AV} {vs:List Value} (h:Af (ρl (gX S e item m c X)) (νl (gVs S now closed vs)) (gS S bK cN aJ bD down ahead ms cs ss) A)
  (a:cl=.o 4\/cl=.c (.bool closed)):Af (ρl (gX S e item m c X)) (νl (gVs S now closed vs)) (gS S bK cN aJ bD down ahead ms cs ss) (gAw cl++A):=by
 have:=H.bd;rcases a with rfl|rfl
 .exact .d (aE H.hx) (.d (aS H.qN) (.d (aS H.CU) (.d (aI H.hm) (.d (aI H.hc) h))))
 .exact .d (aE H.hx) (.d (aS H.qN) (.d (aS H.CU) (.d (aI H.hm) (.d (aI H.hc) h))))
abbrev gEv (H:Wx S e item now closed bK cN aJ bD down ahead ms cs m c) (X:List Int) (vs:List Value) (ss:List (List (List AV))) [ClS ss] {D:List (Nat×Poly×Poly×Poly)} {C:List (Nat×Nat×Nat)} {cl:AV}
  (d:jI V X) (hF:jT (ρl (gX S e item m c X)) F) (f:kM (ρl (gX S e item m c X)) (gS S bK cN aJ bD down ahead ms cs ss) L) (i:Af (ρl (gX S e item m c X)) (νl (gVs S now closed vs)) (gS S bK cN aJ bD down ahead ms cs ss) A)
  (g:xB (ρl (gX S e item m c X)) D:=by exact .nil) (a:((gVs S now closed vs).all Value.oneCell')=true:=by rfl) (b:cl=.o 4\/cl=.c (.bool closed):=by first|exact .inl rfl|exact .inr rfl) (hC:∀t∈C,(gS S bK cN aJ bD down ahead ms cs ss).getD t.2.2 []=(gS S bK cN aJ bD down ahead ms cs ss).getD t.1 []++(gS S bK cN aJ bD down ahead ms cs ss).getD t.2.1 []:=by exact fun t h=>nomatch h):@Ev (EV cl V F L A D C x) :=
 Ot _ (gX S e item m c X) (gVs S now closed vs) (gS S bK cN aJ bD down ahead ms cs ss) (gBo H d) (gFo H hF) (gLo H f) (gAo H i b) g a rfl hC
abbrev ev2 (H:Wx S e item now closed bK cN aJ bD down ahead ms cs m c) (X:List Int) (vs:List Value) (ss:List (List (List AV))) [ClS ss] {D:List (Nat×Poly×Poly×Poly)} {C:List (Nat×Nat×Nat)} {cl:AV} (i:Af (ρl (gX S e item m c X)) (νl (gVs S now closed vs)) (gS S bK cN aJ bD down ahead ms cs ss) A) (g:xB (ρl (gX S e item m c X)) D:=by exact .nil) (a:((gVs S now closed vs).all Value.oneCell')=true:=by rfl) (b:cl=.o 4\/cl=.c (.bool closed):=by first|exact .inl rfl|exact .inr rfl) (hC:∀t∈C,(gS S bK cN aJ bD down ahead ms cs ss).getD t.2.2 []=(gS S bK cN aJ bD down ahead ms cs ss).getD t.1 []++(gS S bK cN aJ bD down ahead ms cs ss).getD t.2.1 []:=by exact fun t h=>nomatch h) (d:jI V X:=by repeat (first|exact jI.nil|refine jI.c ?_ (by omega) (by omega))) (hF:jT (ρl (gX S e item m c X)) F:=by repeat (first|exact jT.nil|refine jT.e ?_)) (f:kM (ρl (gX S e item m c X)) (gS S bK cN aJ bD down ahead ms cs ss) L:=by repeat (first|exact kM.nil|refine kM.c ?_)):@Ev (EV cl V F L A D C x) :=gEv H X vs ss d hF f i g a b hC
end
abbrev oV:List (Int×Int):=[(0,3),(0,4),(0,1),(0,3),Ke8,Kef,(0,39),(0,1000000),(0,40),(0,40),(0,40),(0,4),(0,5),(1,20)]
abbrev oL:List (Nat×Poly):=[(0,[([11],1)]),(1,[([12],1)]),(2,[([11],1)]),(3,[([11],1)]),(4,[([8],1)]),(5,[([9],1)]),(6,[([10],1)])]
abbrev iH (V:List (Int×Int)) (F:List (Poly×Int×Int)) (L:List (Nat×Poly)) (A:List (Nat×Poly×List AV)) (x:List (Nat×List AV×AV)):Bk:={ vars:=oV++V,facts:=F,lens:=oL++L,iG:=A,bQ:=x }
abbrev oX (S:bF) (e item loc dst q a ref f:Int) (X:List Int):List Int:=e::item::loc::dst::q::a::ref::S.done::(S.aO.length:Int)::(S.aF.length:Int)::(S.aG.length:Int)::(S.aH.length:Int)::(S.weights.length:Int)::f::X
abbrev oVs (S:bF) (vs:List Value):List Value:=.int .i64 S.bJ::.int .i64 S.bH::vs
structure OpI (S:bF) (e item loc dst q a ref f:Int):Prop where
 he:0<=e/\e<=3
 hi:0<=item/\item<=4
 hl:0<=loc/\loc<=1
 hd:0<=dst/\dst<=3
 hq:0<=q/\q<=1073741824
 ha:0<=a/\a<=1125899906842624
 hr:0<=ref/\ref<=39
 hf:1<=f/\f<=20
 od:Od S
 hn:S.aH.length<=4
 hw:S.weights.length<=5
 hm:S.methods.length=S.aH.length
 hc:S.bT.length=S.aH.length
section
variable {S:bF} {e item loc dst q a ref f:Int}
def OpI.bd (H:OpI S e item loc dst q a ref f):(0<=e/\e<=3)/\(0<=item/\item<=4)/\(0<=loc/\loc<=1)/\(0<=dst/\dst<=3)/\(0<=q/\q<=1073741824)/\(0<=a/\a<=1125899906842624)/\(0<=ref/\ref<=39)/\(1<=f/\f<=20)/\((0<=S.done/\S.done<=1000000)/\S.aO.length<=40/\S.aF.length<=40/\S.aG.length<=40)/\S.aH.length<=4/\S.weights.length<=5/\S.methods.length=S.aH.length/\S.bT.length=S.aH.length :=
 ⟨H.he,H.hi,H.hl,H.hd,H.hq,H.ha,H.hr,H.hf,H.od,H.hn,H.hw,H.hm,H.hc⟩
def oBo (H:OpI S e item loc dst q a ref f) (h:jI V X):jI (oV++V) (oX S e item loc dst q a ref f X):=by
 have:=H.bd;exact h.c.c.c.c.c.c.c.c.c.c.c.c.c.c
def oLo (H:OpI S e item loc dst q a ref f) (h:kM (ρl (oX S e item loc dst q a ref f X)) (oS S ss) L):kM (ρl (oX S e item loc dst q a ref f X)) (oS S ss) (oL++L):=by
 have:=H.bd;exact h.c.c.c.c.c.c.c
abbrev oEv (H:OpI S e item loc dst q a ref f) (X:List Int) (vs:List Value) (ss:List (List (List AV))) [ClS ss]
  (c:jI V X) (hF:jT (ρl (oX S e item loc dst q a ref f X)) F) (d:kM (ρl (oX S e item loc dst q a ref f X)) (oS S ss) L) (g:Af (ρl (oX S e item loc dst q a ref f X)) (νl (oVs S vs)) (oS S ss) A) (b:((oVs S vs).all Value.oneCell')=true:=by rfl):@Ev (iH V F L A x) :=
 Ot _ (oX S e item loc dst q a ref f X) (oVs S vs) (oS S ss) (oBo H c) hF (oLo H d) g .nil b
abbrev ev3 (H:OpI S e item loc dst q a ref f) (X:List Int) (vs:List Value) (ss:List (List (List AV))) [ClS ss] (h:Af (ρl (oX S e item loc dst q a ref f X)) (νl (oVs S vs)) (oS S ss) A) (b:((oVs S vs).all Value.oneCell')=true:=by rfl) (d:jI V X:=by repeat (first|exact jI.nil|refine jI.c ?_ (by omega) (by omega))) (hF:jT (ρl (oX S e item loc dst q a ref f X)) F:=by repeat (first|exact jT.nil|refine jT.e ?_)) (g:kM (ρl (oX S e item loc dst q a ref f X)) (oS S ss) L:=by repeat (first|exact kM.nil|refine kM.c ?_)):@Ev (iH V F L A x) :=oEv H X vs ss d hF g h b
end
end
section
open Mc
variable {item q0 a2:Int} {L0 L1:List bP}
abbrev ak3:Bk:={ vars:=gV++[(0,1),(0,30)],facts:=gF++BP,lens:=gL++[(15,[([7],1)])],iG:=gA++Gc }
def aoZ {S:bF} {e now m c:Int} {closed:Bool} {bK:List cY} {cN:List Int} {aJ:List (List Int)} {bD down:List Int} {ahead:List EntC} {ms cs:List Int} (H:Wx S e item now closed bK cN aJ bD down ahead ms cs m c) {L:List bP} {p0 p1 p2 loc k:Int} (g:0<=loc) (l1:loc<=1) (b:k=2*item+loc) (f:bK[k.toNat]?=some ⟨L,p0,p1,p2⟩) (h:L.length<=30)  :
 Ck 112 [S.av,.i e,.i item,.i loc] (cY.av ⟨L,p0,p1,p2⟩):=by
 have:=H.bd;obtain⟨ρ,a⟩:=rh [e,(S.aH.length:Int),item,(S.weights.length:Int),m,c,loc,(L.length:Int)];obtain rfl:=eqv a b KeG;subst a;let ev:=Ot ak3 [e,(S.aH.length:Int),item,(S.weights.length:Int),m,c,loc,(L.length:Int)] (vT S [.int .i64 now,.bool closed,.int .i64 p0,.int .i64 p1,.int .i64 p2]) (gS S bK cN aJ bD down ahead ms cs [aM L]) jI.nil.c.c.c.c.c.c.c.c jT.nil.c.c.c kM.nil.c.c.c.c.c.c.c.c.c (.d (aE H.hx) (.d (aS H.qN) (.d (aS H.CU) (.d (aI H.hm) (.d (aI H.hc) (.d (aP f) .nil))))));exact cw _ ev BA Kbu kn
abbrev afh:Bk:={ vars:=[yU,yU],bQ:=[YT,
 Hq,
 YU,
 Hr,
 HR,
 HF,
 HG] }
def alo {S:bF} {e b p0 d a p1 q v p a0 h b0 b1 b2:Int} (g:kS e) (f:kS item) (n:Ck 112 [S.av,.i e,.i item,.i 0] (cY.av ⟨L0,a0,h,a2⟩)) (h1:Ck 112 [S.av,.i e,.i item,.i 1] (cY.av ⟨L1,b0,b1,b2⟩)) (k:Ck 169 [.lit 3 (aM L0)] (.bE [(⟨q0,b,p0⟩:bP).av,.i 0])) (j:Ck 169 [.lit 3 (aM L1)] (.bE [(⟨d,a,p1⟩:bP).av,.i 0])) (l:Ck 72 [.lit 1 (aA [q0,d])] (.bE [.i q,.i 0])) (sv:Ck 72 [.lit 1 (aA [b,a])] (.bE [.i v,.i 0])) (m:Ck 72 [.lit 1 (aA [p0,p1])] (.bE [.i p,.i 0]))  :
 Ck 129 [S.av,.i e,.i item] (.bE [(⟨q,v,p⟩:bP).av,.c (.bool true)]):=by
 have:=g.lo;have:=g.hi;have:=f.lo;have:=f.hi;let ev:=Ot afh [e,item] (vT S [.int .i64 q0,.int .i64 b,.int .i64 p0,.int .i64 d,.int .i64 a,.int .i64 p1,.int .i64 q,.int .i64 v,.int .i64 p,.int .i64 a0,.int .i64 h,.int .i64 a2,.int .i64 b0,.int .i64 b1,.int .i64 b2]) (sT S [aM L0,aM L1]) jI.nil.c.c jT.nil kM.nil (.nil);exact cw _ ev Kbi (.bE [KcB,KeF]) (kc n (kc k (kc h1 (kc j (kc l (kc sv (kc m kn)))))))
abbrev afg:Bk:={ vars:=[yU,yU],bQ:=[YT,
 Hq,
 YU,
 Hr,
 HS,
 HF,
 HG] }
def aln {S:bF} {e b p0 d a p1 q v p a0 h b0 b1 b2:Int} (g:kS e) (f:kS item) (n:Ck 112 [S.av,.i e,.i item,.i 0] (cY.av ⟨L0,a0,h,a2⟩)) (h1:Ck 112 [S.av,.i e,.i item,.i 1] (cY.av ⟨L1,b0,b1,b2⟩)) (k:Ck 169 [.lit 3 (aM L0)] (.bE [(⟨q0,b,p0⟩:bP).av,.i 0])) (j:Ck 169 [.lit 3 (aM L1)] (.bE [(⟨d,a,p1⟩:bP).av,.i 0])) (l:Ck 72 [.lit 1 (aA [q0,d])] (.bE [.i q,.i 2])) (sv:Ck 72 [.lit 1 (aA [b,a])] (.bE [.i v,.i 0])) (m:Ck 72 [.lit 1 (aA [p0,p1])] (.bE [.i p,.i 0]))  :
 Ck 129 [S.av,.i e,.i item] (.bE [(⟨q,v,p⟩:bP).av,.c (.bool false)]):=by
 have:=g.lo;have:=g.hi;have:=f.lo;have:=f.hi;let ev:=Ot afg [e,item] (vT S [.int .i64 q0,.int .i64 b,.int .i64 p0,.int .i64 d,.int .i64 a,.int .i64 p1,.int .i64 q,.int .i64 v,.int .i64 p,.int .i64 a0,.int .i64 h,.int .i64 a2,.int .i64 b0,.int .i64 b1,.int .i64 b2]) (sT S [aM L0,aM L1]) jI.nil.c.c jT.nil kM.nil (.nil);exact cw _ ev Kbi WQ (kc n (kc k (kc h1 (kc j (kc l (kc sv (kc m kn)))))))
abbrev aff:Bk:={ vars:=[yU,yU],bQ:=[YT,
 Hq,
 YU,
 Hr,
 HR,
 HH,
 HG] }
def alm {S:bF} {e b p0 d a p1 q v p a0 h b0 b1 b2:Int} (g:kS e) (f:kS item) (n:Ck 112 [S.av,.i e,.i item,.i 0] (cY.av ⟨L0,a0,h,a2⟩)) (h1:Ck 112 [S.av,.i e,.i item,.i 1] (cY.av ⟨L1,b0,b1,b2⟩)) (k:Ck 169 [.lit 3 (aM L0)] (.bE [(⟨q0,b,p0⟩:bP).av,.i 0])) (j:Ck 169 [.lit 3 (aM L1)] (.bE [(⟨d,a,p1⟩:bP).av,.i 0])) (l:Ck 72 [.lit 1 (aA [q0,d])] (.bE [.i q,.i 0])) (sv:Ck 72 [.lit 1 (aA [b,a])] (.bE [.i v,.i 2])) (m:Ck 72 [.lit 1 (aA [p0,p1])] (.bE [.i p,.i 0]))  :
 Ck 129 [S.av,.i e,.i item] (.bE [(⟨q,v,p⟩:bP).av,.c (.bool false)]):=by
 have:=g.lo;have:=g.hi;have:=f.lo;have:=f.hi;let ev:=Ot aff [e,item] (vT S [.int .i64 q0,.int .i64 b,.int .i64 p0,.int .i64 d,.int .i64 a,.int .i64 p1,.int .i64 q,.int .i64 v,.int .i64 p,.int .i64 a0,.int .i64 h,.int .i64 a2,.int .i64 b0,.int .i64 b1,.int .i64 b2]) (sT S [aM L0,aM L1]) jI.nil.c.c jT.nil kM.nil (.nil);exact cw _ ev Kbi WQ (kc n (kc k (kc h1 (kc j (kc l (kc sv (kc m kn)))))))
abbrev afe:Bk:={ vars:=[yU,yU],bQ:=[YT,
 Hq,
 YU,
 Hr,
 HS,
 HH,
 HG] }
def alk {S:bF} {e b p0 d a p1 q v p a0 h b0 b1 b2:Int} (g:kS e) (f:kS item) (n:Ck 112 [S.av,.i e,.i item,.i 0] (cY.av ⟨L0,a0,h,a2⟩)) (h1:Ck 112 [S.av,.i e,.i item,.i 1] (cY.av ⟨L1,b0,b1,b2⟩)) (k:Ck 169 [.lit 3 (aM L0)] (.bE [(⟨q0,b,p0⟩:bP).av,.i 0])) (j:Ck 169 [.lit 3 (aM L1)] (.bE [(⟨d,a,p1⟩:bP).av,.i 0])) (l:Ck 72 [.lit 1 (aA [q0,d])] (.bE [.i q,.i 2])) (sv:Ck 72 [.lit 1 (aA [b,a])] (.bE [.i v,.i 2])) (m:Ck 72 [.lit 1 (aA [p0,p1])] (.bE [.i p,.i 0]))  :
 Ck 129 [S.av,.i e,.i item] (.bE [(⟨q,v,p⟩:bP).av,.c (.bool false)]):=by
 have:=g.lo;have:=g.hi;have:=f.lo;have:=f.hi;let ev:=Ot afe [e,item] (vT S [.int .i64 q0,.int .i64 b,.int .i64 p0,.int .i64 d,.int .i64 a,.int .i64 p1,.int .i64 q,.int .i64 v,.int .i64 p,.int .i64 a0,.int .i64 h,.int .i64 a2,.int .i64 b0,.int .i64 b1,.int .i64 b2]) (sT S [aM L0,aM L1]) jI.nil.c.c jT.nil kM.nil (.nil);exact cw _ ev Kbi WQ (kc n (kc k (kc h1 (kc j (kc l (kc sv (kc m kn)))))))
abbrev afd:Bk:={ vars:=[yU,yU],bQ:=[YT,
 Hq,
 YU,
 Hr,
 HR,
 HF,
 HI] }
def alj {S:bF} {e b p0 d a p1 q v p a0 h b0 b1 b2:Int} (g:kS e) (f:kS item) (n:Ck 112 [S.av,.i e,.i item,.i 0] (cY.av ⟨L0,a0,h,a2⟩)) (h1:Ck 112 [S.av,.i e,.i item,.i 1] (cY.av ⟨L1,b0,b1,b2⟩)) (k:Ck 169 [.lit 3 (aM L0)] (.bE [(⟨q0,b,p0⟩:bP).av,.i 0])) (j:Ck 169 [.lit 3 (aM L1)] (.bE [(⟨d,a,p1⟩:bP).av,.i 0])) (l:Ck 72 [.lit 1 (aA [q0,d])] (.bE [.i q,.i 0])) (sv:Ck 72 [.lit 1 (aA [b,a])] (.bE [.i v,.i 0])) (m:Ck 72 [.lit 1 (aA [p0,p1])] (.bE [.i p,.i 2]))  :
 Ck 129 [S.av,.i e,.i item] (.bE [(⟨q,v,p⟩:bP).av,.c (.bool false)]):=by
 have:=g.lo;have:=g.hi;have:=f.lo;have:=f.hi;let ev:=Ot afd [e,item] (vT S [.int .i64 q0,.int .i64 b,.int .i64 p0,.int .i64 d,.int .i64 a,.int .i64 p1,.int .i64 q,.int .i64 v,.int .i64 p,.int .i64 a0,.int .i64 h,.int .i64 a2,.int .i64 b0,.int .i64 b1,.int .i64 b2]) (sT S [aM L0,aM L1]) jI.nil.c.c jT.nil kM.nil (.nil);exact cw _ ev Kbi WQ (kc n (kc k (kc h1 (kc j (kc l (kc sv (kc m kn)))))))
abbrev afc:Bk:={ vars:=[yU,yU],bQ:=[YT,
 Hq,
 YU,
 Hr,
 HS,
 HF,
 HI] }
def ali {S:bF} {e b p0 d a p1 q v p a0 h b0 b1 b2:Int} (g:kS e) (f:kS item) (n:Ck 112 [S.av,.i e,.i item,.i 0] (cY.av ⟨L0,a0,h,a2⟩)) (h1:Ck 112 [S.av,.i e,.i item,.i 1] (cY.av ⟨L1,b0,b1,b2⟩)) (k:Ck 169 [.lit 3 (aM L0)] (.bE [(⟨q0,b,p0⟩:bP).av,.i 0])) (j:Ck 169 [.lit 3 (aM L1)] (.bE [(⟨d,a,p1⟩:bP).av,.i 0])) (l:Ck 72 [.lit 1 (aA [q0,d])] (.bE [.i q,.i 2])) (sv:Ck 72 [.lit 1 (aA [b,a])] (.bE [.i v,.i 0])) (m:Ck 72 [.lit 1 (aA [p0,p1])] (.bE [.i p,.i 2]))  :
 Ck 129 [S.av,.i e,.i item] (.bE [(⟨q,v,p⟩:bP).av,.c (.bool false)]):=by
 have:=g.lo;have:=g.hi;have:=f.lo;have:=f.hi;let ev:=Ot afc [e,item] (vT S [.int .i64 q0,.int .i64 b,.int .i64 p0,.int .i64 d,.int .i64 a,.int .i64 p1,.int .i64 q,.int .i64 v,.int .i64 p,.int .i64 a0,.int .i64 h,.int .i64 a2,.int .i64 b0,.int .i64 b1,.int .i64 b2]) (sT S [aM L0,aM L1]) jI.nil.c.c jT.nil kM.nil (.nil);exact cw _ ev Kbi WQ (kc n (kc k (kc h1 (kc j (kc l (kc sv (kc m kn)))))))
abbrev afb:Bk:={ vars:=[yU,yU],bQ:=[YT,
 Hq,
 YU,
 Hr,
 HR,
 HH,
 HI] }
def alh {S:bF} {e b p0 d a p1 q v p a0 h b0 b1 b2:Int} (g:kS e) (f:kS item) (n:Ck 112 [S.av,.i e,.i item,.i 0] (cY.av ⟨L0,a0,h,a2⟩)) (h1:Ck 112 [S.av,.i e,.i item,.i 1] (cY.av ⟨L1,b0,b1,b2⟩)) (k:Ck 169 [.lit 3 (aM L0)] (.bE [(⟨q0,b,p0⟩:bP).av,.i 0])) (j:Ck 169 [.lit 3 (aM L1)] (.bE [(⟨d,a,p1⟩:bP).av,.i 0])) (l:Ck 72 [.lit 1 (aA [q0,d])] (.bE [.i q,.i 0])) (sv:Ck 72 [.lit 1 (aA [b,a])] (.bE [.i v,.i 2])) (m:Ck 72 [.lit 1 (aA [p0,p1])] (.bE [.i p,.i 2]))  :
 Ck 129 [S.av,.i e,.i item] (.bE [(⟨q,v,p⟩:bP).av,.c (.bool false)]):=by
 have:=g.lo;have:=g.hi;have:=f.lo;have:=f.hi;let ev:=Ot afb [e,item] (vT S [.int .i64 q0,.int .i64 b,.int .i64 p0,.int .i64 d,.int .i64 a,.int .i64 p1,.int .i64 q,.int .i64 v,.int .i64 p,.int .i64 a0,.int .i64 h,.int .i64 a2,.int .i64 b0,.int .i64 b1,.int .i64 b2]) (sT S [aM L0,aM L1]) jI.nil.c.c jT.nil kM.nil (.nil);exact cw _ ev Kbi WQ (kc n (kc k (kc h1 (kc j (kc l (kc sv (kc m kn)))))))
abbrev afa:Bk:={ vars:=[yU,yU],bQ:=[YT,
 Hq,
 YU,
 Hr,
 HS,
 HH,
 HI] }
def alg {S:bF} {e b p0 d a p1 q v p a0 h b0 b1 b2:Int} (g:kS e) (f:kS item) (n:Ck 112 [S.av,.i e,.i item,.i 0] (cY.av ⟨L0,a0,h,a2⟩)) (h1:Ck 112 [S.av,.i e,.i item,.i 1] (cY.av ⟨L1,b0,b1,b2⟩)) (k:Ck 169 [.lit 3 (aM L0)] (.bE [(⟨q0,b,p0⟩:bP).av,.i 0])) (j:Ck 169 [.lit 3 (aM L1)] (.bE [(⟨d,a,p1⟩:bP).av,.i 0])) (l:Ck 72 [.lit 1 (aA [q0,d])] (.bE [.i q,.i 2])) (sv:Ck 72 [.lit 1 (aA [b,a])] (.bE [.i v,.i 2])) (m:Ck 72 [.lit 1 (aA [p0,p1])] (.bE [.i p,.i 2]))  :
 Ck 129 [S.av,.i e,.i item] (.bE [(⟨q,v,p⟩:bP).av,.c (.bool false)]):=by
 have:=g.lo;have:=g.hi;have:=f.lo;have:=f.hi;let ev:=Ot afa [e,item] (vT S [.int .i64 q0,.int .i64 b,.int .i64 p0,.int .i64 d,.int .i64 a,.int .i64 p1,.int .i64 q,.int .i64 v,.int .i64 p,.int .i64 a0,.int .i64 h,.int .i64 a2,.int .i64 b0,.int .i64 b1,.int .i64 b2]) (sT S [aM L0,aM L1]) jI.nil.c.c jT.nil kM.nil (.nil);exact cw _ ev Kbi WQ (kc n (kc k (kc h1 (kc j (kc l (kc sv (kc m kn)))))))
abbrev Lr:Bk:={ vars:=[yU,yU],bQ:=[(129,Kbi,(.bE [Kdn,KeF]))] }
def OD {S:bF} {e q v p:Int} (b:kS e) (a:kS item) (d:Ck 129 [S.av,.i e,.i item] (.bE [(⟨q,v,p⟩:bP).av,.c (.bool true)]))  :
 Ck 69 [S.av,.i e,.i item] (bP.av ⟨q,v,p⟩):=by
 have:=b.lo;have:=b.hi;have:=a.lo;have:=a.hi;let ev:=Ot Lr [e,item] (vT S [.int .i64 q,.int .i64 v,.int .i64 p]) (sT S []) jI.nil.c.c jT.nil kM.nil (.nil);exact cw _ ev Kbi Kdn (kc d kn)
abbrev Iu:Bk:={ vars:=[yU,yU],bQ:=[(129,Kbi,(.bE [Kdn,Kev]))] }
def NQ {S:bF} {e q v p:Int} (b:kS e) (a:kS item) (d:Ck 129 [S.av,.i e,.i item] (.bE [(⟨q,v,p⟩:bP).av,.c (.bool false)]))  :
 Ck 69 [S.av,.i e,.i item] (bP.av ⟨q,v,p⟩):=by
 have:=b.lo;have:=b.hi;have:=a.lo;have:=a.hi;let ev:=Ot Iu [e,item] (vT S [.int .i64 q,.int .i64 v,.int .i64 p]) (sT S []) jI.nil.c.c jT.nil kM.nil (.nil);exact cw _ ev Kbi Kdn (kc d kn)
def sw (l:List bP):List Int:=l.map fun x=>max x.p (-x.p)
namespace anX
section
variable {S:bF} {e item:Int}
end
end anX
end
section
open Mc
def gQ (l:List cU) (a:Int):Int:=((l.filter fun x=>x.a==a).map (·.n)).sum
def lA (x:cU) (l:List cU) (a:Int):gQ (x::l) a=(if x.a=a then x.n else 0)+gQ l a:=by
 unfold gQ;by_cases h:x.a=a
 .simp[a1m,h]
 .simp[a1m,h]
def anW (cN:List Int) (l:List cU):List Int:=(List.range 17).map fun(a:Nat)=>cN.getD a 0+gQ l a
def dO (l:List cU):List cU:=((List.range 17).map fun(a:Nat)=>(⟨(a:Int),gQ l a⟩:cU)).filter (fun x=>!jU x)
structure Small (l:List cU):Prop where
 ok:∀x∈l,0<=x.a/\x.a<17/\-1125899906842624<=x.n/\x.n<=1125899906842624
 len:l.length<=12
def Eb:∀(l:List cU),(∀x∈l,0<=x.a/\x.a<17/\-1125899906842624<=x.n/\x.n<=1125899906842624)->∀a,-(1125899906842624*(l.length:Int))<=gQ l a/\gQ l a<=1125899906842624*(l.length:Int)
 |[],_,a=>by simp[gQ]
 |x::l,h,a=>by
  have c:=Eb l (fun y b=>h y (a06 _ b)) a;have d:=h x a1b;rw[lA,a0v];split<;>omega
def aiZ:∀(l:List cU),(∀x∈l,0<=x.a/\x.a<17/\-1125899906842624<=x.n/\x.n<=1125899906842624)->eU (eY l)<=1125899906842624*(l.length:Int)
 |[],_=>by simp[eU,eY]
 |x::l,h=>by
  have c:=aiZ l (fun y b=>h y (a06 _ b));have d:=h x a1b;have:eY (x::l)=x.n::eY l:=rfl;rw[this,fX,a0v];omega
def Sw:∀(l:List cU) (a:Int),eU (gT l a)<=eU (eY l)
 |[],a=>by simp[gT,eY,eU]
 |x::l,a=>by
  have b:=Sw l a;have e:eY (x::l)=x.n::eY l:=rfl;by_cases h:x.a=a
  .have e2:gT (x::l) a=x.n::gT l a:=by simp[gT,eY,a1m,h]
   rw[e,e2,fX,fX];omega
  .have e2:gT (x::l) a=gT l a:=by simp[gT,eY,a1m,h]
   rw[e,e2,fX];omega
def IT {l:List cU} (h:Small l):cQ l=(dO l,0):=by
 have c:l.any pB=false:=by
  rw[a1t];intro x b;have:=h.ok x b;simp only[pB,a15,a32,not_or,a4y];exact⟨wO.2 ⟨this.1,this.2.1⟩,fG.2 ⟨by omega,by omega⟩⟩
 have hs:∀a:Int,dM 0 (gT l a)=some (gQ l a):=by
  intro a;have g:=Sw l a;have f:=aiZ l h.ok;have d:=h.len;rw[mR _ 0 (by omega),a2v];rfl
 unfold cQ dO;simp only[c,a2i,if_false];have:(List.range 17).any (fun(a:Nat)=>decide (eB (gT l (a:Int))≠0))=false:=by
  rw[a1t];intro a _;simp[(lX (hs a)).2]
 simp only[this,a2i,if_false];have e:(fun(a:Nat)=>(⟨(a:Int),dP (gT l (a:Int))⟩:cU))=fun(a:Nat)=>⟨(a:Int),gQ l a⟩:=by
  funext a;rw[(lX (hs a)).1]
 rw[e]
def aiz (f g:Nat->Bool) (c:Nat) (h:∀a,f a=true->g a=true\/a=c):∀k,((List.range k).filter f).length<=((List.range k).filter g).length+(if c<k then 1 else 0)
 |0=>by simp
 |k+1=>by
  have d:=aiz f g c h k;rw[a1v,a1a,a1a,a1o,a1o];have e:((List.filter f [k]).length:Nat)<=(List.filter g [k]).length+(if k=c then 1 else 0):=by
   cases b:f k with
   |false=>simp[a1m,b]
   |true =>
    rcases h k b with l|rfl
    .simp[a1m,b,l]
    .simp[a1m,b]
  by_cases i:k=c
  .subst i
   simp at d e |-;omega
  .simp only[i,if_false]at e
   by_cases j:c<k
   .simp only[j,if_true]at d
    have:c<k+1:=(by omega);simp only[this,if_true];omega
   .have:¬ c<k+1:=by omega
    simp only[j,if_false]at d;simp only[this,if_false];omega
def Ns:∀(l:List cU),((List.range 17).filter fun(a:Nat)=>decide (gQ l a≠0)).length<=l.length
 |[]=>by simp[gQ]
 |x::l=>by
  have c:=Ns l;have:=aiz (fun(a:Nat)=>decide (gQ (x::l) a≠0)) (fun(a:Nat)=>decide (gQ l a≠0)) x.a.toNat (by
   intro a b;by_cases h:x.a=a
   .right;rw[h];simp
   .left
    rw[lA,if_neg h]at b;simpa using b) 17
  rw[a0v];split at this<;>omega
def MP {l:List cU}:(dO l).length<=l.length:=by
 have:=Ns l;unfold dO;rw[a4z,a0w];refine a1k (Nat.le_of_eq ?_) this;congr 2;funext a;simp[jU]
def afH (c n:Int):∀k:Nat,((List.range k).map fun(a:Nat)=>if c=(a:Int)then n else 0).sum=if 0<=c/\c<k then n else 0
 |0=>by simp;intro h b;omega
 |k+1=>by
  rw[a1v,a03,a1h,afH c n k];simp only[a0r,a1x,a0p,a2e,a1i];by_cases d:c=(k:Int)
  .rw[if_neg (by omega),if_pos d,if_pos (by omega)];omega
  .by_cases b:0<=c/\c<k
   .rw[if_pos b,if_neg d,if_pos (by omega)];omega
   .rw[if_neg b,if_neg d,if_neg (by omega)];rfl
def IF (f g:Nat->Int):∀l:List Nat,(l.map fun a=>f a+g a).sum=(l.map f).sum+(l.map g).sum
 |[]=>rfl
 |a::l=>by simp only[a0r,a0p,IF f g l];omega
def zD:∀(l:List cU),(∀x∈l,0<=x.a/\x.a<17)->((List.range 17).map fun(a:Nat)=>gQ l a).sum=(eY l).sum
 |[],_=>by simp[gQ,eY];decide
 |x::l,h=>by
  have b:=zD l (fun y c=>h y (a06 _ c));have d:=h x a1b;have e:(fun(a:Nat)=>gQ (x::l) a)=fun(a:Nat)=>(if x.a=(a:Int)then x.n else 0)+gQ l a:=by funext a;rw[lA]
  rw[e,IF,b,afH,if_pos (show 0<=x.a/\x.a<((17:Nat):Int)from d)];rfl
def afG:∀(l:List cU),(eY (l.filter fun x=>!jU x)).sum=(eY l).sum
 |[]=>rfl
 |x::l=>by
  have b:=afG l;have e:eY (x::l)=x.n::eY l:=rfl;rw[e,a0p,<-b];cases a:jU x with
  |true =>
   have:x.n=0:=(by simpa[jU]using a);rw[a40 (by simp[a]),this,a2v]
  |false =>
   rw[a41 (by simp[a])];rfl
def tR {l:List cU} (h:Small l):∀x∈dO l,0<=x.a/\x.a<17/\x.n≠0/\x.n=gQ l x.a:=by
 intro x b;obtain⟨e,d⟩:=List.mem_filter.1 b;obtain⟨a,c,rfl⟩:=a0j.1 e;have:=a0t.1 c;refine⟨by simp only;omega,by simp only;omega,?_,rfl⟩;simpa[jU]using d
def SJ (f:Nat->Int) (c:Nat):∀k:Nat,gQ ((List.range k).map fun(a:Nat)=>(⟨(a:Int),f a⟩:cU)) c=if c<k then f c else 0
 |0=>by simp[gQ]
 |k+1=>by
  have b:=SJ f c k;rw[a1v,a03];unfold gQ at b |-;rw[a1a,a03,a1h,b];by_cases h:k=c
  .subst h
   simp
  .have e:¬ ((k:Int)=(c:Int)):=by omega
   simp[a1m,e];by_cases d:c<k
   .have:c<k+1:=by omega
    simp[d,this]
   .have:¬ c<k+1:=by omega
    simp[d,this]
def ajc (l:List cU) (c:Int):gQ (l.filter fun x=>!jU x) c=gQ l c:=by
 induction l with
 |nil=>rfl
 |cons x l b =>
  cases a:jU x with
  |true =>
   have:x.n=0:=(by simpa[jU]using a);rw[a40 (by simp[a]),b,lA,this];simp
  |false=>rw[a41 (by simp[a]),lA,lA,b]
def Cx (l:List cU) {a:Nat} (b:a<17):gQ (dO l) a=gQ l a:=by
 unfold dO;rw[ajc,SJ,if_pos b]
def Rl {l:List cU} (h:Small l):cQ (dO l)=(dO l,0):=by
 have f:(dO l).any pB=false:=by
  rw[a1t];intro x c;have:=tR h x c;have g:=Eb l h.ok x.a;have k:=h.len;simp only[pB,a15,a32,not_or,a4y];exact⟨wO.2 ⟨this.1,this.2.1⟩,fG.2 ⟨by omega,by omega⟩⟩
 have hs:∀a:Nat,a<17->dM 0 (gT (dO l) a)=some (gQ l a):=by
  intro a b;have g:=Eb l h.ok;have k:=h.len;have q:eU (eY (dO l))<=17*(12*1125899906842624):=by
   have:∀m:List cU,(∀x∈m,-(12*1125899906842624)<=x.n/\x.n<=12*1125899906842624)->eU (eY m)<=12*1125899906842624*(m.length:Int):=by
    intro m;induction m with
    |nil=>intro _;simp[eY,eU]
    |cons x m i =>
     intro d;have e:eY (x::m)=x.n::eY m:=rfl;have:=i fun y j=>d y (a06 _ j);have c:=d x a1b;rw[e,fX,a0v];omega
   have p:=this (dO l) (fun x c=>by have:=tR h x c;have:=g x.a;omega);have o:=MP (l:=l);omega
  have r:=Sw (dO l) a;rw[mR _ 0 (by omega),a2v];exact congrArg some (Cx l b)
 have:(List.range 17).any (fun(a:Nat)=>decide (eB (gT (dO l) (a:Int))≠0))=false:=by
  rw[a1t];intro a b;simp[(lX (hs a (a0t.1 b))).2]
 have e:(List.range 17).map (fun(a:Nat)=>(⟨(a:Int),dP (gT (dO l) (a:Int))⟩:cU))=(List.range 17).map fun(a:Nat)=>⟨(a:Int),gQ l a⟩ :=
  a01 fun a b=>by rw[(lX (hs a (a0t.1 b))).1]
 generalize d:dO l=m at f this e |-;unfold cQ;simp only[f,a2i,if_false,this,e];rw[<-d];rfl
def PK (cN:List Int) (f:Nat->Int) (m:cN.length=17) (n:∀a:Nat,a<17->-144115188075855872<=cN.getD a 0/\cN.getD a 0<=144115188075855872) (l:∀a,-(12*1125899906842624)<=f a/\f a<=12*1125899906842624) :
  ∀k,k<=17->gK cN (((List.range k).map fun(a:Nat)=>(⟨(a:Int),f a⟩:cU)).filter fun x=>!jU x)=some ((List.range 17).map fun(a:Nat)=>cN.getD a 0+if a<k then f a else 0)
 |0,_=>by
  simp only[List.range_zero,a1x,List.filter_nil,gK,a0i];apply a26
  .simp[m]
  .intro i c h
   simp[a0f c]
 |k+1,o=>by
  have j:=PK cN f m n l k (by omega)
  rw[a1v,a03,a1a];have b:(List.range 17).map (fun(a:Nat)=>cN.getD a 0+if a<k+1 then f a else 0)=((List.range 17).map fun(a:Nat)=>cN.getD a 0+if a<k then f a else 0).set k (cN.getD k 0+f k):=by
   apply a26
   .simp
   .intro i c h
    rw[List.getElem_set];by_cases e:k=i
    .subst e;simp
    .simp only[e,if_false,List.getElem_map,List.getElem_range]
     have:(i<k+1)=(i<k):=by simp;omega
     simp only[this]
  have g:((List.range 17).map fun(a:Nat)=>cN.getD a 0+if a<k then f a else 0).getD k 0=cN.getD k 0:=by
   rw[List.getD,a0l,a4p (by omega)];simp
  by_cases d:f k=0
  .have e:List.filter (fun x=>!jU x) (List.map (fun(a:Nat)=>(⟨(a:Int),f a⟩:cU)) [k])=[]:=by simp[jU,d]
   rw[e,a1r,j,b];congr 1;rw[d,a1i];apply a26
   .simp
   .intro i c h
    rw[List.getElem_set];by_cases e:k=i
    .subst e;simp
    .simp[e]
  .have e:List.filter (fun x=>!jU x) (List.map (fun(a:Nat)=>(⟨(a:Int),f a⟩:cU)) [k])=[⟨(k:Int),f k⟩]:=by simp[jU,d]
   rw[e,Ld,j];simp only[a1p,a00,g];have c:=n k (by omega);have h:=l k;rw[if_pos (pR.2 ⟨fG.2 ⟨by omega,by omega⟩,fG.2 ⟨by omega,by omega⟩,fG.2 ⟨by omega,by omega⟩⟩),b]
def aa1 {cN:List Int} {l:List cU} (t:cN.length=17) (u:∀a:Nat,a<17->-144115188075855872<=cN.getD a 0/\cN.getD a 0<=144115188075855872) (h:Small l) (hs:(eY l).sum=0):nE cN (dO l)=(anW cN l,0):=by
 have c:=Eb l h.ok;have f:=h.len;have j:=Rl h;have k:gK cN (dO l)=some (anW cN l):=by
  have:=PK cN (fun a=>gQ l a) t u (fun a=>by have:=c a;omega) 17 (a0g _);unfold dO anW;rw[this];congr 1
 have s:(dO l).length=0\/pA (dO l)=true:=by
  rcases a4b (dO l).length with o|o
  .exact .inl o
  .right
   have v:=MP (l:=l)
   have d:(dO l).any Oy=false:=by
    rw[a1t];intro x b;have:=tR h x b;have c:=c x.a;simp only[Oy,a15,a32,not_or,a4y,decide_eq_true_eq];exact⟨⟨wO.2 ⟨this.1,this.2.1⟩,this.2.2.1⟩,fG.2 ⟨by omega,by omega⟩⟩
   have z:eU (eY (dO l))<=17*(12*1125899906842624):=by
    have:∀m:List cU,(∀x∈m,-(12*1125899906842624)<=x.n/\x.n<=12*1125899906842624)->eU (eY m)<=12*1125899906842624*(m.length:Int):=by
     intro m;induction m with
     |nil=>intro _;simp[eY,eU]
     |cons x m p =>
      intro i;have e:eY (x::m)=x.n::eY m:=rfl;have:=p fun y q=>i y (a06 _ q);have b:=i x a1b;rw[e,fX,a0v];omega
    have w:=this (dO l) (fun x b=>by have:=tR h x b;have:=c x.a;omega);omega
   have g:dM 0 (eY (dO l))=some 0:=by
    rw[mR _ 0 (by omega),a2v];congr 1
    unfold dO;rw[afG];have e:eY ((List.range 17).map fun(a:Nat)=>(⟨(a:Int),gQ l a⟩:cU))=(List.range 17).map fun(a:Nat)=>gQ l a:=by
     unfold eY;rw[a16];rfl
    rw[e,zD l (fun x b=>⟨(h.ok x b).1,(h.ok x b).2.1⟩),hs]
   unfold pA;rw[d,(lX g).1,(lX g).2];simp;omega
 have r:¬ ((0:Int)≠0\/(0<(dO l).length/\pA (dO l)=false)):=by
  rintro(h|⟨A,c⟩)
  .exact h rfl
  .rcases s with f|f
   .omega
   .rw[f]at c;cases c
 have e1:A5 cN (dO l)=0:=by rw[A5,j,if_neg r,k]
 rw[nE,if_pos e1,ML,j,k];rfl
abbrev M58:Int:=288230376151711744
abbrev qA (v:Int):Prop:=-288230376151711744<=v/\v<=288230376151711744
def dE.nil:dE:=⟨⟨0,false,[],[],[],[],[]⟩,[]⟩
def bF.aB (S:bF) (e:Int):dE:=S.aH.getD e.toNat dE.nil
def bF.cE (S:bF) (e item:Int):Int:=(S.methods.getD e.toNat []).getD item.toNat 0
def bF.cost (S:bF) (e item:Int):Int:=(S.bT.getD e.toNat []).getD item.toNat 0
def dE.aU (x:dE) (k:Int):cY:=x.bK.getD k.toNat ⟨[],0,0,0⟩
def dE.rG (x:dE) (item:Int):List Int:=x.aJ.getD item.toNat []
def dE.bR (x:dE) (k:Int) (p:cY):dE:={ x with bK:=x.bK.set k.toNat p }
def dE.xN (x:dE) (item:Int) (r:List Int):dE:={ x with aJ:=x.aJ.set item.toNat r }
structure NX (n:Nat) (ms:List Int) (x:EntC):Prop where
 pl:x.bK.length=2*n
 ok:∀(k:Nat) (p:cY),x.bK[k]?=some p->jS (ms.getD (k/2) 0) p.aN p.pn
 bl:x.cN.length=17
 bb:∀v∈x.cN,qA v
 rl:x.aJ.length=n
 rr:∀r∈x.aJ,r.length=11/\∀v∈r,qA v
 pr:x.bD.length=n
 prb:∀v∈x.bD,-1<=v/\v<=M58
 dl:x.down.length=n
 db:∀v∈x.down,0<=v/\v<=M58
 now:1<=x.now/\x.now<=12
structure StOk (S:bF):Prop where
 hn:S.aH.length<=4
 hw:S.weights.length<=5
 Nd:S.methods.length=S.aH.length
 ET:S.bT.length=S.aH.length
 AP:∀r∈S.methods,r.length=S.weights.length
 lS:∀r∈S.bT,r.length=S.weights.length
 mb:∀r∈S.methods,∀v∈r,1<=v/\v<=4
 cb:∀r∈S.bT,∀v∈r,0<=v/\v<=1073741824
 aB:∀(e:Nat) (x:dE),S.aH[e]?=some x->NX S.weights.length (S.methods.getD e []) x.toEntC
 ahead:∀x∈S.aH,∀(e:Nat),S.aH[e]?=some x->∀y∈x.ahead,NX S.weights.length (S.methods.getD e []) y
structure Ix (S:bF) (e item:Int):Prop where
 e0:0<=e
 e1:e<S.aH.length
 i0:0<=item
 i1:item<S.weights.length
section
variable {S:bF} {e item:Int}
def StOk.at_ (h:StOk S) (x:Ix S e item):S.aH[e.toNat]?=some (S.aB e):=getD_some (by have:=x.e0;have:=x.e1;omega)
def StOk.mQ (h:StOk S) (x:Ix S e item):NX S.weights.length (S.methods.getD e.toNat []) (S.aB e).toEntC:=h.aB _ _ (h.at_ x)
def StOk.wx (h:StOk S) (x:Ix S e item):Wx S e item (S.aB e).now (S.aB e).closed (S.aB e).bK (S.aB e).cN (S.aB e).aJ (S.aB e).bD (S.aB e).down (S.aB e).ahead (S.methods.getD e.toNat []) (S.bT.getD e.toNat []) (S.cE e item) (S.cost e item):=by
 have E:=h.mQ x;have c:e.toNat<S.aH.length:=by have:=x.e0;have:=x.e1;omega
 have b:e.toNat<S.methods.length:=by rw[h.Nd];exact c
 have f:e.toNat<S.bT.length:=by rw[h.ET];exact c
 have a:=dA (d:=[]) b;have g:=dA (d:=[]) f;have j:=h.AP _ a;have i:=h.lS _ g;have m:item.toNat<S.weights.length:=by have:=x.i0;have:=x.i1;omega
 have l:=h.mb _ a _ (dA (d:=0) (k:=item.toNat) (by omega));have n:=h.cb _ g _ (dA (d:=0) (k:=item.toNat) (by omega));exact⟨h.hn,x.e0,x.e1,h.at_ x,h.hw,x.i0,x.i1,h.Nd,h.ET,getD_some b,getD_some f,j,i,E.pl,E.rl,getD_some (by omega),getD_some (by omega),⟨by unfold bF.cE;omega,by unfold bF.cE;omega⟩,⟨by unfold bF.cost;omega,by unfold bF.cost;omega⟩⟩
def StOk.mb' (h:StOk S) (x:Ix S e item):1<=S.cE e item/\S.cE e item<=4:=by
 have c:e.toNat<S.aH.length:=by have:=x.e0;have:=x.e1;omega
 have b:e.toNat<S.methods.length:=by rw[h.Nd];exact c
 have a:=dA (d:=[]) b;have g:=h.AP _ a;have f:item.toNat<S.weights.length:=by have:=x.i0;have:=x.i1;omega
 exact h.mb _ a _ (dA (d:=0) (k:=item.toNat) (by omega))
def StOk.cb' (h:StOk S) (x:Ix S e item):0<=S.cost e item/\S.cost e item<=1073741824:=by
 have b:e.toNat<S.aH.length:=by have:=x.e0;have:=x.e1;omega
 have c:e.toNat<S.bT.length:=by rw[h.ET];exact b
 have a:=dA (d:=[]) c;have f:=h.lS _ a;have g:item.toNat<S.weights.length:=by have:=x.i0;have:=x.i1;omega
 exact h.cb _ a _ (dA (d:=0) (k:=item.toNat) (by omega))
def StOk.plt (h:StOk S) (x:Ix S e item) {loc:Int} (a:0<=loc) (l1:loc<=1):(2*item+loc).toNat<(S.aB e).bK.length:=by
 have:=(h.mQ x).pl;have:=x.i0;have:=x.i1;omega
def StOk.pat (h:StOk S) (x:Ix S e item) {loc:Int} (a:0<=loc) (l1:loc<=1):(S.aB e).bK[(2*item+loc).toNat]?=some ((S.aB e).aU (2*item+loc)):=getD_some (h.plt x a l1)
def StOk.xV (h:StOk S) (x:Ix S e item) {loc:Int} (a:0<=loc) (l1:loc<=1):jS (S.cE e item) ((S.aB e).aU (2*item+loc)).aN ((S.aB e).aU (2*item+loc)).pn:=by
 have k:=(h.mQ x).ok _ _ (h.pat x a l1);have e1:(2*item+loc).toNat/2=item.toNat:=by have:=x.i0;omega
 rw[e1]at k;exact k
def Ix.ie (x:Ix S e item) (h:StOk S):kS e:=by have:=x.e0;have:=x.e1;have:=h.hn;exact⟨by omega,by omega⟩
def Ix.ii (x:Ix S e item) (h:StOk S):kS item:=by have:=x.i0;have:=x.i1;have:=h.hw;exact⟨by omega,by omega⟩
def amA (h:StOk S) (x:Ix S e item) {loc:Int} (a:0<=loc) (l1:loc<=1):CK Tryz.prog 112 [S.av,.i e,.i item,.i loc] ((S.aB e).aU (2*item+loc)).av :=
 aoZ (h.wx x) a l1 rfl (h.pat x a l1) (h.xV x a l1).lr.len
def bV (S:bF) (e item:Int):bP×Bool :=
 let a:=((S.aB e).aU (2*item)).aN;let b:=((S.aB e).aU (2*item+1)).aN
 (⟨dP [qs a,qs b],dP [vs a,vs b],dP [ps a,ps b]⟩,decide (eB [qs a,qs b]=0/\eB [vs a,vs b]=0/\eB [ps a,ps b]=0))
def xI (l:List Int):eB l=0\/eB l=2:=by unfold eB;split<;>simp
def PJ {a b:Int} (h1:kS a) (d:kS b):fM [a,b]:=by
 intro v c;simp only[a0d,a0b,or_false]at c;rcases c with rfl|rfl
 .exact h1
 .exact d
def aiH (h:StOk S) (x:Ix S e item):CK Tryz.prog 129 [S.av,.i e,.i item] (.bE [(bV S e item).1.av,.c (.bool (bV S e item).2)]):=by
 have a0:=amA h x (loc:=0) (by omega) (by omega);have k:=amA h x (loc:=1) (by omega) (by omega);have r0:=(h.xV x (loc:=0) (by omega) (by omega)).lr;have r1:=(h.xV x (loc:=1) (by omega) (by omega)).lr;rw[a1i]at a0 r0;have f:=PA r0;have d:=PA r1;unfold bV;generalize (S.aB e).aU (2*item)=b at *;generalize (S.aB e).aU (2*item+1)=a at *;obtain⟨b1,b2,b3⟩:=r0.bds;obtain⟨q,p,o⟩:=r1.bds;have g:=qT [qs b.aN,qs a.aN] (PJ b1 q);have sv:=qT [vs b.aN,vs a.aN] (PJ b2 p);have j:=qT [ps b.aN,ps a.aN] (PJ b3 o);have m:=xI [qs b.aN,qs a.aN];have l:=xI [vs b.aN,vs a.aN];have n:=xI [ps b.aN,ps a.aN];simp only;generalize eB [qs b.aN,qs a.aN]=r at *;generalize eB [vs b.aN,vs a.aN]=ev at *;generalize eB [ps b.aN,ps a.aN]=s at *;rcases m with rfl|rfl<;>rcases l with rfl|rfl<;>rcases n with rfl|rfl
 .exact alo (x.ie h) (x.ii h) a0 k f d g sv j
 .exact alj (x.ie h) (x.ii h) a0 k f d g sv j
 .exact alm (x.ie h) (x.ii h) a0 k f d g sv j
 .exact alh (x.ie h) (x.ii h) a0 k f d g sv j
 .exact aln (x.ie h) (x.ii h) a0 k f d g sv j
 .exact ali (x.ie h) (x.ii h) a0 k f d g sv j
 .exact alk (x.ie h) (x.ii h) a0 k f d g sv j
 .exact alg (x.ie h) (x.ii h) a0 k f d g sv j
def XL (h:StOk S) (x:Ix S e item):CK Tryz.prog 69 [S.av,.i e,.i item] (bV S e item).1.av:=by
 have k:=aiH h x;generalize bV S e item=r at *;obtain⟨y,b⟩:=r;cases b with
 |true=>exact OD (x.ie h) (x.ii h) k
 |false=>exact NQ (x.ie h) (x.ii h) k
def PY (S:bF) (e item:Int):Bool:=decide (eB (sw ((S.aB e).aU (2*item)).aN++sw ((S.aB e).aU (2*item+1)).aN)=0)
end
end
section
open Mc
variable {x:bP}
def adn {l:List bP}:gY (CT l x).2:=by
 unfold CT;split
 .exact⟨by simp,by simp⟩
 .split
  .exact⟨by simp,by simp⟩
  .split<;>exact⟨by simp,by simp⟩
def RV {l:List bP}:gY (zS l x).2:=by
 unfold zS;split
 .exact⟨by simp,by simp⟩
 .exact adn
def akl {l:List bP} {c:Int}:gY (inC l x c).2.2:=by
 unfold inC;split
 .exact⟨by simp,by simp⟩
 .split
  .exact⟨by simp,by simp⟩
  .split
   .exact⟨by simp,by simp⟩
   .exact RV
def IS {m c:Int} {l:List bP} {x:bP}:gY (eR m c l x).2.2:=by
 unfold eR;split
 .exact adn
 .split
  .exact RV
  .split
   .exact RV
   .split
    .exact akl
    .exact⟨by simp,by simp⟩
def MU {l:List bP} {q:Int}:gY (fN l q).2.2:=by
 unfold fN;split
 .exact⟨by simp,by simp⟩
 .split<;>exact⟨by simp,by simp⟩
def ag6 {l:List bP} {d:uH} {q:Int}:gY (AO l d q).2.2:=by
 unfold AO;split
 .exact⟨by simp,by simp⟩
 .split
  .exact⟨by simp,by simp⟩
  .exact MU
def ag7 {l:List bP} {q c:Int}:gY (CQ l q c).2.2:=by
 have h:=@MU l q;unfold CQ;split
 .exact⟨by simp,by simp⟩
 .split
  .rename_i y e a;rw[a]at h;exact h
  .rename_i z t y e a
   rw[a]at h;split
   .exact h
   .exact⟨by simp,by simp⟩
def ad5 {l:List bP} {d:uH} {k q:Int}:gY (qB l d k q).2:=by
 unfold qB;split
 .exact⟨by simp,by simp⟩
 .split<;>exact⟨by simp,by simp⟩
def Ey {m c:Int} {l:List bP} {d:uH} {kind q:Int}:gY (cX m c l d kind q).2.2.2.2:=by
 unfold cX;split
 .exact⟨by simp,by simp⟩
 .split
  .exact⟨by simp,by simp⟩
  .split
   .exact ad5
   .simp only[fR]
    split
    .exact ag6
    .split
     .exact ag7
     .exact MU
def adm {l:List bP} (h:(CT l x).2=0):1<=x.q/\x.q<=288230376151711744/\0<=x.v/\x.v<=288230376151711744/\-288230376151711744<=x.p/\x.p<=288230376151711744:=by
 unfold CT at h;split at h
 .cases h
 .split at h
  .cases h
  .split at h
   .rename_i a
    exact(LR.of a).at_ (x:=x) (by simp)
   .cases h
def RU {l:List bP} (h:(zS l x).2=0):1<=x.q/\x.q<=288230376151711744/\0<=x.v/\x.v<=288230376151711744/\-288230376151711744<=x.p/\x.p<=288230376151711744:=by
 unfold zS at h;split at h
 .exact adm ‹_›
 .exact absurd h ‹_›
def CM {m c:Int} {l l':List bP} {up:Int} (h:eR m c l x=(l',up,0)):0<=x.v/\x.v<=288230376151711744/\-288230376151711744<=up/\up<=288230376151711744/\0<=x.v-up/\x.v-up<=288230376151711744/\1<=x.q:=by
 unfold eR at h;split at h
 .have:=adm (l:=l) (x:=x) (congrArg (fun r=>r.2.2) h)
  have a:up=0:=(congrArg (fun r=>r.2.1) h).symm;omega
 .split at h
  .have:=RU (l:=l) (x:=x) (congrArg (fun r=>r.2.2) h)
   have a:up=0:=(congrArg (fun r=>r.2.1) h).symm;omega
  .split at h
   .have:=RU (l:=l) (x:=x) (congrArg (fun r=>r.2.2) h)
    have a:up=0:=(congrArg (fun r=>r.2.1) h).symm;omega
   .split at h
    .unfold inC at h
     split at h
     .exact absurd (congrArg (fun r=>r.2.2) h) (by simp)
     .split at h
      .exact absurd (congrArg (fun r=>r.2.2) h) (by simp)
      .split at h
       .rename_i e d b
        have:=RU b;simp only at this;have a:up=x.v-C8 c x.q:=(congrArg (fun r=>r.2.1) h).symm;omega
       .rename_i b
        exact absurd (congrArg (fun r=>r.2.2) h) b
    .exact absurd (congrArg (fun r=>r.2.2) h) (by simp)
def StOk.aZ {S:bF} (h:StOk S) {e:Int} {x:dE} (i:0<=e) (d:NX S.weights.length (S.methods.getD e.toNat []) x.toEntC) (f:∀y∈x.ahead,NX S.weights.length (S.methods.getD e.toNat []) y):StOk (S.aZ e x):=by
 refine⟨by simp only[bF.aZ,a1d];exact h.hn,h.hw,by simp only[bF.aZ,a1d];exact h.Nd,by simp only[bF.aZ,a1d];exact h.ET,h.AP,h.lS,h.mb,h.cb,?_,?_⟩
 .intro k y a
  simp only[bF.aZ]at a |-;rw[a0o]at a;split at a
  .rename_i b
   subst b;split at a
   .cases a;exact d
   .cases a
  .exact h.aB k y a
 .intro y g k a z c
  simp only[bF.aZ]at a |-;rw[a0o]at a;split at a
  .rename_i b
   subst b;split at a
   .cases a;exact f z c
   .cases a
  .exact h.ahead y (a0a a) k a z c
section
variable {S:bF} {e item:Int}
def StOk.bR (h:StOk S) (x:Ix S e item) {loc:Int} (d:0<=loc) (l1:loc<=1) {p:cY} (b:jS (S.cE e item) p.aN p.pn):StOk (S.aZ e ((S.aB e).bR (2*item+loc) p)):=by
 have E:=h.mQ x;refine h.aZ x.e0 ?_ (h.ahead _ (a0a (h.at_ x)) _ (h.at_ x));refine⟨by simp only[dE.bR,a1d];exact E.pl,?_,E.bl,E.bb,E.rl,E.rr,E.pr,E.prb,E.dl,E.db,E.now⟩;intro k q a;simp only[dE.bR]at a;rw[a0o]at a;split at a
 .rename_i c
  subst c;split at a
  .cases a
   have e1:(2*item+loc).toNat/2=item.toNat:=by have:=x.i0;omega
   rw[e1];exact b
  .cases a
 .exact E.ok k q a
def Ix.aZ (x:Ix S e item) {e':Int} {y:dE}:Ix (S.aZ e' y) e item:=⟨x.e0,by simp only[bF.aZ,a1d];exact x.e1,x.i0,x.i1⟩
def bF.eS (x:Ix S e item) (y:dE):(S.aZ e y).aB e=y:=by
 have a:e.toNat<S.aH.length:=by have:=x.e0;have:=x.e1;omega
 simp[bF.aB,bF.aZ,List.getD,a0o,a]
def dE.Ex {x:dE} {k:Int} {p:cY} (h:k.toNat<x.bK.length):(x.bR k p).aU k=p:=by
 simp[dE.aU,dE.bR,List.getD,a0o,h]
def dE.CJ {x:dE} {k j:Int} {p:cY} (h:j.toNat≠k.toNat):(x.bR k p).aU j=x.aU j:=by
 simp[dE.aU,dE.bR,List.getD,a0o,Ne.symm h]
def dW (S:bF) (e item loc:Int) (y:bP):bF×Int×Int×Int :=
 if(eR (S.cE e item) (S.cost e item) ((S.aB e).aU (2*item+loc)).aN y).2.2≠0 then(S,0,0,(eR (S.cE e item) (S.cost e item) ((S.aB e).aU (2*item+loc)).aN y).2.2)
 else if(bV (S.aZ e ((S.aB e).bR (2*item+loc) { (S.aB e).aU (2*item+loc)with aN:=(eR (S.cE e item) (S.cost e item) ((S.aB e).aU (2*item+loc)).aN y).1 })) e item).2=false then(S,0,0,2)
 else if PY (S.aZ e ((S.aB e).bR (2*item+loc) { (S.aB e).aU (2*item+loc)with aN:=(eR (S.cE e item) (S.cost e item) ((S.aB e).aU (2*item+loc)).aN y).1 })) e item=false then(S,0,0,2)
 else(S.aZ e ((S.aB e).bR (2*item+loc) { (S.aB e).aU (2*item+loc)with aN:=(eR (S.cE e item) (S.cost e item) ((S.aB e).aU (2*item+loc)).aN y).1 }),y.v-(eR (S.cE e item) (S.cost e item) ((S.aB e).aU (2*item+loc)).aN y).2.1,(eR (S.cE e item) (S.cost e item) ((S.aB e).aU (2*item+loc)).aN y).2.1,0)
def dJ (S:bF) (e item loc kind q:Int):bF×bP×Bool×Int :=
 if(cX (S.cE e item) (S.cost e item) ((S.aB e).aU (2*item+loc)).aN ((S.aB e).aU (2*item+loc)).pn kind q).2.2.2.2≠0 then(S,⟨0,0,0⟩,false,(cX (S.cE e item) (S.cost e item) ((S.aB e).aU (2*item+loc)).aN ((S.aB e).aU (2*item+loc)).pn kind q).2.2.2.2)
 else(S.aZ e ((S.aB e).bR (2*item+loc) ⟨(cX (S.cE e item) (S.cost e item) ((S.aB e).aU (2*item+loc)).aN ((S.aB e).aU (2*item+loc)).pn kind q).1,(cX (S.cE e item) (S.cost e item) ((S.aB e).aU (2*item+loc)).aN ((S.aB e).aU (2*item+loc)).pn kind q).2.1.a,(cX (S.cE e item) (S.cost e item) ((S.aB e).aU (2*item+loc)).aN ((S.aB e).aU (2*item+loc)).pn kind q).2.1.b,(cX (S.cE e item) (S.cost e item) ((S.aB e).aU (2*item+loc)).aN ((S.aB e).aU (2*item+loc)).pn kind q).2.1.c⟩),(cX (S.cE e item) (S.cost e item) ((S.aB e).aU (2*item+loc)).aN ((S.aB e).aU (2*item+loc)).pn kind q).2.2.1,(cX (S.cE e item) (S.cost e item) ((S.aB e).aU (2*item+loc)).aN ((S.aB e).aU (2*item+loc)).pn kind q).2.2.2.1,0)
def rC:List Int->List Int->Option (List Int)
 |a::l,b::r=>if mZ a b=0 then(rC l r).map (mY a b::·)else none
 |_,_=>some []
def dR (S:bF) (e item:Int) (r:List Int):bF×Int :=
 match rC ((S.aB e).rG item) r with
 |none=>(S,2)
 |some s=>(S.aZ e ((S.aB e).xN item s),0)
def pC (a b:Int):mZ a b=0\/mZ a b=2:=by unfold mZ;split<;>simp
def ald (a b:Int):qA (mY a b):=by
 unfold mY;split
 .rename_i h
  have:=Ac h;exact⟨by omega,by omega⟩
 .exact⟨by omega,by omega⟩
def RN {l:List Int} (h:l.length=11):∃r0 r1 r2 i g f e d c b a,l=[r0,r1,r2,i,g,f,e,d,c,b,a]:=by
 match l,h with
 |[r0,r1,r2,i,g,f,e,d,c,b,a],_=>exact⟨_,_,_,_,_,_,_,_,_,_,_,rfl⟩
def acM (h:StOk S) (x:Ix S e item):(S.aB e).aJ[item.toNat]?=some ((S.aB e).rG item):=getD_some (by have:=(h.mQ x).rl;have:=x.i0;have:=x.i1;omega)
def acL (h:StOk S) (x:Ix S e item):((S.aB e).rG item).length=11/\∀v∈(S.aB e).rG item,qA v:=(h.mQ x).rr _ (a0a (acM h x))
def cZ (S:bF) (e:Int) (l:List cU):bF×Int :=
 if(cQ l).2≠0 then(S,(cQ l).2)else if(nE (S.aB e).cN (cQ l).1).2≠0 then(S,(nE (S.aB e).cN (cQ l).1).2)else(S.aZ e ((S.aB e).sW (nE (S.aB e).cN (cQ l).1).1),0)
def O1 (b:List Int) (l:List cU):gY (nE b l).2:=by
 unfold nE;split
 .exact⟨by simp,by simp⟩
 .unfold A5
  split
  .exact⟨by simp,by simp⟩
  .split<;>exact⟨by simp,by simp⟩
end
end
section
open Mc
structure Kin (S S1:bF):Prop where
 eq:S1=S.bM S1.aH
 len:S1.aH.length=S.aH.length
 ok:StOk S1
def Kin.refl {S:bF} (h:StOk S):Kin S S:=⟨rfl,rfl,h⟩
def Kin.trans {S S1 a:bF} (h:Kin S S1) (g:Kin S1 a):Kin S a:=⟨by rw[g.eq,h.eq];rfl,g.len.trans h.len,g.ok⟩
def Kin.ix {S S1:bF} (h:Kin S S1) {e item:Int} (x:Ix S e item):Ix S1 e item:=⟨x.e0,by rw[h.len];exact x.e1,x.i0,by rw[h.eq];exact x.i1⟩
def Kin.aZ {S:bF} {e:Int} {y:dE} (h:StOk (S.aZ e y)):Kin S (S.aZ e y):=⟨rfl,by simp[bF.aZ],h⟩
section
variable {S:bF} {e item:Int}
def Sl (h:StOk S) (x:Ix S e item) {loc:Int} (i:0<=loc) (l1:loc<=1) (y:bP) :
  Kin S (dW S e item loc y).1/\gY (dW S e item loc y).2.2.2/\qA (dW S e item loc y).2.1/\qA (dW S e item loc y).2.2.1/\((dW S e item loc y).2.2.2≠0->(dW S e item loc y).1=S/\(dW S e item loc y).2.1=0/\(dW S e item loc y).2.2.1=0):=by
 have l:=h.xV x i l1;have o:=h.mb' x;have c:=@IS (S.cE e item) (S.cost e item) ((S.aB e).aU (2*item+loc)).aN y;have f:=fun p n=>h.bR x (p:=p) i l1 n;unfold dW;obtain⟨d,up,a,b⟩:∃d up a,eR (S.cE e item) (S.cost e item) ((S.aB e).aU (2*item+loc)).aN y=(d,up,a):=⟨_,_,_,rfl⟩;have m:=l.in_ o b;have j:a=0->_:=fun(q:a=0)=>CM (by rw[b,q]);simp only[b]at c |-;clear b;have k:=Kin.aZ (f { (S.aB e).aU (2*item+loc)with aN:=d } m.1);split
 .exact⟨Kin.refl h,c,⟨by simp,by simp⟩,⟨by simp,by simp⟩,fun _=>⟨rfl,rfl,rfl⟩⟩
 .rename_i g
  have g:a=0:=by simpa using g
  have j:=j g;split
  .exact⟨Kin.refl h,⟨by simp,by simp⟩,⟨by simp,by simp⟩,⟨by simp,by simp⟩,fun _=>⟨rfl,rfl,rfl⟩⟩
  .split
   .exact⟨Kin.refl h,⟨by simp,by simp⟩,⟨by simp,by simp⟩,⟨by simp,by simp⟩,fun _=>⟨rfl,rfl,rfl⟩⟩
   .exact⟨k,⟨by simp,by simp⟩,⟨by simp only;omega,by simp only;omega⟩,⟨by simp only;omega,by simp only;omega⟩,fun h=>absurd rfl h⟩
def Rj {m c:Int} {l:List bP} {d:uH} {kind q:Int} (a:jS m l d) (e:1<=m/\m<=4) (f:0<=kind/\kind<=3):-288230376151711744<=(cX m c l d kind q).2.2.1.v/\(cX m c l d kind q).2.2.1.v<=288230376151711744:=by
 obtain⟨b,g⟩:=a.am1 (c:=c) (kind:=kind) (q:=q) e f (l':=(cX m c l d kind q).1) (d':=(cX m c l d kind q).2.1) (y:=(cX m c l d kind q).2.2.1) (wt:=(cX m c l d kind q).2.2.2.1) (e':=(cX m c l d kind q).2.2.2.2) rfl;have k:=a.lr.v;have j:=(fQ a.lr.ok).2.1;have i:=b.lr.v;have h:=(fQ b.lr.ok).2.1;omega
def aa2 {m c:Int} {l:List bP} {d:uH} {kind q:Int} (b:LR l):(0<=(cX m c l d kind q).2.2.1.q/\(cX m c l d kind q).2.2.1.q<=288230376151711744)/\-576460752303423488<=(cX m c l d kind q).2.2.1.p/\(cX m c l d kind q).2.2.1.p<=576460752303423488:=by
 have k:=ag5 b (q:=q);unfold cX;split
 .simp[bP.zero]
 .split
  .simp[bP.zero]
  .split
   .simp[bP.zero]
   .simp only[fR]
    split
    .unfold AO
     split
     .simp[bP.zero]
     .split
      .simp[bP.zero]
      .exact k
    .split
     .unfold CQ
      split
      .simp[bP.zero]
      .split
       .rename_i y e a;rw[a]at k;exact k
       .rename_i z t y e a
        rw[a]at k;split
        .exact k
        .exact k
     .exact k
def R7 (h:StOk S) (x:Ix S e item) {loc kind:Int} (o:0<=loc) (l1:loc<=1) (s:0<=kind) (r:kind<=3) (q:Int) :
  Kin S (dJ S e item loc kind q).1/\gY (dJ S e item loc kind q).2.2.2/\qA (dJ S e item loc kind q).2.1.v/\((0<=(dJ S e item loc kind q).2.1.q/\(dJ S e item loc kind q).2.1.q<=288230376151711744)/\-576460752303423488<=(dJ S e item loc kind q).2.1.p/\(dJ S e item loc kind q).2.1.p<=576460752303423488)/\((dJ S e item loc kind q).2.2.2≠0->(dJ S e item loc kind q).1=S/\(dJ S e item loc kind q).2.1=⟨0,0,0⟩/\(dJ S e item loc kind q).2.2.1=false):=by
 have f:=h.xV x o l1;have t:=h.mb' x;have i:=@Ey (S.cE e item) (S.cost e item) ((S.aB e).aU (2*item+loc)).aN ((S.aB e).aU (2*item+loc)).pn kind q;have z:=Rj (c:=S.cost e item) (kind:=kind) (q:=q) f t ⟨s,r⟩;have u:=aa2 (m:=S.cE e item) (c:=S.cost e item) (d:=((S.aB e).aU (2*item+loc)).pn) (kind:=kind) (q:=q) f.lr;unfold dJ;obtain⟨j,g,y,n,v,l⟩:∃j g y n v,cX (S.cE e item) (S.cost e item) ((S.aB e).aU (2*item+loc)).aN ((S.aB e).aU (2*item+loc)).pn kind q=(j,g,y,n,v):=⟨_,_,_,_,_,rfl⟩;have k:=f.am1 t ⟨s,r⟩ l;simp only[l]at i z u |-;clear l;have w:=Kin.aZ (h.bR x o l1 (p:=⟨j,g.a,g.b,g.c⟩) k.1);split
 .exact⟨Kin.refl h,i,⟨by simp,by simp⟩,by simp,fun _=>⟨rfl,rfl,rfl⟩⟩
 .exact⟨w,⟨by simp,by simp⟩,⟨by simp only;omega,by simp only;omega⟩,u,fun h=>absurd rfl h⟩
def X4:∀(a b s:List Int),a.length=b.length->rC a b=some s->s.length=a.length/\∀v∈s,qA v
 |[],[],s,_,h=>by simp[rC]at h;subst h;simp
 |[],_::_,s,c,h=>by simp at c
 |_::_,[],s,c,h=>by simp at c
 |a::l,b::r,s,c,h=>by
  simp only[rC]at h;split at h
  .cases d:rC l r with
   |none=>rw[d]at h;cases h
   |some t =>
    rw[d]at h;cases h;obtain⟨g,f⟩:=X4 l r t (by simpa using c) d;refine⟨by simp[g],?_⟩;intro v e;rcases a0d.1 e with rfl|e
    .exact ald _ _
    .exact f v e
  .cases h
def StOk.xN (h:StOk S) (x:Ix S e item) {r:List Int} (b:r.length=11/\∀v∈r,qA v):StOk (S.aZ e ((S.aB e).xN item r)):=by
 have E:=h.mQ x;refine h.aZ x.e0 ?_ (h.ahead _ (a0a (h.at_ x)) _ (h.at_ x));refine⟨E.pl,E.ok,E.bl,E.bb,by simp only[dE.xN,a1d];exact E.rl,?_,E.pr,E.prb,E.dl,E.db,E.now⟩;intro q a;simp only[dE.xN]at a;rcases a08 a with a|rfl
 .exact E.rr q a
 .exact b
def SN (h:StOk S) (x:Ix S e item) {r:List Int} (d:r.length=11):Kin S (dR S e item r).1/\gY (dR S e item r).2/\((dR S e item r).2≠0->(dR S e item r).1=S):=by
 have a:=acL h x;unfold dR;split
 .exact⟨Kin.refl h,⟨by simp,by simp⟩,fun _=>rfl⟩
 .rename_i s hs
  obtain⟨c,b⟩:=X4 _ _ _ (by rw[a.1,d]) hs;exact⟨Kin.aZ (h.xN x ⟨by rw[c,a.1],b⟩),⟨by simp,by simp⟩,fun h=>absurd rfl h⟩
def X7:∀(m:List cU) (cN next:List Int),(∀v∈cN,qA v)->gK cN m=some next->∀v∈next,qA v
 |[],cN,next,a,h=>by simp[gK]at h;rw[<-h];exact a
 |x::m,cN,next,a,h=>by
  simp only[gK]at h;split at h
  .rename_i c
   have d:=Ac c;refine X7 m _ _ (fun z b=>?_) h;rcases a08 b with h|rfl
   .exact a z h
   .exact⟨by omega,by omega⟩
  .cases h
def agq {b:List Int} {l:List cU} (a:b.length=17) (c:∀v∈b,qA v):(nE b l).1.length=17/\∀v∈(nE b l).1,qA v:=by
 unfold nE;split
 .simp only[ML]
  cases h:gK b (cQ l).1 with
  |none=>simp only[Option.getD_none];exact⟨a,c⟩
  |some n=>simp only[a22];exact⟨by rw[CZ _ _ _ h,a],X7 _ _ _ c h⟩
 .exact⟨a,c⟩
def StOk.sW (h:StOk S) (x:Ix S e item) {b:List Int} (a:b.length=17/\∀v∈b,qA v):StOk (S.aZ e ((S.aB e).sW b)):=by
 have E:=h.mQ x;refine h.aZ x.e0 ?_ (h.ahead _ (a0a (h.at_ x)) _ (h.at_ x));exact⟨E.pl,E.ok,a.1,a.2,E.rl,E.rr,E.pr,E.prb,E.dl,E.db,E.now⟩
def Ts (h:StOk S) (x:Ix S e item) (l:List cU):Kin S (cZ S e l).1/\gY (cZ S e l).2/\((cZ S e l).2≠0->(cZ S e l).1=S):=by
 have E:=h.mQ x;have e1:=CN l;have e2:=O1 (S.aB e).cN (cQ l).1;have a:=agq (l:=(cQ l).1) E.bl E.bb;unfold cZ;split
 .exact⟨Kin.refl h,e1.1,fun _=>rfl⟩
 .split
  .exact⟨Kin.refl h,e2,fun _=>rfl⟩
  .exact⟨Kin.aZ (h.sW x a),⟨by simp,by simp⟩,fun h=>absurd rfl h⟩
end
end
section
open Mc
section
variable {S:bF} {e item:Int}
def fY (h:StOk S) (x:Ix S e item):Ck 89 [S.av,.i e,.i item] (.i (if(S.aB e).closed then 7 else 0)):=by
 have H:=h.wx x;have:=H.bd;generalize (S.aB e).closed=cl at *;cases cl with
 |true=>exact cw (EV KeF [] [] [] [] [] [] []) (ev2 H [] [] [] .nil) Kbj (.i 7) kn
 |false=>exact cw (EV Kev [] [] [] [] [] [] []) (ev2 H [] [] [] .nil) Kbj (.i 0) kn
def lV (h:StOk S) (x:Ix S e item) {loc:Int} (a:0<=loc) (l1:loc<=1):Ck 121 [S.av,.i e,.i item,.i loc] ((S.aB e).aU (2*item+loc)).av:=by
 have H:=h.wx x;have:=H.bd;have b:=h.pat x a l1;have c:=(h.xV x a l1).lr.len;generalize (S.aB e).aU (2*item+loc)=P at *;obtain⟨L,p0,p1,p2⟩:=P;simp only at c;exact cw (EV (.o 4) [(0,1),(0,30)] BP [(15,[([7],1)])] Gc [] [] []) (ev2 H [loc,(L.length:Int)] [.I p0,.I p1,.I p2] [aM L] (.d (aQ b) .nil)) BA Kbu kn
def I2 (h:StOk S) (x:Ix S e item):Ck 88 [S.av,.i e,.i item] (.bE [(bV S e item).1.av,.i (if(bV S e item).2 then 0 else 2)]):=by
 have:=x.e0;have:=x.e1;have:=h.hn;have:=x.i0;have:=x.i1;have:=h.hw;have a:=lV h x (loc:=0) (by omega) (by omega);have m:=lV h x (loc:=1) (by omega) (by omega);have r0:=(h.xV x (loc:=0) (by omega) (by omega)).lr;have r1:=(h.xV x (loc:=1) (by omega) (by omega)).lr;rw[a1i]at a r0;have o:=r0.bds;have n:=r1.bds;unfold bV;generalize (S.aB e).aU (2*item)=s at *;generalize (S.aB e).aU (2*item+1)=r at *;obtain⟨L0,a0,b,a2⟩:=s;obtain⟨L1,b0,b1,b2⟩:=r;dsimp only at *;have j:=qG (p0:=a0) (p1:=b) (p2:=a2) r0;have g:=qG (p0:=b0) (p1:=b1) (p2:=b2) r1;have k:=Is [qs L0,qs L1] (PJ o.1 n.1);have sv:=Is [vs L0,vs L1] (PJ o.2.1 n.2.1);have sw:=Is [ps L0,ps L1] (PJ o.2.2 n.2.2);have e1:=xI [qs L0,qs L1];have e2:=xI [vs L0,vs L1];have p:=xI [ps L0,ps L1];simp only[decide_eq_true_eq];generalize dP [qs L0,qs L1]=q at *;generalize dP [vs L0,vs L1]=v at *;generalize dP [ps L0,ps L1]=w at *;generalize eB [qs L0,qs L1]=y at *;generalize eB [vs L0,vs L1]=u at *;generalize eB [ps L0,ps L1]=t at *;generalize qs L0=q0 at *;generalize vs L0=f at *;generalize ps L0=w0 at *;generalize qs L1=l at *;generalize vs L1=d at *;generalize ps L1=c at *;rcases e1 with rfl|rfl<;>rcases e2 with rfl|rfl<;>rcases p with rfl|rfl
 .exact cw _ (ev1 { vars:=Kfg,bQ:=[YV,VC,YW,VD,HT,HJ,HK] } [e,item] (vT S [.I q0,.I f,.I w0,.I l,.I d,.I c,.I q,.I v,.I w,.I a0,.I b,.I a2,.I b0,.I b1,.I b2]) (sT S [aM L0,aM L1]) .nil) Kbi (.bE [KcB,.i 0]) (kc a (kc j (kc m (kc g (kc k (kc sv (kc sw kn)))))))
 .exact cw _ (ev1 { vars:=Kfg,bQ:=[YV,VC,YW,VD,HT,HJ,HL] } [e,item] (vT S [.I q0,.I f,.I w0,.I l,.I d,.I c,.I q,.I v,.I w,.I a0,.I b,.I a2,.I b0,.I b1,.I b2]) (sT S [aM L0,aM L1]) .nil) Kbi Bf (kc a (kc j (kc m (kc g (kc k (kc sv (kc sw kn)))))))
 .exact cw _ (ev1 { vars:=Kfg,bQ:=[YV,VC,YW,VD,HT,HM,HK] } [e,item] (vT S [.I q0,.I f,.I w0,.I l,.I d,.I c,.I q,.I v,.I w,.I a0,.I b,.I a2,.I b0,.I b1,.I b2]) (sT S [aM L0,aM L1]) .nil) Kbi Bf (kc a (kc j (kc m (kc g (kc k (kc sv (kc sw kn)))))))
 .exact cw _ (ev1 { vars:=Kfg,bQ:=[YV,VC,YW,VD,HT,HM,HL] } [e,item] (vT S [.I q0,.I f,.I w0,.I l,.I d,.I c,.I q,.I v,.I w,.I a0,.I b,.I a2,.I b0,.I b1,.I b2]) (sT S [aM L0,aM L1]) .nil) Kbi Bf (kc a (kc j (kc m (kc g (kc k (kc sv (kc sw kn)))))))
 .exact cw _ (ev1 { vars:=Kfg,bQ:=[YV,VC,YW,VD,HU,HJ,HK] } [e,item] (vT S [.I q0,.I f,.I w0,.I l,.I d,.I c,.I q,.I v,.I w,.I a0,.I b,.I a2,.I b0,.I b1,.I b2]) (sT S [aM L0,aM L1]) .nil) Kbi Bf (kc a (kc j (kc m (kc g (kc k (kc sv (kc sw kn)))))))
 .exact cw _ (ev1 { vars:=Kfg,bQ:=[YV,VC,YW,VD,HU,HJ,HL] } [e,item] (vT S [.I q0,.I f,.I w0,.I l,.I d,.I c,.I q,.I v,.I w,.I a0,.I b,.I a2,.I b0,.I b1,.I b2]) (sT S [aM L0,aM L1]) .nil) Kbi Bf (kc a (kc j (kc m (kc g (kc k (kc sv (kc sw kn)))))))
 .exact cw _ (ev1 { vars:=Kfg,bQ:=[YV,VC,YW,VD,HU,HM,HK] } [e,item] (vT S [.I q0,.I f,.I w0,.I l,.I d,.I c,.I q,.I v,.I w,.I a0,.I b,.I a2,.I b0,.I b1,.I b2]) (sT S [aM L0,aM L1]) .nil) Kbi Bf (kc a (kc j (kc m (kc g (kc k (kc sv (kc sw kn)))))))
 .exact cw _ (ev1 { vars:=Kfg,bQ:=[YV,VC,YW,VD,HU,HM,HL] } [e,item] (vT S [.I q0,.I f,.I w0,.I l,.I d,.I c,.I q,.I v,.I w,.I a0,.I b,.I a2,.I b0,.I b1,.I b2]) (sT S [aM L0,aM L1]) .nil) Kbi Bf (kc a (kc j (kc m (kc g (kc k (kc sv (kc sw kn)))))))
def I3 (h:StOk S) (x:Ix S e item):Ck 52 [S.av,.i e,.i item] (bV S e item).1.av:=by
 have:=x.e0;have:=x.e1;have:=h.hn;have:=x.i0;have:=x.i1;have:=h.hw;have b:=I2 h x;obtain⟨f,a⟩:∃f:Int,f=if(bV S e item).2 then 0 else 2:=⟨_,rfl⟩
 rw[<-a]at b;have:0<=f/\f<=2:=by rw[a];split<;>omega
 clear a;generalize (bV S e item).1=t at *;obtain⟨q,v,w⟩:=t;exact cw _ (ev1 { vars:=[(0,3),(0,4),(0,2)],bQ:=[(88,Kbi,(.bE [Kdn,.v 2]))] } [e,item,f] (vT S [.I q,.I v,.I w]) (sT S []) .nil) Kbi Kdn (kc b kn)
def sL (h:StOk S) (x:Ix S e item) {loc:Int} (b:0<=loc) (l1:loc<=1) (P:cY):Ck 123 [S.av,.i e,.i item,.i loc,P.av] (S.aZ e ((S.aB e).bR (2*item+loc) P)).av:=by
 have H:=h.wx x;have:=H.bd;have c:=h.pat x b l1;have E:=h.mQ x;have n:=E.bl;have l:=E.pr;have m:=E.dl
 have a:(S.aZ e ((S.aB e).bR (2*item+loc) P)).av=S.setRow e (zW (S.aB e).now (S.aB e).closed ((bS (S.aB e).bK).set (2*item+loc).toNat P.row) (aA (S.aB e).cN) (bN (S.aB e).aJ) (aA (S.aB e).bD) (aA (S.aB e).down) (bX (S.aB e).ahead)):=by
  rw[bF.nV,<-MM];rfl
 rw[a];clear a E;generalize (S.aB e).aU (2*item+loc)=Q at *;obtain⟨L,p0,p1,p2⟩:=Q;obtain⟨k,j,g,f⟩:=P;exact cw (EV (.o 4) [(0,1)] BP GP Gc [] [] []) (ev2 H [loc] [.I p0,.I p1,.I p2,.I j,.I g,.I f] [aM L,aM k] (.d (aQ c) .nil)) [Keg,.v 0,.v 2,.v 6,(.agg [.q 3 16,.o 8,.o 9,.o 10])] (sN (.seq 8 0 [([([0],1)],[.o 3,.o 4,(.seq 4 7 [(KeG,[.q 3 16,.o 8,.o 9,.o 10])] []),.q 1 8,.q 11 9,.q 1 10,.q 1 11,.q 8 12])] []) (.o 2)) kn
def eH (h:StOk S) (x:Ix S e item) {l:List cU} (n:fM (dV l)) (k:l.length<=1000000):Ck 92 [S.av,.i e,.lit 2 (bU l)] (.bE [(cZ S e l).1.av,.i (cZ S e l).2]):=by
 have H:=h.wx x;have:=H.bd;have E:=h.mQ x;have w:=E.bl;have p:=E.pr;have u:=E.dl;have c:=I4 l n k;have d:=Rk l;have s:=CN l;have t:=O4 l;unfold cZ;generalize cQ l=r at *;obtain⟨m,f⟩:=r;simp only at *;by_cases a:f=0;rotate_left
 .rw[if_pos a];exact cw (EV (.o 4) [(1,20)] [] [] [] [] [] [(45,[.q 2 15],(.bE [.q 2 16,.v 6]))]) (ev2 H [f] [] [bU l,bU m] .nil) Kac Kau (kc c kn)
 subst a;rw[if_neg (by simp)];have g:=ab5 (S.aB e).cN m E.bl d (by omega);have y:=O1 (S.aB e).cN m;generalize nE (S.aB e).cN m=r at *;obtain⟨b,f⟩:=r;simp only at *;by_cases a:f=0;rotate_left
 .rw[if_pos a];exact cw (EV (.o 4) [(1,20)] [] [] [] [] [] [BQ,(152,[.q 1 8,.q 2 16],(.bE [.q 1 17,.v 6]))]) (ev2 H [f] [] [bU l,bU m,aA b] .nil) Kac Kau (kc c (kc g kn))
 subst a;rw[if_neg (by simp)];have j:(S.aZ e ((S.aB e).sW b)).av=S.setRow e (zW (S.aB e).now (S.aB e).closed (bS (S.aB e).bK) (aA b) (bN (S.aB e).aJ) (aA (S.aB e).bD) (aA (S.aB e).down) (bX (S.aB e).ahead)):=by rw[bF.nV];rfl
 rw[j];exact cw (EV (.o 4) [] [] GP [] [] [] [BQ,(152,[.q 1 8,.q 2 16],(.bE [.q 1 17,.i 0]))]) (ev2 H [] [] [bU l,bU m,aA b] .nil) Kac (.bE [(sN (.seq 8 0 [([([0],1)],[.o 3,.o 4,.q 4 7,.q 1 17,.q 11 9,.q 1 10,.q 1 11,.q 8 12])] []) (.o 2)),.i 0]) (kc c (kc g kn))
def aa3 {m c:Int} {l l':List bP} {x:bP} {up f:Int} (a:eR m c l x=(l',up,f)):-288230376151711744<=up/\up<=288230376151711744:=by
 by_cases b:f=0
 .subst b;have:=CM a;omega
 .have:=(MN (m:=m) (c:=c) (l:=l) (x:=x) (by rw[a];exact b)).2
  rw[a]at this;simp only at this;omega
def lI (h:StOk S) (x:Ix S e item) {loc:Int} (F:0<=loc) (l1:loc<=1) {y:bP} (hy:fM [y.q,y.v,y.p]):Ck 145 [S.av,.i e,.i item,.i loc,y.av] (.bE [(dW S e item loc y).1.av,.i (dW S e item loc y).2.1,.i (dW S e item loc y).2.2.1,.i (dW S e item loc y).2.2.2]):=by
 have H:=h.wx x;have:=H.bd;have D:=h.pat x F l1;have K:=h.xV x F l1;have hm:=h.mb' x;have O:=h.cb' x;have R:=lV h x F l1;have ab:=@IS (S.cE e item) (S.cost e item) ((S.aB e).aU (2*item+loc)).aN y;have V:∀{a:List bP} {up f:Int},eR (S.cE e item) (S.cost e item) ((S.aB e).aU (2*item+loc)).aN y=(a,up,f)->_:=fun j=>K.in_ hm j;have W:∀{a:List bP} {up:Int},eR (S.cE e item) (S.cost e item) ((S.aB e).aU (2*item+loc)).aN y=(a,up,0)->_:=fun j=>CM j;have G:=fun p D=>h.bR x (p:=p) F l1 D;have J:=fun P=>sL h x F l1 P;obtain⟨t,k,u⟩:=y;have l:=fun p0 p1 p2=>aiI (p0:=p0) (p1:=p1) (p2:=p2) (q:=t) (v:=k) (z:=u) (c:=S.cost e item) hm K.lr K.one hy O;have U:=hy k (by simp);have:=U.lo;have:=U.hi;unfold dW;obtain⟨a,up,f,j⟩:∃a up f,eR (S.cE e item) (S.cost e item) ((S.aB e).aU (2*item+loc)).aN ⟨t,k,u⟩=(a,up,f):=⟨_,_,_,rfl⟩;have k1:=V j;have ac:=aa3 j;have k3:=fun(E:f=0)=>W (by rw[j,E]);simp only[j]at ab l |-;clear V W j;have b:=G { (S.aB e).aU (2*item+loc)with aN:=a } k1.1;have w:=x.aZ (e':=e) (y:=(S.aB e).bR (2*item+loc) { (S.aB e).aU (2*item+loc)with aN:=a });have N:=J { (S.aB e).aU (2*item+loc)with aN:=a };have C:=I2 b w;have E:=lV b w (loc:=0) (by omega) (by omega);have h1:=lV b w (loc:=1) (by omega) (by omega);have g0:=(b.xV w (loc:=0) (by omega) (by omega)).lr;have g1:=(b.xV w (loc:=1) (by omega) (by omega)).lr;rw[a1i]at E g0;have aa:PY (S.aZ e ((S.aB e).bR (2*item+loc) { (S.aB e).aU (2*item+loc)with aN:=a })) e item=decide (eB (((((S.aZ e ((S.aB e).bR (2*item+loc) { (S.aB e).aU (2*item+loc)with aN:=a })).aB e).aU (2*item)).aN++(((S.aZ e ((S.aB e).bR (2*item+loc) { (S.aB e).aU (2*item+loc)with aN:=a })).aB e).aU (2*item+1)).aN).map kO)=0):=by unfold PY sw kO;rw[a03]
 have l:=l ((S.aB e).aU (2*item+loc)).p0 ((S.aB e).aU (2*item+loc)).p1 ((S.aB e).aU (2*item+loc)).p2;clear G J;generalize hT:S.aZ e ((S.aB e).bR (2*item+loc) { (S.aB e).aU (2*item+loc)with aN:=a })=T at *;have X:T.av=(S.bM T.aH).av:=by rw[<-hT];rfl
 clear b w;generalize (S.aB e).aU (2*item+loc)=Q at *;obtain⟨L,p0,p1,p2⟩:=Q;simp only at *;by_cases he:f=0;rotate_left
 .rw[if_pos he]
  exact cw (EV (.o 4) [(0,1),yU,yU,(1,20)] BP [] Gc [] [] [Uv,(196,Vq,(.bE [Kbv,.v 8,.v 9]))]) (ev2 H [loc,k,up,f] [.I p0,.I p1,.I p2,.I t,.I u] [aM L,aM a] (.d (aQ D) .nil)) V6 (.bE [Keg,.i 0,.i 0,.v 9]) (kc R (kc l kn))
 subst he;have k3:=k3 rfl;rw[if_neg (by simp)];rw[X]at N C E h1;generalize (bV T e item).2=wb at *;generalize (bV T e item).1=wt at *;obtain⟨Z,Y,wp⟩:=wt;cases wb with
 |false =>
  rw[if_pos rfl];simp only[a2i,if_false]at C;exact cw (EV (.o 4) [(0,1),yU,yU] BP [] Gc [] [] [Uv,J0,Q6,(88,KaY,(.bE [(.agg [.o 10,.o 11,.o 12]),.i 2]))]) (ev2 H [loc,k,up] [.I p0,.I p1,.I p2,.I t,.I u,.I Z,.I Y,.I wp] [aM L,aM a,aX T.aH] (.d (aQ D) .nil)) V6 GW (kc R (kc l (kc N (kc C kn))))
 |true =>
  rw[if_neg (by simp)];simp only[if_true]at C;rw[aa];generalize ((T.aB e).aU (2*item))=A at *;generalize ((T.aB e).aU (2*item+1))=B at *;obtain⟨r,a0,a1,a2⟩:=A;obtain⟨m,b0,b1,b2⟩:=B;simp only at *;obtain⟨g,s⟩:∃g,g=r++m:=⟨_,rfl⟩
  have b:∀z∈g,kQ z=true:=fun z M=>by
   rw[s]at M;exact(a0m.1 M).elim (g0.ok z) (g1.ok z)
  have hs:=XH (CW fun z M=>Ph (b z M)) (a0k.2 b);have se:=xI (g.map kO);have af:=g0.len;have ae:=g1.len;rw[<-s];have O:aM g=aM r++aM m:=by rw[s];simp[aM]
  have ad:g.length=r.length+m.length:=by rw[s,a1o]
  generalize dP (g.map kO)=n at *;generalize eB (g.map kO)=f at *;rcases se with rfl|rfl
  .rw[if_neg (by simp)]
   simp only[X];exact cw (EV (.o 4) [(0,1),N4,N4,(0,30),(0,30)] BP Wu Gc [] [(18,19,20)] [Uv,J0,Q6,Ym,Yn,Yo,(197,[.q 3 20],(.bE [.o 19,.i 0]))]) (ev2 H [loc,k,up,(r.length:Int),(m.length:Int)] [.I p0,.I p1,.I p2,.I t,.I u,.I Z,.I Y,.I wp,.I a0,.I a1,.I a2,.I b0,.I b1,.I b2,.I n] [aM L,aM a,aX T.aH,aM r,aM m,aM g] (.d (aQ D) .nil) (hC:=by simp[O])) V6 (.bE [KdW,(.e [([7],1),([8],(-1))]),.v 8,.i 0]) (kc R (kc l (kc N (kc C (kc E (kc h1 (kc hs kn)))))))
  .rw[if_pos (by simp)]
   exact cw (EV (.o 4) [(0,1),yU,yU,(0,30),(0,30)] BP Wu Gc [] [(18,19,20)] [Uv,J0,Q6,Ym,Yn,Yo,(197,[.q 3 20],(.bE [.o 19,.i 2]))]) (ev2 H [loc,k,up,(r.length:Int),(m.length:Int)] [.I p0,.I p1,.I p2,.I t,.I u,.I Z,.I Y,.I wp,.I a0,.I a1,.I a2,.I b0,.I b1,.I b2,.I n] [aM L,aM a,aX T.aH,aM r,aM m,aM g] (.d (aQ D) .nil) (hC:=by simp[O])) V6 GW (kc R (kc l (kc N (kc C (kc E (kc h1 (kc hs kn)))))))
def mO (h:StOk S) (x:Ix S e item) {loc kind q:Int} (b:0<=loc) (l1:loc<=1) (A:0<=kind/\kind<=3) (g:kS q):Ck 217 [S.av,.i e,.i item,.i loc,.i kind,.i q] (.bE [(dJ S e item loc kind q).1.av,(dJ S e item loc kind q).2.1.av,.c (.bool (dJ S e item loc kind q).2.2.1),.i (dJ S e item loc kind q).2.2.2]):=by
 have H:=h.wx x;have:=H.bd;have:=g.lo;have:=g.hi;have l:=h.pat x b l1;have a:=h.xV x b l1;have z:=h.mb' x;have B:=h.cb' x;have s:=lV h x b l1;have E:=h.mQ x;have G:=E.bl;have C:=E.pr;have F:=E.dl;have D:=@Ey (S.cE e item) (S.cost e item) ((S.aB e).aU (2*item+loc)).aN ((S.aB e).aU (2*item+loc)).pn kind q
 have n:∀p,(S.aZ e ((S.aB e).bR (2*item+loc) p)).av=S.setRow e (zW (S.aB e).now (S.aB e).closed ((bS (S.aB e).bK).set (2*item+loc).toNat p.row) (aA (S.aB e).cN) (bN (S.aB e).aJ) (aA (S.aB e).bD) (aA (S.aB e).down) (bX (S.aB e).ahead)):=by
  intro p;rw[bF.nV,<-MM];rfl
 have j:=ae1 (p0:=((S.aB e).aU (2*item+loc)).p0) (p1:=((S.aB e).aU (2*item+loc)).p1) (p2:=((S.aB e).aU (2*item+loc)).p2) (c:=S.cost e item) z a.lr a.one a.pnd g A B;unfold dJ;rw[show(⟨((S.aB e).aU (2*item+loc)).p0,((S.aB e).aU (2*item+loc)).p1,((S.aB e).aU (2*item+loc)).p2⟩:uH)=((S.aB e).aU (2*item+loc)).pn from rfl]at j;generalize cX (S.cE e item) (S.cost e item) ((S.aB e).aU (2*item+loc)).aN ((S.aB e).aU (2*item+loc)).pn kind q=r at *;obtain⟨y,⟨w,u,t⟩,⟨xq,xv,xp⟩,k,f⟩:=r;clear a;generalize (S.aB e).aU (2*item+loc)=Q at *;obtain⟨L,p0,p1,p2⟩:=Q;simp only at *;by_cases m:f=0;rotate_left
 .rw[if_pos m];exact cw (EV (.o 4) [(0,1),(0,3),yU,(1,20)] BP [] Gc [] [] [Uv,(238,WR,(.bE [Kav,KcV,.o 14,.v 9]))]) (ev2 H [loc,kind,q,f] [.I p0,.I p1,.I p2,.I xq,.I xv,.I xp,.I w,.I u,.I t,.bool k] [aM L,aM y] (.d (aQ l) .nil)) Gq (.bE [Keg,Kdo,Kev,.v 9]) (kc s (kc j kn))
 subst m;rw[if_neg (by simp)];simp only[n];exact cw (EV (.o 4) [(0,1),(0,3),yU] BP GP Gc [] [] [Uv,(238,WR,(.bE [Kav,KcV,.o 14,.i 0]))]) (ev2 H [loc,kind,q] [.I p0,.I p1,.I p2,.I xq,.I xv,.I xp,.I w,.I u,.I t,.bool k] [aM L,aM y] (.d (aQ l) .nil)) Gq (.bE [(sN (.seq 8 0 [([([0],1)],[.o 3,.o 4,(.seq 4 7 [(KeG,[.q 3 16,.o 11,.o 12,.o 13])] []),.q 1 8,.q 11 9,.q 1 10,.q 1 11,.q 8 12])] []) (.o 2)),KcV,.o 14,.i 0]) (kc s (kc j kn))
def fL (h:StOk S) (x:Ix S e item) {r:List Int} (C:r.length=11):Ck 124 [S.av,.i e,.i item,.agg (jH r)] (.bE [(dR S e item r).1.av,.i (dR S e item r).2]):=by
 have H:=h.wx x;have:=H.bd;have E:=h.mQ x;have ag:=E.bl;have ae:=E.pr;have af:=E.dl;have ac:=acM h x;have hl:=(acL h x).1
 have ab:∀s,(S.aZ e ((S.aB e).xN item s)).av=S.setRow e (zW (S.aB e).now (S.aB e).closed (bS (S.aB e).bK) (aA (S.aB e).cN) ((bN (S.aB e).aJ).set item.toNat (jH s)) (aA (S.aB e).bD) (aA (S.aB e).down) (bX (S.aB e).ahead)):=by
  intro s;rw[bF.nV,<-aaM];rfl
 unfold dR;generalize (S.aB e).rG item=A at *;obtain⟨a0,B,a2,y,w,v,u,t,p,n,b,rfl⟩:=RN hl;obtain⟨b0,b1,b2,b3,m,l,k,j,g,f,a,rfl⟩:=RN C;have C:=ac;have D:=kC a0 b0;have f0:=pC a0 b0;have G:=kC B b1;have f1:=pC B b1;have K:=kC a2 b2;have f2:=pC a2 b2;have M:=kC y b3;have f3:=pC y b3;have O:=kC w m;have f4:=pC w m;have Q:=kC v l;have f5:=pC v l;have T:=kC u k;have f6:=pC u k;have V:=kC t j;have f7:=pC t j;have X:=kC p g;have f8:=pC p g;have k9:=kC n f;have f9:=pC n f;have Y:=kC b a;have ad:=pC b a;simp only[rC];generalize mY a0 b0=F at *;generalize mZ a0 b0=g0 at *;generalize mY B b1=J at *;generalize mZ B b1=g1 at *;generalize mY a2 b2=L at *;generalize mZ a2 b2=g2 at *;generalize mY y b3=N at *;generalize mZ y b3=g3 at *;generalize mY w m=P at *;generalize mZ w m=g4 at *;generalize mY v l=R at *;generalize mZ v l=g5 at *;generalize mY u k=U at *;generalize mZ u k=g6 at *;generalize mY t j=W at *;generalize mZ t j=g7 at *;generalize mY p g=Z at *;generalize mZ p g=g8 at *;generalize mY n f=s9 at *;generalize mZ n f=g9 at *;generalize mY b a=aa at *;generalize mZ b a=ah at *;rcases f0 with rfl|rfl;rotate_left
 .obtain⟨z,c⟩:∃z,z=F:=⟨_,rfl⟩
  rw[<-c]at D;simp only[show ¬((2:Int)=0)by decide,if_false,if_true,a18,ite_self];exact cw (EV (.o 4) [] [] [] YF [] [] [(83,[.o 5,.o 16],(.bE [.o 27,.i 2]))]) (ev2 H [] [.I a0,.I B,.I a2,.I y,.I w,.I v,.I u,.I t,.I p,.I n,.I b,.I b0,.I b1,.I b2,.I b3,.I m,.I l,.I k,.I j,.I g,.I f,.I a,.I z] [] (.d (aR C) .nil)) QO Kaw (kc D kn)
 rcases f1 with rfl|rfl;rotate_left
 .obtain⟨z,c⟩:∃z,z=J:=⟨_,rfl⟩
  rw[<-c]at G;simp only[show ¬((2:Int)=0)by decide,if_false,if_true,a18,ite_self];exact cw (EV (.o 4) [] [] [] YF [] [] [BD,(83,[.o 6,.o 17],(.bE [.o 28,.i 2]))]) (ev2 H [] [.I a0,.I B,.I a2,.I y,.I w,.I v,.I u,.I t,.I p,.I n,.I b,.I b0,.I b1,.I b2,.I b3,.I m,.I l,.I k,.I j,.I g,.I f,.I a,.I F,.I z] [] (.d (aR C) .nil)) QO Kaw (kc D (kc G kn))
 rcases f2 with rfl|rfl;rotate_left
 .obtain⟨z,c⟩:∃z,z=L:=⟨_,rfl⟩
  rw[<-c]at K;simp only[show ¬((2:Int)=0)by decide,if_false,if_true,a18,ite_self];exact cw (EV (.o 4) [] [] [] YF [] [] [BD,BE,(83,[.o 7,.o 18],(.bE [.o 29,.i 2]))]) (ev2 H [] [.I a0,.I B,.I a2,.I y,.I w,.I v,.I u,.I t,.I p,.I n,.I b,.I b0,.I b1,.I b2,.I b3,.I m,.I l,.I k,.I j,.I g,.I f,.I a,.I F,.I J,.I z] [] (.d (aR C) .nil)) QO Kaw (kc D (kc G (kc K kn)))
 rcases f3 with rfl|rfl;rotate_left
 .obtain⟨z,c⟩:∃z,z=N:=⟨_,rfl⟩
  rw[<-c]at M;simp only[show ¬((2:Int)=0)by decide,if_false,if_true,a18,ite_self];exact cw (EV (.o 4) [] [] [] YF [] [] [BD,BE,BF,(83,[.o 8,.o 19],(.bE [.o 30,.i 2]))]) (ev2 H [] [.I a0,.I B,.I a2,.I y,.I w,.I v,.I u,.I t,.I p,.I n,.I b,.I b0,.I b1,.I b2,.I b3,.I m,.I l,.I k,.I j,.I g,.I f,.I a,.I F,.I J,.I L,.I z] [] (.d (aR C) .nil)) QO Kaw (kc D (kc G (kc K (kc M kn))))
 rcases f4 with rfl|rfl;rotate_left
 .obtain⟨z,c⟩:∃z,z=P:=⟨_,rfl⟩
  rw[<-c]at O;simp only[show ¬((2:Int)=0)by decide,if_false,if_true,a18,ite_self];exact cw (EV (.o 4) [] [] [] YF [] [] [BD,BE,BF,BG,(83,[.o 9,.o 20],(.bE [.o 31,.i 2]))]) (ev2 H [] [.I a0,.I B,.I a2,.I y,.I w,.I v,.I u,.I t,.I p,.I n,.I b,.I b0,.I b1,.I b2,.I b3,.I m,.I l,.I k,.I j,.I g,.I f,.I a,.I F,.I J,.I L,.I N,.I z] [] (.d (aR C) .nil)) QO Kaw (kc D (kc G (kc K (kc M (kc O kn)))))
 rcases f5 with rfl|rfl;rotate_left
 .obtain⟨z,c⟩:∃z,z=R:=⟨_,rfl⟩
  rw[<-c]at Q;simp only[show ¬((2:Int)=0)by decide,if_false,if_true,a18,ite_self];exact cw (EV (.o 4) [] [] [] YF [] [] [BD,BE,BF,BG,BH,(83,[.o 10,.o 21],(.bE [.o 32,.i 2]))]) (ev2 H [] [.I a0,.I B,.I a2,.I y,.I w,.I v,.I u,.I t,.I p,.I n,.I b,.I b0,.I b1,.I b2,.I b3,.I m,.I l,.I k,.I j,.I g,.I f,.I a,.I F,.I J,.I L,.I N,.I P,.I z] [] (.d (aR C) .nil)) QO Kaw (kc D (kc G (kc K (kc M (kc O (kc Q kn))))))
 rcases f6 with rfl|rfl;rotate_left
 .obtain⟨z,c⟩:∃z,z=U:=⟨_,rfl⟩
  rw[<-c]at T;simp only[show ¬((2:Int)=0)by decide,if_false,if_true,a18,ite_self];exact cw (EV (.o 4) [] [] [] YF [] [] [BD,BE,BF,BG,BH,Bn,(83,[.o 11,.o 22],(.bE [.o 33,.i 2]))]) (ev2 H [] [.I a0,.I B,.I a2,.I y,.I w,.I v,.I u,.I t,.I p,.I n,.I b,.I b0,.I b1,.I b2,.I b3,.I m,.I l,.I k,.I j,.I g,.I f,.I a,.I F,.I J,.I L,.I N,.I P,.I R,.I z] [] (.d (aR C) .nil)) QO Kaw (kc D (kc G (kc K (kc M (kc O (kc Q (kc T kn)))))))
 rcases f7 with rfl|rfl;rotate_left
 .obtain⟨z,c⟩:∃z,z=W:=⟨_,rfl⟩
  rw[<-c]at V;simp only[show ¬((2:Int)=0)by decide,if_false,if_true,a18,ite_self];exact cw (EV (.o 4) [] [] [] YF [] [] [BD,BE,BF,BG,BH,Bn,Bo,(83,[.o 12,.o 23],(.bE [.o 34,.i 2]))]) (ev2 H [] [.I a0,.I B,.I a2,.I y,.I w,.I v,.I u,.I t,.I p,.I n,.I b,.I b0,.I b1,.I b2,.I b3,.I m,.I l,.I k,.I j,.I g,.I f,.I a,.I F,.I J,.I L,.I N,.I P,.I R,.I U,.I z] [] (.d (aR C) .nil)) QO Kaw (kc D (kc G (kc K (kc M (kc O (kc Q (kc T (kc V kn))))))))
 rcases f8 with rfl|rfl;rotate_left
 .obtain⟨z,c⟩:∃z,z=Z:=⟨_,rfl⟩
  rw[<-c]at X;simp only[show ¬((2:Int)=0)by decide,if_false,if_true,a18,ite_self];exact cw (EV (.o 4) [] [] [] YF [] [] [BD,BE,BF,BG,BH,Bn,Bo,Bp,(83,[.o 13,.o 24],(.bE [.o 35,.i 2]))]) (ev2 H [] [.I a0,.I B,.I a2,.I y,.I w,.I v,.I u,.I t,.I p,.I n,.I b,.I b0,.I b1,.I b2,.I b3,.I m,.I l,.I k,.I j,.I g,.I f,.I a,.I F,.I J,.I L,.I N,.I P,.I R,.I U,.I W,.I z] [] (.d (aR C) .nil)) QO Kaw (kc D (kc G (kc K (kc M (kc O (kc Q (kc T (kc V (kc X kn)))))))))
 rcases f9 with rfl|rfl;rotate_left
 .obtain⟨z,c⟩:∃z,z=s9:=⟨_,rfl⟩
  rw[<-c]at k9;simp only[show ¬((2:Int)=0)by decide,if_false,if_true,a18,ite_self];exact cw (EV (.o 4) [] [] [] YF [] [] [BD,BE,BF,BG,BH,Bn,Bo,Bp,Bq,(83,[.o 14,.o 25],(.bE [.o 36,.i 2]))]) (ev2 H [] [.I a0,.I B,.I a2,.I y,.I w,.I v,.I u,.I t,.I p,.I n,.I b,.I b0,.I b1,.I b2,.I b3,.I m,.I l,.I k,.I j,.I g,.I f,.I a,.I F,.I J,.I L,.I N,.I P,.I R,.I U,.I W,.I Z,.I z] [] (.d (aR C) .nil)) QO Kaw (kc D (kc G (kc K (kc M (kc O (kc Q (kc T (kc V (kc X (kc k9 kn))))))))))
 rcases ad with rfl|rfl;rotate_left
 .obtain⟨z,c⟩:∃z,z=aa:=⟨_,rfl⟩
  rw[<-c]at Y;simp only[show ¬((2:Int)=0)by decide,if_false,if_true,a18,ite_self];exact cw (EV (.o 4) [] [] [] YF [] [] [BD,BE,BF,BG,BH,Bn,Bo,Bp,Bq,Br,(83,[.o 15,.o 26],(.bE [.o 37,.i 2]))]) (ev2 H [] [.I a0,.I B,.I a2,.I y,.I w,.I v,.I u,.I t,.I p,.I n,.I b,.I b0,.I b1,.I b2,.I b3,.I m,.I l,.I k,.I j,.I g,.I f,.I a,.I F,.I J,.I L,.I N,.I P,.I R,.I U,.I W,.I Z,.I s9,.I z] [] (.d (aR C) .nil)) QO Kaw (kc D (kc G (kc K (kc M (kc O (kc Q (kc T (kc V (kc X (kc k9 (kc Y kn)))))))))))
 simp only[if_true,a0s,ab];exact cw (EV (.o 4) [] [] GP YF [] [] [BD,BE,BF,BG,BH,Bn,Bo,Bp,Bq,Br,(83,[.o 15,.o 26],(.bE [.o 37,.i 0]))]) (ev2 H [] [.I a0,.I B,.I a2,.I y,.I w,.I v,.I u,.I t,.I p,.I n,.I b,.I b0,.I b1,.I b2,.I b3,.I m,.I l,.I k,.I j,.I g,.I f,.I a,.I F,.I J,.I L,.I N,.I P,.I R,.I U,.I W,.I Z,.I s9,.I aa] [] (.d (aR C) .nil)) QO (.bE [(sN (.seq 8 0 [([([0],1)],[.o 3,.o 4,.q 4 7,.q 1 8,(.seq 11 9 [([([2],1)],[.o 27,.o 28,.o 29,.o 30,.o 31,.o 32,.o 33,.o 34,.o 35,.o 36,.o 37])] []),.q 1 10,.q 1 11,.q 8 12])] []) (.o 2)),.i 0]) (kc D (kc G (kc K (kc M (kc O (kc Q (kc T (kc V (kc X (kc k9 (kc Y kn)))))))))))
end
end
section
open Mc
variable {S1 S:bF} {k:Int}
def afv (n w:Nat) (x:vE):Prop:=(0<=x.aD/\x.aD<n)/\(0<=x.item/\x.item<w)/\(0<=x.loc/\x.loc<=1)/\(1<=x.eX/\x.eX<=1073741824)/\(0<=x.value/\x.value<=1125899906842624)/\(0<=x.vY/\x.vY<=x.eX)/\(0<=x.dL/\x.dL<=1125899906842624)/\(0<=x.back/\x.back<=x.eX)
def acn (n w:Nat) (x:kJ):Prop:=(0<=x.aD/\x.aD<n)/\(0<=x.item/\x.item<w)/\(0<=x.loc/\x.loc<=1)/\(1<=x.eX/\x.eX<=1073741824)/\(0<=x.back/\x.back<=x.eX)/\qA x.cost/\qA x.bW/\(1<=x.period/\x.period<=12)
def afu (n w:Nat) (x:yX):Prop:=(0<=x.src/\x.src<n)/\(0<=x.dst/\x.dst<n)/\(0<=x.item/\x.item<w)/\(0<=x.eX/\x.eX<=1073741824)/\(0<=x.value/\x.value<=1125899906842624)/\qA x.bW
def dE.sh (x:dE):Int×Bool×List EntC:=(x.now,x.closed,x.ahead)
def ao0 (s:Int×Bool×List EntC):Prop:=s.2.2.length=(if s.2.1 then 1 else 0)/\∀y∈s.2.2,y.now=s.1/\y.closed=false
structure Gn (S:bF):Prop extends StOk S where
 NY:S.aO.length<=40
 N9:S.aF.length<=40
 Fo:S.aG.length<=40
 Eu:∀x∈S.aO,afv S.aH.length S.weights.length x
 C7:∀x∈S.aF,acn S.aH.length S.weights.length x
 L7:∀x∈S.aG,afu S.aH.length S.weights.length x
 d0:0<=S.done
 al:∀x∈S.aH,ao0 x.sh
 pb:∀x∈S.aF,x.period<=(S.aB x.aD).now
structure Kn (S S1:bF):Prop extends Kin S S1 where
 sh:S1.aH.map dE.sh=S.aH.map dE.sh
def Kn.refl {S:bF} (h:StOk S):Kn S S:=⟨.refl h,rfl⟩
def Kn.trans {a:bF} (h:Kn S S1) (g:Kn S1 a):Kn S a:=⟨h.toKin.trans g.toKin,g.sh.trans h.sh⟩
def Kn.ex (h:Kn S S1):∃E,S1=S.bM E:=⟨_,h.eq⟩
def Kn.ix (h:Kn S S1) {e item:Int} (x:Ix S e item):Ix S1 e item:=h.toKin.ix x
def Ay (l:List dE) (k:Nat) (d:dE):(l.getD k d).sh=(l.map dE.sh).getD k d.sh:=by
 simp only[a0c,a0l];cases l[k]?<;>rfl
def Kn.shE (h:Kn S S1) (e:Int):(S1.aB e).sh=(S.aB e).sh:=by
 unfold bF.aB;rw[Ay,Ay,h.sh]
def Kn.now (h:Kn S S1) (e:Int):(S1.aB e).now=(S.aB e).now:=congrArg Prod.fst (h.shE e)
def Kn.gn (h:Kn S S1) (G:Gn S):Gn S1:=by
 have e:=h.eq;have l:=h.len;have k:=h.ok;have s:=h.sh;have n:=h.now;generalize S1.aH=E at *;subst e;refine⟨k,G.NY,G.N9,G.Fo,by show ∀x∈_,afv E.length _ x;rw[l];exact G.Eu,by show ∀x∈_,acn E.length _ x;rw[l];exact G.C7,by show ∀x∈_,afu E.length _ x;rw[l];exact G.L7,G.d0,?_,fun x a=>by rw[n];exact G.pb x a⟩
 intro x a;have:x.sh∈S.aH.map dE.sh:=by rw[<-s];exact a3r a
 obtain⟨y,b,e⟩:=a0j.1 this;rw[<-e];exact G.al y b
def pJ {e item:Int} (x:Ix S e item) {y:dE} (h:y.sh=(S.aB e).sh):(S.aZ e y).aH.map dE.sh=S.aH.map dE.sh:=by
 show(S.aH.set e.toNat y).map dE.sh=_;rw[a09];apply a3h;intro i;rw[a0o];split
 .rename_i b
  subst b;have a:e.toNat<S.aH.length:=by have:=x.e0;have:=x.e1;omega
  rw[if_pos (by simpa using a),a0l,getD_some (d:=⟨⟨0,false,[],[],[],[],[]⟩,[]⟩) a];simp only[a0s,a0i,h];rfl
 .rfl
section
variable {S:bF} {e item:Int}
def iS (h:StOk S) (x:Ix S e item) {loc:Int} (a:0<=loc) (l1:loc<=1) (y:bP) :
  Kn S (dW S e item loc y).1/\gY (dW S e item loc y).2.2.2/\qA (dW S e item loc y).2.1/\qA (dW S e item loc y).2.2.1/\((dW S e item loc y).2.2.2≠0->(dW S e item loc y).1=S/\(dW S e item loc y).2.1=0/\(dW S e item loc y).2.2.1=0):=by
 obtain⟨k,r⟩:=Sl h x a l1 y;refine⟨⟨k,?_⟩,r⟩;clear k r;unfold dW;split
 .rfl
 .split
  .rfl
  .split
   .rfl
   .exact pJ x rfl
def ajR (l:List bP):∀(a:bP) (q:Int),LR l->a.p-yT l<=(jL l a q).2.p/\(jL l a q).2.p<=a.p+yT l:=by
 induction l with
 |nil=>intro a q h;simp[jL,yT,eU]
 |cons x r b =>
  intro a q h;simp only[jL];have c:=h.ok x (by simp);have d:=NH r;rw[wW];split
  .dsimp only;omega
  .split
   .have e:=ais c (q:=q) (by omega) (by omega)
    dsimp only[lD,mW];omega
   .have k:=b (lD a x) (q-x.q) h.tail
    dsimp only[lD]at k |-;omega
def adb {l:List bP} (a:LR l) (q:Int):qA (fN l q).2.1.p:=by
 have k:=ajR l .zero q a;have:=a.p;unfold fN;split
 .exact⟨by simp[bP.zero],by simp[bP.zero]⟩
 .split
  .exact⟨by simp[bP.zero],by simp[bP.zero]⟩
  .dsimp only[bP.zero]at k |-;exact⟨by omega,by omega⟩
def Tt {m c:Int} {l:List bP} {d:uH} {kind q:Int} (b:LR l):qA (cX m c l d kind q).2.2.1.p:=by
 have k:=adb b q;have z:qA bP.zero.p:=⟨by simp[bP.zero],by simp[bP.zero]⟩;unfold cX;split
 .exact z
 .split
  .exact z
  .split
   .exact z
   .simp only[fR]
    split
    .unfold AO
     split
     .exact z
     .split
      .exact z
      .exact k
    .split
     .unfold CQ
      split
      .exact z
      .split
       .rename_i y e a;rw[a]at k;exact k
       .rename_i f t y e a
        rw[a]at k;split
        .exact k
        .exact k
     .exact k
def iF (h:StOk S) (x:Ix S e item) {loc kind:Int} (f:0<=loc) (l1:loc<=1) (j:0<=kind) (i:kind<=3) (q:Int) :
  Kn S (dJ S e item loc kind q).1/\gY (dJ S e item loc kind q).2.2.2/\qA (dJ S e item loc kind q).2.1.v/\((0<=(dJ S e item loc kind q).2.1.q/\(dJ S e item loc kind q).2.1.q<=288230376151711744)/\qA (dJ S e item loc kind q).2.1.p)/\((dJ S e item loc kind q).2.2.2≠0->(dJ S e item loc kind q).1=S/\(dJ S e item loc kind q).2.1=⟨0,0,0⟩/\(dJ S e item loc kind q).2.2.1=false):=by
 obtain⟨k,r1,r2,b,a⟩:=R7 h x f l1 j i q;have g:=Tt (m:=S.cE e item) (c:=S.cost e item) (d:=((S.aB e).aU (2*item+loc)).pn) (kind:=kind) (q:=q) (h.xV x f l1).lr;refine⟨⟨k,?_⟩,r1,r2,⟨b.1,?_⟩,a⟩
 .clear k r1 r2 b a
  unfold dJ;split
  .rfl
  .exact pJ x rfl
 .clear k r1 r2 b a
  unfold dJ;split
  .exact⟨by simp,by simp⟩
  .exact g
def eI (h:StOk S) (x:Ix S e item) {r:List Int} (a:r.length=11):Kn S (dR S e item r).1/\gY (dR S e item r).2/\((dR S e item r).2≠0->(dR S e item r).1=S):=by
 obtain⟨k,r'⟩:=SN h x a;refine⟨⟨k,?_⟩,r'⟩;clear k r';unfold dR;split
 .rfl
 .exact pJ x rfl
def dG (h:StOk S) (x:Ix S e item) (l:List cU):Kn S (cZ S e l).1/\gY (cZ S e l).2/\((cZ S e l).2≠0->(cZ S e l).1=S):=by
 obtain⟨k,r'⟩:=Ts h x l;refine⟨⟨k,?_⟩,r'⟩;clear k r';unfold cZ;split
 .rfl
 .split
  .rfl
  .exact pJ x rfl
def gH (h:StOk S) (x:Ix S e item) {loc:Int} (a:0<=loc) (l1:loc<=1) {p:cY} (b:jS (S.cE e item) p.aN p.pn):Kn S (S.aZ e ((S.aB e).bR (2*item+loc) p)) :=
 ⟨Kin.aZ (h.bR x a l1 b),pJ x rfl⟩
end
def bF.xU (S:bF) (x:vE):bF:={ S with aO:=S.aO++[x] }
def bF.vL (S:bF) (x:kJ):bF:={ S with aF:=S.aF++[x] }
def bF.tP (S:bF) (x:yX):bF:={ S with aG:=S.aG++[x] }
def bF.uS (S:bF) (k:Int) (x:vE):bF:={ S with aO:=S.aO.set k.toNat x }
def bF.qW (S:bF) (k:Int) (x:kJ):bF:={ S with aF:=S.aF.set k.toNat x }
def bF.zF (S:bF) (k:Int) (x:yX):bF:={ S with aG:=S.aG.set k.toNat x }
def aew (S:bF) (x:vE):(S.xU x).av=S.avX (aX S.aH) (fU S.aO++[jH x.r]) (dN S.aF) (eO S.aG) S.done:=by rw[agl];rfl
def aeu (S:bF) (x:kJ):(S.vL x).av=S.avX (aX S.aH) (fU S.aO) (dN S.aF++[x.row]) (eO S.aG) S.done:=by rw[af2];rfl
def aet (S:bF) (x:yX):(S.tP x).av=S.avX (aX S.aH) (fU S.aO) (dN S.aF) (eO S.aG++[jH x.r]) S.done:=by
 rw[show eO S.aG++[jH x.r]=eO (S.aG++[x])by simp[eO]];rfl
def Mq (S:bF) (k:Int) (x:vE):(S.uS k x).av=S.avX (aX S.aH) ((fU S.aO).set k.toNat (jH x.r)) (dN S.aF) (eO S.aG) S.done:=by rw[ajG];rfl
def Mp (S:bF) (k:Int) (x:kJ):(S.qW k x).av=S.avX (aX S.aH) (fU S.aO) ((dN S.aF).set k.toNat x.row) (eO S.aG) S.done:=by rw[ajA];rfl
def afY (S:bF) (k:Int) (x:yX):(S.zF k x).av=S.avX (aX S.aH) (fU S.aO) (dN S.aF) ((eO S.aG).set k.toNat (jH x.r)) S.done:=by
 rw[show(eO S.aG).set k.toNat (jH x.r)=eO (S.aG.set k.toNat x)by simp[eO,a09]];rfl
def RJ {α:Type} {l:List α} {x:α} {P:α->Prop} (h:∀y∈l,P y) (b:P x):∀y∈l++[x],P y:=fun y a=>by
 rcases a0m.1 a with a|a
 .exact h y a
 .rw[a05]at a;rw[a];exact b
def abA {α:Type} {l:List α} {k:Nat} {x:α} {P:α->Prop} (h:∀y∈l,P y) (b:P x):∀y∈l.set k x,P y:=fun y a=>by
 rcases a08 a with a|rfl
 .exact h y a
 .exact b
section
variable {S:bF}
def Gn.xU (G:Gn S) {x:vE} (h:S.aO.length<40) (a:afv S.aH.length S.weights.length x):Gn (S.xU x) :=
 ⟨⟨G.hn,G.hw,G.Nd,G.ET,G.AP,G.lS,G.mb,G.cb,G.aB,G.ahead⟩,by show(S.aO++[x]).length<=40;simp;omega,G.N9,G.Fo,RJ G.Eu a,G.C7,G.L7,G.d0,G.al,G.pb⟩
def Gn.vL (G:Gn S) {x:kJ} (h:S.aF.length<40) (a:acn S.aH.length S.weights.length x) (b:x.period<=(S.aB x.aD).now):Gn (S.vL x) :=
 ⟨⟨G.hn,G.hw,G.Nd,G.ET,G.AP,G.lS,G.mb,G.cb,G.aB,G.ahead⟩,G.NY,by show(S.aF++[x]).length<=40;simp;omega,G.Fo,G.Eu,RJ G.C7 a,G.L7,G.d0,G.al,RJ G.pb b⟩
def Gn.tP (G:Gn S) {x:yX} (h:S.aG.length<40) (a:afu S.aH.length S.weights.length x):Gn (S.tP x) :=
 ⟨⟨G.hn,G.hw,G.Nd,G.ET,G.AP,G.lS,G.mb,G.cb,G.aB,G.ahead⟩,G.NY,G.N9,by show(S.aG++[x]).length<=40;simp;omega,G.Eu,G.C7,RJ G.L7 a,G.d0,G.al,G.pb⟩
def Gn.uS (G:Gn S) {x:vE} (a:afv S.aH.length S.weights.length x):Gn (S.uS k x) :=
 ⟨⟨G.hn,G.hw,G.Nd,G.ET,G.AP,G.lS,G.mb,G.cb,G.aB,G.ahead⟩,by show(S.aO.set _ _).length<=40;simp;exact G.NY,G.N9,G.Fo,abA G.Eu a,G.C7,G.L7,G.d0,G.al,G.pb⟩
def Gn.qW (G:Gn S) {x:kJ} (a:acn S.aH.length S.weights.length x) (b:x.period<=(S.aB x.aD).now):Gn (S.qW k x) :=
 ⟨⟨G.hn,G.hw,G.Nd,G.ET,G.AP,G.lS,G.mb,G.cb,G.aB,G.ahead⟩,G.NY,by show(S.aF.set _ _).length<=40;simp;exact G.N9,G.Fo,G.Eu,abA G.C7 a,G.L7,G.d0,G.al,abA G.pb b⟩
def Gn.zF (G:Gn S) {x:yX} (a:afu S.aH.length S.weights.length x):Gn (S.zF k x) :=
 ⟨⟨G.hn,G.hw,G.Nd,G.ET,G.AP,G.lS,G.mb,G.cb,G.aB,G.ahead⟩,G.NY,G.N9,by show(S.aG.set _ _).length<=40;simp;exact G.Fo,G.Eu,G.C7,abA G.L7 a,G.d0,G.al,G.pb⟩
end
structure oD (S:bF) (r:bF×Int):Prop where
 gn:Gn r.1
 err:gY r.2
 no:r.2≠0->r.1=S
 le:r.1.aH.length=S.aH.length
 wt:r.1.weights=S.weights
 pe:r.1.bH=S.bH
 en:r.1.bJ=S.bJ
 me:r.1.methods=S.methods
 dn:r.1.done=S.done
def oD.bad (G:Gn S) {f:Int} (h:gY f):oD S (S,f):=⟨G,h,fun _=>rfl,rfl,rfl,rfl,rfl,rfl,rfl⟩
def oD.ok {T:bF} (k:Kn S S1) (g:Gn T) (h1:T.aH=S1.aH) (f:T.weights=S1.weights) (d:T.bH=S1.bH) (c:T.bJ=S1.bJ) (b:T.methods=S1.methods) (a:T.done=S1.done):oD S (T,0):=by
 have e:=k.eq;have l:=k.len;rw[e]at f d c b a;exact⟨g,⟨by simp,by simp⟩,fun h=>absurd rfl h,by show T.aH.length=_;rw[h1,l],f,d,c,b,a⟩
def vO {l:List cU} (h:∀x∈l,(0<=x.a/\x.a<=100)/\(-4611686018427387904<=x.n/\x.n<=4611686018427387904)):fM (dV l):=Nj fun x b=>by
 have:=h x b;exact⟨⟨by omega,by omega⟩,⟨by omega,by omega⟩⟩
end
section
open Mc
variable {S:bF} {item:Int}
def Ix.en {e:Int} (x:Ix S e item):0<=e/\e<(S.aH.length:Int):=⟨x.e0,x.e1⟩
def Ix.iw {e:Int} (x:Ix S e item):0<=item/\item<(S.weights.length:Int):=⟨x.i0,x.i1⟩
def ajH {n w:Nat} {x:vE} (h1:0<=x.aD/\x.aD<n) (a:0<=x.item/\x.item<w) (h:(0<=x.loc/\x.loc<=1)/\(1<=x.eX/\x.eX<=1073741824)/\(0<=x.value/\x.value<=1125899906842624)/\(0<=x.vY/\x.vY<=x.eX)/\(0<=x.dL/\x.dL<=1125899906842624)/\(0<=x.back/\x.back<=x.eX)):afv n w x:=⟨h1,a,h⟩
def ajB {n w:Nat} {x:kJ} (h1:0<=x.aD/\x.aD<n) (a:0<=x.item/\x.item<w) (h:(0<=x.loc/\x.loc<=1)/\(1<=x.eX/\x.eX<=1073741824)/\(0<=x.back/\x.back<=x.eX)/\qA x.cost/\qA x.bW/\(1<=x.period/\x.period<=12)):acn n w x:=⟨h1,a,h⟩
def anZ {n w:Nat} {x:yX} (h1:0<=x.src/\x.src<n) (b:0<=x.dst/\x.dst<n) (a:0<=x.item/\x.item<w) (h:(0<=x.eX/\x.eX<=1073741824)/\(0<=x.value/\x.value<=1125899906842624)/\qA x.bW):afu n w x:=⟨h1,b,a,h⟩
def nD (S:bF) (e item loc q a:Int):bF×Int :=
 if(S.aB e).closed=true then(S,7)else
 if S.aO.length=40 then(S,6)else
 match dW S e item loc ⟨q,a,0⟩with
 |(S1,b,up,f)=>if f≠0 then(S,f)else
 match cZ S1 e [⟨0,b⟩,⟨6,up⟩,⟨1,-a⟩]with
 |(d,f)=>if f≠0 then(S,f)else
 match dR d e item [0,b,0,0,0,0,0,0,0,0,0]with
 |(c,f)=>if f≠0 then(S,f)else
 (c.xU ⟨e,item,loc,q,a,q,a,0⟩,0)
def A4 (S:bF) (e item loc q a:Int):bF×Int :=
 if(S.aB e).closed=true then(S,7)else
 if S.aF.length=40 then(S,6)else
 match dJ S e item loc 0 q with
 |(S1,⟨xq,xv,xp⟩,b,f)=>if f≠0 then(S,f)else
 match cZ S1 e [⟨3,a⟩,⟨4,-a⟩,⟨5,xv⟩,⟨0,-xv⟩]with
 |(d,f)=>if f≠0 then(S,f)else
 match dR d e item [0,0,0,0,0,xv,0,0,0,0,0]with
 |(c,f)=>if f≠0 then(S,f)else
 (c.vL ⟨e,item,loc,q,0,xv,xp,(S.aB e).now,b⟩,0)
def sP (S:bF) (s:kJ) (ref q a c b:Int):bF×Int :=
 match dW S s.aD s.item s.loc ⟨q,c,b⟩with
 |(S1,d,up,f)=>if f≠0 then(S,f)else
 match cZ S1 s.aD [⟨4,a⟩,⟨3,-a⟩,⟨0,d⟩,⟨6,up⟩,⟨5,-c⟩]with
 |(g,f)=>if f≠0 then(S,f)else
 match dR g s.aD s.item [0,0,0,0,d,0,0,0,0,0,0]with
 |(e,f)=>if f≠0 then(S,f)else
 (e.qW ref ⟨s.aD,s.item,s.loc,s.eX,q+s.back,s.cost-c,s.bW-b,s.period,s.waits⟩,0)
def xF (S:bF) (s:kJ) (ref q a:Int):bF×Int :=
 if((S.aB s.aD).aU (2*s.item+s.loc)).p0<q then(S,5)else
 match cZ (S.aZ s.aD ((S.aB s.aD).bR (2*s.item+s.loc) { (S.aB s.aD).aU (2*s.item+s.loc)with p0:=((S.aB s.aD).aU (2*s.item+s.loc)).p0-q })) s.aD [⟨4,a⟩,⟨3,-a⟩]with
 |(b,f)=>if f≠0 then(S,f)else
 (b.qW ref ⟨s.aD,s.item,s.loc,s.eX,q+s.back,s.cost,s.bW,s.period,s.waits⟩,0)
def A0 (S:bF) (ref q a:Int):bF×Int :=
 match S.aF[ref.toNat]? with
 |none=>(S,4)
 |some s=>if(S.aB s.aD).closed=true then(S,7)else if s.eX-s.back<q then(S,5)else
  if s.waits=true/\s.period=(S.aB s.aD).now then xF S s ref q a else sP S s ref q a (dK s.cost q (s.eX-s.back)) (dK s.bW q (s.eX-s.back))
def vJ (S:bF) (e item loc q:Int):bF×Int :=
 if(S.aB e).closed=true then(S,7)else
 match dJ S e item loc 1 q with
 |(S1,⟨xq,xv,xp⟩,c,f)=>if f≠0 then(S,f)else
 match cZ S1 e [⟨7,xv⟩,⟨0,-xv⟩]with
 |(b,f)=>if f≠0 then(S,f)else
 match dR b e item [0,0,0,0,0,0,0,0,xv,0,0]with
 |(a,f)=>if f≠0 then(S,f)else
 (a,0)
def A9 (S:bF) (e item loc dst q:Int):bF×Int :=
 if(S.aB e).closed=true then(S,7)else
 match dJ S e item loc 3 q with
 |(S1,⟨xq,xv,xp⟩,g,f)=>if f≠0 then(S,f)else
 match dW S1 e item dst ⟨xq,xv,xp⟩with
 |(d,a,up,f)=>if f≠0 then(S,f)else
 match cZ d e [⟨0,a-xv⟩,⟨6,up⟩]with
 |(c,f)=>if f≠0 then(S,f)else
 match dR c e item [0,0,0,0,0,0,0,0,0,0,a-xv]with
 |(b,f)=>if f≠0 then(S,f)else
 (b,0)
def wT (r:vE) (q:Int):Int:=if q=r.vY then r.dL else dK r.dL q r.vY
def Oo (S:bF) (ref q a:Int):bF×Int :=
 match S.aO[ref.toNat]? with
 |none=>(S,4)
 |some ⟨e,item,loc,rq,rv,ro,ra,rb⟩ =>
  if(S.aB e).closed=true then(S,7)else if ro<q then(S,5)else
  match cZ S e [⟨1,wT ⟨e,item,loc,rq,rv,ro,ra,rb⟩ q⟩,⟨6,a-wT ⟨e,item,loc,rq,rv,ro,ra,rb⟩ q⟩,⟨2,-a⟩]with
  |(S1,f)=>if f≠0 then(S,f)else(S1.uS ref ⟨e,item,loc,rq,rv,-q+ro,ra-wT ⟨e,item,loc,rq,rv,ro,ra,rb⟩ q,rb⟩,0)
def vK (S:bF) (ref q e item loc acc d:Int) (r:vE):bF×Int :=
 match dJ S e item loc 3 q with
 |(S1,⟨xq,xv,xp⟩,c,f)=>if f≠0 then(S,f)else
 match cZ S1 e [⟨acc,d⟩,⟨6,xv-d⟩,⟨0,-xv⟩]with
 |(b,f)=>if f≠0 then(S,f)else
 match dR b e item [0,0,0,0,0,0,0,xv,0,0,0]with
 |(a,f)=>if f≠0 then(S,f)else(a.uS ref r,0)
def sbS (S:bF) (ref q:Int):bF×Int :=
 match S.aO[ref.toNat]? with
 |none=>(S,4)
 |some ⟨e,item,loc,rq,rv,ro,ra,rb⟩ =>
  if(S.aB e).closed=true then(S,7)else if rq-rb<q then(S,5)else if 0<ro/\ro<q then(S,9)else
  if 0<ro then vK S ref q e item loc 1 (wT ⟨e,item,loc,rq,rv,ro,ra,rb⟩ q) ⟨e,item,loc,rq,rv,-q+ro,ra-wT ⟨e,item,loc,rq,rv,ro,ra,rb⟩ q,q+rb⟩
  else vK S ref q e item loc 2 (dK rv q rq) ⟨e,item,loc,rq,rv,ro,ra,q+rb⟩
def Ei (S:bF) (e item loc dst q a:Int):bF×Int :=
 if(S.aB e).closed=true then(S,7)else
 if(S.aB dst).closed=true then(S,7)else
 if S.aG.length=40 then(S,6)else
 match dJ S e item loc 3 q with
 |(S1,⟨xq,xv,xp⟩,g,f)=>if f≠0 then(S,f)else
 match cZ S1 e [⟨13,a⟩,⟨15,-a⟩,⟨16,xv⟩,⟨0,-xv⟩]with
 |(d,f)=>if f≠0 then(S,f)else
 match cZ d dst [⟨12,a⟩,⟨14,-a⟩]with
 |(c,f)=>if f≠0 then(S,f)else
 match dR c e item [0,0,0,0,0,0,xv,0,0,0,0]with
 |(b,f)=>if f≠0 then(S,f)else
 if -288230376151711744<=a-xv+xp/\a-xv+xp<=288230376151711744 then
 (b.tP ⟨e,dst,item,q,a,a-xv+xp⟩,0)else(S,2)
def yG (S:bF) (a e item tq tv tp loc q ref v b:Int):bF×Int :=
 match dW S e item loc ⟨q,v,b⟩with
 |(S1,c,up,f)=>if f≠0 then(S,f)else
 match cZ S1 e [⟨0,c⟩,⟨6,up⟩,⟨12,-v⟩]with
 |(g,f)=>if f≠0 then(S,f)else
 match dR g e item [0,0,0,c,0,0,0,0,0,0,0]with
 |(d,f)=>if f≠0 then(S,f)else(d.zF ref ⟨a,e,item,-q+tq,tv-v,tp-b⟩,0)
def rU (S:bF) (loc q ref:Int):bF×Int :=
 match S.aG[ref.toNat]? with
 |none=>(S,4)
 |some ⟨a,e,item,tq,tv,tp⟩ =>
  if(S.aB e).closed=true then(S,7)else if tq<q then(S,5)else
  yG S a e item tq tv tp loc q ref (dK tv q tq) (dK tp q tq)
def IU (S:bF) (e item loc d:Int):bF×Int :=
 match dJ S e item loc 2 d with
 |(S1,⟨xq,xv,xp⟩,c,f)=>if f≠0 then(S,f)else
 match cZ S1 e [⟨8,xv⟩,⟨0,-xv⟩]with
 |(b,f)=>if f≠0 then(S,f)else
 match dR b e item [0,0,0,0,0,0,0,0,0,xv,0]with
 |(a,f)=>if f≠0 then(S,f)else(a,0)
def Ce (S:bF) (e item loc d v f:Int):bF×Int :=
 if f≠0 then(S,f)else
 match dW S e item loc ⟨d,v,0⟩with
 |(S1,a,up,f)=>if f≠0 then(S,f)else
 match cZ S1 e [⟨0,a⟩,⟨6,up⟩,⟨8,-v⟩]with
 |(c,f)=>if f≠0 then(S,f)else
 match dR c e item [0,0,0,0,0,0,0,0,0,-a,0]with
 |(b,f)=>if f≠0 then(S,f)else(b,0)
def dE.nY (x:dE) (m k:Int):Int:=if m=3 then wS (x.aU k).aN (x.aU k).pn else qs (x.aU k).aN
def vS (S:bF) (e item loc q:Int):bF×Int :=
 if(S.aB e).closed=true then(S,7)else
 if q-(S.aB e).nY (S.cE e item) (2*item+loc)=0 then(S,0)else
 if q-(S.aB e).nY (S.cE e item) (2*item+loc)<0 then IU S e item loc (-q+(S.aB e).nY (S.cE e item) (2*item+loc))else
 if S.cE e item=4 then Ce S e item loc (q-(S.aB e).nY (S.cE e item) (2*item+loc)) (xD (q-(S.aB e).nY (S.cE e item) (2*item+loc)) (S.cost e item) 1) (Lo (q-(S.aB e).nY (S.cE e item) (2*item+loc)) (S.cost e item) 1)else
 if 0<qs ((S.aB e).aU (2*item+loc)).aN then Ce S e item loc (q-(S.aB e).nY (S.cE e item) (2*item+loc)) (xD (vs ((S.aB e).aU (2*item+loc)).aN) (q-(S.aB e).nY (S.cE e item) (2*item+loc)) (qs ((S.aB e).aU (2*item+loc)).aN)) (Lo (vs ((S.aB e).aU (2*item+loc)).aN) (q-(S.aB e).nY (S.cE e item) (2*item+loc)) (qs ((S.aB e).aU (2*item+loc)).aN))else
 Ce S e item loc (q-(S.aB e).nY (S.cE e item) (2*item+loc)) 0 0
def dE.sV (x:dE) (item v:Int):dE:={ x with bD:=x.bD.set item.toNat v }
def vM (S:bF) (e item a:Int):bF×Int :=
 if(S.aB e).closed=true then(S,7)else(S.aZ e ((S.aB e).sV item a),0)
def Tp (h:StOk S) {e a:Int} (x:Ix S e item) (c:0<=a/\a<=1125899906842624):Kn S (S.aZ e ((S.aB e).sV item a)):=by
 have E:=h.mQ x;refine⟨Kin.aZ (h.aZ x.e0 ⟨E.pl,E.ok,E.bl,E.bb,E.rl,E.rr,by simp only[dE.sV,a1d];exact E.pr,?_,E.dl,E.db,E.now⟩ (h.ahead _ (a0a (h.at_ x)) _ (h.at_ x))),pJ x rfl⟩;intro v b;rcases a08 b with b|rfl
 .exact E.prb v b
 .simp only[M58];omega
def FU {v q n:Int} (c:1<=n) (b:0<=q) (a:q<=n) (d:0<=v) (e:v<=1125899906842624):0<=dK v q n/\dK v q n<=v :=
 (Ap c b a (fG.2 ⟨by omega,by omega⟩)).1 d
def RK {a b c:Int} (e:0<=a) (d:0<=b):0<=xD a b c/\xD a b c<=288230376151711744:=by
 unfold xD;split
 .simp
 .split
  .simp
  .have:=a2o (a0q e d) (show 0<=c by omega)
   omega
def ahy (a b c:Int):gY (Lo a b c):=by
 unfold Lo;split
 .exact⟨by simp,by simp⟩
 .split<;>exact⟨by simp,by simp⟩
def R8 {r:vE} {q:Int} (h1:1<=q) (c:q<=r.vY) (b:0<=r.dL) (a:r.dL<=1125899906842624):0<=wT r q/\wT r q<=r.dL:=by
 unfold wT;split
 .omega
 .exact FU (by omega) (by omega) c b a
def yW (L:List bP) (a:Int):List bP×Int×Int :=
 if L.length=0 then(L,0,0)else if Lo (qs L) a 1≠0 then(L,0,2)else([⟨qs L,xD (qs L) a 1,ps L⟩],-vs L+xD (qs L) a 1,0)
def bF.hZ (S:bF) (e k:Int) (L:List bP):bF:=S.aZ e ((S.aB e).bR k { (S.aB e).aU k with aN:=L })
def bF.dH (S:bF) (C:List (List Int)):bF:={ S with bT:=C }
def oJ (S:bF) (e item a:Int):bF×Int :=
 if(S.aB e).closed=true then(S,7)else if S.cE e item≠4 then(S,12)else
 match yW ((S.aB e).aU (2*item+0)).aN a with
 |(d,c,f)=>if f≠0 then(S,f)else
 match yW (((S.hZ e (2*item+0) d).aB e).aU (2*item+1)).aN a with
 |(i,b,f)=>if f≠0 then(S,f)else
 match cZ (((S.hZ e (2*item+0) d).hZ e (2*item+1) i).dH (S.bT.set e.toNat ((S.bT.getD e.toNat []).set item.toNat a))) e [⟨0,c+b⟩,⟨6,-c-b⟩]with
 |(h,f)=>if f≠0 then(S,f)else
 match dR h e item [0,0,0,0,0,0,0,0,0,0,c+b]with
 |(g,f)=>if f≠0 then(S,f)else(g,0)
def xP {L:List bP} {d:uH} {a:Int} (h:jS 4 L d) (s:0<=a) {M:List bP} {i f:Int} (g:yW L a=(M,i,f)):jS 4 M d/\(-288230376151711744<=i/\i<=288230376151711744)/\(f=0\/f=2):=by
 unfold yW at g;have n:=fQ h.lr.ok;have:=h.lr.q;have:=h.lr.v;have:=h.lr.p;have u:=Ew L;have j:=RK (a:=qs L) (b:=a) (c:=1) n.1 s;split at g
 .cases g;exact⟨h,⟨by omega,by omega⟩,.inl rfl⟩
 .rename_i o
  split at g
  .cases g;exact⟨h,⟨by omega,by omega⟩,.inr rfl⟩
  .cases g
   have r:1<=qs L:=by
    match L,o with
    |z::t,_ =>
     have:=eE.1 (h.lr.ok z (by simp));have:=(fQ (l:=t) fun x m=>h.lr.ok x (by simp[m])).1;rw[gE];omega
   have k:kQ ⟨qs L,xD (qs L) a 1,ps L⟩=true:=eE.2 ⟨r,by simp only;omega,j.1,j.2,by simp only;omega,by simp only;omega⟩;refine⟨⟨LR.one k,.inr (by simp),h.a0,h.b0,h.c0,?_,h.zero⟩,⟨by omega,by omega⟩,.inl rfl⟩;have:=h.sum;have e:qs [(⟨qs L,xD (qs L) a 1,ps L⟩:bP)]=qs L:=by rw[gE];simp[qs]
   omega
def I9 {a b c:Int} (h1:-9223372036854775808<=a/\a<=9223372036854775807) (f:-9223372036854775808<=b/\b<=9223372036854775807) (e:-9223372036854775808<=c/\c<=9223372036854775807):fM [a,b,c]:=by
 intro v d;simp only[a0d,a0b,or_false]at d;rcases d with rfl|rfl|rfl
 .exact⟨h1.1,h1.2⟩
 .exact⟨f.1,f.2⟩
 .exact⟨e.1,e.2⟩
def OpI.er {e loc dst q a ref f g:Int} (H:OpI S e item loc dst q a ref g) (h:1<=f/\f<=20):OpI S e item loc dst q a ref f:=⟨H.he,H.hi,H.hl,H.hd,H.hq,H.ha,H.hr,h,H.od,H.hn,H.hw,H.hm,H.hc⟩
def Gn.op {e loc dst q a ref:Int} (G:Gn S) (b:S.done<=1000000) (h1:0<=e/\e<=3) (i:0<=item/\item<=4) (h:0<=loc/\loc<=1) (g:0<=dst/\dst<=3) (f:0<=q/\q<=1073741824) (d:0<=a/\a<=1125899906842624) (c:0<=ref/\ref<=39):OpI S e item loc dst q a ref 1 :=
 ⟨h1,i,h,g,f,d,c,⟨by omega,by omega⟩,⟨⟨G.d0,b⟩,G.NY,G.N9,G.Fo⟩,G.hn,G.hw,G.Nd,G.ET⟩
section
variable {S:bF} {e item loc dst q a ref:Int}
def Ix.eb (x:Ix S e item) (h:StOk S):0<=e/\e<=3:=by have:=x.e0;have:=x.e1;have:=h.hn;omega
def Ix.ib (x:Ix S e item) (h:StOk S):0<=item/\item<=4:=by have:=x.i0;have:=x.i1;have:=h.hw;omega
def Rm {v q n:Int} (d:1<=n) (c:0<=q) (b:q<=n) (a:qA v):qA (dK v q n)/\qA (v-dK v q n):=by
 have:=Ap d c b (fG.2 ⟨a.1,a.2⟩);rcases a2u v 0 with h|h
 .have:=this.2 h;exact⟨⟨by omega,by omega⟩,⟨by omega,by omega⟩⟩
 .have:=this.1 h;exact⟨⟨by omega,by omega⟩,⟨by omega,by omega⟩⟩
def ags {m:Int} {L:List bP} {p0 p1 p2 q:Int} (h:jS m L ⟨p0,p1,p2⟩) (h1:1<=q) (a:q<=p0):jS m L ⟨p0-q,p1,p2⟩:=by
 have:=h.a0;have:=h.b0;have:=h.c0;have:=h.sum;have:=h.zero;dsimp only at *;exact⟨h.lr,h.one,by dsimp only;omega,h.b0,h.c0,by dsimp only;omega,by dsimp only;omega⟩
def Pt (G:Gn S) (K:S.done<=1000000) (x:Ix S e item) (n:0<=loc/\loc<=1) (R:1<=q/\q<=1073741824) (L:0<=a/\a<=1125899906842624) :
  Ck 87 [S.av,eM 1 e item loc 0 q a 0] (.bE [(nD S e item loc q a).1.av,.i (nD S e item loc q a).2])/\oD S (nD S e item loc q a):=by
 have h:=G.toStOk;have H:=G.op K (x.eb h) (x.ib h) n (dst:=0) (by omega) (q:=q) (by omega) L (ref:=0) (by omega);unfold nD;have j:=fY h x;by_cases w:(S.aB e).closed=true
 .rw[if_pos w]at j |-
  exact⟨cw (iH [] [] [] [] GB) (ev3 H [] [] [] .nil) Y6 Kax (kc j kn),.bad G (by decide)⟩
 rw[if_neg w]at j |-;by_cases p:S.aO.length=40
 .rw[if_pos p]
  exact⟨cw (iH [] [([([8],1)],40,40)] [] [] GD) (ev3 H [] [] [] .nil) Y6 Kay (kc j kn),.bad G (by decide)⟩
 rw[if_neg p];have p:S.aO.length<40:=by have:=G.NY;omega
 have u:=lI h x n.1 n.2 (y:=⟨q,a,0⟩) (show fM [q,a,0]from I9 (by omega) (by omega) (by omega));obtain⟨J,O,T,Q,D⟩:=iS h x n.1 n.2 ⟨q,a,0⟩;generalize dW S e item loc ⟨q,a,0⟩=b at *;obtain⟨S1,g,up,f⟩:=b;dsimp only at *;have m:=J;by_cases d:f=0;rotate_left
 .rw[if_pos d]
  obtain⟨c,rfl,rfl⟩:=D d;have c:=c.symm;subst c;have H:=H.er (f:=f) (by omega);exact⟨cw (iH [] Key [] [] [GX,(145,V7,GQ)]) (ev3 H [] [] [] .nil) Y6 Kad (kc j (kc u kn)),.bad G O⟩
 subst d;rw[if_neg (by simp)];clear D;obtain⟨t,rfl⟩:=m.ex;have A:=eH m.ok (m.ix x) (l:=[⟨0,g⟩,⟨6,up⟩,⟨1,-a⟩]) (vO fmo) (by simp);obtain⟨I,N,C⟩:=dG m.ok (m.ix x) [⟨0,g⟩,⟨6,up⟩,⟨1,-a⟩];generalize cZ (S.bM t) e [⟨0,g⟩,⟨6,up⟩,⟨1,-a⟩]=b at *;obtain⟨V,f⟩:=b;dsimp only at *;have k:=m.trans I;by_cases d:f=0;rotate_left
 .rw[if_pos d]
  obtain c:=C d;have c:=c.symm;subst c;have H:=H.er (f:=f) (by omega);exact⟨cw (iH [jB,jB] Key [] [] [GX,Qs,(92,ZR,Kae)]) (ev3 H [g,up] [] [aX t] .nil) Y6 Kad (kc j (kc u (kc A kn))),.bad G N⟩
 subst d;rw[if_neg (by simp)];clear C;obtain⟨z,rfl⟩:=k.ex;have E:=fL k.ok (k.ix x) (r:=[0,g,0,0,0,0,0,0,0,0,0]) rfl;obtain⟨F,M,B⟩:=eI k.ok (k.ix x) (r:=[0,g,0,0,0,0,0,0,0,0,0]) rfl;generalize dR (S.bM z) e item [0,g,0,0,0,0,0,0,0,0,0]=b at *;obtain⟨U,f⟩:=b;dsimp only at *;have s:=k.trans F;by_cases d:f=0;rotate_left
 .rw[if_pos d]
  obtain c:=B d;have c:=c.symm;subst c;have H:=H.er (f:=f) (by omega);exact⟨cw (iH [jB,jB] Key [] [] [GX,Qs,JY,(124,Q7,Kaf)]) (ev3 H [g,up] [] [aX t,aX z] .nil) Y6 Kad (kc j (kc u (kc A (kc E kn)))),.bad G M⟩
 subst d;rw[if_neg (by simp)];clear B;obtain⟨P,rfl⟩:=s.ex;rw[aew];refine⟨cw (iH [jB,jB] Key [] [] [GX,Qs,JY,(124,Q7,KaA)]) (ev3 H [g,up] [] [aX t,aX z,aX P] .nil) Y6 (.bE [(.agg [.o 0,.o 1,.q 1 1,.q 1 2,.q 1 3,.q 8 9,(.seq 8 4 [] [[.v 0,.v 1,.v 2,.v 4,.v 5,.v 4,.v 5,.i 0]]),.q 9 5,.q 6 6,.v 7]),.i 0]) (kc j (kc u (kc A (kc E kn)))),.ok s ((s.gn G).xU p (ajH (x:=⟨e,item,loc,q,a,q,a,0⟩) (by rw[s.len];exact x.en) x.iw (by dsimp only;omega))) rfl rfl rfl rfl rfl rfl⟩
def aip (G:Gn S) (N:S.done<=1000000) (x:Ix S e item) (n:0<=loc/\loc<=1) (V:1<=q/\q<=1073741824) (O:0<=a/\a<=1125899906842624) :
  Ck 139 [S.av,eM 4 e item loc 0 q a 0] (.bE [(A4 S e item loc q a).1.av,.i (A4 S e item loc q a).2])/\oD S (A4 S e item loc q a):=by
 have h:=G.toStOk;have H:=G.op N (x.eb h) (x.ib h) n (dst:=0) (by omega) (q:=q) (by omega) O (ref:=0) (by omega);unfold A4;have j:=fY h x;by_cases y:(S.aB e).closed=true
 .rw[if_pos y]at j |-
  exact⟨cw (iH [] [] [] [] GB) (ev3 H [] [] [] .nil) Y7 Kax (kc j kn),.bad G (by decide)⟩
 rw[if_neg y]at j |-;by_cases t:S.aF.length=40
 .rw[if_pos t]
  exact⟨cw (iH [] [([([9],1)],40,40)] [] [] GD) (ev3 H [] [] [] .nil) Y7 Kay (kc j kn),.bad G (by decide)⟩
 rw[if_neg t];have t:S.aF.length<40:=by have:=G.N9;omega
 have w:=mO h x (kind:=0) n.1 n.2 (by omega) (q:=q) ⟨by omega,by omega⟩;obtain⟨L,R,U,ib,D⟩:=iF h x (kind:=0) n.1 n.2 (by omega) (by omega) q;generalize dJ S e item loc 0 q=b at *;obtain⟨S1,⟨xq,xv,xp⟩,s,f⟩:=b;dsimp only at *;have m:=L;by_cases g:f=0;rotate_left
 .rw[if_pos g]
  obtain⟨c,M,rfl⟩:=D g;cases M;have c:=c.symm;subst c;have H:=H.er (f:=f) (by omega);exact⟨cw (iH [] [KeR] [] [] [GX,(217,Gr,YG)]) (ev3 H [] [] [] .nil) Y7 Kad (kc j (kc w kn)),.bad G R⟩
 subst g;rw[if_neg (by simp)];clear D;obtain⟨u,rfl⟩:=m.ex;have A:=eH m.ok (m.ix x) (l:=[⟨3,a⟩,⟨4,-a⟩,⟨5,xv⟩,⟨0,-xv⟩]) (vO fmo) (by simp);obtain⟨K,Q,C⟩:=dG m.ok (m.ix x) [⟨3,a⟩,⟨4,-a⟩,⟨5,xv⟩,⟨0,-xv⟩];generalize cZ (S.bM u) e [⟨3,a⟩,⟨4,-a⟩,⟨5,xv⟩,⟨0,-xv⟩]=b at *;obtain⟨X,f⟩:=b;dsimp only at *;have k:=m.trans K;by_cases g:f=0;rotate_left
 .rw[if_pos g]
  obtain c:=C g;have c:=c.symm;subst c;have H:=H.er (f:=f) (by omega);exact⟨cw (iH [jB] [KeR] [] [] [GX,Qb,(92,QE,Kae)]) (ev3 H [xv] [.I xq,.I xp,.bool s] [aX u] .nil) Y7 Kad (kc j (kc w (kc A kn))),.bad G Q⟩
 subst g;rw[if_neg (by simp)];clear C;obtain⟨z,rfl⟩:=k.ex;have F:=fL k.ok (k.ix x) (r:=[0,0,0,0,0,xv,0,0,0,0,0]) rfl;obtain⟨J,P,B⟩:=eI k.ok (k.ix x) (r:=[0,0,0,0,0,xv,0,0,0,0,0]) rfl;generalize dR (S.bM z) e item [0,0,0,0,0,xv,0,0,0,0,0]=b at *;obtain⟨W,f⟩:=b;dsimp only at *;have p:=k.trans J;by_cases g:f=0;rotate_left
 .rw[if_pos g]
  obtain c:=B g;have c:=c.symm;subst c;have H:=H.er (f:=f) (by omega);exact⟨cw (iH [jB] [KeR] [] [] [GX,Qb,Jp,(124,Q8,Kaf)]) (ev3 H [xv] [.I xq,.I xp,.bool s] [aX u,aX z] .nil) Y7 Kad (kc j (kc w (kc A (kc F kn)))),.bad G P⟩
 subst g;rw[if_neg (by simp)];clear B;obtain⟨T,rfl⟩:=p.ex;have E:=h.at_ x;have:=(h.mQ x).now;have:=x.e0;have:=x.e1;have:=h.hn;rw[aeu];refine⟨cw (iH [jB] [KeR,KcC] [] [(0,[([0],1)],[.o 5,.o 6,.q 4 10,.q 1 11,.q 11 12,.q 1 13,.q 1 14,.q 8 15])] [GX,Qb,Jp,(124,Q8,KaA)]) (ev3 H [xv] [.I xq,.I xp,.bool s,.I (S.aB e).now,.bool (S.aB e).closed] [aX u,aX z,aX T,bS (S.aB e).bK,aA (S.aB e).cN,bN (S.aB e).aJ,aA (S.aB e).bD,aA (S.aB e).down,bX (S.aB e).ahead] (.d (aE E) .nil)) Y7 (.bE [(.agg [.o 0,.o 1,.q 1 1,.q 1 2,.q 1 3,.q 8 9,.q 8 4,(.seq 9 5 [] [[.v 0,.v 1,.v 2,.v 4,.i 0,.v 14,.o 3,.o 5,.o 4]]),.q 6 6,.v 7]),.i 0]) (kc j (kc w (kc A (kc F kn)))),.ok p ((p.gn G).vL t (ajB (x:=⟨e,item,loc,q,0,xv,xp,(S.aB e).now,s⟩) (by rw[p.len];exact x.en) x.iw (by dsimp only;omega)) (Int.le_of_eq (p.now e).symm)) rfl rfl rfl rfl rfl rfl⟩
def adF (G:Gn S) (F:S.done<=1000000) (x:Ix S e item) (m:0<=loc/\loc<=1) (O:1<=q/\q<=1073741824) :
  Ck 140 [S.av,eM 6 e item loc 0 q 0 0] (.bE [(vJ S e item loc q).1.av,.i (vJ S e item loc q).2])/\oD S (vJ S e item loc q):=by
 have h:=G.toStOk;have H:=G.op F (x.eb h) (x.ib h) m (dst:=0) (by omega) (q:=q) (by omega) (a:=0) (by omega) (ref:=0) (by omega);unfold vJ;have g:=fY h x;by_cases p:(S.aB e).closed=true
 .rw[if_pos p]at g |-
  exact⟨cw (iH [] [] [] [] GB) (ev3 H [] [] [] .nil) Y8 Kax (kc g kn),.bad G (by decide)⟩
 rw[if_neg p]at g |-;have o:=mO h x (kind:=1) m.1 m.2 (by omega) (q:=q) ⟨by omega,by omega⟩;obtain⟨D,L,N,ib,z⟩:=iF h x (kind:=1) m.1 m.2 (by omega) (by omega) q;generalize dJ S e item loc 1 q=b at *;obtain⟨S1,⟨xq,xv,xp⟩,s,f⟩:=b;dsimp only at *;have k:=D;by_cases d:f=0;rotate_left
 .rw[if_pos d]
  obtain⟨c,E,rfl⟩:=z d;cases E;have c:=c.symm;subst c;have H:=H.er (f:=f) (by omega);exact⟨cw (iH [] [] [] [] [GX,(217,Gs,YG)]) (ev3 H [] [] [] .nil) Y8 Kad (kc g (kc o kn)),.bad G L⟩
 subst d;rw[if_neg (by simp)];clear z;obtain⟨n,rfl⟩:=k.ex;have v:=eH k.ok (k.ix x) (l:=[⟨7,xv⟩,⟨0,-xv⟩]) (vO fmo) (by simp);obtain⟨C,K,y⟩:=dG k.ok (k.ix x) [⟨7,xv⟩,⟨0,-xv⟩];generalize cZ (S.bM n) e [⟨7,xv⟩,⟨0,-xv⟩]=b at *;obtain⟨Q,f⟩:=b;dsimp only at *;have j:=k.trans C;by_cases d:f=0;rotate_left
 .rw[if_pos d]
  obtain c:=y d;have c:=c.symm;subst c;have H:=H.er (f:=f) (by omega);exact⟨cw (iH [jB] [] [] [] [GX,Qc,(92,Uw,Kae)]) (ev3 H [xv] [.I xq,.I xp,.bool s] [aX n] .nil) Y8 Kad (kc g (kc o (kc v kn))),.bad G K⟩
 subst d;rw[if_neg (by simp)];clear y;obtain⟨u,rfl⟩:=j.ex;have A:=fL j.ok (j.ix x) (r:=[0,0,0,0,0,0,0,0,xv,0,0]) rfl;obtain⟨B,J,w⟩:=eI j.ok (j.ix x) (r:=[0,0,0,0,0,0,0,0,xv,0,0]) rfl;generalize dR (S.bM u) e item [0,0,0,0,0,0,0,0,xv,0,0]=b at *;obtain⟨P,f⟩:=b;dsimp only at *;have t:=j.trans B;by_cases d:f=0;rotate_left
 .rw[if_pos d]
  obtain c:=w d;have c:=c.symm;subst c;have H:=H.er (f:=f) (by omega);exact⟨cw (iH [jB] [] [] [] [GX,Qc,Qn,(124,Q9,Kaf)]) (ev3 H [xv] [.I xq,.I xp,.bool s] [aX n,aX u] .nil) Y8 Kad (kc g (kc o (kc v (kc A kn)))),.bad G J⟩
 subst d;rw[if_neg (by simp)];clear w;obtain⟨M,rfl⟩:=t.ex;refine⟨cw (iH [jB] [] [] [] [GX,Qc,Qn,(124,Q9,KaA)]) (ev3 H [xv] [.I xq,.I xp,.bool s] [aX n,aX u,aX M] .nil) Y8 KaA (kc g (kc o (kc v (kc A kn)))),.ok t (t.gn G) rfl rfl rfl rfl rfl rfl⟩
def aiq (G:Gn S) (T:S.done<=1000000) (x:Ix S e item) (p:0<=loc/\loc<=1) (w:0<=dst/\dst<=1) (hq:1<=q/\q<=1073741824) :
  Ck 140 [S.av,eM 8 e item loc dst q 0 0] (.bE [(A9 S e item loc dst q).1.av,.i (A9 S e item loc dst q).2])/\oD S (A9 S e item loc dst q):=by
 have h:=G.toStOk;have H:=G.op T (x.eb h) (x.ib h) p (dst:=dst) (by omega) (q:=q) (by omega) (a:=0) (by omega) (ref:=0) (by omega);unfold A9;have j:=fY h x;by_cases B:(S.aB e).closed=true
 .rw[if_pos B]at j |-
  exact⟨cw (iH [] [] [] [] GB) (ev3 H [] [] [] .nil) Y9 Kax (kc j kn),.bad G (by decide)⟩
 rw[if_neg B]at j |-;have t:=mO h x (kind:=3) p.1 p.2 (by omega) (q:=q) ⟨by omega,by omega⟩;obtain⟨Q,X,Z,ib,L⟩:=iF h x (kind:=3) p.1 p.2 (by omega) (by omega) q;generalize dJ S e item loc 3 q=b at *;obtain⟨S1,⟨xq,xv,xp⟩,u,f⟩:=b;dsimp only at *;have n:=Q;by_cases d:f=0;rotate_left
 .rw[if_pos d]
  obtain⟨c,R,rfl⟩:=L d;cases R;have c:=c.symm;subst c;have H:=H.er (f:=f) (by omega);exact⟨cw (iH [] [] [] [] KZ) (ev3 H [] [] [] .nil) Y9 Kad (kc j (kc t kn)),.bad G X⟩
 subst d;rw[if_neg (by simp)];clear L;obtain⟨s,rfl⟩:=n.ex;have A:=lI n.ok (n.ix x) w.1 w.2 (y:=⟨xq,xv,xp⟩) (show fM [xq,xv,xp]from I9 (by omega) (by omega) (by omega));obtain⟨P,W,cb,ub,K⟩:=iS n.ok (n.ix x) w.1 w.2 ⟨xq,xv,xp⟩;generalize dW (S.bM s) e item dst ⟨xq,xv,xp⟩=b at *;obtain⟨S2,g,up,f⟩:=b;dsimp only at *;have m:=n.trans P;by_cases d:f=0;rotate_left
 .rw[if_pos d]
  obtain⟨c,rfl,rfl⟩:=K d;have c:=c.symm;subst c;have H:=H.er (f:=f) (by omega);exact⟨cw (iH [jB] [] [] [] [GX,(217,Gt,VJ),(145,[Kei,.v 0,.v 1,.v 3,(.agg [.o 2,.v 14,.o 3])],(.bE [Kei,.i 0,.i 0,.v 13]))]) (ev3 H [xv] [.I xq,.I xp,.bool u] [aX s] .nil) Y9 Kad (kc j (kc t (kc A kn))),.bad G W⟩
 subst d;rw[if_neg (by simp)];clear K;obtain⟨z,rfl⟩:=m.ex;have E:=eH m.ok (m.ix x) (l:=[⟨0,g-xv⟩,⟨6,up⟩]) (vO fmo) (by simp);obtain⟨O,V,J⟩:=dG m.ok (m.ix x) [⟨0,g-xv⟩,⟨6,up⟩];generalize cZ (S.bM z) e [⟨0,g-xv⟩,⟨6,up⟩]=b at *;obtain⟨S3,f⟩:=b;dsimp only at *;have k:=m.trans O;by_cases d:f=0;rotate_left
 .rw[if_pos d]
  obtain c:=J d;have c:=c.symm;subst c;have H:=H.er (f:=f) (by omega);exact⟨cw (iH [jB,jB,jB] [] [] [] [GX,Qd,Qo,(92,Z1,Kaf)]) (ev3 H [g,up,xv] [.I xq,.I xp,.bool u] [aX s,aX z] .nil) Y9 Kad (kc j (kc t (kc A (kc E kn)))),.bad G V⟩
 subst d;rw[if_neg (by simp)];clear J;obtain⟨D,rfl⟩:=k.ex;have M:=fL k.ok (k.ix x) (r:=[0,0,0,0,0,0,0,0,0,0,g-xv]) rfl;obtain⟨N,U,F⟩:=eI k.ok (k.ix x) (r:=[0,0,0,0,0,0,0,0,0,0,g-xv]) rfl;generalize dR (S.bM D) e item [0,0,0,0,0,0,0,0,0,0,g-xv]=b at *;obtain⟨S4,f⟩:=b;dsimp only at *;have C:=k.trans N;by_cases d:f=0;rotate_left
 .rw[if_pos d]
  obtain c:=F d;have c:=c.symm;subst c;have H:=H.er (f:=f) (by omega);exact⟨cw (iH [jB,jB,jB] [] [] [] [GX,Qd,Qo,J1,(124,Qf,Kag)]) (ev3 H [g,up,xv] [.I xq,.I xp,.bool u] [aX s,aX z,aX D] .nil) Y9 Kad (kc j (kc t (kc A (kc E (kc M kn))))),.bad G U⟩
 subst d;rw[if_neg (by simp)];clear F;obtain⟨Y,rfl⟩:=C.ex;refine⟨cw (iH [jB,jB,jB] [] [] [] [GX,Qd,Qo,J1,(124,Qf,Kah)]) (ev3 H [g,up,xv] [.I xq,.I xp,.bool u] [aX s,aX z,aX D,aX Y] .nil) Y9 Kah (kc j (kc t (kc A (kc E (kc M kn))))),.ok C (C.gn G) rfl rfl rfl rfl rfl rfl⟩
def aif (G:Gn S) (hd:S.done<=1000000) (hq:1<=q/\q<=1073741824) (ha:0<=a/\a<=1125899906842624) (hr:0<=ref/\ref<=39) :
  Ck 139 [S.av,eM 5 0 0 0 0 q a ref] (.bE [(A0 S ref q a).1.av,.i (A0 S ref q a).2])/\oD S (A0 S ref q a):=by
 have h:=G.toStOk;unfold A0;cases k:S.aF[ref.toNat]? with
 |none =>
  have H:=G.op hd (e:=0) (by omega) (item:=0) (by omega) (loc:=0) (by omega) (dst:=0) (by omega) (q:=q) (by omega) ha hr;have:=a24.1 k;exact⟨cw (iH [] [([([6],1),([9],-1)],0,1152921504606846976)] [] [] []) (ev3 H [] [] [] .nil) Ua KaB kn,.bad G (by decide)⟩
 |some s =>
  have hm:=a0a k;have aa:=G.pb s hm;have B:=G.C7 s hm;have:=(a0y.1 k).1;have:=G.N9;obtain⟨e,item,loc,m,t,sc,w,st,sw⟩:=s;dsimp only at *;obtain⟨b1,b2,D,b4,b5,b6,b7,b8⟩:=B;dsimp only at *;have x:Ix S e item:=⟨b1.1,b1.2,b2.1,b2.2⟩;have H:=G.op hd (x.eb h) (x.ib h) D (dst:=0) (by omega) (q:=q) (by omega) ha hr;have E:=fY h x;by_cases ad:(S.aB e).closed=true
  .rw[if_pos ad]at E |-
   exact⟨cw (iH Gv [KcD] [] Vr GB) (ev3 H [m,t,sc,w,st] [.bool sw] [] (.d (aV k) .nil)) Ua Kax (kc E kn),.bad G (by decide)⟩
  rw[if_neg ad]at E |-;by_cases ac:m-t<q
  .rw[if_pos ac]
   exact⟨cw (iH Gv [KcD,([([4],1),([14],-1),([15],1)],1,1152921504606846976)] [] Vr GD) (ev3 H [m,t,sc,w,st] [.bool sw] [] (.d (aV k) .nil)) Ua KaC (kc E kn),.bad G (by decide)⟩
  rw[if_neg ac];have K:=h.at_ x;have:=x.e0;have:=x.e1;have:=h.hn;have:=(h.mQ x).now;have T:=kL (v:=sc) (q:=q) (n:=m-t) ⟨by omega,by omega⟩ ⟨by omega,by omega⟩ ⟨by omega,by omega⟩;have R:=kL (v:=w) (q:=q) (n:=m-t) ⟨by omega,by omega⟩ ⟨by omega,by omega⟩ ⟨by omega,by omega⟩;obtain⟨c1,c2⟩:=Rm (v:=sc) (q:=q) (n:=m-t) (by omega) (by omega) (by omega) b6;obtain⟨c3,c4⟩:=Rm (v:=w) (q:=q) (n:=m-t) (by omega) (by omega) (by omega) b7;unfold sP;dsimp only;generalize dK sc q (m-t)=c at *;generalize dK w q (m-t)=C at *;cases sw with
  |false =>
   rw[if_neg (by simp)];have J:=lI h x D.1 D.2 (y:=⟨q,c,C⟩) (show fM [q,c,C]from I9 (by omega) (by omega) (by omega));obtain⟨Z,g1,cb,ub,X⟩:=iS h x D.1 D.2 ⟨q,c,C⟩;generalize dW S e item loc ⟨q,c,C⟩=b at *;obtain⟨S1,z,up,f⟩:=b;dsimp only at *;have u:=Z;by_cases j:f=0;rotate_left
   .rw[if_pos j]
    obtain⟨g,rfl,rfl⟩:=X j;have g:=g.symm;subst g;have H:=H.er (f:=f) (by omega);exact⟨cw (iH [Ke8,Ke8,jB,jB,(0,100),jB,jB] Ye [] Yf Kw) (ev3 H [m,t,sc,w,st,c,C] [] [] (.d (aV k) .nil)) Ua Kad (kc E (kc T (kc R (kc J kn)))),.bad G g1⟩
   subst j;rw[if_neg (by simp)];clear X;obtain⟨F,rfl⟩:=u.ex;have O:=eH u.ok (u.ix x) (l:=[⟨4,a⟩,⟨3,-a⟩,⟨0,z⟩,⟨6,up⟩,⟨5,-c⟩]) (vO fmo) (by simp);obtain⟨Y,g2,Q⟩:=dG u.ok (u.ix x) [⟨4,a⟩,⟨3,-a⟩,⟨0,z⟩,⟨6,up⟩,⟨5,-c⟩];generalize cZ (S.bM F) e [⟨4,a⟩,⟨3,-a⟩,⟨0,z⟩,⟨6,up⟩,⟨5,-c⟩]=b at *;obtain⟨S2,f⟩:=b;dsimp only at *;have A:=u.trans Y;by_cases j:f=0;rotate_left
   .rw[if_pos j]
    obtain g:=Q j;have g:=g.symm;subst g;have H:=H.er (f:=f) (by omega);exact⟨cw (iH VV Ye [] Yf [GX,Hs,Ht,Qk,(92,J3,Kae)]) (ev3 H [m,t,sc,w,st,c,C,z,up] [] [aX F] (.d (aV k) .nil)) Ua Kad (kc E (kc T (kc R (kc J (kc O kn))))),.bad G g2⟩
   subst j;rw[if_neg (by simp)];clear Q;obtain⟨N,rfl⟩:=A.ex;have C3:=fL A.ok (A.ix x) (r:=[0,0,0,0,z,0,0,0,0,0,0]) rfl;obtain⟨k3,g3,W⟩:=eI A.ok (A.ix x) (r:=[0,0,0,0,z,0,0,0,0,0,0]) rfl;generalize dR (S.bM N) e item [0,0,0,0,z,0,0,0,0,0,0]=b at *;obtain⟨S3,f⟩:=b;dsimp only at *;have M:=A.trans k3;by_cases j:f=0;rotate_left
   .rw[if_pos j]
    obtain g:=W j;have g:=g.symm;subst g;have H:=H.er (f:=f) (by omega);exact⟨cw (iH VV Ye [] Yf [GX,Hs,Ht,Qk,Jd,(124,Za,Kaf)]) (ev3 H [m,t,sc,w,st,c,C,z,up] [] [aX F,aX N] (.d (aV k) .nil)) Ua Kad (kc E (kc T (kc R (kc J (kc O (kc C3 kn)))))),.bad G g3⟩
   subst j;rw[if_neg (by simp)];clear W;obtain⟨E3,rfl⟩:=M.ex;rw[Mp];refine⟨cw (iH VV Ye [] Yf [GX,Hs,Ht,Qk,Jd,(124,Za,KaA)]) (ev3 H [m,t,sc,w,st,c,C,z,up] [] [aX F,aX N,aX E3] (.d (aV k) .nil)) Ua (.bE [(.agg [.o 0,.o 1,.q 1 1,.q 1 2,.q 1 3,.q 8 9,.q 8 4,(.seq 9 5 [([([6],1)],[.v 0,.v 1,.v 2,.v 14,Kdy,(.e [([16],1),([19],(-1))]),Kcc,.v 18,Kev])] []),.q 6 6,.v 7]),.i 0]) (kc E (kc T (kc R (kc J (kc O (kc C3 kn)))))),.ok M ((M.gn G).qW (ajB (x:=⟨e,item,loc,m,q+t,sc-c,w-C,st,false⟩) (by rw[M.len];exact x.en) x.iw (by dsimp only;omega)) (by rw[show(((S.bM E3).aB e).now)=(S.aB e).now from M.now e];exact aa)) rfl rfl rfl rfl rfl rfl⟩
  |true =>
   by_cases ab:st=(S.aB e).now;rotate_left
   .rw[if_neg (by simp[ab])]
    have J:=lI h x D.1 D.2 (y:=⟨q,c,C⟩) (show fM [q,c,C]from I9 (by omega) (by omega) (by omega));obtain⟨Z,g1,cb,ub,X⟩:=iS h x D.1 D.2 ⟨q,c,C⟩;generalize dW S e item loc ⟨q,c,C⟩=b at *;obtain⟨S1,z,up,f⟩:=b;dsimp only at *;have u:=Z;by_cases j:f=0;rotate_left
    .rw[if_pos j]
     obtain⟨g,rfl,rfl⟩:=X j;have g:=g.symm;subst g;have H:=H.er (f:=f) (by omega);exact⟨cw (iH [Ke8,Ke8,jB,jB,(0,100),jB,jB,(-100,100)] [KcD,WU,KcC,([([18],-1),([21],1)],1,200)] [] [YH,(0,[([0],1)],[.v 21,.o 2,.q 4 7,.q 1 8,.q 11 9,.q 1 10,.q 1 11,.q 8 12])] Kw) (ev3 H [m,t,sc,w,st,c,C,(S.aB e).now] [.bool (S.aB e).closed] [bS (S.aB e).bK,aA (S.aB e).cN,bN (S.aB e).aJ,aA (S.aB e).bD,aA (S.aB e).down,bX (S.aB e).ahead] (.d (aV k) (.d (aE K) .nil))) Ua Kad (kc E (kc T (kc R (kc J kn)))),.bad G g1⟩
    subst j;rw[if_neg (by simp)];clear X;obtain⟨F,rfl⟩:=u.ex;have O:=eH u.ok (u.ix x) (l:=[⟨4,a⟩,⟨3,-a⟩,⟨0,z⟩,⟨6,up⟩,⟨5,-c⟩]) (vO fmo) (by simp);obtain⟨Y,g2,Q⟩:=dG u.ok (u.ix x) [⟨4,a⟩,⟨3,-a⟩,⟨0,z⟩,⟨6,up⟩,⟨5,-c⟩];generalize cZ (S.bM F) e [⟨4,a⟩,⟨3,-a⟩,⟨0,z⟩,⟨6,up⟩,⟨5,-c⟩]=b at *;obtain⟨S2,f⟩:=b;dsimp only at *;have A:=u.trans Y;by_cases j:f=0;rotate_left
    .rw[if_pos j]
     obtain g:=Q j;have g:=g.symm;subst g;have H:=H.er (f:=f) (by omega);exact⟨cw (iH UD JH [] Jh [GX,Hs,Ht,Qg,(92,J2,(.bE [KdY,.v 13]))]) (ev3 H [m,t,sc,w,st,c,C,z,up,(S.aB e).now] [.bool (S.aB e).closed] [bS (S.aB e).bK,aA (S.aB e).cN,bN (S.aB e).aJ,aA (S.aB e).bD,aA (S.aB e).down,bX (S.aB e).ahead,aX F] (.d (aV k) (.d (aE K) .nil))) Ua Kad (kc E (kc T (kc R (kc J (kc O kn))))),.bad G g2⟩
    subst j;rw[if_neg (by simp)];clear Q;obtain⟨N,rfl⟩:=A.ex;have C3:=fL A.ok (A.ix x) (r:=[0,0,0,0,z,0,0,0,0,0,0]) rfl;obtain⟨k3,g3,W⟩:=eI A.ok (A.ix x) (r:=[0,0,0,0,z,0,0,0,0,0,0]) rfl;generalize dR (S.bM N) e item [0,0,0,0,z,0,0,0,0,0,0]=b at *;obtain⟨S3,f⟩:=b;dsimp only at *;have M:=A.trans k3;by_cases j:f=0;rotate_left
    .rw[if_pos j]
     obtain g:=W j;have g:=g.symm;subst g;have H:=H.er (f:=f) (by omega);exact⟨cw (iH UD JH [] Jh [GX,Hs,Ht,Qg,Jb,(124,Q2,BR)]) (ev3 H [m,t,sc,w,st,c,C,z,up,(S.aB e).now] [.bool (S.aB e).closed] [bS (S.aB e).bK,aA (S.aB e).cN,bN (S.aB e).aJ,aA (S.aB e).bD,aA (S.aB e).down,bX (S.aB e).ahead,aX F,aX N] (.d (aV k) (.d (aE K) .nil))) Ua Kad (kc E (kc T (kc R (kc J (kc O (kc C3 kn)))))),.bad G g3⟩
    subst j;rw[if_neg (by simp)];clear W;obtain⟨E3,rfl⟩:=M.ex;rw[Mp];refine⟨cw (iH UD JH [] Jh [GX,Hs,Ht,Qg,Jb,(124,Q2,Kai)]) (ev3 H [m,t,sc,w,st,c,C,z,up,(S.aB e).now] [.bool (S.aB e).closed] [bS (S.aB e).bK,aA (S.aB e).cN,bN (S.aB e).aJ,aA (S.aB e).bD,aA (S.aB e).down,bX (S.aB e).ahead,aX F,aX N,aX E3] (.d (aV k) (.d (aE K) .nil))) Ua (.bE [(.agg [.o 0,.o 1,.q 1 1,.q 1 2,.q 1 3,.q 8 15,.q 8 4,(.seq 9 5 [([([6],1)],[.v 0,.v 1,.v 2,.v 14,Kdy,(.e [([16],1),([19],(-1))]),Kcc,.v 18,KeF])] []),.q 6 6,.v 7]),.i 0]) (kc E (kc T (kc R (kc J (kc O (kc C3 kn)))))),.ok M ((M.gn G).qW (ajB (x:=⟨e,item,loc,m,q+t,sc-c,w-C,st,true⟩) (by rw[M.len];exact x.en) x.iw (by dsimp only;omega)) (by rw[show(((S.bM E3).aB e).now)=(S.aB e).now from M.now e];exact aa)) rfl rfl rfl rfl rfl rfl⟩
   rw[if_pos ⟨rfl,ab⟩];unfold xF;have U:=h.xV x D.1 D.2;have Ca:=lV h x D.1 D.2;dsimp only;generalize (S.aB e).aU (2*item+loc)=P at *;obtain⟨L,p0,p1,p2⟩:=P;have:=U.pnd.a0;have:=U.pnd.a1;dsimp only[cY.pn]at *;have Cb:=ab4 (L:=L) (p0:=p0) (p1:=p1) (p2:=p2) (q:=q) U.lr.len (by omega) hq;by_cases V:p0<q
   .rw[if_pos V]
    rw[if_pos V,if_pos V]at Cb;exact⟨cw (iH Wi JL [] Ji [GX,Ux,(218,De,(.bE [Kbw,.i 5]))]) (ev3 H [m,t,sc,w,st,(S.aB e).now] [.bool (S.aB e).closed,.I p0,.I p1,.I p2] [bS (S.aB e).bK,aA (S.aB e).cN,bN (S.aB e).aJ,aA (S.aB e).bD,aA (S.aB e).down,bX (S.aB e).ahead,aM L] (.d (aV k) (.d (aE K) .nil))) Ua KaC (kc E (kc Ca (kc Cb kn))),.bad G (by decide)⟩
   rw[if_neg V];rw[if_neg V,if_neg V]at Cb;have J:=sL h x D.1 D.2 ⟨L,p0-q,p1,p2⟩;have Z:=gH h x D.1 D.2 (p:=⟨L,p0-q,p1,p2⟩) (ags U (by omega) (by omega));generalize S.aZ e ((S.aB e).bR (2*item+loc) ⟨L,p0-q,p1,p2⟩)=S1 at *;have u:=Z;obtain⟨F,rfl⟩:=u.ex;have O:=eH u.ok (u.ix x) (l:=[⟨4,a⟩,⟨3,-a⟩]) (vO fmo) (by simp);obtain⟨Y,g2,Q⟩:=dG u.ok (u.ix x) [⟨4,a⟩,⟨3,-a⟩];generalize cZ (S.bM F) e [⟨4,a⟩,⟨3,-a⟩]=b at *;obtain⟨S2,f⟩:=b;dsimp only at *;have A:=u.trans Y;by_cases j:f=0;rotate_left
   .rw[if_pos j]
    obtain g:=Q j;have g:=g.symm;subst g;have H:=H.er (f:=f) (by omega);exact⟨cw (iH Wi JL [] Ji [GX,Ux,Zn,Zb,(92,UE,BR)]) (ev3 H [m,t,sc,w,st,(S.aB e).now] [.bool (S.aB e).closed,.I p0,.I p1,.I p2,.I (p0-q)] [bS (S.aB e).bK,aA (S.aB e).cN,bN (S.aB e).aJ,aA (S.aB e).bD,aA (S.aB e).down,bX (S.aB e).ahead,aM L,aX F] (.d (aV k) (.d (aE K) .nil))) Ua Kad (kc E (kc Ca (kc Cb (kc J (kc O kn))))),.bad G g2⟩
   subst j;rw[if_neg (by simp)];clear Q;obtain⟨N,rfl⟩:=A.ex;rw[Mp];refine⟨cw (iH Wi JL [] Ji [GX,Ux,Zn,Zb,(92,UE,Kai)]) (ev3 H [m,t,sc,w,st,(S.aB e).now] [.bool (S.aB e).closed,.I p0,.I p1,.I p2,.I (p0-q)] [bS (S.aB e).bK,aA (S.aB e).cN,bN (S.aB e).aJ,aA (S.aB e).bD,aA (S.aB e).down,bX (S.aB e).ahead,aM L,aX F,aX N] (.d (aV k) (.d (aE K) .nil))) Ua (.bE [(.agg [.o 0,.o 1,.q 1 1,.q 1 2,.q 1 3,.q 8 15,.q 8 4,(.seq 9 5 [([([6],1)],[.v 0,.v 1,.v 2,.v 14,Kdy,.v 16,.v 17,.v 18,KeF])] []),.q 6 6,.v 7]),.i 0]) (kc E (kc Ca (kc Cb (kc J (kc O kn))))),.ok A ((A.gn G).qW (ajB (x:=⟨e,item,loc,m,q+t,sc,w,st,true⟩) (by rw[A.len];exact x.en) x.iw (by dsimp only;omega)) (by rw[show(((S.bM N).aB e).now)=(S.aB e).now from A.now e];exact aa)) rfl rfl rfl rfl rfl rfl⟩
end
end
section
open Mc
def PB {e item loc rq rv ro ra rb q:Int} (c:1<=q) (h1:q<=ro) (h:ro<=1073741824) (g:0<=ra) (f:ra<=1125899906842624):Ck 223 [.agg (jH [e,item,loc,rq,rv,ro,ra,rb]),.i q] (.i (wT ⟨e,item,loc,rq,rv,ro,ra,rb⟩ q)):=by
 have b:=kL (v:=ra) (q:=q) (n:=ro) ⟨by omega,by omega⟩ ⟨by omega,by omega⟩ ⟨by omega,by omega⟩;unfold wT;dsimp only;generalize dK ra q ro=d at *;by_cases a:q=ro
 .rw[if_pos a];exact cw _ (ev1 { vars:=Hu,facts:=[(Ket,0,0)] } [ro,q,ra] [.I e,.I item,.I loc,.I rq,.I rv,.I rb,.I d] [] .nil) Wz (.v 2) kn
 .rw[if_neg a];exact cw _ (ev1 { vars:=Hu,facts:=[(Ket,1,1099511627776)],bQ:=[(149,[.v 2,.v 1,.v 0],(.o 6))] } [ro,q,ra] [.I e,.I item,.I loc,.I rq,.I rv,.I rb,.I d] [] .nil) Wz (.o 6) (kc b kn)
section
variable {S:bF} {e item loc dst q a ref:Int}
def amy (G:Gn S) (w:S.done<=1000000) (K:1<=q/\q<=1073741824) (y:0<=a/\a<=1125899906842624) (u:0<=ref/\ref<=39) :
  Ck 141 [S.av,eM 2 0 0 0 0 q a ref] (.bE [(Oo S ref q a).1.av,.i (Oo S ref q a).2])/\oD S (Oo S ref q a):=by
 have h:=G.toStOk;unfold Oo;cases c:S.aO[ref.toNat]? with
 |none =>
  have H:=G.op w (e:=0) (by omega) (item:=0) (by omega) (loc:=0) (by omega) (dst:=0) (by omega) (q:=q) (by omega) y u;have:=a24.1 c;exact⟨cw (iH [] GY [] [] []) (ev3 H [] [] [] .nil) Ub KaB kn,.bad G (by decide)⟩
 |some s =>
  have D:=a0a c;have B:=G.Eu s D;have:=(a0y.1 c).1;have:=G.NY;obtain⟨e,item,loc,rq,rv,ro,ra,rb⟩:=s;obtain⟨b1,b2,E,P,O,N,M,L⟩:=B;dsimp only at *;have x:Ix S e item:=⟨b1.1,b1.2,b2.1,b2.2⟩;have H:=G.op w (x.eb h) (x.ib h) E (dst:=0) (by omega) (q:=q) (by omega) y u;have g:=fY h x;by_cases m:(S.aB e).closed=true
  .rw[if_pos m]at g |-
   exact⟨cw (iH ZJ [KcE] [] VZ GB) (ev3 H [rq,rv,ro,ra,rb] [] [] (.d (aC c) .nil)) Ub Kax (kc g kn),.bad G (by decide)⟩
  rw[if_neg m]at g |-;by_cases k:ro<q
  .rw[if_pos k]
   exact⟨cw (iH ZJ [KcE,Df] [] VZ GD) (ev3 H [rq,rv,ro,ra,rb] [] [] (.d (aC c) .nil)) Ub KaC (kc g kn),.bad G (by decide)⟩
  rw[if_neg k];have z:=PB (e:=e) (item:=item) (loc:=loc) (rq:=rq) (rv:=rv) (rb:=rb) (q:=q) (ro:=ro) (ra:=ra) (by omega) (by omega) (by omega) (by omega) (by omega);have I:=R8 (r:=⟨e,item,loc,rq,rv,ro,ra,rb⟩) (q:=q) (by omega) (by dsimp only;omega) (by dsimp only;omega) (by dsimp only;omega);dsimp only at I;generalize wT ⟨e,item,loc,rq,rv,ro,ra,rb⟩ q=d at *;have A:=eH h x (l:=[⟨1,d⟩,⟨6,a-d⟩,⟨2,-a⟩]) (vO fmo) (by simp);obtain⟨C,F,t⟩:=dG h x [⟨1,d⟩,⟨6,a-d⟩,⟨2,-a⟩];generalize cZ S e [⟨1,d⟩,⟨6,a-d⟩,⟨2,-a⟩]=b at *;obtain⟨S1,f⟩:=b;dsimp only at *;have j:=C;by_cases p:f=0;rotate_left
  .rw[if_pos p]
   obtain n:=t p;have n:=n.symm;subst n;have H:=H.er (f:=f) (by omega);exact⟨cw (iH QG U1 [] VZ [GX,UF,(92,QU,Kad)]) (ev3 H [rq,rv,ro,ra,rb,d] [] [] (.d (aC c) .nil)) Ub Kad (kc g (kc z (kc A kn))),.bad G F⟩
  subst p;rw[if_neg (by simp)];clear t;obtain⟨J,rfl⟩:=j.ex;rw[Mq];refine⟨cw (iH QG U1 [] VZ [GX,UF,(92,QU,(.bE [Kei,.i 0]))]) (ev3 H [rq,rv,ro,ra,rb,d] [] [aX J] (.d (aC c) .nil)) Ub (.bE [(.agg [.o 0,.o 1,.q 1 1,.q 1 2,.q 1 3,.q 8 7,(.seq 8 4 [([([6],1)],[.v 0,.v 1,.v 2,.v 14,.v 15,(.e [([4],(-1)),([16],1)]),(.e [([17],1),([19],(-1))]),.v 18])] []),.q 9 5,.q 6 6,.v 7]),.i 0]) (kc g (kc z (kc A kn))),.ok j ((j.gn G).uS (ajH (x:=⟨e,item,loc,rq,rv,-q+ro,ra-d,rb⟩) (by rw[j.len];exact x.en) x.iw (by dsimp only;omega))) rfl rfl rfl rfl rfl rfl⟩
def aoF (G:Gn S) (hd:S.done<=1000000) (hq:1<=q/\q<=1073741824) (Z:0<=ref/\ref<=39) :
  Ck 141 [S.av,eM 3 0 0 0 0 q 0 ref] (.bE [(sbS S ref q).1.av,.i (sbS S ref q).2])/\oD S (sbS S ref q):=by
 have h:=G.toStOk;unfold sbS;cases j:S.aO[ref.toNat]? with
 |none =>
  have H:=G.op hd (e:=0) (by omega) (item:=0) (by omega) (loc:=0) (by omega) (dst:=0) (by omega) (q:=q) (by omega) (a:=0) (by omega) Z;have:=a24.1 j;exact⟨cw (iH [] GY [] [] []) (ev3 H [] [] [] .nil) Uc KaB kn,.bad G (by decide)⟩
 |some s =>
  have hm:=a0a j;have B:=G.Eu s hm;have:=(a0y.1 j).1;have:=G.NY;obtain⟨e,item,loc,rq,rv,ro,ra,rb⟩:=s;obtain⟨b1,b2,t,b4,b5,b6,b7,b8⟩:=B;dsimp only at *;have x:Ix S e item:=⟨b1.1,b1.2,b2.1,b2.2⟩;have H:=G.op hd (x.eb h) (x.ib h) t (dst:=0) (by omega) (q:=q) (by omega) (a:=0) (by omega) Z;have k:=fY h x;by_cases O:(S.aB e).closed=true
  .rw[if_pos O]at k |-
   exact⟨cw (iH ZJ [KcE] [] VZ GB) (ev3 H [rq,rv,ro,ra,rb] [] [] (.d (aC j) .nil)) Uc Kax (kc k kn),.bad G (by decide)⟩
  rw[if_neg O]at k |-;by_cases N:rq-rb<q
  .rw[if_pos N]
   exact⟨cw (iH ZJ [KcE,([([4],1),([14],-1),([18],1)],1,1152921504606846976)] [] VZ GD) (ev3 H [rq,rv,ro,ra,rb] [] [] (.d (aC j) .nil)) Uc KaC (kc k kn),.bad G (by decide)⟩
  rw[if_neg N];by_cases M:0<ro/\ro<q
  .rw[if_pos M]
   exact⟨cw (iH ZJ [KcE,WV,KaD,Df] [] VZ GD) (ev3 H [rq,rv,ro,ra,rb] [] [] (.d (aC j) .nil)) Uc (.bE [Keh,.i 9]) (kc k kn),.bad G (by decide)⟩
  rw[if_neg M];have D:=kL (v:=rv) (q:=q) (n:=rq) ⟨by omega,by omega⟩ ⟨by omega,by omega⟩ ⟨by omega,by omega⟩;have pb:=FU (v:=rv) (q:=q) (n:=rq) (by omega) (by omega) (by omega) (by omega) (by omega);unfold vK;by_cases ho:0<ro
  .rw[if_pos ho]
   have Y:=PB (e:=e) (item:=item) (loc:=loc) (rq:=rq) (rv:=rv) (rb:=rb) (q:=q) (ro:=ro) (ra:=ra) (by omega) (by omega) (by omega) (by omega) (by omega);have db:=R8 (r:=⟨e,item,loc,rq,rv,ro,ra,rb⟩) (q:=q) (by omega) (by dsimp only;omega) (by dsimp only;omega) (by dsimp only;omega);dsimp only at db;generalize wT ⟨e,item,loc,rq,rv,ro,ra,rb⟩ q=d at *;generalize dK rv q rq=L at *;have y:=mO h x (kind:=3) t.1 t.2 (by omega) (q:=q) ⟨by omega,by omega⟩;obtain⟨R,W,vb,ib,J⟩:=iF h x (kind:=3) t.1 t.2 (by omega) (by omega) q;generalize dJ S e item loc 3 q=b at *;obtain⟨S1,⟨xq,xv,xp⟩,z,f⟩:=b;dsimp only at *;have p:=R;by_cases g:f=0;rotate_left
   .rw[if_pos g]
    obtain⟨c,T,rfl⟩:=J g;cases T;have c:=c.symm;subst c;have H:=H.er (f:=f) (by omega);exact⟨cw (iH Zr Je [] VZ KZ) (ev3 H [rq,rv,ro,ra,rb,d] [.I L] [] (.d (aC j) .nil)) Uc Kad (kc k (kc y kn)),.bad G W⟩
   subst g;rw[if_neg (by simp)];clear J;obtain⟨w,rfl⟩:=p.ex;have C:=eH p.ok (p.ix x) (l:=[⟨1,d⟩,⟨6,xv-d⟩,⟨0,-xv⟩]) (vO fmo) (by simp);obtain⟨Q,V,F⟩:=dG p.ok (p.ix x) [⟨1,d⟩,⟨6,xv-d⟩,⟨0,-xv⟩];generalize cZ (S.bM w) e [⟨1,d⟩,⟨6,xv-d⟩,⟨0,-xv⟩]=b at *;obtain⟨S2,f⟩:=b;dsimp only at *;have m:=p.trans Q;by_cases g:f=0;rotate_left
   .rw[if_pos g]
    obtain c:=F g;have c:=c.symm;subst c;have H:=H.er (f:=f) (by omega);exact⟨cw (iH Zh Je [] VZ [GX,Qe,Kbx,UG,(92,QK,Kae)]) (ev3 H [rq,rv,ro,ra,rb,xv,d] [.I xq,.I xp,.bool z,.I L] [aX w] (.d (aC j) .nil)) Uc Kad (kc k (kc y (kc D (kc Y (kc C kn))))),.bad G V⟩
   subst g;rw[if_neg (by simp)];clear F;obtain⟨A,rfl⟩:=m.ex;have K:=fL m.ok (m.ix x) (r:=[0,0,0,0,0,0,0,xv,0,0,0]) rfl;obtain⟨P,U,E⟩:=eI m.ok (m.ix x) (r:=[0,0,0,0,0,0,0,xv,0,0,0]) rfl;generalize dR (S.bM A) e item [0,0,0,0,0,0,0,xv,0,0,0]=b at *;obtain⟨S3,f⟩:=b;dsimp only at *;have u:=m.trans P;by_cases g:f=0;rotate_left
   .rw[if_pos g]
    obtain c:=E g;have c:=c.symm;subst c;have H:=H.er (f:=f) (by omega);exact⟨cw (iH Zh Je [] VZ [GX,Qe,Kbx,UG,Js,JC]) (ev3 H [rq,rv,ro,ra,rb,xv,d] [.I xq,.I xp,.bool z,.I L] [aX w,aX A] (.d (aC j) .nil)) Uc Kad (kc k (kc y (kc D (kc Y (kc C (kc K kn)))))),.bad G U⟩
   subst g;rw[if_neg (by simp)];clear E;obtain⟨X,rfl⟩:=u.ex;rw[Mq];refine⟨cw (iH Zh Je [] VZ [GX,Qe,Kbx,UG,Js,JF]) (ev3 H [rq,rv,ro,ra,rb,xv,d] [.I xq,.I xp,.bool z,.I L] [aX w,aX A,aX X] (.d (aC j) .nil)) Uc (.bE [(.agg [.o 0,.o 1,.q 1 1,.q 1 2,.q 1 3,.q 8 9,(.seq 8 4 [([([6],1)],[.v 0,.v 1,.v 2,.v 14,.v 15,(.e [([4],(-1)),([16],1)]),Kcc,(.e [([4],1),([18],1)])])] []),.q 9 5,.q 6 6,.v 7]),.i 0]) (kc k (kc y (kc D (kc Y (kc C (kc K kn)))))),.ok u ((u.gn G).uS (ajH (x:=⟨e,item,loc,rq,rv,-q+ro,ra-d,q+rb⟩) (by rw[u.len];exact x.en) x.iw (by dsimp only;omega))) rfl rfl rfl rfl rfl rfl⟩
  .rw[if_neg ho]
   generalize dK rv q rq=d at *;have y:=mO h x (kind:=3) t.1 t.2 (by omega) (q:=q) ⟨by omega,by omega⟩;obtain⟨R,W,vb,ib,J⟩:=iF h x (kind:=3) t.1 t.2 (by omega) (by omega) q;generalize dJ S e item loc 3 q=b at *;obtain⟨S1,⟨xq,xv,xp⟩,z,f⟩:=b;dsimp only at *;have p:=R;by_cases g:f=0;rotate_left
   .rw[if_pos g]
    obtain⟨c,T,rfl⟩:=J g;cases T;have c:=c.symm;subst c;have H:=H.er (f:=f) (by omega);exact⟨cw (iH Zr Qh [] VZ KZ) (ev3 H [rq,rv,ro,ra,rb,d] [] [] (.d (aC j) .nil)) Uc Kad (kc k (kc y kn)),.bad G W⟩
   subst g;rw[if_neg (by simp)];clear J;obtain⟨w,rfl⟩:=p.ex;have C:=eH p.ok (p.ix x) (l:=[⟨2,d⟩,⟨6,xv-d⟩,⟨0,-xv⟩]) (vO fmo) (by simp);obtain⟨Q,V,F⟩:=dG p.ok (p.ix x) [⟨2,d⟩,⟨6,xv-d⟩,⟨0,-xv⟩];generalize cZ (S.bM w) e [⟨2,d⟩,⟨6,xv-d⟩,⟨0,-xv⟩]=b at *;obtain⟨S2,f⟩:=b;dsimp only at *;have m:=p.trans Q;by_cases g:f=0;rotate_left
   .rw[if_pos g]
    obtain c:=F g;have c:=c.symm;subst c;have H:=H.er (f:=f) (by omega);exact⟨cw (iH Zh Qh [] VZ [GX,Qe,Kbk,(92,QL,Kae)]) (ev3 H [rq,rv,ro,ra,rb,xv,d] [.I xq,.I xp,.bool z] [aX w] (.d (aC j) .nil)) Uc Kad (kc k (kc y (kc D (kc C kn)))),.bad G V⟩
   subst g;rw[if_neg (by simp)];clear F;obtain⟨A,rfl⟩:=m.ex;have K:=fL m.ok (m.ix x) (r:=[0,0,0,0,0,0,0,xv,0,0,0]) rfl;obtain⟨P,U,E⟩:=eI m.ok (m.ix x) (r:=[0,0,0,0,0,0,0,xv,0,0,0]) rfl;generalize dR (S.bM A) e item [0,0,0,0,0,0,0,xv,0,0,0]=b at *;obtain⟨S3,f⟩:=b;dsimp only at *;have u:=m.trans P;by_cases g:f=0;rotate_left
   .rw[if_pos g]
    obtain c:=E g;have c:=c.symm;subst c;have H:=H.er (f:=f) (by omega);exact⟨cw (iH Zh Qh [] VZ [GX,Qe,Kbk,Jt,JC]) (ev3 H [rq,rv,ro,ra,rb,xv,d] [.I xq,.I xp,.bool z] [aX w,aX A] (.d (aC j) .nil)) Uc Kad (kc k (kc y (kc D (kc C (kc K kn))))),.bad G U⟩
   subst g;rw[if_neg (by simp)];clear E;obtain⟨X,rfl⟩:=u.ex;rw[Mq];refine⟨cw (iH Zh Qh [] VZ [GX,Qe,Kbk,Jt,JF]) (ev3 H [rq,rv,ro,ra,rb,xv,d] [.I xq,.I xp,.bool z] [aX w,aX A,aX X] (.d (aC j) .nil)) Uc (.bE [(.agg [.o 0,.o 1,.q 1 1,.q 1 2,.q 1 3,.q 8 9,(.seq 8 4 [([([6],1)],[.v 0,.v 1,.v 2,.v 14,.v 15,.v 16,.v 17,(.e [([4],1),([18],1)])])] []),.q 9 5,.q 6 6,.v 7]),.i 0]) (kc k (kc y (kc D (kc C (kc K kn))))),.ok u ((u.gn G).uS (ajH (x:=⟨e,item,loc,rq,rv,ro,ra,q+rb⟩) (by rw[u.len];exact x.en) x.iw (by dsimp only;omega))) rfl rfl rfl rfl rfl rfl⟩
def aio (G:Gn S) (X:S.done<=1000000) (x:Ix S e item) (z:0<=loc/\loc<=1) (y:Ix S dst item) (hq:1<=q/\q<=1073741824) (Y:0<=a/\a<=1125899906842624) :
  Ck 142 [S.av,eM 12 e item loc dst q a 0] (.bE [(Ei S e item loc dst q a).1.av,.i (Ei S e item loc dst q a).2])/\oD S (Ei S e item loc dst q a):=by
 have h:=G.toStOk;have H:=G.op X (x.eb h) (x.ib h) z (y.eb h) (q:=q) (by omega) Y (ref:=0) (by omega);unfold Ei;have g:=fY h x;by_cases K:(S.aB e).closed=true
 .rw[if_pos K]at g |-
  exact⟨cw (iH [] [] [] [] GB) (ev3 H [] [] [] .nil) YX Kax (kc g kn),.bad G (by decide)⟩
 rw[if_neg K]at g |-;have j:=fY h y;by_cases J:(S.aB dst).closed=true
 .rw[if_pos J]at j |-
  exact⟨cw (iH [] [] [] [] [GX,(89,[Keh,.v 3,.v 1],(.i 7))]) (ev3 H [] [] [] .nil) YX Kax (kc g (kc j kn)),.bad G (by decide)⟩
 rw[if_neg J]at j |-;by_cases D:S.aG.length=40
 .rw[if_pos D]
  exact⟨cw (iH [] [([([10],1)],40,40)] [] [] [GX,G1]) (ev3 H [] [] [] .nil) YX Kay (kc g (kc j kn)),.bad G (by decide)⟩
 rw[if_neg D];have D:S.aG.length<40:=by have:=G.Fo;omega
 have m:=mO h x (kind:=3) z.1 z.2 (by omega) (q:=q) ⟨by omega,by omega⟩;obtain⟨V,g1,vb,ib,P⟩:=iF h x (kind:=3) z.1 z.2 (by omega) (by omega) q;generalize dJ S e item loc 3 q=b at *;obtain⟨S1,⟨xq,xv,xp⟩,n,f⟩:=b;dsimp only at *;have t:=V;by_cases d:f=0;rotate_left
 .rw[if_pos d]
  obtain⟨c,W,rfl⟩:=P d;cases W;have c:=c.symm;subst c;have H:=H.er (f:=f) (by omega);exact⟨cw (iH [] Keq [] [] [GX,G1,JP]) (ev3 H [] [] [] .nil) YX Kad (kc g (kc j (kc m kn))),.bad G g1⟩
 subst d;rw[if_neg (by simp)];clear P;obtain⟨k,rfl⟩:=t.ex;have w:=eH t.ok (t.ix x) (l:=[⟨13,a⟩,⟨15,-a⟩,⟨16,xv⟩,⟨0,-xv⟩]) (vO fmo) (by simp);obtain⟨U,g2,O⟩:=dG t.ok (t.ix x) [⟨13,a⟩,⟨15,-a⟩,⟨16,xv⟩,⟨0,-xv⟩];generalize cZ (S.bM k) e [⟨13,a⟩,⟨15,-a⟩,⟨16,xv⟩,⟨0,-xv⟩]=b at *;obtain⟨S2,f⟩:=b;dsimp only at *;have s:=t.trans U;by_cases d:f=0;rotate_left
 .rw[if_pos d]
  obtain c:=O d;have c:=c.symm;subst c;have H:=H.er (f:=f) (by omega);exact⟨cw (iH [jB,jB] Keq [] [] [GX,G1,J9,(92,Qv,Kae)]) (ev3 H [xv,xp] [.I xq,.bool n] [aX k] .nil) YX Kad (kc g (kc j (kc m (kc w kn)))),.bad G g2⟩
 subst d;rw[if_neg (by simp)];clear O;obtain⟨u,rfl⟩:=s.ex;have C:=eH s.ok (s.ix y) (l:=[⟨12,a⟩,⟨14,-a⟩]) (vO fmo) (by simp);obtain⟨T,g3,N⟩:=dG s.ok (s.ix y) [⟨12,a⟩,⟨14,-a⟩];generalize cZ (S.bM u) dst [⟨12,a⟩,⟨14,-a⟩]=b at *;obtain⟨S3,f⟩:=b;dsimp only at *;have p:=s.trans T;by_cases d:f=0;rotate_left
 .rw[if_pos d]
  obtain c:=N d;have c:=c.symm;subst c;have H:=H.er (f:=f) (by omega);exact⟨cw (iH [jB,jB] Keq [] [] [GX,G1,J9,Jj,(92,Uy,Kaf)]) (ev3 H [xv,xp] [.I xq,.bool n] [aX k,aX u] .nil) YX Kad (kc g (kc j (kc m (kc w (kc C kn))))),.bad G g3⟩
 subst d;rw[if_neg (by simp)];clear N;obtain⟨B,rfl⟩:=p.ex;have E:=fL p.ok (p.ix x) (r:=[0,0,0,0,0,0,xv,0,0,0,0]) rfl;obtain⟨R,Z,M⟩:=eI p.ok (p.ix x) (r:=[0,0,0,0,0,0,xv,0,0,0,0]) rfl;generalize dR (S.bM B) e item [0,0,0,0,0,0,xv,0,0,0,0]=b at *;obtain⟨S4,f⟩:=b;dsimp only at *;have A:=p.trans R;by_cases d:f=0;rotate_left
 .rw[if_pos d]
  obtain c:=M d;have c:=c.symm;subst c;have H:=H.er (f:=f) (by omega);exact⟨cw (iH [jB,jB] Keq [] [] [GX,G1,J9,Jj,Qp,(124,Zd,Kag)]) (ev3 H [xv,xp] [.I xq,.bool n] [aX k,aX u,aX B] .nil) YX Kad (kc g (kc j (kc m (kc w (kc C (kc E kn)))))),.bad G Z⟩
 subst d;rw[if_neg (by simp)];clear M;obtain⟨L,rfl⟩:=A.ex;by_cases F:-288230376151711744<=a-xv+xp/\a-xv+xp<=288230376151711744;rotate_left
 .rw[if_neg F]
  rcases(by omega:a-xv+xp<=-288230376151711745\/288230376151711745<=a-xv+xp)with Q|Q
  .exact⟨cw (iH [jB,jB] [KeH,(Kb3,-4611686018427387904,-288230376151711745)] [] [] Kb) (ev3 H [xv,xp] [.I xq,.bool n] [aX k,aX u,aX B,aX L] .nil) YX KaE (kc g (kc j (kc m (kc w (kc C (kc E kn)))))),.bad G (by decide)⟩
  .exact⟨cw (iH [jB,jB] [KeH,(Kb3,288230376151711745,4611686018427387904)] [] [] Kb) (ev3 H [xv,xp] [.I xq,.bool n] [aX k,aX u,aX B,aX L] .nil) YX KaE (kc g (kc j (kc m (kc w (kc C (kc E kn)))))),.bad G (by decide)⟩
 rw[if_pos F];rw[aet];refine⟨cw (iH [jB,jB] [KeH,(Kb3,-288230376151711744,288230376151711744)] [] [] Kb) (ev3 H [xv,xp] [.I xq,.bool n] [aX k,aX u,aX B,aX L] .nil) YX (.bE [(.agg [.o 0,.o 1,.q 1 1,.q 1 2,.q 1 3,.q 8 10,.q 8 4,.q 9 5,(.seq 6 6 [] [[.v 0,.v 3,.v 1,.v 4,.v 5,(.e [([5],1),([14],(-1)),([15],1)])]]),.v 7]),.i 0]) (kc g (kc j (kc m (kc w (kc C (kc E kn)))))),.ok A ((A.gn G).tP D (anZ (x:=⟨e,dst,item,q,a,a-xv+xp⟩) (by rw[A.len];exact x.en) (by rw[A.len];exact y.en) x.iw (by dsimp only;omega))) rfl rfl rfl rfl rfl rfl⟩
def Xv (G:Gn S) (P:S.done<=1000000) (t:0<=loc/\loc<=1) (hq:1<=q/\q<=1073741824) (O:0<=ref/\ref<=39) :
  Ck 142 [S.av,eM 13 0 0 loc 0 q 0 ref] (.bE [(rU S loc q ref).1.av,.i (rU S loc q ref).2])/\oD S (rU S loc q ref):=by
 have h:=G.toStOk;unfold rU;cases c:S.aG[ref.toNat]? with
 |none =>
  have H:=G.op P (e:=0) (by omega) (item:=0) (by omega) t (dst:=0) (by omega) (q:=q) (by omega) (a:=0) (by omega) O;have:=a24.1 c;exact⟨cw (iH [] [([([6],1),([10],-1)],0,1152921504606846976)] [] [] []) (ev3 H [] [] [] .nil) YY KaB kn,.bad G (by decide)⟩
 |some s =>
  have V:=a0a c;have B:=G.L7 s V;have:=(a0y.1 c).1;have:=G.Fo;obtain⟨dst,e,item,tq,tv,tp⟩:=s;obtain⟨b1,b2,b3,b4,b5,Z⟩:=B;dsimp only at *;have x:Ix S e item:=⟨b2.1,b2.2,b3.1,b3.2⟩;have:=h.hn;have H:=G.op P (x.eb h) (x.ib h) t (dst:=dst) (by omega) (q:=q) (by omega) (a:=0) (by omega) O;have p:=fY h x;by_cases I:(S.aB e).closed=true
  .rw[if_pos I]at p |-
   exact⟨cw (iH DJ [Kcq] [] HV GB) (ev3 H [tq,tv,tp] [] [] (.d (aT c) .nil)) YY Kax (kc p kn),.bad G (by decide)⟩
  rw[if_neg I]at p |-;by_cases F:tq<q
  .rw[if_pos F]
   exact⟨cw (iH DJ [Kcq,([([4],1),([14],-1)],1,1152921504606846976)] [] HV GD) (ev3 H [tq,tv,tp] [] [] (.d (aT c) .nil)) YY KaC (kc p kn),.bad G (by decide)⟩
  rw[if_neg F];have C:=kL (v:=tv) (q:=q) (n:=tq) ⟨by omega,by omega⟩ ⟨by omega,by omega⟩ ⟨by omega,by omega⟩;have D:=kL (v:=tp) (q:=q) (n:=tq) ⟨by omega,by omega⟩ ⟨by omega,by omega⟩ ⟨by omega,by omega⟩;have vb:=FU (v:=tv) (q:=q) (n:=tq) (by omega) (by omega) (by omega) (by omega) (by omega);obtain⟨c3,c4⟩:=Rm (v:=tp) (q:=q) (n:=tq) (by omega) (by omega) (by omega) Z;unfold yG;generalize dK tv q tq=v at *;generalize dK tp q tq=k at *;have E:=lI h x t.1 t.2 (y:=⟨q,v,k⟩) (show fM [q,v,k]from I9 (by omega) (by omega) (by omega));obtain⟨U,Y,cb,ub,N⟩:=iS h x t.1 t.2 ⟨q,v,k⟩;generalize dW S e item loc ⟨q,v,k⟩=b at *;obtain⟨S1,m,up,f⟩:=b;dsimp only at *;have w:=U;by_cases j:f=0;rotate_left
  .rw[if_pos j]
   obtain⟨g,rfl,rfl⟩:=N j;have g:=g.symm;subst g;have H:=H.er (f:=f) (by omega);exact⟨cw (iH [Ke8,Kef,jB,Kef,jB] UU [] HV [GX,Kbl,Kbm,(145,VX,GQ)]) (ev3 H [tq,tv,tp,v,k] [] [] (.d (aT c) .nil)) YY Kad (kc p (kc C (kc D (kc E kn)))),.bad G Y⟩
  subst j;rw[if_neg (by simp)];clear N;obtain⟨A,rfl⟩:=w.ex;have K:=eH w.ok (w.ix x) (l:=[⟨0,m⟩,⟨6,up⟩,⟨12,-v⟩]) (vO fmo) (by simp);obtain⟨T,X,M⟩:=dG w.ok (w.ix x) [⟨0,m⟩,⟨6,up⟩,⟨12,-v⟩];generalize cZ (S.bM A) e [⟨0,m⟩,⟨6,up⟩,⟨12,-v⟩]=b at *;obtain⟨S2,f⟩:=b;dsimp only at *;have u:=w.trans T;by_cases j:f=0;rotate_left
  .rw[if_pos j]
   obtain g:=M j;have g:=g.symm;subst g;have H:=H.er (f:=f) (by omega);exact⟨cw (iH UH UU [] HV [GX,Kbl,Kbm,Ql,(92,ZE,Kae)]) (ev3 H [tq,tv,tp,v,k,m,up] [] [aX A] (.d (aT c) .nil)) YY Kad (kc p (kc C (kc D (kc E (kc K kn))))),.bad G X⟩
  subst j;rw[if_neg (by simp)];clear M;obtain⟨J,rfl⟩:=u.ex;have Q:=fL u.ok (u.ix x) (r:=[0,0,0,m,0,0,0,0,0,0,0]) rfl;obtain⟨R,W,L⟩:=eI u.ok (u.ix x) (r:=[0,0,0,m,0,0,0,0,0,0,0]) rfl;generalize dR (S.bM J) e item [0,0,0,m,0,0,0,0,0,0,0]=b at *;obtain⟨S3,f⟩:=b;dsimp only at *;have z:=u.trans R;by_cases j:f=0;rotate_left
  .rw[if_pos j]
   obtain g:=L j;have g:=g.symm;subst g;have H:=H.er (f:=f) (by omega);exact⟨cw (iH UH UU [] HV [GX,Kbl,Kbm,Ql,JU,(124,Ze,Kaf)]) (ev3 H [tq,tv,tp,v,k,m,up] [] [aX A,aX J] (.d (aT c) .nil)) YY Kad (kc p (kc C (kc D (kc E (kc K (kc Q kn)))))),.bad G W⟩
  subst j;rw[if_neg (by simp)];clear L;obtain⟨E3,rfl⟩:=z.ex;rw[afY];refine⟨cw (iH UH UU [] HV [GX,Kbl,Kbm,Ql,JU,(124,Ze,KaA)]) (ev3 H [tq,tv,tp,v,k,m,up] [] [aX A,aX J,aX E3] (.d (aT c) .nil)) YY (.bE [(.agg [.o 0,.o 1,.q 1 1,.q 1 2,.q 1 3,.q 8 9,.q 8 4,.q 9 5,(.seq 6 6 [([([6],1)],[.v 3,.v 0,.v 1,(.e [([4],(-1)),([14],1)]),(.e [([15],1),([17],(-1))]),(.e [([16],1),([18],(-1))])])] []),.v 7]),.i 0]) (kc p (kc C (kc D (kc E (kc K (kc Q kn)))))),.ok z ((z.gn G).zF (anZ (x:=⟨dst,e,item,-q+tq,tv-v,tp-k⟩) (by rw[z.len];exact b1) (by rw[z.len];exact x.en) x.iw (by dsimp only;omega))) rfl rfl rfl rfl rfl rfl⟩
def adH (G:Gn S) (hd:S.done<=1000000) (x:Ix S e item) (t:0<=loc/\loc<=1) (hq:0<=q/\q<=1073741824) :
  Ck 140 [S.av,eM 7 e item loc 0 q 0 0] (.bE [(vS S e item loc q).1.av,.i (vS S e item loc q).2])/\oD S (vS S e item loc q):=by
 have h:=G.toStOk;have H:=G.op hd (x.eb h) (x.ib h) t (dst:=0) (by omega) (q:=q) (by omega) (a:=0) (by omega) (ref:=0) (by omega);have W:=h.wx x;generalize S.methods.getD e.toNat []=ms at W;generalize S.bT.getD e.toNat []=cs at W;have:=W.bd;have hm:=h.mb' x;have hc:=h.cb' x;unfold vS;have p:=fY h x;by_cases ad:(S.aB e).closed=true
 .rw[if_pos ad]at p |-
  exact⟨cw (iH [(1,4)] WW KeT GG GB) (ev3 H [(S.cE e item)] [] [aA ms] (.d (aS W.qN) (.d (aI W.hm) .nil))) Ud Kax (kc p kn),.bad G (by decide)⟩
 rw[if_neg ad]at p |-;have C:=h.xV x t.1 t.2;have A:=lV h x t.1 t.2;unfold dE.nY;have w:=ab3 (p0:=((S.aB e).aU (2*item+loc)).p0) (p1:=((S.aB e).aU (2*item+loc)).p1) (p2:=((S.aB e).aU (2*item+loc)).p2) hm C.lr C.pnd;have K:=qG (p0:=((S.aB e).aU (2*item+loc)).p0) (p1:=((S.aB e).aU (2*item+loc)).p1) (p2:=((S.aB e).aU (2*item+loc)).p2) C.lr;have qb:=(fQ C.lr.ok).1;have vb:=(fQ C.lr.ok).2.1
 have af:=C.lr.q;have ae:=C.lr.v;have fb:0<=(if S.cE e item=3 then wS ((S.aB e).aU (2*item+loc)).aN ((S.aB e).aU (2*item+loc)).pn else qs ((S.aB e).aU (2*item+loc)).aN)/\(if S.cE e item=3 then wS ((S.aB e).aU (2*item+loc)).aN ((S.aB e).aU (2*item+loc)).pn else qs ((S.aB e).aU (2*item+loc)).aN)<=288230376151711744:=by
  have:=C.a0;have:=C.b0;have:=C.c0;have:=C.sum;split
  .unfold wS;omega
  .omega
 rw[show(⟨((S.aB e).aU (2*item+loc)).p0,((S.aB e).aU (2*item+loc)).p1,((S.aB e).aU (2*item+loc)).p2⟩:uH)=((S.aB e).aU (2*item+loc)).pn from rfl]at w;generalize (if S.cE e item=3 then wS ((S.aB e).aU (2*item+loc)).aN ((S.aB e).aU (2*item+loc)).pn else qs ((S.aB e).aU (2*item+loc)).aN)=fr at *;clear C;generalize (S.aB e).aU (2*item+loc)=P at *;obtain⟨L,p0,p1,p2⟩:=P;dsimp only at *;by_cases ac:q-fr=0
 .rw[if_pos ac]
  exact⟨cw (iH [(1,4),KdO] [KcC,KcF,(Ker,0,0)] KeT GG [GX,UI,Hv]) (ev3 H [(S.cE e item),fr] [.I p0,.I p1,.I p2] [aA ms,aM L] (.d (aS W.qN) (.d (aI W.hm) .nil))) Ud (.bE [Keh,.i 0]) (kc p (kc A (kc w kn))),.ok (Kn.refl h) G rfl rfl rfl rfl rfl rfl⟩
 rw[if_neg ac];by_cases ab:q-fr<0
 .rw[if_pos ab]
  unfold IU;have B:=mO h x (kind:=2) t.1 t.2 (by omega) (q:=-q+fr) ⟨by omega,by omega⟩;obtain⟨V,Z,vb,ib,O⟩:=iF h x (kind:=2) t.1 t.2 (by omega) (by omega) (-q+fr);generalize dJ S e item loc 2 (-q+fr)=b at *;obtain⟨S1,⟨xq,xv,xp⟩,wt,f⟩:=b;dsimp only at *;have n:=V;by_cases g:f=0;rotate_left
  .rw[if_pos g]
   obtain⟨j,hx,rfl⟩:=O g;cases hx;have j:=j.symm;subst j;have H:=H.er (f:=f) (by omega);exact⟨cw (iH [(1,4),KdO] Q0 KeT GG [GX,UI,Hv,(217,Vs,YG)]) (ev3 H [(S.cE e item),fr] [.I p0,.I p1,.I p2] [aA ms,aM L] (.d (aS W.qN) (.d (aI W.hm) .nil))) Ud Kad (kc p (kc A (kc w (kc B kn)))),.bad G Z⟩
  subst g;rw[if_neg (by simp)];clear O;obtain⟨z,rfl⟩:=n.ex;have F:=eH n.ok (n.ix x) (l:=[⟨8,xv⟩,⟨0,-xv⟩]) (vO fmo) (by simp);obtain⟨U,Y,N⟩:=dG n.ok (n.ix x) [⟨8,xv⟩,⟨0,-xv⟩];generalize cZ (S.bM z) e [⟨8,xv⟩,⟨0,-xv⟩]=b at *;obtain⟨S2,f⟩:=b;dsimp only at *;have m:=n.trans U;by_cases g:f=0;rotate_left
  .rw[if_pos g]
   obtain j:=N g;have j:=j.symm;subst j;have H:=H.er (f:=f) (by omega);exact⟨cw (iH KaF Q0 KeT GG [GX,UJ,Hw,JG,(92,Uz,Kag)]) (ev3 H [(S.cE e item),fr,xv] [.I xq,.I xp,.bool wt,.I p0,.I p1,.I p2] [aA ms,aM L,aX z] (.d (aS W.qN) (.d (aI W.hm) .nil))) Ud Kad (kc p (kc A (kc w (kc B (kc F kn))))),.bad G Y⟩
  subst g;rw[if_neg (by simp)];clear N;obtain⟨E,rfl⟩:=m.ex;have R:=fL m.ok (m.ix x) (r:=[0,0,0,0,0,0,0,0,0,xv,0]) rfl;obtain⟨T,X,M⟩:=eI m.ok (m.ix x) (r:=[0,0,0,0,0,0,0,0,0,xv,0]) rfl;generalize dR (S.bM E) e item [0,0,0,0,0,0,0,0,0,xv,0]=b at *;obtain⟨S3,f⟩:=b;dsimp only at *;have D:=m.trans T;by_cases g:f=0;rotate_left
  .rw[if_pos g]
   obtain j:=M g;have j:=j.symm;subst j;have H:=H.er (f:=f) (by omega);exact⟨cw (iH KaF Q0 KeT GG [GX,UJ,Hw,JG,Qm,(124,Q3,BS)]) (ev3 H [(S.cE e item),fr,xv] [.I xq,.I xp,.bool wt,.I p0,.I p1,.I p2] [aA ms,aM L,aX z,aX E] (.d (aS W.qN) (.d (aI W.hm) .nil))) Ud Kad (kc p (kc A (kc w (kc B (kc F (kc R kn)))))),.bad G X⟩
  subst g;rw[if_neg (by simp)];clear M;obtain⟨E3,rfl⟩:=D.ex;refine⟨cw (iH KaF Q0 KeT GG [GX,UJ,Hw,JG,Qm,(124,Q3,Kak)]) (ev3 H [(S.cE e item),fr,xv] [.I xq,.I xp,.bool wt,.I p0,.I p1,.I p2] [aA ms,aM L,aX z,aX E,aX E3] (.d (aS W.qN) (.d (aI W.hm) .nil))) Ud Kak (kc p (kc A (kc w (kc B (kc F (kc R kn)))))),.ok D (D.gn G) rfl rfl rfl rfl rfl rfl⟩
 rw[if_neg ab];generalize qs L=s at *;generalize vs L=u at *;generalize ps L=J at *;unfold Ce;by_cases aa:S.cE e item=4
 .rw[if_pos aa]
  have Q:=oZ (a:=q-fr) (b:=S.cost e item) (c:=1) ⟨by omega,by omega⟩ ⟨by omega,by omega⟩ ⟨by omega,by omega⟩;have mb:=RK (a:=q-fr) (b:=S.cost e item) (c:=1) (by omega) hc.1;have hf:=ahy (q-fr) (S.cost e item) 1;generalize xD (q-fr) (S.cost e item) 1=v at *;generalize mdR (q-fr) (S.cost e item) 1=r at *;generalize Lo (q-fr) (S.cost e item) 1=f at *;by_cases g:f=0;rotate_left
  .rw[if_pos g]
   have H:=H.er (f:=f) (by omega);exact⟨cw (iH Qt Qu Kby Zt [GX,UK,Hx,VL,(148,BJ,(.bE [.v 19,.o 3,.v 13]))]) (ev3 H [(S.cE e item),fr,s,u,(S.cost e item),v] [.I J,.I r,.I p0,.I p1,.I p2] [aA ms,aA cs,aM L] (.d (aS W.qN) (.d (aI W.hm) (.d (aS W.CU) (.d (aI W.hc) .nil))))) Ud Kad (kc p (kc A (kc w (kc K (kc Q kn))))),.bad G hf⟩
  subst g;rw[if_neg (by simp)];have B:=lI h x t.1 t.2 (y:=⟨q-fr,v,0⟩) (show fM [q-fr,v,0]from I9 (by omega) (by omega) (by omega));obtain⟨V,Z,cb,ub,O⟩:=iS h x t.1 t.2 ⟨q-fr,v,0⟩;generalize dW S e item loc ⟨q-fr,v,0⟩=b at *;obtain⟨S1,k,up,f⟩:=b;dsimp only at *;have n:=V;by_cases g:f=0;rotate_left
  .rw[if_pos g]
   obtain⟨j,rfl,rfl⟩:=O g;have j:=j.symm;subst j;have H:=H.er (f:=f) (by omega);exact⟨cw (iH Qt Qu Kby Zt [GX,UK,Hx,VL,Vm,(145,Yb,GQ)]) (ev3 H [(S.cE e item),fr,s,u,(S.cost e item),v] [.I J,.I r,.I p0,.I p1,.I p2] [aA ms,aA cs,aM L] (.d (aS W.qN) (.d (aI W.hm) (.d (aS W.CU) (.d (aI W.hc) .nil))))) Ud Kad (kc p (kc A (kc w (kc K (kc Q (kc B kn)))))),.bad G Z⟩
  subst g;rw[if_neg (by simp)];clear O;obtain⟨z,rfl⟩:=n.ex;have F:=eH n.ok (n.ix x) (l:=[⟨0,k⟩,⟨6,up⟩,⟨8,-v⟩]) (vO fmo) (by simp);obtain⟨U,Y,N⟩:=dG n.ok (n.ix x) [⟨0,k⟩,⟨6,up⟩,⟨8,-v⟩];generalize cZ (S.bM z) e [⟨0,k⟩,⟨6,up⟩,⟨8,-v⟩]=b at *;obtain⟨S2,f⟩:=b;dsimp only at *;have m:=n.trans U;by_cases g:f=0;rotate_left
  .rw[if_pos g]
   obtain j:=N g;have j:=j.symm;subst j;have H:=H.er (f:=f) (by omega);exact⟨cw (iH J5 Qu Kby Zt [GX,UK,Hx,VL,Vm,JI,(92,ZF,BS)]) (ev3 H [(S.cE e item),fr,s,u,(S.cost e item),v,k,up] [.I J,.I r,.I p0,.I p1,.I p2] [aA ms,aA cs,aM L,aX z] (.d (aS W.qN) (.d (aI W.hm) (.d (aS W.CU) (.d (aI W.hc) .nil))))) Ud Kad (kc p (kc A (kc w (kc K (kc Q (kc B (kc F kn))))))),.bad G Y⟩
  subst g;rw[if_neg (by simp)];clear N;obtain⟨E,rfl⟩:=m.ex;have R:=fL m.ok (m.ix x) (r:=[0,0,0,0,0,0,0,0,0,-k,0]) rfl;obtain⟨T,X,M⟩:=eI m.ok (m.ix x) (r:=[0,0,0,0,0,0,0,0,0,-k,0]) rfl;generalize dR (S.bM E) e item [0,0,0,0,0,0,0,0,0,-k,0]=b at *;obtain⟨S3,f⟩:=b;dsimp only at *;have D:=m.trans T;by_cases g:f=0;rotate_left
  .rw[if_pos g]
   obtain j:=M g;have j:=j.symm;subst j;have H:=H.er (f:=f) (by omega);exact⟨cw (iH J5 Qu Kby Zt [GX,UK,Hx,VL,Vm,JI,JS,(124,QH,BT)]) (ev3 H [(S.cE e item),fr,s,u,(S.cost e item),v,k,up] [.I J,.I r,.I p0,.I p1,.I p2] [aA ms,aA cs,aM L,aX z,aX E] (.d (aS W.qN) (.d (aI W.hm) (.d (aS W.CU) (.d (aI W.hc) .nil))))) Ud Kad (kc p (kc A (kc w (kc K (kc Q (kc B (kc F (kc R kn)))))))),.bad G X⟩
  subst g;rw[if_neg (by simp)];clear M;obtain⟨E3,rfl⟩:=D.ex;refine⟨cw (iH J5 Qu Kby Zt [GX,UK,Hx,VL,Vm,JI,JS,(124,QH,Kal)]) (ev3 H [(S.cE e item),fr,s,u,(S.cost e item),v,k,up] [.I J,.I r,.I p0,.I p1,.I p2] [aA ms,aA cs,aM L,aX z,aX E,aX E3] (.d (aS W.qN) (.d (aI W.hm) (.d (aS W.CU) (.d (aI W.hc) .nil))))) Ud Kal (kc p (kc A (kc w (kc K (kc Q (kc B (kc F (kc R kn)))))))),.ok D (D.gn G) rfl rfl rfl rfl rfl rfl⟩
 rw[if_neg aa];by_cases hh:0<s
 .rw[if_pos hh]
  have Q:=oZ (a:=u) (b:=q-fr) (c:=s) ⟨by omega,by omega⟩ ⟨by omega,by omega⟩ ⟨by omega,by omega⟩;have mb:=RK (a:=u) (b:=q-fr) (c:=s) (by omega) (by omega);have hf:=ahy u (q-fr) s;generalize xD u (q-fr) s=v at *;generalize mdR u (q-fr) s=r at *;generalize Lo u (q-fr) s=f at *;by_cases g:f=0;rotate_left
  .rw[if_pos g]
   have H:=H.er (f:=f) (by omega);exact⟨cw (iH Q1 Jr KeT GG [GX,UL,Hy,VM,(148,Bs,(.bE [.v 18,.o 3,.v 13]))]) (ev3 H [(S.cE e item),fr,s,u,v] [.I J,.I r,.I p0,.I p1,.I p2] [aA ms,aM L] (.d (aS W.qN) (.d (aI W.hm) .nil))) Ud Kad (kc p (kc A (kc w (kc K (kc Q kn))))),.bad G hf⟩
  subst g;rw[if_neg (by simp)];have B:=lI h x t.1 t.2 (y:=⟨q-fr,v,0⟩) (show fM [q-fr,v,0]from I9 (by omega) (by omega) (by omega));obtain⟨V,Z,cb,ub,O⟩:=iS h x t.1 t.2 ⟨q-fr,v,0⟩;generalize dW S e item loc ⟨q-fr,v,0⟩=b at *;obtain⟨S1,k,up,f⟩:=b;dsimp only at *;have n:=V;by_cases g:f=0;rotate_left
  .rw[if_pos g]
   obtain⟨j,rfl,rfl⟩:=O g;have j:=j.symm;subst j;have H:=H.er (f:=f) (by omega);exact⟨cw (iH Q1 Jr KeT GG [GX,UL,Hy,VM,Vi,(145,Yc,GQ)]) (ev3 H [(S.cE e item),fr,s,u,v] [.I J,.I r,.I p0,.I p1,.I p2] [aA ms,aM L] (.d (aS W.qN) (.d (aI W.hm) .nil))) Ud Kad (kc p (kc A (kc w (kc K (kc Q (kc B kn)))))),.bad G Z⟩
  subst g;rw[if_neg (by simp)];clear O;obtain⟨z,rfl⟩:=n.ex;have F:=eH n.ok (n.ix x) (l:=[⟨0,k⟩,⟨6,up⟩,⟨8,-v⟩]) (vO fmo) (by simp);obtain⟨U,Y,N⟩:=dG n.ok (n.ix x) [⟨0,k⟩,⟨6,up⟩,⟨8,-v⟩];generalize cZ (S.bM z) e [⟨0,k⟩,⟨6,up⟩,⟨8,-v⟩]=b at *;obtain⟨S2,f⟩:=b;dsimp only at *;have m:=n.trans U;by_cases g:f=0;rotate_left
  .rw[if_pos g]
   obtain j:=N g;have j:=j.symm;subst j;have H:=H.er (f:=f) (by omega);exact⟨cw (iH QP Jr KeT GG [GX,UL,Hy,VM,Vi,JJ,(92,ZK,Kag)]) (ev3 H [(S.cE e item),fr,s,u,v,k,up] [.I J,.I r,.I p0,.I p1,.I p2] [aA ms,aM L,aX z] (.d (aS W.qN) (.d (aI W.hm) .nil))) Ud Kad (kc p (kc A (kc w (kc K (kc Q (kc B (kc F kn))))))),.bad G Y⟩
  subst g;rw[if_neg (by simp)];clear N;obtain⟨E,rfl⟩:=m.ex;have R:=fL m.ok (m.ix x) (r:=[0,0,0,0,0,0,0,0,0,-k,0]) rfl;obtain⟨T,X,M⟩:=eI m.ok (m.ix x) (r:=[0,0,0,0,0,0,0,0,0,-k,0]) rfl;generalize dR (S.bM E) e item [0,0,0,0,0,0,0,0,0,-k,0]=b at *;obtain⟨S3,f⟩:=b;dsimp only at *;have D:=m.trans T;by_cases g:f=0;rotate_left
  .rw[if_pos g]
   obtain j:=M g;have j:=j.symm;subst j;have H:=H.er (f:=f) (by omega);exact⟨cw (iH QP Jr KeT GG [GX,UL,Hy,VM,Vi,JJ,JV,(124,QI,BS)]) (ev3 H [(S.cE e item),fr,s,u,v,k,up] [.I J,.I r,.I p0,.I p1,.I p2] [aA ms,aM L,aX z,aX E] (.d (aS W.qN) (.d (aI W.hm) .nil))) Ud Kad (kc p (kc A (kc w (kc K (kc Q (kc B (kc F (kc R kn)))))))),.bad G X⟩
  subst g;rw[if_neg (by simp)];clear M;obtain⟨E3,rfl⟩:=D.ex;refine⟨cw (iH QP Jr KeT GG [GX,UL,Hy,VM,Vi,JJ,JV,(124,QI,Kak)]) (ev3 H [(S.cE e item),fr,s,u,v,k,up] [.I J,.I r,.I p0,.I p1,.I p2] [aA ms,aM L,aX z,aX E,aX E3] (.d (aS W.qN) (.d (aI W.hm) .nil))) Ud Kak (kc p (kc A (kc w (kc K (kc Q (kc B (kc F (kc R kn)))))))),.ok D (D.gn G) rfl rfl rfl rfl rfl rfl⟩
 rw[if_neg hh,if_neg (by simp)];simp only[Int.neg_zero];have B:=lI h x t.1 t.2 (y:=⟨q-fr,0,0⟩) (show fM [q-fr,0,0]from I9 (by omega) (by omega) (by omega));obtain⟨V,Z,cb,ub,O⟩:=iS h x t.1 t.2 ⟨q-fr,0,0⟩;generalize dW S e item loc ⟨q-fr,0,0⟩=b at *;obtain⟨S1,k,up,f⟩:=b;dsimp only at *;have n:=V;by_cases g:f=0;rotate_left
 .rw[if_pos g]
  obtain⟨j,rfl,rfl⟩:=O g;have j:=j.symm;subst j;have H:=H.er (f:=f) (by omega);exact⟨cw (iH [(1,4),KdO,KdO,KdO] Jq KeT GG [GX,UM,Hz,VN,(145,Yg,GQ)]) (ev3 H [(S.cE e item),fr,s,u] [.I J,.I p0,.I p1,.I p2] [aA ms,aM L] (.d (aS W.qN) (.d (aI W.hm) .nil))) Ud Kad (kc p (kc A (kc w (kc K (kc B kn))))),.bad G Z⟩
 subst g;rw[if_neg (by simp)];clear O;obtain⟨z,rfl⟩:=n.ex;have F:=eH n.ok (n.ix x) (l:=[⟨0,k⟩,⟨6,up⟩,⟨8,0⟩]) (vO fmo) (by simp);obtain⟨U,Y,N⟩:=dG n.ok (n.ix x) [⟨0,k⟩,⟨6,up⟩,⟨8,0⟩];generalize cZ (S.bM z) e [⟨0,k⟩,⟨6,up⟩,⟨8,0⟩]=b at *;obtain⟨S2,f⟩:=b;dsimp only at *;have m:=n.trans U;by_cases g:f=0;rotate_left
 .rw[if_pos g]
  obtain j:=N g;have j:=j.symm;subst j;have H:=H.er (f:=f) (by omega);exact⟨cw (iH Z2 Jq KeT GG [GX,UM,Hz,VN,JM,(92,Ue,Kag)]) (ev3 H [(S.cE e item),fr,s,u,k,up] [.I J,.I p0,.I p1,.I p2] [aA ms,aM L,aX z] (.d (aS W.qN) (.d (aI W.hm) .nil))) Ud Kad (kc p (kc A (kc w (kc K (kc B (kc F kn)))))),.bad G Y⟩
 subst g;rw[if_neg (by simp)];clear N;obtain⟨E,rfl⟩:=m.ex;have R:=fL m.ok (m.ix x) (r:=[0,0,0,0,0,0,0,0,0,-k,0]) rfl;obtain⟨T,X,M⟩:=eI m.ok (m.ix x) (r:=[0,0,0,0,0,0,0,0,0,-k,0]) rfl;generalize dR (S.bM E) e item [0,0,0,0,0,0,0,0,0,-k,0]=b at *;obtain⟨S3,f⟩:=b;dsimp only at *;have D:=m.trans T;by_cases g:f=0;rotate_left
 .rw[if_pos g]
  obtain j:=M g;have j:=j.symm;subst j;have H:=H.er (f:=f) (by omega);exact⟨cw (iH Z2 Jq KeT GG [GX,UM,Hz,VN,JM,Qi,(124,QJ,BS)]) (ev3 H [(S.cE e item),fr,s,u,k,up] [.I J,.I p0,.I p1,.I p2] [aA ms,aM L,aX z,aX E] (.d (aS W.qN) (.d (aI W.hm) .nil))) Ud Kad (kc p (kc A (kc w (kc K (kc B (kc F (kc R kn))))))),.bad G X⟩
 subst g;rw[if_neg (by simp)];clear M;obtain⟨E3,rfl⟩:=D.ex;refine⟨cw (iH Z2 Jq KeT GG [GX,UM,Hz,VN,JM,Qi,(124,QJ,Kak)]) (ev3 H [(S.cE e item),fr,s,u,k,up] [.I J,.I p0,.I p1,.I p2] [aA ms,aM L,aX z,aX E,aX E3] (.d (aS W.qN) (.d (aI W.hm) .nil))) Ud Kak (kc p (kc A (kc w (kc K (kc B (kc F (kc R kn))))))),.ok D (D.gn G) rfl rfl rfl rfl rfl rfl⟩
def adG (G:Gn S) (x:Ix S e item) (j:0<=a/\a<=1125899906842624) :
  Ck 143 [S.av,eM 10 e item 0 0 0 a 0] (.bE [(vM S e item a).1.av,.i (vM S e item a).2])/\oD S (vM S e item a):=by
 have h:=G.toStOk;have H:=h.wx x;have:=H.bd;have E:=h.mQ x;have n:=E.bl;have l:=E.pr;have m:=E.dl
 have f:=fY h x;have k:=Tp h x j;have g:(S.aZ e ((S.aB e).sV item a)).av=S.setRow e (zW (S.aB e).now (S.aB e).closed (bS (S.aB e).bK) (aA (S.aB e).cN) (bN (S.aB e).aJ) ((aA (S.aB e).bD).set item.toNat [.i a]) (aA (S.aB e).down) (bX (S.aB e).ahead)):=by
  rw[bF.nV,show(aA (S.aB e).bD).set item.toNat [.i a]=aA ((S.aB e).bD.set item.toNat a)by simp[aA,a09]];rfl
 obtain⟨c,b⟩:∃c,(S.aB e).bD[item.toNat]?=some c:=⟨_,getD_some (d:=0) (by have:=x.i0;have:=x.i1;omega)⟩;unfold vM;generalize (S.aB e).closed=cl at *;cases cl with
 |true =>
  rw[if_pos rfl]at f |-;exact⟨cw (EV (.o 4) [Kef] [] GP [(10,[([2],1)],[.o 5])] [] [] [(89,Kbj,(.i 7))]) (ev2 H [a] [.I c] [] (.d (aI b) .nil)) YZ KaG (kc f kn),.bad G (by decide)⟩
 |false =>
  rw[if_neg (by simp)]at f |-;dsimp only;rw[g];exact⟨cw (EV (.o 4) [Kef] [] GP [(10,[([2],1)],[.o 5])] [] [] [(89,Kbj,(.i 0))]) (ev2 H [a] [.I c] [] (.d (aI b) .nil)) YZ (.bE [(sN (.seq 8 0 [([([0],1)],[.o 3,.o 4,.q 4 7,.q 1 8,.q 11 9,(.seq 1 10 [([([2],1)],[.v 6])] []),.q 1 11,.q 8 12])] []) (.o 2)),.i 0]) (kc f kn),.ok k (k.gn G) rfl rfl rfl rfl rfl rfl⟩
end
end
section
open Mc
def Ci {L:List bP} {a:Int} (h:LR L) (u:0<=a/\a<=1073741824):Ck 222 [.lit 3 (aM L),.i a] (.bE [.lit 3 (aM (yW L a).1),.i (yW L a).2.1,.i (yW L a).2.2]):=by
 have z:=h.len;have s:=fQ h.ok;have:=h.q;have:=h.v;have:=h.p;have y:=Ew L;unfold yW;by_cases m:L.length=0
 .rw[if_pos m];exact cw _ (ev1 { vars:=[(0,0),Ke8],lens:=KeY } [(L.length:Int),a] [] [aM L] .nil) Kff (.bE [.q 3 0,.i 0,.i 0]) kn
 rw[if_neg m];have d:=mP (CW fun x n=>Ph (h.ok x n));rw[h.uL.1,h.uL.2]at d;have l:=oZ (a:=qs L) (b:=a) (c:=1) ⟨by omega,by omega⟩ ⟨by omega,by omega⟩ ⟨by omega,by omega⟩;have w:=RK (a:=qs L) (b:=a) (c:=1) s.1 u.1
 have t:Lo (qs L) a 1=0\/Lo (qs L) a 1=2:=by
  unfold Lo;rw[if_neg (by omega)];split<;>simp
 generalize xD (qs L) a 1=v at *;generalize mdR (qs L) a 1=r at *;generalize Lo (qs L) a 1=f at *;generalize qs L=k at *;generalize vs L=j at *;generalize ps L=g at *;rcases t with rfl|rfl
 .rw[if_neg (by simp)];exact cw _ (ev1 { vars:=Vj,lens:=KeY,bQ:=[HA,(148,[.o 0,.v 1,.i 1],(.bE [.v 3,.o 2,.i 0]))] } [(L.length:Int),a,j,v] [.I k,.I g,.I r] [aM L] .nil) Kff (.bE [(.lit 3 [[.o 0,.v 3,.o 1]]),(.e [([2],(-1)),([3],1)]),.i 0]) (kc d (kc l kn))
 .rw[if_pos (by simp)];exact cw _ (ev1 { vars:=Vj,lens:=KeY,bQ:=[HA,(148,[.o 0,.v 1,.i 1],(.bE [.v 3,.o 2,.i 2]))] } [(L.length:Int),a,j,v] [.I k,.I g,.I r] [aM L] .nil) Kff (.bE [.q 3 0,.i 0,.i 2]) (kc d (kc l kn))
def aiv (C:List (List Int)) (cs:List Int) (e item a:Int):aW (C.set e.toNat (cs.set item.toNat a))=(aW C).set e.toNat [.lit 1 ((aA cs).set item.toNat [.i a])]:=by
 simp[aW,aA,a09]
def StOk.dH {S:bF} (h:StOk S) {e item a:Int} (x:Ix S e item) (i:0<=a/\a<=1073741824):StOk (S.dH (S.bT.set e.toNat ((S.bT.getD e.toNat []).set item.toNat a))):=by
 have g:e.toNat<S.bT.length:=by rw[h.ET];have:=x.e0;have:=x.e1;omega
 have f:=dA (d:=[]) g;refine⟨h.hn,h.hw,h.Nd,by show(S.bT.set _ _).length=_;simp;exact h.ET,h.AP,fun r b=>?_,h.mb,fun r b=>?_,h.aB,h.ahead⟩
 .rcases a08 b with b|rfl
  .exact h.lS r b
  .simp;exact h.lS _ f
 .rcases a08 b with b|rfl
  .exact h.cb r b
  .intro v c
   rcases a08 c with c|rfl
   .exact h.cb _ f v c
   .exact i
section
variable {S:bF} {e item a:Int}
def Ps (G:Gn S) (hd:S.done<=1000000) (x:Ix S e item) (Y:0<=a/\a<=1073741824) :
  Ck 140 [S.av,eM 9 e item 0 0 0 a 0] (.bE [(oJ S e item a).1.av,.i (oJ S e item a).2])/\oD S (oJ S e item a):=by
 have h:=G.toStOk;have H:=G.op hd (x.eb h) (x.ib h) (loc:=0) (by omega) (dst:=0) (by omega) (q:=0) (by omega) (a:=a) (by omega) (ref:=0) (by omega);have W:=h.wx x;have ag:=h.mb' x;have D:(0:Int)<=0/\(0:Int)<=1:=by omega
 have J:(0:Int)<=1/\(1:Int)<=1:=by omega
 have hw:=h.dH (a:=a) x Y;unfold oJ;have ad:=aiv S.bT (S.bT.getD e.toNat []) e item a;generalize hC:S.bT.set e.toNat ((S.bT.getD e.toNat []).set item.toNat a)=n at *;generalize S.methods.getD e.toNat []=ms at W;generalize S.bT.getD e.toNat []=cs at W ad;have:=W.bd;have A:=fY h x;by_cases ab:(S.aB e).closed=true
 .rw[if_pos ab]at A |-
  exact⟨cw (iH [(1,4)] WW KeT GG GB) (ev3 H [(S.cE e item)] [] [aA ms] (.d (aS W.qN) (.d (aI W.hm) .nil))) Uf Kax (kc A kn),.bad G (by decide)⟩
 rw[if_neg ab]at A |-;by_cases z:S.cE e item=4;rotate_left
 .rw[if_pos z]
  exact⟨cw (iH [(1,4)] [KcC,KcF,KeV] KeT GG GD) (ev3 H [(S.cE e item)] [] [aA ms] (.d (aS W.qN) (.d (aI W.hm) .nil))) Uf (.bE [Keh,.i 12]) (kc A kn),.bad G (by decide)⟩
 rw[if_neg (by simp[z])];have L:=lV h x D.1 D.2;have p0:=h.xV x D.1 D.2;rw[z]at p0;have s:=Ci p0.lr Y;obtain⟨y,c,f,Q⟩:∃M t f,yW ((S.aB e).aU (2*item+0)).aN a=(M,t,f):=⟨_,_,_,rfl⟩;have q0:=xP p0 Y.1 Q;rw[Q]at s |-;have f0:=q0.2.2;have K:=sL h x D.1 D.2 { (S.aB e).aU (2*item+0)with aN:=y };have C:=gH h x D.1 D.2 (p:={ (S.aB e).aU (2*item+0)with aN:=y }) (by rw[z];exact q0.1);dsimp only at s |-;by_cases m:f=0;rotate_left
 .rw[if_pos m]
  have H:=H.er (f:=f) (by omega);clear K C q0 p0 Q;generalize (S.aB e).aU (2*item+0)=P at *;obtain⟨L0,X,V,U⟩:=P;obtain⟨t,aa⟩:∃t,t=c:=⟨_,rfl⟩;rw[<-aa]at s;exact⟨cw (iH [(1,4)] Ve KeT GG [GX,UN,(222,[.q 3 8,.v 5],(.bE [.q 3 9,.o 5,.v 13]))]) (ev3 H [(S.cE e item)] [.I X,.I V,.I U,.I t] [aA ms,aM L0,aM y] (.d (aS W.qN) (.d (aI W.hm) .nil))) Uf Kad (kc A (kc L (kc s kn))),.bad G (by unfold gY;omega)⟩
 subst m;rw[if_neg (by simp)];rw[show S.hZ e (2*item+0) y=S.aZ e ((S.aB e).bR (2*item+0) { (S.aB e).aU (2*item+0)with aN:=y })from rfl];generalize S.aZ e ((S.aB e).bR (2*item+0) { (S.aB e).aU (2*item+0)with aN:=y })=S1 at *;obtain⟨j,rfl⟩:=C.ex;clear Q p0;generalize (S.aB e).aU (2*item+0)=P at *;obtain⟨L0,X,V,U⟩:=P;dsimp only at *;have x1:=C.ix x;have T:=lV C.ok x1 J.1 J.2;have p1:=C.ok.xV x1 J.1 J.2;rw[show(S.bM j).cE e item=S.cE e item from rfl,z]at p1;have w:=Ci p1.lr Y;obtain⟨B,k,f,O⟩:∃M t f,yW (((S.bM j).aB e).aU (2*item+1)).aN a=(M,t,f):=⟨_,_,_,rfl⟩;have q1:=xP p1 Y.1 O;rw[O]at w |-;have f1:=q1.2.2;have R:=sL C.ok x1 J.1 J.2 { ((S.bM j).aB e).aU (2*item+1)with aN:=B };have k2:=gH C.ok x1 J.1 J.2 (p:={ ((S.bM j).aB e).aU (2*item+1)with aN:=B }) (by rw[show(S.bM j).cE e item=S.cE e item from rfl,z];exact q1.1);dsimp only at w |-;by_cases m:f=0;rotate_left
 .rw[if_pos m]
  have H:=H.er (f:=f) (by omega);clear R k2 p1 O;generalize ((S.bM j).aB e).aU (2*item+1)=P at *;obtain⟨L1,u1,y1,Z⟩:=P;obtain⟨t,aa⟩:∃t,t=k:=⟨_,rfl⟩;rw[<-aa]at w;exact⟨cw (iH [(1,4),DZ] Ve KeT GG [GX,UN,GH,Zi,Ug,(222,[.q 3 11,.v 5],(.bE [.q 3 12,.o 8,.v 13]))]) (ev3 H [(S.cE e item),c] [.I X,.I V,.I U,.I u1,.I y1,.I Z,.I t] [aA ms,aM L0,aM y,aX j,aM L1,aM B] (.d (aS W.qN) (.d (aI W.hm) .nil))) Uf Kad (kc A (kc L (kc s (kc K (kc T (kc w kn)))))),.bad G (by unfold gY;omega)⟩
 subst m;rw[if_neg (by simp)];rw[show(S.bM j).hZ e (2*item+1) B=(S.bM j).aZ e (((S.bM j).aB e).bR (2*item+1) { ((S.bM j).aB e).aU (2*item+1)with aN:=B })from rfl];generalize (S.bM j).aZ e (((S.bM j).aB e).bR (2*item+1) { ((S.bM j).aB e).aU (2*item+1)with aN:=B })=S2 at *;have K2:=C.trans k2;obtain⟨u,rfl⟩:=K2.ex;clear O p1;generalize ((S.bM j).aB e).aU (2*item+1)=P at *;obtain⟨L1,u1,y1,Z⟩:=P;dsimp only at *
 have x2:=K2.ix x;have h3:StOk ((S.bM u).dH n):=by
  have g:=K2.ok.dH (a:=a) x2 Y;rw[show(S.bM u).bT=S.bT from rfl,hC]at g;exact g
 have x3:Ix ((S.bM u).dH n) e item:=⟨x2.e0,x2.e1,x2.i0,x2.i1⟩;have N:=eH h3 x3 (l:=[⟨0,c+k⟩,⟨6,-c-k⟩]) (vO fmo) (by simp);obtain⟨k4,g4,z4⟩:=dG h3 x3 [⟨0,c+k⟩,⟨6,-c-k⟩]
 have G3:Gn ((S.bM u).dH n):=by
  have g:=K2.gn G;exact⟨h3,g.NY,g.N9,g.Fo,g.Eu,g.C7,g.L7,g.d0,g.al,g.pb⟩
 generalize cZ ((S.bM u).dH n) e [⟨0,c+k⟩,⟨6,-c-k⟩]=b at *;obtain⟨S4,f⟩:=b;dsimp only at *;have ac:∀E,((S.bM E).dH n).av=.agg [.i S.bJ,.i S.bH,.lit 1 (aA S.weights),.lit 1 (aW S.methods),.lit 1 ((aW S.bT).set e.toNat [.lit 1 ((aA cs).set item.toNat [.i a])]),.lit 8 (aX E),.lit 8 (fU S.aO),.lit 9 (dN S.aF),.lit 6 (eO S.aG),.i S.done]:=fun E=>by rw[<-ad];rfl
 by_cases m:f=0;rotate_left
 .rw[if_pos m]
  have af:=(z4 m).symm;subst af;have H:=H.er (f:=f) (by have:=g4;unfold gY at this;omega);have N:Ck 92 [.agg [.i S.bJ,.i S.bH,.lit 1 (aA S.weights),.lit 1 (aW S.methods),.lit 1 ((aW S.bT).set e.toNat [.lit 1 ((aA cs).set item.toNat [.i a])]),.lit 8 (aX u),.lit 8 (fU S.aO),.lit 9 (dN S.aF),.lit 6 (eO S.aG),.i S.done],.i e,.lit 2 (bU [⟨0,c+k⟩,⟨6,-c-k⟩])] (.bE [((S.bM u).dH n).av,.i f]):=by rw[<-ac];exact N
  exact⟨cw (iH ZG Ve Kbn Zs [GX,UN,GH,Zi,Ug,Gd,Q4,(92,KM,(.bE [(.agg [.o 0,.o 1,.q 1 1,.q 1 2,.q 1 15,.q 8 13,.q 8 4,.q 9 5,.q 6 6,.v 7]),.v 13]))]) (ev3 H [(S.cE e item),c,k] [.I X,.I V,.I U,.I u1,.I y1,.I Z,.I (S.cost e item)] [aA ms,aM L0,aM y,aX j,aM L1,aM B,aX u,aA cs,aW n] (.d (aS W.qN) (.d (aI W.hm) (.d (aS W.CU) (.d (aI W.hc) .nil))))) Uf Kad (kc A (kc L (kc s (kc K (kc T (kc w (kc R (kc N kn)))))))),.bad G g4⟩
 subst m;rw[if_neg (by simp)];clear z4;obtain⟨E3,rfl⟩:∃E,S4=(S.bM E).dH n:=⟨S4.aH,k4.eq⟩;have N:Ck 92 [.agg [.i S.bJ,.i S.bH,.lit 1 (aA S.weights),.lit 1 (aW S.methods),.lit 1 ((aW S.bT).set e.toNat [.lit 1 ((aA cs).set item.toNat [.i a])]),.lit 8 (aX u),.lit 8 (fU S.aO),.lit 9 (dN S.aF),.lit 6 (eO S.aG),.i S.done],.i e,.lit 2 (bU [⟨0,c+k⟩,⟨6,-c-k⟩])] (.bE [((S.bM E3).dH n).av,.i 0]):=by rw[<-ac];exact N
 have x4:=k4.ix x3;have Ct:=fL k4.ok x4 (r:=[0,0,0,0,0,0,0,0,0,0,c+k]) rfl;obtain⟨k5,g5,z5⟩:=eI k4.ok x4 (r:=[0,0,0,0,0,0,0,0,0,0,c+k]) rfl;generalize dR ((S.bM E3).dH n) e item [0,0,0,0,0,0,0,0,0,0,c+k]=b at *;obtain⟨S5,f⟩:=b;dsimp only at *;by_cases m:f=0;rotate_left
 .rw[if_pos m]
  have ae:=(z5 m).symm;subst ae;have H:=H.er (f:=f) (by have:=g5;unfold gY at this;omega);exact⟨cw (iH ZG Ve Kbn Zs [GX,UN,GH,Zi,Ug,Gd,Q4,Kl,(124,K8,(.bE [UO,.v 13]))]) (ev3 H [(S.cE e item),c,k] [.I X,.I V,.I U,.I u1,.I y1,.I Z,.I (S.cost e item)] [aA ms,aM L0,aM y,aX j,aM L1,aM B,aX u,aA cs,aW n,aX E3] (.d (aS W.qN) (.d (aI W.hm) (.d (aS W.CU) (.d (aI W.hc) .nil))))) Uf Kad (kc A (kc L (kc s (kc K (kc T (kc w (kc R (kc N (kc Ct kn))))))))),.bad G g5⟩
 subst m;rw[if_neg (by simp)];have K5:=k4.trans k5;obtain⟨E4,rfl⟩:∃E,S5=(S.bM E).dH n:=⟨S5.aH,K5.eq⟩;have F:=oD.ok K5 (K5.gn G3) rfl rfl rfl rfl rfl rfl;exact⟨cw (iH ZG Ve Kbn Zs [GX,UN,GH,Zi,Ug,Gd,Q4,Kl,(124,K8,ZL)]) (ev3 H [(S.cE e item),c,k] [.I X,.I V,.I U,.I u1,.I y1,.I Z,.I (S.cost e item)] [aA ms,aM L0,aM y,aX j,aM L1,aM B,aX u,aA cs,aW n,aX E3,aX E4] (.d (aS W.qN) (.d (aI W.hm) (.d (aS W.CU) (.d (aI W.hc) .nil))))) Uf ZL (kc A (kc L (kc s (kc K (kc T (kc w (kc R (kc N (kc Ct kn))))))))),⟨F.gn,F.err,fun h=>absurd rfl h,F.le.trans K2.len,rfl,rfl,rfl,rfl,rfl⟩⟩
end
end
section
def fJ (v all:Int):Int->List bP->List bP
 |_,[]=>[]
 |left,[x]=>[⟨x.q,x.v+left,x.p⟩]
 |left,x::y::r=>⟨x.q,x.v+dK v x.q all,x.p⟩::fJ v all (left-dK v x.q all) (y::r)
def IQ (v all:Int):∀(l:List bP) (left:Int),(fJ v all left l).length=l.length
 |[],_=>rfl
 |[x],_=>rfl
 |x::y::r,left=>by simp only[fJ,a0v];rw[IQ v all (y::r)];rfl
def CI (v all:Int):∀(l:List bP) (left:Int),qs (fJ v all left l)=qs l
 |[],_=>rfl
 |[x],_=>rfl
 |x::y::r,left=>by simp only[fJ];rw[gE,CI v all (y::r),gE (l:=y::r)]
def ME (v all:Int):∀(l:List bP) (left:Int),l≠[]->vs (fJ v all left l)=vs l+left
 |[],_,h=>absurd rfl h
 |[x],left,_=>by simp[fJ,vs]
 |x::y::r,left,_=>by
  simp only[fJ];rw[kD,ME v all (y::r) _ (by simp),kD (l:=y::r)];simp only;omega
def MR {v q all:Int} (b:0<=v) (f:v<=288230376151711744) (c:0<=q) (d:q<=all) (a:1<=all):0<=dK v q all/\dK v q all*all<=v*q:=by
 have e:dK v q all=v*q/all:=by
  unfold dK;rw[if_neg,if_neg (by omega)];have:mJ v=true:=fG.2 ⟨by omega,by omega⟩;rw[this];simp;omega
 rw[e];exact⟨(uV a c d b).1,Int.ediv_mul_le _ (by omega)⟩
end
section
open Mc
variable {L:List bP}
def tO (L:List bP) (v:Int):List bP×Int :=
 if L.length=0 then(L,5)else if 288230376151711744<v then(L,2)else if lM (fJ v (qs L) v L)=true then(fJ v (qs L) v L,0)else(L,2)
def amY (h:LR L) {x:bP} (a:x∈L):x.q<=qs L:=by
 have go:∀(l:List bP),(∀z∈l,kQ z=true)->x∈l->x.q<=qs l:=by
  intro l;induction l with
  |nil=>intro _ a;cases a
  |cons z t d =>
   intro b a;have e:=eE.1 (b z (by simp));have f:=(fQ (l:=t) fun y c=>b y (by simp[c])).1;rw[gE];rcases a0d.1 a with rfl|a
   .omega
   .have:=d (fun y c=>b y (by simp[c])) a;omega
 exact go L h.ok a
def ahJ {d:List bP} {j:Nat} {x:bP} (b:d.length=j) (a:L.drop j=x::L.drop (j+1)) (y:bP):(aM (d++L.drop j)).set j [.i y.q,.i y.v,.i y.p]=aM (d++[y]++L.drop (j+1)):=by
 subst b;rw[a];simp only[aM,a03,a0r,a1x];rw[a42 _ _ (by simp)];simp;rfl
def anT {a b c:Int} (h1:kS a) (f:kS b) (e:kS c):fM [a,b,c]:=by
 intro v d;simp only[a0d,a0b,or_false]at d;rcases d with rfl|rfl|rfl
 .exact h1
 .exact f
 .exact e
def aer {v a:Int} (d:0<=v/\v<=288230376151711744) (f:1<=a) (i:a=qs L) (h:LR L):∀z∈fJ v a v L,kS z.q/\kS z.v/\kS z.p:=by
 have go:∀(l:List bP) (left:Int),(∀x∈l,kQ x=true)->qs l<=a->0<=left->left<=v->v*qs l<=left*a->∀z∈fJ v a left l,kS z.q/\kS z.v/\kS z.p:=by
  intro l;induction l with
  |nil=>intro left _ _ _ _ _ z b;cases b
  |cons x r g =>
   intro left c k n l1 hs z b;have o:=eE.1 (c x (by simp));have j:=(fQ (l:=r) fun y e=>c y (by simp[e])).1;cases r with
   |nil =>
    simp only[fJ,a05]at b;subst b;exact⟨⟨by dsimp only;omega,by dsimp only;omega⟩,⟨by dsimp only;omega,by dsimp only;omega⟩,⟨by dsimp only;omega,by dsimp only;omega⟩⟩
   |cons y t =>
    rw[gE]at k hs;obtain⟨p0,p1⟩:=MR d.1 d.2 (q:=x.q) (by omega) (by omega) f;simp only[fJ]at b;have e1:v*(x.q+qs (y::t))=v*x.q+v*qs (y::t):=a1e _ _ _;have e2:(left-dK v x.q a)*a=left*a-dK v x.q a*a:=a28 _ _ _;have s:0<=v*qs (y::t):=a0q d.1 j
    have m:0<=left-dK v x.q a:=by
     have:0<=(left-dK v x.q a)*a:=(by omega);exact a5f this (by omega)
    rcases a0d.1 b with rfl|b
    .exact⟨⟨by dsimp only;omega,by dsimp only;omega⟩,⟨by dsimp only;omega,by dsimp only;omega⟩,⟨by dsimp only;omega,by dsimp only;omega⟩⟩
    .exact g (left-dK v x.q a) (fun y e=>c y (by simp[e])) (by omega) m (by omega) (by omega) z b
 exact go L v h.ok (by omega) d.1 (a0h _) (by rw[i];exact a0h _)
namespace RS
abbrev sF (v n l y i:AV):List AV:=fr 79 [(2,v),(4,.ptr 4 0 0 0),(6,.ptr 4 1 0 0),(7,.i 0),(8,n),(9,l),(10,.ptr 3 3 0 0),(11,y),(12,i)]
abbrev sB (L:List bP) (p0 p1 p2 d b a:Int) (c:List (List AV)):List Mc.dI:=[.cells 161 4 [[.lit 3 (aM L),.i p0,.i p1,.i p2]],.cells 161 4 [[.emp,.i 0,.i 0,.i 0]],.cells 101 3 c,.cells 101 3 [[.i d,.i b,.i a]]]
noncomputable def body:Code:=(Tryz.f150).body.getD .skip
abbrev alI (c:Code) (r:Option (RT Out)):Prop:=uG { vars:=BK,lens:=KeY,bQ:=VO } c (Dw++List.replicate 76 .undef) [] [some 0,some 1,some 2,some 3] (sF (.v 2) (.v 0) KcH (.v 2) (.i 0)) [D0,Bt,(.sc 101 3 0 [] [] [([0],1)]),KaU] r
noncomputable def alx:Option (RT Out):=yZ { vars:=BK,lens:=KeY,bQ:=VO } body (Dw++List.replicate 76 .undef:List AV).length (Dw++List.replicate 76 .undef) [] 0
def an3:alI body alx:=⟨rfl,by decide +kernel,by decide +kernel⟩
abbrev agv (o:Option (RT Out)):Prop:=kH { vars:=Kbz,lens:=KbX,bQ:=[(199,[.q 3 1],Kev)] } Tryz.f150 o 1 (sF (.v 1) (.v 0) KcH (.o 6) (.v 0)) Jv (G4)
def walk (oA:Option (RT Out)) (rA:alI body oA) (rp:eA { vars:=[(1,30),KdO,KdO,DZ,DZ,(0,29)],facts:=[([([0],1),([5],-1)],2,30)],lens:=KbX,iG:=[(1,[([5],1)],[.o 6,.v 2,.o 7])],bQ:=[(149,[.v 1,.o 6,.o 3],(.v 4))] } (bB oA) (sF (.v 1) (.v 0) KcH (.v 3) (.v 5)) Jv 0 [some 0,some 1,some 2,some 3] (sF (.v 1) (.v 0) KcH (.e Kez) Kd2) [D0,Bt,(.sc 101 3 1 [([([5],1)],[.o 6,(.e [([2],1),([4],1)]),.o 7])] [] [([0],1)]),KaU]) (rl:eA { vars:=[(1,30),KdO,KdO,DZ,(0,29)],facts:=[([([0],1),([4],-1)],1,1)],lens:=KbX,iG:=[(1,[([4],1)],[.o 6,.v 2,.o 7])] } (bB oA) (sF (.v 1) (.v 0) KcH (.v 3) (.v 4)) Jv 0 [some 0,some 1,some 2,some 3] (sF (.v 1) (.v 0) KcH (.i 0) Kd3) [D0,Bt,(.sc 101 3 1 [([([4],1)],[.o 6,(.e [([2],1),([3],1)]),.o 7])] [] [([0],1)]),KaU]) (rX:eA { vars:=Kbz,lens:=KbX } (bB oA) (sF (.v 1) (.v 0) KcH (.o 6) (.v 0)) Jv 3 [some 0,some 1,some 2,some 3] (sF (.v 1) (.v 0) KcH (.o 6) (.v 0)) Jv) (rO:kH { vars:=Kbz,lens:=KbX,bQ:=[(199,[.q 3 1],KeF)] } Tryz.f150 oA 1 (sF (.v 1) (.v 0) KcH (.o 6) (.v 0)) Jv ((.bE [KbF,.i 0]))) (rB:agv oA)
  {p0 p1 p2 m v:Int} (h:LR L) (h1:1<=L.length) (hm:1<=m/\m<=3) (E:0<=v/\v<=288230376151711744) :
  Ck 150 [.i m,cY.av ⟨L,p0,p1,p2⟩,.i v] (.bE [cY.av ⟨if lM (fJ v (qs L) v L)=true then fJ v (qs L) v L else L,p0,p1,p2⟩,.i (if lM (fJ v (qs L) v L)=true then 0 else 2)]):=by
 have P:=qG (p0:=p0) (p1:=p1) (p2:=p2) h;have W:=h.q;have ac:=h.len;obtain⟨s,T⟩:∃s,s=vs L:=⟨_,rfl⟩;obtain⟨g,S⟩:∃g,g=ps L:=⟨_,rfl⟩;obtain⟨b,u⟩:∃b,b=qs L:=⟨_,rfl⟩
 rw[<-T,<-S,<-u]at P;rw[<-u]at W |-;have K:1<=b:=by
  rw[u];match L,h1,h with
  |z::t,_,h =>
   have:=eE.1 (h.ok z (by simp));have:=(fQ (l:=t) fun x M=>h.ok x (by simp[M])).1;rw[gE];omega
 refine CK.hY Tryz.func150 (c:=body) (by kernel_rfl) (Cw.out) (yY.out) fun A w0 a0=>?_;intro mm w a f;rw[Tryz.ntmps150]at f;refine rA.go (ev1 _ [(L.length:Int),m,v] [.I p0,.I p1,.I p2,.I b,.I s,.I g] [aM L] .nil) (xK (kc P kn)) f (fd:=sF (.i v) (.i (L.length:Int)) (.own 101 3 2 0 L.length) (.i v) (.i 0)) (bd:=sB L p0 p1 p2 b s g (aM L)) ?_;intro mm w a f;clear P;refine dQ (fun n a w=>∃(j:Nat) (left:Int) (d:List bP),n=L.length-j/\j<=L.length/\d.length=j/\fJ v b v L=d++fJ v b left (L.drop j)/\0<=left/\left<=v/\v*qs (L.drop j)<=left*b/\∃mm,@fD dY dZ A w0 a0 mm w a (sF (.i v) (.i (L.length:Int)) (.own 101 3 2 0 L.length) (.i left) (.i (j:Int))) (fH (sB L p0 p1 p2 b s g (aM (d++L.drop j))))) ?_ (n:=L.length) ⟨0,v,[],rfl,a0n _,rfl,rfl,E.1,a0h _,by rw[List.drop_zero,u];exact a0h _,_,f⟩;rintro n a w ⟨j,left,d,rfl,hj,X,D,l0,l1,hs,mm,f⟩;have Q:(d++L.drop j).length=L.length:=by simp;omega
 rcases(by omega:j=L.length\/j<L.length)with rfl|J
 .have B:L.drop L.length=[]:=a3k
  rw[B]at D Q;rw[B]at f;simp only[fJ,a1r]at D Q f;rw[D];generalize d=c at *;refine rX.go (ev1 _ [(L.length:Int),v] [.I p0,.I p1,.I p2,.I b,.I s,.I g,.I left] [aM L,aM c] .nil) (xK kn) f ?_
  intro mm w a f;have hI:fM (flat c):=by
   rw[<-D];refine CW fun z B=>?_
   obtain⟨o1,o2,o3⟩:=aer E K u h z B;exact anT o1 o2 o3
  have O:=zZ hI (by omega);by_cases F:lM c=true
  .rw[if_pos F,if_pos F]
   rw[F]at O;exact rO.go (ev1 _ [(L.length:Int),v] [.I p0,.I p1,.I p2,.I b,.I s,.I g,.I left] [aM L,aM c] .nil) (xK (kc O kn)) f
  .rw[if_neg F,if_neg F]
   rw[show lM c=false by simpa using F]at O;exact rB.go (ev1 _ [(L.length:Int),v] [.I p0,.I p1,.I p2,.I b,.I s,.I g,.I left] [aM L,aM c] .nil) (xK (kc O kn)) f
 .obtain⟨x,G⟩:∃x,L[j]?=some x:=⟨_,a0f J⟩
  have C:L.drop j=x::L.drop (j+1):=by rw[<-a2x J];congr 1;exact Option.some.inj (by rw[<-a0f J,G])
  have ab:=eE.1 (h.ok x (a0a G))
  have M:(d++L.drop j)[(j:Int).toNat]?=some x:=by
   rw[a00,a14 (by omega),X,a2t,C];rfl
  have H:∀y,(aM (d++L.drop j)).set j [.i y.q,.i y.v,.i y.p]=aM (d++[y]++L.drop (j+1)):=fun y=>ahJ X C y;have N:=fun(z:bP) (B:z∈L.drop (j+1))=>h.ok z (a21 B);have V:=(fQ N).1;rw[C,gE]at hs;generalize hc:d++L.drop j=c at *;rcases(by omega:j+1=L.length\/j+1<L.length)with aa|Z
  .refine rl.go (ev1 _ [(L.length:Int),v,x.v,left,(j:Int)] [.I p0,.I p1,.I p2,.I b,.I s,.I g,.I x.q,.I x.p] [aM L,aM c] (.d (aY M) .nil)) (xK kn) f (fd:=sF (.i v) (.i (L.length:Int)) (.own 101 3 2 0 L.length) (.i 0) (.i (1+(j:Int)))) (bd:=sB L p0 p1 p2 b s g ((aM c).set j [.i x.q,.i (x.v+left),.i x.p])) ?_
   intro mm w a f;have B:L.drop (j+1)=[]:=a4u.2 (by omega);refine⟨L.length-(j+1),by omega,j+1,0,d++[⟨x.q,x.v+left,x.p⟩],rfl,by omega,by simp;omega,?_,a0h _,E.1,?_,mm,?_⟩
   .rw[D,C,B];simp[fJ]
   .rw[B];simp[qs]
   .rw[show(1+(j:Int))=((j+1:Nat):Int)by omega]at f
    rw[<-H ⟨x.q,x.v+left,x.p⟩];exact f
  .have hk:=kL (v:=v) (q:=x.q) (n:=b) ⟨by omega,by omega⟩ ⟨by omega,by omega⟩ ⟨by omega,by omega⟩
   have U:x.q<=b:=by rw[u];exact amY h (a0a G)
   obtain⟨k0,k1⟩:=MR E.1 E.2 (q:=x.q) (by omega) U K
   obtain⟨y,r,R⟩:∃y r,L.drop (j+1)=y::r:=by
    cases hq:L.drop (j+1)with
    |nil=>have:=a4u.1 hq;omega
    |cons y r=>exact⟨y,r,rfl⟩
   have Y:fJ v b left (x::L.drop (j+1))=⟨x.q,x.v+dK v x.q b,x.p⟩::fJ v b (left-dK v x.q b) (L.drop (j+1)):=by rw[R];rfl
   rw[C,Y]at D;generalize dK v x.q b=k at *;have e1:v*(x.q+qs (L.drop (j+1)))=v*x.q+v*qs (L.drop (j+1)):=a1e _ _ _;have e2:(left-k)*b=left*b-k*b:=a28 _ _ _;have e3:0<=v*qs (L.drop (j+1)):=a0q E.1 V
   have e4:0<=left-k:=by
    have:0<=(left-k)*b:=(by omega);exact a5f this (by omega)
   refine rp.go (ev1 _ [(L.length:Int),v,x.v,left,k,(j:Int)] [.I p0,.I p1,.I p2,.I b,.I s,.I g,.I x.q,.I x.p] [aM L,aM c] (.d (aY M) .nil)) (xK (kc hk kn)) f (fd:=sF (.i v) (.i (L.length:Int)) (.own 101 3 2 0 L.length) (.i (left-k)) (.i (1+(j:Int)))) (bd:=sB L p0 p1 p2 b s g ((aM c).set j [.i x.q,.i (x.v+k),.i x.p])) ?_;intro mm w a f;refine⟨L.length-(j+1),by omega,j+1,left-k,d++[⟨x.q,x.v+k,x.p⟩],rfl,by omega,by simp;omega,?_,e4,by omega,by omega,mm,?_⟩
   .rw[D];simp
   .rw[show(1+(j:Int))=((j+1:Nat):Int)by omega]at f
    rw[<-H ⟨x.q,x.v+k,x.p⟩];exact f
end RS
def XG {p0 p1 p2 m v:Int} (h:LR L) (e:1<=m/\m<=3) (d:0<=v/\v<=9223372036854775807):Ck 150 [.i m,cY.av ⟨L,p0,p1,p2⟩,.i v] (.bE [cY.av ⟨(tO L v).1,p0,p1,p2⟩,.i (tO L v).2]):=by
 have f:=h.len;unfold tO;by_cases c:L.length=0
 .rw[if_pos c];exact cw _ (ev1 { vars:=[(0,0),(1,3),Kdq],lens:=KeY } [(L.length:Int),m,v] [.I p0,.I p1,.I p2] [aM L] .nil) Dw (.bE [KbE,.i 5]) kn
 rw[if_neg c];by_cases b:288230376151711744<v
 .rw[if_pos b];exact cw _ (ev1 { vars:=[(1,30),(1,3),DY],lens:=KeY } [(L.length:Int),m,v] [.I p0,.I p1,.I p2] [aM L] .nil) Dw G4 kn
 rw[if_neg b];have W:=RS.walk RS.alx RS.an3 .of .of .of .of .of (p0:=p0) (p1:=p1) (p2:=p2) h (by omega) e ⟨d.1,by omega⟩;by_cases a:lM (fJ v (qs L) v L)=true
 .simp only[if_pos a]at W |-;exact W
 .simp only[if_neg a]at W |-;exact W
def FN {m:Int} {d:uH} (h:jS m L d) (v:Int):jS m (tO L v).1 d/\gY (tO L v).2:=by
 unfold tO;split
 .exact⟨h,⟨by simp,by simp⟩⟩
 .split
  .exact⟨h,⟨by simp,by simp⟩⟩
  .split
   .rename_i e
    refine⟨⟨LR.of e,?_,h.a0,h.b0,h.c0,?_,h.zero⟩,⟨by simp,by simp⟩⟩
    .show m=1\/(fJ v (qs L) v L).length<=1
     rw[IQ];exact h.one
    .show d.a+d.b+d.c<=qs (fJ v (qs L) v L)
     rw[CI];exact h.sum
   .exact⟨h,⟨by simp,by simp⟩⟩
def Aa (S:bF) (r:vE) (v:Int):Int:=dK v (min (r.eX-r.back) (qs ((S.aB r.aD).aU (2*r.item+r.loc)).aN)) r.eX
def jC (S:bF) (r:vE) (v:Int):bF×Int×Int :=
 if S.cE r.aD r.item=4 then(S,0,0)else if Aa S r v=0 then(S,0,0)else
 match tO ((S.aB r.aD).aU (2*r.item+r.loc)).aN (Aa S r v)with
 |(M,f)=>if f≠0 then(S,0,f)else
 match dR (S.aZ r.aD ((S.aB r.aD).bR (2*r.item+r.loc) { (S.aB r.aD).aU (2*r.item+r.loc)with aN:=M })) r.aD r.item [0,0,Aa S r v,0,0,0,0,0,0,0,0]with
 |(a,f)=>(a,Aa S r v,f)
section
variable {S:bF} {e item loc rq rv ro ra rb v:Int}
def Sb (G:Gn S) (Z:S.done<=1000000) (x:Ix S e item) (t:0<=loc/\loc<=1) (hq:1<=rq/\rq<=1073741824) (hb:0<=rb/\rb<=rq) (N:0<=v/\v<=1125899906842624) :
  Ck 91 [S.av,.agg (jH [e,item,loc,rq,rv,ro,ra,rb]),.i v] (.bE [(jC S ⟨e,item,loc,rq,rv,ro,ra,rb⟩ v).1.av,.i (jC S ⟨e,item,loc,rq,rv,ro,ra,rb⟩ v).2.1,.i (jC S ⟨e,item,loc,rq,rv,ro,ra,rb⟩ v).2.2]) /\
  Kn S (jC S ⟨e,item,loc,rq,rv,ro,ra,rb⟩ v).1/\(0<=(jC S ⟨e,item,loc,rq,rv,ro,ra,rb⟩ v).2.1/\(jC S ⟨e,item,loc,rq,rv,ro,ra,rb⟩ v).2.1<=v)/\gY (jC S ⟨e,item,loc,rq,rv,ro,ra,rb⟩ v).2.2:=by
 have h:=G.toStOk;have H:=G.op Z (x.eb h) (x.ib h) t (dst:=0) (by omega) (q:=0) (by omega) (a:=0) (by omega) (ref:=0) (by omega);have W:=h.wx x;have hm:=h.mb' x;generalize S.methods.getD e.toNat []=ms at W;generalize S.bT.getD e.toNat []=cs at W;have:=W.bd;have s:=h.xV x t.1 t.2;have o:=lV h x t.1 t.2;have l:=qG (p0:=((S.aB e).aU (2*item+loc)).p0) (p1:=((S.aB e).aU (2*item+loc)).p1) (p2:=((S.aB e).aU (2*item+loc)).p2) s.lr;have tb:=(fQ s.lr.ok).1;have aa:=s.lr.q;have u:=fun P=>sL h x t.1 t.2 P
 have k:=fun P hP=>gH h x t.1 t.2 (p:=P) hP;have b:=kL (v:=v) (q:=min (rq-rb) (qs ((S.aB e).aU (2*item+loc)).aN)) (n:=rq) ⟨by omega,by omega⟩ ⟨by omega,by omega⟩ ⟨by omega,by omega⟩;have cb:=FU (v:=v) (q:=min (rq-rb) (qs ((S.aB e).aU (2*item+loc)).aN)) (n:=rq) (by omega) (by omega) (by omega) (by omega) (by omega);have e0:Aa S ⟨e,item,loc,rq,rv,ro,ra,rb⟩ v=dK v (min (rq-rb) (qs ((S.aB e).aU (2*item+loc)).aN)) rq:=rfl;unfold jC;rw[e0];dsimp only;obtain⟨z,w⟩:=FN s (dK v (min (rq-rb) (qs ((S.aB e).aU (2*item+loc)).aN)) rq);have A:=fun(h3:S.cE e item≠4)=>XG (p0:=((S.aB e).aU (2*item+loc)).p0) (p1:=((S.aB e).aU (2*item+loc)).p1) (p2:=((S.aB e).aU (2*item+loc)).p2) (m:=S.cE e item) (v:=dK v (min (rq-rb) (qs ((S.aB e).aU (2*item+loc)).aN)) rq) s.lr (by omega) (by omega);generalize dK v (min (rq-rb) (qs ((S.aB e).aU (2*item+loc)).aN)) rq=c at *;generalize tO ((S.aB e).aU (2*item+loc)).aN c=R at *;obtain⟨M,f⟩:=R;have u:=u { (S.aB e).aU (2*item+loc)with aN:=M };have k:=k { (S.aB e).aU (2*item+loc)with aN:=M } z;generalize S.aZ e ((S.aB e).bR (2*item+loc) { (S.aB e).aU (2*item+loc)with aN:=M })=S1 at *;clear s z;generalize (S.aB e).aU (2*item+loc)=P at *;obtain⟨L,p0,p1,p2⟩:=P;dsimp only at *;generalize qs L=tq at *;generalize vs L=tv at *;generalize ps L=tp at *;obtain⟨C,rfl⟩:=k.ex;have K:Kn S S:=.refl h;have O:=k.ix x;have E:=fL k.ok O (r:=[0,0,c,0,0,0,0,0,0,0,0]) rfl;obtain⟨X,U,z2⟩:=eI k.ok O (r:=[0,0,c,0,0,0,0,0,0,0,0]) rfl;generalize dR (S.bM C) e item [0,0,c,0,0,0,0,0,0,0,0]=T at *;obtain⟨S2,g⟩:=T;dsimp only at *;have V:=k.trans X;obtain⟨D,rfl⟩:=V.ex;by_cases B:S.cE e item=4
 .rw[if_pos B]
  refine⟨?_,K,⟨a0h _,N.1⟩,⟨by simp,by simp⟩⟩;rcases(by omega:rq-rb<=tq\/tq<rq-rb)with j|j
  .rw[a3l j]at b
   exact cw (iH QX [KcC,KcF,WX,KeU] KeT GG KV) (ev3 H [(S.cE e item),rq,rb,tq,v,c] [.I rv,.I ro,.I ra,.I tv,.I tp,.I p0,.I p1,.I p2] [aA ms,aM L] (.d (aS W.qN) (.d (aI W.hm) .nil))) Yp Bg (kc o (kc l (kc b kn)))
  .rw[a3m (by omega)]at b
   exact cw (iH QX [KcC,KcF,WA,KeU] KeT GG K6) (ev3 H [(S.cE e item),rq,rb,tq,v,c] [.I rv,.I ro,.I ra,.I tv,.I tp,.I p0,.I p1,.I p2] [aA ms,aM L] (.d (aS W.qN) (.d (aI W.hm) .nil))) Yp Bg (kc o (kc l (kc b kn)))
 rw[if_neg B];have y:=A B;by_cases J:c=0
 .rw[if_pos J]
  refine⟨?_,K,⟨a0h _,N.1⟩,⟨by simp,by simp⟩⟩;rcases(by omega:rq-rb<=tq\/tq<rq-rb)with j|j
  .rw[a3l j]at b
   exact cw (iH QX [KcC,KcF,WX,KeV,([([19],1)],0,0)] KeT GG KV) (ev3 H [(S.cE e item),rq,rb,tq,v,c] [.I rv,.I ro,.I ra,.I tv,.I tp,.I p0,.I p1,.I p2] [aA ms,aM L] (.d (aS W.qN) (.d (aI W.hm) .nil))) Yp Bg (kc o (kc l (kc b kn)))
  .rw[a3m (by omega)]at b
   exact cw (iH QX [KcC,KcF,WA,KeV,([([19],1)],0,0)] KeT GG K6) (ev3 H [(S.cE e item),rq,rb,tq,v,c] [.I rv,.I ro,.I ra,.I tv,.I tp,.I p0,.I p1,.I p2] [aA ms,aM L] (.d (aS W.qN) (.d (aI W.hm) .nil))) Yp Bg (kc o (kc l (kc b kn)))
 rw[if_neg J];by_cases Q:f=0;rotate_left
 .rw[if_pos Q]
  refine⟨?_,K,⟨a0h _,N.1⟩,w⟩;have H:=H.er (f:=f) (by have:=w;unfold gY at this;omega);rcases(by omega:rq-rb<=tq\/tq<rq-rb)with j|j
  .rw[a3l j]at b
   exact cw (iH QX Jg KeT GG [UP,VY,WY,Zj]) (ev3 H [(S.cE e item),rq,rb,tq,v,c] [.I rv,.I ro,.I ra,.I tv,.I tp,.I p0,.I p1,.I p2] [aA ms,aM L,aM M] (.d (aS W.qN) (.d (aI W.hm) .nil))) Yp D4 (kc o (kc l (kc b (kc y kn))))
  .rw[a3m (by omega)]at b
   exact cw (iH QX Jf KeT GG [UP,VY,KaZ,Zj]) (ev3 H [(S.cE e item),rq,rb,tq,v,c] [.I rv,.I ro,.I ra,.I tv,.I tp,.I p0,.I p1,.I p2] [aA ms,aM L,aM M] (.d (aS W.qN) (.d (aI W.hm) .nil))) Yp D4 (kc o (kc l (kc b (kc y kn))))
 subst Q;rw[if_neg (by simp)];have F:=u;refine⟨?_,V,cb,U⟩;by_cases Y:g=0
 .subst Y
  rcases(by omega:rq-rb<=tq\/tq<rq-rb)with j|j
  .rw[a3l j]at b
   exact cw (iH QX Jg KeT GG [UP,VY,WY,Zo,Zk,Jz]) (ev3 H [(S.cE e item),rq,rb,tq,v,c] [.I rv,.I ro,.I ra,.I tv,.I tp,.I p0,.I p1,.I p2] [aA ms,aM L,aM M,aX C,aX D] (.d (aS W.qN) (.d (aI W.hm) .nil))) Yp DK (kc o (kc l (kc b (kc y (kc F (kc E kn))))))
  .rw[a3m (by omega)]at b
   exact cw (iH QX Jf KeT GG [UP,VY,KaZ,Zo,Zk,Jz]) (ev3 H [(S.cE e item),rq,rb,tq,v,c] [.I rv,.I ro,.I ra,.I tv,.I tp,.I p0,.I p1,.I p2] [aA ms,aM L,aM M,aX C,aX D] (.d (aS W.qN) (.d (aI W.hm) .nil))) Yp DK (kc o (kc l (kc b (kc y (kc F (kc E kn))))))
 .have H:=H.er (f:=g) (by have:=U;unfold gY at this;omega)
  obtain⟨f,rfl⟩:∃f,f=g:=⟨_,rfl⟩;rcases(by omega:rq-rb<=tq\/tq<rq-rb)with j|j
  .rw[a3l j]at b
   exact cw (iH QX Jg KeT GG [UP,VY,WY,Zo,Zk,Jy]) (ev3 H [(S.cE e item),rq,rb,tq,v,c] [.I rv,.I ro,.I ra,.I tv,.I tp,.I p0,.I p1,.I p2] [aA ms,aM L,aM M,aX C,aX D] (.d (aS W.qN) (.d (aI W.hm) .nil))) Yp Dx (kc o (kc l (kc b (kc y (kc F (kc E kn))))))
  .rw[a3m (by omega)]at b
   exact cw (iH QX Jf KeT GG [UP,VY,KaZ,Zo,Zk,Jy]) (ev3 H [(S.cE e item),rq,rb,tq,v,c] [.I rv,.I ro,.I ra,.I tv,.I tp,.I p0,.I p1,.I p2] [aA ms,aM L,aM M,aX C,aX D] (.d (aS W.qN) (.d (aI W.hm) .nil))) Yp Dx (kc o (kc l (kc b (kc y (kc F (kc E kn))))))
end
end
section
open Mc
def iT (S:bF) (basis k:Int):Int :=
 if k<0 then 0 else match S.aO[k.toNat]? with
 |none=>0
 |some g=>if basis=0 then g.eX else if basis=1 then g.value else if basis=2 then g.eX*S.weights.getD g.item.toNat 0 else 0
namespace WT
abbrev wF (r b l i:AV):List AV:=fr 66 [(1,r),(2,b),(3,.ptr 10 0 0 0),(7,l),(8,i)]
abbrev wB (S:bF) (l:List (List AV)):List Mc.dI:=[.cells 31 10 [[.i S.bJ,.i S.bH,.lit 1 (aA S.weights),.lit 1 (aW S.methods),.lit 1 (aW S.bT),.lit 8 (aX S.aH),.lit 8 (fU S.aO),.lit 9 (dN S.aF),.lit 6 (eO S.aG),.i S.done]],.cells 3 1 l]
noncomputable def body:Code:=(Tryz.f28).body.getD .skip
abbrev alG (c:Code) (r:Option (RT Out)):Prop:=uG { vars:=[(1,60)],lens:=[Kfi] } c (KaH++List.replicate 63 .undef) [] [some 0,none] (wF (.q 1 7) (.o 3) (.own 3 1 1 0 0) (.i 0)) [Yd,KeZ] r
noncomputable def alv:Option (RT Out):=yZ { vars:=[(1,60)],lens:=[Kfi] } body (KaH++List.replicate 63 .undef:List AV).length (KaH++List.replicate 63 .undef) [] 0
def an1:alG body alv:=⟨rfl,by decide +kernel,by decide +kernel⟩
abbrev amZ (o:Option (RT Out)):Prop:=kH { vars:=[(1,60)],lens:=[Kfi,(8,[([0],1)])] } Tryz.f28 o 0 (wF (.q 1 7) (.o 3) Kdi (.v 0)) Qx ((.q 1 8))
def walk (oA:Option (RT Out)) (O:alG body oA) (rq:eA { vars:=Kcr,facts:=U2,lens:=Dh,iG:=Yq } (bB oA) (wF (.q 1 7) (.i 0) Kdl (.v 1)) Qy 0 [some 0,some 4] (wF (.q 1 7) (.i 0) KbD KdU) [Yd,(.sc 3 1 8 [] [[.o 6]] KeO)]) (rv:eA { vars:=Kcr,facts:=U2,lens:=Dh,iG:=Yq } (bB oA) (wF (.q 1 7) (.i 1) Kdl (.v 1)) Qy 0 [some 0,some 4] (wF (.q 1 7) (.i 1) KbD KdU) [Yd,(.sc 3 1 8 [] [[.o 7]] KeO)]) (E:eA { vars:=[(1,60),(0,59),(0,40),yU,(0,5),(0,4),Ke8,Ke8],facts:=[KcI,([([3],1)],0,100),(KeA,1,100),([([4],1),([5],-1)],1,5)],lens:=[Kfi,(8,[([1],1)]),(4,[([2],1)]),(1,[([4],1)])],iG:=[Kel,(1,[([5],1)],[.v 7]),(4,[([3],1)],[.o 3,.v 5,.o 5,.v 6,.o 7,.o 8,.o 9,.o 10])] } (bB oA) (wF (.q 1 7) (.i 2) Kdl (.v 1)) Qy 0 [some 0,some 4] (wF (.q 1 7) (.i 2) KbD KdU) [Yd,(.sc 3 1 8 [] [[(.e [([6,7],1)])]] KeO)]) (F:eA { vars:=[(1,60),(0,59),(0,40),yU,KcA],facts:=U2,lens:=Dh,iG:=Yq } (bB oA) (wF (.q 1 7) (.v 4) Kdl (.v 1)) Qy 0 [some 0,some 4] (wF (.q 1 7) (.v 4) KbD KdU) JZ) (G:eA { vars:=[(1,60),(0,59),(0,40),yU,(3,9223372036854775807)],facts:=U2,lens:=Dh,iG:=Yq } (bB oA) (wF (.q 1 7) (.v 4) Kdl (.v 1)) Qy 0 [some 0,some 4] (wF (.q 1 7) (.v 4) KbD KdU) JZ) (C:eA { vars:=Kcr,facts:=[KcI,([([3],1)],-9223372036854775808,-1)],lens:=Dh,iG:=[Kel] } (bB oA) (wF (.q 1 7) (.o 3) Kdl (.v 1)) Qy 0 [some 0,some 3] (wF (.q 1 7) (.o 3) KbD KdU) JZ) (D:eA { vars:=Kcr,facts:=[KcI,([([3],1)],0,9223372036854775807),(KeB,0,9223372036854775808)],lens:=Dh,iG:=[Kel] } (bB oA) (wF (.q 1 7) (.o 3) Kdl (.v 1)) Qy 0 [some 0,some 3] (wF (.q 1 7) (.o 3) KbD KdU) JZ) (M:eA { vars:=[(1,60)],lens:=[Kfi,(8,[([0],1)])] } (bB oA) (wF (.q 1 7) (.o 3) Kdi (.v 0)) Qx 2 [some 0,some 1] (wF (.q 1 7) (.o 3) Kdi (.v 0)) Qx) (N:amZ oA)
  {S:bF} {refs:List Int} {basis:Int} (h1:1<=refs.length) (Y:refs.length<=60) (R:fM refs) (L:kS basis) (Xb:S.aO.length<=40) (U:S.weights.length<=5) (m:∀g∈S.aO,(0<=g.item/\g.item<S.weights.length)/\0<=g.eX/\g.eX<=1073741824) (P:∀v∈S.weights,0<=v/\v<=1073741824) :
  Ck 28 [S.av,.lit 1 (aA refs),.i basis] (.lit 1 (aA (refs.map (iT S basis)))):=by
 refine CK.hY Tryz.func28 (c:=body) (by kernel_rfl) (Cw.out) (yY.out) fun A w0 a0=>?_;intro mm w a b;rw[Tryz.ntmps28]at b;refine O.go (ev1 _ [(refs.length:Int)] (vT S [.I basis]) (sT S [aA refs]) .nil) (xK kn) b (fd:=wF (.lit 1 (aA refs)) (.i basis) (.own 3 1 1 0 0) (.i 0)) (bd:=wB S []) ?_;intro mm w a b;refine dQ (fun n a w=>∃(j:Nat) (l:List Int),n=refs.length-j/\j<=refs.length/\l=(refs.take j).map (iT S basis)/\∃mm,@fD dY dZ A w0 a0 mm w a (wF (.lit 1 (aA refs)) (.i basis) (.own 3 1 1 0 j) (.i (j:Int))) (fH (wB S (aA l)))) ?_ (n:=refs.length) ⟨0,[],rfl,a0n _,rfl,_,b⟩;rintro n a w ⟨j,l,rfl,Z,y,mm,b⟩;have V:l.length=j:=by rw[y];simp;omega
 rcases(by omega:j=refs.length\/j<refs.length)with rfl|K
 .rw[a1g]at y
  rw[<-y];refine M.go (ev1 _ [(refs.length:Int)] (vT S [.I basis]) (sT S [aA refs,aA l]) .nil) (xK kn) b ?_;intro mm w a b;exact N.go (ev1 _ [(refs.length:Int)] (vT S [.I basis]) (sT S [aA refs,aA l]) .nil) (xK kn) b
 .obtain⟨k,u⟩:∃k,refs[j]?=some k:=⟨_,a0f K⟩
  have r:refs[(j:Int).toNat]?=some k:=by simpa using u
  have B:=R k (a0a u);have:=B.lo;have:=B.hi;have:=L.lo;have:=L.hi
  have fin:∀v,v=iT S basis k->∀mm w a,@fD dY dZ A w0 a0 mm w a (wF (.lit 1 (aA refs)) (.i basis) (.own 3 1 1 0 (1+(j:Int)).toNat) (.i (1+(j:Int)))) (fH (wB S (aA l++[[.i v]])))->∃n',n'<refs.length-j/\∃(t:Nat) (H:List Int),n'=refs.length-t/\t<=refs.length/\H=(refs.take t).map (iT S basis)/\∃mm,@fD dY dZ A w0 a0 mm w a (wF (.lit 1 (aA refs)) (.i basis) (.own 3 1 1 0 t) (.i (t:Int))) (fH (wB S (aA H))):=by
   rintro v rfl mm w a b;rw[show(1+(j:Int))=((j+1:Nat):Int)by omega,a00,show aA l++[[.i (iT S basis k)]]=aA (l++[iT S basis k])by simp[aA]]at b;exact⟨_,by omega,j+1,_,rfl,by omega,by rw[a0u,u,y];simp,mm,b⟩
  by_cases p:k<0
  .refine C.go (ev1 _ [(refs.length:Int),(j:Int),(S.aO.length:Int),k] (vT S [.I basis]) (sT S [aA refs,aA l]) (.d (aI r) .nil)) (xK kn) b (fd:=wF (.lit 1 (aA refs)) (.i basis) (.own 3 1 1 0 (1+(j:Int)).toNat) (.i (1+(j:Int)))) (bd:=wB S (aA l++[[.i 0]])) ?_
   exact fun mm w a b=>fin 0 (by unfold iT;rw[if_pos p]) mm w a b
  cases h:S.aO[k.toNat]? with
  |none =>
   have:=a24.1 h;refine D.go (ev1 _ [(refs.length:Int),(j:Int),(S.aO.length:Int),k] (vT S [.I basis]) (sT S [aA refs,aA l]) (.d (aI r) .nil)) (xK kn) b (fd:=wF (.lit 1 (aA refs)) (.i basis) (.own 3 1 1 0 (1+(j:Int)).toNat) (.i (1+(j:Int)))) (bd:=wB S (aA l++[[.i 0]])) ?_;exact fun mm w a b=>fin 0 (by unfold iT;rw[if_neg p,h]) mm w a b
  |some g =>
   have Q:=(a0y.1 h).1;have W:=m g (a0a h);have X:=m;have m:S.aO[k.toNat]?=some ⟨g.aD,g.item,g.loc,g.eX,g.value,g.vY,g.dL,g.back⟩:=h;have s:iT S basis k=if basis=0 then g.eX else if basis=1 then g.value else if basis=2 then g.eX*S.weights.getD g.item.toNat 0 else 0:=by unfold iT;rw[if_neg p,h]
   rcases(by omega:basis=0\/basis=1\/basis=2\/basis<0\/2<basis)with f|f|f|f|f
   .subst f
    refine rq.go (ev1 _ [(refs.length:Int),(j:Int),(S.aO.length:Int),k] (vT S [.I g.aD,.I g.item,.I g.loc,.I g.eX,.I g.value,.I g.vY,.I g.dL,.I g.back]) (sT S [aA refs,aA l]) (.d (aI r) (.d (aC m) .nil))) (xK kn) b (fd:=wF (.lit 1 (aA refs)) (.i 0) (.own 3 1 1 0 (1+(j:Int)).toNat) (.i (1+(j:Int)))) (bd:=wB S (aA l++[[.i g.eX]])) ?_;exact fun mm w a b=>fin _ (by rw[s];rfl) mm w a b
   .subst f
    refine rv.go (ev1 _ [(refs.length:Int),(j:Int),(S.aO.length:Int),k] (vT S [.I g.aD,.I g.item,.I g.loc,.I g.eX,.I g.value,.I g.vY,.I g.dL,.I g.back]) (sT S [aA refs,aA l]) (.d (aI r) (.d (aC m) .nil))) (xK kn) b (fd:=wF (.lit 1 (aA refs)) (.i 1) (.own 3 1 1 0 (1+(j:Int)).toNat) (.i (1+(j:Int)))) (bd:=wB S (aA l++[[.i g.value]])) ?_;exact fun mm w a b=>fin _ (by rw[s];rfl) mm w a b
   .subst f
    obtain⟨x,z⟩:∃x,x=S.weights.getD g.item.toNat 0:=⟨_,rfl⟩;have J:S.weights[g.item.toNat]?=some x:=by rw[z];exact getD_some (by omega)
    have T:=P x (a0a J);rw[<-z]at s;refine E.go (ev1 _ [(refs.length:Int),(j:Int),(S.aO.length:Int),k,(S.weights.length:Int),g.item,g.eX,x] (vT S [.I g.aD,.I g.item,.I g.loc,.I g.eX,.I g.value,.I g.vY,.I g.dL,.I g.back]) (sT S [aA refs,aA l]) (.d (aI r) (.d (aI J) (.d (aC m) .nil)))) (xK kn) b (fd:=wF (.lit 1 (aA refs)) (.i 2) (.own 3 1 1 0 (1+(j:Int)).toNat) (.i (1+(j:Int)))) (bd:=wB S (aA l++[[.i (1*(g.eX*(x*1)))]])) ?_;exact fun mm w a b=>fin _ (by rw[s,Int.one_mul,Int.mul_one];rfl) mm w a b
   .refine F.go (ev1 _ [(refs.length:Int),(j:Int),(S.aO.length:Int),k,basis] (vT S [.I g.aD,.I g.item,.I g.loc,.I g.eX,.I g.value,.I g.vY,.I g.dL,.I g.back]) (sT S [aA refs,aA l]) (.d (aI r) (.d (aC m) .nil))) (xK kn) b (fd:=wF (.lit 1 (aA refs)) (.i basis) (.own 3 1 1 0 (1+(j:Int)).toNat) (.i (1+(j:Int)))) (bd:=wB S (aA l++[[.i 0]])) ?_
    exact fun mm w a b=>fin _ (by rw[s,if_neg (by omega),if_neg (by omega),if_neg (by omega)]) mm w a b
   .refine G.go (ev1 _ [(refs.length:Int),(j:Int),(S.aO.length:Int),k,basis] (vT S [.I g.aD,.I g.item,.I g.loc,.I g.eX,.I g.value,.I g.vY,.I g.dL,.I g.back]) (sT S [aA refs,aA l]) (.d (aI r) (.d (aC m) .nil))) (xK kn) b (fd:=wF (.lit 1 (aA refs)) (.i basis) (.own 3 1 1 0 (1+(j:Int)).toNat) (.i (1+(j:Int)))) (bd:=wB S (aA l++[[.i 0]])) ?_
    exact fun mm w a b=>fin _ (by rw[s,if_neg (by omega),if_neg (by omega),if_neg (by omega)]) mm w a b
end WT
def Ow {S:bF} (G:Gn S) (b:∀v∈S.weights,0<=v/\v<=1073741824) {refs:List Int} {basis:Int} (a:refs.length<=60) (e:fM refs) (d:kS basis) :
  Ck 28 [S.av,.lit 1 (aA refs),.i basis] (.lit 1 (aA (refs.map (iT S basis)))):=by
 by_cases f:refs.length=0
 .have:=a1f.1 f
  subst this;exact cw _ (ev1 {  } [] (vT S [.I basis]) (sT S []) .nil) [Keg,(.lit 1 []),.o 3] (.lit 1 []) kn
 .refine WT.walk WT.alv WT.an1 .of .of .of .of .of .of .of .of .of (by omega) a e d G.NY G.hw ?_ b
  intro g c;obtain⟨b1,b2,b3,h,j⟩:=G.Eu g c;exact⟨b2,by omega,h.2⟩
end
section
variable {ws:List Int} {key:Nat->Int} {m:List Nat}
def vP (a:List Int) (x:Nat):Int:=-(a.getD x 0)
def kX (v:Int):Bool:=decide (v<0)||decide (288230376151711744<v)
def A2 (v:Int):Bool:=decide (v≠0)
def rQ (t:Int) (ws:List Int):Bool:=kX t||ws.any kX||!(ws.any A2)
def iX (t s:Int) (ws:List Int):List Int:=ws.map fun x=>t*x/s
def iW (t s:Int) (ws:List Int):List Int:=ws.map fun x=>t*x%s
def nR (l:List Int) (ps:List Nat):List Int:=ps.foldl (fun l i=>l.set i (l.getD i 0+1)) l
def ae8 (l:List Int) (ps:List Nat) (i:Nat):nR l (ps++[i])=(nR l ps).set i ((nR l ps).getD i 0+1):=by simp[nR,List.foldl_append]
def Nx (l:List Int) (ps:List Nat):(nR l ps).length=l.length:=by
 induction ps generalizing l with
 |nil=>rfl
 |cons i ps a=>simp only[nR,a2l]at a |-;rw[a];simp
def aaZ {t s x:Int} (b:0<=t) (hs:0<s) (c:0<=x) (a:x<=s):0<=t*x/s/\t*x/s<=t/\0<=t*x%s/\t*x%s<s:=by
 refine⟨a2o (a0q b c) (by omega),?_,a2n _ (by omega),a3n _ hs⟩;apply a25 hs;exact a11 a b
def acS {t s:Int} (a:0<=t) (hs:0<s):∀(ws:List Int),(∀x,x∈ws->0<=x)->0<=(iX t s ws).sum/\(iX t s ws).sum*s<=t*ws.sum
 |[],_=>by simp[iX]
 |x::ws,h=>by
  have b:=acS a hs ws fun y c=>h y (by simp[c]);have d:=h x (by simp);have f:0<=t*x/s:=a2o (a0q a d) (by omega);have e:t*x/s*s<=t*x:=Int.ediv_mul_le _ (by omega);simp only[iX,a0r,a0p]at b |-;rw[a1n,a1e];omega
def PW:∀(l:List Int) (x:Int),(∀y,y∈l->0<=y)->x∈l->x<=l.sum/\0<=l.sum
 |[],x,_,a=>by simp at a
 |y::l,x,h,a=>by
  have d:=h y (by simp)
  have e:0<=l.sum:=by
   clear a;induction l with
   |nil=>simp
   |cons z l c =>
    rw[a0p];have:=c fun u b=>h u (by simp at b |-;rcases b with rfl|b<;>simp[*]);have:=h z (by simp);omega
  rw[a0p];rcases a0d.1 a with rfl|a
  .omega
  .have:=PW l x (fun u b=>h u (by simp[b])) a
   omega
structure pD (t:Int) (ws:List Int) (s:Int):Prop where
 t0:0<=t
 t1:t<=288230376151711744
 s0:1<=s
 s1:s<=288230376151711744
 all:∀x,x∈ws->0<=x/\x<=s
 sum:ws.sum=s
def pD.of {t:Int} (h:rQ t ws=false) (c:eB ws=0):pD t ws (dP ws):=by
 simp only[rQ,Bool.or_eq_false_iff,Bool.not_eq_false']at h;obtain⟨⟨l,k⟩,j⟩:=h;simp[kX]at l
 have a:∀x,x∈ws->0<=x:=fun x b=>by
  have:=a1t.1 k x b;simp[kX]at this;omega
 obtain⟨s,hs⟩:∃s,dM 0 ws=some s:=by
  unfold eB at c;cases g:dM 0 ws with
  |none=>rw[g]at c;simp at c
  |some s=>exact⟨s,rfl⟩
 have i:dP ws=s:=by simp[dP,hs]
 have f:=wG ws 0 s hs;have m:=fG.1 (Mf ws 0 s (by decide +kernel) hs);obtain⟨x,b,e⟩:=a1u.1 j;simp[A2]at e;have o:=PW ws x a b;have n:=a x b;rw[i];exact⟨by omega,by omega,by omega,by omega,fun y d=>⟨a y d,by have:=PW ws y a d;omega⟩,by omega⟩
def pD.left {t s:Int} (h:pD t ws s) (j:Nat):0<=(iX t s (ws.take j)).sum/\(iX t s (ws.take j)).sum<=t:=by
 have a:=acS h.t0 (show 0<s by have:=h.s0;omega) (ws.take j) fun x g=>(h.all x (a2m g)).1;refine⟨a.1,?_⟩
 have b:(ws.take j).sum<=s:=by
  have e:(ws.take j).sum+(ws.drop j).sum=s:=by rw[<-a1h,a2j,h.sum]
  have:∀l:List Int,(∀y,y∈l->0<=y)->0<=l.sum:=by
   intro l;induction l with
   |nil=>simp
   |cons z l d=>intro c;rw[a0p];have:=d fun u i=>c u (by simp[i]);have:=c z (by simp);omega
  have:=this (ws.drop j) fun y f=>(h.all y (a21 f)).1;omega
 have m:t*(ws.take j).sum<=t*s:=a11 b h.t0;have k:(iX t s (ws.take j)).sum*s<=t*s:=by omega
 exact Int.le_of_mul_le_mul_right k (by have:=h.s0;omega)
def pD.md {t s x:Int} (h:pD t ws s) (b:x∈ws):xD t x s=t*x/s/\mdR t x s=t*x%s:=by
 have a:=h.all x b;have q:=aaZ h.t0 (show 0<s by have:=h.s0;omega) a.1 a.2;have:=h.t0;have:=h.t1;have:=h.s0;simp only[xD,mdR];rw[if_neg (by omega),if_neg (by omega),if_neg (by omega),if_neg (by omega)];exact⟨rfl,rfl⟩
def aes (t s:Int) {j:Nat} (a:j<ws.length):iX t s (ws.take (j+1))=iX t s (ws.take j)++[t*ws.getD j 0/s]:=by
 rw[FC a];simp[iX]
def aeq (t s:Int) {j:Nat} (a:j<ws.length):iW t s (ws.take (j+1))=iW t s (ws.take j)++[t*ws.getD j 0%s]:=by
 rw[FC a];simp[iW]
def Xf (l:List Int) (i j:Nat) (v:Int) (a:i<l.length):(l.set i v).getD j 0=if i=j then v else l.getD j 0:=by
 rw[a0c,a0c,a0o];by_cases h:i=j
 .subst h;simp[a]
 .simp[h]
def Ny:∀(ps:List Nat) (l:List Int) (i:Nat),(∀p,p∈ps->p<l.length)->(nR l ps).getD i 0=l.getD i 0+(ps.count i:Int)
 |[],l,i,h=>by simp[nR]
 |p::ps,l,i,h=>by
  have d:=h p (by simp);have b:=Ny ps (l.set p (l.getD p 0+1)) i (fun q c=>by rw[a1d];exact h q (by simp[c]));have e:nR l (p::ps)=nR (l.set p (l.getD p 0+1)) ps:=rfl;rw[e,b,Xf _ _ _ _ d,List.count_cons];by_cases a:p=i
  .subst a;simp;omega
  .simp[a]
def ajo (l:List Int):∀(i:Nat) (v:Int),i<l.length->(l.set i v).sum=l.sum-l.getD i 0+v:=by
 induction l with
 |nil=>intro i v h;simp at h
 |cons x l a =>
  intro i v h;cases i with
  |zero=>simp;omega
  |succ i =>
   have:=a i v (by simpa using h);simp only[a43,a0p,this];simp;omega
def XQ:∀(ps:List Nat) (l:List Int),(∀p,p∈ps->p<l.length)->(nR l ps).sum=l.sum+(ps.length:Int)
 |[],l,h=>by simp[nR]
 |p::ps,l,h=>by
  have c:=h p (by simp);have a:=XQ ps (l.set p (l.getD p 0+1)) (fun q b=>by rw[a1d];exact h q (by simp[b]));have e:nR l (p::ps)=nR (l.set p (l.getD p 0+1)) ps:=rfl;rw[e,a,ajo _ _ _ c,a0v];omega
def acT (t s:Int):∀(ws:List Int),t*ws.sum=(iX t s ws).sum*s+(iW t s ws).sum
 |[]=>by simp[iX,iW]
 |x::ws=>by
  have a:=acT t s ws;have h:=a39 (t*x) s;simp only[iX,iW,a0r,a0p]at a |-;rw[a1e,a1n,a];have e:s*(t*x/s)=t*x/s*s:=a1j _ _;omega
def xL {n:Nat} (h:kR key (List.range n) m):m.Nodup/\∀i,i∈m↔i<n:=by
 refine⟨?_,fun i=>(kR.mem h).trans a0t⟩;rw[a44];intro a;have b:=h (key a);have d:m.count a=(m.filter fun x=>key x==key a).count a:=by rw[List.count_filter];simp
 have c:(List.range n).count a=((List.range n).filter fun x=>key x==key a).count a:=by rw[List.count_filter];simp
 rw[d,b,<-c];exact a44.1 a34 a
def EX {n:Nat} (d:fP key m) (hs:kR key (List.range n) m) {L i k:Nat} (f:i∈m.take L) (j:k<n) (h:key k<key i\/(key k=key i/\k<i)):k∈m.take L:=by
 have c:m=m.take L++m.drop L:=(a2j L m).symm;have b:k∈m:=((xL hs).2 k).2 j;rw[c]at b;rcases a0m.1 b with a|a
 .exact a
 .exfalso
  rw[c]at d;have o:=(fP.app.1 d).2.2 i f k a
  have l:key k=key i/\k<i:=by
   rcases h with h|h
   .omega
   .exact h
  have g:=hs (key i);rw[c,a1a]at g;have e:((List.range n).filter fun x=>key x==key i).Pairwise (·<·):=(a23 (n:=n)).filter _;rw[<-g]at e;have:=(a2c.1 e).2.2 i (List.mem_filter.2 ⟨f,by simp⟩) k (List.mem_filter.2 ⟨a,by simp[l.1]⟩);omega
def tU (t s:Int) (ws:List Int):Nat:=(min (t-(iX t s ws).sum) ws.length).toNat
def agi (t s:Int) (hs:0<s):∀(ws:List Int),0<=(iW t s ws).sum/\(iW t s ws).sum<=(s-1)*ws.length
 |[]=>by simp[iW]
 |x::ws=>by
  have a:=agi t s hs ws;have c:=a2n (t*x) (show s≠0 by omega);have b:=a3n (t*x) hs;simp only[iW,a0r,a0p,a0v]at a |-;have e:(s-1)*((ws.length+1:Nat):Int)=(s-1)*(ws.length:Int)+(s-1):=by rw[a29,a1e];simp
  omega
def adj {t s:Int} (h:pD t ws s):(tU t s ws:Int)=t-(iX t s ws).sum/\tU t s ws<=ws.length/\(tU t s ws:Int)*s=(iW t s ws).sum:=by
 have hs:0<s:=by have:=h.s0;omega
 have a:=h.left ws.length;rw[a1g]at a;have b:=acT t s ws;rw[h.sum]at b;have c:=agi t s hs ws;have e:(t-(iX t s ws).sum)*s=(iW t s ws).sum:=by rw[a28];omega
 have d:t-(iX t s ws).sum<=ws.length:=by
  rcases a2u (ws.length:Int) (t-(iX t s ws).sum)with g|g
  .exfalso
   have k:(ws.length:Int)*s<=(t-(iX t s ws).sum)*s:=a2k (by omega) (by omega);have i:((ws.length:Int)+1)*s<=(t-(iX t s ws).sum)*s:=a2k (by omega) (by omega);have j:(s-1)*(ws.length:Int)=(ws.length:Int)*s-(ws.length:Int):=by rw[a28,a1j];omega
   rw[a1n]at i;omega
  .exact g
 have f:(tU t s ws:Int)=t-(iX t s ws).sum:=by unfold tU;omega
 exact⟨f,by omega,by rw[f];exact e⟩
def Tn {t s:Int} {i:Nat} (a:i<ws.length):(iX t s ws).getD i 0=t*ws.getD i 0/s:=by
 simp[iX,a0c,a]
def Ti {t s:Int} {i:Nat} (a:i<ws.length):(iW t s ws).getD i 0=t*ws.getD i 0%s:=by
 simp[iW,a0c,a]
def zJ (t s:Int) (ws:List Int):(iX t s ws).length=ws.length:=by simp[iX]
def MB (t s:Int) (ws:List Int):(iW t s ws).length=ws.length:=by simp[iW]
def Pf:∀(l m:List Nat),l.Nodup->(∀x,x∈l->x∈m)->l.length<=m.length
 |[],m,_,_=>by simp
 |x::l,m,h,c=>by
  have h':=a3z.1 h;have b:=c x (by simp);have d:=Pf l (m.erase x) h'.2 fun y a=>(List.mem_erase_of_ne (by rintro rfl;exact h'.1 a)).2 (c y (by simp[a]));rw[a5g b]at d;have:=a5h b;simp only[a0v];omega
structure Fair (t s:Int) (ws A:List Int):Prop where
 len:A.length=ws.length
 sum:A.sum=t
 one:∀i,i<ws.length->A.getD i 0=t*ws.getD i 0/s\/A.getD i 0=t*ws.getD i 0/s+1
 none:∀i,i<ws.length->ws.getD i 0=0->A.getD i 0=0
 mono:∀i k,k<i->i<ws.length->ws.getD i 0<=ws.getD k 0->A.getD i 0<=A.getD k 0
def N7 (l:List Int) (s:Int) (b:∀z,z∈l->0<=z/\z<s):l.sum<=(s-1)*((l.filter fun z=>decide (0<z)).length:Int):=by
 induction l with
 |nil=>simp
 |cons z l a =>
  have a:=a fun y c=>b y (by simp[c]);have d:=b z (by simp);by_cases h:0<z
  .rw[a41 (by simpa using h),a0p,a0v]
   have e:(s-1)*(((l.filter fun z=>decide (0<z)).length+1:Nat):Int)=(s-1)*((l.filter fun z=>decide (0<z)).length:Int)+(s-1):=by rw[a29,a1e];simp
   omega
  .rw[a40 (by simpa using h),a0p]
   omega
def Il (l:List Int) (p:Int->Bool):((List.range l.length).filter fun i=>p (l.getD i 0)).length=(l.filter p).length:=by
 have:l=(List.range l.length).map fun i=>l.getD i 0:=by
  apply a26
  .simp
  .intro i a b
   simp[a0c,a]
 conv=>rhs;rw[this]
 rw[a4z,a0w];rfl
def adz {t s:Int} (h:pD t ws s) (E:fP (vP (iW t s ws)) m) (hs:kR (vP (iW t s ws)) (List.range ws.length) m) :
  Fair t s ws (nR (iX t s ws) (m.take (tU t s ws))):=by
 have n:0<s:=by have:=h.s0;omega
 obtain⟨u,mem⟩:=xL hs;obtain⟨L1,U,T⟩:=adj h;obtain⟨L,R⟩:∃L,tU t s ws=L:=⟨_,rfl⟩
 rw[R]at L1 U T |-;have V:m.length=ws.length:=by
  have:=(a4l u a34).2 fun i=>(mem i).trans a0t.symm;rw[this.length_eq,a4m]
 have r:∀p,p∈m.take L->p<(iX t s ws).length:=fun p P=>by rw[zJ];exact(mem p).1 (a2m P)
 have A:∀i,(m.take L).count i=if i∈m.take L then 1 else 0:=fun i=>by
  have B:=a44.1 (u.sublist (a45 L m)) i;by_cases l:i∈m.take L
  .have:=List.count_pos_iff.2 l
   rw[if_pos l];omega
  .rw[if_neg l,List.count_eq_zero.2 l]
 have d:∀i,i<ws.length->(nR (iX t s ws) (m.take L)).getD i 0=t*ws.getD i 0/s+if i∈m.take L then 1 else 0:=fun i a=>by
  rw[Ny _ _ _ r,Tn a,A];split<;>rfl
 have N:∀i,i<ws.length->0<=ws.getD i 0:=fun i a=>by
  have:ws.getD i 0∈ws:=by rw[a0c,a0f a];exact a2w a
  exact(h.all _ this).1
 have b:∀i,i<ws.length->vP (iW t s ws) i=-(t*ws.getD i 0%s):=fun i a=>by unfold vP;rw[Ti a]
 have w:∀i,i∈m.take L->0<t*ws.getD i 0%s:=by
  intro i a;have J:i<ws.length:=(mem i).1 (a2m a);rcases a2u 0 (t*ws.getD i 0%s)with B|B
  .exact B
  .exfalso
   have C:=a2n (t*ws.getD i 0) (show s≠0 by omega)
   have v:∀k,k∈((List.range ws.length).filter fun k=>decide (0<(iW t s ws).getD k 0))->k∈(m.take L).erase i:=by
    intro k f;obtain⟨I,q⟩:=List.mem_filter.1 f;have e:=a0t.1 I;simp only[decide_eq_true_eq]at q;rw[Ti e]at q;have:k∈m.take L:=EX E hs a e (.inl (by rw[b k e,b i J];omega));exact(List.Nodup.mem_erase_iff (u.sublist (a45 L m))).2 ⟨by rintro rfl;omega,this⟩
   have y:((List.range ws.length).filter fun k=>decide (0<(iW t s ws).getD k 0)).length<=((m.take L).erase i).length:=by
    have D:((List.range ws.length).filter fun k=>decide (0<(iW t s ws).getD k 0)).Nodup:=List.nodup_range.filter _;exact Pf _ _ D v
   have W:((m.take L).erase i).length+1=L:=by
    rw[a5g a,a17];have:=a5h a;rw[a17]at this;omega
   have M:=N7 (iW t s ws) s (fun z O=>by
    obtain⟨x,Y,rfl⟩:=a0j.1 O;exact⟨a2n _ (by omega),a3n _ n⟩)
   have e1:=Il (iW t s ws) fun z=>decide (0<z);rw[MB]at e1;rw[<-e1]at M;obtain⟨c,K⟩:∃c,((List.range ws.length).filter fun k=>decide (0<(iW t s ws).getD k 0)).length=c:=⟨_,rfl⟩;rw[K]at M y;have h5:(s-1)*(c:Int)<=(s-1)*((L:Int)-1):=a11 (by omega) (by omega);have h6:(s-1)*((L:Int)-1)=(L:Int)*s-s-L+1:=by rw[a28,Int.mul_sub,a1j s];omega
   have X:1<=L:=(by omega);omega
 refine⟨by rw[Nx,zJ],?_,fun i a=>?_,fun i a C=>?_,fun i k G a o=>?_⟩
 .rw[XQ _ _ r,a17,V]
  omega
 .rw[d i a]
  split<;>omega
 .rw[d i a,C]
  have:i ∉ m.take L:=fun Q=>by have:=w i Q;rw[C]at this;simp at this
  rw[if_neg this];simp
 .have f:k<ws.length:=by omega
  rw[d i a,d k f];have Z:t*ws.getD i 0/s<=t*ws.getD k 0/s:=Int.ediv_le_ediv n (a11 o h.t0);by_cases j:i∈m.take L
  .rw[if_pos j]
   by_cases F:t*ws.getD i 0/s=t*ws.getD k 0/s
   .have S:=a39 (t*ws.getD i 0) s
    have d2:=a39 (t*ws.getD k 0) s;have d3:t*ws.getD i 0<=t*ws.getD k 0:=a11 o h.t0
    rw[F]at S;have H:k∈m.take L:=EX E hs j f (by
     rw[b k f,b i a];rcases a2u (t*ws.getD i 0%s) (t*ws.getD k 0%s)with g|g
     .exact .inl (by omega)
     .exact .inr ⟨by omega,G⟩)
    rw[if_pos H];omega
   .split<;>omega
  .rw[if_neg j]
   split<;>omega
def jW (l:List Int) (ps:List Nat):List Int:=ps.foldl (fun l i=>l.set i (-1)) l
def SV (l:List Int) (ps:List Nat) (i:Nat):jW l (ps++[i])=(jW l ps).set i (-1):=by simp[jW,List.foldl_append]
def aaA (l:List Int) (ps:List Nat):(jW l ps).length=l.length:=by
 induction ps generalizing l with
 |nil=>rfl
 |cons i ps a=>simp only[jW,a2l]at a |-;rw[a];simp
def sQ:∀(ps:List Nat) (l:List Int) (i:Nat),i<l.length->(jW l ps).getD i 0=if i∈ps then -1 else l.getD i 0
 |[],l,i,h=>by simp[jW]
 |p::ps,l,i,h=>by
  have c:=sQ ps (l.set p (-1)) i (by rw[a1d];exact h);have e:jW l (p::ps)=jW (l.set p (-1)) ps:=rfl;rw[e,c];by_cases b:i∈ps
  .simp[b]
  .rw[if_neg b]
   by_cases a:p=i
   .subst a
    rw[Xf _ _ _ _ h];simp
   .have:i ∉ p::ps:=by simp[b];exact fun e=>a e.symm
    rw[if_neg this,a0c,a3a a,<-a0c]
def ak1 {rem:List Int} {i B:Nat} (r:fP (vP rem) m) (hs:kR (vP rem) (List.range rem.length) m) (o:∀z,z∈rem->0<=z) (v:i<rem.length) (f:B<rem.length)
  (h1:∀k,k<rem.length->(jW rem (m.take i)).getD k 0<=(jW rem (m.take i)).getD B 0) (u:∀k,k<B->(jW rem (m.take i)).getD k 0<(jW rem (m.take i)).getD B 0):m[i]?=some B:=by
 obtain⟨p,mem⟩:=xL hs;have w:m.length=rem.length:=by
  have:=(a4l p a34).2 fun i=>(mem i).trans a0t.symm;rw[this.length_eq,a4m]
 obtain⟨x,n⟩:∃x,m[i]?=some x:=⟨m[i]'(by omega),a0f _⟩;rw[n];have q:x∈m:=a0a n;have a:x<rem.length:=(mem x).1 q;have c:m.take (i+1)=m.take i++[x]:=by rw[a0u,n];rfl
 have j:x ∉ m.take i:=by
  intro h;have:=p.sublist (a45 (i+1) m);rw[c]at this;exact(a33.1 this).2.2 x h x (by simp) rfl
 have l:∀k,k<rem.length->0<=rem.getD k 0:=fun k s=>o _ (by rw[a0c,a0f s];exact a2w s);have e1:=h1 x a;rw[sQ _ _ _ a,if_neg j,sQ _ _ _ f]at e1;have d:B ∉ m.take i:=fun h=>by rw[if_pos h]at e1;have:=l x a;omega
 rw[if_neg d]at e1;have t:B=x:=by
  have key:B∈m.take (i+1)->B=x:=fun h=>by
   rw[c]at h;rcases a0m.1 h with h|h
   .exact absurd h d
   .simpa using h
  have b:x∈m.take (i+1):=by rw[c];simp
  rcases a2u (rem.getD x 0) (rem.getD B 0)with g|g
  .exact key (EX r hs b f (.inl (by unfold vP;omega)))
  .rcases Nat.lt_trichotomy B x with e|e|e
   .exact key (EX r hs b f (.inr ⟨by unfold vP;omega,e⟩))
   .exact e
   .have:=u x e
    rw[sQ _ _ _ a,if_neg j,sQ _ _ _ f,if_neg d]at this;omega
 rw[t]
def EP (key:Nat->Int) (x:Nat):List Nat->List Nat
 |[]=>[x]
 |y::l=>if key x<key y then x::y::l else y::EP key x l
def Of (key:Nat->Int) (l:List Nat):List Nat:=l.foldl (fun a x=>EP key x a) []
def T8 {key:Nat->Int} {x z:Nat}:∀{l:List Nat},z∈EP key x l↔z=x\/z∈l
 |[]=>by simp[EP]
 |y::l=>by
  unfold EP;split
  .simp
  .rw[a0d,T8,a0d]
   constructor
   .rintro(h|h|h)
    .exact .inr (.inl h)
    .exact .inl h
    .exact .inr (.inr h)
   .rintro(h|h|h)
    .exact .inr (.inl h)
    .exact .inl h
    .exact .inr (.inr h)
def Na {key:Nat->Int} {x:Nat}:∀{l:List Nat},fP key l->fP key (EP key x l)
 |[],_=>by simp[EP,fP]
 |y::l,h=>by
  unfold EP;have b:=a2b.1 h;split
  .refine a2b.2 ⟨fun z a=>?_,h⟩
   rcases a0d.1 a with rfl|a
   .omega
   .have:=b.1 z a;omega
  .refine a2b.2 ⟨fun z a=>?_,Na b.2⟩
   rcases T8.1 a with rfl|a
   .omega
   .exact b.1 z a
def IV {key:Nat->Int} {x:Nat} (k:Int):∀{l:List Nat},fP key l->(EP key x l).filter (fun z=>key z==k)=l.filter (fun z=>key z==k)++[x].filter (fun z=>key z==k)
 |[],_=>by simp[EP]
 |y::l,h=>by
  unfold EP;have c:=a2b.1 h;split
  .rename_i f
   by_cases b:key x=k
   .have e:(y::l).filter (fun z=>key z==k)=[]:=by
     rw[a4c];intro z a;have:key y<=key z:=by
      rcases a0d.1 a with rfl|a
      .omega
      .exact c.1 z a
     simp;omega
    rw[a1m,e];simp[b]
   .rw[a1m];simp[b]
  .have d:=IV (x:=x) k c.2
   rw[a1m,d,show(y::l).filter (fun z=>key z==k)=if(key y==k)=true then y::l.filter (fun z=>key z==k)else l.filter (fun z=>key z==k)from a1m ..];split<;>simp
def LF (l:List Nat):fP key (Of key l)/\kR key l (Of key l):=by
 have go:∀(l a b:List Nat),fP key b->kR key a b->fP key (l.foldl (fun a x=>EP key x a) b)/\kR key (a++l) (l.foldl (fun a x=>EP key x a) b):=by
  intro l;induction l with
  |nil=>intro a b c d;simpa using⟨c,d⟩
  |cons x l e =>
   intro a b c d;have:=e (a++[x]) (EP key x b) (Na c) (fun k=>by rw[IV k c,d k,a1a]);simpa using this
 unfold Of;simpa using go l [] [] (by simp[fP]) (fun k=>rfl)
def eG (t:Int) (ws:List Int):List Int×Int :=
 if rQ t ws then([],1)else if eB ws≠0 then([],2)else(nR (iX t (dP ws) ws) ((Of (vP (iW t (dP ws) ws)) (List.range ws.length)).take (tU t (dP ws) ws)),0)
end
end Go.Proofs.YtnepgggkgnckcaaGreat
