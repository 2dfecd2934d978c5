/-
 Texts joined and made small by wip/small.sh.
-/
import Derived.Test.YtnepgggkgnckcaaGreatJ6
set_option linter.all false
set_option maxHeartbeats 4000000
set_option maxRecDepth 1000000
namespace Go.Proofs.YtnepgggkgnckcaaGreat
open Go.RowKit
section
open Mc
section
variable {S:bK} {e item loc:Int}
def Sh (G:Gn S) (X:Ix S e item) (s:0<=loc) (n:loc<=1) (hm:S.cX e item=3) :
  Ck 62 [S.av,.i e,.i item,.i loc] (.bG [(iW S e item loc).1.av,.i (iW S e item loc).2]):=by
 have h:=G.toStOk;have:=h.hn;have:=h.hw;have:=X.e0;have:=X.e1;have:=X.i0;have:=X.i1;have x:=lT h X s n;have a:=h.AS X s n;obtain⟨z,a2,y,W,V⟩:=PY (d:=((S.aJ e).bE (2*item+loc)).pn) a.lr;have j:(qF ((S.aJ e).bE (2*item+loc)).aX ((S.aJ e).bE (2*item+loc)).pn).1.length<=1:=by rcases a.one with h1|h1<;>omega
 have q0:=gG z.ok;have b0:=a.a0;have b1:=a.b0;have b2:=a.c0;have b3:=a.sum;have b4:=a.lr.q;have D:=a.lr;have t:=fun P=>sK h X s n P
 have T:=fun p u=>jK h X s n (p:=p) u;rw[hm]at T;unfold iW;generalize (S.aJ e).bE (2*item+loc)=P at *;obtain⟨L,p0,p1,p2⟩:=P;have hs:=Sl (L:=L) (p0:=p0) (p1:=p1) (p2:=p2) D (by change 0<=p0 at b0;change 0<=p1 at b1;change 0<=p2 at b2;change p0+p1+p2<=_ at b3;omega) (by change 0<=p0 at b0;change 0<=p1 at b1;change 0<=p2 at b2;change p0+p1+p2<=_ at b3;omega) (by change 0<=p0 at b0;change 0<=p1 at b1;change 0<=p2 at b2;change p0+p1+p2<=_ at b3;omega);change 0<=p0 at b0;change 0<=p1 at b1;change 0<=p2 at b2;change p0+p1+p2<=_ at b3;have U:(⟨L,p0,p1,p2⟩:dI).pn=⟨p0,p1,p2⟩:=rfl;rw[U]at z a2 y W V j q0 |-;dsimp only at z a2 y W V j q0 D b4 b3 |-;by_cases Q:p0+p1+p2=0
 .rw[if_pos Q]
  exact cw _ (ev1 { vars:=[(0,3),(0,4),(0,1),Kfs,Kfs,Kfs],facts:=[([([3],1),([4],1),([5],1)],0,0)],bR:=[Vr] } [e,item,loc,p0,p1,p2] (vT S []) (sT S [aO L]) .nil) KaT KbO (kc x kn)
 rw[if_neg Q];generalize qF L ⟨p0,p1,p2⟩=r at *;obtain⟨M,⟨xq,xv,xp⟩,⟨J,g,K⟩,⟨F,b,H⟩⟩:=r;dsimp only at *;have t:=t ⟨M,0,0,0⟩;have m:=T ⟨M,0,0,0⟩ ⟨z,.inr j,by show(0:Int)<=0;omega,by show(0:Int)<=0;omega,by show(0:Int)<=0;omega,by show(0:Int)+0+0<=qs M;omega,.inl rfl⟩;generalize S.bJ e ((S.aJ e).bX (2*item+loc) ⟨M,0,0,0⟩)=S0 at *;obtain⟨C,rfl⟩:=m.ex;have u:=eM m.ok (m.ix X) (l:=[⟨5,xv⟩,⟨7,g⟩,⟨8,b⟩,⟨0,-xv⟩,⟨0,-g⟩,⟨0,-b⟩]) (vK fmo) (by simp);obtain⟨Z,e1,-⟩:=eX m.ok (m.ix X) [⟨5,xv⟩,⟨7,g⟩,⟨8,b⟩,⟨0,-xv⟩,⟨0,-g⟩,⟨0,-b⟩];generalize dS (S.bQ C) e [⟨5,xv⟩,⟨7,g⟩,⟨8,b⟩,⟨0,-xv⟩,⟨0,-g⟩,⟨0,-b⟩]=r at *;obtain⟨S1,f⟩:=r;dsimp only at *;have k:=m.trans Z;obtain⟨B,rfl⟩:=k.ex;by_cases w:f=0;rotate_left
 .rw[if_pos w]
  have f2:1<=f/\f<=20:=by unfold gZ at e1;omega
  exact cw _ (ev1 { vars:=Jr,facts:=GI,bR:=[Vr,J8,ZQ,(92,JN,(.bG [KfR,.v 9]))] } [e,item,loc,p0,p1,p2,xv,g,b,f] (vT S [.I xq,.I xp,.I J,.I K,.I F,.I H]) (sT S [aO L,aO M,bD C,bD B]) .nil) KaT KbP (kc x (kc hs (kc t (kc u kn))))
 subst w;rw[if_neg (by simp)];have R:=fQ k.ok (k.ix X) (r:=[0,0,0,0,0,xv,0,0,g,b,0]) rfl;obtain⟨Y,e2,-⟩:=gN k.ok (k.ix X) (r:=[0,0,0,0,0,xv,0,0,g,b,0]) rfl;generalize eC (S.bQ B) e item [0,0,0,0,0,xv,0,0,g,b,0]=r at *;obtain⟨S2,f⟩:=r;dsimp only at *;have O:=k.trans Y;obtain⟨A,rfl⟩:=O.ex;by_cases w:f=0;rotate_left
 .rw[if_pos w]
  have f2:1<=f/\f<=20:=by unfold gZ at e2;omega
  exact cw _ (ev1 { vars:=Jr,facts:=GI,bR:=[Vr,J8,ZQ,Jf,(124,ZH,(.bG [KfS,.v 9]))] } [e,item,loc,p0,p1,p2,xv,g,b,f] (vT S [.I xq,.I xp,.I J,.I K,.I F,.I H]) (sT S [aO L,aO M,bD C,bD B,bD A]) .nil) KaT KbP (kc x (kc hs (kc t (kc u (kc R kn)))))
 subst w;rw[if_neg (by simp)];have N:=Si (xq:=xq) (xv:=xv) (xp:=xp) (O.gn G) (O.ix X) s n y.1 y.2
 obtain⟨c,E⟩:∃c,kH (S.bQ A) e item loc ⟨xq,xv,xp⟩={ S.bQ A with aN:=c }:=by
  unfold kH;split
  .exact⟨S.aN,rfl⟩
  .exact⟨_,rfl⟩
 rw[E]at N;dsimp only at N |-;rw[E];exact cw _ (ev1 { vars:=[(0,3),(0,4),(0,1),Kfs,Kfs,Kfs,Kfs,Kfs,Kfs],facts:=GI,bR:=[Vr,J8,ZQ,Jf,(124,ZH,(.bG [KfS,.i 0])),(125,[KfS,.v 0,.v 1,.v 2,(.agg [.o 3,.v 6,.o 4])],Ye)] } [e,item,loc,p0,p1,p2,xv,g,b] (vT S [.I xq,.I xp,.I J,.I K,.I F,.I H]) (sT S [aO L,aO M,bD C,bD B,bD A,dX c]) .nil) KaT Ye (kc x (kc hs (kc t (kc u (kc R (kc N kn))))))
end
namespace MK
abbrev mF (e lines i:AV):List AV:=fr 99 [(1,e),(2,.ptr 10 0 0 0),(4,.ptr 10 1 0 0),(5,.i 0),(6,.ptr 10 2 0 0),(7,lines),(8,i)]
abbrev oL (n:Nat):AV:=.own 44 2 9 0 n
abbrev mB (S:bK) (e:Int) (x:dL) (a:List Int):List Mc.dC:=[.cells 31 10 [[.i S.bU,.i S.bT,.lit 1 (aA S.weights),.lit 1 (bF S.methods),.lit 1 (bF S.cI),.lit 8 (bD S.aD),.lit 8 (hH S.bB),.lit 9 (dX S.aN),.lit 6 (fM S.aH),.i S.done]],
 .cells 31 10 H4,
 .cells 31 10 [[.i S.bU,.i S.bT,.lit 1 (aA S.weights),.lit 1 (bF S.methods),.lit 1 (bF S.cI),.own 76 8 3 0 S.aD.length,.lit 8 (hH S.bB),.lit 9 (dX S.aN),.lit 6 (fM S.aH),.i S.done]],
 .cells 76 8 ((bD S.aD).set e.toNat [.i x.now,.c (.bool x.closed),.own 161 4 4 0 (2*(S.weights.length:Int)).toNat,.own 3 1 5 0 17,.own 140 11 6 0 S.weights.length,.own 3 1 7 0 S.weights.length,.own 3 1 8 0 S.weights.length,.lit 8 (bW x.ahead)]),
 .cells 161 4 (bP x.bH),.cells 3 1 (aA x.cU),.cells 140 11 (bM x.aM),.cells 3 1 (aA x.aZ),.cells 3 1 (aA a)]
abbrev lB (l:List dE):Mc.dC:=.cells 44 2 (bS l)
noncomputable def body:Code:=(Tryz.f63).body.getD .skip
abbrev al9 (c:Code) (r:Option (RT Out)):Prop:=nV { vars:=Kf8,facts:=KdX,lens:=Yk,gI:=Vy } c (KdM++List.replicate 97 .undef) [] [some 0,some 1,some 10,some 4,some 5,some 6,some 7,some 8,some 9,none] (mF (.v 1) (.own 44 2 9 0 0) (.i 0)) [YH,V3,Zo,Jg,Kdf,KdO,Kc4,Kdj,(.sc 3 1 11 [] [] [([2],1)]),(.cells 44 2 [])] r
noncomputable def alQ:Option (RT Out):=uL { vars:=Kf8,facts:=KdX,lens:=Yk,gI:=Vy } body (KdM++List.replicate 97 .undef:List AV).length (KdM++List.replicate 97 .undef) [] 0
def aoH:al9 body alQ:=⟨rfl,by decide +kernel,by decide +kernel⟩
abbrev agU (c:Code):Prop:=dD { vars:=[(0,4),(0,3),(1,5),(0,10),(0,4),(-1152921504606846976,-1)],facts:=GJ,lens:=QD,gI:=[VP,(10,[([4],1)],[.v 5])] } c (mF (.v 1) KeF (.v 4)) Kc 0 [some 0,some 1,some 2,some 3,some 4,some 5,some 6,some 7,some 8,some 9] (mF (.v 1) KeF KfB) Kc
abbrev ade (c:Code):Prop:=dD { vars:=[(0,4),(0,3),(1,5),(0,10),(0,4),Kfs,Kfs,Kfs],facts:=GJ,lens:=QD,gI:=[VP,(10,[([4],1)],[.v 5]),(13,[([4],1)],[.v 7])],bR:=[(52,[KfT,.v 1,.v 4],(.agg [.o 5,.o 6,.o 7])),(126,[.o 6,.o 5,.v 5],(.v 6))] } c (mF (.v 1) KeF (.v 4)) Kc 0 [some 0,some 1,some 2,some 3,some 4,some 5,some 6,some 7,some 8,some 12] (mF (.v 1) (.cZ 44 2 9 [([],2),([3],1)]) KfB) [YH,V3,Zo,Jg,Kdf,KdO,Kc4,Kdj,(.sc 3 1 13 [([([4],1)],[.v 6])] [] [([2],1)]),(.sc 44 2 14 [] [[.i 10,(.e [([6],1),([7],-1)])],[.i 11,(.e [([6],-1),([7],1)])]] [([],2),([3],1)])]
abbrev al8 (c:Code):Prop:=dD { vars:=[(0,4),(0,3),(1,5),(0,10)],facts:=KdX,lens:=QD,gI:=Vy } c (mF (.v 1) KeF (.v 2)) Kc 2 [some 0,some 1,some 2,some 3,some 4,some 5,some 6,some 7,some 8,some 9] (mF (.v 1) KeF (.v 2)) Kc
noncomputable abbrev fC:Func:=Tryz.f63
section
variable {S:bK} {e:Int} {A:Nat->Prop} {w0:World} {a0:Act} {R:AV}
def loop (oA:Option (RT Out)) (rn:agU (aW oA)) (Y:ade (aW oA)) (Z:al8 (aW oA)) (G:Gn S) (X:Ix S e 0) {x:dL} (s:x=S.aJ e)
  {mm:Nat->St} {w:World} {aa:Act} (b:@dZ dK dN A w0 a0 mm w aa (mF (.i e) (oL 0) (.i 0)) (eB (mB S e x (nQ S e 0)++[lB (mR S e 0)])))
  (K:∀mm w aa,@dZ dK dN A w0 a0 mm w aa (mF (.i e) (oL (mR S e S.weights.length).length) (.i (S.weights.length:Int))) (eB (mB S e x (nQ S e S.weights.length)++[lB (mR S e S.weights.length)]))->KS Tryz.prog (oK oA) (Fin Tryz.prog fC A w0 a0 R) (AX.exit 0).to aa w) :
  (Code.loop (aW oA)).wpIn (fw none) 9 Tryz.prog (KS Tryz.prog (oK oA) (Fin Tryz.prog fC A w0 a0 R)) aa w:=by
 have h:=G.toStOk;have hn:=h.hn;have hw:=h.hw;have:=X.e0;have:=X.e1;have:=X.i1;have ab:M58=288230376151711744:=rfl;have E:=h.zN X;have q:=h.at_ X;have q:S.aD[e.toNat]?=some ⟨⟨x.now,x.closed,x.bH,x.cU,x.aM,x.aZ,x.down⟩,x.ahead⟩:=by rw[s];exact q
 have pl:=E.pl;have bl:=E.bl;have rl:=E.rl;have J:=E.pr;have P:=E.dl;have z:=E.prb;have Q:=E.db;rw[<-s]at pl bl rl J P z Q;have N:∀j,(nQ S e j).length=S.weights.length:=fun j=>by rw[zE,<-s];exact P
 have M:=MW S e;refine cN (fun n a' w=>∃(j:Nat),n=S.weights.length-j/\j<=S.weights.length/\∃mm,@dZ dK dN A w0 a0 mm w a' (mF (.i e) (oL (mR S e j).length) (.i (j:Int))) (eB (mB S e x (nQ S e j)++[lB (mR S e j)]))) ?_ (n:=S.weights.length) ⟨0,rfl,a0j _,_,b⟩;rintro n aa w ⟨j,rfl,hj,mm,b⟩;have af:=N j;have C:=M j;rcases(by omega:j=S.weights.length\/j<S.weights.length)with rfl|ae
 .generalize nQ S e S.weights.length=f at *
  generalize mR S e S.weights.length=c at *;obtain⟨m,t⟩:∃m:Nat,c.length=m:=⟨_,rfl⟩;rw[t]at b C K;refine Z.go (ev1 _ [(S.aD.length:Int),e,(S.weights.length:Int),(m:Int)] (vT S [.I x.now,.bool x.closed]) (sT S [bP x.bH,aA x.cU,bM x.aM,aA x.aZ,aA x.down,bW x.ahead,aA f,bS c]) (.d (aE q) .nil)) (xK kn) b ?_;exact K
 .have u:x.aZ[(j:Int).toNat]?=some (x.aZ.getD j 0):=getD_some (by omega)
  have ac:=z _ (dR (d:=0) (k:=j) (l:=x.aZ) (by omega))
  have ho:(nQ S e j)[(j:Int).toNat]?=some (S.down e j):=by
   rw[<-ahU S e j];exact getD_some (by omega)
  have ad:0<=S.down e j/\S.down e j<=288230376151711744:=by
   unfold bK.down;rw[<-s];exact Q _ (dR (by omega))
  have g:S.sV e j=x.aZ.getD j 0:=by unfold bK.sV;rw[s]
  have nx:∀mm w a,@dZ dK dN A w0 a0 mm w a (mF (.i e) (oL (mR S e (j+1)).length) (.i (1+(j:Int)))) (eB (mB S e x (nQ S e (j+1))++[lB (mR S e (j+1))]))->∃n',n'<S.weights.length-j/\∃(r:Nat),n'=S.weights.length-r/\r<=S.weights.length/\∃mm,@dZ dK dN A w0 a0 mm w a (mF (.i e) (oL (mR S e r).length) (.i (r:Int))) (eB (mB S e x (nQ S e r)++[lB (mR S e r)])):=by
   intro mm w a b;rw[show(1+(j:Int))=((j+1:Nat):Int)by omega]at b;exact⟨_,by omega,j+1,rfl,by omega,mm,b⟩
  simp only[mR,nQ,g]at nx;have Xj:Ix S e (j:Int):=⟨X.e0,X.e1,by omega,by omega⟩
  have O:=uX h Xj;have v:∀p,fW p->Ck 126 [.i (bZ S e (j:Int)).1.v,.i (bZ S e (j:Int)).1.q,.i p] (.i (vC (bZ S e (j:Int)).1.v (bZ S e (j:Int)).1.q p)):=fun p u=>by
   have V:=Ls [vs ((S.aJ e).bE (2*(j:Int))).aX,vs ((S.aJ e).bE (2*(j:Int)+1)).aX];have U:=Ls [qs ((S.aJ e).bE (2*(j:Int))).aX,qs ((S.aJ e).bE (2*(j:Int)+1)).aX];unfold qC at V U;exact Sk (by unfold bZ;exact⟨by dsimp only;omega,by dsimp only;omega⟩) (by unfold bZ;exact⟨by dsimp only;omega,by dsimp only;omega⟩) u
  have B:=Lq S e j;have L:NZ S e j=vC (bZ S e (j:Int)).1.v (bZ S e (j:Int)).1.q (x.aZ.getD j 0):=by unfold NZ;rw[g]
  rw[L]at B nx;generalize x.aZ.getD j 0=p at *;have v:=v p ⟨by omega,by omega⟩;generalize bZ S e (j:Int)=W at *;obtain⟨⟨H,F,T⟩,wb⟩:=W;dsimp only at O v B nx;generalize vC F H p=d at *;generalize S.down e j=o at *;generalize nQ S e j=f at *;generalize mR S e j=c at *;obtain⟨m,t⟩:∃m:Nat,c.length=m:=⟨_,rfl⟩;rw[t]at b C;by_cases y:0<=p
  .rw[if_pos y,if_pos y]at nx
   have al:(c++([⟨10,d-o⟩,⟨11,-d+o⟩]:List dE)).length=m+2:=(by simp[t]);have m2:(2+(m:Int)).toNat=m+2:=(by omega);have D:-(d-o)=-d+o:=(by omega);rw[D,al]at nx;refine Y.go (ev1 _ [(S.aD.length:Int),e,(S.weights.length:Int),(m:Int),(j:Int),p,d,o] (vT S [.I x.now,.bool x.closed,.I H,.I F,.I T]) (sT S [bP x.bH,aA x.cU,bM x.aM,aA x.aZ,aA x.down,bW x.ahead,aA f,bS c]) (.d (aE q) (.d (aI u) (.d (aI ho) .nil)))) (xK (kc O (kc v kn))) b (fd:=mF (.i e) (oL (2+(m:Int)).toNat) (.i (1+(j:Int)))) (bd:=(mB S e x []).take 8++[.cells 3 1 ((aA f).set (j:Int).toNat [.i d]),.cells 44 2 (bS c++[[.i 10,.i (d-o)],[.i 11,.i (-d+o)]])]) ?_;intro mm w a b;rw[m2]at b;refine nx mm w a ?_;change @dZ dK dN A w0 a0 mm w a _ (eB ((mB S e x []).take 8++[.cells 3 1 (aA (f.set j d)),.cells 44 2 (bS (c++([⟨10,d-o⟩,⟨11,-d+o⟩]:List dE)))]));rw[show aA (f.set j d)=(aA f).set (j:Int).toNat [.i d]by simp[aA,a06],show bS (c++([⟨10,d-o⟩,⟨11,-d+o⟩]:List dE))=bS c++[[.i 10,.i (d-o)],[.i 11,.i (-d+o)]]by simp[bS];exact⟨rfl,rfl⟩];exact b
  .rw[if_neg y,if_neg y,a1i,t]at nx
   refine rn.go (ev1 _ [(S.aD.length:Int),e,(S.weights.length:Int),(m:Int),(j:Int),p] (vT S [.I x.now,.bool x.closed]) (sT S [bP x.bH,aA x.cU,bM x.aM,aA x.aZ,aA x.down,bW x.ahead,aA f,bS c]) (.d (aE q) (.d (aI u) .nil))) (xK kn) b (fd:=mF (.i e) (oL m) (.i (1+(j:Int)))) (bd:=mB S e x f++[lB c]) ?_;exact nx
def walk (oA:Option (RT Out)) (H:al9 body oA) (C:agU (aW oA)) (z:ade (aW oA)) (B:al8 (aW oA)) (ro:iU { vars:=[(0,4),(0,3),(1,5),(0,10)],facts:=KdX,lens:=QD,gI:=Vy,bR:=[(92,QW,Kbr)] } Tryz.f63 oA 0 (mF (.v 1) KeF (.v 2)) Kc (Kbr)) (F:iU { vars:=[(0,4),(0,3),(1,5),(0,10),(1,20)],facts:=KdX,lens:=QD,gI:=Vy,bR:=[(92,QW,(.bG [(sN (.q 8 15) (.o 2)),.v 4]))] } Tryz.f63 oA 0 (mF (.v 1) KeF (.v 2)) Kc ((.bG [KfT,.v 4]))) (G:Gn S) (X:Ix S e 0) :
  Ck 63 [S.av,.i e] (.bG [(qL S e).1.av,.i (qL S e).2]):=by
 have h:=G.toStOk;have W:=h.hn;have V:=h.hw;have:=X.e0;have:=X.e1;have:=X.i1;have E:=h.zN X;have b:=h.at_ X;have K:=Sb h X (zE S e S.weights.length) (RH E.db _);have N:=vK (akl (S:=S) (e:=e) E.db S.weights.length);have T:=MW S e S.weights.length;have n:=eM K.ok (K.ix X) (l:=mR S e S.weights.length) N (by omega);obtain⟨L,e1,-⟩:=eX K.ok (K.ix X) (mR S e S.weights.length);have U:(nQ S e S.weights.length).length=S.weights.length:=by rw[zE];exact E.dl
 refine CK.fP Tryz.func63 (c:=body) (by kernel_rfl) (yO.out) (uD.out) fun A w0 a0=>?_;generalize j:AV.bG [(qL S e).1.av,.i (qL S e).2]=R;unfold qL at j;obtain⟨x,g⟩:∃x,x=S.aJ e:=⟨_,rfl⟩;have b:S.aD[e.toNat]?=some ⟨⟨x.now,x.closed,x.bH,x.cU,x.aM,x.aZ,x.down⟩,x.ahead⟩:=by rw[g];exact b
 have J:=E.pl;have Q:=E.bl;have D:=E.rl;have p:=E.pr;have P:=E.dl;rw[<-g]at J Q D p P;intro mm w aa a;rw[Tryz.ntmps63]at a;refine H.go (ev1 _ [(S.aD.length:Int),e,(S.weights.length:Int)] (vT S [.I x.now,.bool x.closed]) (sT S [bP x.bH,aA x.cU,bM x.aM,aA x.aZ,aA x.down,bW x.ahead]) (.d (aE b) .nil)) (xK kn) a (fd:=mF (.i e) (oL 0) (.i 0)) (bd:=mB S e x x.down++[lB []]) ?_;intro mm w aa a;have a:@dZ dK dN A w0 a0 mm w aa (mF (.i e) (oL 0) (.i 0)) (eB (mB S e x (nQ S e 0)++[lB (mR S e 0)])):=by unfold nQ mR;rw[<-g];exact a
 refine loop oA C z B G X g a ?_
 intro mm w aa a;have O:(S.bJ e ((S.aJ e).Af (nQ S e S.weights.length))).av=S.setRow e [.i x.now,.c (.bool x.closed),.lit 4 (bP x.bH),.lit 1 (aA x.cU),.lit 11 (bM x.aM),.lit 1 (aA x.aZ),.lit 1 (aA (nQ S e S.weights.length)),.lit 8 (bW x.ahead)]:=by
  rw[bK.nY,<-g];rfl
 rw[O]at n;obtain⟨y,s⟩:=(K.trans L).ex;generalize S.bJ e ((S.aJ e).Af (nQ S e S.weights.length))=S0 at *;generalize nQ S e S.weights.length=u at *;generalize mR S e S.weights.length=k at *;obtain⟨m,M⟩:∃m:Nat,k.length=m:=⟨_,rfl⟩;rw[M]at a;generalize dS S0 e k=r at *;obtain⟨S1,f⟩:=r;dsimp only at *;subst s;by_cases t:f=0
 .subst t
  rw[if_neg (by simp)]at j;subst j;exact ro.go (ev1 _ [(S.aD.length:Int),e,(S.weights.length:Int),(m:Int)] (vT S [.I x.now,.bool x.closed]) (sT S [bP x.bH,aA x.cU,bM x.aM,aA x.aZ,aA x.down,bW x.ahead,aA u,bS k,bD y]) (.d (aE b) .nil)) (xK (kc n kn)) a
 .rw[if_pos t]at j
  subst j;have f2:1<=f/\f<=20:=by unfold gZ at e1;omega
  exact F.go (ev1 _ [(S.aD.length:Int),e,(S.weights.length:Int),(m:Int),f] (vT S [.I x.now,.bool x.closed]) (sT S [bP x.bH,aA x.cU,bM x.aM,aA x.aZ,aA x.down,bW x.ahead,aA u,bS k,bD y]) (.d (aE b) .nil)) (xK (kc n kn)) a
end
end MK
def aca {S:bK} {e:Int} (G:Gn S) (X:Ix S e 0):Ck 63 [S.av,.i e] (.bG [(qL S e).1.av,.i (qL S e).2]) :=
 MK.walk MK.alQ MK.aoH .of .of .of .of .of G X
end
section
open Mc
def bK.es (S:bK) (E:List dL) (c:List kU):bK:={ S with aD:=E,aN:=c }
def Sv.es {S T:bK} (h:Sv S T):T=S.es T.aD T.aN:=by
 obtain⟨-,-,-,i,g,f,e,d,c,b,a⟩:=h;cases T;cases S;simp only[bK.es]at *;subst i g f e d c b a;rfl
namespace CL
abbrev XG (e i:AV):List AV:=fr 99 [(1,e),(2,.ptr 10 0 0 0),(4,.ptr 10 1 0 0),(5,.i 0),(6,.ptr 10 2 0 0),(7,i)]
abbrev NW (e i k:AV):List AV:=fr 99 [(1,e),(2,.ptr 10 0 0 0),(4,.ptr 10 1 0 0),(5,.i 0),(6,.ptr 10 2 0 0),(7,i),(8,k)]
abbrev sB (S:bK):Mc.dC:=.cells 31 10 [[.i S.bU,.i S.bT,.lit 1 (aA S.weights),.lit 1 (bF S.methods),.lit 1 (bF S.cI),.lit 8 (bD S.aD),.lit 8 (hH S.bB),.lit 9 (dX S.aN),.lit 6 (fM S.aH),.i S.done]]
abbrev cB (S T:bK):List Mc.dC:=[sB S,.cells 31 10 H4,sB T]
noncomputable def body:Code:=(Tryz.f30).body.getD .skip
abbrev amI (c:Code) (r:Option (RT Out)):Prop:=nV { vars:=Kf8,facts:=KdX,lens:=Kc7,gI:=ZV } c (KdM++List.replicate 97 .undef) [] [some 0,some 1,some 2] (XG (.v 1) (.i 0)) [YH,V3,YH] r
noncomputable def acT:Option (RT Out):=uL { vars:=Kf8,facts:=KdX,lens:=Kc7,gI:=ZV } body (KdM++List.replicate 97 .undef:List AV).length (KdM++List.replicate 97 .undef) [] 0
def aoV:amI body acT:=⟨rfl,by decide +kernel,by decide +kernel⟩
abbrev amH (c:Code) (r:Option (RT Out)):Prop:=nV { vars:=Keo,facts:=GK,lens:=Kc7 } c (XG (.v 1) (.v 3)) KP [some 0,some 1,some 2] (NW (.v 1) (.v 3) (.i 0)) KP r
noncomputable def alS:Option (RT Out):=uL { vars:=Keo,facts:=GK,lens:=Kc7 } (aW acT) (XG (.v 1) (.v 3):List AV).length (XG (.v 1) (.v 3)) KP 3
def aoU:amH (aW acT) alS:=⟨rfl,by decide +kernel,by decide +kernel⟩
abbrev ahm (c:Code):Prop:=dD { vars:=[(0,4),(0,3),(1,5),(0,4),(0,1)],facts:=GK,lens:=Hh,gI:=DS,bR:=[(62,Z8,(.bG [Vs,.i 0]))] } c (NW (.v 1) (.v 3) (.v 4)) KP 0 [some 0,some 1,some 2] (NW (.v 1) (.v 3) KfB) [YH,V3,(.cells 31 10 [V9])]
abbrev adp (c:Code):Prop:=Is { vars:=[(0,4),(0,3),(1,5),(0,4),(0,1),(1,20)],facts:=GK,lens:=Hh,gI:=DS,bR:=[(62,Z8,(.bG [Vs,.v 5]))] } Tryz.f30 c (NW (.v 1) (.v 3) (.v 4)) KP Ka8
abbrev ahn (c:Code):Prop:=dD { vars:=[(0,4),(0,3),(1,5),(0,4),(1,2)],facts:=GK,lens:=Hh,gI:=DT } c (NW (.v 1) (.v 3) (.i 0)) KP 5 [some 0,some 1,some 2] (NW (.v 1) (.v 3) (.i 0)) KP
abbrev aho (c:Code):Prop:=dD { vars:=[(0,4),(0,3),(1,5),(0,4),(4,4)],facts:=GK,lens:=Hh,gI:=DT } c (NW (.v 1) (.v 3) (.i 0)) KP 5 [some 0,some 1,some 2] (NW (.v 1) (.v 3) (.i 0)) KP
abbrev ado (c:Code):Prop:=dD { vars:=Keo,facts:=GK,lens:=Kc7 } c (NW (.v 1) (.v 3) (.i 2)) KP 5 [some 0,some 1,some 2] (NW (.v 1) (.v 3) (.i 2)) KP
abbrev ahp (o:Option (RT Out)):Prop:=Fa { vars:=Keo,facts:=GK,lens:=Kc7 } o 3 (NW (.v 1) (.v 3) (.o 3)) KP 0 [some 0,some 1,some 2] (XG (.v 1) KfK) KP
noncomputable abbrev fC:Func:=Tryz.f30
section
variable {S:bK} {e:Int} {A:Nat->Prop} {w0:World} {a0:Act} {R:AV}
def inner (oI:Option (RT Out)) (ro:ahm (aW oI)) (re:adp (aW oI)) (rl:ahn (aW oI)) (rh:aho (aW oI)) (rt:ado (aW oI)) (K:ahp oI)
  (G:Gn S) {T:bK} (V:Sv S T) (N:0<=e/\e<S.aD.length) {j:Nat} (hj:j<S.weights.length) {Φ:iO} (B:∀a w,Fin Tryz.prog fC A w0 a0 R .ret a w->Φ .ret a w)
  {mm:Nat->St} {w:World} {aa:Act} (b:@dZ dK dN A w0 a0 mm w aa (NW (.i e) (.i (j:Int)) (.i 0)) (eB (cB S T)))
  (H:∀f,S.cX e (j:Int)=3->(kE T e (j:Int)).2=f->f≠0->R=.bG [S.av,.i f])
  (L:∀U,Sv S U->(S.cX e (j:Int)=3->kE T e (j:Int)=(U,0))->(S.cX e (j:Int)≠3->U=T)->∀mm w aa,@dZ dK dN A w0 a0 mm w aa (XG (.i e) (.i (1+(j:Int)))) (eB (cB S U))->Φ .normal aa w) :
  (Code.loop (aW oI)).wpIn (fw none) 9 Tryz.prog (KS Tryz.prog (oK oI) Φ) aa w:=by
 have h:=G.toStOk;have hn:=h.hn;have hw:=h.hw;have X:Ix S e (j:Int):=⟨N.1,N.2,by omega,by omega⟩;have ab:=h.mb' X;have D:e.toNat<S.methods.length:=by rw[h.M7];omega
 have u:S.methods[e.toNat]?=some (S.methods.getD e.toNat []):=getD_some D;have Y:=h.wY _ (dR (d:=[]) D);have t:(S.methods.getD e.toNat [])[(j:Int).toNat]?=some (S.cX e (j:Int)):=getD_some (by omega);have M7:=h.M7;obtain⟨ms,E⟩:∃ms,ms=S.methods.getD e.toNat []:=⟨_,rfl⟩;rw[<-E]at u Y t;refine cN (fun n a' w=>∃(k:Nat) (U:bK),n=2-k/\k<=2/\Sv S U/\(S.cX e (j:Int)≠3->k=0)/\(k=0->U=T)/\(k=1->iW T e (j:Int) 0=(U,0))/\(k=2->kE T e (j:Int)=(U,0))/\∃mm,@dZ dK dN A w0 a0 mm w a' (NW (.i e) (.i (j:Int)) (.i (k:Int))) (eB (cB S U))) ?_ (n:=2) ⟨0,T,rfl,by omega,V,fun _=>rfl,fun _=>rfl,fun h=>(by cases h),fun h=>(by cases h),_,b⟩;clear b;rintro n aa w ⟨k,U,rfl,hk,p,k0,M,k2,k3,mm,b⟩;have x:=p.es;have ac:U.aD.length=S.aD.length:=p.le;have C:=p.cX e (j:Int);by_cases l:S.cX e (j:Int)=3
 .rcases(by omega:k=2\/k<2)with rfl|ad
  .have fin:=L U p (fun _=>k3 rfl) (fun h=>absurd l h)
   generalize U.aD=g at *;generalize U.aN=c at *;subst x;refine rt.go (ev1 _ [(S.aD.length:Int),e,(S.weights.length:Int),(j:Int)] (vT S []) (sT S [bD g,dX c]) .nil) (xK kn) b (fd:=NW (.i e) (.i (j:Int)) (.i 2)) (bd:=cB S (S.es g c)) ?_;intro mm w aa b;obtain⟨k,v⟩:∃k:Int,k=2:=⟨_,rfl⟩;have b:@dZ dK dN A w0 a0 mm w aa (NW (.i e) (.i (j:Int)) (.i k)) (eB (cB S (S.es g c))):=by rw[v];exact b
   refine K.go (ev1 _ [(S.aD.length:Int),e,(S.weights.length:Int),(j:Int)] (vT S [.I k]) (sT S [bD g,dX c]) .nil) (xK kn) b (fd:=XG (.i e) (.i (1+(j:Int)))) (bd:=cB S (S.es g c)) ?_;exact fin
  .have P:=p.ix X
   have O:=Sh p.gn P (loc:=(k:Int)) (by omega) (by omega) (C.trans l);obtain⟨Z,e1,z1⟩:=Ae p.gn P (loc:=(k:Int)) (by omega) (by omega) (C.trans l)
   have st:∀W f,iW U e (j:Int) (k:Int)=(W,f)->(f≠0->(kE T e (j:Int)).2=f)/\(f=0->(k=0->iW T e (j:Int) 0=(W,0))/\(k=1->kE T e (j:Int)=(W,0))):=by
    intro W f s;rcases(by omega:k=0\/k=1)with rfl|rfl
    .have:=M rfl
     subst this;have s:iW U e (j:Int) 0=(W,f):=s;refine⟨fun o=>?_,fun o=>⟨fun _=>by rw[s,o],fun h=>(by cases h)⟩⟩;unfold kE;rw[s];dsimp only;rw[if_pos o]
    .have q:=k2 rfl
     have s:iW U e (j:Int) 1=(W,f):=s;refine⟨fun o=>?_,fun o=>⟨fun h=>(by cases h),fun _=>?_⟩⟩
     .unfold kE
      rw[q];dsimp only;rw[if_neg (by simp),s];dsimp only;rw[if_pos o]
     .unfold kE
      rw[q];dsimp only;rw[if_neg (by simp),s];dsimp only;rw[if_neg (by simp[o])]
   generalize iW U e (j:Int) (k:Int)=r at *;obtain⟨W,f⟩:=r;obtain⟨s1,J⟩:=st W f rfl;dsimp only at *;have Q:=p.trans Z;have F:=Q.es;generalize W.aD=z at *;generalize W.aN=y at *;generalize U.aD=g at *;generalize U.aN=c at *;subst x;subst F;rw[l]at t;by_cases o:f=0
   .subst o
    refine ro.go (ev1 _ [(S.aD.length:Int),e,(S.weights.length:Int),(j:Int),k] (vT S []) (sT S [bD g,dX c,aA ms,bD z,dX y]) (.d (aS u) (.d (aI t) .nil))) (xK (kc O kn)) b (fd:=NW (.i e) (.i (j:Int)) (.i (1+(k:Int)))) (bd:=cB S (S.es z y)) ?_;intro mm w aa b;rw[show(1+(k:Int))=((k+1:Nat):Int)by omega]at b;exact⟨_,by omega,k+1,S.es z y,rfl,by omega,Q,fun h=>absurd l h,fun h=>(by omega),fun h=>(J rfl).1 (by omega),fun h=>(J rfl).2 (by omega),mm,b⟩
   .rw[H f l (s1 o) o]at B
    have f2:1<=f/\f<=20:=by unfold gZ at e1;omega
    exact re.go (ev1 _ [(S.aD.length:Int),e,(S.weights.length:Int),(j:Int),k,f] (vT S []) (sT S [bD g,dX c,aA ms,bD z,dX y]) (.d (aS u) (.d (aI t) .nil))) (xK (kc O kn)) b fun a w h=>pW (B a w h) _
 .obtain rfl:k=0:=k0 l
  obtain rfl:U=T:=M rfl;have fin:=L U p (fun h=>absurd h l) (fun _=>rfl);generalize U.aD=g at *;generalize U.aN=c at *;subst x;generalize S.cX e (j:Int)=m at *
  have fin:∀mm w aa,@dZ dK dN A w0 a0 mm w aa (NW (.i e) (.i (j:Int)) (.i 0)) (eB (cB S (S.es g c)))->KS Tryz.prog (oK oI) Φ (AX.exit 3).to aa w:=by
   intro mm w aa b;obtain⟨k,v⟩:∃k:Int,k=0:=⟨_,rfl⟩;have b:@dZ dK dN A w0 a0 mm w aa (NW (.i e) (.i (j:Int)) (.i k)) (eB (cB S (S.es g c))):=by rw[v];exact b
   refine K.go (ev1 _ [(S.aD.length:Int),e,(S.weights.length:Int),(j:Int)] (vT S [.I k]) (sT S [bD g,dX c]) .nil) (xK kn) b (fd:=XG (.i e) (.i (1+(j:Int)))) (bd:=cB S (S.es g c)) ?_;exact fin
  rcases(by omega:(1<=m/\m<=2)\/m=4)with h1|h1
  .refine rl.go (ev1 _ [(S.aD.length:Int),e,(S.weights.length:Int),(j:Int),m] (vT S []) (sT S [bD g,dX c,aA ms]) (.d (aS u) (.d (aI t) .nil))) (xK kn) b (fd:=NW (.i e) (.i (j:Int)) (.i 0)) (bd:=cB S (S.es g c)) ?_
   exact fin
  .refine rh.go (ev1 _ [(S.aD.length:Int),e,(S.weights.length:Int),(j:Int),m] (vT S []) (sT S [bD g,dX c,aA ms]) (.d (aS u) (.d (aI t) .nil))) (xK kn) b (fd:=NW (.i e) (.i (j:Int)) (.i 0)) (bd:=cB S (S.es g c)) ?_
   exact fin
def walk (oA oI:Option (RT Out)) (rA:amI body oA) (rc:ajm { vars:=Kf8,facts:=KdX,lens:=Kc7,gI:=Yp } Tryz.f30 body (KdM++List.replicate 97 .undef) [] Ka7) (rS:amH (aW oA) oI) (ro:ahm (aW oI)) (re:adp (aW oI)) (rl:ahn (aW oI)) (rh:aho (aW oI)) (rt:ado (aW oI)) (rI:ahp oI) (rx:dD { vars:=Kf8,facts:=KdX,lens:=Kc7 } (aW oA) (XG (.v 1) (.v 2)) KP 3 [some 0,some 1,some 2] (XG (.v 1) (.v 2)) KP) (Z:iU { vars:=[(0,4),(0,3),(1,5),(1,20)],facts:=KdX,lens:=Kc7,bR:=[(63,Y8,(.bG [VG,.v 3]))] } Tryz.f30 oA 1 (XG (.v 1) (.v 2)) KP ((.bG [KfT,.v 3]))) (Y:iU { vars:=Kf8,facts:=KdX,lens:=[Kg7,(1,[([2],1)]),(9,[([0],1)]),(15,[([2],2)]),(16,[([],17)]),(17,[([2],1)]),(18,[([2],1)]),(19,[([2],1)])],gI:=[(0,[([1],1)],Uo),(9,[([1],1)],[.o 4,.o 5,.q 4 15,.q 1 16,.q 11 17,.q 1 18,.q 1 19,.q 8 20])],bR:=[(63,Y8,(.bG [VG,.i 0]))] } Tryz.f30 oA 1 (XG (.v 1) (.v 2)) KP ((.bG [(.agg [.o 0,.o 1,.q 1 1,.q 1 2,.q 1 3,(.seq 8 9 [([([1],1)],[.o 4,Kgm,.q 4 15,.q 1 16,.q 11 17,.q 1 18,.q 1 19,(.lit 8 [Uo])])] []),.q 8 4,.q 9 8,.q 6 6,.o 2]),.i 0])))
  (G:Gn S) (an:1<=S.weights.length) (X:Ix S e 0) :
  Ck 30 [S.av,.i e] (.bG [(jY S e).1.av,.i (jY S e).2]):=by
 have h:=G.toStOk;have hn:=h.hn;have hw:=h.hw;have af:=X.e0;have ae:=X.e1;have H:=h.at_ X;obtain⟨x,J⟩:∃x,x=S.aJ e:=⟨_,rfl⟩;have t:S.aD[e.toNat]?=some ⟨⟨x.now,x.closed,x.bH,x.cU,x.aM,x.aZ,x.down⟩,x.ahead⟩:=by rw[J];exact H
 have al:=G.al x (by rw[J];exact a0a H);refine CK.fP Tryz.func30 (c:=body) (by kernel_rfl) (yO.out) (uD.out) fun A w0 a0=>?_;generalize hR:AV.bG [(jY S e).1.av,.i (jY S e).2]=R;have l:∀r:bK×Int,jY S e=r->R=.bG [r.1.av,.i r.2]:=fun r O=>by rw[<-hR,O]
 clear hR;intro mm w aa b;rw[Tryz.ntmps30]at b;by_cases K:x.closed=true
 .rw[K]at t
  rw[l (S,7) (by unfold jY;rw[<-J,if_pos K])];exact rc.go (ev1 _ [(S.aD.length:Int),e,(S.weights.length:Int)] (vT S [.I x.now]) (sT S [bP x.bH,aA x.cU,bM x.aM,aA x.aZ,aA x.down,bW x.ahead]) (.d (aE t) .nil)) (xK kn) b
 have F:x.closed=false:=by simpa using K
 have ah:x.ahead=[]:=by
  have h1:=al.1;rw[show x.sh.2.1=x.closed from rfl,F]at h1;exact a14.1 h1
 rw[F,ah]at t;have l:∀r:bK×Int,(match kL e S.weights.length 0 S with
  |(T,f)=>if f≠0 then(S,f)else match qL T e with|(U,f)=>if f≠0 then(S,f)else(U.bJ e ((U.aJ e).shut x.toEntC),0))=r->R=.bG [r.1.av,.i r.2]:=fun r O=>l r (by unfold jY;rw[<-J,if_neg K];exact O)
 refine rA.go (ev1 _ [(S.aD.length:Int),e,(S.weights.length:Int)] (vT S [.I x.now]) (sT S [bP x.bH,aA x.cU,bM x.aM,aA x.aZ,aA x.down]) (.d (aE t) .nil)) (xK kn) b (fd:=XG (.i e) (.i 0)) (bd:=cB S S) ?_;intro mm w aa b;refine cN (fun n a' w=>∃(j:Nat) (T:bK),n=S.weights.length-j/\j<=S.weights.length/\Sv S T/\kL e S.weights.length 0 S=kL e (S.weights.length-j) j T/\∃mm,@dZ dK dN A w0 a0 mm w a' (XG (.i e) (.i (j:Int))) (eB (cB S T))) ?_ (n:=S.weights.length) ⟨0,S,rfl,a0j _,.refl G,rfl,_,b⟩;rintro n aa w ⟨j,T,rfl,hj,V,z,mm,b⟩;have N:=V.es;rcases(by omega:j=S.weights.length\/j<S.weights.length)with rfl|ad
 .rw[a2r]at z
  have z:kL e S.weights.length 0 S=(T,0):=z;rw[z]at l;dsimp only at l;rw[if_neg (by simp)]at l;have L:=V.ix X;have hM:=aca V.gn L;obtain⟨u,e1⟩:=Lz V.gn L;have s:=(u.gn V.gn).toStOk.zN (u.ix L);have C:=(u.gn V.gn).toStOk.at_ (u.ix L);generalize qL T e=r at *;obtain⟨U,f⟩:=r;dsimp only at *;obtain⟨B,rfl⟩:=u.ex;have aj:B.length=S.aD.length:=by have:=u.len;have:=V.le;exact u.len.trans V.le
  generalize T.aD=p at *;generalize T.aN=m at *;subst N;obtain⟨y,hy⟩:∃y,y=((S.es p m).bQ B).aJ e:=⟨_,rfl⟩;rw[<-hy]at s C l;have P:B[e.toNat]?=some ⟨⟨y.now,y.closed,y.bH,y.cU,y.aM,y.aZ,y.down⟩,y.ahead⟩:=C;have pl:y.bH.length=2*S.weights.length:=s.pl;have bl:=s.bl;have ak:y.aM.length=S.weights.length:=s.rl;have am:y.aZ.length=S.weights.length:=s.pr;have dl:y.down.length=S.weights.length:=s.dl;refine rx.go (ev1 _ [(S.aD.length:Int),e,(S.weights.length:Int)] (vT S []) (sT S [bD p,dX m]) .nil) (xK kn) b (fd:=XG (.i e) (.i (S.weights.length:Int))) (bd:=cB S (S.es p m)) ?_;intro mm w aa b;by_cases h0:f=0
  .subst h0
   rw[if_neg (by simp)]at l
   rw[l _ rfl];have ag:(((S.es p m).bQ B).bJ e (y.shut x.toEntC)).av=((S.es p m).bQ B).setRow e [.i y.now,.c (.bool true),.lit 4 (bP y.bH),.lit 1 (aA y.cU),.lit 11 (bM y.aM),.lit 1 (aA y.aZ),.lit 1 (aA y.down),.lit 8 [[.i x.now,.c (.bool false),.lit 4 (bP x.bH),.lit 1 (aA x.cU),.lit 11 (bM x.aM),.lit 1 (aA x.aZ),.lit 1 (aA x.down),.lit 8 []]]]:=by
    rw[bK.nY,<-F];rfl
   dsimp only;rw[ag];exact Y.go (ev1 _ [(S.aD.length:Int),e,(S.weights.length:Int)] (vT S [.I x.now,.I y.now,.bool y.closed]) (sT S [bD p,dX m,bD B,bP x.bH,aA x.cU,bM x.aM,aA x.aZ,aA x.down,bP y.bH,aA y.cU,bM y.aM,aA y.aZ,aA y.down,bW y.ahead]) (.d (aE t) (.d (aE P) .nil))) (xK (kc hM kn)) b
  .rw[if_pos h0]at l
   rw[l _ rfl];have f2:1<=f/\f<=20:=by unfold gZ at e1;omega
   exact Z.go (ev1 _ [(S.aD.length:Int),e,(S.weights.length:Int),f] (vT S []) (sT S [bD p,dX m,bD B]) .nil) (xK (kc hM kn)) b
 .have ai:kL e (S.weights.length-j) j T=if T.cX e (j:Int)=3 then(match kE T e (j:Int)with|(U,f)=>if f≠0 then(T,f)else kL e (S.weights.length-(j+1)) (j+1) U)else kL e (S.weights.length-(j+1)) (j+1) T:=by
   obtain⟨k,hk⟩:∃k,S.weights.length-j=k+1:=⟨S.weights.length-j-1,by omega⟩;rw[hk,show S.weights.length-(j+1)=k by omega];rfl
  rw[ai,V.cX]at z;have V0:=V;have nx:∀U,Sv S U->kL e S.weights.length 0 S=kL e (S.weights.length-(j+1)) (j+1) U->∀mm w aa,@dZ dK dN A w0 a0 mm w aa (XG (.i e) (.i (1+(j:Int)))) (eB (cB S U))->∃n',n'<S.weights.length-j/\∃(E:Nat) (W:bK),n'=S.weights.length-E/\E<=S.weights.length/\Sv S W/\kL e S.weights.length 0 S=kL e (S.weights.length-E) E W/\∃mm,@dZ dK dN A w0 a0 mm w aa (XG (.i e) (.i (E:Int))) (eB (cB S W)):=by
   intro U Q hU mm w aa b;rw[show(1+(j:Int))=((j+1:Nat):Int)by omega]at b;exact⟨_,by omega,j+1,U,rfl,by omega,Q,hU,mm,b⟩
  have ab:∀Φ:iO,(∀mm w aa,@dZ dK dN A w0 a0 mm w aa (NW (.i e) (.i (j:Int)) (.i 0)) (eB (cB S T))->(Code.loop (aW oI)).wpIn (fw none) 9 Tryz.prog (KS Tryz.prog (oK oI) Φ) aa w)->(aW oA).wpIn (fw none) 9 Tryz.prog Φ aa w:=by
   intro Φ kk;generalize T.aD=p at *;generalize T.aN=m at *;subst N;refine rS.go (ev1 _ [(S.aD.length:Int),e,(S.weights.length:Int),(j:Int)] (vT S []) (sT S [bD p,dX m]) .nil) (xK kn) b (fd:=NW (.i e) (.i (j:Int)) (.i 0)) (bd:=cB S (S.es p m)) ?_;exact kk
  refine ab _ ?_;intro mm w aa b;refine inner (R:=R) oI ro re rl rh rt rI G V ⟨af,ae⟩ ad ?_ b ?_ ?_
  .intro a w h
   exact pW h _
  .intro f D hf M
   refine l (S,f) ?_;rw[z,if_pos D];generalize kE T e (j:Int)=r at *;obtain⟨U,g⟩:=r;dsimp only at hf |-;subst hf;rw[if_pos M];dsimp only;rw[if_pos M]
  .intro U Q h3 ac mm w aa b
   refine nx U Q ?_ mm w aa b;rw[z];by_cases D:S.cX e (j:Int)=3
   .rw[if_pos D,h3 D]
    dsimp only;rw[if_neg (by simp)]
   .rw[if_neg D,ac D]
end
end CL
def IW {S:bK} {e:Int} (G:Gn S) (a:1<=S.weights.length) (X:Ix S e 0):Ck 30 [S.av,.i e] (.bG [(jY S e).1.av,.i (jY S e).2]) :=
 CL.walk CL.acT CL.alS CL.aoV .of CL.aoU .of .of .of .of .of .of .of .of .of G a X
end
section
open Mc
variable {S T:bK} {item ref W U:Int}
inductive Fb
 |uO (e item loc q a:Int)
 |uU (q a ref:Int)
 |qG (q ref:Int)
 |N4 (e item loc q a:Int)
 |take (q a ref:Int)
 |IC (e item loc q:Int)
 |count (e item loc q:Int)
 |move (e item loc dst q:Int)
 |uM (e item a:Int)
 |sV (e item a:Int)
 |land (dst a:Int) (refs:List Int)
 |S7 (e item loc dst q a:Int)
 |zV (loc q ref:Int)
 |close (e:Int)
 |yU (e:Int)
 |next (e:Int)
def Fb.av:Fb->AV
 | .uO e item loc q a=>eS 1 e item loc 0 q a 0
 | .uU q a ref=>eS 2 0 0 0 0 q a ref
 | .qG q ref=>eS 3 0 0 0 0 q 0 ref
 | .N4 e item loc q a=>eS 4 e item loc 0 q a 0
 | .take q a ref=>eS 5 0 0 0 0 q a ref
 | .IC e item loc q=>eS 6 e item loc 0 q 0 0
 | .count e item loc q=>eS 7 e item loc 0 q 0 0
 | .move e item loc dst q=>eS 8 e item loc dst q 0 0
 | .uM e item a=>eS 9 e item 0 0 0 a 0
 | .sV e item a=>eS 10 e item 0 0 0 a 0
 | .land dst a refs=>tP dst a refs
 | .S7 e item loc dst q a=>eS 12 e item loc dst q a 0
 | .zV loc q ref=>eS 13 0 0 loc 0 q 0 ref
 | .close e=>eS 14 e 0 0 0 0 0 0
 | .yU e=>eS 15 e 0 0 0 0 0 0
 | .next e=>eS 16 e 0 0 0 0 0 0
abbrev QB (q:Int):Prop:=1<=q/\q<=1073741824
abbrev AB (a:Int):Prop:=0<=a/\a<=1073741824
abbrev LB (l:Int):Prop:=0<=l/\l<=1
abbrev RB (r:Int):Prop:=0<=r/\r<=39
abbrev EB (n:Nat) (e:Int):Prop:=0<=e/\e<(n:Int)
def eA (n w:Nat):Fb->Prop
 | .uO e item loc q a=>EB n e/\EB w item/\LB loc/\QB q/\AB a
 | .uU q a ref=>QB q/\AB a/\RB ref
 | .qG q ref=>QB q/\RB ref
 | .N4 e item loc q a=>EB n e/\EB w item/\LB loc/\QB q/\AB a
 | .take q a ref=>QB q/\AB a/\RB ref
 | .IC e item loc q=>EB n e/\EB w item/\LB loc/\QB q
 | .count e item loc q=>EB n e/\EB w item/\LB loc/\0<=q/\q<=1073741824
 | .move e item loc dst q=>EB n e/\EB w item/\LB loc/\LB dst/\dst≠loc/\QB q
 | .uM e item a=>EB n e/\EB w item/\AB a
 | .sV e item a=>EB n e/\EB w item/\AB a
 | .land dst a refs=>(0<=dst/\dst<=2)/\AB a/\((∃r0,refs=[r0]/\RB r0)\/(∃r0 r1,refs=[r0,r1]/\RB r0/\RB r1/\r1≠r0)\/(∃r0 r1 r2,refs=[r0,r1,r2]/\RB r0/\RB r1/\RB r2/\r0<r1/\r1<r2))
 | .S7 e item loc dst q a=>EB n e/\EB w item/\LB loc/\EB n dst/\dst≠e/\QB q/\AB a
 | .zV loc q ref=>LB loc/\QB q/\RB ref
 | .close e=>EB n e
 | .yU e=>EB n e
 | .next e=>EB n e
def rC:Fb->Prop
 | .uO e item loc q a=>q<=24/\a<=1000
 | .uU q a ref=>a<=1000
 | .qG q ref=>True
 | .N4 e item loc q a=>q<=24/\a<=1000
 | .take q a ref=>q<=24/\a<=1000
 | .IC e item loc q=>True
 | .count e item loc q=>q<=24
 | .move e item loc dst q=>q<=24
 | .uM e item a=>a<=1000
 | .sV e item a=>True
 | .land dst a refs=>a<=1000
 | .S7 e item loc dst q a=>q<=24/\a<=1000
 | .zV loc q ref=>q<=24
 | .close e=>True
 | .yU e=>True
 | .next e=>True
def doS (S:bK):Fb->bK×Int
 | .uO e item loc q a=>qI S e item loc q a
 | .uU q a ref=>Xa S ref q a
 | .qG q ref=>sbS S ref q
 | .N4 e item loc q a=>IB S e item loc q a
 | .take q a ref=>It S ref q a
 | .IC e item loc q=>yR S e item loc q
 | .count e item loc q=>zQ S e item loc q
 | .move e item loc dst q=>IN S e item loc dst q
 | .uM e item a=>qH S e item a
 | .sV e item a=>yY S e item a
 | .land dst a refs=>tO S dst a refs
 | .S7 e item loc dst q a=>Iy S e item loc dst q a
 | .zV loc q ref=>uY S loc q ref
 | .close e=>jY S e
 | .yU e=>uN S e
 | .next e=>IL S e
def pH (S:bK) (o:Fb):bK×Int:=fF S (doS S o)
structure Stp (S T:bK):Prop where
 gn:Gn T
 le:T.aD.length=S.aD.length
 wt:T.weights=S.weights
 pe:T.bT=S.bT
 en:T.bU=S.bU
 me:T.methods=S.methods
 dn:T.done<=S.done+1
def Stp.refl {S:bK} (G:Gn S):Stp S S:=⟨G,rfl,rfl,rfl,rfl,rfl,by omega⟩
def oH.stp {r:bK×Int} (G:Gn S) (h:oH S r):Stp S (fF S r).1:=by
 obtain⟨g,e,no,c,a,pe,en,b,d⟩:=h;obtain⟨T,f⟩:=r;dsimp only at *;unfold fF;split
 .refine⟨⟨⟨g.hn,g.hw,g.M7,g.Fg,g.wY,g.mE,g.mb,g.cb,g.aJ,g.ahead⟩,g.NU,g.OL,g.yP,g.II,g.C8,g.OA,?_,g.al,g.pb⟩,c,a,pe,en,b,?_⟩
  .show 0<=1+T.done
   have:=g.d0;omega
  .show 1+T.done<=_
   omega
 .exact .refl G
def O8 (G:Gn S) {e:Int} (x:Ix S e 0) (a:S.bT<=12):oH S (IL S e):=by
 unfold IL;split
 .exact .bad G ⟨by simp,by simp⟩
 .split
  .exact .bad G ⟨by simp,by simp⟩
  .exact⟨aki G x (by omega),⟨by simp,by simp⟩,fun h=>absurd rfl h,by simp[bK.bJ],rfl,rfl,rfl,rfl,rfl⟩
def IH (G:Gn S) {e:Int} (x:Ix S e 0):oH S (uN S e):=by
 unfold uN;split
 .exact .bad G ⟨by simp,by simp⟩
 .split
  .rename_i y a
   exact⟨aeG G x a,⟨by simp,by simp⟩,fun h=>absurd rfl h,by show(S.aD.set _ _).length=_;simp,rfl,rfl,rfl,rfl,rfl⟩
  .exact .bad G ⟨by simp,by simp⟩
def oH.dT {r:bK×Int} (G:Gn S) (a:S.done<=1000000) (h:oH S r):0<=r.1.done/\r.1.done<=1000000:=by
 have:=G.d0;rw[h.dn];omega
def an2 (G:Gn S) (g:S.done<=1000000) (A:∀v∈S.weights,0<=v/\v<=1073741824) (s:1<=S.weights.length) (t:1<=S.bT/\S.bT<=12) {o:Fb} (ok:eA S.aD.length S.weights.length o) :
  Ck 16 [S.av,o.av] (.bG [(pH S o).1.av,.i (pH S o).2])/\Stp S (pH S o).1:=by
 have C:=G.hn;have B:=G.hw
 have fin:∀{r:bK×Int} {k:AV},doS S o=r->oH S r->((Ck 16 [S.av,o.av] (.bG [(fF S r).1.av,.i (fF S r).2])))->Ck 16 [S.av,o.av] (.bG [(pH S o).1.av,.i (pH S o).2])/\Stp S (pH S o).1:=by
  intro r k e F c;unfold pH;rw[e];exact⟨c,F.stp G⟩
 cases o with
 |uO e item loc q a =>
  obtain⟨d,b,f,h,j⟩:=ok;obtain⟨c,F⟩:=Pm G g ⟨d.1,d.2,b.1,b.2⟩ f h (a:=a) ⟨j.1,by omega⟩;exact fin (k:=.emp) rfl F (d_step1 (an1 ⟨d.1,by omega⟩ ⟨b.1,by omega⟩ f h j) c F.err (F.dT G g))
 |uU q a ref =>
  obtain⟨d,b,f⟩:=ok;obtain⟨c,F⟩:=amX G g d (a:=a) ⟨b.1,by omega⟩ f;exact fin (k:=.emp) rfl F (akR (an0 d b f) c F.err (F.dT G g))
 |qG q ref =>
  obtain⟨d,f⟩:=ok;obtain⟨c,F⟩:=aph G g d f;exact fin (k:=.emp) rfl F (akQ (anZ d f) c F.err (F.dT G g))
 |N4 e item loc q a =>
  obtain⟨d,b,f,h,j⟩:=ok;obtain⟨c,F⟩:=aiI G g ⟨d.1,d.2,b.1,b.2⟩ f h (a:=a) ⟨j.1,by omega⟩;exact fin (k:=.emp) rfl F (akP (anY ⟨d.1,by omega⟩ ⟨b.1,by omega⟩ f h j) c F.err (F.dT G g))
 |take q a ref =>
  obtain⟨d,b,f⟩:=ok;obtain⟨c,F⟩:=aiz G g d (a:=a) ⟨b.1,by omega⟩ f;exact fin (k:=.emp) rfl F (akO (anX d b f) c F.err (F.dT G g))
 |IC e item loc q =>
  obtain⟨d,b,f,h⟩:=ok;obtain⟨c,F⟩:=adV G g ⟨d.1,d.2,b.1,b.2⟩ f h;exact fin (k:=.emp) rfl F (akN (anW ⟨d.1,by omega⟩ ⟨b.1,by omega⟩ f h) c F.err (F.dT G g))
 |count e item loc q =>
  obtain⟨d,b,f,h⟩:=ok;obtain⟨c,F⟩:=adX G g ⟨d.1,d.2,b.1,b.2⟩ f h;exact fin (k:=.emp) rfl F (akM (anV ⟨d.1,by omega⟩ ⟨b.1,by omega⟩ f h) c F.err (F.dT G g))
 |move e item loc dst q =>
  obtain⟨d,b,f,h,j,m⟩:=ok;obtain⟨c,F⟩:=aiJ G g ⟨d.1,d.2,b.1,b.2⟩ f h m;exact fin (k:=.emp) rfl F (akL (anU ⟨d.1,by omega⟩ ⟨b.1,by omega⟩ f h m j) c F.err (F.dT G g))
 |uM e item a =>
  obtain⟨d,b,f⟩:=ok;obtain⟨c,F⟩:=Pl G g ⟨d.1,d.2,b.1,b.2⟩ f;exact fin (k:=.emp) rfl F (akK (anT ⟨d.1,by omega⟩ ⟨b.1,by omega⟩ f) c F.err (F.dT G g))
 |sV e item a =>
  obtain⟨d,b,f⟩:=ok;obtain⟨c,F⟩:=adW G ⟨d.1,d.2,b.1,b.2⟩ (a:=a) ⟨f.1,by omega⟩;exact fin (k:=.emp) rfl F (aiG (akX ⟨d.1,by omega⟩ ⟨b.1,by omega⟩ f) c F.err (F.dT G g))
 |land dst a refs =>
  obtain⟨d,b,f⟩:=ok;have n:1<=refs.length/\refs.length<=40/\(∀k∈refs,0<=k/\k<=39)/\Ck 22 [tP dst a refs] Kgm:=by
   rcases f with⟨r0,rfl,b0⟩|⟨r0,r1,rfl,b0,b1,z⟩|⟨r0,r1,r2,rfl,b0,b1,b2,p,lt2⟩
   .exact⟨by simp,by simp,fun k l=>by simp at l;subst l;exact b0,afa d b b0⟩
   .exact⟨by simp,by simp,fun k l=>by simp at l;rcases l with rfl|rfl<;>assumption,ae9 d b b0 b1 z⟩
   .exact⟨by simp,by simp,fun k l=>by simp at l;rcases l with rfl|rfl|rfl<;>assumption,ae8 d b b0 b1 b2 p lt2⟩
  obtain⟨r1,r2,y,w⟩:=n;obtain⟨c,F⟩:=aiK G g A r1 r2 y (dst:=dst) ⟨by omega,by omega⟩ (a:=a) ⟨b.1,by omega⟩;exact fin (k:=.emp) rfl F (aiF w c F.err (F.dT G g))
 |S7 e item loc dst q a =>
  obtain⟨d,b,f,h,j,m,u⟩:=ok;obtain⟨c,F⟩:=aiH G g ⟨d.1,d.2,b.1,b.2⟩ f ⟨h.1,h.2,b.1,b.2⟩ m (a:=a) ⟨u.1,by omega⟩;exact fin (k:=.emp) rfl F (aiE (akW ⟨d.1,by omega⟩ ⟨b.1,by omega⟩ f ⟨h.1,by omega⟩ m u j) c F.err (F.dT G g))
 |zV loc q ref =>
  obtain⟨d,b,f⟩:=ok;obtain⟨c,F⟩:=Xy G g d b f;exact fin (k:=.emp) rfl F (aiD (akV d b f) c F.err (F.dT G g))
 |close e =>
  have x:Ix S e 0:=⟨ok.1,ok.2,by omega,by omega⟩;have F:=tS G x;exact fin (k:=.emp) rfl F (aiC (akU ⟨ok.1,by have:=ok.2;omega⟩) (IW G s x) F.err (F.dT G g))
 |yU e =>
  have x:Ix S e 0:=⟨ok.1,ok.2,by omega,by omega⟩;have F:=IH G x;exact fin (k:=.emp) rfl F (aiB (akT ⟨ok.1,by have:=ok.2;omega⟩) (Sj G x) F.err (F.dT G g))
 |next e =>
  have x:Ix S e 0:=⟨ok.1,ok.2,by omega,by omega⟩;have F:=O8 G x t.2;exact fin (k:=.emp) rfl F (aiA (akS ⟨ok.1,by have:=ok.2;omega⟩) (ab9 G x t) F.err (F.dT G g))
def Tm {e loc q a:Int} (h:qI S e item loc q a=(T,0)):¬(S.aJ e).closed=true/\¬S.bB.length=40/\∃S1 b up d c,eK S e item loc ⟨q,a,0⟩=(S1,b,up,0)/\dS S1 e [⟨0,b⟩,⟨6,up⟩,⟨1,-a⟩]=(d,0)/\eC d e item [0,b,0,0,0,0,0,0,0,0,0]=(c,0)/\T=c.xO ⟨e,item,loc,q,a,q,a,0⟩:=by
 unfold qI at h;repeat' split at h
 all_goals first|(exact absurd (congrArg Prod.snd h) (by assumption))|(have f:=congrArg Prod.snd h;simp at f;done)|skip
 all_goals
  simp only[ne_eq,Decidable.not_not]at *
  subst_vars
  cases h;exact⟨‹_›,‹_›,_,_,_,_,_,‹_›,‹_›,‹_›,rfl⟩
def af8 {e loc q a:Int} (h:IB S e item loc q a=(T,0)):¬(S.aJ e).closed=true/\¬S.aN.length=40/\∃S1 xq xv xp b d c,dU S e item loc 0 q=(S1,⟨xq,xv,xp⟩,b,0)/\dS S1 e [⟨3,a⟩,⟨4,-a⟩,⟨5,xv⟩,⟨0,-xv⟩]=(d,0)/\eC d e item [0,0,0,0,0,xv,0,0,0,0,0]=(c,0)/\T=c.vI ⟨e,item,loc,q,0,xv,xp,(S.aJ e).now,b⟩:=by
 unfold IB at h;repeat' split at h
 all_goals first|(exact absurd (congrArg Prod.snd h) (by assumption))|(have f:=congrArg Prod.snd h;simp at f;done)|skip
 all_goals
  simp only[ne_eq,Decidable.not_not]at *
  subst_vars
  cases h;exact⟨‹_›,‹_›,_,_,_,_,_,_,_,‹_›,‹_›,‹_›,rfl⟩
def PM {q a c b:Int} {s:kU} (h:yQ S s ref q a c b=(T,0)):∃S1 d up f e,eK S s.aU s.item s.loc ⟨q,c,b⟩=(S1,d,up,0)/\dS S1 s.aU [⟨4,a⟩,⟨3,-a⟩,⟨0,d⟩,⟨6,up⟩,⟨5,-c⟩]=(f,0)/\eC f s.aU s.item [0,0,0,0,d,0,0,0,0,0,0]=(e,0)/\T=e.rD ref ⟨s.aU,s.item,s.loc,s.eU,q+s.back,s.cost-c,s.bY-b,s.period,s.waits⟩:=by
 unfold yQ at h;repeat' split at h
 all_goals first|(exact absurd (congrArg Prod.snd h) (by assumption))|(have g:=congrArg Prod.snd h;simp at g;done)|skip
 all_goals
  simp only[ne_eq,Decidable.not_not]at *
  subst_vars
  cases h;exact⟨_,_,_,_,_,‹_›,‹_›,‹_›,rfl⟩
def aaB {q a:Int} {s:kU} (h:CV S s ref q a=(T,0)):¬((S.aJ s.aU).bE (2*s.item+s.loc)).p0<q/\∃S1,dS (S.bJ s.aU ((S.aJ s.aU).bX (2*s.item+s.loc) { (S.aJ s.aU).bE (2*s.item+s.loc)with p0:=((S.aJ s.aU).bE (2*s.item+s.loc)).p0-q })) s.aU [⟨4,a⟩,⟨3,-a⟩]=(S1,0)/\T=S1.rD ref ⟨s.aU,s.item,s.loc,s.eU,q+s.back,s.cost,s.bY,s.period,s.waits⟩:=by
 unfold CV at h;repeat' split at h
 all_goals first|(exact absurd (congrArg Prod.snd h) (by assumption))|(have b:=congrArg Prod.snd h;simp at b;done)|skip
 all_goals
  simp only[ne_eq,Decidable.not_not]at *
  subst_vars
  cases h;exact⟨‹_›,_,‹_›,rfl⟩
def afP {q a:Int} (h:It S ref q a=(T,0)):∃s,S.aN[ref.toNat]?=some s/\¬(S.aJ s.aU).closed=true/\¬s.eU-s.back<q/\((s.waits=true/\s.period=(S.aJ s.aU).now/\CV S s ref q a=(T,0))\/(¬(s.waits=true/\s.period=(S.aJ s.aU).now)/\yQ S s ref q a (dM s.cost q (s.eU-s.back)) (dM s.bY q (s.eU-s.back))=(T,0))):=by
 unfold It at h;split at h
 .cases h
 rename_i s hs;refine⟨s,hs,?_⟩
 repeat' split at h
 all_goals first|(have b:=congrArg Prod.snd h;simp at b;done)|skip
 .rename_i d b c;exact⟨d,b,.inl ⟨c.1,c.2,h⟩⟩
 .rename_i d b c;exact⟨d,b,.inr ⟨c,h⟩⟩
def aeD {e loc q:Int} (h:yR S e item loc q=(T,0)):¬(S.aJ e).closed=true/\∃S1 xq xv xp c b a,dU S e item loc 1 q=(S1,⟨xq,xv,xp⟩,c,0)/\dS S1 e [⟨7,xv⟩,⟨0,-xv⟩]=(b,0)/\eC b e item [0,0,0,0,0,0,0,0,xv,0,0]=(a,0)/\T=a:=by
 unfold yR at h;repeat' split at h
 all_goals first|(exact absurd (congrArg Prod.snd h) (by assumption))|(have d:=congrArg Prod.snd h;simp at d;done)|skip
 all_goals
  simp only[ne_eq,Decidable.not_not]at *
  subst_vars
  cases h;exact⟨‹_›,_,_,_,_,_,_,_,‹_›,‹_›,‹_›,rfl⟩
def ahQ {e loc dst q:Int} (h:IN S e item loc dst q=(T,0)):¬(S.aJ e).closed=true/\∃S1 xq xv xp f d a up c b,dU S e item loc 3 q=(S1,⟨xq,xv,xp⟩,f,0)/\eK S1 e item dst ⟨xq,xv,xp⟩=(d,a,up,0)/\dS d e [⟨0,a-xv⟩,⟨6,up⟩]=(c,0)/\eC c e item [0,0,0,0,0,0,0,0,0,0,a-xv]=(b,0)/\T=b:=by
 unfold IN at h;repeat' split at h
 all_goals first|(exact absurd (congrArg Prod.snd h) (by assumption))|(have g:=congrArg Prod.snd h;simp at g;done)|skip
 all_goals
  simp only[ne_eq,Decidable.not_not]at *
  subst_vars
  cases h;exact⟨‹_›,_,_,_,_,_,_,_,_,_,_,‹_›,‹_›,‹_›,‹_›,rfl⟩
def inv_inv {q a:Int} (h:Xa S ref q a=(T,0)):∃e item loc rq rv ro ra rb,S.bB[ref.toNat]?=some ⟨e,item,loc,rq,rv,ro,ra,rb⟩/\¬(S.aJ e).closed=true/\¬ro<q/\∃S1,dS S e [⟨1,xW ⟨e,item,loc,rq,rv,ro,ra,rb⟩ q⟩,⟨6,a-xW ⟨e,item,loc,rq,rv,ro,ra,rb⟩ q⟩,⟨2,-a⟩]=(S1,0)/\T=S1.uK ref ⟨e,item,loc,rq,rv,-q+ro,ra-xW ⟨e,item,loc,rq,rv,ro,ra,rb⟩ q,rb⟩:=by
 unfold Xa at h;split at h
 .cases h
 rename_i e item loc rq rv ro ra rb hs;refine⟨_,_,_,_,_,_,_,_,hs,?_⟩
 repeat' split at h
 all_goals first|(exact absurd (congrArg Prod.snd h) (by assumption))|(have b:=congrArg Prod.snd h;simp at b;done)|skip
 simp only[ne_eq,Decidable.not_not]at *
 subst_vars
 cases h;exact⟨‹_›,‹_›,_,‹_›,rfl⟩
def aaK {q e loc acc d:Int} {r:wU} (h:yS S ref q e item loc acc d r=(T,0)):∃S1 xq xv xp c b a,dU S e item loc 3 q=(S1,⟨xq,xv,xp⟩,c,0)/\dS S1 e [⟨acc,d⟩,⟨6,xv-d⟩,⟨0,-xv⟩]=(b,0)/\eC b e item [0,0,0,0,0,0,0,xv,0,0,0]=(a,0)/\T=a.uK ref r:=by
 unfold yS at h;repeat' split at h
 all_goals first|(exact absurd (congrArg Prod.snd h) (by assumption))|(have f:=congrArg Prod.snd h;simp at f;done)|skip
 all_goals
  simp only[ne_eq,Decidable.not_not]at *
  subst_vars
  cases h;exact⟨_,_,_,_,_,_,_,‹_›,‹_›,‹_›,rfl⟩
def ans {q:Int} (h:sbS S ref q=(T,0)):∃e item loc rq rv ro ra rb,S.bB[ref.toNat]?=some ⟨e,item,loc,rq,rv,ro,ra,rb⟩/\¬(S.aJ e).closed=true/\¬rq-rb<q/\((0<ro/\¬ro<q/\yS S ref q e item loc 1 (xW ⟨e,item,loc,rq,rv,ro,ra,rb⟩ q) ⟨e,item,loc,rq,rv,-q+ro,ra-xW ⟨e,item,loc,rq,rv,ro,ra,rb⟩ q,q+rb⟩=(T,0))\/(¬0<ro/\yS S ref q e item loc 2 (dM rv q rq) ⟨e,item,loc,rq,rv,ro,ra,q+rb⟩=(T,0))):=by
 unfold sbS at h;split at h
 .cases h
 rename_i e item loc rq rv ro ra rb hs;refine⟨_,_,_,_,_,_,_,_,hs,?_⟩
 repeat' split at h
 all_goals first|(have a:=congrArg Prod.snd h;simp at a;done)|skip
 .rename_i c a d b;exact⟨c,a,.inl ⟨b,by omega,h⟩⟩
 .rename_i c a d b;exact⟨c,a,.inr ⟨b,h⟩⟩
def af5 {e loc dst q a:Int} (h:Iy S e item loc dst q a=(T,0)):¬(S.aJ e).closed=true/\¬(S.aJ dst).closed=true/\¬S.aH.length=40/\∃S1 xq xv xp f d c b,dU S e item loc 3 q=(S1,⟨xq,xv,xp⟩,f,0)/\dS S1 e [⟨13,a⟩,⟨15,-a⟩,⟨16,xv⟩,⟨0,-xv⟩]=(d,0)/\dS d dst [⟨12,a⟩,⟨14,-a⟩]=(c,0)/\eC c e item [0,0,0,0,0,0,xv,0,0,0,0]=(b,0)/\T=b.xN ⟨e,dst,item,q,a,a-xv+xp⟩:=by
 unfold Iy at h;repeat' split at h
 all_goals first|(exact absurd (congrArg Prod.snd h) (by assumption))|(have g:=congrArg Prod.snd h;simp at g;done)|skip
 all_goals
  simp only[ne_eq,Decidable.not_not]at *
  subst_vars
  cases h;exact⟨‹_›,‹_›,‹_›,_,_,_,_,_,_,_,_,‹_›,‹_›,‹_›,‹_›,rfl⟩
def X4 {a e tq tv tp loc q v b:Int} (h:AD S a e item tq tv tp loc q ref v b=(T,0)):∃S1 c up f d,eK S e item loc ⟨q,v,b⟩=(S1,c,up,0)/\dS S1 e [⟨0,c⟩,⟨6,up⟩,⟨12,-v⟩]=(f,0)/\eC f e item [0,0,0,c,0,0,0,0,0,0,0]=(d,0)/\T=d.C5 ref ⟨a,e,item,-q+tq,tv-v,tp-b⟩:=by
 unfold AD at h;repeat' split at h
 all_goals first|(exact absurd (congrArg Prod.snd h) (by assumption))|(have g:=congrArg Prod.snd h;simp at g;done)|skip
 all_goals
  simp only[ne_eq,Decidable.not_not]at *
  subst_vars
  cases h;exact⟨_,_,_,_,_,‹_›,‹_›,‹_›,rfl⟩
def aco {loc q:Int} (h:uY S loc q ref=(T,0)):∃a e item tq tv tp,S.aH[ref.toNat]?=some ⟨a,e,item,tq,tv,tp⟩/\¬(S.aJ e).closed=true/\¬tq<q/\AD S a e item tq tv tp loc q ref (dM tv q tq) (dM tp q tq)=(T,0):=by
 unfold uY at h;split at h
 .cases h
 rename_i hs;refine⟨_,_,_,_,_,_,hs,?_⟩
 repeat' split at h
 all_goals first|(have b:=congrArg Prod.snd h;simp at b;done)|skip
 exact⟨‹_›,‹_›,h⟩
def ahX {e loc d:Int} (h:O9 S e item loc d=(T,0)):∃S1 xq xv xp c b a,dU S e item loc 2 d=(S1,⟨xq,xv,xp⟩,c,0)/\dS S1 e [⟨8,xv⟩,⟨0,-xv⟩]=(b,0)/\eC b e item [0,0,0,0,0,0,0,0,0,xv,0]=(a,0)/\T=a:=by
 unfold O9 at h;repeat' split at h
 all_goals first|(exact absurd (congrArg Prod.snd h) (by assumption))|(have f:=congrArg Prod.snd h;simp at f;done)|skip
 all_goals
  simp only[ne_eq,Decidable.not_not]at *
  subst_vars
  cases h;exact⟨_,_,_,_,_,_,_,‹_›,‹_›,‹_›,rfl⟩
def aik {e loc d v f:Int} (h:IQ S e item loc d v f=(T,0)):∃S1 a up c b,eK S e item loc ⟨d,v,0⟩=(S1,a,up,0)/\dS S1 e [⟨0,a⟩,⟨6,up⟩,⟨8,-v⟩]=(c,0)/\eC c e item [0,0,0,0,0,0,0,0,0,-a,0]=(b,0)/\T=b:=by
 unfold IQ at h;repeat' split at h
 all_goals first|(exact absurd (congrArg Prod.snd h) (by assumption))|(have g:=congrArg Prod.snd h;simp at g;done)|skip
 all_goals
  simp only[ne_eq,Decidable.not_not]at *
  subst_vars
  cases h;exact⟨_,_,_,_,_,‹_›,‹_›,‹_›,rfl⟩
def afb {e loc q:Int} (h:zQ S e item loc q=(T,0)):¬(S.aJ e).closed=true/\(T=S\/(q-(S.aJ e).oD (S.cX e item) (2*item+loc)<0/\O9 S e item loc (-q+(S.aJ e).oD (S.cX e item) (2*item+loc))=(T,0))\/(0<q-(S.aJ e).oD (S.cX e item) (2*item+loc)/\∃v f,IQ S e item loc (q-(S.aJ e).oD (S.cX e item) (2*item+loc)) v f=(T,0)/\((S.cX e item=4/\v=yJ (q-(S.aJ e).oD (S.cX e item) (2*item+loc)) (S.cost e item) 1)\/(S.cX e item≠4/\0<qs ((S.aJ e).bE (2*item+loc)).aX/\v=yJ (vs ((S.aJ e).bE (2*item+loc)).aX) (q-(S.aJ e).oD (S.cX e item) (2*item+loc)) (qs ((S.aJ e).bE (2*item+loc)).aX))\/(S.cX e item≠4/\v=0)))):=by
 unfold zQ at h;repeat' split at h
 .cases h
 .rename_i a d;cases h;exact⟨a,.inl rfl⟩
 .rename_i a d c;exact⟨a,.inr (.inl ⟨c,h⟩)⟩
 .rename_i a d c b;exact⟨a,.inr (.inr ⟨by omega,_,_,h,.inl ⟨b,rfl⟩⟩)⟩
 .rename_i a d c b g;exact⟨a,.inr (.inr ⟨by omega,_,_,h,.inr (.inl ⟨b,g,rfl⟩)⟩)⟩
 .rename_i a d c b g;exact⟨a,.inr (.inr ⟨by omega,_,_,h,.inr (.inr ⟨b,rfl⟩)⟩)⟩
def aeN {e a:Int} (h:yY S e item a=(T,0)):¬(S.aJ e).closed=true/\T=S.bJ e ((S.aJ e).vX item a):=by
 unfold yY at h;split at h
 .cases h
 .cases h;exact⟨‹_›,rfl⟩
def Th {e a:Int} (h:qH S e item a=(T,0)):¬(S.aJ e).closed=true/\¬S.cX e item≠4/\∃d c i b g f,Eg ((S.aJ e).bE (2*item+0)).aX a=(d,c,0)/\Eg (((S.mH e (2*item+0) d).aJ e).bE (2*item+1)).aX a=(i,b,0)/\dS (((S.mH e (2*item+0) d).mH e (2*item+1) i).eG (S.cI.set e.toNat ((S.cI.getD e.toNat []).set item.toNat a))) e [⟨0,c+b⟩,⟨6,-c-b⟩]=(g,0)/\eC g e item [0,0,0,0,0,0,0,0,0,0,c+b]=(f,0)/\T=f:=by
 unfold qH at h;repeat' split at h
 all_goals first|(exact absurd (congrArg Prod.snd h) (by assumption))|(have j:=congrArg Prod.snd h;simp at j;done)|skip
 all_goals
  simp only[ne_eq,Decidable.not_not]at *
  subst_vars
  cases h;exact⟨‹_›,‹_›,_,_,_,_,_,_,‹_›,‹_›,‹_›,‹_›,rfl⟩
def ah7 {dst a:Int} {refs:List Int} (h:tO S dst a refs=(T,0)):¬refs.any (fun k=>decide ((S.bB.length:Int)<=k))=true/\¬refs.any (fun k=>decide ((S.rc k).aU≠(S.rc (refs.headD 0)).aU))=true/\¬(S.aJ (S.rc (refs.headD 0)).aU).closed=true/\∃sh S1 all,fG a (refs.map (jC S dst))=(sh,0)/\hZ S S refs sh 0=(S1,all,0)/\dS S1 (S.rc (refs.headD 0)).aU [⟨0,all⟩,⟨9,a-all⟩,⟨2,-a⟩]=(T,0):=by
 unfold tO at h;repeat' split at h
 all_goals first|(exact absurd (congrArg Prod.snd h) (by assumption))|(have b:=congrArg Prod.snd h;simp at b;done)|skip
 simp only[ne_eq,Decidable.not_not]at *
 subst_vars
 cases h;exact⟨‹_›,‹_›,‹_›,_,_,_,‹_›,‹_›,‹_›⟩
def aeC {r:wU} {v c:Int} (h:kK S r v=(T,c,0)):(T=S/\c=0)\/(S.cX r.aU r.item≠4/\c=EW S r v/\∃M,vH ((S.aJ r.aU).bE (2*r.item+r.loc)).aX (EW S r v)=(M,0)/\eC (S.bJ r.aU ((S.aJ r.aU).bX (2*r.item+r.loc) { (S.aJ r.aU).bE (2*r.item+r.loc)with aX:=M })) r.aU r.item [0,0,EW S r v,0,0,0,0,0,0,0,0]=(T,0)):=by
 unfold kK at h;split at h
 .cases h;exact .inl ⟨rfl,rfl⟩
 split at h
 .cases h;exact .inl ⟨rfl,rfl⟩
 split at h;split at h
 .rename_i a;exact absurd (congrArg (fun r=>r.2.2) h) a
 rename_i e g _ M f d a;have a:f=0:=by simpa using a
 subst a;refine .inr ⟨e,?_⟩;split at h;rename_i i f b;cases h;exact⟨rfl,_,d,b⟩
def Po {e:Int} (h:jY S e=(T,0)):¬(S.aJ e).closed=true/\∃S1 a,kL e S.weights.length 0 S=(S1,0)/\qL S1 e=(a,0)/\T=a.bJ e ((a.aJ e).shut (S.aJ e).toEntC):=by
 unfold jY at h;repeat' split at h
 all_goals first|(exact absurd (congrArg Prod.snd h) (by assumption))|(have b:=congrArg Prod.snd h;simp at b;done)|skip
 simp only[ne_eq,Decidable.not_not]at *
 subst_vars
 cases h;exact⟨‹_›,_,_,‹_›,‹_›,rfl⟩
def jM {a b q:Int} (h:a<=b) (c:0<=q):a*q<=b*q:=a2g h c
def mQ {a b q r:Int} (h:a<=b) (d:0<=q) (c:q<=r) (e:0<=b):a*q<=b*r:=a17 (jM h d) (a1s c e)
structure Un (U W:Int) (y:bV):Prop where
 q:0<=y.q
 v:0<=y.v
 vu:y.v<=U*y.q
 p0:-(W*y.q)<=y.p
 p1:y.p<=W*y.q
theorem Un.zero:Un U W .zero:=⟨by simp[bV.zero],by simp[bV.zero],by simp[bV.zero],by simp[bV.zero],by simp[bV.zero]⟩
def Un.mono {U W U' c:Int} {y:bV} (h:Un U W y) (e:U<=U') (d:W<=c):Un U' c y:=by
 have a:=jM e h.q;have b:=jM d h.q;have:=h.vu;have:=h.p0;have:=h.p1;exact⟨h.q,h.v,by omega,by omega,by omega⟩
def Un.plus {x y:bV} (h:Un U W x) (g:Un U W y):Un U W (lD x y):=by
 have:=h.vu;have:=h.p0;have:=h.p1;have:=g.vu;have:=g.p0;have:=g.p1;have:=h.q;have:=g.q;have:=h.v;have:=g.v;refine⟨?_,?_,?_,?_,?_⟩<;>simp only[lD,a16]<;>omega
def ac9 {v q n:Int} (e:1<=n) (d:0<=q) (c:q<=n) (f:0<=v) (a:v<=U*n):0<=v*q/n/\v*q/n<=U*q/\0<=v-v*q/n/\v-v*q/n<=U*(n-q):=by
 have b:=uQ e d c f;refine⟨b.1,?_,by omega,?_⟩
 .apply a21 (by omega)
  have:=jM a d;rw[Int.mul_right_comm]at this;exact this
 .have k:v-U*(n-q)<=v*q/n:=by
   apply a42 (by omega);have h:=jM a (show 0<=n-q by omega)
   have g:(v-U*(n-q))*n=v*q+(v*(n-q)-U*n*(n-q)):=by
    simp only[Int.sub_mul,Int.mul_sub];have e1:U*n*n=U*n*n:=rfl;have e2:U*q*n=U*n*q:=Int.mul_right_comm _ _ _;omega
   omega
  omega
def vZ {v q n:Int} (c:1<=n) (b:0<=q) (a:q<=n) (f:-(U*n)<=v) (d:v<=U*n) (e:-288230376151711744<=v/\v<=288230376151711744) :
  (-(U*q)<=dM v q n/\dM v q n<=U*q)/\(-(U*(n-q))<=v-dM v q n/\v-dM v q n<=U*(n-q))/\(0<=v->0<=dM v q n/\0<=v-dM v q n):=by
 have h:¬ (n<1\/q<0\/q > n\/mD v=false):=by rw[fK.2 e];simp;omega
 unfold dM;rw[if_neg h];split
 .have k:=ac9 (U:=U) (v:=-v) c b a (by omega) (by omega)
  generalize -v*q/n=t at *;exact⟨⟨by omega,by omega⟩,⟨by omega,by omega⟩,fun h=>by omega⟩
 .have k:=ac9 (U:=U) (v:=v) c b a (by omega) d
  generalize v*q/n=t at *;exact⟨⟨by omega,by omega⟩,⟨by omega,by omega⟩,fun h=>by omega⟩
def Un.cut {x:bV} (h:Un U W x) (e:kS x=true) {q:Int} (d:0<=q) (c:q<=x.q):Un U W (mZ x q)/\Un U W (lX x (mZ x q)):=by
 have l:=eI.1 e;have a:=vZ (v:=x.v) (U:=U) l.1 d c (by have:=h.v;have:=h.vu;omega) h.vu ⟨by omega,by omega⟩;have b:=vZ (v:=x.p) (U:=W) l.1 d c h.p0 h.p1 ⟨by omega,by omega⟩;have:=a.2.2 h.v
 exact⟨⟨by simp only[mZ];omega,by simp only[mZ];omega,by simp only[mZ];omega,by simp only[mZ];omega,by simp only[mZ];omega⟩,
  ⟨by simp only[lX,mZ];omega,by simp only[lX,mZ];omega,by simp only[lX,mZ];omega,by simp only[lX,mZ];omega,by simp only[lX,mZ];omega⟩⟩
def Un.sum:∀{l:List bV},(∀x∈l,Un U W x)->Un U W ⟨qs l,vs l,ps l⟩
 |[],_=>⟨by simp[qs],by simp[vs],by simp[qs,vs],by simp[qs,ps],by simp[qs,ps]⟩
 |x::l,h=>by
  have:=(h x (by simp)).plus (Un.sum (l:=l) fun y a=>h y (by simp[a]));rw[gQ,mO,Lw];exact this
def ads {U W:Int}:∀(l:List bV) (a:bV) (q:Int),LR l->(∀x∈l,Un U W x)->Un U W a->(∀x∈(jL l a q).1,Un U W x)/\Un U W (jL l a q).2
 |[],a,q,_,_,c=>⟨fun x d=>by simp[jL]at d,c⟩
 |x::r,a,q,f,h,c=>by
  have d:=h x (by simp);have e:∀y∈r,Un U W y:=fun y b=>h y (by simp[b]);simp only[jL];split
  .exact⟨h,c⟩
  .split
   .obtain⟨i,g⟩:=d.cut (f.ok x (by simp)) (q:=q) (by omega) (by omega)
    refine⟨fun y b=>?_,c.plus i⟩;rcases a0c.1 b with rfl|b
    .exact g
    .exact e y b
   .exact ads r _ _ f.tail e (c.plus d)
def adq {l:List bV} {q:Int} (a:LR l) (h:∀x∈l,Un U W x):(∀x∈(fU l q).1,Un U W x)/\Un U W (fU l q).2.1:=by
 unfold fU;split
 .exact⟨h,.zero⟩
 .split
  .exact⟨h,.zero⟩
  .exact ads l _ q a h .zero
def abR {l m:List bV} {x:bV} (h:∀y∈l,Un U W y) (f:Un U W x) (b:zJ l x=(m,0)):∀y∈m,Un U W y:=by
 unfold zJ at b;split at b
 .rename_i a
  cases b;obtain⟨k,e,d⟩:∃k e,Cy l x=(k,e):=⟨_,_,rfl⟩;rw[d]at a |-;simp only at a |-;subst a;obtain⟨i,-,-,g,-⟩:=ED d;intro y c;rw[a07]at c;rw[c,g.uF.1];subst i;exact Un.sum (RJ h f)
 .rename_i a
  exact absurd (congrArg Prod.snd b) a
def uc (m c U:Int):Int:=if m=4 then c else U
def alA {m c:Int} (h:c<=U):uc m c U<=U:=by unfold uc;split<;>omega
def ahJ {c q:Int} (b:0<=c) (a:0<=q):0<=CJ c q/\CJ c q<=c*q:=by
 have e:max q 0=q:=by omega
 have d:=a0p a b;have e2:q*c=c*q:=a10 _ _;unfold CJ yJ;rw[e,if_neg (by omega),a4t];split<;>omega
def anE {c q:Int} (d:0<=c) (b:0<=q):(ofE c q=0/\CJ c q=c*q)\/(ofE c q≠0/\288230376151711744<c*q):=by
 have e:max q 0=q:=by omega
 have e2:q*c=c*q:=a10 _ _;have a:¬(q<0\/c<0\/(1:Int)<1):=by omega
 unfold ofE CJ yJ Lh;simp only[e,if_neg a,a4t,e2];by_cases h:c*q > 288230376151711744
 .rw[if_pos h];exact .inr ⟨by simp,h⟩
 .rw[if_neg h,if_neg h];exact .inl ⟨rfl,rfl⟩
def apc {m c:Int} {l l':List bV} {y:bV} {up:Int} (A:LR l) (h:∀x∈l,Un (uc m c U) W x) (d:Un U W y) (u:0<=c) (t:c<=U) (a:fD m c l y=(l',up,0)) :
  (∀x∈l',Un (uc m c U) W x)/\qs l'=qs l+y.q/\(0<=y.v-up/\y.v-up<=U*y.q)/\(-(U*y.q)<=up/\up<=U*y.q)/\1<=y.q:=by
 have w:=d.v;have z:=d.vu;have n:=d.q;unfold fD at a;split at a
 .rename_i j
  have b:Cy l y=(l',0):=Prod.ext (congrArg (fun r=>r.1) a) (congrArg (fun r=>r.2.2) a);have i:up=0:=(congrArg (fun r=>r.2.1) a).symm;obtain⟨s,g,-,-,f⟩:=ED b;have e:uc m c U=U:=if_neg (by omega);rw[e]at h |-;exact⟨by rw[s];exact RJ h d,g,⟨by omega,by omega⟩,⟨by omega,by omega⟩,f⟩
 .split at a
  .rename_i j
   have b:zJ l y=(l',0):=Prod.ext (congrArg (fun r=>r.1) a) (congrArg (fun r=>r.2.2) a);have i:up=0:=(congrArg (fun r=>r.2.1) a).symm;obtain⟨-,g,-,f⟩:=wK b;have e:uc m c U=U:=if_neg (by omega);rw[e]at h |-;exact⟨abR h d b,g,⟨by omega,by omega⟩,⟨by omega,by omega⟩,f⟩
  .split at a
   .rename_i j
    have b:zJ l y=(l',0):=Prod.ext (congrArg (fun r=>r.1) a) (congrArg (fun r=>r.2.2) a);have i:up=0:=(congrArg (fun r=>r.2.1) a).symm;obtain⟨-,g,-,f⟩:=wK b;have e:uc m c U=U:=if_neg (by omega);rw[e]at h |-;exact⟨abR h d b,g,⟨by omega,by omega⟩,⟨by omega,by omega⟩,f⟩
   .split at a
    .rename_i j
     have e:uc m c U=c:=if_pos j;rw[e]at h |-;unfold inC at a;split at a
     .cases a
     .split at a
      .cases a
      .split at a
       .rename_i k
        have b:zJ l ⟨y.q,CJ c y.q,y.p⟩=(l',0):=Prod.ext (congrArg (fun r=>r.1) a) k;have i:up=y.v-CJ c y.q:=(congrArg (fun r=>r.2.1) a).symm;obtain⟨-,g,-,f⟩:=wK b;have o:=ahJ u n;have:=jM t n;exact⟨abR (x:=⟨y.q,CJ c y.q,y.p⟩) h ⟨n,o.1,o.2,d.p0,d.p1⟩ b,g,⟨by omega,by omega⟩,⟨by omega,by omega⟩,f⟩
       .rename_i k
        exact absurd (congrArg (fun r=>r.2.2) a) k
    .cases a
def ahr {m c kind q:Int} {l l':List bV} {d d':tY} {y:bV} {wt:Bool} (hp:jS m l d) (hm:1<=m/\m<=4) (hk:0<=kind/\kind<=3) (h:∀x∈l,Un (uc m c U) W x) (N:0<=c) (c1:c<=U) (a:dG m c l d kind q=(l',d',y,wt,0)) :
  (∀x∈l',Un (uc m c U) W x)/\Un U W y/\qs l'<=qs l/\y.q<=qs l/\(y.q=0\/y.q=q)/\((m=3/\kind≠3/\wt=true/\y=.zero/\d'=d.add kind q/\1<=q)\/(wt=false/\d'=d)):=by
 have n:=hp.lr;have q0:=(gG n.ok).1;unfold dG at a;split at a
 .cases a
 .split at a
  .cases a
  .split at a
   .rename_i I
    unfold qD at a;split at a
    .cases a
    .split at a
     .cases a
     .cases a
      exact⟨h,.zero,a0f _,by simp[bV.zero];omega,.inl rfl,.inl ⟨I.1,I.2,by simp,rfl,rfl,by omega⟩⟩
   .have e1:l'=(fV m c l d q).1:=(congrArg (fun r=>r.1) a).symm
    have e2:y=(fV m c l d q).2.1:=(congrArg (fun r=>r.2.2.1) a).symm;have g:(fV m c l d q).2.2=0:=congrArg (fun r=>r.2.2.2.2) a;have e4:wt=false:=(congrArg (fun r=>r.2.2.2.1) a).symm;have e5:d'=d:=(congrArg (fun r=>r.2.1) a).symm
    have key:∀{V:Int},(∀x∈l,Un V W x)->∀{r},r=fU l q->r.2.2=0->(∀x∈r.1,Un V W x)/\Un V W r.2.1/\qs r.1=qs l-r.2.1.q/\r.2.1.q=q/\1<=q/\vs r.1=vs l-r.2.1.v:=by
     rintro V hV r rfl B;obtain⟨k,i⟩:=adq (q:=q) n hV;refine⟨k,i,?_⟩
     have w:1<=q/\q<=qs l:=by
      unfold fU at B;split at B
      .cases B
      .split at B
       .cases B
       .rename_i h1 h2
        rw[n.uF.1]at h2;simp only at h2;omega
     obtain⟨s1,s2,s3,-⟩:=wE l .zero q n (by omega) w.2;rw[Em n w.1 w.2];simp only[bV.zero]at s1 s2 s3 |-;exact⟨by omega,by omega,by omega,by omega⟩
    suffices main:(∀x∈l',Un (uc m c U) W x)/\Un U W y/\qs l'<=qs l/\y.q<=qs l/\(y.q=0\/y.q=q)from⟨main.1,main.2.1,main.2.2.1,main.2.2.2.1,main.2.2.2.2,.inr ⟨e4,e5⟩⟩
    clear a e4 e5
    .unfold fV at e1 e2 g
     split at g
     .rename_i M
      have e:uc m c U=U:=if_neg (by omega);rw[e]at h |-;rw[if_pos M]at e1 e2;unfold AK at e1 e2 g;split at g
      .cases g
      .rename_i g1
       rw[if_neg g1]at e1 e2;split at g
       .cases g
       .rename_i g2
        rw[if_neg g2]at e1 e2;obtain⟨k,i,s,j,K,D⟩:=key h rfl g;have:=i.q;have:=(gG (nL (q:=q) n).ok).1;subst e1 e2;exact⟨k,i,by omega,by omega,.inr j⟩
     .rename_i M
      rw[if_neg M]at e1 e2;split at g
      .rename_i A
       have e:uc m c U=c:=if_pos A;rw[e]at h |-;rw[if_pos A]at e1 e2;have ab:l.length<=1:=by rcases hp.one with h5|h5<;>omega
       unfold Cw at e1 e2 g;split at g
       .cases g
       .rename_i g1
        rw[if_neg g1]at e1 e2;have len:=En (l:=l) (q:=q);have R:=nL (q:=q) n;obtain⟨L,Y,f,hS⟩:∃L Y f,fU l q=(L,Y,f):=⟨_,_,_,rfl⟩;have S:=@key c h _ hS.symm;rw[hS]at e1 e2 g len R;cases L with
        |nil =>
         obtain⟨k,i,s,j,K,D⟩:=S g;have F:=i.mono c1 (a0f W);have:=i.q;subst e1 e2;have e0:qs []=0:=(by simp[qs]);dsimp only at k i F s j this |-;exact⟨k,F,by omega,by omega,.inr j⟩
        |cons z t =>
         dsimp only at e1 e2 g len R;split at g
         .rename_i E;exact absurd g E
         rename_i E;rw[if_neg E]at e1 e2;obtain⟨k,i,s,j,K,D⟩:=S (by simpa using E);dsimp only at k i s j D e1 e2
         have ht:t=[]:=by
          rw[a0t]at len;cases t with
          |nil=>rfl
          |cons _ _=>simp only[a0t]at len;omega
         subst ht;have C:=k z (by simp);have uF:=C.plus i;have H:=i.q;have G:=C.q;have zq:qs l=z.q+Y.q:=by rw[gQ]at s;simp[qs]at s |-;omega
         obtain⟨v,u⟩:∃v,v=if ofE c q≠0\/z.v+Y.v<CJ c q then z.v+Y.v else CJ c q:=⟨_,rfl⟩
         have o:=ahJ (c:=c) (q:=q) N (by omega)
         have b:0<=v/\v<=c*q/\v<=z.v+Y.v/\z.v+Y.v-v<=c*z.q:=by
          have X:=uF.vu;have Z:=uF.v;simp only[lD,a16,j]at X Z;have hV:=n.v;have ac:vs [z]=z.v:=(by simp[vs]);have:=a0p N G;rcases anE (c:=c) (q:=q) N (by omega)with⟨J,Q⟩|⟨J,Q⟩
          .rw[J,Q]at u
           by_cases ho:z.v+Y.v<c*q
           .rw[if_pos (.inr ho)]at u;exact⟨by omega,by omega,by omega,by omega⟩
           .rw[if_neg (by simp;omega)]at u;exact⟨by have:=o.1;omega,by omega,by omega,by omega⟩
          .rw[if_pos (.inl J)]at u
           exact⟨by omega,by omega,by omega,by omega⟩
         rw[<-u]at e1 e2;clear u;subst e1 e2;have aa:=jM c1 H;rw[j]at aa;have P:=i.p0;have O:=i.p1;have ad:qs [(⟨z.q,z.v+(Y.v-v),z.p⟩:bV)]=z.q:=by rw[gQ];simp[qs]
         refine⟨fun x T=>?_,⟨H,b.1,by dsimp only;rw[j];omega,P,O⟩,by omega,by dsimp only;omega,.inr j⟩
         rw[a07]at T;subst T;exact⟨G,by dsimp only;omega,by dsimp only;omega,C.p0,C.p1⟩
      .rename_i A
       have e:uc m c U=U:=if_neg A;rw[e]at h |-;rw[if_neg A]at e1 e2;obtain⟨k,i,s,j,K,D⟩:=key h rfl g;have:=i.q;have:=(gG (nL (q:=q) n).ok).1;subst e1 e2;exact⟨k,i,by omega,by omega,.inr j⟩
def afV {l:List Int} (h:dW l=0):dJ l=l.sum:=by
 unfold dW at h;unfold dJ;cases a:dO 0 l with
 |none=>rw[a]at h;simp at h
 |some s=>have:=vV l 0 s a;simp only[a2y];omega
def OU {l:List dE} (h:(dA l).2=0) {a:Int} (d:0<=a) (h1:a<17):val (dA l).1 a=val l a:=by
 unfold dA at h |-;by_cases c:l.any pC=true
 .rw[if_pos c]at h;cases h
 .rw[if_neg c]at h |-
  by_cases hs:(List.range 17).any (fun(a:Nat)=>decide (dW (gY l (a:Int))≠0))=true
  .rw[if_pos hs]at h;cases h
  .rw[if_neg hs]
   have e:dW (gY l a)=0:=by
    have k:∀b∈List.range 17,dW (gY l ((b:Nat):Int))=0:=(by simpa using hs);have:=k a.toNat (by rw[a0v];omega);rwa[a1h d]at this
   exact(aa9 (f:=fun a=>dJ (gY l a)) d h1).trans (afV e)
def aij (l:List Int) (i j:Nat) (v d:Int) (h:i<l.length):(l.set i v).getD j d=if i=j then v else l.getD j d:=by
 rw[a0k,a0r];by_cases e:i=j
 .subst e;simp[h]
 .simp[e]
def NF:∀(m:List dE) (cU next:List Int),(∀x∈m,0<=x.a/\x.a<cU.length)->gM cU m=some next->∀a:Int,0<=a->next.getD a.toNat 0=cU.getD a.toNat 0+val m a
 |[],cU,next,_,h,a,_=>by simp only[gM,a0g]at h;subst h;rw[acF];omega
 |x::m,cU,next,b,h,a,d=>by
  simp only[gM]at h;split at h
  .have k:=b x (by simp)
   rw[NF m _ next (fun y c=>by rw[a1m];exact b y (by simp[c])) h a d,aij _ _ _ _ _ (by omega),LW];by_cases e:x.a=a
   .subst e;rw[if_pos rfl,if_pos rfl];omega
   .rw[if_neg (by omega),if_neg e];omega
  .cases h
def EntC.acc (x:EntC) (a:Int):Int:=x.cU.getD a.toNat 0
def ME {S1:bK} {e:Int} {l:List dE} (h:dS S e l=(S1,0)) (j:(S.aJ e).cU.length=17) :
  ∃b:List Int,S1=S.bJ e ((S.aJ e).xI b)/\b.length=17/\∀a:Int,0<=a->a<17->b.getD a.toNat 0=(S.aJ e).acc a+val l a:=by
 unfold dS at h;by_cases g:(dA l).2=0
 .rw[if_neg (by simp[g])]at h
  by_cases f:(nE (S.aJ e).cU (dA l).1).2=0
  .rw[if_neg (by simp[f])]at h
   refine⟨(nE (S.aJ e).cU (dA l).1).1,(congrArg Prod.fst h).symm,by rw[aeO,j],fun a a0 n=>?_⟩
   have d:AQ (S.aJ e).cU (dA l).1=0:=by
    unfold nE at f;by_cases d:AQ (S.aJ e).cU (dA l).1=0
    .exact d
    .rw[if_neg d]at f;exact f
   have i:(dA (dA l).1).2=0:=by
    unfold AQ at d;split at d
    .cases d
    .rename_i k;exact Classical.byContradiction fun c=>k (.inl c)
   unfold nE;rw[if_pos d];unfold AQ at d;rw[if_neg (by intro c;rw[if_pos c]at d;cases d)]at d;unfold MD;cases m:gM (S.aJ e).cU (dA (dA l).1).1 with
   |none=>rw[m]at d;cases d
   |some next =>
    simp only[a2y];rw[NF _ _ _ (fun x o=>by have:=FE _ x o;rw[j];omega) m a a0,OU i a0 n,OU g a0 n];rfl
  .rw[if_pos f]at h
   exact absurd (congrArg Prod.snd h) f
 .rw[if_pos g]at h
  exact absurd (congrArg Prod.snd h) g
def EntC.iv (x:EntC):Int:=(x.bH.map fun p=>vs p.aX).sum
def ajI (l:List Int):∀(i:Nat) (v:Int),i<l.length->(l.set i v).sum=l.sum-l.getD i 0+v:=by
 induction l with
 |nil=>intro i v h;simp at h
 |cons x l a =>
  intro i v h;cases i with
  |zero=>simp only[a4v,a0x,List.getD_cons_zero];omega
  |succ i =>
   simp only[a0t]at h;simp only[List.set_cons_succ,a0x,List.getD_cons_succ,a i v (by omega)];omega
def AP (S:bK) (e:Int) (x y:dL):(S.bJ e x).bJ e y=S.bJ e y:=by
 unfold bK.bJ;simp
section
variable {S:bK} {e item:Int}
end
end
section
open Mc
variable {sa':List kU} {S S1:bK}
def vY (e k:Nat) (now:Int) (x:kU):Int:=if x.waits=true/\x.aU=(e:Int)/\2*x.item+x.loc=(k:Int)/\x.period=now then x.eU-x.back else 0
def gR (l:List kU) (e k:Nat) (now:Int):Int:=(l.map (vY e k now)).sum
structure EL (U W Q B:Int) (sa:List kU) (e:Nat) (ms cs:List Int) (x:EntC):Prop where
 un:∀(k:Nat) (p:dI),x.bH[k]?=some p->(∀y∈p.aX,Un (uc (ms.getD (k/2) 0) (cs.getD (k/2) 0) U) W y)/\qs p.aX<=Q/\p.p0<=gR sa e k x.now/\(x.closed=true->p.p0<=0)
 cU:∀v∈x.cU,-B<=v/\v<=B
 rL:∀r∈x.aM,∀v∈r,-B<=v/\v<=B
 down:∀v∈x.down,v<=4294967296
def RcL (x:wU):Prop:=x.value<=1000/\x.dQ<=1000
def SaL (U W:Int) (x:kU):Prop:=0<=x.cost/\(x.back<x.eU->x.cost<=U*(x.eU-x.back)/\(-(W*(x.eU-x.back))<=x.bY/\x.bY<=W*(x.eU-x.back)))
def TrL (U W:Int) (x:Fh):Prop:=x.eU<=24/\x.value<=U*x.eU/\(-(W*x.eU)<=x.bY/\x.bY<=W*x.eU)
structure Lm (U W Q B:Int) (sa':List kU) (S:bK):Prop where
 cost:∀r∈S.cI,∀v∈r,v<=1000
 aJ:∀(e:Nat) (x:dL),S.aD[e]?=some x->∀y:EntC,(y=x.toEntC\/y∈x.ahead)->EL U W Q B sa' e (S.methods.getD e []) (S.cI.getD e []) y
 rc:∀x∈S.bB,RcL x
 sa:∀x∈S.aN,SaL U W x
 tr:∀x∈S.aH,TrL U W x
def ajy {m c U U':Int} (h:U<=U'):uc m c U<=uc m c U':=by grind[uc]
def EL.mono {U W Q B U' d Q' B':Int} {c:List kU} {e:Nat} {ms cs:List Int} {x:EntC} (h:EL U W Q B c e ms cs x) (j:U<=U') (i:W<=d) (l:Q<=Q') (m:B<=B'):EL U' d Q' B' c e ms cs x :=
 ⟨fun k p b=>⟨fun y f=>((h.un k p b).1 y f).mono (ajy j) i,by have:=(h.un k p b).2.1;omega,(h.un k p b).2.2⟩,fun v a=>by have:=h.cU v a;omega,fun r g v a=>by have:=h.rL r g v a;omega,h.down⟩
def SaL.mono {U W U' a:Int} {x:kU} (h:SaL U W x) (d:U<=U') (c:W<=a):SaL U' a x:=⟨h.1,fun b=>by
 have k:=h.2 b;have:=jM d (show 0<=x.eU-x.back by omega);have:=jM c (show 0<=x.eU-x.back by omega);omega⟩
def TrL.mono {U W U' b:Int} {x:Fh} (h:TrL U W x) (a:0<=x.eU) (e:U<=U') (d:W<=b):TrL U' b x:=by
 obtain⟨c,k,f⟩:=h;have:=jM e a;have:=jM d a;exact⟨c,by omega,by omega,by omega⟩
def Lm.mono {U W Q B U' d Q' B':Int} {sa':List kU} {S:bK} (G:Gn S) (h:Lm U W Q B sa' S) (c:U<=U') (b:W<=d) (g:Q<=Q') (i:B<=B'):Lm U' d Q' B' sa' S :=
 ⟨h.cost,fun e x a y f=>(h.aJ e x a y f).mono c b g i,h.rc,fun x a=>(h.sa x a).mono c b,fun x a=>(h.tr x a).mono (by have:=(G.OA x a).2.2.2.1;omega) c b⟩
def Lm.amN {U W Q B Q':Int} (h:Lm U W Q B sa' S) (c:Q<=Q'):Lm U W Q' B sa' S :=
 ⟨h.cost,fun e x b y a=>(h.aJ e x b y a).mono (a0f _) (a0f _) c (a0f _),h.rc,h.sa,h.tr⟩
def Lm.Ex {U W Q B B':Int} (h:Lm U W Q B sa' S) (c:B<=B'):Lm U W Q B' sa' S :=
 ⟨h.cost,fun e x b y a=>(h.aJ e x b y a).mono (a0f _) (a0f _) (a0f _) c,h.rc,h.sa,h.tr⟩
def Lm.ady {U W Q B U':Int} (h:Lm U W Q B sa' S) (b:U<=U') (d:∀x∈S.aH,0<=x.eU):Lm U' W Q B sa' S :=
 ⟨h.cost,fun e x a y c=>(h.aJ e x a y c).mono b (a0f _) (a0f _) (a0f _),h.rc,fun x a=>(h.sa x a).mono b (a0f _),fun x a=>(h.tr x a).mono (d x a) b (a0f _)⟩
def Lm.aaW {U W Q B:Int} {b:List kU} (h:Lm U W Q B b S) (f:∀(e:Nat) (x:dL),S.aD[e]?=some x->∀y:EntC,(y=x.toEntC\/y∈x.ahead)->∀k,gR b e k y.now<=gR sa' e k y.now):Lm U W Q B sa' S :=
 ⟨h.cost,fun e x d y c=>by
  have E:=h.aJ e x d y c;exact⟨fun k p a=>⟨(E.un k p a).1,(E.un k p a).2.1,a17 (E.un k p a).2.2.1 (f e x d y c k),(E.un k p a).2.2.2⟩,E.cU,E.rL,E.down⟩,h.rc,h.sa,h.tr⟩
def akz {l:List Int} {c:Int} (k:Nat) (h:∀v∈l,v<=c) (b:0<=c):l.getD k 0<=c:=by
 by_cases a:k<l.length<;>simp_all
section
variable {U W Q B:Int} {sa':List kU} {S:bK} {e item:Int}
def Lm.IS (h:Lm U W Q B sa' S) (e item:Int):S.cost e item<=1000:=by
 unfold bK.cost;refine akz _ (fun v a=>?_) (by omega);by_cases b:e.toNat<S.cI.length
 .exact h.cost _ (dR b) v a
 simp_all
def Lm.bJ (h:Lm U W Q B sa' S) {E:dL} (f:0<=e) (c:∀y:EntC,(y=E.toEntC\/y∈E.ahead)->EL U W Q B sa' e.toNat (S.methods.getD e.toNat []) (S.cI.getD e.toNat []) y):Lm U W Q B sa' (S.bJ e E):=by
 refine⟨h.cost,fun k x a y b=>?_,h.rc,h.sa,h.tr⟩;have a:(S.aD.set e.toNat E)[k]?=some x:=a;rw[a0r]at a;split at a
 .rename_i d
  split at a
  .simp only[a0g]at a
   subst a d;exact c y b
  simp_all
 .exact h.aJ k x a y b
def Lm.el (h:Lm U W Q B sa' S) (G:StOk S) (x:Ix S e item):EL U W Q B sa' e.toNat (S.methods.getD e.toNat []) (S.cI.getD e.toNat []) (S.aJ e).toEntC:=h.aJ _ _ (G.at_ x) _ (.inl rfl)
def Lm.elA (h:Lm U W Q B sa' S) (G:StOk S) (x:Ix S e item) {y:EntC} (a:y∈(S.aJ e).ahead):EL U W Q B sa' e.toNat (S.methods.getD e.toNat []) (S.cI.getD e.toNat []) y:=h.aJ _ _ (G.at_ x) _ (.inr a)
def Lm.bE (h:Lm U W Q B sa' S) (G:StOk S) (x:Ix S e item) {loc:Int} (b:0<=loc) (a:loc<=1):(∀y∈((S.aJ e).bE (2*item+loc)).aX,Un (uc (S.cX e item) (S.cost e item) U) W y)/\qs ((S.aJ e).bE (2*item+loc)).aX<=Q/\((S.aJ e).bE (2*item+loc)).p0<=gR sa' e.toNat (2*item+loc).toNat (S.aJ e).now/\((S.aJ e).closed=true->((S.aJ e).bE (2*item+loc)).p0<=0):=by
 have k:=(h.el G x).un _ _ (G.pat x b a);have e1:(2*item+loc).toNat/2=item.toNat:=by omega
 rw[e1]at k;exact k
def Lm.bX (h:Lm U W Q B sa' S) (G:StOk S) (x:Ix S e item) {loc:Int} (l:0<=loc) (j:loc<=1) {p:dI} (g:∀y∈p.aX,Un (uc (S.cX e item) (S.cost e item) U) W y) (f:qs p.aX<=Q) (d:p.p0<=gR sa' e.toNat (2*item+loc).toNat (S.aJ e).now) (c:(S.aJ e).closed=true->p.p0<=0):Lm U W Q B sa' (S.bJ e ((S.aJ e).bX (2*item+loc) p)):=by
 refine h.bJ x.e0 fun y b=>?_;rcases b with rfl|b
 .have E:=h.el G x
  refine⟨fun k q a=>?_,E.cU,E.rL,E.down⟩;have a:((S.aJ e).bH.set (2*item+loc).toNat p)[k]?=some q:=a;rw[a0r]at a;split at a
  .rename_i i
   split at a
   .simp only[a0g]at a
    subst a i;have e1:(2*item+loc).toNat/2=item.toNat:=by omega
    rw[e1];exact⟨g,f,d,c⟩
   simp_all
  .exact E.un k q a
 .exact h.elA G x b
def Lm.S8 {g:List kU} (h:Lm U W Q B g S) (G:StOk S) (x:Ix S e item) {loc:Int} (w:0<=loc) (v:loc<=1) (u:(S.aJ e).ahead=[]) {p:dI} (t:∀y∈p.aX,Un (uc (S.cX e item) (S.cost e item) U) W y) (s:qs p.aX<=Q) (r:p.p0<=gR sa' e.toNat (2*item+loc).toNat (S.aJ e).now) (o:(S.aJ e).closed=true->p.p0<=0)
  (hs:∀(e' k':Nat) (now:Int),¬(e'=e.toNat/\k'=(2*item+loc).toNat)->gR g e' k' now<=gR sa' e' k' now):Lm U W Q B sa' (S.bJ e ((S.aJ e).bX (2*item+loc) p)):=by
 refine⟨h.cost,fun k z a y d=>?_,h.rc,h.sa,h.tr⟩;have a:(S.aD.set e.toNat ((S.aJ e).bX (2*item+loc) p))[k]?=some z:=a;rw[a0r]at a;split at a
 .rename_i b
  split at a
  .simp only[a0g]at a
   subst a b;rcases d with rfl|d
   .have E:=h.el G x
    refine⟨fun k q a=>?_,E.cU,E.rL,E.down⟩;have a:((S.aJ e).bH.set (2*item+loc).toNat p)[k]?=some q:=a;rw[a0r]at a;split at a
    .rename_i b
     split at a
     .simp only[a0g]at a
      subst a b;have e1:(2*item+loc).toNat/2=item.toNat:=by omega
      rw[e1];exact⟨t,s,r,o⟩
     simp_all
    .rename_i b
     obtain⟨n,m,l,i⟩:=E.un k q a;exact⟨n,m,a17 l (hs _ _ _ (fun c=>b c.2.symm)),i⟩
   .rw[show((S.aJ e).bX (2*item+loc) p).ahead=(S.aJ e).ahead from rfl,u]at d;cases d
  simp_all
 .rename_i b
  have E:=h.aJ k z a y d;exact⟨fun j q f=>⟨(E.un j q f).1,(E.un j q f).2.1,a17 (E.un j q f).2.2.1 (hs _ _ _ (fun c=>b c.1.symm)),(E.un j q f).2.2.2⟩,E.cU,E.rL,E.down⟩
def Lm.apn (h:Lm U W Q B sa' S) (D:1000<=U) (G:StOk S) (x:Ix S e item) {loc:Int} (c:0<=loc) (b:loc<=1) {y:bV} (i:Un U W y) {g up:Int} (d:eK S e item loc y=(S1,g,up,0)) :
  Lm U W (Q+y.q) B sa' S1/\(0<=g/\g<=U*y.q)/\(-(U*y.q)<=up/\up<=U*y.q):=by
 have k:=G.AS x c b;have s:=G.cb' x;have u:=h.IS e item;obtain⟨p1,p2,o,n⟩:=h.bE G x c b;have j:=i.q;have E:=fun a r j=>(h.amN (Q':=Q+y.q) (by omega)).bX G x c b (p:={ (S.aJ e).bE (2*item+loc)with aX:=a }) r j o n;unfold eK at d;obtain⟨a,t,f,m⟩:∃a up f,fD (S.cX e item) (S.cost e item) ((S.aJ e).bE (2*item+loc)).aX y=(a,up,f):=⟨_,_,_,rfl⟩;simp only[m]at d;split at d
 .simp_all
 .rename_i l
  have l:f=0:=by omega
  subst l;obtain⟨C,A,z,w,v⟩:=apc k.lr p1 i s.1 (by omega) m
  grind
def Lm.ape (h:Lm U W Q B sa' S) (A:1000<=U) (G:StOk S) (x:Ix S e item) {loc kind q:Int} (c:0<=loc) (b:loc<=1) (w:1<=kind) (l:kind<=3) {y:bV} {wt:Bool} (hF:dU S e item loc kind q=(S1,y,wt,0)) :
  Lm U W Q B sa' S1/\Un U W y/\y.q<=Q/\(y.q=0\/y.q=q):=by
 have i:=G.AS x c b;have m:=G.mb' x;have n:=G.cb' x;have s:=h.IS e item;obtain⟨p1,p2,v,u⟩:=h.bE G x c b;have C:=fun p=>h.bX G x c b (p:=p);unfold dU at hF;obtain⟨g,f,t,r,d,k⟩:∃g f y wt d,dG (S.cX e item) (S.cost e item) ((S.aJ e).bE (2*item+loc)).aX ((S.aJ e).bE (2*item+loc)).pn kind q=(g,f,y,wt,d):=⟨_,_,_,_,_,rfl⟩;simp only[k]at hF;split at hF
 .simp_all
 .rename_i j
  have j:d=0:=by omega
  subst j;obtain⟨g1,g2,g3,E,D,o⟩:=ahr i m ⟨by omega,l⟩ p1 n.1 (by omega) k
  cases hF;have z:f.a=((S.aJ e).bE (2*item+loc)).p0:=by
   rcases o with⟨_,_,_,_,rfl,_⟩|⟨_,rfl⟩
   .unfold tY.add;rw[if_neg (by omega)];split<;>rfl
   .rfl
  grind
def Lm.N4 (h:Lm U W Q B sa' S) (T:1000<=U) (G:StOk S) (x:Ix S e item) {loc q:Int} (f:0<=loc) (d:loc<=1) (r:¬(S.aJ e).closed=true) (v:(S.aJ e).ahead=[]) {y:bV} {wt:Bool} (hF:dU S e item loc 0 q=(S1,y,wt,0)) {z:kU} (s:z.waits=wt/\z.aU=e/\z.item=item/\z.loc=loc/\z.period=(S.aJ e).now/\z.eU=q/\z.back=0) (E:0<=q) :
  Lm U W Q B (sa'++[z]) S1/\Un U W y/\y.q<=Q/\(y.q=0\/y.q=q)/\(wt=true->y=.zero):=by
 have k:=G.AS x f d;have t:=G.mb' x;have u:=G.cb' x;have H:=h.IS e item;obtain⟨p1,p2,P,O⟩:=h.bE G x f d;obtain⟨o,M,L,K,n,J,I⟩:=s;have w:=fun p=>h.S8 (sa':=sa'++[z]) G x f d v (p:=p)
 have r0:∀(b k':Nat) (now:Int),gR (sa'++[z]) b k' now=gR sa' b k' now+(if z.waits=true/\z.aU=(b:Int)/\2*z.item+z.loc=(k':Int)/\z.period=now then z.eU-z.back else 0):=by
  simp_all[gR,vY]
 have r1:∀(b k':Nat) (now:Int),gR sa' b k' now<=gR (sa'++[z]) b k' now:=by
  grind
 unfold dU at hF;obtain⟨i,g,N,D,b,m⟩:∃i g y wt b,dG (S.cX e item) (S.cost e item) ((S.aJ e).bE (2*item+loc)).aX ((S.aJ e).bE (2*item+loc)).pn 0 q=(i,g,y,wt,b):=⟨_,_,_,_,_,rfl⟩;simp only[m]at hF;split at hF
 .grind
 .rename_i l
  have l:b=0:=by omega
  subst l;obtain⟨g1,g2,g3,V,C,A⟩:=ahr k t ⟨by omega,by omega⟩ p1 u.1 (by omega) m;cases hF;refine⟨w _ g1 (by grind) ?_ (fun c=>absurd c r) (fun b k' now _=>r1 b k' now),g2,by omega,C,fun j=>?_⟩
  rotate_left
  .grind
  show g.a<=_;have R:=x.i0;have F:=x.e0;rw[r0];rcases A with⟨_,_,j,_,rfl,_⟩|⟨_,rfl⟩
  .rw[if_pos ⟨o.trans j,by omega,by omega,n⟩]
   unfold tY.add;rw[if_pos rfl];show((S.aJ e).bE (2*item+loc)).p0+q<=_;omega
  .show((S.aJ e).bE (2*item+loc)).p0<=_
   omega
def Lm.xI (h:Lm U W Q B sa' S) (G:StOk S) (x:Ix S e item) {b:List Int} (c:∀v∈b,-B<=v/\v<=B):Lm U W Q B sa' (S.bJ e ((S.aJ e).xI b)):=by
 refine h.bJ x.e0 fun y a=>?_;rcases a with rfl|a
 .have E:=h.el G x
  exact⟨E.un,c,E.rL,E.down⟩
 .exact h.elA G x a
def acG {A:Int}:∀{l:List dE},(∀y∈l,-A<=y.n/\y.n<=A)->0<=A->∀a:Int,-(A*l.length)<=val l a/\val l a<=A*l.length
 |[],_,_,a=>by simp[acF]
 |y::l,h,c,a=>by
  have d:=acG (l:=l) (fun z b=>h z (by simp[b])) c a;have:=h y (by simp);rw[LW,a0t,show A*((l.length+1:Nat):Int)=A*l.length+A by grind];omega
def Lm.post (h:Lm U W Q B sa' S) (G:StOk S) (x:Ix S e item) {l:List dE} {A:Int} (j:dS S e l=(S1,0)) (o:∀y∈l,-A<=y.n/\y.n<=A) (c:0<=A):Lm U W Q (B+A*l.length) sa' S1:=by
 have E:=G.zN x;obtain⟨b,rfl,t,f⟩:=ME j E.bl;have:=acG o c;have m:=h.el G x;have s:0<=A*(l.length:Int):=a0p c (by omega);refine(h.Ex (B':=B+A*l.length) (by omega)).xI G x fun v a=>?_;obtain⟨i,g⟩:=a1j.1 a;have p:=(a0y.1 g).1;have k:=f (i:Int) (by omega) (by omega);have e1:b.getD i 0=v:=by simp_all
 rw[a0w,e1]at k;have r:=this (i:Int);have q:=m.cU _ (dR (d:=0) (show i<(S.aJ e).cU.length by rw[E.bl];omega));unfold EntC.acc at k;rw[a0w]at k;omega
def X8 {A B:Int}:∀(x y s:List Int),rJ x y=some s->(∀v∈x,-B<=v/\v<=B)->(∀v∈y,-A<=v/\v<=A)->∀v∈s,-(B+A)<=v/\v<=B+A
 |[],_,s,h,_,_=>by simp_all[rJ]
 |_::_,[],s,h,_,_=>by simp_all[rJ]
 |a::l,b::r,s,h,e,d=>by
  simp only[rJ]at h;split at h
  .rename_i g
   cases f:rJ l r with
   |none=>simp_all
   |some t =>
    rw[f]at h;simp only[a0q,a0g]at h;subst h;intro v c;rcases a0c.1 c with rfl|c
    .have:=e a (by simp)
     have:=d b (by simp)
     grind[nT]
    .exact X8 l r t f (fun v c=>e v (by simp[c])) (fun v c=>d v (by simp[c])) v c
  .cases h
def Lm.ajA (h:Lm U W Q B sa' S) (G:StOk S) (x:Ix S e item) {r:List Int} {A:Int} (b:eC S e item r=(S1,0)) (g:∀v∈r,-A<=v/\v<=A) (i:0<=A):Lm U W Q (B+A) sa' S1:=by
 unfold eC at b;split at b
 .cases b
 .rename_i s hs
  cases b;have E:=h.el G x;refine(h.Ex (B':=B+A) (by omega)).bJ x.e0 fun y c=>?_
  rcases c with rfl|c
  .refine⟨E.un,fun v a=>by have:=E.cU v a;omega,fun t d v a=>?_,E.down⟩
   rcases a05 d with d|rfl
   .have:=E.rL t d v a;omega
   .refine X8 _ _ _ hs (fun v a=>?_) g v a
    by_cases f:item.toNat<(S.aJ e).aM.length
    .exact E.rL _ (dR f) v a
    simp_all[dL.rL]
  .exact(h.elA G x c).mono (a0f _) (a0f _) (a0f _) (by omega)
end
end
section
open Mc
variable {k:Int} {S1:bK}
structure yG (U W Q:Int):Prop where
 u0:1000<=U
 u1:U<=524288
 w0:0<=W
 w1:W<=268435456
 q1:Q<=4096
def Un.val {U W Q:Int} {y:bV} (h:Un U W y) (C:yG U W Q) (a:y.q<=4096):y.v<=2147483648/\U*y.q<=2147483648:=by
 have:=mQ C.u1 h.q a (by omega);have:=h.vu;omega
section
variable {U W Q B:Int} {sa':List kU} {S0 S S1:bK} {e item:Int}
def Lm.Nw (h:Lm U W Q B sa' S) (C:yG U W Q) (K:Kn S0 S) (x:Ix S0 e item) {loc:Int} (c:0<=loc) (b:loc<=1) {y:bV} (d:Un U W y) (g:y.q<=24) {a up:Int} (f:eK S e item loc y=(S1,a,up,0)) :
  Kn S0 S1/\Lm U W (Q+24) B sa' S1/\(0<=a/\a<=2147483648)/\(-2147483648<=up/\up<=2147483648):=by
 obtain⟨b1,b2,b3⟩:=h.apn C.u0 K.ok (K.ix x) c b d f;have k:=(mV K.ok (K.ix x) c b y).1;rw[f]at k;have:=d.val C (by omega);exact⟨K.trans k,b1.amN (by omega),by omega,by omega⟩
def Lm.Nf (h:Lm U W Q B sa' S) (C:yG U W Q) (K:Kn S0 S) (x:Ix S0 e item) {loc kind q:Int} (b:0<=loc) (a:loc<=1) (d:1<=kind) (c:kind<=3) {y:bV} {wt:Bool} (hF:dU S e item loc kind q=(S1,y,wt,0)) :
  Kn S0 S1/\Lm U W Q B sa' S1/\Un U W y/\(0<=y.v/\y.v<=2147483648)/\(y.q=0\/y.q=q):=by
 obtain⟨b1,b2,b3,f⟩:=h.ape C.u0 K.ok (K.ix x) b a d c hF;have k:=(mT K.ok (K.ix x) b a (kind:=kind) (by omega) c q).1;rw[hF]at k;have:=b2.val C (by have:=C.q1;omega);exact⟨K.trans k,b1,b2,⟨b2.v,this.1⟩,f⟩
def Lm.sW (h:Lm U W Q B sa' S) (K:Kn S0 S) (x:Ix S0 e item) {l:List dE} (a:dS S e l=(S1,0)) (b:∀y∈l,-8589934592<=y.n/\y.n<=8589934592) (c:l.length<=6):Kn S0 S1/\Lm U W Q (B+51539607552) sa' S1:=by
 have k:=(eX K.ok (K.ix x) l).1;rw[a]at k;exact⟨K.trans k,(h.post K.ok (K.ix x) a b (by omega)).Ex (by omega)⟩
def Lm.yI (h:Lm U W Q B sa' S) (K:Kn S0 S) (x:Ix S0 e item) {r:List Int} (b:r.length=11) (a:eC S e item r=(S1,0)) (c:∀v∈r,-8589934592<=v/\v<=8589934592):Kn S0 S1/\Lm U W Q (B+8589934592) sa' S1:=by
 have k:=(gN K.ok (K.ix x) b).1;rw[a]at k;exact⟨K.trans k,h.ajA K.ok (K.ix x) a c (by omega)⟩
def Lm.xO (h:Lm U W Q B sa' S) {r:wU} (a:RcL r):Lm U W Q B sa' (S.xO r):=⟨h.cost,h.aJ,RJ h.rc a,h.sa,h.tr⟩
def Lm.vI (h:Lm U W Q B sa' S) {r:kU} (a:SaL U W r):Lm U W Q B sa' (S.vI r):=⟨h.cost,h.aJ,h.rc,RJ h.sa a,h.tr⟩
def Lm.xN (h:Lm U W Q B sa' S) {r:Fh} (a:TrL U W r):Lm U W Q B sa' (S.xN r):=⟨h.cost,h.aJ,h.rc,h.sa,RJ h.tr a⟩
def Lm.uK (h:Lm U W Q B sa' S) {r:wU} (a:RcL r):Lm U W Q B sa' (S.uK k r):=⟨h.cost,h.aJ,abI h.rc a,h.sa,h.tr⟩
def Lm.rD (h:Lm U W Q B sa' S) {r:kU} (a:SaL U W r):Lm U W Q B sa' (S.rD k r):=⟨h.cost,h.aJ,h.rc,abI h.sa a,h.tr⟩
def Lm.C5 (h:Lm U W Q B sa' S) {r:Fh} (a:TrL U W r):Lm U W Q B sa' (S.C5 k r):=⟨h.cost,h.aJ,h.rc,h.sa,abI h.tr a⟩
end
def Sz (S:bK):Prop:=∀x∈S.aN,x.waits=true->(S.aJ x.aU).closed=false->x.period=(S.aJ x.aU).now->x.cost=0/\x.bY=0
structure LS (U W Q B:Int) (S:bK):Prop where
 lm:Lm U W Q B S.aN S
 sz:Sz S
def Kn.pap {S:bK} (k:Kn S S1):S1.aN=S.aN/\S1.bB=S.bB/\S1.aH=S.aH:=by rw[k.eq];exact⟨rfl,rfl,rfl⟩
def Gn.ahy {S:bK} (G:Gn S) {e item:Int} (x:Ix S e item) (h:¬(S.aJ e).closed=true):(S.aJ e).ahead=[]:=by
 have k:=(G.al _ (a0a (G.toStOk.at_ x))).1;have:(S.aJ e).sh.2.1=false:=by simpa[dL.sh]using h
 rw[this]at k;exact a14.1 k
section
variable {U W Q B:Int} {S T:bK} {e item loc dst q a ref:Int}
abbrev Up (U W Q B:Int) (T:bK):Prop:=LS (U+3000) (W+U+1000) (Q+24) (B+274877906944) T
def Sz.kn (z:Sz S) (K:Kn S S1) (f:T.aD=S1.aD) (hs:T.aN=S.aN):Sz T:=by
 intro y a d c b;have e1:(T.aJ y.aU).sh=(S.aJ y.aU).sh:=by
  have:T.aJ y.aU=S1.aJ y.aU:=by simp_all[bK.aJ]
  rw[this,K.shE]
 have e2:(T.aJ y.aU).closed=(S.aJ y.aU).closed:=congrArg (fun r=>r.2.1) e1;have e:(T.aJ y.aU).now=(S.aJ y.aU).now:=congrArg Prod.fst e1;rw[hs]at a;rw[e2]at c;rw[e]at b;exact z y a d c b
def LS.fin {a Q' B':Int} (g:Gn T) (h:LS U W Q B S) (K:Kn S S1) (c:T.aD=S1.aD) (hs:T.aN=S.aN) (C:yG U W Q) (b:Lm U a Q' B' S.aN T) (d:a<=W+U+1000) (e:Q'<=Q+24) (f:B'<=B+274877906944):Up U W Q B T :=
 ⟨by rw[hs];exact b.mono g (by omega) d e f,h.sz.kn K c hs⟩
def LS.apN {U' a Q' B':Int} (i:Gn T) (h:LS U W Q B S) (K:Kn S S1) (c:T.aD=S1.aD) (hs:T.aN=S.aN) (b:Lm U' a Q' B' S.aN T) (e:U'<=U+3000) (d:a<=W+U+1000) (f:Q'<=Q+24) (g:B'<=B+274877906944):Up U W Q B T :=
 ⟨by rw[hs];exact b.mono i e d f g,h.sz.kn K c hs⟩
def aa1 (G:Gn S) (C:yG U W Q) (h:LS U W Q B S) (x:Ix S e item) (g:0<=loc) (f:loc<=1) (c:1<=q/\q<=24) (b:0<=a/\a<=1000) (p:Gn T) (i:qI S e item loc q a=(T,0)):Up U W Q B T:=by
 obtain⟨-,-,S1,t,up,w,v,l,k,j,rfl⟩:=Tm i;have m:=mQ C.u0 (show(0:Int)<=1 by omega) c.1 (by have:=C.u0;omega);have s:=a0p C.w0 (show 0<=q by omega);obtain⟨o,b1,u,r⟩:=h.lm.Nw C (.refl G.toStOk) x g f (y:=⟨q,a,0⟩) ⟨by grind,b.1,by grind,by simp_all,by omega⟩ c.2 l;obtain⟨n,b2⟩:=b1.sW o x k (by grind) (by simp);obtain⟨d,b3⟩:=b2.yI n x rfl j (by simp;omega);exact LS.fin p h d rfl d.pap.1 C (b3.xO ⟨b.2,b.2⟩) (by have:=C.u0;omega) (a0f _) (by omega)
def ajP (G:Gn S) (C:yG U W Q) (h:LS U W Q B S) (x:Ix S e item) (k:0<=loc) (j:loc<=1) (M:1<=q/\q<=24) (N:0<=a/\a<=1000) (I:Gn T) (D:IB S e item loc q a=(T,0)):Up U W Q B T:=by
 obtain⟨i,-,S1,xq,xv,xp,b,O,d,n,F,E,rfl⟩:=af8 D;obtain⟨b1,u,m,l,J⟩:=h.lm.N4 C.u0 G.toStOk x k j i (G.ahy x i) n (z:=⟨e,item,loc,q,0,xv,xp,(S.aJ e).now,b⟩) ⟨rfl,rfl,rfl,rfl,rfl,rfl,rfl⟩ (by omega);have o:=(mT G.toStOk x k j (kind:=0) (by omega) (by omega) q).1;rw[n]at o;have r:=u.val C (by omega);have g:=u.v;have w:=u.vu;have t:=u.p0;have s:=u.p1;dsimp only at r g w t s m l;obtain⟨H,b2⟩:=b1.sW o x F (by grind) (by simp);obtain⟨f,b3⟩:=b2.yI H x rfl E (by simp;omega)
 have A:SaL U W ⟨e,item,loc,q,0,xv,xp,(S.aJ e).now,b⟩:=by
  refine⟨g,fun _=>?_⟩;dsimp only;have L:=a0p (show 0<=U by have:=C.u0;omega) (show 0<=q by omega);have K:=a0p C.w0 (show 0<=q by omega)
  grind
 have e1:(d.vI ⟨e,item,loc,q,0,xv,xp,(S.aJ e).now,b⟩).aN=S.aN++[⟨e,item,loc,q,0,xv,xp,(S.aJ e).now,b⟩]:=by show d.aN++_=_;rw[f.pap.1]
 refine⟨by rw[e1];exact(b3.vI A).mono I (by omega) (by have:=C.u0;omega) (by omega) (by omega),?_⟩;have p:Sz d:=h.sz.kn f rfl f.pap.1;intro y c;rcases a0m.1 c with c|c
 .exact p y c
 grind[bV.zero]
def af9 (G:Gn S) (C:yG U W Q) (h:LS U W Q B S) (x:Ix S e item) (d:0<=loc) (c:loc<=1) (m:Gn T) (f:yR S e item loc q=(T,0)):Up U W Q B T:=by
 obtain⟨-,S1,xq,xv,xp,n,p,o,j,i,g,rfl⟩:=aeD f;obtain⟨l,b1,u,b,-⟩:=h.lm.Nf C (.refl G.toStOk) x d c (by omega) (by omega) j;dsimp only at b;obtain⟨k,b2⟩:=b1.sW l x i (by grind) (by simp);obtain⟨a,b3⟩:=b2.yI k x rfl g (by simp;omega);exact LS.fin m h a rfl a.pap.1 C b3 (by have:=C.u0;omega) (by omega) (by omega)
def akp (G:Gn S) (C:yG U W Q) (h:LS U W Q B S) (x:Ix S e item) (d:0<=loc) (c:loc<=1) (m:Gn T) (f:O9 S e item loc q=(T,0)):Up U W Q B T:=by
 obtain⟨S1,xq,xv,xp,n,p,o,j,i,g,rfl⟩:=ahX f;obtain⟨l,b1,u,b,-⟩:=h.lm.Nf C (.refl G.toStOk) x d c (by omega) (by omega) j;dsimp only at b;obtain⟨k,b2⟩:=b1.sW l x i (by grind) (by simp);obtain⟨a,b3⟩:=b2.yI k x rfl g (by simp;omega);exact LS.fin m h a rfl a.pap.1 C b3 (by have:=C.u0;omega) (by omega) (by omega)
def akA {v f:Int} (G:Gn S) (C:yG U W Q) (h:LS U W Q B S) (x:Ix S e item) (i:0<=loc) (g:loc<=1) (j:q<=24) (a:Un U W ⟨q,v,0⟩) (r:Gn T) (k:IQ S e item loc q v f=(T,0)):Up U W Q B T:=by
 obtain⟨S1,t,up,y,w,n,m,l,rfl⟩:=aik k;obtain⟨p,b1,u,s⟩:=h.lm.Nw C (.refl G.toStOk) x i g a j n;have c:=a.val C (by grind);have d:=a.v;dsimp only at c d;obtain⟨o,b2⟩:=b1.sW p x m (by grind) (by simp);obtain⟨b,b3⟩:=b2.yI o x rfl l (by simp;omega);exact LS.fin r h b rfl b.pap.1 C b3 (by have:=C.u0;omega) (by omega) (by omega)
def abJ {v d n U:Int} (h:1<=n) (a:0<=d) (e:0<=v) (b:v<=U*n) (c:0<=U):0<=yJ v d n/\yJ v d n<=U*d:=by
 have k:=a0p c a;have g:v*d/n<=U*d:=by
  apply a21 (by omega);have:=jM b a
  grind
 have f:=a2j (a0p e a) (show 0<=n by omega)
 grind[yJ]
def aiM (G:Gn S) (C:yG U W Q) (h:LS U W Q B S) (x:Ix S e item) (b:0<=loc) (a:loc<=1) (A:0<=q/\q<=24) (l:Gn T) (u:zQ S e item loc q=(T,0)):Up U W Q B T:=by
 obtain⟨-,k⟩:=afb u;rcases k with rfl|⟨-,k⟩|⟨t,v,f,k,m⟩
 .exact LS.fin l h (.refl G.toStOk) rfl rfl C h.lm (by have:=C.u0;omega) (by omega) (by omega)
 .exact akp G C h x b a l k
 .have p:=G.toStOk.AS x b a
  obtain⟨p1,-⟩:=h.lm.bE G.toStOk x b a;have c:=G.toStOk.cb' x;have w:=h.lm.IS e item;have i:0<=U:=by have:=C.u0;omega
  have E:0<=(S.aJ e).oD (S.cX e item) (2*item+loc):=by
   have:=p.sum;have:=p.a0;have:=p.b0;have:=p.c0;grind[dL.oD,wN]
  obtain⟨d,o⟩:∃d,d=q-(S.aJ e).oD (S.cX e item) (2*item+loc):=⟨_,rfl⟩;rw[<-o]at k t m;have y:=a0p C.w0 (show 0<=d by omega);have z:=a0p i (show 0<=d by omega)
  have g:0<=v/\v<=U*d:=by
   rcases m with⟨j,rfl⟩|⟨j,D,rfl⟩|⟨j,rfl⟩
   .have:=abJ (v:=d) (d:=S.cost e item) (n:=1) (U:=d) (by omega) c.1 (by omega) (by omega) (by omega)
    have:=jM (show S.cost e item<=U by have:=C.u0;omega) (show 0<=d by omega)
    grind
   .have r:uc (S.cX e item) (S.cost e item) U=U:=if_neg j
    rw[r]at p1;have s:=Un.sum p1;exact abJ (by omega) (by omega) s.v s.vu i
   .omega
  exact akA G C h x b a (by omega) ⟨by grind,g.1,g.2,by simp_all,by omega⟩ l k
def akk (G:Gn S) (C:yG U W Q) (h:LS U W Q B S) (x:Ix S e item) (d:0<=loc) (c:loc<=1) (m:0<=dst) (l:dst<=1) (y:1<=q/\q<=24) (s:Gn T) (f:IN S e item loc dst q=(T,0)):Up U W Q B T:=by
 obtain⟨-,S1,xq,xv,xp,t,F,z,up,E,D,k,j,i,g,rfl⟩:=ahQ f;obtain⟨r,b1,u,b,v⟩:=h.lm.Nf C (.refl G.toStOk) x d c (by omega) (by omega) k;obtain⟨p,b2,A,w⟩:=b1.Nw C r x m l u (by omega) j;dsimp only at b;obtain⟨o,b3⟩:=b2.sW p x i (by grind) (by simp);obtain⟨a,n⟩:=b3.yI o x rfl g (by simp;omega);exact LS.fin s h a rfl a.pap.1 C n (by have:=C.u0;omega) (by omega) (by omega)
def aiw {r:wU} {q:Int} (h1:1<=q) (b:q<=r.wG) (a:0<=r.dQ) (c:r.dQ<=1000):0<=xW r q/\xW r q<=r.dQ:=Sa h1 b a (by omega)
def anN (G:Gn S) (C:yG U W Q) (h:LS U W Q B S) (t:1<=q) (y:0<=a/\a<=1000) (w:Gn T) (u:Xa S ref q a=(T,0)):Up U W Q B T:=by
 obtain⟨e,item,loc,rq,rv,ro,ra,rb,s,-,z,S1,v,rfl⟩:=inv_inv u;have k:=a0a s;obtain⟨⟨r1,r2⟩,⟨f,c⟩,p,o,n,m,b,g⟩:=G.II _ k;obtain⟨j,i⟩:=h.lm.rc _ k;dsimp only at r1 r2 f c p o n m b g j i;have x:Ix S e item:=⟨r1,r2,f,c⟩;have d:=aiw (r:=⟨e,item,loc,rq,rv,ro,ra,rb⟩) t (by simp_all) b.1 i;dsimp only at d;obtain⟨l,b1⟩:=h.lm.sW (.refl G.toStOk) x v (by grind) (by simp);exact LS.fin w h l rfl l.pap.1 C (b1.uK ⟨j,by grind⟩) (by have:=C.u0;omega) (by omega) (by omega)
def OK {acc d:Int} {r:wU} (G:Gn S) (C:yG U W Q) (h:LS U W Q B S) (x:Ix S e item) (f:0<=loc) (c:loc<=1) (t:0<=d/\d<=1000) (g:RcL r) (o:Gn T) (i:yS S ref q e item loc acc d r=(T,0)):Up U W Q B T:=by
 obtain⟨S1,xq,xv,xp,p,w,v,l,k,j,rfl⟩:=aaK i;obtain⟨n,b1,u,b,s⟩:=h.lm.Nf C (.refl G.toStOk) x f c (by omega) (by omega) l;dsimp only at b;obtain⟨m,b2⟩:=b1.sW n x k (by grind) (by simp);obtain⟨a,b3⟩:=b2.yI m x rfl j (by simp;omega);exact LS.fin o h a rfl a.pap.1 C (b3.uK g) (by have:=C.u0;omega) (by omega) (by omega)
def aoY (G:Gn S) (C:yG U W Q) (h:LS U W Q B S) (w:1<=q) (p:Gn T) (y:sbS S ref q=(T,0)):Up U W Q B T:=by
 obtain⟨e,item,loc,rq,rv,ro,ra,rb,u,-,z,k⟩:=ans y;have o:=a0a u;obtain⟨⟨r1,r2⟩,⟨l,j⟩,⟨c,a⟩,t,b,s,i,m⟩:=G.II _ o;obtain⟨g,f⟩:=h.lm.rc _ o;dsimp only at r1 r2 l j c a t b s i m g f;have x:Ix S e item:=⟨r1,r2,l,j⟩;rcases k with⟨g1,g2,k⟩|⟨g1,k⟩
 .have d:=aiw (r:=⟨e,item,loc,rq,rv,ro,ra,rb⟩) w (by simp_all) i.1 f
  dsimp only at d;exact OK G C h x c a (by omega) ⟨g,by grind⟩ p k
 .have d:=FH (v:=rv) (q:=q) (n:=rq) (by omega) (by omega) (by omega) b.1 b.2
  exact OK G C h x c a (by omega) ⟨g,f⟩ p k
def ajO (G:Gn S) (C:yG U W Q) (h:LS U W Q B S) (x:Ix S e item) (d:Ix S dst item) (m:0<=loc) (l:loc<=1) (c:1<=q/\q<=24) (H:0<=a/\a<=1000) (A:Gn T) (n:Iy S e item loc dst q a=(T,0)):Up U W Q B T:=by
 obtain⟨-,-,-,S1,xq,xv,xp,D,K,J,I,s,r,p,o,rfl⟩:=af5 n;obtain⟨z,b1,u,f,g⟩:=h.lm.Nf C (.refl G.toStOk) x m l (by omega) (by omega) s;have k:=u.vu;have j:=u.p0;have i:=u.p1;dsimp only at f g k j i;obtain⟨y,b2⟩:=b1.sW z x r (by grind) (by simp);obtain⟨w,b3⟩:=b2.sW y d p (by grind) (by simp);obtain⟨b,v⟩:=b3.yI w x rfl o (by simp;omega);have t:=v.mono (b.gn G) (show U<=U from a0f _) (show W<=W+U+1000 by have:=C.u0;omega) (a0f _) (a0f _);refine LS.fin A h b rfl b.pap.1 C (t.xN ?_) (a0f _) (by omega) (by omega);have m0:=mQ C.u0 (show(0:Int)<=1 by omega) c.1 (by have:=C.u0;omega);have F:=a0p (show 0<=U by have:=C.u0;omega) (show 0<=q by omega);have E:=a0p C.w0 (show 0<=q by omega);refine⟨c.2,by grind,?_⟩
 grind
def acp {a tq tv tp v b:Int} (G:Gn S) (C:yG U W Q) (h:LS U W Q B S) (x:Ix S e item) (j:0<=loc) (i:loc<=1) (l:q<=24) (c:Un U W ⟨q,v,b⟩) (k:TrL U W ⟨a,e,item,-q+tq,tv-v,tp-b⟩) (t:Gn T) (m:AD S a e item tq tv tp loc q ref v b=(T,0)):Up U W Q B T:=by
 obtain⟨S1,w,up,A,z,p,o,n,rfl⟩:=X4 m;obtain⟨s,b1,y,u⟩:=h.lm.Nw C (.refl G.toStOk) x j i c l p;have f:=c.val C (by grind);have g:=c.v;dsimp only at f g;obtain⟨r,b2⟩:=b1.sW s x o (by grind) (by simp);obtain⟨d,b3⟩:=b2.yI r x rfl n (by simp;omega);exact LS.fin t h d rfl d.pap.1 C (b3.C5 k) (by have:=C.u0;omega) (by omega) (by omega)
def afx (G:Gn S) (C:yG U W Q) (h:LS U W Q B S) (o:0<=loc) (m:loc<=1) (s:1<=q/\q<=24) (z:Gn T) (t:uY S loc q ref=(T,0)):Up U W Q B T:=by
 obtain⟨A,e,item,tq,tv,tp,r,-,E,k⟩:=aco t;have i:=a0a r;obtain⟨r0,⟨r1,r2⟩,⟨c,b⟩,l,a,j⟩:=G.OA _ i;obtain⟨p,g,f,d⟩:=h.lm.tr _ i;dsimp only at r1 r2 c b l a j p g f d;have x:Ix S e item:=⟨r1,r2,c,b⟩;have D:0<=U:=by have:=C.u0;omega
 obtain⟨y,a2,w⟩:=vZ (v:=tv) (q:=q) (n:=tq) (U:=U) (by omega) (by omega) (by omega) (by omega) g ⟨by omega,by omega⟩;obtain⟨b1,b2,-⟩:=vZ (v:=tp) (q:=q) (n:=tq) (U:=W) (by omega) (by omega) (by omega) f d ⟨by omega,by omega⟩;have u:=w a.1;have e1:tq-q=-q+tq:=by omega
 rw[e1]at a2 b2;exact acp G C h x o m s.2 ⟨by grind,u.1,y.2,b1.1,b1.2⟩ ⟨by grind,a2.2,b2⟩ z k
def agy (G:Gn S) (C:yG U W Q) (h:LS U W Q B S) (x:Ix S e item) (c:0<=a/\a<=1125899906842624) (f:Gn T) (d:yY S e item a=(T,0)):Up U W Q B T:=by
 obtain⟨-,rfl⟩:=aeN d;have g:=G.toStOk.zN x;refine⟨Lm.mono f (Lm.bJ h.lm x.e0 fun y b=>?_) (by omega) (by have:=C.u0;omega) (by omega) (by omega),?_⟩
 .rcases b with rfl|b
  .have E:=Lm.el h.lm G.toStOk x
   exact⟨E.un,E.cU,E.rL,E.down⟩
  .exact Lm.elA h.lm G.toStOk x b
 .refine h.sz.kn (S1:=S.bJ e ((S.aJ e).vX item a)) (Ts G.toStOk x c) rfl rfl
end
end
section
open Mc
def Ag {l:List kU} {i:Nat} {z a:kU} (h:l[i]?=some z) (e k:Nat) (now:Int):gR (l.set i a) e k now=gR l e k now-vY e k now z+vY e k now a:=by
 unfold gR;have b:=(a0y.1 h).1
 simp_all[ajI]
section
variable {U W Q B:Int} {S T:bK} {e item loc dst q a ref:Int}
def LS.amV {S1:bK} {d Q' B':Int} {a:kU} (l:Gn (S1.rD ref a)) (h:LS U W Q B S) (K:Kn S S1) (C:yG U W Q) (b:Lm U d Q' B' (S.aN.set ref.toNat a) S1) (f:SaL U d a) (k:a.waits=true->(S.aJ a.aU).closed=false->a.period=(S.aJ a.aU).now->a.cost=0/\a.bY=0) (g:d<=W+U+1000) (i:Q'<=Q+24) (j:B'<=B+274877906944):Up U W Q B (S1.rD ref a):=by
 have e1:(S1.rD ref a).aN=S.aN.set ref.toNat a:=by show S1.aN.set _ _=_;rw[K.pap.1]
 refine⟨by rw[e1];exact(b.rD f).mono l (by omega) g i j,?_⟩;have e:Sz S1:=h.sz.kn K rfl K.pap.1;intro y c;rcases a05 c with c|rfl
 .exact e y c
 .show y.waits=true->(S1.aJ y.aU).closed=false->y.period=(S1.aJ y.aU).now->_
  have e2:(S1.aJ y.aU).closed=(S.aJ y.aU).closed:=congrArg (fun r=>r.2.1) (K.shE y.aU);rw[e2,K.now];exact k
def ajC (G:Gn S) (C:yG U W Q) (h:LS U W Q B S) (Z:1<=q/\q<=24) (ha:0<=a/\a<=1000) (J:Gn T) (hR:It S ref q a=(T,0)):Up U W Q B T:=by
 obtain⟨s,hs,u,hr,k⟩:=afP hR;have j:=a0a hs;obtain⟨⟨Y,X⟩,⟨V,R⟩,⟨d,b⟩,s7,s8,O,t,aa⟩:=G.C8 _ j;have x:Ix S s.aU s.item:=⟨Y,X,V,R⟩;obtain⟨c0,o⟩:=h.lm.sa _ j;obtain⟨o,E⟩:=o (by omega);have A:=G.ahy x u;have l:(S.aJ s.aU).closed=false:=by simp_all
 rcases k with⟨i,e,k⟩|⟨i,k⟩
 .obtain⟨ad,S1,m,rfl⟩:=aaB k
  obtain⟨L,K⟩:=h.sz _ j i l e;have P:=G.toStOk.AS x d b;obtain⟨p1,p2,p3,p4⟩:=h.lm.bE G.toStOk x d b;have P2:jS (S.cX s.aU s.item) ((S.aJ s.aU).bE (2*s.item+s.loc)).aX ({ (S.aJ s.aU).bE (2*s.item+s.loc)with p0:=((S.aJ s.aU).bE (2*s.item+s.loc)).p0-q }:dI).pn:=by
   have:=P.sum;have:=P.a0;simp only[dI.pn]at *;refine⟨P.lr,P.one,by simp_all,P.b0,P.c0,by grind,?_⟩;rcases P.zero with z|⟨z,-⟩<;>grind
  have K0:=jK G.toStOk x d b (p:={ (S.aJ s.aU).bE (2*s.item+s.loc)with p0:=((S.aJ s.aU).bE (2*s.item+s.loc)).p0-q }) P2
  have b0:=h.lm.S8 (sa':=S.aN.set ref.toNat ⟨s.aU,s.item,s.loc,s.eU,q+s.back,s.cost,s.bY,s.period,s.waits⟩) G.toStOk x d b A (p:={ (S.aJ s.aU).bE (2*s.item+s.loc)with p0:=((S.aJ s.aU).bE (2*s.item+s.loc)).p0-q }) p1 p2 (by
    rw[Ag hs];grind[vY]) (fun c=>absurd c u) (fun D k' now ae=>by
    rw[Ag hs];grind[vY])
  obtain⟨r,b1⟩:=b0.sW K0 x m (by grind) (by simp);refine LS.amV J h r C b1 ⟨by omega,fun g=>?_⟩ (fun _ _ _=>⟨L,K⟩) (by have:=C.u0;omega) (by omega) (by omega);dsimp only at g |-;have m1:=a0p (show 0<=U by have:=C.u0;omega) (show 0<=s.eU-(q+s.back)by omega);have m2:=a0p C.w0 (show 0<=s.eU-(q+s.back)by omega);omega
 .obtain⟨S1,ca,up,S2,S3,m,h2,h3,rfl⟩:=PM k
  obtain⟨a1,a2,a3⟩:=vZ (v:=s.cost) (q:=q) (n:=s.eU-s.back) (U:=U) (by omega) (by omega) (by omega) (by omega) o O;obtain⟨b1,b2,-⟩:=vZ (v:=s.bY) (q:=q) (n:=s.eU-s.back) (U:=W) (by omega) (by omega) (by omega) E.1 E.2 t
  have I:=a3 c0;have b0:=h.lm.aaW (sa':=S.aN.set ref.toNat ⟨s.aU,s.item,s.loc,s.eU,q+s.back,s.cost-dM s.cost q (s.eU-s.back),s.bY-dM s.bY q (s.eU-s.back),s.period,s.waits⟩) (fun D M ac y hy k'=>by
   rw[Ag hs];unfold vY;have hn:¬(s.waits=true/\s.aU=(D:Int)/\s.period=y.now):=by
    rintro⟨f,he,e⟩
    have ab:M=S.aJ s.aU:=by
     have:=G.toStOk.at_ x
     simp_all
    simp_all
   grind)
  have w:Un U W ⟨q,dM s.cost q (s.eU-s.back),dM s.bY q (s.eU-s.back)⟩:=⟨by grind,I.1,a1.2,b1.1,b1.2⟩;obtain⟨r,H,af,u1⟩:=b0.Nw C (.refl G.toStOk) x d b w Z.2 m;have N:=w.val C (by grind);dsimp only at N;obtain⟨K2,F⟩:=H.sW r x h2 (by grind) (by simp);obtain⟨K3,b3⟩:=F.yI K2 x rfl h3 (by simp;omega);refine LS.amV J h K3 C b3 ⟨I.2,fun g=>?_⟩ (fun f _ e=>absurd ⟨f,e⟩ i) (by have:=C.u0;omega) (by omega) (by omega)
  grind
def acY {L M:List bV} {d:tY} {c a f W:Int} (g:jS 4 L d) (h:∀y∈L,Un c W y) (i:0<=a) (b:Eg L a=(M,f,0)):(∀y∈M,Un a W y)/\qs M=qs L/\f=vs M-vs L:=by
 unfold Eg at b;have s:=Un.sum h;split at b
 .simp_all
 .split at b
  .cases b
  .rename_i l j
   cases b;have e1:qs [(⟨qs L,yJ (qs L) a 1,ps L⟩:bV)]=qs L:=by simp_all[qs]
   have e2:vs [(⟨qs L,yJ (qs L) a 1,ps L⟩:bV)]=yJ (qs L) a 1:=(by simp_all[vs]);have q0:=(gG g.lr.ok).1;have k:=abJ (v:=qs L) (d:=a) (n:=1) (U:=qs L) (by omega) i q0 (by omega) q0;refine⟨fun y e=>?_,e1,by omega⟩;rw[a07]at e;subst e;exact⟨q0,k.1,by grind,s.p0,s.p1⟩
def Sz.sh {S1:bK} (z:Sz S) (h:S1.aD.map dL.sh=S.aD.map dL.sh) (hs:S1.aN=S.aN):Sz S1:=by
 intro y a d c b;have e1:(S1.aJ y.aU).sh=(S.aJ y.aU).sh:=by grind[bK.aJ,EH]
 have e2:(S1.aJ y.aU).closed=(S.aJ y.aU).closed:=congrArg (fun r=>r.2.1) e1;have e:(S1.aJ y.aU).now=(S.aJ y.aU).now:=congrArg Prod.fst e1;rw[hs]at a;rw[e2]at c;rw[e]at b;exact z y a d c b
def Pe {α:Type} (l:List α) (i j:Nat) (v d:α) (h:i≠j):(l.set i v).getD j d=l.getD j d:=by
 simp_all
def F6 {α:Type} (l:List α) (i:Nat) (v d:α) (h:i<l.length):(l.set i v).getD i d=v:=by
 simp_all
def aaT (G:Gn S) (C:yG U W Q) (h:LS U W Q B S) (x:Ix S e item) (u:0<=a/\a<=1000) (GT:Gn T) (hR:qH S e item a=(T,0)):Up U W Q B T:=by
 obtain⟨mE,l,b,d0,f,d1,S4,S5,Z,J,Y,h3,rfl⟩:=Th hR;have l:S.cX e item=4:=by omega
 have R:=G.ahy x mE;have m:=jK G.toStOk x (loc:=0) (by omega) (by omega) (p:={ (S.aJ e).bE (2*item+0)with aX:=b }) (by
  have:=(Lv (d:=((S.aJ e).bE (2*item+0)).pn) (by have:=G.toStOk.AS x (loc:=0) (by omega) (by omega);simp_all) u.1 Z).1;rw[l];exact this)
 have P0:=G.toStOk.AS x (loc:=0) (by omega) (by omega);have P1:=m.ok.AS (m.ix x) (loc:=1) (by omega) (by omega);rw[l]at P0;have w:(S.bJ e ((S.aJ e).bX (2*item+0) { (S.aJ e).bE (2*item+0)with aX:=b })).cX e item=4:=l;rw[w]at P1;obtain⟨p1,p2,p3,p4⟩:=h.lm.bE G.toStOk x (loc:=0) (by omega) (by omega);obtain⟨D,q2,q3,q4⟩:=h.lm.bE G.toStOk x (loc:=1) (by omega) (by omega);have hu:uc (S.cX e item) (S.cost e item) U=S.cost e item:=if_pos l;rw[hu]at p1 D;have L:(S.bJ e ((S.aJ e).bX (2*item+0) { (S.aJ e).bE (2*item+0)with aX:=b })).aJ e=(S.aJ e).bX (2*item+0) { (S.aJ e).bE (2*item+0)with aX:=b }:=bK.jQ x _
 have e1:((S.mH e (2*item+0) b).aJ e).bE (2*item+1)=(S.aJ e).bE (2*item+1):=by
  show((S.bJ e _).aJ e).bE _=_;rw[L];exact dL.Cj (by have:=x.i0;omega)
 rw[e1]at J;have A:jS 4 ((S.aJ e).bE (2*item+1)).aX ((S.aJ e).bE (2*item+1)).pn:=by
  have:=G.toStOk.AS x (loc:=1) (by omega) (by omega)
  simp_all
 have k1:=jK m.ok (m.ix x) (loc:=1) (by omega) (by omega) (p:={ (S.aJ e).bE (2*item+1)with aX:=f }) (by
  have:=(Lv (d:=((S.aJ e).bE (2*item+1)).pn) A u.1 J).1;rw[w];exact this)
 have K:=m.trans k1;obtain⟨r1,r2,r3⟩:=acY (W:=W) P0 p1 u.1 Z;obtain⟨O,t2,t3⟩:=acY (W:=W) A D u.1 J;have q:=K.ok.eG (a:=a) (K.ix x) ⟨by omega,by omega⟩
 have V:((S.mH e (2*item+0) b).mH e (2*item+1) f).eG (S.cI.set e.toNat ((S.cI.getD e.toNat []).set item.toNat a))=(S.bJ e (((S.aJ e).bX (2*item+0) { (S.aJ e).bE (2*item+0)with aX:=b }).bX (2*item+1) { (S.aJ e).bE (2*item+1)with aX:=f })).eG (S.cI.set e.toNat ((S.cI.getD e.toNat []).set item.toNat a)):=by
  congr 1;show(S.bJ e _).bJ e (((S.bJ e _).aJ e).bX _ { ((S.bJ e _).aJ e).bE (2*item+1)with aX:=f })=_;rw[AP,L,dL.Cj (by have:=x.i0;omega)]
 have X:(S.bJ e ((S.aJ e).bX (2*item+0) { (S.aJ e).bE (2*item+0)with aX:=b })).bJ e (((S.bJ e ((S.aJ e).bX (2*item+0) { (S.aJ e).bE (2*item+0)with aX:=b })).aJ e).bX (2*item+1) { (S.aJ e).bE (2*item+1)with aX:=f })=S.bJ e (((S.aJ e).bX (2*item+0) { (S.aJ e).bE (2*item+0)with aX:=b }).bX (2*item+1) { (S.aJ e).bE (2*item+1)with aX:=f }):=by
  rw[AP,L]
 rw[X]at K q;rw[V]at Y;have q:StOk ((S.bJ e (((S.aJ e).bX (2*item+0) { (S.aJ e).bE (2*item+0)with aX:=b }).bX (2*item+1) { (S.aJ e).bE (2*item+1)with aX:=f })).eG (S.cI.set e.toNat ((S.cI.getD e.toNat []).set item.toNat a))):=q;have ac:=x.i0;have ad:=x.e0
 have o:item.toNat<(S.cI.getD e.toNat []).length:=by
  have t:e.toNat<S.cI.length:=by have:=G.toStOk.Fg;have:=x.e1;omega
  have:=G.toStOk.mE _ (dR (d:=[]) t);have:=x.i1;omega
 have t:e.toNat<S.cI.length:=by grind
 have b0:Lm U W Q B S.aN ((S.bJ e (((S.aJ e).bX (2*item+0) { (S.aJ e).bE (2*item+0)with aX:=b }).bX (2*item+1) { (S.aJ e).bE (2*item+1)with aX:=f })).eG (S.cI.set e.toNat ((S.cI.getD e.toNat []).set item.toNat a))):=by
  refine⟨fun r F v s=>?_,fun n z g y i=>?_,h.lm.rc,h.lm.sa,h.lm.tr⟩
  .rcases a05 F with F|rfl
   .exact h.lm.cost r F v s
   .rcases a05 s with s|rfl
    .exact h.lm.cost _ (dR t) v s
    omega
  .show EL U W Q B S.aN n (S.methods.getD n []) ((S.cI.set e.toNat ((S.cI.getD e.toNat []).set item.toNat a)).getD n []) y
   have g:(S.aD.set e.toNat (((S.aJ e).bX (2*item+0) { (S.aJ e).bE (2*item+0)with aX:=b }).bX (2*item+1) { (S.aJ e).bE (2*item+1)with aX:=f }))[n]?=some z:=g;rw[a0r]at g;split at g
   .rename_i H
    split at g
    .simp only[a0g]at g
     subst g H;rw[F6 _ _ _ _ t];rcases i with rfl|i
     .have E:=h.lm.el G.toStOk x
      refine⟨fun j p c=>?_,E.cU,E.rL,E.down⟩;have c:(((S.aJ e).bH.set (2*item+0).toNat _).set (2*item+1).toNat _)[j]?=some p:=c;have gi:(2*item+0).toNat/2=item.toNat/\(2*item+1).toNat/2=item.toNat:=(by omega);have M7:(S.methods.getD e.toNat []).getD item.toNat 0=4:=l;rw[a0r]at c;split at c
      .rename_i I
       split at c
       .simp only[a0g]at c
        subst c I;rw[gi.2,F6 _ _ _ _ o,M7];exact⟨O,by show qs f<=Q;omega,q3,q4⟩
       .cases c
      .rw[a0r]at c
       split at c
       .rename_i I
        split at c
        .simp only[a0g]at c
         subst c I;rw[gi.1,F6 _ _ _ _ o,M7];exact⟨r1,by show qs b<=Q;omega,p3,p4⟩
        .cases c
       .rename_i aa ab
        have k:=E.un j p c;rw[Pe _ _ _ _ _ (by omega)];exact k
     .have i:y∈(S.aJ e).ahead:=i
      rw[R]at i;cases i
    simp_all
   .rename_i H
    rw[Pe _ _ _ _ _ H];exact h.lm.aJ n z g y i
 have N:Ix ((S.bJ e (((S.aJ e).bX (2*item+0) { (S.aJ e).bE (2*item+0)with aX:=b }).bX (2*item+1) { (S.aJ e).bE (2*item+1)with aX:=f })).eG (S.cI.set e.toNat ((S.cI.getD e.toNat []).set item.toNat a))) e item:=by
  have k:=K.ix x;exact⟨k.e0,k.e1,k.i0,k.i1⟩
 have z0:Sz ((S.bJ e (((S.aJ e).bX (2*item+0) { (S.aJ e).bE (2*item+0)with aX:=b }).bX (2*item+1) { (S.aJ e).bE (2*item+1)with aX:=f })).eG (S.cI.set e.toNat ((S.cI.getD e.toNat []).set item.toNat a))):=h.sz.sh K.sh rfl;have P:((S.bJ e (((S.aJ e).bX (2*item+0) { (S.aJ e).bE (2*item+0)with aX:=b }).bX (2*item+1) { (S.aJ e).bE (2*item+1)with aX:=f })).eG (S.cI.set e.toNat ((S.cI.getD e.toNat []).set item.toNat a))).aN=S.aN:=rfl;have g0:=(Un.sum p1).mono (show S.cost e item<=U by have:=h.lm.IS e item;have:=C.u0;omega) (a0f W);have g1:=(Un.sum D).mono (show S.cost e item<=U by have:=h.lm.IS e item;have:=C.u0;omega) (a0f W);have g2:=(Un.sum r1).mono (show a<=U by have:=C.u0;omega) (a0f W);have g3:=(Un.sum O).mono (show a<=U by have:=C.u0;omega) (a0f W);have v0:=(g0.val C (by have:=C.q1;dsimp only;omega)).1;have v1:=(g1.val C (by have:=C.q1;dsimp only;omega)).1;have v2:=(g2.val C (by have:=C.q1;dsimp only;omega)).1;have v3:=(g3.val C (by have:=C.q1;dsimp only;omega)).1;have w0:=g0.v;have w1:=g1.v;have w2:=g2.v;have w3:=g3.v;dsimp only at v0 v1 v2 v3 w0 w1 w2 w3;generalize (S.bJ e (((S.aJ e).bX (2*item+0) { (S.aJ e).bE (2*item+0)with aX:=b }).bX (2*item+1) { (S.aJ e).bE (2*item+1)with aX:=f })).eG (S.cI.set e.toNat ((S.cI.getD e.toNat []).set item.toNat a))=S3 at *;obtain⟨K1,b1⟩:=b0.sW (.refl q) N Y (by simp;omega) (by simp);obtain⟨M,b2⟩:=b1.yI K1 N rfl h3 (by simp;omega);have es:T.aN=S.aN:=M.pap.1.trans P;exact⟨by rw[es];exact b2.mono GT (by omega) (by have:=C.u0;omega) (by omega) (by omega),z0.kn M rfl M.pap.1⟩
def My {v all U W:Int} (d:0<=v/\v<=288230376151711744) (g:1<=all):∀(l:List bV) (left:Int),(∀x∈l,Un U W x/\1<=x.q)->qs l<=all->left<=v->∀z∈fZ v all left l,1<=z.q/\z.v<=(U+v)*z.q/\-(W*z.q)<=z.p/\z.p<=W*z.q
 |[],_,_,_,_,z,a=>by cases a
 |[y],left,h,_,j,z,a=>by
  obtain⟨u,c⟩:=h y (by simp);simp only[fZ,a07]at a;subst a;have m:=mQ (a0f v) (show(0:Int)<=1 by omega) c d.1;have:=u.vu;exact⟨c,by grind,u.p0,u.p1⟩
 |y::w::r,left,h,i,j,z,a=>by
  obtain⟨u,c⟩:=h y (by simp);have f:∀x∈w::r,Un U W x/\1<=x.q:=fun x e=>h x (by simp_all);rw[gQ]at i;have k:0<=qs (w::r):=(Un.sum (fun x e=>(f x e).1)).q;have b:=(Aj (v:=v) (q:=y.q) (n:=all) g (by omega) (by omega) (fK.2 ⟨by omega,by omega⟩)).1 d.1;simp only[fZ,a0c]at a;rcases a with rfl|a
  .have m:=mQ (a0f v) (show(0:Int)<=1 by omega) c d.1
   have:=u.vu;exact⟨c,by grind,u.p0,u.p1⟩
  .exact My d g (w::r) (left-dM v y.q all) f (by omega) (by omega) z (by omega)
def af6 {S0:bK} {r:wU} {v c:Int} (E:Gn S0) (C:yG U W Q) (K:Kn S0 S) (h:Lm U W Q B S0.aN S) (x:Ix S0 r.aU r.item) (a:0<=r.loc/\r.loc<=1) (t:1<=r.eU) (H:0<=r.back/\r.back<=r.eU) (o:0<=v/\v<=1000) (w:kK S r v=(T,c,0)) :
  Kn S0 T/\Lm (U+1000) W Q (B+8589934592) S0.aN T/\0<=c/\c<=v:=by
 have e:∀x∈S.aH,0<=x.eU:=fun x f=>by rw[K.pap.2.2]at f;exact(E.OA x f).2.2.2.1.1
 rcases aeC w with⟨rfl,rfl⟩|⟨i,rfl,M,b,z⟩
 .exact⟨K,(h.ady (by omega) e).Ex (by omega),by omega,by omega⟩
 .have P:=K.ok.AS (K.ix x) a.1 a.2
  obtain⟨p1,p2,m,l⟩:=h.bE K.ok (K.ix x) a.1 a.2;have q0:=(gG P.lr.ok).1
  have u:0<=EW S r v/\EW S r v<=v:=by
   unfold EW;exact FH t (by omega) (by omega) o.1 (by omega)
  have j:=OQ P (EW S r v);rw[b]at j;have D:=jK K.ok (K.ix x) a.1 a.2 (p:={ (S.aJ r.aU).bE (2*r.item+r.loc)with aX:=M }) j.1;have k:uc (S.cX r.aU r.item) (S.cost r.aU r.item) U=U:=if_neg i;have G:uc (S.cX r.aU r.item) (S.cost r.aU r.item) (U+1000)=U+1000:=if_neg i
  rw[k]at p1;have key:(∀y∈M,Un (U+1000) W y)/\qs M=qs ((S.aJ r.aU).bE (2*r.item+r.loc)).aX:=by
   unfold vH at b;split at b
   .cases b
   rename_i F;split at b
   .cases b
   split at b
   .rename_i s
    cases b;have n:=LR.of s;refine⟨fun y d=>?_,Ci _ _ _ _⟩
    have g:1<=qs ((S.aJ r.aU).bE (2*r.item+r.loc)).aX:=by
     have:=(gG P.lr.ok).2.2;omega
    obtain⟨g1,g2,g3,A⟩:=My (v:=EW S r v) (U:=U) (W:=W) ⟨u.1,by omega⟩ g _ _ (fun y d=>⟨p1 y d,(P.lr.at_ d).1⟩) (a0f _) (a0f _) y d;have:=jM (show U+EW S r v<=U+1000 by omega) (show 0<=y.q by omega);exact⟨by omega,(n.at_ d).2.2.1,by omega,g3,A⟩
   simp_all
  have b0:=(h.ady (U':=U+1000) (by omega) e).bX K.ok (K.ix x) a.1 a.2 (p:={ (S.aJ r.aU).bE (2*r.item+r.loc)with aX:=M }) (by simp_all) (by simp_all) m l;obtain⟨I,b2⟩:=b0.yI (K.trans D) x rfl z (by simp;omega)
  simp_all
end
end
section
open Mc
section
variable {U W Q B:Int} {S T:bK} {e item loc dst q a ref:Int}
def Iz {S0:bK} (j:Gn S0):∀(a vs:List Int) (U B:Int) (S:bK) (all:Int) (T:bK) (c:Int),Kn S0 S->yG (U+1000*a.length) W Q->1000<=U->Lm U W Q B S0.aN S->(∀k∈a,0<=k/\k<S0.bB.length)->(∀v∈vs,0<=v/\v<=1000)->a.length=vs.length->0<=all->hZ S0 S a vs all=(T,c,0) ->
  Kn S0 T/\Lm (U+1000*a.length) W Q (B+8589934592*a.length) S0.aN T/\0<=c/\c<=all+1000*a.length
 |[],vs,U,B,S,all,T,c,K,C,g,h,_,_,_,p,b=>by
  grind[hZ]
 |k::a,[],U,B,S,all,T,c,K,C,g,h,_,_,m,p,b=>by simp at m
 |k::a,v::vs,U,B,S,all,T,c,K,C,g,h,w,e,m,p,b=>by
  rw[vE]at b;have e1:((k::a).length:Int)=a.length+1:=by simp
  rw[e1]at C |-;have l:S0.rc k∈S0.bB:=dR (by simp_all);obtain⟨r1,r2,u,t,D,A,z,s⟩:=j.II _ l;obtain⟨S1,i,f,q⟩:∃S1 i f,kK S (S0.rc k) v=(S1,i,f):=⟨_,_,_,rfl⟩;rw[q]at b;dsimp only at b;split at b
  .simp_all
  .rename_i o
   have o:f=0:=(by omega);subst o;have y:yG U W Q:=⟨g,by have:=C.u1;omega,C.w0,C.w1,C.q1⟩;obtain⟨x,b1,H,E⟩:=af6 j y K h ⟨r1.1,r1.2,r2.1,r2.2⟩ u t.1 s (e v (by simp)) q;have d:=e v (by simp);obtain⟨I,b2,G,F⟩:=Iz j a vs (U+1000) (B+8589934592) S1 (all+i) T c x ⟨by omega,by have:=C.u1;omega,C.w0,C.w1,C.q1⟩ (by omega) b1 (fun k' n=>w k' (by simp[n])) (fun r d=>e r (by simp[d])) (by simp_all) (by omega) b
   grind
def akt {refs:List Int} (G:Gn S) (C:yG (U+3000) W Q) (m:1000<=U) (h:LS U W Q B S) (y:∀k∈refs,0<=k) (z:1<=refs.length/\refs.length<=3) (A:0<=a/\a<=1000) (r:Gn T) (n:tO S dst a refs=(T,0)):Up U W Q B T:=by
 obtain⟨D,-,-,sh,S1,all,p,o,f⟩:=ah7 n;have l:∀k∈refs,0<=k/\k<S.bB.length:=by
  simp_all
 have b:=@vW a (refs.map (jC S dst));rw[p]at b;rcases b with⟨-,u,t,c,j,i⟩|⟨s,-⟩
 .dsimp only at c j i
  rw[a0z]at c;obtain⟨q,b1,F,E⟩:=Iz G refs sh U B S 0 S1 all (.refl G.toStOk) ⟨by omega,by have:=C.u1;omega,C.w0,C.w1,C.q1⟩ m h.lm l (fun v w=>by grind) c.symm (by omega) o
  obtain⟨r0,e⟩:∃r0,refs.headD 0=r0/\r0∈refs:=by
   cases refs<;>simp_all
  rw[e.1]at f;have d:S.rc r0∈S.bB:=dR (by simp_all);obtain⟨r1,r2,-⟩:=G.II _ d;have x:Ix S (S.rc r0).aU (S.rc r0).item:=⟨r1.1,r1.2,r2.1,r2.2⟩;obtain⟨g,b2⟩:=b1.sW q x f (by grind) (by simp);exact LS.apN r h g rfl g.pap.1 b2 (by omega) (by omega) (by omega) (by omega)
 omega
def Lm.ac6 {sa':List kU} (h:Lm U W Q B sa' S) (f:B<=144115188075855872) (G:StOk S) (x:Ix S e item) {l:List dE} (b:Small l) (hs:(iG l).sum=0):∃S1,dS S e l=(S1,0):=by
 have E:=G.zN x;have L:=h.el G x;unfold dS;rw[zA b];simp only;rw[if_neg (by simp),aa4 E.bl (fun a c=>by have:=L.cU _ (dR (d:=0) (k:=a) (l:=(S.aJ e).cU) (by rw[E.bl];omega));omega) b hs]
 simp_all
def ND {A B:Int} (f:A+B<=288230376151711744):∀(x y:List Int),(∀v∈x,-B<=v/\v<=B)->(∀v∈y,-A<=v/\v<=A)->0<=A->0<=B->∃s,rJ x y=some s
 |[],_,_,_,_,_=>⟨_,by simp[rJ];rfl⟩
 |_::_,[],_,_,_,_=>⟨_,by simp[rJ];rfl⟩
 |a::l,b::r,e,d,h,g=>by
  have j:=e a (by simp);have i:=d b (by simp);obtain⟨s,hs⟩:=ND f l r (fun v c=>e v (by simp[c])) (fun v c=>d v (by simp[c])) h g;have ok:gH a b=true:=pV.2 ⟨fK.2 ⟨by omega,by omega⟩,fK.2 ⟨by omega,by omega⟩,fK.2 ⟨by omega,by omega⟩⟩
  simp_all[rJ,nI]
def Lm.ajz {sa':List kU} (h:Lm U W Q B sa' S) (d:0<=B/\B<=144115188075855872) (G:StOk S) (x:Ix S e item) {r:List Int} (b:∀v∈r,-8589934592<=v/\v<=8589934592):∃S1,eC S e item r=(S1,0):=by
 have L:=h.el G x;obtain⟨s,hs⟩:=ND (A:=8589934592) (B:=B) (by omega) ((S.aJ e).rL item) r (fun v a=>by
  by_cases c:item.toNat<(S.aJ e).aM.length
  .exact L.rL _ (dR c) v a
  simp_all[dL.rL]) b (by omega) d.1
 simp_all[eC]
def PZ {l:List bV} {n:Int} (a:LR l) (h:∀x∈l,Un U W x):(∀x∈(iX l n).1,Un U W x)/\Un U W (iX l n).2/\qs (iX l n).1<=qs l/\(iX l n).2.q<=max n 0/\(iX l n).2.q<=qs l:=by
 have q0:=(gG a.ok).1;unfold iX;split
 .obtain⟨c,b⟩:=adq (q:=n) a h
  refine⟨c,b,?_⟩;unfold fU;rw[if_neg (by omega),a.uF.1];split
  .grind[bV.zero]
  .rename_i hs
   simp only at hs;obtain⟨e,d,-⟩:=wE l .zero n a (by omega) (by omega)
   grind[bV.zero]
 .exact⟨h,.zero,a0f _,by grind[bV.zero],by simp_all[bV.zero]⟩
def Mz (a c p:List Int) (l:List kU) (e k:Nat) (now:Int) (b:∀i∈a,0<=i/\i<l.length):∀j,j<=a.length->gR (mY a c p l j) e k now=gR l e k now
 |0,_=>rfl
 |j+1,h=>by
  have g:=Mz a c p l e k now b j (by omega);have m:=b _ (dR (d:=0) (show j<a.length by omega));simp only[mY];have f:(a.getD j 0).toNat<(mY a c p l j).length:=by grind[yX]
  rw[Ag (getD_some (d:=.nil) f),g];have:vY e k now { (mY a c p l j).getD (a.getD j 0).toNat .nil with cost:=c.getD j 0,bY:=p.getD j 0 }=vY e k now ((mY a c p l j).getD (a.getD j 0).toNat .nil):=rfl
  simp_all
def OR (a c p:List Int) (l:List kU) (k:Nat):∀j,((mY a c p l j).getD k .nil).eU=(l.getD k .nil).eU/\((mY a c p l j).getD k .nil).back=(l.getD k .nil).back/\((mY a c p l j).getD k .nil).aU=(l.getD k .nil).aU
 |0=>⟨rfl,rfl,rfl⟩
 |j+1=>by
  have b:=OR a c p l k j;grind[mY]
def MA (a c p:List Int) (l:List kU) (e:∀i∈a,0<=i/\i<l.length):∀j,j<=a.length->∀x∈mY a c p l j,x∈l\/∃i,i<j/\x.cost=c.getD i 0/\x.bY=p.getD i 0/\x.eU-x.back=(l.getD (a.getD i 0).toNat .nil).eU-(l.getD (a.getD i 0).toNat .nil).back/\x.aU=(l.getD (a.getD i 0).toNat .nil).aU
 |0,_,x,b=>.inl b
 |j+1,g,x,b=>by
  have f:=e _ (dR (d:=0) (show j<a.length by omega));simp only[mY]at b;rcases a05 b with b|rfl
  .rcases MA a c p l e j (by omega) x b with h|⟨i,f,h⟩<;>grind
  .have k:=OR a c p l (a.getD j 0).toNat j
   grind
def am0 (P:kU->Bool) (l:List kU):∀j i,i<(AA P l j).length->(I8 P l j).getD i 0=(l.getD ((AA P l j).getD i 0).toNat .nil).eU-(l.getD ((AA P l j).getD i 0).toNat .nil).back
 |0,i,h=>by grind[AA]
 |j+1,i,h=>by
  have e:=EY P l j;simp only[AA,I8]at h |-;by_cases c:i<(AA P l j).length
  .have e1:∀(a b:List Int),i<a.length->(a++b).getD i 0=a.getD i 0:=fun a b f=>by
    grind
   rw[e1 _ _ c,e1 _ _ (by omega)];exact am0 P l j i c
  .rw[a1r]at h
   by_cases d:P (l.getD j .nil)=true<;>grind
def apy (P:kU->Bool) (l:List kU):∀j,∀k∈AA P l j,P (l.getD k.toNat .nil)=true
 |0,k,h=>by grind[AA]
 |j+1,k,h=>by
  simp only[AA,a0m]at h;rcases h with h|h
  .exact apy P l j k h
  simp_all
def afK (P:kU->Bool) (l:List kU) (f:kU->Int) (a:∀x∈l,f x=if P x=true then x.eU-x.back else 0):∀j,j<=l.length->(I8 P l j).sum=((l.take j).map f).sum
 |0,_=>by simp[I8]
 |j+1,h=>by
  have b:=afK P l f a j (by omega)
  grind[List.take_add_one,List.getElem?_eq_getElem,I8,Option.toList_some,List.getElem_mem]
def SZ {t n U:Int} {ws:List Int} (j:0<=t/\t<=288230376151711744) (g:∀k∈ws,0<=k/\k<=1073741824) (m:ws.length<=40) (hs:∃k∈ws,0<k) (s:t<=U*n) (d:0<=U) (u:n<=ws.sum):∀i,i<ws.length->0<=(fG t ws).1.getD i 0/\(0<ws.getD i 0->(fG t ws).1.getD i 0<=(U+1)*ws.getD i 0):=by
 obtain⟨g1,g2,g3⟩:=sM j g m hs;intro i o;refine⟨(g3 _ (dR (by omega))).1,fun p=>?_⟩
 unfold fG at g1 |-;split at g1
 .cases g1
 rename_i a;rw[if_neg a];split at g1
 .cases g1
 rename_i c;rw[if_neg c];have b:=pE.of (by simpa using a) (by omega);obtain⟨f,e⟩:=Ly (key:=vL (iY t (dJ ws) ws)) (List.range ws.length);have F:=adO b f e;have l:=b.sum;dsimp only;generalize nS (jB t (dJ ws) ws) ((N8 (vL (iY t (dJ ws) ws)) (List.range ws.length)).take (uT t (dJ ws) ws))=A at *
 have k:t*ws.getD i 0/dJ ws<=U*ws.getD i 0:=by
  apply a21 (by have:=b.s0;omega);have r:=mQ (show U<=U from a0f _) (show(0:Int)<=max n 0 by omega) (show max n 0<=dJ ws by have:=b.s0;omega) d;have m0:U*n<=U*max n 0:=a1s (by omega) d;have q:=jM (show t<=U*dJ ws by omega) (show 0<=ws.getD i 0 by omega)
  grind
 rw[a2m];rcases F.one i o with h|h<;>omega
def OE {v n U:Int} {ws:List Int} (h:qC v) (c:∀k∈ws,0<=k/\k<=1073741824) (e:ws.length<=40) (hs:∃k∈ws,0<k) (j:v<=U*n/\-(U*n)<=v) (g:0<=U) (d:n<=ws.sum):∀i,i<ws.length->(0<=v->0<=(iN v ws).1.getD i 0)/\(0<ws.getD i 0->-((U+1)*ws.getD i 0)<=(iN v ws).1.getD i 0/\(iN v ws).1.getD i 0<=(U+1)*ws.getD i 0):=by
 unfold qC at h;intro i f;unfold iN;split
 .obtain⟨a,b⟩:=SZ (t:=v) ⟨by omega,by omega⟩ c e hs j.1 g d i f
  omega
 .obtain⟨a,b⟩:=SZ (t:=-v) ⟨by omega,by omega⟩ c e hs (by omega) g d i f
  grind
def afd (G:Gn S) (h:Lm U W Q B S.aN S) (D:0<=U) (K:0<=W) (x:Ix S e item) (l0:0<=loc) (l1:loc<=1) {y:bV} (F:(0<=y.v/\y.v<=288230376151711744)/\qC y.p) (m:Un U W y) (r:y.q<=gR S.aN e.toNat (2*item+loc).toNat (S.aJ e).now) :
  Lm (U+1) (W+1) Q B (kH S e item loc y).aN (kH S e item loc y)/\(∀b k' now,gR (kH S e item loc y).aN b k' now=gR S.aN b k' now)/\(kH S e item loc y).aD=S.aD/\(∀z∈(kH S e item loc y).aN,z.aU≠e->z∈S.aN):=by
 have u:=h.mono G (show U<=U+1 by omega) (show W<=W+1 by omega) (a0f Q) (a0f B);unfold kH;split
 .simp_all
 .rename_i hs
  have hs:smN (dH S e item loc) S.aN S.aN.length=true:=by simp_all
  have I:=G.OL;have t:=aav (dH S e item loc) S.aN S.aN.length (fun x H=>by obtain⟨_,_,_,b4,b5,_⟩:=G.C8 x H;omega) (a0h _);have hl:=Sq (dH S e item loc) S.aN S.aN.length;have N:=EY (dH S e item loc) S.aN S.aN.length;have j:=acj (dH S e item loc) S.aN S.aN.length;have o:=Mb _ _ _ hs;have C:=apy (dH S e item loc) S.aN S.aN.length;have w:=am0 (dH S e item loc) S.aN S.aN.length
  have g:=afK (dH S e item loc) S.aN (vY e.toNat (2*item+loc).toNat (S.aJ e).now) (fun z a=>by
   obtain⟨⟨X,V⟩,⟨T,R⟩,⟨P,O⟩,_⟩:=G.C8 z a;have:=x.e0;have:=x.i0;unfold vY dH;simp only[a0e,decide_eq_true_eq];by_cases k:z.waits=true/\z.aU=(e.toNat:Int)/\2*z.item+z.loc=((2*item+loc).toNat:Int)/\z.period=(S.aJ e).now
   .rw[if_pos k,if_pos ⟨⟨⟨⟨k.1,by omega⟩,by omega⟩,by omega⟩,k.2.2.2⟩]
   .rw[if_neg k,if_neg (fun c=>k ⟨c.1.1.1.1,by omega,by omega,c.2⟩)]) S.aN.length (a0h _)
  rw[a04]at g;rw[show gR S.aN e.toNat (2*item+loc).toNat (S.aJ e).now=(S.aN.map (vY e.toNat (2*item+loc).toNat (S.aJ e).now)).sum from rfl,<-g]at r;have L:=OE (v:=y.v) (n:=y.q) (U:=U) ⟨by omega,by omega⟩ t (by omega) o ⟨m.vu,by have:=a0p D m.q;omega⟩ D r;have p1:=OE (v:=y.p) (n:=y.q) (U:=W) F.2 t (by omega) o ⟨m.p1,m.p0⟩ K r;generalize AA (dH S e item loc) S.aN S.aN.length=A at *;generalize I8 (dH S e item loc) S.aN S.aN.length=l at *;have J:∀b k' now,gR (mY A (iN y.v l).1 (iN y.p l).1 S.aN A.length) b k' now=gR S.aN b k' now:=fun b k' now=>Mz _ _ _ _ _ _ _ j _ (a0h _);refine⟨?_,J,rfl,fun z a M=>?_⟩;rotate_left
  .rcases MA _ _ _ _ j _ (a0h _) z a with a|⟨i,s,-,-,-,e4⟩
   .exact a
   .have:=C _ (dR (d:=0) s)
    grind[dH]
  have f:=u.aaW (sa':=mY A (iN y.v l).1 (iN y.p l).1 S.aN A.length) (fun b Z _ Y _ k'=>by grind);refine⟨f.cost,f.aJ,f.rc,fun z a=>?_,f.tr⟩;rcases MA _ _ _ _ j _ (a0h _) z a with a|⟨i,s,e1,e2,E,-⟩
  .exact u.sa z a
  .have k1:=L i (by omega)
   have k2:=p1 i (by omega);rw[<-w i s]at E;refine⟨by omega,fun hq=>?_⟩
   rw[e1,e2,E];omega
def Ti (G:Gn S) (e k:Nat) (now:Int):0<=gR S.aN e k now:=by
 have:∀l:List kU,(∀x∈l,x.back<=x.eU)->0<=gR l e k now:=by
  intro l;induction l<;>grind[gR,vY]
 exact this _ fun x a=>(G.C8 x a).2.2.2.2.1.2
def OH (G:Gn S) (C:yG (U+1) (W+1) Q) (hU:1000<=U) (hW:0<=W) (hB:0<=B/\B<=72057594037927936) (h:Lm U W Q B S.aN S) (x:Ix S e item) (q:0<=loc) (o:loc<=1) (hm:S.cX e item=3) :
  ∃T,iW S e item loc=(T,0)/\Lm (U+1) (W+1) Q (B+15032385536) T.aN T/\(∀K k' now,gR T.aN K k' now=gR S.aN K k' now)/\(∀k,((T.aJ e).bE k).p0<=max ((S.aJ e).bE k).p0 0)/\((T.aJ e).bE (2*item+loc)).p0<=0/\(∀z∈T.aN,z.aU≠e->z∈S.aN):=by
 have P:=G.toStOk.AS x q o;have hS:∀k,((S.aJ e).bE k).p0<=max ((S.aJ e).bE k).p0 0:=fun k=>by omega
 unfold iW;split
 .rename_i h0
  have:=P.a0;have:=P.b0;have:=P.c0;simp only[dI.pn]at *;exact⟨S,rfl,(h.mono G (by omega) (by omega) (a0f _) (by omega)),fun _ _ _=>rfl,hS,by omega,fun z I _=>I⟩
 .obtain⟨p1,p2,p3,-⟩:=h.bE G.toStOk x q o
  have V:uc (S.cX e item) (S.cost e item) U=U:=if_neg (by omega);rw[V]at p1;obtain⟨E,a2,L,a4,a5⟩:=PY (d:=((S.aJ e).bE (2*item+loc)).pn) P.lr;obtain⟨s1,N,s3,s4,s5⟩:=PZ (n:=((S.aJ e).bE (2*item+loc)).pn.a) P.lr p1;obtain⟨H,-⟩:=C6 (n:=((S.aJ e).bE (2*item+loc)).pn.a) P.lr;obtain⟨t1,t2,t3,t4,t5⟩:=PZ (n:=((S.aJ e).bE (2*item+loc)).pn.b) H s1;obtain⟨O,-⟩:=C6 (n:=((S.aJ e).bE (2*item+loc)).pn.b) H;obtain⟨u1,u2,u3,u4,u5⟩:=PZ (n:=((S.aJ e).bE (2*item+loc)).pn.c) O t1;have eL:qF ((S.aJ e).bE (2*item+loc)).aX ((S.aJ e).bE (2*item+loc)).pn=((iX (iX (iX ((S.aJ e).bE (2*item+loc)).aX ((S.aJ e).bE (2*item+loc)).pn.a).1 ((S.aJ e).bE (2*item+loc)).pn.b).1 ((S.aJ e).bE (2*item+loc)).pn.c).1,(iX ((S.aJ e).bE (2*item+loc)).aX ((S.aJ e).bE (2*item+loc)).pn.a).2,(iX (iX ((S.aJ e).bE (2*item+loc)).aX ((S.aJ e).bE (2*item+loc)).pn.a).1 ((S.aJ e).bE (2*item+loc)).pn.b).2,(iX (iX (iX ((S.aJ e).bE (2*item+loc)).aX ((S.aJ e).bE (2*item+loc)).pn.a).1 ((S.aJ e).bE (2*item+loc)).pn.b).1 ((S.aJ e).bE (2*item+loc)).pn.c).2):=rfl;rw[eL]at E a2 L a4 a5 |-;dsimp only at E a2 L a4 a5;have q1:qs (iX (iX (iX ((S.aJ e).bE (2*item+loc)).aX ((S.aJ e).bE (2*item+loc)).pn.a).1 ((S.aJ e).bE (2*item+loc)).pn.b).1 ((S.aJ e).bE (2*item+loc)).pn.c).1<=Q:=by omega
  generalize (iX (iX (iX ((S.aJ e).bE (2*item+loc)).aX ((S.aJ e).bE (2*item+loc)).pn.a).1 ((S.aJ e).bE (2*item+loc)).pn.b).1 ((S.aJ e).bE (2*item+loc)).pn.c).1=l at *;generalize (iX (iX (iX ((S.aJ e).bE (2*item+loc)).aX ((S.aJ e).bE (2*item+loc)).pn.a).1 ((S.aJ e).bE (2*item+loc)).pn.b).1 ((S.aJ e).bE (2*item+loc)).pn.c).2=zz at *;generalize (iX (iX ((S.aJ e).bE (2*item+loc)).aX ((S.aJ e).bE (2*item+loc)).pn.a).1 ((S.aJ e).bE (2*item+loc)).pn.b).2=yy at *;generalize (iX (iX ((S.aJ e).bE (2*item+loc)).aX ((S.aJ e).bE (2*item+loc)).pn.a).1 ((S.aJ e).bE (2*item+loc)).pn.b).1=l2 at *;generalize (iX ((S.aJ e).bE (2*item+loc)).aX ((S.aJ e).bE (2*item+loc)).pn.a).2=xx at *;generalize (iX ((S.aJ e).bE (2*item+loc)).aX ((S.aJ e).bE (2*item+loc)).pn.a).1=l3 at *;clear eL;have M:yG U W Q:=⟨hU,by have:=C.u1;omega,hW,by have:=C.w1;omega,C.q1⟩;have xv:=(N.val M (by have:=C.q1;omega)).1;have yv:=(t2.val M (by have:=C.q1;omega)).1;have zv:=(u2.val M (by have:=C.q1;omega)).1;obtain⟨xq,f,xp⟩:=xx;obtain⟨yq,i,yp⟩:=yy;obtain⟨zq,g,zp⟩:=zz;dsimp only at *;have J:l.length<=1:=by rcases P.one with w|w<;>omega
  have q0:=(gG E.ok).1;have v:=jK G.toStOk x q o (p:=⟨l,0,0,0⟩) ⟨E,.inr J,by show(0:Int)<=0;omega,by show(0:Int)<=0;omega,by show(0:Int)<=0;omega,by show(0:Int)+0+0<=qs l;omega,.inl hm⟩;have rn:=Ti G e.toNat (2*item+loc).toNat (S.aJ e).now;have b0:=h.bX G.toStOk x q o (p:=⟨l,0,0,0⟩) (by rw[V];exact u1) q1 rn (fun _=>a0f _)
  have Xg:=G.toStOk.plt x q o;have Y:∀k,(((S.bJ e ((S.aJ e).bX (2*item+loc) ⟨l,0,0,0⟩)).aJ e).bE k).p0<=max ((S.aJ e).bE k).p0 0:=by
   intro k;rw[bK.jQ x];by_cases Z:k.toNat=(2*item+loc).toNat
   .have:((S.aJ e).bX (2*item+loc) ⟨l,0,0,0⟩).bE k=⟨l,0,0,0⟩:=by
     have:=dL.Ek (x:=S.aJ e) (k:=2*item+loc) (p:=⟨l,0,0,0⟩) Xg;unfold dL.bE at this |-;rw[Z];exact this
    rw[this];dsimp only;omega
   .rw[dL.Cj Z];omega
  have X:(((S.bJ e ((S.aJ e).bX (2*item+loc) ⟨l,0,0,0⟩)).aJ e).bE (2*item+loc)).p0<=0:=by
   rw[bK.jQ x,dL.Ek Xg];exact a0f _
  generalize aa:S.bJ e ((S.aJ e).bX (2*item+loc) ⟨l,0,0,0⟩)=S0 at *;have m:=v.ix x;obtain⟨S1,w⟩:=b0.ac6 (by omega) v.ok m (l:=[⟨5,f⟩,⟨7,i⟩,⟨8,g⟩,⟨0,-f⟩,⟨0,-i⟩,⟨0,-g⟩]) ⟨by simp;omega,by simp⟩ (by simp[iG];omega);have b1:=b0.post v.ok m (A:=2147483648) w (by simp;omega) (by omega);have u:=(eX v.ok m [⟨5,f⟩,⟨7,i⟩,⟨8,g⟩,⟨0,-f⟩,⟨0,-i⟩,⟨0,-g⟩]).1;rw[w]at u |-;dsimp only;rw[if_neg (by simp)];have D:=u.ix m;have b1:=b1.Ex (B':=B+12884901888) (by simp);obtain⟨t,s⟩:=b1.ajz (by omega) u.ok D (r:=[0,0,0,0,0,f,0,0,i,g,0]) (by simp;omega);have b2:=b1.ajA u.ok D (A:=2147483648) s (by simp;omega) (by omega);have K2:=(gN u.ok D (r:=[0,0,0,0,0,f,0,0,i,g,0]) rfl).1;rw[s]at K2 |-;dsimp only;rw[if_neg (by simp)];have F:=(v.trans u).trans K2;have G2:=F.gn G;have es:t.aN=S.aN:=F.pap.1
  have j:∀k,((t.aJ e).bE k).p0=((S0.aJ e).bE k).p0:=by
   intro k;obtain⟨b,hb,-⟩:=ME w (v.ok.zN m).bl;unfold eC at s;split at s
   .cases s
   .cases s
    rw[bK.jQ D,hb];show(((S0.bJ e _).aJ e).bE k).p0=_;rw[bK.jQ m];rfl
  rw[<-es]at b2;obtain⟨c1,c2,c3,c4⟩:=afd (e:=e) (item:=item) (loc:=loc) G2 b2 (by omega) hW (F.ix x) q o (y:=⟨xq,f,xp⟩) L N (by
   rw[es,F.now];have:=P.a0;simp only[dI.pn]at *;omega)
  refine⟨_,rfl,c1.Ex (by omega),fun K k' now=>by rw[c2,es],fun k=>?_,?_,fun z I R=>by have:=c4 z I R;rwa[es]at this⟩
  .have:(kH t e item loc ⟨xq,f,xp⟩).aJ e=t.aJ e:=by unfold bK.aJ;rw[c3]
   rw[this,j];exact Y k
  .have:(kH t e item loc ⟨xq,f,xp⟩).aJ e=t.aJ e:=by unfold bK.aJ;rw[c3]
   rw[this,j];exact X
end
end
section
open Mc
structure Bk1 (x:EntC) (mN:Int):Prop where
 g:x.acc 0=x.iv
 w:x.acc 12=mN
 d:x.acc 11=-x.down.sum
 z:((List.range 17).map fun(a:Nat)=>x.acc (a:Int)).sum=0
def aor (S:bK) (W:Int->Int):Prop:=∀e:Int,0<=e->e<S.aD.length->Bk1 (S.aJ e).toEntC (W e)/\∀y∈(S.aJ e).ahead,Bk1 y (W e)
def bK.mN (S:bK) (e:Int):Int:=((S.aH.filter fun t=>t.dst==e).map (·.value)).sum
def ajt (S:bK):Prop:=aor S S.mN
def As {S:bK} {e e':Int} (x:dL) (a:0<=e) (h1:0<=e') (h:e'≠e):(S.bJ e x).aJ e'=S.aJ e':=by
 unfold bK.aJ bK.bJ;simp only;rw[a0k,a0r,if_neg (by omega),<-a0k]
section
variable {U W Q B:Int} {S T:bK} {e item loc dst q a ref:Int}
def aaJ (G:Gn S) (C:yG (U+2) (W+2) Q) (j:1000<=U) (i:0<=W) (s:0<=B/\B<=36028797018963968) (h:Lm U W Q B S.aN S) (x:Ix S e item) (b:S.cX e item=3) :
  ∃T,kE S e item=(T,0)/\Lm (U+2) (W+2) Q (B+30064771072) T.aN T/\(∀c k' now,gR T.aN c k' now=gR S.aN c k' now)/\(∀k,((T.aJ e).bE k).p0<=max ((S.aJ e).bE k).p0 0)/\((T.aJ e).bE (2*item)).p0<=0/\((T.aJ e).bE (2*item+1)).p0<=0/\(∀z∈T.aN,z.aU≠e->z∈S.aN):=by
 obtain⟨t,f,a2,q,p,o,n⟩:=OH (loc:=0) G ⟨by omega,by have:=C.u1;omega,by omega,by have:=C.w1;omega,C.q1⟩ j i (by omega) h x (by omega) (by omega) b;have v:=(Ae G x (loc:=0) (by omega) (by omega) b).1;rw[f]at v;dsimp only at v;obtain⟨r,b1,b2,b3,d,m,l⟩:=OH (loc:=1) v.gn (U:=U+1) (W:=W+1) ⟨by omega,by have:=C.u1;omega,by omega,by have:=C.w1;omega,C.q1⟩ (by omega) (by omega) (by omega) a2 (v.ix x) (by omega) (by omega) (by rw[v.cX];exact b);unfold kE;rw[f];dsimp only;rw[if_neg (by simp),b1];dsimp only;rw[if_neg (by simp)];rw[a1g]at o;refine⟨r,rfl,?_,fun c k' now=>by rw[b3,q],fun k=>?_,?_,m,fun z g a=>n z (l z g a) a⟩
 .have e1:U+1+1=U+2:=by omega
  have e2:W+1+1=W+2:=by omega
  rw[e1,e2]at b2;exact b2.Ex (by omega)
 .have:=p k;have:=d k;omega
 .have:=d (2*item);omega
def FA {e:Int} {Q:Int}:∀(n j:Nat) (U W B:Int) (S:bK),Gn S->yG (U+2*n) (W+2*n) Q->1000<=U->0<=W->0<=B->B+30064771072*n<=36028797018963968->Lm U W Q B S.aN S->(0<=e/\e<S.aD.length)->n+j<=S.weights.length ->
  ∃T,kL e n j S=(T,0)/\Lm (U+2*n) (W+2*n) Q (B+30064771072*n) T.aN T/\(∀r k' now,gR T.aN r k' now=gR S.aN r k' now)/\(∀k,((T.aJ e).bE k).p0<=max ((S.aJ e).bE k).p0 0)/\(∀i:Nat,j<=i->i<j+n->S.cX e (i:Int)=3->((T.aJ e).bE (2*(i:Int))).p0<=0/\((T.aJ e).bE (2*(i:Int)+1)).p0<=0)/\(∀z∈T.aN,z.aU≠e->z∈S.aN)
 |0,j,U,W,B,S,G,C,p,o,q,g,h,a,A=>⟨S,rfl,by simpa using h,fun _ _ _=>rfl,fun k=>by omega,fun i x w=>by omega,fun z l _=>l⟩
 |n+1,j,U,W,B,S,G,C,p,o,q,g,h,a,A=>by
  have e1:((n+1:Nat):Int)=(n:Int)+1:=by omega
  rw[e1]at C g |-;unfold kL;by_cases b:S.cX e (j:Int)=3
  .rw[if_pos b]
   obtain⟨I,H,a2,F,E,K,J,D⟩:=aaJ G (e:=e) (item:=(j:Int)) (U:=U) (W:=W) (B:=B) (Q:=Q) ⟨by omega,by have:=C.u1;omega,by omega,by have:=C.w1;omega,C.q1⟩ p o ⟨q,by omega⟩ h ⟨a.1,a.2,by omega,by omega⟩ b;have v:=(Mi G (e:=e) (item:=(j:Int)) ⟨a.1,a.2,by omega,by omega⟩ b).1;rw[H]at v |-;dsimp only at v |-;rw[if_neg (by simp)];obtain⟨u,b1,b2,b3,c,t,s⟩:=FA n (j+1) (U+2) (W+2) (B+30064771072) I v.gn ⟨by omega,by have:=C.u1;omega,by omega,by have:=C.w1;omega,C.q1⟩ (by omega) (by omega) (by omega) (by omega) a2 ⟨a.1,by rw[v.le];exact a.2⟩ (by rw[v.wt];omega);refine⟨u,b1,?_,fun r k' now=>by rw[b3,F],fun k=>?_,fun i x w d=>?_,fun z l f=>D z (s z l f) f⟩
   .rw[show U+2*((n:Int)+1)=U+2+2*n by omega,show W+2*((n:Int)+1)=W+2+2*n by omega,show B+30064771072*((n:Int)+1)=B+30064771072+30064771072*n by omega]
    exact b2
   .have:=E k;have:=c k;omega
   .by_cases m:i=j
    .subst m
     have:=c (2*(i:Int));have:=c (2*(i:Int)+1);omega
    .exact t i (by omega) (by omega) (by rw[v.cX];exact d)
  .rw[if_neg b]
   obtain⟨u,b1,b2,b3,c,t,s⟩:=FA n (j+1) U W B S G ⟨by omega,by have:=C.u1;omega,by omega,by have:=C.w1;omega,C.q1⟩ p o q (by omega) h a (by omega);have y:=b2.Ex (B':=B+30064771072*((n:Int)+1)) (by omega);refine⟨u,b1,?_,b3,c,fun i x w d=>?_,s⟩
   .have v:=(sG n (j+1) S G a (by omega)).1
    rw[b1]at v;exact y.mono v.gn (by omega) (by omega) (a0f _) (a0f _)
   .by_cases m:i=j
    .subst m;exact absurd d b
    .exact t i (by omega) (by omega) d
def SH (h:Lm U W Q B S.aN S) (C:yG U W Q) (G:StOk S) (x:Ix S e item):0<=(bZ S e item).1.v/\(bZ S e item).1.v<=4294967296:=by
 have c:=h.IS e item;have key:∀{loc:Int},0<=loc->loc<=1->0<=vs ((S.aJ e).bE (2*item+loc)).aX/\vs ((S.aJ e).bE (2*item+loc)).aX<=2147483648:=by
  intro loc f d;obtain⟨p1,p2,-⟩:=h.bE G x f d;have s:=(Un.sum p1).mono (alA (m:=S.cX e item) (show S.cost e item<=U by have:=C.u0;omega)) (a0f W);exact⟨s.v,(s.val C (by have:=C.q1;dsimp only;omega)).1⟩
 have g:=key (loc:=0) (by omega) (by omega);have i:=key (loc:=1) (by omega) (by omega);rw[a1g]at g;unfold bZ;dsimp only;generalize vs ((S.aJ e).bE (2*item)).aX=a at *;generalize vs ((S.aJ e).bE (2*item+1)).aX=b at *
 have:dJ [a,b]=a+b:=by
  rw[(CY (l:=[a,b]) (by simp only[eR,a01,a1x,a0x,a1y];omega)).2];simp
 omega
def acK (h:Lm U W Q B S.aN S) (C:yG U W Q) (G:StOk S) (x:Ix S e 0) {i:Nat} (b:i<S.weights.length):0<=NZ S e i/\NZ S e i<=4294967296:=by
 have w:=SH h C G (e:=e) (item:=(i:Int)) ⟨x.e0,x.e1,by omega,by omega⟩;refine⟨(Lq S e i).1,?_⟩;unfold NZ vC;split
 .omega
 .rename_i a
  have:=a0p (show 0<=(bZ S e (i:Int)).1.q by omega) (show 0<=S.sV e i by omega);split<;>omega
def ako (G:Gn S) (C:yG U W Q) (M:0<=B/\B<=72057594037927936) (h:Lm U W Q B S.aN S) (x:Ix S e 0) :
  ∃T,qL S e=(T,0)/\Lm U W Q (B+85899345920) T.aN T/\T.aN=S.aN/\(∀k,((T.aJ e).bE k).p0=((S.aJ e).bE k).p0):=by
 have E:=G.toStOk.zN x;have L:=h.el G.toStOk x;have J:=G.toStOk.hw;have s:∀i,0<=S.down e i/\S.down e i<=4294967296:=by
  intro i;unfold bK.down;by_cases r:i<(S.aJ e).down.length
  .exact⟨(E.db _ (dR r)).1,L.down _ (dR r)⟩
  .rw[a0k,a1k (by omega)];simp
 have q:∀n,n<=S.weights.length->(∀y∈mR S e n,(0<=y.a/\y.a<17)/\-8589934592<=y.n/\y.n<=8589934592)/\(iG (mR S e n)).sum=0:=by
  intro n;induction n with
  |zero=>intro _;exact⟨by simp[mR],by simp[mR,iG]⟩
  |succ j f =>
   intro H;obtain⟨D,z⟩:=f (by omega);have t:=acK h C G.toStOk x (i:=j) (by omega);have d:=s j;refine⟨fun y c=>?_,?_⟩
   .simp only[mR,a0m]at c
    rcases c with c|c
    .exact D y c
    .split at c
     .simp only[a0c,a0b,or_false]at c
      rcases c with rfl|rfl
      .exact⟨by simp,by dsimp only;omega⟩
      .exact⟨by simp,by dsimp only;omega⟩
     .simp at c
   .simp only[mR]
    unfold iG at *;rw[a09,a2l,z];split
    .simp;omega
    .simp
 have p:∀n,n<=S.weights.length->∀v∈nQ S e n,v<=4294967296:=by
  intro n;induction n with
  |zero=>intro _;exact L.down
  |succ j f =>
   intro H v g;have f:=f (by omega);simp only[nQ]at g;split at g
   .rcases a05 g with g|rfl
    .exact f v g
    .exact(acK h C G.toStOk x (i:=j) (by omega)).2
   .exact f v g
 have K:=Sb G.toStOk x (zE S e S.weights.length) (RH E.db _)
 have b0:Lm U W Q B S.aN (S.bJ e ((S.aJ e).Af (nQ S e S.weights.length))):=h.bJ x.e0 fun y c=>by
  rcases c with rfl|c
  .exact⟨L.un,L.cU,L.rL,p _ (a0h _)⟩
  .exact h.elA G.toStOk x c
 obtain⟨o,w⟩:=q _ (a0h _);have F:=MW S e S.weights.length;obtain⟨T,m⟩:=b0.ac6 (by omega) K.ok (K.ix x) (l:=mR S e S.weights.length) ⟨fun y c=>by have:=o y c;omega,by omega⟩ w
 have b1:=b0.post K.ok (K.ix x) (A:=8589934592) m (fun y c=>(o y c).2) (by omega);have u:=(eX K.ok (K.ix x) (mR S e S.weights.length)).1;rw[m]at u;have es:T.aN=S.aN:=(K.trans u).pap.1;unfold qL;rw[m];dsimp only;rw[if_neg (by simp)];refine⟨T,rfl,by rw[es];exact b1.Ex (by omega),es,fun k=>?_⟩
 obtain⟨b,I,-⟩:=ME m (K.ok.zN (K.ix x)).bl;rw[I,bK.jQ (K.ix x)];show(((S.bJ e _).aJ e).bE k).p0=_;rw[bK.jQ x];rfl
def XC (G:Gn S) (C:yG (U+3000) W Q) (C2:W<=268435400) (O:1000<=U) (R:0<=B/\B<=18014398509481984) (h:LS U W Q B S) (x:Ix S e 0) (N:(S.aJ e).closed=false) :
  ∃T,jY S e=(T,0)/\Up U W Q B T:=by
 have hw:=G.toStOk.hw;have u1:=C.u1;have H:yG (U+2*S.weights.length) (W+2*S.weights.length) Q:=⟨by omega,by omega,by have:=C.w0;omega,by omega,C.q1⟩;obtain⟨T1,D,a2,a3,a4,a5,a6⟩:=FA (e:=e) S.weights.length 0 U W B S G H O C.w0 R.1 (by omega) h.lm ⟨x.e0,x.e1⟩ (by omega);have v:=(sG (e:=e) S.weights.length 0 S G ⟨x.e0,x.e1⟩ (by omega)).1;have F:=tS G x;rw[D]at v;dsimp only at v;obtain⟨a,b1,b2,b3,Z⟩:=ako v.gn H (by omega) a2 (v.ix x);have q:=(Lz v.gn (v.ix x)).1;rw[b1]at q;dsimp only at q;have b:=v.trans (q.sv v.gn);unfold jY at F |-;rw[if_neg (by simp[N]),D]at F |-;dsimp only at F |-;rw[if_neg (by simp),b1]at F |-;dsimp only at F |-;rw[if_neg (by simp)]at F |-;refine⟨_,rfl,?_⟩;have GT:=F.gn;dsimp only at GT;have K:∀t k' now,gR a.aN t k' now=gR S.aN t k' now:=fun t k' now=>by rw[b3,a3]
 have i:=b.ix x;have E2:=b.gn.toStOk.zN i;have M:∀k,k<2*S.weights.length->((a.aJ e).bE (k:Int)).p0<=0:=by
  intro k f;rw[Z];by_cases w:S.cX e ((k/2:Nat):Int)=3
  .obtain⟨Y,X⟩:=a5 (k/2) (by omega) (by omega) w
   rcases(by omega:(k:Int)=2*((k/2:Nat):Int)\/(k:Int)=2*((k/2:Nat):Int)+1)with l|l
   .rw[l];exact Y
   .rw[l];exact X
  .have I:Ix S e ((k/2:Nat):Int):=⟨x.e0,x.e1,by omega,by omega⟩
   have P:=G.toStOk.AS I (loc:=(k:Int)-2*((k/2:Nat):Int)) (by omega) (by omega);rw[show 2*((k/2:Nat):Int)+((k:Int)-2*((k/2:Nat):Int))=(k:Int)by omega]at P;have:=a4 (k:Int);rcases P.zero with z|⟨z,-⟩
   .exact absurd z w
   .simp only[dI.pn]at z;omega
 have o:=b2.mono b.gn (show U+2*(S.weights.length:Int)<=U+3000 by omega) (show W+2*(S.weights.length:Int)<=W+U+1000 by omega) (show Q<=Q+24 by omega) (show _<=B+274877906944 by omega);refine⟨?_,?_⟩
 .show Lm _ _ _ _ a.aN (a.bJ e ((a.aJ e).shut (S.aJ e).toEntC))
  refine o.bJ x.e0 fun y c=>?_;have m:=o.el b.gn.toStOk i;have J:a.methods=S.methods:=b.me;have Cz:a.cI=S.cI:=b.co;rcases c with rfl|c
  .refine⟨fun k p f=>?_,m.cU,m.rL,m.down⟩
   obtain⟨g1,g2,g3,g4⟩:=m.un k p f;refine⟨g1,g2,g3,fun _=>?_⟩
   have A:=(a0y.1 f).1
   have V:(a.aJ e).bE (k:Int)=p:=by
    unfold dL.bE;rw[a0w,a0k,show(a.aJ e).bH[k]?=some p from f];rfl
   have E:=E2.pl;rw[b.wt]at E;have:=M k (by rw[<-E];exact A);rw[V]at this;exact this
  .rw[show((a.aJ e).shut (S.aJ e).toEntC).ahead=[(S.aJ e).toEntC]from rfl,a07]at c
   subst c;have L:=(h.lm.el G.toStOk x).mono (show U<=U+3000 by omega) (show W<=W+U+1000 by omega) (show Q<=Q+24 by omega) (show B<=B+274877906944 by omega);rw[J,Cz];exact⟨fun k p f=>by rw[K];exact L.un k p f,L.cU,L.rL,L.down⟩
 ·-- what waits of other bU is as it was
  intro y c u d j;have c:y∈a.aN:=c;by_cases g:y.aU=e
  .rw[g,bK.jQ i]at d
   cases d
  .rw[b3]at c
   have n:=a6 y c g;have s:=(G.C8 y n).1.1;rw[As _ x.e0 s g]at d j;have e2:(a.aJ y.aU).closed=(S.aJ y.aU).closed:=congrArg (fun r=>r.2.1) (b.shE y.aU);rw[e2]at d;rw[b.now]at j;exact h.sz y n u d j
def aat (l:List kU) (e:Int) (now:Int) (e' k':Nat) (a:Int):gR (l.map (jE e now)) e' k' a=gR l e' k' a:=by
 unfold gR;rw[a2i];congr 1;refine a1c fun x _=>?_;simp only[Function.comp,jE];split<;>rfl
def aeF (G:Gn S) (C:yG (U+3000) W Q) (H:1000<=U) (h:LS U W Q B S) (x:Ix S e 0) (J:Gn T) (i:uN S e=(T,0)):Up U W Q B T:=by
 unfold uN at i;split at i
 .cases i
 rename_i r;have q:=G.toStOk.at_ x;have n:=G.al _ (a0a q);have m:=h.lm.mono G (show U<=U+3000 by omega) (show W<=W+U+1000 by omega) (show Q<=Q+24 by omega) (show B<=B+274877906944 by omega);split at i
 .rename_i y f
  cases i;have u:=(n.2 y (by show y∈(S.aJ e).ahead;rw[f];simp)).1;have v:=(n.2 y (by show y∈(S.aJ e).ahead;rw[f];simp)).2
  have b1:=m.bJ (e:=e) (E:=⟨y,[]⟩) x.e0 (fun z c=>by
   rcases c with rfl|c
   .exact m.elA G.toStOk x (by rw[f];simp)
   .cases c)
  have b2:=b1.aaW (sa':=S.aN.map (jE e y.now)) (fun I A _ w _ k'=>by rw[aat];omega);refine⟨⟨b2.cost,b2.aJ,b2.rc,fun z c=>?_,b2.tr⟩,?_⟩
  .obtain⟨s,hs,rfl⟩:=a0l.1 c
   have k:=m.sa s hs;unfold jE;split
   .refine⟨a0f _,fun t=>?_⟩
    dsimp only at t |-;have F:=a0p (show 0<=U+3000 by omega) (show 0<=s.eU-s.back by omega);have D:=a0p (show 0<=W+U+1000 by have:=C.w0;omega) (show 0<=s.eU-s.back by omega);omega
   .exact k
  .intro z c j d a
   obtain⟨s,hs,rfl⟩:=a0l.1 c;have o:=(G.C8 s hs).1.1;by_cases b:s.waits=true/\s.aU=e/\s.period=y.now
   .unfold jE
    rw[if_pos b];exact⟨rfl,rfl⟩
   .unfold jE at j d a |-
    rw[if_neg b]at j d a |-;by_cases g:s.aU=e
    .rw[g]at a
     have a:s.period=((S.bJ e ⟨y,[]⟩).aJ e).now:=a;rw[bK.jQ x]at a;exact absurd ⟨j,g,a⟩ b
    .have d:((S.bJ e ⟨y,[]⟩).aJ s.aU).closed=false:=d
     have a:s.period=((S.bJ e ⟨y,[]⟩).aJ s.aU).now:=a;rw[As _ x.e0 o g]at d a;exact h.sz s hs j d a
 .rename_i p
  have l:=n.1;rw[show(S.aJ e).sh.2.1=true by show(S.aJ e).closed=true;simpa using r]at l;simp only[if_true]at l;obtain⟨y,f⟩:=a3r.1 l;exact absurd (show(S.aJ e).ahead=[y]from f) (p y)
def akh (G:Gn S) (C:yG (U+3000) W Q) (y:1000<=U) (h:LS U W Q B S) (x:Ix S e 0) (E:Gn T) (c:IL S e=(T,0)) (D:4294967296<=B):Up U W Q B T:=by
 unfold IL at c;split at c
 .cases c
 rename_i f;split at c
 .cases c
 cases c;have f:(S.aJ e).closed=true:=by simpa using f
 have q:=h.lm.mono G (show U<=U+3000 by omega) (show W<=W+U+1000 by omega) (show Q<=Q+24 by omega) (show B<=B+274877906944 by omega);have A:yG U W Q:=⟨y,by have:=C.u1;omega,C.w0,C.w1,C.q1⟩;refine⟨?_,?_⟩
 .show Lm _ _ _ _ S.aN (S.bJ e (IM S e))
  refine q.bJ x.e0 fun z a=>?_;rcases a with rfl|a
  .have L:=q.el G.toStOk x
   refine⟨fun k p u=>?_,L.cU,fun r t v l=>?_,L.down⟩
   .obtain⟨g1,g2,g3,g⟩:=L.un k p u
    have g:=g f;have:=Ti G e.toNat k (1+(S.aJ e).now);exact⟨g1,g2,by show p.p0<=gR S.aN e.toNat k (1+(S.aJ e).now);omega,fun _=>g⟩
   .obtain⟨i,n,rfl⟩:=a0l.1 t
    have n:i<S.weights.length:=(by simpa using n);have w:=SH h.lm A G.toStOk (e:=e) (item:=(i:Int)) ⟨x.e0,x.e1,by omega,by omega⟩;simp only[lZ,a0c,a0b,or_false]at l;rcases l with rfl|rfl|rfl|rfl|rfl|rfl|rfl|rfl|rfl|rfl|rfl<;>omega
  .cases a
 .intro z a s o b
  have j:=(G.C8 z a).1.1;by_cases d:z.aU=e
  .have m:=G.pb z a
   rw[d]at b m;rw[bK.jQ x]at b;have b:z.period=1+(S.aJ e).now:=b;omega
  .rw[As _ x.e0 j d]at o b
   exact h.sz z a s o b
end
end
section
open Mc
variable {k:Int} {o:Fb}
def Lk (k:Int) (S:bK):Prop:=LS (3000*(k+1)) (600000*(k+1)) (24*(k+1)) (274877906944*(k+1)) S
def Lk.up {T:bK} (c:0<=k) (b:k<=130) (a:Gn T) (h:Up (3000*(k+1)) (600000*(k+1)) (24*(k+1)) (274877906944*(k+1)) T):Lk (k+1) T :=
 ⟨h.lm.mono a (by omega) (by omega) (by omega) (by omega),h.sz⟩
def Lk.cap (b:0<=k) (a:k<=130):yG (3000*(k+1)+3000) (600000*(k+1)) (24*(k+1)):=⟨by omega,by omega,by omega,by omega,by omega⟩
def Lk.nA (b:0<=k) (a:k<=130):yG (3000*(k+1)) (600000*(k+1)) (24*(k+1)):=⟨by omega,by omega,by omega,by omega,by omega⟩
def Lk.mono {k:Int} {S:bK} (G:Gn S) (a:0<=k) (h:Lk k S):Lk (k+1) S:=⟨h.lm.mono G (by omega) (by omega) (by omega) (by omega),h.sz⟩
def apg {S T:bK} {n:Nat} (G:Gn S) (m:0<=k) (g:k<=130) (h:Lk k S) (E:S.aD.length=n) (H:1<=S.weights.length) (ok:eA n S.weights.length o) (u:rC o) (f:Gn T) (j:doS S o=(T,0)):Lk (k+1) T:=by
 subst E;have C:=Lk.nA m g;have x:=Lk.cap m g;cases o with
 |uO e item loc q a=>obtain⟨⟨i,a2⟩,⟨l,r⟩,⟨p,t⟩,s,v⟩:=ok;obtain⟨A,z⟩:=u;exact Lk.up m g f (aa1 G C h ⟨i,a2,l,r⟩ p t (by omega) (by omega) f j)
 |uU q a ref=>obtain⟨s,v,w⟩:=ok;exact Lk.up m g f (anN G C h s.1 ⟨v.1,u⟩ f j)
 |qG q ref=>obtain⟨s,w⟩:=ok;exact Lk.up m g f (aoY G C h s.1 f j)
 |N4 e item loc q a=>obtain⟨⟨i,a2⟩,⟨l,r⟩,⟨p,t⟩,s,v⟩:=ok;obtain⟨A,z⟩:=u;exact Lk.up m g f (ajP G C h ⟨i,a2,l,r⟩ p t (by omega) (by omega) f j)
 |take q a ref=>obtain⟨s,v,w⟩:=ok;obtain⟨A,z⟩:=u;exact Lk.up m g f (ajC G C h (by omega) (by omega) f j)
 |IC e item loc q=>obtain⟨⟨i,a2⟩,⟨l,r⟩,⟨p,t⟩,s⟩:=ok;exact Lk.up m g f (af9 G C h ⟨i,a2,l,r⟩ p t f j)
 |count e item loc q=>obtain⟨⟨i,a2⟩,⟨l,r⟩,⟨p,t⟩,s,v⟩:=ok;exact Lk.up m g f (aiM G C h ⟨i,a2,l,r⟩ p t ⟨s,u⟩ f j)
 |move e item loc dst q=>obtain⟨⟨i,a2⟩,⟨l,r⟩,⟨p,t⟩,⟨s,v⟩,w,y⟩:=ok;exact Lk.up m g f (akk G C h ⟨i,a2,l,r⟩ p t s v ⟨y.1,u⟩ f j)
 |uM e item a=>obtain⟨⟨i,a2⟩,⟨l,r⟩,p⟩:=ok;exact Lk.up m g f (aaT G C h ⟨i,a2,l,r⟩ ⟨p.1,u⟩ f j)
 |sV e item a=>obtain⟨⟨i,a2⟩,⟨l,r⟩,p⟩:=ok;exact Lk.up m g f (agy G C h ⟨i,a2,l,r⟩ (by omega) f j)
 |land dst a refs =>
  obtain⟨i,a2,l⟩:=ok;refine Lk.up m g f (akt G x (by omega) h ?_ ?_ ⟨a2.1,u⟩ f j)
  .rcases l with⟨r0,rfl,b⟩|⟨r0,r1,rfl,b,c,-⟩|⟨r0,r1,r2,rfl,b,c,d,-⟩
   .intro k g;simp only[a0c,a0b,or_false]at g;omega
   .intro k g;simp only[a0c,a0b,or_false]at g;omega
   .intro k g;simp only[a0c,a0b,or_false]at g;omega
  .rcases l with⟨r0,rfl,b⟩|⟨r0,r1,rfl,b,c,-⟩|⟨r0,r1,r2,rfl,b,c,d,-⟩<;>simp
 |S7 e item loc dst q a=>obtain⟨⟨i,a2⟩,⟨l,r⟩,⟨p,t⟩,⟨s,v⟩,w,y,I⟩:=ok;obtain⟨A,z⟩:=u;exact Lk.up m g f (ajO G C h ⟨i,a2,l,r⟩ ⟨s,v,l,r⟩ p t (by omega) (by omega) f j)
 |zV loc q ref=>obtain⟨⟨p,t⟩,s,w⟩:=ok;exact Lk.up m g f (afx G C h p t ⟨s.1,u⟩ f j)
 |close e =>
  obtain⟨i,a2⟩:=ok;have j:jY S e=(T,0):=j;have D:=(Po j).1;obtain⟨J,B,F⟩:=XC G x (by omega) (by omega) (by omega) h ⟨i,a2,by omega,by omega⟩ (by simpa using D);rw[j]at B;cases B;exact Lk.up m g f F
 |yU e=>obtain⟨i,a2⟩:=ok;exact Lk.up m g f (aeF G x (by omega) h ⟨i,a2,by omega,by omega⟩ f j)
 |next e=>obtain⟨i,a2⟩:=ok;exact Lk.up m g f (akh G x (by omega) h ⟨i,a2,by omega,by omega⟩ f j (by omega))
def LS.done {U W Q B:Int} {S:bK} (h:LS U W Q B S) (d:Int):LS U W Q B { S with done:=d }:=⟨⟨h.lm.cost,h.lm.aJ,h.lm.rc,h.lm.sa,h.lm.tr⟩,h.sz⟩
def akJ {S:bK} (G:Gn S) (f:S.done<=1000000) (n:∀v∈S.weights,0<=v/\v<=1073741824) (u:1<=S.weights.length) (p:1<=S.bT/\S.bT<=12) (ok:eA S.aD.length S.weights.length o):oH S (doS S o):=by
 have x:=G.hn;have t:=G.hw;cases o with
 |uO e item loc q a =>
  obtain⟨c,b,d,g,i⟩:=ok;obtain⟨-,F⟩:=Pm G f ⟨c.1,c.2,b.1,b.2⟩ d g (a:=a) ⟨i.1,by omega⟩;exact F
 |uU q a ref =>
  obtain⟨c,b,d⟩:=ok;obtain⟨-,F⟩:=amX G f c (a:=a) ⟨b.1,by omega⟩ d;exact F
 |qG q ref =>
  obtain⟨c,d⟩:=ok;obtain⟨-,F⟩:=aph G f c d;exact F
 |N4 e item loc q a =>
  obtain⟨c,b,d,g,i⟩:=ok;obtain⟨-,F⟩:=aiI G f ⟨c.1,c.2,b.1,b.2⟩ d g (a:=a) ⟨i.1,by omega⟩;exact F
 |take q a ref =>
  obtain⟨c,b,d⟩:=ok;obtain⟨-,F⟩:=aiz G f c (a:=a) ⟨b.1,by omega⟩ d;exact F
 |IC e item loc q =>
  obtain⟨c,b,d,g⟩:=ok;obtain⟨-,F⟩:=adV G f ⟨c.1,c.2,b.1,b.2⟩ d g;exact F
 |count e item loc q =>
  obtain⟨c,b,d,g⟩:=ok;obtain⟨-,F⟩:=adX G f ⟨c.1,c.2,b.1,b.2⟩ d g;exact F
 |move e item loc dst q =>
  obtain⟨c,b,d,g,i,l⟩:=ok;obtain⟨-,F⟩:=aiJ G f ⟨c.1,c.2,b.1,b.2⟩ d g l;exact F
 |uM e item a =>
  obtain⟨c,b,d⟩:=ok;obtain⟨-,F⟩:=Pl G f ⟨c.1,c.2,b.1,b.2⟩ d;exact F
 |sV e item a =>
  obtain⟨c,b,d⟩:=ok;obtain⟨-,F⟩:=adW G ⟨c.1,c.2,b.1,b.2⟩ (a:=a) ⟨d.1,by omega⟩;exact F
 |land dst a refs =>
  obtain⟨c,b,d⟩:=ok;have j:1<=refs.length/\refs.length<=40/\(∀k∈refs,0<=k/\k<=39):=by
   rcases d with⟨r0,rfl,b0⟩|⟨r0,r1,rfl,b0,b1,w⟩|⟨r0,r1,r2,rfl,b0,b1,b2,s,lt2⟩
   .exact⟨by simp,by simp,fun k h=>by simp at h;subst h;exact b0⟩
   .exact⟨by simp,by simp,fun k h=>by simp at h;rcases h with rfl|rfl<;>assumption⟩
   .exact⟨by simp,by simp,fun k h=>by simp at h;rcases h with rfl|rfl|rfl<;>assumption⟩
  obtain⟨r1,r2,m⟩:=j;obtain⟨-,F⟩:=aiK G f n r1 r2 m (dst:=dst) ⟨by omega,by omega⟩ (a:=a) ⟨b.1,by omega⟩;exact F
 |S7 e item loc dst q a =>
  obtain⟨c,b,d,g,i,l,r⟩:=ok;obtain⟨-,F⟩:=aiH G f ⟨c.1,c.2,b.1,b.2⟩ d ⟨g.1,g.2,b.1,b.2⟩ l (a:=a) ⟨r.1,by omega⟩;exact F
 |zV loc q ref =>
  obtain⟨c,b,d⟩:=ok;obtain⟨-,F⟩:=Xy G f c b d;exact F
 |close e=>exact tS G ⟨ok.1,ok.2,by omega,by omega⟩
 |yU e=>exact IH G ⟨ok.1,ok.2,by omega,by omega⟩
 |next e=>exact O8 G ⟨ok.1,ok.2,by omega,by omega⟩ p.2
def ajJ {S:bK} (G:Gn S) (l:S.done<=1000000) (e:∀v∈S.weights,0<=v/\v<=1073741824) (a:1<=S.weights.length) (g:1<=S.bT/\S.bT<=12) (c:0<=k) (i:k<=130) (h:Lk k S) (ok:eA S.aD.length S.weights.length o) (d:rC o):Lk (k+1) (pH S o).1:=by
 have F:=akJ G l e a g ok;unfold pH fF;obtain⟨T,f,b⟩:∃T f,doS S o=(T,f):=⟨_,_,rfl⟩;rw[b]at F |-;dsimp only;split
 .rename_i j
  subst j;exact LS.done (apg G c i h rfl a ok d F.gn b) _
 .exact h.mono G c
section
variable {S T:bK} {e item loc dst q a ref:Int}
def ajt.closed (h:ajt S) {e:Int} {x:dL} (a:0<=e):ajt S:=h
end
end
section
open Mc
section
variable {S T:bK} {e item loc dst q a ref:Int}
end
end
section
open Mc
variable {per:Int} {ws:List Int} {cs ms:List (List Int)}
def mAv (n per:Int) (ws:List Int) (ms cs:List (List Int)):AV:=.agg [.i n,.i per,.lit 1 (aA ws),.lit 1 (bF ms),.lit 1 (bF cs)]
instance {n per:Int} {ws:List Int} {ms cs:List (List Int)}:uD (mAv n per ws ms cs):=⟨.agg _ (bN (.c _) (bN (.c _) (bN (kX _).lit (bN (oY _).lit (bN (oY _).lit fY)))))⟩
def kY (a b:Int):Prop:=a=b
def kY.mk (a:Int):kY a a:=Eq.refl a
def kY.ex (e n:Int) (h:0<=e/\e<=n:=by omega):∃x,kY x e/\0<=x/\x<=n:=⟨e,.mk e,h⟩
def kY.md (a n:Int) (h:0<n:=by omega):∃x,kY x (a%n)/\0<=x/\x<n:=⟨_,.mk _,a2d _ (by omega),a24 _ h⟩
def aiV (o:Fb):Cl o.av:=by
 cases o<;>first|exact amY _|exact .agg _ (bN (.c _) (bN (.c _) (bN (.c _) (bN (.c _) (bN (.c _) (bN (.c _) (bN (.c _) (bN (.c _) (bN (kX _).lit fY)))))))))
instance {o:Fb}:uD o.av:=⟨aiV o⟩
structure MOk (n:Nat) (per:Int) (ws:List Int) (ms cs:List (List Int)):Prop where
 n2:2<=n
 n3:n<=3
 w2:2<=ws.length
 w4:ws.length<=4
 p:1<=per/\per<=4
 ml:ms.length=n
 cl:cs.length=n
 mr:∀r∈ms,r.length=ws.length/\∀v∈r,1<=v/\v<=4
 cr:∀r∈cs,r.length=ws.length/\∀v∈r,0<=v/\v<=1000
 wr:∀v∈ws,0<=v/\v<=1073741824
def Nh (w:Nat):dL:=⟨⟨1,false,List.replicate (2*w) ⟨[],0,0,0⟩,List.replicate 17 0,List.replicate w (List.replicate 11 0),List.replicate w (-1),List.replicate w 0⟩,[]⟩
def iF (n:Nat) (per:Int) (ws:List Int) (ms cs:List (List Int)):bK:=⟨n,per,ws,ms,cs,List.replicate n (Nh ws.length),[],[],[],0⟩
def akE (w:Nat) (ms:List Int):NT w ms (Nh w).toEntC:=by
 refine⟨by simp[Nh],?_,by simp[Nh],?_,by simp[Nh],?_,by simp[Nh],?_,by simp[Nh],?_,by simp[Nh]⟩
 .intro k p c
  have:=(a1q.1 (a0a c)).2;subst this;exact⟨⟨by simp,fun x h=>absurd h a0b,by decide,by decide,by decide⟩,.inr (by simp),by decide,by decide,by decide,by decide,.inr ⟨rfl,rfl,rfl⟩⟩
 .intro v a
  rw[(a1q.1 a).2];exact z58
 .intro r b
  rw[(a1q.1 b).2];grind
 .intro v a
  rw[(a1q.1 a).2];simp_all
 .intro v a
  rw[(a1q.1 a).2];simp_all
def afZ {n:Nat} (M:MOk n per ws ms cs):Gn (iF n per ws ms cs):=by
 obtain⟨k,j,i,h,p,ml,cl,f,d,wr⟩:=M;have mem:∀x∈(iF n per ws ms cs).aD,x=Nh ws.length:=fun x a=>(a1q.1 a).2;have len:(iF n per ws ms cs).aD.length=n:=by simp[iF]
 refine⟨⟨by omega,by show ws.length<=5;omega,by rw[len];exact ml,by rw[len];exact cl,fun r b=>(f r b).1,fun r b=>(d r b).1,fun r b=>(f r b).2,fun r b v g=>⟨((d r b).2 v g).1,by have:=((d r b).2 v g).2;omega⟩,?_,?_⟩,by simp[iF],by simp[iF],by simp[iF],?_,?_,?_,by simp[iF],?_,?_⟩
 .intro e x a
  rw[mem x (a0a a)];exact akE _ _
 .intro x a e l y c
  rw[mem x a]at c;cases c
 .intro x a;cases a
 .intro x a;cases a
 .intro x a;cases a
 .intro x a
  rw[mem x a];exact⟨rfl,fun y c=>by cases c⟩
 .intro x a;cases a
def XM {n:Nat} (M:MOk n per ws ms cs):Ck 31 [mAv n per ws ms cs] (.bG [(iF n per ws ms cs).av,.i 0]):=by
 obtain⟨S,R,P,O,p,ml,cl,a,b,wr⟩:=M;rcases(by omega:n=2\/n=3)with rfl|rfl
 .obtain⟨H,G,rfl⟩:=jO ml
  obtain⟨K,J,rfl⟩:=jO cl;rcases(by omega:ws.length=2\/ws.length=3\/ws.length=4)with h|h|h
  .rw[h]at a b
   obtain⟨w0,m,rfl⟩:=jO h;simp only[a1o,a0b,false_imp_iff,implies_true,and_true]at a b wr;obtain⟨f,e,rfl⟩:=jO a.1.1;obtain⟨l,k,rfl⟩:=jO b.1.1;obtain⟨d,c,rfl⟩:=jO a.2.1;obtain⟨j,g,rfl⟩:=jO b.2.1;simp only[a1o,a0b,false_imp_iff,implies_true,and_true]at a b;exact cw _ (ev1 { vars:=[(1,4),Kg3,Kg3,(1,4),(1,4),(1,4),(1,4),Kg3,Kg3,Kg3,Kg3] } [per,w0,m,f,e,d,c,l,k,j,g] [] [] .nil) [(.agg [.i 2,.v 0,KeG,WB,Wn])] (.bG [(.agg [.i 2,.v 0,KeG,WB,Wn,(.lit 8 [Kl,Kl]),(.lit 8 []),(.lit 9 []),(.lit 6 []),.i 0]),.i 0]) kn
  .rw[h]at a b
   obtain⟨w0,m,y,rfl⟩:=jN h;simp only[a1o,a0b,false_imp_iff,implies_true,and_true]at a b wr;obtain⟨f,e,q,rfl⟩:=jN a.1.1;obtain⟨l,k,s,rfl⟩:=jN b.1.1;obtain⟨d,c,o,rfl⟩:=jN a.2.1;obtain⟨j,g,r,rfl⟩:=jN b.2.1;simp only[a1o,a0b,false_imp_iff,implies_true,and_true]at a b;exact cw _ (ev1 { vars:=[(1,4),Kg3,Kg3,Kg3,(1,4),(1,4),(1,4),(1,4),(1,4),(1,4),Kg3,Kg3,Kg3,Kg3,Kg3,Kg3] } [per,w0,m,y,f,e,q,d,c,o,l,k,s,j,g,r] [] [] .nil) [(.agg [.i 2,.v 0,KcK,Uq,YD])] (.bG [(.agg [.i 2,.v 0,KcK,Uq,YD,(.lit 8 [Kd,Kd]),(.lit 8 []),(.lit 9 []),(.lit 6 []),.i 0]),.i 0]) kn
  .rw[h]at a b
   obtain⟨w0,m,y,F,rfl⟩:=lE h;simp only[a1o,a0b,false_imp_iff,implies_true,and_true]at a b wr;obtain⟨f,e,q,B,rfl⟩:=lE a.1.1;obtain⟨l,k,s,E,rfl⟩:=lE b.1.1;obtain⟨d,c,o,A,rfl⟩:=lE a.2.1;obtain⟨j,g,r,D,rfl⟩:=lE b.2.1;simp only[a1o,a0b,false_imp_iff,implies_true,and_true]at a b;exact cw _ (ev1 { vars:=[(1,4),Kg3,Kg3,Kg3,Kg3,(1,4),(1,4),(1,4),(1,4),(1,4),(1,4),(1,4),(1,4),Kg3,Kg3,Kg3,Kg3,Kg3,Kg3,Kg3,Kg3] } [per,w0,m,y,F,f,e,q,B,d,c,o,A,l,k,s,E,j,g,r,D] [] [] .nil) [(.agg [.i 2,.v 0,KaB,ZR,Zp])] (.bG [(.agg [.i 2,.v 0,KaB,ZR,Zp,(.lit 8 [Ka,Ka]),(.lit 8 []),(.lit 9 []),(.lit 6 []),.i 0]),.i 0]) kn
 .obtain⟨H,G,N,rfl⟩:=jN ml
  obtain⟨K,J,Q,rfl⟩:=jN cl;rcases(by omega:ws.length=2\/ws.length=3\/ws.length=4)with h|h|h
  .rw[h]at a b
   obtain⟨w0,m,rfl⟩:=jO h;simp only[a1o,a0b,false_imp_iff,implies_true,and_true]at a b wr;obtain⟨f,e,rfl⟩:=jO a.1.1;obtain⟨l,k,rfl⟩:=jO b.1.1;obtain⟨d,c,rfl⟩:=jO a.2.1.1;obtain⟨j,g,rfl⟩:=jO b.2.1.1;obtain⟨u,t,rfl⟩:=jO a.2.2.1;obtain⟨x,w,rfl⟩:=jO b.2.2.1;simp only[a1o,a0b,false_imp_iff,implies_true,and_true]at a b;exact cw _ (ev1 { vars:=[(1,4),Kg3,Kg3,(1,4),(1,4),(1,4),(1,4),(1,4),(1,4),Kg3,Kg3,Kg3,Kg3,Kg3,Kg3] } [per,w0,m,f,e,d,c,u,t,l,k,j,g,x,w] [] [] .nil) [(.agg [.i 3,.v 0,KeG,ZW,ZM])] (.bG [(.agg [.i 3,.v 0,KeG,ZW,ZM,(.lit 8 [Kl,Kl,Kl]),(.lit 8 []),(.lit 9 []),(.lit 6 []),.i 0]),.i 0]) kn
  .rw[h]at a b
   obtain⟨w0,m,y,rfl⟩:=jN h;simp only[a1o,a0b,false_imp_iff,implies_true,and_true]at a b wr;obtain⟨f,e,q,rfl⟩:=jN a.1.1;obtain⟨l,k,s,rfl⟩:=jN b.1.1;obtain⟨d,c,o,rfl⟩:=jN a.2.1.1;obtain⟨j,g,r,rfl⟩:=jN b.2.1.1;obtain⟨u,t,z,rfl⟩:=jN a.2.2.1;obtain⟨x,w,C,rfl⟩:=jN b.2.2.1;simp only[a1o,a0b,false_imp_iff,implies_true,and_true]at a b;exact cw _ (ev1 { vars:=[(1,4),Kg3,Kg3,Kg3,(1,4),(1,4),(1,4),(1,4),(1,4),(1,4),(1,4),(1,4),(1,4),Kg3,Kg3,Kg3,Kg3,Kg3,Kg3,Kg3,Kg3,Kg3] } [per,w0,m,y,f,e,q,d,c,o,u,t,z,l,k,s,j,g,r,x,w,C] [] [] .nil) [(.agg [.i 3,.v 0,KcK,QM,Qo])] (.bG [(.agg [.i 3,.v 0,KcK,QM,Qo,(.lit 8 [Kd,Kd,Kd]),(.lit 8 []),(.lit 9 []),(.lit 6 []),.i 0]),.i 0]) kn
  .rw[h]at a b
   obtain⟨w0,m,y,F,rfl⟩:=lE h;simp only[a1o,a0b,false_imp_iff,implies_true,and_true]at a b wr;obtain⟨f,e,q,B,rfl⟩:=lE a.1.1;obtain⟨l,k,s,E,rfl⟩:=lE b.1.1;obtain⟨d,c,o,A,rfl⟩:=lE a.2.1.1;obtain⟨j,g,r,D,rfl⟩:=lE b.2.1.1;obtain⟨u,t,z,I,rfl⟩:=lE a.2.2.1;obtain⟨x,w,C,L,rfl⟩:=lE b.2.2.1;simp only[a1o,a0b,false_imp_iff,implies_true,and_true]at a b;exact cw _ (ev1 { vars:=[(1,4),Kg3,Kg3,Kg3,Kg3,(1,4),(1,4),(1,4),(1,4),(1,4),(1,4),(1,4),(1,4),(1,4),(1,4),(1,4),(1,4),Kg3,Kg3,Kg3,Kg3,Kg3,Kg3,Kg3,Kg3,Kg3,Kg3,Kg3,Kg3] } [per,w0,m,y,F,f,e,q,B,d,c,o,A,u,t,z,I,l,k,s,E,j,g,r,D,x,w,C,L] [] [] .nil) [(.agg [.i 3,.v 0,KaB,JR,JM])] (.bG [(.agg [.i 3,.v 0,KaB,JR,JM,(.lit 8 [Ka,Ka,Ka]),(.lit 8 []),(.lit 9 []),(.lit 6 []),.i 0]),.i 0]) kn
def afh (v:Int):∃(n:Nat) (per:Int) (ws:List Int) (ms cs:List (List Int)),MOk n per ws ms cs/\Ck 11 [.i v] (mAv n per ws ms cs):=by
 have hP:=Np v 1073741824;obtain⟨k,hk⟩:∃k,k=v%1073741824:=⟨_,rfl⟩;rw[<-hk]at hP;have bb:0<=k/\k<=1073741823:=by omega
 clear hk;obtain⟨j,ac,ba⟩:=kY.ex (k/2) 1073741824;obtain⟨F,ab,a9⟩:=kY.ex (k/6) 1073741824;obtain⟨W,aa,a8⟩:=kY.ex (F%4) 3;obtain⟨l,L,aU⟩:=kY.ex (k/24) 1073741824;obtain⟨h,Z,a7⟩:=kY.ex (l%7) 6;obtain⟨b,D,aH⟩:=kY.ex (k/168) 1073741824;obtain⟨f,C,aG⟩:=kY.ex (k/672) 1073741824;obtain⟨z,hz,bc⟩:=kY.ex (f%4) 3;obtain⟨a,m,aF⟩:=kY.ex (k/2688) 1073741824;obtain⟨t,K,aT⟩:=kY.ex ((b)%4) 3;obtain⟨y,P,a6⟩:=kY.ex ((a)%40) 39;obtain⟨s,J,aS⟩:=kY.ex ((1+b)%4) 3;obtain⟨x,O,a5⟩:=kY.ex ((7+a)%40) 39;obtain⟨T,ag,aR⟩:=kY.ex ((2+b)%4) 3;obtain⟨V,ai,a4⟩:=kY.ex ((14+a)%40) 39;obtain⟨ap,ax,aQ⟩:=kY.ex ((3+b)%4) 3;obtain⟨au,aA,a3⟩:=kY.ex ((21+a)%40) 39;obtain⟨q,H,aP⟩:=kY.ex ((b+z)%4) 3;obtain⟨w,N,a2⟩:=kY.ex ((1+a)%40) 39;obtain⟨p,G,aO⟩:=kY.ex ((1+b+z)%4) 3;obtain⟨u,M,a1⟩:=kY.ex ((8+a)%40) 39;obtain⟨S,af,aN⟩:=kY.ex ((2+b+z)%4) 3;obtain⟨U,ah,a0⟩:=kY.ex ((15+a)%40) 39;obtain⟨ao,aw,aM⟩:=kY.ex ((3+b+z)%4) 3;obtain⟨ar,az,aZ⟩:=kY.ex ((22+a)%40) 39;obtain⟨Y,ak,aL⟩:=kY.ex ((b+2*z)%4) 3;obtain⟨ae,am,aY⟩:=kY.ex ((2+a)%40) 39;obtain⟨X,aj,aK⟩:=kY.ex ((1+b+2*z)%4) 3;obtain⟨ad,al,aX⟩:=kY.ex ((9+a)%40) 39;obtain⟨an,av,aJ⟩:=kY.ex ((2+b+2*z)%4) 3;obtain⟨aq,ay,aW⟩:=kY.ex ((16+a)%40) 39;obtain⟨aB,aD,aI⟩:=kY.ex ((3+b+2*z)%4) 3;obtain⟨aC,aE,aV⟩:=kY.ex ((23+a)%40) 39;rcases(by omega:k%2=0\/k%2=1)with r2|r2<;>rcases(by omega:j%3=0\/j%3=1\/j%3=2)with E|E|E
 .have B:kY 0 (k%2):=r2.symm
  have A:kY 0 (j%3):=E.symm;clear r2 E;refine⟨2,1+W,[h,1+h],[[1+t,1+s],[1+q,1+p]],[[y,x],[w,u]],⟨by simp,by simp,by simp,by simp,by omega,rfl,rfl,?_,?_,?_⟩,cw _ (Oj { vars:=[Kg6,Kg3,Kg3,(0,3),Kg3,(0,6),Kg3,Kg3,(0,3),Kg3,(0,3),(0,39),(0,3),(0,39),(0,3),(0,39),(0,3),(0,39)],defs:=[(1,[([0],1)],[([],2)],[]),Kcw,(1,[([1],1)],[([],3)],[]),Kcx,Kcy,Kcd,Kcz,KbQ,KbR,KcA,Kbs,Kce,KbS,Kai,BM,BN,BO,Dj,BP],bR:=KbT } [k,j,F,W,l,h,b,f,z,a,t,y,s,x,q,w,p,u] [.I v] [] ((((((((((((((((((jH.nil.c (by omega) (by omega)).c (by omega) (by omega)).c (by omega) (by omega)).c (by omega) (by omega)).c (by omega) (by omega)).c (by omega) (by omega)).c (by omega) (by omega)).c (by omega) (by omega)).c (by omega) (by omega)).c (by omega) (by omega)).c (by omega) (by omega)).c (by omega) (by omega)).c (by omega) (by omega)).c (by omega) (by omega)).c (by omega) (by omega)).c (by omega) (by omega)).c (by omega) (by omega)).c) jT.nil kP.nil .nil (.R k B (.Q k ac (.R j A (.Q k ab (.R F aa (.Q k L (.R l Z (.Q k D (.Q k C (.R f hz (.Q k m (.R b K (.R a P (.R (1+b) J (.R (7+a) O (.R (b+z) H (.R (1+a) N (.R (1+b+z) G (.R (8+a) M (.nil))))))))))))))))))))) [.o 0] (.agg [.i 2,KfK,BQ,(.lit 1 [WH,WI]),(.lit 1 [[(.lit 1 [[.v 11],[.v 13]])],[(.lit 1 [[.v 15],[.v 17]])]])]) (kc hP kn)⟩
  .intro r d
   simp only[a0c,a0b,or_false]at d;rcases d with rfl|rfl<;>exact⟨rfl,fun v g=>by simp only[a0c,a0b,or_false]at g;omega⟩
  .intro r d
   simp only[a0c,a0b,or_false]at d;rcases d with rfl|rfl<;>exact⟨rfl,fun v g=>by grind⟩
  grind
 .have B:kY 0 (k%2):=r2.symm
  have A:kY 1 (j%3):=E.symm;clear r2 E;refine⟨2,1+W,[h,1+h,2+h],[[1+t,1+s,1+T],[1+q,1+p,1+S]],[[y,x,V],[w,u,U]],⟨by simp,by simp,by simp,by simp,by omega,rfl,rfl,?_,?_,?_⟩,cw _ (Oj { vars:=Jc,defs:=[(1,[([0],1)],[([],2)],[]),Kcw,(1,[([1],1)],[([],3)],[([],1)]),Kcx,Kcy,Kcd,Kcz,KbQ,KbR,KcA,Kbs,Kce,KbS,Kai,BM,Kaj,BA,BR,BU,Dk,BV,Dl,BB],bR:=KbT } [k,j,F,W,l,h,b,f,z,a,t,y,s,x,T,V,q,w,p,u,S,U] [.I v] [] ((((((((((((((((((((((jH.nil.c (by omega) (by omega)).c (by omega) (by omega)).c (by omega) (by omega)).c (by omega) (by omega)).c (by omega) (by omega)).c (by omega) (by omega)).c (by omega) (by omega)).c (by omega) (by omega)).c (by omega) (by omega)).c (by omega) (by omega)).c (by omega) (by omega)).c (by omega) (by omega)).c (by omega) (by omega)).c (by omega) (by omega)).c (by omega) (by omega)).c (by omega) (by omega)).c (by omega) (by omega)).c (by omega) (by omega)).c (by omega) (by omega)).c (by omega) (by omega)).c (by omega) (by omega)).c) jT.nil kP.nil .nil (.R k B (.Q k ac (.R j A (.Q k ab (.R F aa (.Q k L (.R l Z (.Q k D (.Q k C (.R f hz (.Q k m (.R b K (.R a P (.R (1+b) J (.R (7+a) O (.R (2+b) ag (.R (14+a) ai (.R (b+z) H (.R (1+a) N (.R (1+b+z) G (.R (8+a) M (.R (2+b+z) af (.R (15+a) ah (.nil))))))))))))))))))))))))) [.o 0] (.agg [.i 2,KfK,Wo,(.lit 1 [Yl,Ym]),(.lit 1 [Kbb,Kbc])]) (kc hP kn)⟩
  .intro r d
   simp only[a0c,a0b,or_false]at d;rcases d with rfl|rfl<;>exact⟨rfl,fun v g=>by simp only[a0c,a0b,or_false]at g;omega⟩
  .intro r d
   simp only[a0c,a0b,or_false]at d;rcases d with rfl|rfl<;>exact⟨rfl,fun v g=>by grind⟩
  .intro v g
   simp only[a0c,a0b,or_false]at g;omega
 .have B:kY 0 (k%2):=r2.symm
  have A:kY 2 (j%3):=E.symm;clear r2 E;refine⟨2,1+W,[h,1+h,2+h,3+h],[[1+t,1+s,1+T,1+ap],[1+q,1+p,1+S,1+ao]],[[y,x,V,au],[w,u,U,ar]],⟨by simp,by simp,by simp,by simp,by omega,rfl,rfl,?_,?_,?_⟩,cw _ (Oj { vars:=[Kg6,Kg3,Kg3,(0,3),Kg3,(0,6),Kg3,Kg3,(0,3),Kg3,(0,3),(0,39),(0,3),(0,39),(0,3),(0,39),(0,3),(0,39),(0,3),(0,39),(0,3),(0,39),(0,3),(0,39),(0,3),(0,39)],defs:=[(1,[([0],1)],[([],2)],[]),Kcw,(1,[([1],1)],[([],3)],[([],2)]),Kcx,Kcy,Kcd,Kcz,KbQ,KbR,KcA,Kbs,Kce,KbS,Kai,BM,Kaj,BA,Kak,BC,BW,BX,Dm,BY,Dn,BD,Do,BE],bR:=KbT } [k,j,F,W,l,h,b,f,z,a,t,y,s,x,T,V,ap,au,q,w,p,u,S,U,ao,ar] [.I v] [] ((((((((((((((((((((((((((jH.nil.c (by omega) (by omega)).c (by omega) (by omega)).c (by omega) (by omega)).c (by omega) (by omega)).c (by omega) (by omega)).c (by omega) (by omega)).c (by omega) (by omega)).c (by omega) (by omega)).c (by omega) (by omega)).c (by omega) (by omega)).c (by omega) (by omega)).c (by omega) (by omega)).c (by omega) (by omega)).c (by omega) (by omega)).c (by omega) (by omega)).c (by omega) (by omega)).c (by omega) (by omega)).c (by omega) (by omega)).c (by omega) (by omega)).c (by omega) (by omega)).c (by omega) (by omega)).c (by omega) (by omega)).c (by omega) (by omega)).c (by omega) (by omega)).c (by omega) (by omega)).c) jT.nil kP.nil .nil (.R k B (.Q k ac (.R j A (.Q k ab (.R F aa (.Q k L (.R l Z (.Q k D (.Q k C (.R f hz (.Q k m (.R b K (.R a P (.R (1+b) J (.R (7+a) O (.R (2+b) ag (.R (14+a) ai (.R (3+b) ax (.R (21+a) aA (.R (b+z) H (.R (1+a) N (.R (1+b+z) G (.R (8+a) M (.R (2+b+z) af (.R (15+a) ah (.R (3+b+z) aw (.R (22+a) az (.nil))))))))))))))))))))))))))))) [.o 0] (.agg [.i 2,KfK,Z9,(.lit 1 [QX,QY]),(.lit 1 [D8,D9])]) (kc hP kn)⟩
  .intro r d
   simp only[a0c,a0b,or_false]at d;rcases d with rfl|rfl<;>exact⟨rfl,fun v g=>by simp only[a0c,a0b,or_false]at g;omega⟩
  .intro r d
   simp only[a0c,a0b,or_false]at d;rcases d with rfl|rfl<;>exact⟨rfl,fun v g=>by grind⟩
  .intro v g
   simp only[a0c,a0b,or_false]at g;omega
 .have B:kY 1 (k%2):=r2.symm
  have A:kY 0 (j%3):=E.symm;clear r2 E;refine⟨3,1+W,[h,1+h],[[1+t,1+s],[1+q,1+p],[1+Y,1+X]],[[y,x],[w,u],[ae,ad]],⟨by simp,by simp,by simp,by simp,by omega,rfl,rfl,?_,?_,?_⟩,cw _ (Oj { vars:=Jc,defs:=[KcL,Kcw,(1,[([1],1)],[([],3)],[]),Kcx,Kcy,Kcd,Kcz,KbQ,KbR,KcA,Kbs,Kce,KbS,Kai,BM,BN,BO,Dj,BP,(1,[([6],1),([8],2)],[([],4)],[([18],1)]),(1,[([],2),([9],1)],[([],40)],[([19],1)]),(1,KeO,[([],4)],[([20],1)]),(1,[([],9),([9],1)],[([],40)],[([21],1)])],bR:=KbT } [k,j,F,W,l,h,b,f,z,a,t,y,s,x,q,w,p,u,Y,ae,X,ad] [.I v] [] ((((((((((((((((((((((jH.nil.c (by omega) (by omega)).c (by omega) (by omega)).c (by omega) (by omega)).c (by omega) (by omega)).c (by omega) (by omega)).c (by omega) (by omega)).c (by omega) (by omega)).c (by omega) (by omega)).c (by omega) (by omega)).c (by omega) (by omega)).c (by omega) (by omega)).c (by omega) (by omega)).c (by omega) (by omega)).c (by omega) (by omega)).c (by omega) (by omega)).c (by omega) (by omega)).c (by omega) (by omega)).c (by omega) (by omega)).c (by omega) (by omega)).c (by omega) (by omega)).c (by omega) (by omega)).c) jT.nil kP.nil .nil (.R k B (.Q k ac (.R j A (.Q k ab (.R F aa (.Q k L (.R l Z (.Q k D (.Q k C (.R f hz (.Q k m (.R b K (.R a P (.R (1+b) J (.R (7+a) O (.R (b+z) H (.R (1+a) N (.R (1+b+z) G (.R (8+a) M (.R (b+2*z) ak (.R (2+a) am (.R (1+b+2*z) aj (.R (9+a) al (.nil))))))))))))))))))))))))) [.o 0] (.agg [.i 3,KfK,BQ,(.lit 1 [WH,WI,[(.lit 1 [KeM,KeN])]]),(.lit 1 [[(.lit 1 [[.v 11],[.v 13]])],[(.lit 1 [[.v 15],[.v 17]])],[(.lit 1 [[.v 19],[.v 21]])]])]) (kc hP kn)⟩
  .intro r d
   simp only[a0c,a0b,or_false]at d;rcases d with rfl|rfl|rfl<;>exact⟨rfl,fun v g=>by simp only[a0c,a0b,or_false]at g;omega⟩
  .intro r d
   simp only[a0c,a0b,or_false]at d;rcases d with rfl|rfl|rfl<;>exact⟨rfl,fun v g=>by grind⟩
  .intro v g
   simp only[a0c,a0b,or_false]at g;omega
 .have B:kY 1 (k%2):=r2.symm
  have A:kY 1 (j%3):=E.symm;clear r2 E;refine⟨3,1+W,[h,1+h,2+h],[[1+t,1+s,1+T],[1+q,1+p,1+S],[1+Y,1+X,1+an]],[[y,x,V],[w,u,U],[ae,ad,aq]],⟨by simp,by simp,by simp,by simp,by omega,rfl,rfl,?_,?_,?_⟩,cw _ (Oj { vars:=[Kg6,Kg3,Kg3,(0,3),Kg3,(0,6),Kg3,Kg3,(0,3),Kg3,(0,3),(0,39),(0,3),(0,39),(0,3),(0,39),(0,3),(0,39),(0,3),(0,39),(0,3),(0,39),(0,3),(0,39),(0,3),(0,39),(0,3),(0,39)],defs:=[KcL,Kcw,(1,[([1],1)],[([],3)],[([],1)]),Kcx,Kcy,Kcd,Kcz,KbQ,KbR,KcA,Kbs,Kce,KbS,Kai,BM,Kaj,BA,BR,BU,Dk,BV,Dl,BB,(1,[([6],1),([8],2)],[([],4)],[([22],1)]),(1,[([],2),([9],1)],[([],40)],[([23],1)]),(1,KeO,[([],4)],[([24],1)]),(1,[([],9),([9],1)],[([],40)],[([25],1)]),(1,[([],2),([6],1),([8],2)],[([],4)],[([26],1)]),(1,[([],16),([9],1)],[([],40)],[([27],1)])],bR:=KbT } [k,j,F,W,l,h,b,f,z,a,t,y,s,x,T,V,q,w,p,u,S,U,Y,ae,X,ad,an,aq] [.I v] [] ((((((((((((((((((((((((((((jH.nil.c (by omega) (by omega)).c (by omega) (by omega)).c (by omega) (by omega)).c (by omega) (by omega)).c (by omega) (by omega)).c (by omega) (by omega)).c (by omega) (by omega)).c (by omega) (by omega)).c (by omega) (by omega)).c (by omega) (by omega)).c (by omega) (by omega)).c (by omega) (by omega)).c (by omega) (by omega)).c (by omega) (by omega)).c (by omega) (by omega)).c (by omega) (by omega)).c (by omega) (by omega)).c (by omega) (by omega)).c (by omega) (by omega)).c (by omega) (by omega)).c (by omega) (by omega)).c (by omega) (by omega)).c (by omega) (by omega)).c (by omega) (by omega)).c (by omega) (by omega)).c (by omega) (by omega)).c (by omega) (by omega)).c) jT.nil kP.nil .nil (.R k B (.Q k ac (.R j A (.Q k ab (.R F aa (.Q k L (.R l Z (.Q k D (.Q k C (.R f hz (.Q k m (.R b K (.R a P (.R (1+b) J (.R (7+a) O (.R (2+b) ag (.R (14+a) ai (.R (b+z) H (.R (1+a) N (.R (1+b+z) G (.R (8+a) M (.R (2+b+z) af (.R (15+a) ah (.R (b+2*z) ak (.R (2+a) am (.R (1+b+2*z) aj (.R (9+a) al (.R (2+b+2*z) av (.R (16+a) ay (.nil))))))))))))))))))))))))))))))) [.o 0] (.agg [.i 3,KfK,Wo,(.lit 1 [Yl,Ym,[(.lit 1 [[(.e [([],1),([22],1)])],[(.e [([],1),([24],1)])],[(.e [([],1),([26],1)])]])]]),(.lit 1 [Kbb,Kbc,[(.lit 1 [[.v 23],[.v 25],[.v 27]])]])]) (kc hP kn)⟩
  .intro r d
   simp only[a0c,a0b,or_false]at d;rcases d with rfl|rfl|rfl<;>exact⟨rfl,fun v g=>by simp only[a0c,a0b,or_false]at g;omega⟩
  .intro r d
   simp only[a0c,a0b,or_false]at d;rcases d with rfl|rfl|rfl<;>exact⟨rfl,fun v g=>by grind⟩
  .intro v g
   simp only[a0c,a0b,or_false]at g;omega
 .have B:kY 1 (k%2):=r2.symm
  have A:kY 2 (j%3):=E.symm;clear r2 E;refine⟨3,1+W,[h,1+h,2+h,3+h],[[1+t,1+s,1+T,1+ap],[1+q,1+p,1+S,1+ao],[1+Y,1+X,1+an,1+aB]],[[y,x,V,au],[w,u,U,ar],[ae,ad,aq,aC]],⟨by simp,by simp,by simp,by simp,by omega,rfl,rfl,?_,?_,?_⟩,cw _ (Oj { vars:=[Kg6,Kg3,Kg3,(0,3),Kg3,(0,6),Kg3,Kg3,(0,3),Kg3,(0,3),(0,39),(0,3),(0,39),(0,3),(0,39),(0,3),(0,39),(0,3),(0,39),(0,3),(0,39),(0,3),(0,39),(0,3),(0,39),(0,3),(0,39),(0,3),(0,39),(0,3),(0,39),(0,3),(0,39)],defs:=[KcL,Kcw,(1,[([1],1)],[([],3)],[([],2)]),Kcx,Kcy,Kcd,Kcz,KbQ,KbR,KcA,Kbs,Kce,KbS,Kai,BM,Kaj,BA,Kak,BC,BW,BX,Dm,BY,Dn,BD,Do,BE,(1,[([6],1),([8],2)],[([],4)],[([26],1)]),(1,[([],2),([9],1)],[([],40)],[([27],1)]),(1,KeO,[([],4)],[([28],1)]),(1,[([],9),([9],1)],[([],40)],[([29],1)]),(1,[([],2),([6],1),([8],2)],[([],4)],[([30],1)]),(1,[([],16),([9],1)],[([],40)],[([31],1)]),(1,[([],3),([6],1),([8],2)],[([],4)],[([32],1)]),(1,[([],23),([9],1)],[([],40)],[([33],1)])],bR:=KbT } [k,j,F,W,l,h,b,f,z,a,t,y,s,x,T,V,ap,au,q,w,p,u,S,U,ao,ar,Y,ae,X,ad,an,aq,aB,aC] [.I v] [] ((((((((((((((((((((((((((((((((((jH.nil.c (by omega) (by omega)).c (by omega) (by omega)).c (by omega) (by omega)).c (by omega) (by omega)).c (by omega) (by omega)).c (by omega) (by omega)).c (by omega) (by omega)).c (by omega) (by omega)).c (by omega) (by omega)).c (by omega) (by omega)).c (by omega) (by omega)).c (by omega) (by omega)).c (by omega) (by omega)).c (by omega) (by omega)).c (by omega) (by omega)).c (by omega) (by omega)).c (by omega) (by omega)).c (by omega) (by omega)).c (by omega) (by omega)).c (by omega) (by omega)).c (by omega) (by omega)).c (by omega) (by omega)).c (by omega) (by omega)).c (by omega) (by omega)).c (by omega) (by omega)).c (by omega) (by omega)).c (by omega) (by omega)).c (by omega) (by omega)).c (by omega) (by omega)).c (by omega) (by omega)).c (by omega) (by omega)).c (by omega) (by omega)).c (by omega) (by omega)).c) jT.nil kP.nil .nil (.R k B (.Q k ac (.R j A (.Q k ab (.R F aa (.Q k L (.R l Z (.Q k D (.Q k C (.R f hz (.Q k m (.R b K (.R a P (.R (1+b) J (.R (7+a) O (.R (2+b) ag (.R (14+a) ai (.R (3+b) ax (.R (21+a) aA (.R (b+z) H (.R (1+a) N (.R (1+b+z) G (.R (8+a) M (.R (2+b+z) af (.R (15+a) ah (.R (3+b+z) aw (.R (22+a) az (.R (b+2*z) ak (.R (2+a) am (.R (1+b+2*z) aj (.R (9+a) al (.R (2+b+2*z) av (.R (16+a) ay (.R (3+b+2*z) aD (.R (23+a) aE (.nil))))))))))))))))))))))))))))))))))))) [.o 0] (.agg [.i 3,KfK,Z9,(.lit 1 [QX,QY,[(.lit 1 [[(.e [([],1),([26],1)])],[(.e [([],1),([28],1)])],[(.e [([],1),([30],1)])],[(.e [([],1),([32],1)])]])]]),(.lit 1 [D8,D9,[(.lit 1 [[.v 27],[.v 29],[.v 31],[.v 33]])]])]) (kc hP kn)⟩
  .intro r d
   simp only[a0c,a0b,or_false]at d;rcases d with rfl|rfl|rfl<;>exact⟨rfl,fun v g=>by simp only[a0c,a0b,or_false]at g;omega⟩
  .intro r d
   simp only[a0c,a0b,or_false]at d;rcases d with rfl|rfl|rfl<;>exact⟨rfl,fun v g=>by grind⟩
  .intro v g
   simp only[a0c,a0b,or_false]at g;omega
def ad2 {n:Nat} (M:MOk n per ws ms cs) (v:Int):∃o:Fb,eA n ws.length o/\rC o/\Ck 25 [mAv n per ws ms cs,.i v] o.av:=by
 have n2:=M.n2;have n3:=M.n3;have w2:=M.w2;have w4:=M.w4;clear M;have E:=Np v 1099511627776;obtain⟨k,W⟩:∃k,k=v%1099511627776:=⟨_,rfl⟩;rw[<-W]at E;have ai:0<=k/\k<=1099511627775:=by omega
 clear W;obtain⟨t,G,ak⟩:=kY.ex (k%32) 31;obtain⟨j,z,ac⟩:=kY.ex (k/32) 1099511627776;obtain⟨e,H,al⟩:=kY.md j (n:Int);obtain⟨f,p,Y⟩:=kY.ex (k/128) 1099511627776;obtain⟨item,q,Z⟩:=kY.md f (ws.length:Int);obtain⟨d,m,V⟩:=kY.ex (k/1024) 1099511627776;obtain⟨r,A,ae⟩:=kY.ex (d%8) 7;obtain⟨loc,w,ab⟩:=kY.ex (r/7) 1;obtain⟨c,l,U⟩:=kY.ex (k/8192) 1099511627776;obtain⟨y,F,aj⟩:=kY.ex (c%24) 23;obtain⟨b,g,T⟩:=kY.ex (k/196608) 1099511627776;obtain⟨a,J,am⟩:=kY.ex (b%900) 899;obtain⟨s,B,af⟩:=kY.ex (k/7000000) 1099511627776;obtain⟨ref,u,aa⟩:=kY.ex (s%12) 11;rcases(by omega:(0<=t/\t<=7)\/(8<=t/\t<=10)\/(11<=t/\t<=11)\/(12<=t/\t<=16)\/(17<=t/\t<=18)\/(19<=t/\t<=19)\/(20<=t/\t<=20)\/(21<=t/\t<=21)\/(22<=t/\t<=22)\/(23<=t/\t<=23)\/(24<=t/\t<=24)\/(25<=t/\t<=26)\/(27<=t/\t<=28)\/(29<=t/\t<=29)\/(30<=t/\t<=30)\/(31<=t/\t<=31))with h|h|h|h|h|h|h|h|h|h|h|h|h|h|h|h
 .exact⟨.uO e item loc (1+y) a,by grind[eA],by grind[rC],cw _ (ev1 { vars:=[(2,3),(2,4),Kgv,(0,7),Kgw,(0,2),Kgw,(0,3),Kgw,(0,7),(0,1),Kgw,(0,23),Kgw,(0,899),Kgw,(0,11)],facts:=GM,defs:=Kj,lens:=KgZ,bR:=KaU } [(n:Int),(ws.length:Int),k,t,j,e,f,item,d,r,loc,c,y,b,a,s,ref] [.I per,.I v] [aA ws,bF ms,bF cs] .nil (.R k G (.Q k z (.R j H (.Q k p (.R f q (.Q k m (.R d A (.Q r w (.Q k l (.R c F (.Q k g (.R b J (.Q k B (.R s u (.nil)))))))))))))))) DL (.agg [.i 1,.v 5,.v 7,.v 10,.i 0,(.e Kgu),.v 14,.i 0,.emp]) (kc E kn)⟩
 .obtain⟨C,D,K⟩:=kY.ex ((1+y)/3) 8
  exact⟨.uU (1+C) a ref,by grind[eA],by grind[rC],cw _ (ev1 { vars:=[(2,3),(2,4),Kgv,(8,10),Kgw,(0,2),Kgw,(0,3),Kgw,(0,7),(0,1),Kgw,(0,23),Kgw,(0,899),Kgw,(0,11),(0,8)],facts:=GM,defs:=Ke,lens:=KgZ,bR:=KaU } [(n:Int),(ws.length:Int),k,t,j,e,f,item,d,r,loc,c,y,b,a,s,ref,C] [.I per,.I v] [aA ws,bF ms,bF cs] .nil (.R k G (.Q k z (.R j H (.Q k p (.R f q (.Q k m (.R d A (.Q r w (.Q k l (.R c F (.Q k g (.R b J (.Q k B (.R s u (.Q (1+y) D (.nil))))))))))))))))) DL (.agg [.i 2,.i 0,.i 0,.i 0,.i 0,Kfy,.v 14,.v 16,.emp]) (kc E kn)⟩
 .obtain⟨C,D,K⟩:=kY.ex ((1+y)/6) 4
  exact⟨.qG (1+C) ref,by grind[eA],by simp_all[rC],cw _ (ev1 { vars:=[(2,3),(2,4),Kgv,(11,11),Kgw,(0,2),Kgw,(0,3),Kgw,(0,7),(0,1),Kgw,(0,23),Kgw,(0,899),Kgw,(0,11),(0,4)],facts:=GM,defs:=[Kcf,Kcg,Kch,KbU,Kci,Kbt,KcB,Kcj,Kbd,Kbu,KaC,Kbe,Kap,Kbv,(0,Kgu,[([],6)],[([17],1)])],lens:=KgZ,bR:=KaU } [(n:Int),(ws.length:Int),k,t,j,e,f,item,d,r,loc,c,y,b,a,s,ref,C] [.I per,.I v] [aA ws,bF ms,bF cs] .nil (.R k G (.Q k z (.R j H (.Q k p (.R f q (.Q k m (.R d A (.Q r w (.Q k l (.R c F (.Q k g (.R b J (.Q k B (.R s u (.Q (1+y) D (.nil))))))))))))))))) DL (.agg [.i 3,.i 0,.i 0,.i 0,.i 0,Kfy,.i 0,.v 16,.emp]) (kc E kn)⟩
 .obtain⟨C,D,K⟩:=kY.ex ((1+y)/3) 8
  exact⟨.N4 e item loc (1+C) a,by grind[eA],by grind[rC],cw _ (ev1 { vars:=[(2,3),(2,4),Kgv,(12,16),Kgw,(0,2),Kgw,(0,3),Kgw,(0,7),(0,1),Kgw,(0,23),Kgw,(0,899),Kgw,(0,11),(0,8)],facts:=GM,defs:=Ke,lens:=KgZ,bR:=KaU } [(n:Int),(ws.length:Int),k,t,j,e,f,item,d,r,loc,c,y,b,a,s,ref,C] [.I per,.I v] [aA ws,bF ms,bF cs] .nil (.R k G (.Q k z (.R j H (.Q k p (.R f q (.Q k m (.R d A (.Q r w (.Q k l (.R c F (.Q k g (.R b J (.Q k B (.R s u (.Q (1+y) D (.nil))))))))))))))))) DL (.agg [.i 4,.v 5,.v 7,.v 10,.i 0,Kfy,.v 14,.i 0,.emp]) (kc E kn)⟩
 .obtain⟨C,D,K⟩:=kY.ex ((1+y)/8) 3
  exact⟨.take (1+C) a ref,by grind[eA],by grind[rC],cw _ (ev1 { vars:=[(2,3),(2,4),Kgv,(17,18),Kgw,(0,2),Kgw,(0,3),Kgw,(0,7),(0,1),Kgw,(0,23),Kgw,(0,899),Kgw,(0,11),(0,3)],facts:=GM,defs:=Kf,lens:=KgZ,bR:=KaU } [(n:Int),(ws.length:Int),k,t,j,e,f,item,d,r,loc,c,y,b,a,s,ref,C] [.I per,.I v] [aA ws,bF ms,bF cs] .nil (.R k G (.Q k z (.R j H (.Q k p (.R f q (.Q k m (.R d A (.Q r w (.Q k l (.R c F (.Q k g (.R b J (.Q k B (.R s u (.Q (1+y) D (.nil))))))))))))))))) DL (.agg [.i 5,.i 0,.i 0,.i 0,.i 0,Kfy,.v 14,.v 16,.emp]) (kc E kn)⟩
 .obtain⟨C,D,K⟩:=kY.ex ((1+y)/8) 3
  exact⟨.IC e item loc (1+C),by grind[eA],by simp_all[rC],cw _ (ev1 { vars:=[(2,3),(2,4),Kgv,(19,19),Kgw,(0,2),Kgw,(0,3),Kgw,(0,7),(0,1),Kgw,(0,23),Kgw,(0,899),Kgw,(0,11),(0,3)],facts:=GM,defs:=Kf,lens:=KgZ,bR:=KaU } [(n:Int),(ws.length:Int),k,t,j,e,f,item,d,r,loc,c,y,b,a,s,ref,C] [.I per,.I v] [aA ws,bF ms,bF cs] .nil (.R k G (.Q k z (.R j H (.Q k p (.R f q (.Q k m (.R d A (.Q r w (.Q k l (.R c F (.Q k g (.R b J (.Q k B (.R s u (.Q (1+y) D (.nil))))))))))))))))) DL (.agg [.i 6,.v 5,.v 7,.v 10,.i 0,Kfy,.i 0,.i 0,.emp]) (kc E kn)⟩
 .exact⟨.count e item loc y,by grind[eA],by grind[rC],cw _ (ev1 { vars:=[(2,3),(2,4),Kgv,(20,20),Kgw,(0,2),Kgw,(0,3),Kgw,(0,7),(0,1),Kgw,(0,23),Kgw,(0,899),Kgw,(0,11)],facts:=GM,defs:=Kj,lens:=KgZ,bR:=KaU } [(n:Int),(ws.length:Int),k,t,j,e,f,item,d,r,loc,c,y,b,a,s,ref] [.I per,.I v] [aA ws,bF ms,bF cs] .nil (.R k G (.Q k z (.R j H (.Q k p (.R f q (.Q k m (.R d A (.Q r w (.Q k l (.R c F (.Q k g (.R b J (.Q k B (.R s u (.nil)))))))))))))))) DL (.agg [.i 7,.v 5,.v 7,.v 10,.i 0,.v 12,.i 0,.i 0,.emp]) (kc E kn)⟩
 .obtain⟨C,D,K⟩:=kY.ex ((1+y)/3) 8
  exact⟨.move e item loc (1-loc) (1+C),by grind[eA],by grind[rC],cw _ (ev1 { vars:=[(2,3),(2,4),Kgv,(21,21),Kgw,(0,2),Kgw,(0,3),Kgw,(0,7),(0,1),Kgw,(0,23),Kgw,(0,899),Kgw,(0,11),(0,8)],facts:=GM,defs:=Ke,lens:=KgZ,bR:=KaU } [(n:Int),(ws.length:Int),k,t,j,e,f,item,d,r,loc,c,y,b,a,s,ref,C] [.I per,.I v] [aA ws,bF ms,bF cs] .nil (.R k G (.Q k z (.R j H (.Q k p (.R f q (.Q k m (.R d A (.Q r w (.Q k l (.R c F (.Q k g (.R b J (.Q k B (.R s u (.Q (1+y) D (.nil))))))))))))))))) DL (.agg [.i 8,.v 5,.v 7,.v 10,(.e [([],1),([10],(-1))]),Kfy,.i 0,.i 0,.emp]) (kc E kn)⟩
 .obtain⟨a2,L,P⟩:=kY.ex (a%60) 59
  exact⟨.uM e item a2,by grind[eA],by grind[rC],cw _ (ev1 { vars:=[(2,3),(2,4),Kgv,(22,22),Kgw,(0,2),Kgw,(0,3),Kgw,(0,7),(0,1),Kgw,(0,23),Kgw,(0,899),Kgw,(0,11),(0,59)],facts:=GM,defs:=Kg,lens:=KgZ,bR:=KaU } [(n:Int),(ws.length:Int),k,t,j,e,f,item,d,r,loc,c,y,b,a,s,ref,a2] [.I per,.I v] [aA ws,bF ms,bF cs] .nil (.R k G (.Q k z (.R j H (.Q k p (.R f q (.Q k m (.R d A (.Q r w (.Q k l (.R c F (.Q k g (.R b J (.Q k B (.R s u (.R a L (.nil))))))))))))))))) DL (.agg [.i 9,.v 5,.v 7,.i 0,.i 0,.i 0,.v 17,.i 0,.emp]) (kc E kn)⟩
 .obtain⟨a2,L,P⟩:=kY.ex (a%60) 59
  exact⟨.sV e item a2,by grind[eA],by simp_all[rC],cw _ (ev1 { vars:=[(2,3),(2,4),Kgv,(23,23),Kgw,(0,2),Kgw,(0,3),Kgw,(0,7),(0,1),Kgw,(0,23),Kgw,(0,899),Kgw,(0,11),(0,59)],facts:=GM,defs:=Kg,lens:=KgZ,bR:=KaU } [(n:Int),(ws.length:Int),k,t,j,e,f,item,d,r,loc,c,y,b,a,s,ref,a2] [.I per,.I v] [aA ws,bF ms,bF cs] .nil (.R k G (.Q k z (.R j H (.Q k p (.R f q (.Q k m (.R d A (.Q r w (.Q k l (.R c F (.Q k g (.R b J (.Q k B (.R s u (.R a L (.nil))))))))))))))))) DL (.agg [.i 10,.v 5,.v 7,.i 0,.i 0,.i 0,.v 17,.i 0,.emp]) (kc E kn)⟩
 .obtain⟨N,O,X⟩:=kY.ex ((1+ref)%12) 11
  obtain⟨a2,L,P⟩:=kY.ex (a%3) 2;rcases(by omega:(1+y)%3=0\/(1+y)%3=1\/(1+y)%3=2)with hs|hs|hs
  .have hs:kY 0 ((1+y)%3):=hs.symm
   exact⟨.land a2 a [ref],⟨⟨by omega,by omega⟩,⟨by omega,by omega⟩,.inl ⟨ref,rfl,by omega,by omega⟩⟩,by grind[rC],cw _ (ev1 { vars:=K9,facts:=GM,defs:=[Kcf,Kcg,Kch,KbU,Kci,Kbt,KcB,Kcj,Kbd,Kbu,KaC,Kbe,Kap,Kbv,(1,Kgu,[([],3)],[]),BF,KbV],lens:=KgZ,bR:=KaU } [(n:Int),(ws.length:Int),k,t,j,e,f,item,d,r,loc,c,y,b,a,s,ref,N,a2] [.I per,.I v] [aA ws,bF ms,bF cs] .nil (.R k G (.Q k z (.R j H (.Q k p (.R f q (.Q k m (.R d A (.Q r w (.Q k l (.R c F (.Q k g (.R b J (.Q k B (.R s u (.R (1+y) hs (.R (1+ref) O (.R a L (.nil))))))))))))))))))) DL (.agg [.i 11,.i 0,.i 0,.i 0,.v 18,.i 0,.v 14,.i 0,(.lit 1 [[.v 16]])]) (kc E kn)⟩
  .have hs:kY 1 ((1+y)%3):=hs.symm
   have ag:N≠ref:=(by grind[kY]);exact⟨.land a2 a [ref,N],⟨⟨by omega,by omega⟩,⟨by omega,by omega⟩,.inr (.inl ⟨ref,N,rfl,⟨by omega,by omega⟩,⟨by omega,by omega⟩,by omega⟩)⟩,by grind[rC],cw _ (ev1 { vars:=K9,facts:=GM,defs:=[Kcf,Kcg,Kch,KbU,Kci,Kbt,KcB,Kcj,Kbd,Kbu,KaC,Kbe,Kap,Kbv,(1,Kgu,[([],3)],[([],1)]),BF,KbV],lens:=KgZ,bR:=KaU } [(n:Int),(ws.length:Int),k,t,j,e,f,item,d,r,loc,c,y,b,a,s,ref,N,a2] [.I per,.I v] [aA ws,bF ms,bF cs] .nil (.R k G (.Q k z (.R j H (.Q k p (.R f q (.Q k m (.R d A (.Q r w (.Q k l (.R c F (.Q k g (.R b J (.Q k B (.R s u (.R (1+y) hs (.R (1+ref) O (.R a L (.nil))))))))))))))))))) DL (.agg [.i 11,.i 0,.i 0,.i 0,.v 18,.i 0,.v 14,.i 0,(.lit 1 [[.v 16],[.v 17]])]) (kc E kn)⟩
  .have hs:kY 2 ((1+y)%3):=hs.symm
   exact⟨.land a2 a [0,1+ref,2+ref],⟨⟨by omega,by omega⟩,⟨by omega,by omega⟩,.inr (.inr ⟨0,1+ref,2+ref,rfl,⟨by omega,by omega⟩,⟨by omega,by omega⟩,⟨by omega,by omega⟩,by omega,by omega⟩)⟩,by grind[rC],cw _ (ev1 { vars:=K9,facts:=GM,defs:=[Kcf,Kcg,Kch,KbU,Kci,Kbt,KcB,Kcj,Kbd,Kbu,KaC,Kbe,Kap,Kbv,(1,Kgu,[([],3)],[([],2)]),BF,KbV],lens:=KgZ,bR:=KaU } [(n:Int),(ws.length:Int),k,t,j,e,f,item,d,r,loc,c,y,b,a,s,ref,N,a2] [.I per,.I v] [aA ws,bF ms,bF cs] .nil (.R k G (.Q k z (.R j H (.Q k p (.R f q (.Q k m (.R d A (.Q r w (.Q k l (.R c F (.Q k g (.R b J (.Q k B (.R s u (.R (1+y) hs (.R (1+ref) O (.R a L (.nil))))))))))))))))))) DL (.agg [.i 11,.i 0,.i 0,.i 0,.v 18,.i 0,.v 14,.i 0,(.lit 1 [[.i 0],KeL,[(.e [([],2),([16],1)])]])]) (kc E kn)⟩
 .obtain⟨C,D,K⟩:=kY.ex ((1+y)/3) 8
  obtain⟨a2,L,P⟩:∃x,kY x (a%(-1+(n:Int)))/\0<=x/\x < -1+(n:Int):=⟨_,.mk _,a2d _ (by omega),a24 _ (by omega)⟩;obtain⟨dst,S,ad⟩:=kY.md (1+e+a2) (n:Int)
  have ah:dst≠e:=by
   unfold kY at S;rcases(by omega:n=2\/n=3)with rfl|rfl<;>omega
  exact⟨.S7 e item loc dst (1+C) a,by grind[eA],by grind[rC],cw _ (ev1 { vars:=[(2,3),(2,4),Kgv,(25,26),Kgw,(0,2),Kgw,(0,3),Kgw,(0,7),(0,1),Kgw,(0,23),Kgw,(0,899),Kgw,(0,11),(0,8),(0,1),(0,2)],facts:=GM,defs:=[Kcf,Kcg,Kch,KbU,Kci,Kbt,KcB,Kcj,Kbd,Kbu,KaC,Kbe,Kap,Kbv,BZ,(1,[([14],1)],[([],-1),([0],1)],[([18],1)]),(1,[([],1),([5],1),([18],1)],[([0],1)],[([19],1)])],lens:=KgZ,bR:=KaU } [(n:Int),(ws.length:Int),k,t,j,e,f,item,d,r,loc,c,y,b,a,s,ref,C,a2,dst] [.I per,.I v] [aA ws,bF ms,bF cs] .nil (.R k G (.Q k z (.R j H (.Q k p (.R f q (.Q k m (.R d A (.Q r w (.Q k l (.R c F (.Q k g (.R b J (.Q k B (.R s u (.Q (1+y) D (.R a L (.R (1+e+a2) S (.nil))))))))))))))))))) DL (.agg [.i 12,.v 5,.v 7,.v 10,.v 19,Kfy,.v 14,.i 0,.emp]) (kc E kn)⟩
 .obtain⟨C,D,K⟩:=kY.ex ((1+y)/4) 6
  exact⟨.zV loc (1+C) ref,by grind[eA],by grind[rC],cw _ (ev1 { vars:=[(2,3),(2,4),Kgv,(27,28),Kgw,(0,2),Kgw,(0,3),Kgw,(0,7),(0,1),Kgw,(0,23),Kgw,(0,899),Kgw,(0,11),(0,6)],facts:=GM,defs:=[Kcf,Kcg,Kch,KbU,Kci,Kbt,KcB,Kcj,Kbd,Kbu,KaC,Kbe,Kap,Kbv,(0,Kgu,[([],4)],[([17],1)])],lens:=KgZ,bR:=KaU } [(n:Int),(ws.length:Int),k,t,j,e,f,item,d,r,loc,c,y,b,a,s,ref,C] [.I per,.I v] [aA ws,bF ms,bF cs] .nil (.R k G (.Q k z (.R j H (.Q k p (.R f q (.Q k m (.R d A (.Q r w (.Q k l (.R c F (.Q k g (.R b J (.Q k B (.R s u (.Q (1+y) D (.nil))))))))))))))))) DL (.agg [.i 13,.i 0,.i 0,.v 10,.i 0,Kfy,.i 0,.v 16,.emp]) (kc E kn)⟩
 .exact⟨.close e,by grind[eA],by simp_all[rC],cw _ (ev1 { vars:=[(2,3),(2,4),Kgv,(29,29),Kgw,(0,2),Kgw,(0,3),Kgw,(0,7),(0,1),Kgw,(0,23),Kgw,(0,899),Kgw,(0,11)],facts:=GM,defs:=Kj,lens:=KgZ,bR:=KaU } [(n:Int),(ws.length:Int),k,t,j,e,f,item,d,r,loc,c,y,b,a,s,ref] [.I per,.I v] [aA ws,bF ms,bF cs] .nil (.R k G (.Q k z (.R j H (.Q k p (.R f q (.Q k m (.R d A (.Q r w (.Q k l (.R c F (.Q k g (.R b J (.Q k B (.R s u (.nil)))))))))))))))) DL (.agg [.i 14,.v 5,.i 0,.i 0,.i 0,.i 0,.i 0,.i 0,.emp]) (kc E kn)⟩
 .exact⟨.yU e,by grind[eA],by simp_all[rC],cw _ (ev1 { vars:=[(2,3),(2,4),Kgv,(30,30),Kgw,(0,2),Kgw,(0,3),Kgw,(0,7),(0,1),Kgw,(0,23),Kgw,(0,899),Kgw,(0,11)],facts:=GM,defs:=Kj,lens:=KgZ,bR:=KaU } [(n:Int),(ws.length:Int),k,t,j,e,f,item,d,r,loc,c,y,b,a,s,ref] [.I per,.I v] [aA ws,bF ms,bF cs] .nil (.R k G (.Q k z (.R j H (.Q k p (.R f q (.Q k m (.R d A (.Q r w (.Q k l (.R c F (.Q k g (.R b J (.Q k B (.R s u (.nil)))))))))))))))) DL (.agg [.i 15,.v 5,.i 0,.i 0,.i 0,.i 0,.i 0,.i 0,.emp]) (kc E kn)⟩
 .exact⟨.next e,by grind[eA],by simp_all[rC],cw _ (ev1 { vars:=[(2,3),(2,4),Kgv,(31,31),Kgw,(0,2),Kgw,(0,3),Kgw,(0,7),(0,1),Kgw,(0,23),Kgw,(0,899),Kgw,(0,11)],facts:=GM,defs:=Kj,lens:=KgZ,bR:=KaU } [(n:Int),(ws.length:Int),k,t,j,e,f,item,d,r,loc,c,y,b,a,s,ref] [.I per,.I v] [aA ws,bF ms,bF cs] .nil (.R k G (.Q k z (.R j H (.Q k p (.R f q (.Q k m (.R d A (.Q r w (.Q k l (.R c F (.Q k g (.R b J (.Q k B (.R s u (.nil)))))))))))))))) DL (.agg [.i 16,.v 5,.i 0,.i 0,.i 0,.i 0,.i 0,.i 0,.emp]) (kc E kn)⟩
inductive Reach (n:Nat) (per:Int) (ws:List Int) (ms cs:List (List Int)):Nat->bK->Prop
 |start:Reach n per ws ms cs 0 (iF n per ws ms cs)
 |step {k:Nat} {S:bK} {o:Fb} (h:Reach n per ws ms cs k S) (ok:eA n ws.length o) (sm:rC o):Reach n per ws ms cs (k+1) (pH S o).1
structure RS (n:Nat) (per:Int) (ws:List Int) (ms:List (List Int)) (k:Nat) (S:bK):Prop where
 gn:Gn S
 le:S.aD.length=n
 wt:S.weights=ws
 pe:S.bT=per
 en:S.bU=n
 me:S.methods=ms
 dn:S.done<=k
def RS.step {n:Nat} {per:Int} {ws:List Int} {ms cs:List (List Int)} (M:MOk n per ws ms cs) {k:Nat} {S:bK} (h:RS n per ws ms k S) (e:k<=900000) {o:Fb} (ok:eA n ws.length o) :
  Ck 16 [S.av,o.av] (.bG [(pH S o).1.av,.i (pH S o).2])/\RS n per ws ms (k+1) (pH S o).1:=by
 obtain⟨G,d,a,pe,en,b,f⟩:=h;obtain⟨c,s⟩:=an2 (S:=S) G (by omega) (by rw[a];exact M.wr) (by rw[a];have:=M.w2;omega) (by rw[pe];have:=M.p;omega) (o:=o) (by simp_all);exact⟨c,s.gn,s.le.trans d,s.wt.trans a,s.pe.trans pe,s.en.trans en,s.me.trans b,by have:=s.dn;omega⟩
def RS.start {n:Nat} (M:MOk n per ws ms cs):RS n per ws ms 0 (iF n per ws ms cs) :=
 ⟨afZ M,by simp[iF],rfl,rfl,rfl,rfl,by simp[iF]⟩
def Reach.rs {n:Nat} (M:MOk n per ws ms cs) {k:Nat} {S:bK} (h:Reach n per ws ms cs k S) (c:k<=900000):RS n per ws ms k S:=by
 induction h with
 |start=>exact .start M
 |step h ok b a=>exact((a (by omega)).step M (by omega) ok).2
def Fb.row (o:Fb):List AV:=match o.av with | .agg l=>l|_=>[]
def Fb.aci (o:Fb):o.av=.agg o.row:=by cases o<;>rfl
def nF (l:List Fb):List (List AV):=l.map Fb.row
@[simp] theorem ao3 (l:List Fb):(nF l).length=l.length:=by simp[nF]
def aiU (o:Fb):∀x∈o.row,Cl x:=by
 have h:=aiV o;rw[o.aci]at h;cases h<;>simp_all
instance (l:List Fb):lU (nF l):=⟨qU.map (fun o x a=>aiU o x a) l⟩
def ago (o:Fb):∃j h g f e d c b:Int,o.row=[.i j,.i h,.i g,.i f,.i e,.i d,.i c,.i b,.emp]\/∃refs,o.row=[.i j,.i h,.i g,.i f,.i e,.i d,.i c,.i b,.lit 1 (aA refs)]:=by
 cases o with
 |land dst a refs=>exact⟨_,_,_,_,_,_,_,_,.inr ⟨refs,rfl⟩⟩
 |_=>exact⟨_,_,_,_,_,_,_,_,.inl rfl⟩
namespace NS
abbrev oF (l o i:AV):List AV:=fr 27 [(1,l),(2,.ptr 5 0 0 0),(4,.emp),(5,o),(6,i)]
abbrev sF (o i:AV):List AV:=fr 33 [(2,.ptr 5 0 0 0),(4,.ptr 10 1 0 0),(5,.ptr 10 2 0 0),(6,.i 0),(7,o),(8,i)]
abbrev mB (n per:Int) (ws:List Int) (ms cs:List (List Int)):Mc.dC:=.cells 25 5 [[.i n,.i per,.lit 1 (aA ws),.lit 1 (bF ms),.lit 1 (bF cs)]]
abbrev oO (n:Nat):AV:=.own 50 9 1 0 n
abbrev oB (l:List Fb):Mc.dC:=.cells 50 9 (nF l)
abbrev sB (S:bK):Mc.dC:=.cells 31 10 [[.i S.bU,.i S.bT,.lit 1 (aA S.weights),.lit 1 (bF S.methods),.lit 1 (bF S.cI),.lit 8 (bD S.aD),.lit 8 (hH S.bB),.lit 9 (dX S.aN),.lit 6 (fM S.aH),.i S.done]]
abbrev zB:Mc.dC:=.cells 31 10 H4
namespace O
noncomputable def body:Code:=(Tryz.f32).body.getD .skip
abbrev al1 (c:Code) (r:Option (RT Out)):Prop:=nV { vars:=Kep,lens:=Kg1 } c (Dp++List.replicate 25 .undef) [] [some 0,none] (oF (.q 1 3) (.own 50 9 1 0 0) (.i 0)) [Dq,(.cells 50 9 [])] r
noncomputable def alO:Option (RT Out):=uL { vars:=Kep,lens:=Kg1 } body (Dp++List.replicate 25 .undef:List AV).length (Dp++List.replicate 25 .undef) [] 0
def aoC:al1 body alO:=⟨rfl,by decide +kernel,by decide +kernel⟩
end O
namespace S
noncomputable def body:Code:=(Tryz.f10).body.getD .skip
abbrev alV (c:Code) (r:Option (RT Out)):Prop:=nV { vars:=Kep,lens:=Kg1,bR:=K7 } c (Dp++List.replicate 31 .undef) [] [some 0,some 1,some 2] (sF (.q 9 5) (.i 0)) [Dq,V3,(.cells 31 10 [YS])] r
noncomputable def alJ:Option (RT Out):=uL { vars:=Kep,lens:=Kg1,bR:=K7 } body (Dp++List.replicate 31 .undef:List AV).length (Dp++List.replicate 31 .undef) [] 0
def aow:alV body alJ:=⟨rfl,by decide +kernel,by decide +kernel⟩
end S
noncomputable abbrev fO:Func:=Tryz.f32
open O S
section
variable {n':Nat} {per:Int} {ws:List Int} {ms cs:List (List Int)}
def ahx (M:MOk n' per ws ms cs) (f:Int->Fb) (F:∀v,(eA n' ws.length (f v)/\rC (f v))/\Ck 25 [mAv n' per ws ms cs,.i v] (f v).av)
  (l:List Int) (S:l.length<=9223372036854775807) (oA:Option (RT Out)) (K:al1 O.body oA) (J:dD { vars:=Kck,facts:=Ba,lens:=Kdg,gI:=[(3,[([1],1)],[.o 2])],bR:=[(25,DM,(.agg DA))] } (aW oA) (oF (.q 1 3) KeP (.v 1)) Y9 0 [some 0,some 3] (oF (.q 1 3) (.cZ 50 9 1 KgB) Kfz) [Dq,(.sc 50 9 4 [] [DA] KgB)]) (H:dD { vars:=Kck,facts:=Ba,lens:=Kdg,gI:=[(3,[([1],1)],[.o 2])],bR:=[(25,DM,(.agg Db))] } (aW oA) (oF (.q 1 3) KeP (.v 1)) Y9 0 [some 0,some 3] (oF (.q 1 3) (.cZ 50 9 1 KgB) Kfz) [Dq,(.sc 50 9 4 [] [Db] KgB)]) (r1:dD { vars:=Kcl,facts:=[(Kgc,0,0)],lens:=Kdg } (aW oA) (oF (.q 1 3) KeP (.v 1)) Y9 2 [some 0,some 1] (oF (.q 1 3) KeP (.v 1)) Y9) (r2:dD { vars:=[Ke8,(120,120)],facts:=Ba,lens:=Kdg } (aW oA) (oF (.q 1 3) KeP (.v 1)) Y9 2 [some 0,some 1] (oF (.q 1 3) KeP (.v 1)) Y9) (G:iU { vars:=Kcl,lens:=Kdg } Tryz.f32 oA 0 (oF (.q 1 3) KeP (.v 1)) Y9 ((.q 9 4))) :
  Ck 32 [mAv n' per ws ms cs,.lit 1 (aA l)] (.lit 9 (nF ((l.take 120).map f))):=by
 obtain⟨n,N⟩:∃n:Int,n=n':=⟨_,rfl⟩;rw[<-N]at F |-;refine CK.fP Tryz.func32 (c:=O.body) (by kernel_rfl) (yO.out) (uD.out) fun A w0 a0=>?_
 intro mm w aa b;rw[Tryz.ntmps32]at b;refine K.go (ev1 _ [(l.length:Int)] [.I n,.I per] [aA ws,bF ms,bF cs,aA l] .nil) (xK kn) b (fd:=oF (.lit 1 (aA l)) (oO 0) (.i 0)) (bd:=[mB n per ws ms cs,oB []]) ?_;intro mm w aa b;refine cN (fun k Q w=>∃(j:Nat),k=l.length-j/\j<=l.length/\j<=120/\∃mm,@dZ dK dN A w0 a0 mm w Q (oF (.lit 1 (aA l)) (oO j) (.i (j:Int))) (eB [mB n per ws ms cs,oB ((l.take j).map f)])) ?_ (n:=l.length) ⟨0,rfl,a0j _,by omega,_,b⟩;rintro k aa w ⟨j,rfl,U,T,mm,b⟩;have D:((l.take j).map f).length=j:=by simp_all
 by_cases L:j<l.length/\j<120
 .obtain⟨v,R⟩:∃v,l[j]?=some v:=⟨_,a0d L.1⟩
  have E:l[(j:Int).toNat]?=some v:=by simp_all
  obtain⟨-,p⟩:=F v;have nx:∀mm w a,@dZ dK dN A w0 a0 mm w a (oF (.lit 1 (aA l)) (oO (1+(j:Int)).toNat) (.i (1+(j:Int)))) (eB [mB n per ws ms cs,.cells 50 9 (nF ((l.take j).map f)++[(f v).row])])->∃n',n'<l.length-j/\∃(m:Nat),n'=l.length-m/\m<=l.length/\m<=120/\∃mm,@dZ dK dN A w0 a0 mm w a (oF (.lit 1 (aA l)) (oO m) (.i (m:Int))) (eB [mB n per ws ms cs,oB ((l.take m).map f)]):=by
   intro mm w a b;have e:nF ((l.take j).map f)++[(f v).row]=nF ((l.take (j+1)).map f):=by
    simp_all[a0n,nF]
   rw[e,show(1+(j:Int)).toNat=j+1 by omega,show(1+(j:Int))=((j+1:Nat):Int)by omega]at b;exact⟨_,by omega,j+1,rfl,by omega,by omega,mm,b⟩
  rw[(f v).aci]at p;obtain⟨B,z,y,x,u,t,s,r,C|⟨refs,C⟩⟩:=ago (f v)
  .rw[C]at p nx
   generalize (l.take j).map f=g at *;refine J.go (ev1 _ [(l.length:Int),(j:Int)] [.I n,.I per,.I v,.I B,.I z,.I y,.I x,.I u,.I t,.I s,.I r] [aA ws,bF ms,bF cs,aA l,nF g] (.d (aI E) .nil)) (xK (kc p kn)) b (fd:=oF (.lit 1 (aA l)) (oO (1+(j:Int)).toNat) (.i (1+(j:Int)))) (bd:=[mB n per ws ms cs,.cells 50 9 (nF g++[[.i B,.i z,.i y,.i x,.i u,.i t,.i s,.i r,.emp]])]) ?_;exact nx
  .rw[C]at p nx
   generalize (l.take j).map f=g at *;refine H.go (ev1 _ [(l.length:Int),(j:Int)] [.I n,.I per,.I v,.I B,.I z,.I y,.I x,.I u,.I t,.I s,.I r] [aA ws,bF ms,bF cs,aA l,nF g,aA refs] (.d (aI E) .nil)) (xK (kc p kn)) b (fd:=oF (.lit 1 (aA l)) (oO (1+(j:Int)).toNat) (.i (1+(j:Int)))) (bd:=[mB n per ws ms cs,.cells 50 9 (nF g++[[.i B,.i z,.i y,.i x,.i u,.i t,.i s,.i r,.lit 1 (aA refs)]])]) ?_;exact nx
 .have P:l.take j=l.take 120:=by
   grind
  rw[P]at b D;generalize (l.take 120).map f=g at *
  have fin:∀mm w aa,@dZ dK dN A w0 a0 mm w aa (oF (.lit 1 (aA l)) (oO j) (.i (j:Int))) (eB [mB n per ws ms cs,oB g])->KS Tryz.prog (oK oA) (Fin Tryz.prog fO A w0 a0 (.lit 9 (nF g))) (AX.exit 0).to aa w:=by
   intro mm w aa b;exact G.go (ev1 _ [(l.length:Int),(j:Int)] [.I n,.I per] [aA ws,bF ms,bF cs,aA l,nF g] .nil) (xK kn) b
  rcases(by omega:j=l.length\/(j=120/\j<l.length))with h|⟨h,V⟩
  .refine r1.go (ev1 _ [(l.length:Int),(j:Int)] [.I n,.I per] [aA ws,bF ms,bF cs,aA l,nF g] .nil) (xK kn) b (fd:=oF (.lit 1 (aA l)) (oO j) (.i (j:Int))) (bd:=[mB n per ws ms cs,oB g]) ?_
   exact fin
  .refine r2.go (ev1 _ [(l.length:Int),(j:Int)] [.I n,.I per] [aA ws,bF ms,bF cs,aA l,nF g] .nil) (xK kn) b (fd:=oF (.lit 1 (aA l)) (oO j) (.i (j:Int))) (bd:=[mB n per ws ms cs,oB g]) ?_
   exact fin
def aaF (M:MOk n' per ws ms cs) (b:List Fb) (p:∀o∈b,eA n' ws.length o/\rC o) (ab:b.length<=120) (l:List Int) (ac:l.length<=9223372036854775807) (G:Ck 32 [mAv n' per ws ms cs,.lit 1 (aA l)] (.lit 9 (nF b)))
  (oA:Option (RT Out)) (rA:alV S.body oA) (re:dD { vars:=[(0,120),(0,119)],facts:=[(Kgc,1,120)],lens:=Kg1,gI:=[(3,[([1],1)],Dc)],bR:=[(16,[Vz,(.agg Dc)],(.bG [(.agg U9),.o 16]))] } (aW oA) (sF (.q 9 3) (.v 1)) Jb 0 [some 0,some 1,some 2] (sF (.q 9 3) Kfz) [Dq,V3,(.cells 31 10 [U9])]) (rl:dD { vars:=[(0,120),(0,119)],facts:=[(Kgc,1,120)],lens:=Kg1,gI:=[(3,[([1],1)],Gw)],bR:=[(16,[Vz,(.agg Gw)],(.bG [(.agg Va),.o 16]))] } (aW oA) (sF (.q 9 3) (.v 1)) Jb 0 [some 0,some 1,some 2] (sF (.q 9 3) Kfz) [Dq,V3,(.cells 31 10 [Va])]) (rx:dD { vars:=[(0,120)],lens:=Kg1 } (aW oA) (sF (.q 9 3) (.v 0)) Jb 2 [some 0,some 1,some 2] (sF (.q 9 3) (.v 0)) Jb) (rr:iU { vars:=[(0,120)],lens:=Kg1 } Tryz.f10 oA 0 (sF (.q 9 3) (.v 0)) Jb (Vz)) :
  ∃T,Reach n' per ws ms cs b.length T/\Ck 10 [mAv n' per ws ms cs,.lit 1 (aA l)] T.av:=by
 have go:∀j,j<=b.length->∃T,Reach n' per ws ms cs j T/\T=(b.take j).foldl (fun S o=>(pH S o).1) (iF n' per ws ms cs):=by
  intro j;induction j with
  |zero=>intro _;exact⟨_,.start,rfl⟩
  |succ j ih =>
   intro hj;obtain⟨T,r,e⟩:=ih (by omega);obtain⟨o,s⟩:∃o,b[j]?=some o:=⟨_,a0d (by omega)⟩;refine⟨_,.step r (p o (a0a s)).1 (p o (a0a s)).2,?_⟩
   simp_all[a0n]
 obtain⟨z,r0,e0⟩:=go b.length (a0h _);refine⟨z,r0,?_⟩;rw[a04]at e0;have y:=XM M;obtain⟨n,F⟩:∃n:Int,n=n':=⟨_,rfl⟩;rw[<-F]at G y |-;have D:(iF n' per ws ms cs).av=.agg [.i n,.i per,.lit 1 (aA ws),.lit 1 (bF ms),.lit 1 (bF cs),.lit 8 (bD (iF n' per ws ms cs).aD),.lit 8 [],.lit 9 [],.lit 6 [],.i 0]:=by rw[F];rfl
 rw[D]at y;have H:sB (iF n' per ws ms cs)=.cells 31 10 [[.i n,.i per,.lit 1 (aA ws),.lit 1 (bF ms),.lit 1 (bF cs),.lit 8 (bD (iF n' per ws ms cs).aD),.lit 8 [],.lit 9 [],.lit 6 [],.i 0]]:=by rw[F];rfl
 refine CK.fP Tryz.func10 (c:=S.body) (by kernel_rfl) (yO.out) (uD.out) fun A w0 a0=>?_;intro mm w aa g;rw[Tryz.ntmps10]at g;obtain⟨B,E⟩:∃B,B=(iF n' per ws ms cs).aD:=⟨_,rfl⟩;rw[<-E]at y H;refine rA.go (ev1 _ [(l.length:Int)] [.I n,.I per] [aA ws,bF ms,bF cs,aA l,bD B,nF b] .nil) (xK (kc y (kc G kn))) g (fd:=sF (.lit 9 (nF b)) (.i 0)) (bd:=[mB n per ws ms cs,zB,.cells 31 10 [[.i n,.i per,.lit 1 (aA ws),.lit 1 (bF ms),.lit 1 (bF cs),.lit 8 (bD B),.lit 8 [],.lit 9 [],.lit 6 [],.i 0]]]) ?_;intro mm w aa g;rw[<-H]at g;clear y D G E H;refine cN (fun k a' w=>∃(j:Nat) (T:bK),k=b.length-j/\j<=b.length/\Reach n' per ws ms cs j T/\z=(b.drop j).foldl (fun S o=>(pH S o).1) T/\∃mm,@dZ dK dN A w0 a0 mm w a' (sF (.lit 9 (nF b)) (.i (j:Int))) (eB [mB n per ws ms cs,zB,sB T])) ?_ (n:=b.length) ⟨0,_,rfl,a0j _,.start,e0,_,g⟩;rintro k aa w ⟨j,T,rfl,hj,Z,m,mm,g⟩;rcases(by omega:j=b.length\/j<b.length)with rfl|W
 .rw[a3e]at m
  have m:T=z:=m.symm;subst m;refine rx.go (ev1 _ [(b.length:Int)] [.I n,.I per,.I T.bU,.I T.bT,.I T.done] [aA ws,bF ms,bF cs,nF b,aA T.weights,bF T.methods,bF T.cI,bD T.aD,hH T.bB,dX T.aN,fM T.aH] .nil) (xK kn) g (fd:=sF (.lit 9 (nF b)) (.i (b.length:Int))) (bd:=[mB n per ws ms cs,zB,sB T]) ?_;intro mm w aa g;exact rr.go (ev1 _ [(b.length:Int)] [.I n,.I per,.I T.bU,.I T.bT,.I T.done] [aA ws,bF ms,bF cs,nF b,aA T.weights,bF T.methods,bF T.cI,bD T.aD,hH T.bB,dX T.aN,fM T.aH] .nil) (xK kn) g
 .obtain⟨o,s⟩:∃o,b[j]?=some o:=⟨_,a0d W⟩
  have x:=p o (a0a s);have X:b.drop j=o::b.drop (j+1):=by grind[List.getElem_cons_drop]
  rw[X,a25]at m;obtain⟨t,-⟩:=(Z.rs M (by omega)).step M (by omega) x.1
  have Y:=Reach.step Z x.1 x.2;have nx:∀mm w a,@dZ dK dN A w0 a0 mm w a (sF (.lit 9 (nF b)) (.i (1+(j:Int)))) (eB [mB n per ws ms cs,zB,sB (pH T o).1])->∃C,C<b.length-j/\∃(u:Nat) (J:bK),C=b.length-u/\u<=b.length/\Reach n' per ws ms cs u J/\z=(b.drop u).foldl (fun S o=>(pH S o).1) J/\∃mm,@dZ dK dN A w0 a0 mm w a (sF (.lit 9 (nF b)) (.i (u:Int))) (eB [mB n per ws ms cs,zB,sB J]):=by
   intro mm w a g;rw[show(1+(j:Int))=((j+1:Nat):Int)by omega]at g;exact⟨_,by omega,j+1,_,rfl,by omega,Y,m,mm,g⟩
  have p:(nF b)[(j:Int).toNat]?=some o.row:=by simp_all[nF]
  rw[o.aci]at t;generalize pH T o=r at *;obtain⟨U,f⟩:=r;dsimp only at t nx;obtain⟨V,R,Q,P,O,N,L,K,h|⟨refs,h⟩⟩:=ago o
  .rw[h]at p t
   refine re.go (ev1 _ [(b.length:Int),(j:Int)] [.I n,.I per,.I T.bU,.I T.bT,.I T.done,.I V,.I R,.I Q,.I P,.I O,.I N,.I L,.I K,.I U.bU,.I U.bT,.I U.done,.I f] [aA ws,bF ms,bF cs,nF b,aA T.weights,bF T.methods,bF T.cI,bD T.aD,hH T.bB,dX T.aN,fM T.aH,aA U.weights,bF U.methods,bF U.cI,bD U.aD,hH U.bB,dX U.aN,fM U.aH] (.d (rH (lW _ _) p) .nil)) (xK (kc t kn)) g (fd:=sF (.lit 9 (nF b)) (.i (1+(j:Int)))) (bd:=[mB n per ws ms cs,zB,sB U]) ?_;exact nx
  .rw[h]at p t
   refine rl.go (ev1 _ [(b.length:Int),(j:Int)] [.I n,.I per,.I T.bU,.I T.bT,.I T.done,.I V,.I R,.I Q,.I P,.I O,.I N,.I L,.I K,.I U.bU,.I U.bT,.I U.done,.I f] [aA ws,bF ms,bF cs,nF b,aA T.weights,bF T.methods,bF T.cI,bD T.aD,hH T.bB,dX T.aN,fM T.aH,aA refs,aA U.weights,bF U.methods,bF U.cI,bD U.aD,hH U.bB,dX U.aN,fM U.aH] (.d (rH (lW _ _) p) .nil)) (xK (kc t kn)) g (fd:=sF (.lit 9 (nF b)) (.i (1+(j:Int)))) (bd:=[mB n per ws ms cs,zB,sB U]) ?_;exact nx
end
end NS
def XO {n:Nat} (M:MOk n per ws ms cs) (l:List Int) (b:l.length<=9223372036854775807) :
  ∃k T,(k<=120/\k<=l.length)/\Reach n per ws ms cs k T/\RS n per ws ms k T/\Ck 10 [mAv n per ws ms cs,.lit 1 (aA l)] T.av:=by
 obtain⟨f,d⟩:∃f:Int->Fb,∀v,(eA n ws.length (f v)/\rC (f v))/\Ck 25 [mAv n per ws ms cs,.i v] (f v).av:=⟨fun v=>(ad2 M v).choose,fun v=>⟨⟨(ad2 M v).choose_spec.1,(ad2 M v).choose_spec.2.1⟩,(ad2 M v).choose_spec.2.2⟩⟩;have e:=NS.ahx M f d l b NS.O.alO NS.O.aoC .of .of .of .of .of;have a:((l.take 120).map f).length<=120:=by grind
 obtain⟨T,r,c⟩:=NS.aaF M ((l.take 120).map f) (fun o g=>by grind) a l b e NS.S.alJ NS.S.aow .of .of .of .of;exact⟨_,T,⟨a,by grind⟩,r,r.rs M (by omega),c⟩
end
section
open Mc
variable {S:bK}
def kI (S:bK):Nat->bK
 |0=>S
 |j+1=>(jY (kI S j) (j:Int)).1
namespace CD
abbrev dF (i:AV):List AV:=fr 18 [(1,.ptr 10 0 0 0),(2,.ptr 10 1 0 0),(3,i)]
abbrev dB (S:bK):List Mc.dC:=[GO.sR S,.cells 31 10 H4]
noncomputable def body:Code:=(Tryz.f9).body.getD .skip
abbrev amL (c:Code) (r:Option (RT Out)):Prop:=nV { vars:=[(0,4)],lens:=KgN } c (Kfv++List.replicate 17 .undef) [] [some 0,some 1] (dF (.i 0)) JA r
noncomputable def agj:Option (RT Out):=uL { vars:=[(0,4)],lens:=KgN } body (Kfv++List.replicate 17 .undef:List AV).length (Kfv++List.replicate 17 .undef) [] 0
def aoW:amL body agj:=⟨by unfold agj;rfl,by decide +kernel,by decide +kernel⟩
abbrev amK (c:Code):Prop:=dD { vars:=[(0,4),(0,3)],facts:=KdX,lens:=KgN,bR:=[(30,KdM,(.bG [U3,.o 6]))] } c (dF (.v 1)) JA 0 [some 0,some 1] (dF Kfz) [(.cells 31 10 [V1]),V3]
abbrev amJ (o:Option (RT Out)):Prop:=iU { vars:=[(0,4)],lens:=KgN } Tryz.f9 o 0 (dF (.v 0)) JA (KfT)
section
variable {A:Nat->Prop} {w0:World} {a0:Act}
def fin {o:Option (RT Out)} (b:amJ o) (d:S.aD.length<=4) (mm:Nat->St) (w:World) (a:Act) (c:@dZ dK dN A w0 a0 mm w a (dF (.i (S.aD.length:Int))) (eB (dB S))):KS Tryz.prog (oK o) (Fin Tryz.prog Tryz.f9 A w0 a0 S.av) (AX.exit 0).to a w :=
 b.go (ev1 _ [(S.aD.length:Int)] (vT S []) (sT S []) .nil) (xK kn) c
def round {o:Option (RT Out)} (b:amK (aW o)) {T:bK} {f:Int} {j:Nat} (e:S.aD.length<=4) (g:j<S.aD.length) (cC:Ck 30 [S.av,.i (j:Int)] (.bG [T.av,.i f])) {Φ:iO}
  (d:∀mm w a,@dZ dK dN A w0 a0 mm w a (dF (.i (1+(j:Int)))) (eB (dB T))->Φ (AX.normal).to a w)
  (mm:Nat->St) (w:World) (a:Act) (c:@dZ dK dN A w0 a0 mm w a (dF (.i (j:Int))) (eB (dB S))):(aW o).wpIn (fw none) 9 Tryz.prog Φ a w :=
 b.go (ev1 _ [(S.aD.length:Int),(j:Int)] (vT S (vT T [.I f])) (sT S (sT T [])) .nil) (xK (kc cC kn)) c (fd:=dF (.i (1+(j:Int)))) (bd:=dB T) d
end
def walk (oA:Option (RT Out)) (u:amL body oA) (t:amK (aW oA)) (s:dD { vars:=[(0,4)],lens:=KgN } (aW oA) (dF (.v 0)) JA 2 [some 0,some 1] (dF (.v 0)) JA) (q:amJ oA) (G:Gn S) (l:1<=S.weights.length) (y:S.bT<=12) :
  Ck 9 [S.av] (kI S S.aD.length).av:=by
 have d:=G.hn;refine CK.fP Tryz.func9 (c:=body) (by kernel_rfl) (yO.out) (uD.out) fun A w0 a0=>?_
 intro mm w a b;rw[Tryz.ntmps9]at b;refine u.go (ev1 _ [(S.aD.length:Int)] (vT S []) (sT S []) .nil) (xK kn) b (fd:=dF (.i 0)) (bd:=dB S) ?_;intro mm w a b;refine cN (fun n a w=>∃(j:Nat) (T:bK),n=S.aD.length-j/\j<=S.aD.length/\T=kI S j/\Gn T/\T.aD.length=S.aD.length/\T.weights=S.weights/\∃mm,@dZ dK dN A w0 a0 mm w a (dF (.i (j:Int))) (eB (dB T))) ?_ (n:=S.aD.length) ⟨0,S,rfl,a0j _,rfl,G,rfl,rfl,_,b⟩;clear b;rintro n a w ⟨j,T,rfl,z,h,k,g,e,mm,b⟩;have d:=k.hn;rcases(by omega:j=S.aD.length\/j<S.aD.length)with m|x
 .subst m
  rw[<-h];clear h;rw[<-g]at b;refine s.go (ev1 _ [(T.aD.length:Int)] (vT T []) (sT T []) .nil) (xK kn) b ?_;intro mm w a b;exact fin q d mm w a b
 .have X:Ix T (j:Int) 0:=⟨by omega,by omega,by omega,by rw[e];omega⟩
  have cC:=IW k (by rw[e];exact l) X;have F:=tS k X;obtain⟨⟨U,f⟩,o⟩:∃r,r=jY T (j:Int):=⟨_,rfl⟩;have p:U=kI S (j+1):=by show _=(jY (kI S j) (j:Int)).1;rw[<-h,<-o]
  rw[<-o]at cC F;refine round t d (by omega) cC ?_ mm w a b;intro mm w a b;rw[show(1+(j:Int))=((j+1:Nat):Int)by omega]at b;exact⟨_,by omega,j+1,U,rfl,by omega,p,F.1,by have:=F.le;exact this.trans g,by have:=F.wt;exact this.trans e,mm,b⟩
end CD
def Py (G:Gn S) (a:1<=S.weights.length) (b:S.bT<=12):Ck 9 [S.av] (kI S S.aD.length).av:=CD.walk CD.agj CD.aoW .of .of .of G a b
end
section
open Mc
def afY {n:Nat} {per:Int} {ws:List Int} {ms cs:List (List Int)} (M:MOk n per ws ms cs):Lk 0 (iF n per ws ms cs):=by
 refine⟨⟨fun r c v a=>((M.cr r c).2 v a).2,fun e x d y b=>?_,by simp[iF],by simp[iF],by simp[iF]⟩,fun y b=>by simp[iF]at b⟩;have g:=(a1q.1 (a0a d)).2;subst g;rcases b with rfl|b
 .refine⟨fun k p f=>?_,fun v a=>?_,fun r c v a=>?_,fun v a=>?_⟩
  .have:=(a1q.1 (a0a f)).2
   subst this;exact⟨by simp,by simp[qs],by simp[iF,gR],fun h=>by simp⟩
  .have:=(a1q.1 a).2;omega
  .have:=(a1q.1 c).2
   subst this;have:=(a1q.1 a).2;omega
  .have:=(a1q.1 a).2;omega
 .simp[Nh]at b
def Reach.lk {n:Nat} {per:Int} {ws:List Int} {ms cs:List (List Int)} (M:MOk n per ws ms cs) {k:Nat} {S:bK} (h:Reach n per ws ms cs k S) (g:k<=120):Lk k S:=by
 induction h with
 |start=>exact afY M
 |@step k S o h ok b d =>
  obtain⟨G,c,a,pe,en,f,i⟩:=h.rs M (by omega);have e:=M.w2;exact ajJ G (by omega) (by rw[a];exact M.wr) (by rw[a];omega) (by rw[pe];have:=M.p;omega) (by omega) (by omega) (d (by omega)) (by rw[c,a];exact ok) b
structure Cl' (S:bK) (k:Int) (j:Nat) (T:bK):Prop where
 gn:Gn T
 lk:Lk k T
 le:T.aD.length=S.aD.length
 wt:T.weights=S.weights
 pe:T.bT=S.bT
 cl:∀i:Nat,i<j->(T.aJ i).closed=true
def Ig {S:bK} {k:Int} (G:Gn S) (s:0<=k) (o:k<=120) (g:1<=S.weights.length) (l:Lk k S):∀j,j<=S.aD.length->Cl' S (k+j) j (kI S j)
 |0,_=>⟨G,by simpa[kI]using l,rfl,rfl,rfl,fun i h=>by omega⟩
 |j+1,w=>by
  have a:=Ig G s o g l j (by omega);have u:=G.hn;simp only[kI];generalize kI S j=T at *;have x:Ix T (j:Int) 0:=⟨by omega,by rw[a.le];omega,by omega,by rw[a.wt];omega⟩;have F:=tS a.gn x;have t:k+((j+1:Nat):Int)=k+(j:Int)+1:=by omega
  rw[t];by_cases b:(T.aJ (j:Int)).closed=true
  .have e1:jY T (j:Int)=(T,7):=by unfold jY;rw[if_pos b]
   rw[e1];exact⟨a.gn,a.lk.mono a.gn (by omega),a.le,a.wt,a.pe,fun i h=>by
    by_cases d:i=j
    .subst d;exact b
    .exact a.cl i (by omega)⟩
  .have b:(T.aJ (j:Int)).closed=false:=by simpa using b
   obtain⟨U,e1,up⟩:=XC a.gn (Lk.cap (by omega) (by omega)) (by omega) (by omega) (by omega) a.lk x b;have m:=e1;rw[e1]at F |-;have gn:=F.gn;refine⟨gn,Lk.up (by omega) (by omega) gn up,F.le.trans a.le,F.wt.trans a.wt,F.pe.trans a.pe,fun i h=>?_⟩
   obtain⟨-,S1,n,q,p,rfl⟩:=Po m;have v:=(sG (e:=(j:Int)) T.weights.length 0 T a.gn ⟨x.e0,x.e1⟩ (by omega)).1;rw[q]at v;dsimp only at v;have c:=(Lz v.gn (v.ix x)).1;rw[p]at c;dsimp only at c;have f:=v.trans (c.sv v.gn);show((n.bJ (j:Int) _).aJ (i:Int)).closed=true;by_cases d:i=j
   .subst d
    rw[bK.jQ (f.ix x)];rfl
   .rw[As _ x.e0 (by omega) (by omega)]
    rw[show(n.aJ (i:Int)).closed=(T.aJ (i:Int)).closed from congrArg (fun r=>r.2.1) (f.shE (i:Int))];exact a.cl i (by omega)
def aGi {xs:List Int} {i:Nat} {z:List nW} {g:nW} (h:z[(xs.getD i 0).toNat]?=some g):(dP z)[(cQ (fun k=>xs.getD k 0) [([i],1)]).toNat]?=some [.i g.q,.i g.v,.i g.p,.i g.d]:=rH (lW _ _) (by rw[dP,a0o,h];rfl)
namespace GS
section
variable {A:Nat->Prop} {w0:World} {a0:Act} {T:bK} {now:Int} {its:List nW} {ml:List dE} {bs:List Int}
end
end GS
section
variable {v m per:Int} {l ws:List Int} {ms cs:List (List Int)} {S T:bK}
end
end
section
open Mc
def NG {l:List Int} {M:Int} (h:∀v∈l,-M<=v/\v<=M):eR l<=M*l.length:=by
 induction l with
 |nil=>simp[eR]
 |cons x t a =>
  have d:=a fun v b=>h v (by simp[b]);have c:=h x (by simp);rw[fL,a0t,Int.natCast_add,a16];simp only[Int.natCast_one,Int.mul_one];omega
def afF (a b:List Int):eR (a++b)=eR a+eR b:=by
 induction a with
 |nil=>simp[eR]
 |cons x a c=>rw[a2a,fL,fL,c];omega
section
variable {T:bK} {k:Int}
def CQ (G:Gn T) (l:Lk k T) (n:0<=k) (p:k<=124) {e item:Int} (x:Ix T e item) :
  (bZ T e item).1=⟨qs ((T.aJ e).bE (2*item)).aX+qs ((T.aJ e).bE (2*item+1)).aX,vs ((T.aJ e).bE (2*item)).aX+vs ((T.aJ e).bE (2*item+1)).aX,ps ((T.aJ e).bE (2*item)).aX+ps ((T.aJ e).bE (2*item+1)).aX⟩ /\
  (0<=(bZ T e item).1.q/\(bZ T e item).1.q<=8192)/\(0<=(bZ T e item).1.v/\(bZ T e item).1.v<=4294967296)/\(-2199023255552<=(bZ T e item).1.p/\(bZ T e item).1.p<=2199023255552):=by
 have C:=Lk.nA n (show k<=130 by omega)
 have c:=l.lm.IS e item;have key:∀{loc:Int},0<=loc->loc<=1->(0<=qs ((T.aJ e).bE (2*item+loc)).aX/\qs ((T.aJ e).bE (2*item+loc)).aX<=4096)/\(0<=vs ((T.aJ e).bE (2*item+loc)).aX/\vs ((T.aJ e).bE (2*item+loc)).aX<=2147483648)/\(-1099511627776<=ps ((T.aJ e).bE (2*item+loc)).aX/\ps ((T.aJ e).bE (2*item+loc)).aX<=1099511627776):=by
  intro loc i h;obtain⟨p1,p2,-⟩:=l.lm.bE G.toStOk x i h;have s:=(Un.sum p1).mono (alA (m:=T.cX e item) (show T.cost e item<=3000*(k+1)by omega)) (a0f _);have q:=s.q;have g:=s.p0;have f:=s.p1;dsimp only at q g f;have m:=mQ C.w1 q (show qs ((T.aJ e).bE (2*item+loc)).aX<=4096 by have:=C.q1;omega) (by omega);exact⟨⟨q,by have:=C.q1;omega⟩,⟨s.v,(s.val C (by have:=C.q1;dsimp only;omega)).1⟩,by omega,by omega⟩
 have j:=key (loc:=0) (by omega) (by omega);have o:=key (loc:=1) (by omega) (by omega)
 rw[a1g]at j;have d:∀{a b:Int},(-1099511627776<=a/\a<=1099511627776)->(-1099511627776<=b/\b<=1099511627776)->dJ [a,b]=a+b:=by
  intro a b t r;rw[(CY (l:=[a,b]) (by simp only[eR,a01,a1x,a0x,a1y];omega)).2];simp
 have e1:(bZ T e item).1=⟨qs ((T.aJ e).bE (2*item)).aX+qs ((T.aJ e).bE (2*item+1)).aX,vs ((T.aJ e).bE (2*item)).aX+vs ((T.aJ e).bE (2*item+1)).aX,ps ((T.aJ e).bE (2*item)).aX+ps ((T.aJ e).bE (2*item+1)).aX⟩:=by
  unfold bZ;dsimp only;rw[d ⟨by omega,by omega⟩ ⟨by omega,by omega⟩,d ⟨by omega,by omega⟩ ⟨by omega,by omega⟩,d ⟨by omega,by omega⟩ ⟨by omega,by omega⟩]
 refine⟨e1,?_⟩;rw[e1];dsimp only;omega
def adJ {l:List Int} {M:Int} (h:∀v∈l,-M<=v/\v<=M) (a:M*l.length<=140737488355328):Fw l:=⟨a17 (NG h) a⟩
def anG {item:Int} {n:Nat} {y:bV} (h:y∈wL T item n):∃e:Nat,e<n/\y=(bZ T (e:Int) item).1:=by
 obtain⟨e,a,rfl⟩:=a0l.1 h;exact⟨e,a0v.1 a,rfl⟩
def alG (item:Int):tL T item T.aH.length=T.aH.filter fun t=>t.item==item:=by unfold tL;rw[a04]
def am3 (G:Gn T) (item:Int):(wL T item T.aD.length).length<=4/\(tL T item T.aH.length).length<=40:=by
 have:=G.hn;have:=G.yP;refine⟨by simp[wL];omega,?_⟩;rw[alG];exact a1e (a32 _ _) G.yP
def aaH (G:Gn T) (l:Lk k T) (u:0<=k) (r:k<=124) (I:T.aD.length=2\/T.aD.length=3):Sml T:=by
 have j:∀t∈T.aH,(-2147483648<=t.eU/\t.eU<=2147483648)/\(-2147483648<=t.value/\t.value<=2147483648)/\(-8589934592<=t.bY/\t.bY<=8589934592):=by
  intro t h;obtain⟨a0,z,a2,K⟩:=l.lm.tr t h;obtain⟨-,-,-,⟨b1,-⟩,⟨b2,-⟩,-⟩:=G.OA t h;have F:=mQ (show 3000*(k+1)<=524288 by omega) b1 a0 (by omega);have D:=mQ (show 600000*(k+1)<=268435456 by omega) b1 a0 (by omega);omega
 have A:=G.hw;refine⟨fun i s=>?_,fun a J=>?_,?_,?_⟩
 .obtain⟨H,lt⟩:=am3 G i
  have m:∀(f:bV->Int) (g:Fh->Int),(∀e:Nat,e<T.aD.length->-2199023255552<=f (bZ T (e:Int) i).1/\f (bZ T (e:Int) i).1<=2199023255552)->(∀t∈T.aH,-8589934592<=g t/\g t<=8589934592)->Fw ((wL T i T.aD.length).map f++(tL T i T.aH.length).map g):=by
   intro f g C B;refine⟨?_⟩
   rw[afF];have z:=NG (l:=(wL T i T.aD.length).map f) (M:=2199023255552) (fun v c=>by
    obtain⟨y,n,rfl⟩:=a0l.1 c;obtain⟨e,b,rfl⟩:=anG n;exact C e b)
   have a2:=NG (l:=(tL T i T.aH.length).map g) (M:=8589934592) (fun v c=>by
    obtain⟨y,n,rfl⟩:=a0l.1 c;rw[alG]at n;exact B y (List.mem_filter.1 n).1)
   rw[a0z]at z a2;omega
  have wx:∀e:Nat,e<T.aD.length->Ix T (e:Int) i:=fun e b=>⟨by omega,by omega,s.1,s.2⟩;refine⟨m (·.q) (·.eU) (fun e b=>?_) (fun t h=>by have:=j t h;omega),m (·.v) (·.value) (fun e b=>?_) (fun t h=>by have:=j t h;omega),m (·.p) (·.bY) (fun e b=>?_) (fun t h=>(j t h).2.2),?_⟩
  .have:=(CQ G l u r (wx e b)).2;omega
  .have:=(CQ G l u r (wx e b)).2;omega
  .exact(CQ G l u r (wx e b)).2.2.2
  .refine adJ (M:=4294967296) (fun v c=>?_) (by simp[CN];omega)
   obtain⟨x,w,rfl⟩:=a0l.1 c;obtain⟨e,b⟩:=a1j.1 w;have L:=l.lm.aJ e x b _ (.inl rfl);have E:=G.aJ e x b;by_cases o:i.toNat<x.down.length
   .have:=L.down _ (dR (d:=0) o);have:=(E.db _ (dR (d:=0) o)).1;omega
   .rw[a0k,a1k (by omega)];simp
 .refine adJ (M:=274877906944*125) (fun v c=>?_) (by simp[xU];omega)
  obtain⟨x,w,rfl⟩:=a0l.1 c;obtain⟨e,b⟩:=a1j.1 w;have L:=l.lm.aJ e x b _ (.inl rfl);by_cases o:a.toNat<x.cU.length
  .have:=L.cU _ (dR (d:=0) o);omega
  .rw[a0k,a1k (by omega)];simp
 .refine adJ (M:=2199023255552) (fun v c=>?_) ?_
  .obtain⟨e,b,c⟩:=a1v.1 c
   obtain⟨i,s,rfl⟩:=a0l.1 c;rw[a0v]at b s;exact(CQ G l u r ⟨by omega,by omega,by omega,by omega⟩).2.2.2
  .rw[Lx]
   have:=Nat.mul_le_mul (show T.aD.length<=3 by omega) A;omega
 .refine adJ (M:=8589934592) (fun v c=>?_) (by have:=G.yP;rw[a0z];omega)
  obtain⟨t,h,rfl⟩:=a0l.1 c;exact(j t h).2.2
end
end
section
open Mc
def an6 {k:FuncId} {x r:AV} (h:Ck k [x,.lit 1 []] r):Ck k [x,.emp] r:=by
 obtain⟨g1,g2,g3⟩:=h;refine⟨bN (g1 x (by simp)) (bN .emp fY),g2,fun A w vs g f e c=>g3 A w vs g f e fun i y b=>?_⟩
 rcases i with _|_|i
 .exact c 0 y b
 .cases b
  have d:=c 1 .emp rfl;generalize vs.getD 1 Go.undef=u at d |-;cases d with
  |emp a=>exact @eE.nR dK dN _ _ 1 a 0 (by decide)
 .simp at b
def afg {n:Nat} {per:Int} {ws:List Int} {ms cs:List (List Int)} (M:MOk n per ws ms cs):Ck 10 [mAv n per ws ms cs,.lit 1 []] (iF n per ws ms cs).av:=by
 obtain⟨k,T,⟨-,a⟩,r,-,c⟩:=XO M [] (by simp);obtain rfl:k=0:=by simpa using a
 cases r;exact c
def apk:Ck 11 [.i 0] (mAv 2 1 [0,1] [[1,2],[1,2]] [[0,7],[1,8]]):=cw _ (ev1 {  } [] [] [] .nil) [.i 0] (.agg [.i 2,.i 1,(.lit 1 [[.i 0],[.i 1]]),(.lit 1 [[(.lit 1 [[.i 1],[.i 2]])],[(.lit 1 [[.i 1],[.i 2]])]]),(.lit 1 [[(.lit 1 [[.i 0],[.i 7]])],[(.lit 1 [[.i 1],[.i 8]])]])]) kn
def m0:MOk 2 1 [0,1] [[1,2],[1,2]] [[0,7],[1,8]]:=⟨by omega,by omega,by simp,by simp,by omega,rfl,rfl,by simp,by simp,by simp⟩
section
variable {S T:bK}
def ab7 {x:dL} (b:2<=S.aD.length/\S.aD.length<=3) (a:S.aD[0]?=some ⟨⟨x.now,false,x.bH,x.cU,x.aM,x.aZ,x.down⟩,x.ahead⟩):Ck 33 [S.av] (.i 8):=cw _ (ev1 { vars:=[(2,3)],lens:=KgN,gI:=[(0,[],VM)] } [(S.aD.length:Int)] (vT S [.I x.now]) (sT S [bP x.bH,aA x.cU,bM x.aM,aA x.aZ,aA x.down,bW x.ahead]) (.d (rK a) .nil)) Kfv (.i 8) kn
def ab8 (a:Ck 33 [S.av] (.i 8)):Ck 12 [S.av] Kal:=cw _ (ev1 { bR:=[(33,Kfv,(.i 8))] } [] (vT S []) (sT S []) .nil) Kfv Bx (kc a kn)
def acf {m per:Int} {ws:List Int} {ms cs:List (List Int)} {its:List nW} {ml:List dE} {bs:List Int} (h:2<=T.weights.length/\T.weights.length<=4) (h1:its.length=T.weights.length) (b:ml.length=0) (a:bs.length=17)
  (f:Ck 11 [.i 0] (mAv m per ws ms cs)) (d:Ck 10 [mAv m per ws ms cs,.emp] S.av) (cC:Ck 9 [S.av] T.av)
  (g:Ck 12 [T.av] (.bG [.agg [.i 1,.lit 4 (dP its),.lit 2 (bS ml),.lit 1 (aA bs)],.i 0])) (e:Ck 12 [S.av] Kal):Ck 13 [] Kgm:=cw _ (Oj { vars:=[(2,4)],lens:=[(11,[([0],1)]),(17,[([0],1)]),(18,[]),(19,[([],17)])],bR:=[(11,[.i 0],Kaq),(10,[Kaq,.emp],VH),(9,Vt,Ua),(12,[Ua],(.bG [(.agg [.i 1,.q 4 17,.q 2 18,.q 1 19]),.i 0])),(12,Vt,Bx)] } [(T.weights.length:Int)] [.I m,.I per,.I S.bU,.I S.bT,.I S.done,.I T.bU,.I T.bT,.I T.done] [aA ws,bF ms,bF cs,bD S.aD,aA S.weights,bF S.methods,bF S.cI,hH S.bB,dX S.aN,fM S.aH,bD T.aD,aA T.weights,bF T.methods,bF T.cI,hH T.bB,dX T.aN,fM T.aH,dP its,bS ml,aA bs] jH.nil.c jT.nil ((((kP.nil.c (by simp[aA,a,cQ,uA])).c (by simp[bS,b,cQ,uA])).c (by simp[dP,h1,cQ,uA])).c) .nil) [] Kgm (kc f (kc d (kc cC (kc g (kc e kn)))))
end
abbrev S00:bK:=iF 2 1 [0,1] [[1,2],[1,2]] [[0,7],[1,8]]
def ak1:(kI S00 2).aD.map (fun x=>x.now)=[1,1]:=by decide +kernel
def afl:(eF (gL7 (kI S00 2))).length=0:=by decide +kernel
def ai5:Ck 13 [] Kgm:=by
 have p:Reach 2 1 [0,1] [[1,2],[1,2]] [[0,7],[1,8]] 0 S00:=.start;have lk:=p.lk m0 (by omega);have R:=p.rs m0 (by omega);have cC:Ck 9 [S00.av] (kI S00 2).av:=Py R.gn (by decide) (by decide);have c:=Ig R.gn (k:=((0:Nat):Int)) (by omega) (by omega) (by decide) lk 2 (by decide);have d:=ak1;have s:=afl;have w:(kI S00 2).weights.length=2:=by rw[c.wt];rfl
 have n:(kI S00 2).aD.length=2:=by rw[c.le];rfl
 have t:=ab8 (S:=S00) (ab7 (x:=Nh 2) (by decide) rfl);have i:=c.cl;generalize kI S00 2=T at *;have g:T.aD.length=2\/T.aD.length=3:=.inl n
 have b:∀x∈T.aD,x.now=1:=by
  intro x a;have h:=a34 (f:=fun x:dL=>x.now) a;rw[d]at h;simpa using h
 have l:∀x∈T.aD,x.closed=true:=by
  intro x a;obtain⟨e,o⟩:=a1j.1 a;have v:=(a0y.1 o).1;have:=i e (by omega);unfold bK.aJ at this;rw[a0w,a0k,o]at this;exact this
 rcases Pq c.gn g l with⟨r,-⟩|⟨-,x,a,y,q,m⟩
 .have j:=aaH c.gn c.lk (by omega) (by omega) g
  obtain⟨x,a⟩:∃x,T.aD[0]?=some x:=⟨_,a0d (by omega)⟩;have u:=Pu c.gn g (by omega) l j r a (b x (a0a a));exact acf (by omega) (by simp[wM]) s (by simp[RZ]) apk (an6 (afg m0)) cC u t
 .exact absurd ((b x a).trans (b y q).symm) m
end
section
open Mc
namespace SL
abbrev slF (l i:AV):List AV:=fr 41 [(0,l),(1,l),(5,i)]
noncomputable def body:Code:=(Tryz.f46).body.getD .skip
abbrev alW (c:Code) (r:Option (RT Out)):Prop:=nV { vars:=Keq,lens:=KgN } c ([.q 2 0,.q 2 0]++List.replicate 39 .undef) [] [] (slF (.q 2 0) (.i 0)) [] r
noncomputable def alK:Option (RT Out):=uL { vars:=Keq,lens:=KgN } body ([.q 2 0,.q 2 0]++List.replicate 39 .undef:List AV).length ([.q 2 0,.q 2 0]++List.replicate 39 .undef) [] 0
def aox:alW body alK:=⟨rfl,by decide +kernel,by decide +kernel⟩
def walk (oA:Option (RT Out)) (m:alW body oA) (k:dD { vars:=[Kfp,Kfp,nB,nB],facts:=[(Kgc,1,4611686018427387904)],lens:=KgN,gI:=[(0,[([1],1)],[.v 2,.v 3])] } (aW oA) (slF (.q 2 0) (.v 1)) [] 0 [] (slF (.q 2 0) Kfz) []) (h:dD { vars:=Keq,lens:=KgN } (aW oA) (slF (.q 2 0) (.v 0)) [] 2 [] (slF (.q 2 0) (.v 0)) []) (g:iU { vars:=Keq,lens:=KgN } Tryz.f46 oA 0 (slF (.q 2 0) (.v 0)) [] Kf9) {l:List dE} (y:l.length<=4611686018427387904) (p:∀x∈l,fW x.a/\fW x.n) :
  Ck 46 [.lit 2 (bS l),.lit 2 (bS l)] Kgm:=by
 refine CK.fP Tryz.func46 (c:=body) (by kernel_rfl) (yO.out) (uD.out) fun A w0 a0=>?_;intro mm w a b;rw[Tryz.ntmps46]at b;refine m.go (ev1 _ [(l.length:Int)] [] [bS l] .nil) (xK kn) b (fd:=slF (.lit 2 (bS l)) (.i 0)) (bd:=[]) ?_;intro mm w a b;refine cN (fun n a w=>∃j:Nat,n=l.length-j/\j<=l.length/\∃mm,@dZ dK dN A w0 a0 mm w a (slF (.lit 2 (bS l)) (.i (j:Int))) (eB [])) ?_ (n:=l.length) ⟨0,rfl,a0j _,_,b⟩;rintro n a w ⟨j,rfl,z,mm,b⟩;rcases(by omega:j=l.length\/j<l.length)with rfl|f
 .refine h.go (ev1 _ [(l.length:Int)] [] [bS l] .nil) (xK kn) b ?_
  intro mm w a b;exact g.go (ev1 _ [(l.length:Int)] [] [bS l] .nil) (xK kn) b
 .obtain⟨x,e⟩:∃x,l[j]?=some x:=⟨_,a0d f⟩
  have o:l[(j:Int).toNat]?=some x:=by simpa using e
  obtain⟨⟨u,t⟩,s,r⟩:=p x (a0a e);refine k.go (ev1 _ [(l.length:Int),(j:Int),x.a,x.n] [] [bS l] (.d (aL o) .nil)) (xK kn) b (fd:=slF (.lit 2 (bS l)) (.i (1+(j:Int)))) (bd:=[]) ?_;intro mm w a b;rw[show(1+(j:Int))=((j+1:Nat):Int)by omega]at b;exact⟨_,by omega,j+1,rfl,by omega,mm,b⟩
end SL
namespace SG
abbrev sgF (i:AV):List AV:=fr 74 [(2,.ptr 4 0 0 0),(3,.ptr 4 1 0 0),(5,i)]
abbrev PX (i:AV):List AV:=fr 74 [(2,.ptr 4 0 0 0),(3,.ptr 4 1 0 0),(6,i)]
abbrev gB (now:Int) (its:List nW) (ml:List dE) (bs:List Int):List Mc.dC:=[.cells 38 4 [[.i now,.lit 4 (dP its),.lit 2 (bS ml),.lit 1 (aA bs)]],.cells 38 4 [[.i now,.lit 4 (dP its),.lit 2 (bS ml),.lit 1 (aA bs)]]]
noncomputable def body:Code:=(Tryz.f18).body.getD .skip
abbrev alX (c:Code) (r:Option (RT Out)):Prop:=nV { vars:=KeQ,lens:=Kdh,bR:=Kam } c (VQ++List.replicate 72 .undef) [] [some 0,some 1] (sgF (.i 0)) Ya r
noncomputable def Tb:Option (RT Out):=uL { vars:=KeQ,lens:=Kdh,bR:=Kam } body (VQ++List.replicate 72 .undef:List AV).length (VQ++List.replicate 72 .undef) [] 0
def aoy:alX body Tb:=⟨by unfold Tb;rfl,by decide +kernel,by decide +kernel⟩
abbrev agE (o:Option (RT Out)) (r:Option (RT Out)):Prop:=pJ { vars:=KeQ,lens:=Kdh } o 0 (sgF (.v 1)) Ya [some 0,some 1] (PX (.i 0)) Ya r
noncomputable def aaL:Option (RT Out):=IF { vars:=KeQ,lens:=Kdh } Tb 0 (sgF (.v 1):List AV).length (sgF (.v 1)) Ya 2
def am9:agE Tb aaL:=⟨by unfold aaL;rfl,by decide +kernel,by decide +kernel⟩
abbrev ao1 (o:Option (RT Out)):Prop:=iU { vars:=KeQ,lens:=Kdh } Tryz.f18 o 2 (PX (.v 2)) Ya Kf9
def walk (oA f:Option (RT Out)) (t:alX body oA) (s:dD { vars:=[(0,12),(0,100),(0,100),(0,99),nB,nB,nB,nB],facts:=[([([1],1),([3],-1)],1,100)],lens:=Kdh,gI:=[(0,[([3],1)],[.v 4,.v 5,.v 6,.v 7])] } (aW oA) (sgF (.v 3)) Ya 0 [some 0,some 1] (sgF KfK) Ya) (l:dD { vars:=KeQ,lens:=Kdh } (aW oA) (sgF (.v 1)) Ya 2 [some 0,some 1] (sgF (.v 1)) Ya) (o:agE oA f) (rB:dD { vars:=[(0,12),(0,100),(0,100),(0,99),nB],facts:=[Kd1],lens:=Kdh,gI:=[(2,[([3],1)],[.v 4])] } (aW f) (PX (.v 3)) Ya 0 [some 0,some 1] (PX KfK) Ya) (m:dD { vars:=KeQ,lens:=Kdh } (aW f) (PX (.v 2)) Ya 4 [some 0,some 1] (PX (.v 2)) Ya) (r:ao1 f) {now:Int} {its:List nW} {ml:List dE} {bs:List Int} (K:0<=now/\now<=12) (L:its.length<=100) (M:bs.length<=100)
  (u:∀x∈its,fW x.q/\fW x.v/\fW x.p/\fW x.d) (y:eW bs) (D:Ck 46 [.lit 2 (bS ml),.lit 2 (bS ml)] Kgm) :
  Ck 18 [.agg [.i now,.lit 4 (dP its),.lit 2 (bS ml),.lit 1 (aA bs)],.agg [.i now,.lit 4 (dP its),.lit 2 (bS ml),.lit 1 (aA bs)]] Kgm:=by
 have E:=jG its;refine CK.fP Tryz.func18 (c:=body) (by kernel_rfl) (yO.out) (uD.out) fun A w0 a0=>?_
 intro mm w a b;rw[Tryz.ntmps18]at b;refine t.go (ev1 _ [now,(its.length:Int),(bs.length:Int)] [] [dP its,bS ml,aA bs] .nil) (xK (kc D kn)) b (fd:=sgF (.i 0)) (bd:=gB now its ml bs) ?_;intro mm w a b;refine cN (fun n a w=>∃j:Nat,n=its.length-j/\j<=its.length/\∃mm,@dZ dK dN A w0 a0 mm w a (sgF (.i (j:Int))) (eB (gB now its ml bs))) ?_ (n:=its.length) ⟨0,rfl,a0j _,_,b⟩;clear b;rintro n a w ⟨j,rfl,C,mm,b⟩;rcases(by omega:j=its.length\/j<its.length)with h|g
 .subst h
  refine l.go (ev1 _ [now,(its.length:Int),(bs.length:Int)] [] [dP its,bS ml,aA bs] .nil) (xK kn) b ?_;intro mm w a b;refine o.go (ev1 _ [now,(its.length:Int),(bs.length:Int)] [] [dP its,bS ml,aA bs] .nil) (xK kn) b (fd:=PX (.i 0)) (bd:=gB now its ml bs) ?_;intro mm w a b;refine cN (fun n a w=>∃j:Nat,n=bs.length-j/\j<=bs.length/\∃mm,@dZ dK dN A w0 a0 mm w a (PX (.i (j:Int))) (eB (gB now its ml bs))) ?_ (n:=bs.length) ⟨0,rfl,a0j _,_,b⟩;clear b;rintro n a w ⟨j,rfl,C,mm,b⟩;rcases(by omega:j=bs.length\/j<bs.length)with h|g
  .subst h
   refine m.go (ev1 _ [now,(its.length:Int),(bs.length:Int)] [] [dP its,bS ml,aA bs] .nil) (xK kn) b ?_;intro mm w a b;exact r.go (ev1 _ [now,(its.length:Int),(bs.length:Int)] [] [dP its,bS ml,aA bs] .nil) (xK kn) b
  .obtain⟨x,e⟩:∃x,bs[j]?=some x:=⟨_,a0d g⟩
   have k:bs[(j:Int).toNat]?=some x:=(by simpa using e);obtain⟨B,z⟩:=y x (a0a e);refine rB.go (ev1 _ [now,(its.length:Int),(bs.length:Int),(j:Int),x] [] [dP its,bS ml,aA bs] (.d (aI k) .nil)) (xK kn) b (fd:=PX (.i (1+(j:Int)))) (bd:=gB now its ml bs) ?_;intro mm w a b;rw[show(1+(j:Int))=((j+1:Nat):Int)by omega]at b;exact⟨_,by omega,j+1,rfl,by omega,mm,b⟩
 .obtain⟨x,e⟩:∃x,its[j]?=some x:=⟨_,a0d g⟩
  have k:its[(j:Int).toNat]?=some x:=by simpa using e
  obtain⟨⟨B,z⟩,⟨J,I⟩,⟨H,i6⟩,G,F⟩:=u x (a0a e);refine s.go (ev1 _ [now,(its.length:Int),(bs.length:Int),(j:Int),x.q,x.v,x.p,x.d] [] [dP its,bS ml,aA bs] (.d (aGi k) .nil)) (xK kn) b (fd:=sgF (.i (1+(j:Int)))) (bd:=gB now its ml bs) ?_;intro mm w a b;rw[show(1+(j:Int))=((j+1:Nat):Int)by omega]at b;exact⟨_,by omega,j+1,rfl,by omega,mm,b⟩
end SG
def ai0 {l:List dE} (b:l.length<=4611686018427387904) (c:∀x∈l,fW x.a/\fW x.n):Ck 46 [.lit 2 (bS l),.lit 2 (bS l)] Kgm:=SL.walk SL.alK SL.aox .of .of .of b c
def ai2 {now:Int} {its:List nW} {ml:List dE} {bs:List Int} (f:0<=now/\now<=12) (g:its.length<=100) (h:bs.length<=100)
  (c:∀x∈its,fW x.q/\fW x.v/\fW x.p/\fW x.d) (e:eW bs) (j:ml.length<=100) (b:∀x∈ml,fW x.a/\fW x.n) :
  Ck 18 [.agg [.i now,.lit 4 (dP its),.lit 2 (bS ml),.lit 1 (aA bs)],.agg [.i now,.lit 4 (dP its),.lit 2 (bS ml),.lit 1 (aA bs)]] Kgm :=
 SG.walk SG.Tb SG.aaL SG.aoy .of .of SG.am9 .of .of .of f g h c e (ai0 (by omega) b)
def Pt:Ck 18 [.agg KfI,.agg KfI] Kgm:=by
 have a:Ck 46 [.emp,.emp] Kgm:=cw _ (ev1 {  } [] [] [] .nil) [.emp,.emp] Kgm kn;exact cw _ (ev1 { bR:=[(46,[.emp,.emp],Kgm)] } [] [] [] .nil) WX Kgm (kc a kn)
section
variable {S:bK} {item:Int}
def Ps (G:Gn S) (y:S.aD.length=2\/S.aD.length=3) (K:1<=S.weights.length) (k:fW item) (M:Sml S) :
  ∃q v p d:Int,(fW q/\fW v/\fW p/\fW d)/\Ck 19 [S.av,.i item] (.agg [.i q,.i v,.i p,.i d])/\Ck 20 [S.av,.i item] (.agg [.i q,.i v,.i p,.i d]):=by
 have L:=G.hw;have:=k.lo;have:=k.hi;have z:fW 0:=⟨by omega,by omega⟩;rcases(by omega:item<0\/(S.weights.length:Int)<=item\/(0<=item/\item<S.weights.length))with h|h|h
 .exact⟨0,0,0,0,⟨z,z,z,z⟩,cw _ (ev1 { vars:=Kcm,lens:=Kg2 } [item,(S.weights.length:Int)] (vT S []) (sT S []) .nil) Kdx Kdr kn,cw _ (ev1 { vars:=Kcm,lens:=Kg2 } [item,(S.weights.length:Int)] (vT S []) (sT S []) .nil) Kdx Kdr kn⟩
 .exact⟨0,0,0,0,⟨z,z,z,z⟩,cw _ (ev1 { vars:=[Ke8,(1,5)],facts:=Bb,lens:=Kg2 } [item,(S.weights.length:Int)] (vT S []) (sT S []) .nil) Kdx Kdr kn,cw _ (ev1 { vars:=[Ke8,(1,5)],facts:=Bb,lens:=Kg2 } [item,(S.weights.length:Int)] (vT S []) (sT S []) .nil) Kdx Kdr kn⟩
 .obtain⟨f1,f2,B,f4⟩:=M.q item h
  obtain⟨J,a2,H,s⟩:=f1.sum;obtain⟨b1,b2,b3,r⟩:=f2.sum;obtain⟨F,o,E,n⟩:=B.sum;obtain⟨D,m,C,l⟩:=f4.sum;have a:=ai1 G y h a2 b2 o m s r n l;have b:=IV G h a2 b2 o m s r n l;rw[J,b1,F,D]at a b;obtain⟨e,u⟩:∃x,x=(RX S item).sum:=⟨_,rfl⟩;obtain⟨c,t⟩:∃x,x=(RW S item).sum:=⟨_,rfl⟩;obtain⟨f,w⟩:∃x,x=(RY S item).sum:=⟨_,rfl⟩;obtain⟨g,A⟩:∃x,x=(CN S item).sum:=⟨_,rfl⟩;rw[<-u]at a b H;rw[<-t]at a b b3;rw[<-w]at a b E;rw[<-A]at a b C;refine⟨e,c,f,g,⟨⟨by omega,by omega⟩,⟨by omega,by omega⟩,⟨by omega,by omega⟩,by omega,by omega⟩,?_,?_⟩
  .have j:=a
   exact cw _ (ev1 { vars:=[(0,4),(1,5)],facts:=KdT,lens:=Kg2,bR:=[(34,Kdx,(.bG [Kdk,.i 0]))] } [item,(S.weights.length:Int)] (vT S [.I e,.I c,.I f,.I g]) (sT S []) .nil) Kdx Kdk (kc j kn)
  .have j:=b
   exact cw _ (ev1 { vars:=[(0,4),(1,5)],facts:=KdT,lens:=Kg2,bR:=[(41,[.any,KfT,.v 0],Kdk)] } [item,(S.weights.length:Int)] (vT S [.I e,.I c,.I f,.I g]) (sT S []) .nil) Kdx Kdk (kc j kn)
def Nm {er:Int} (b:1<=er/\er<=9) (a:Ck 33 [S.av] (.i er)):Ck 12 [S.av] (NL.no er):=cw _ (ev1 { vars:=[(1,9)],bR:=[(33,Kfv,(.v 0))] } [er] (vT S []) (sT S []) .nil) Kfv (.bG [Kdn,.v 0]) (kc a kn)
def ab6 (G:Gn S) (y:S.aD.length=2\/S.aD.length=3) (w:∃x∈S.aD,x.closed=false):Ck 33 [S.av] (.i 8):=by
 have j:∀{x:dL} {e:Nat} {c:Bool},S.aD[e]?=some x->x.closed=c->S.aD[e]?=some ⟨⟨x.now,c,x.bH,x.cU,x.aM,x.aZ,x.down⟩,x.ahead⟩:=fun{x e c} n t=>by rw[n,<-t]
 have w0:∀{a:dL},S.aD[0]?=some a->a.closed=false->Ck 33 [S.av] (.i 8):=fun{a} g h=>by
  have r:=j g h;exact cw _ (ev1 { vars:=[(1,3)],lens:=KgN,gI:=[(0,[],VM)] } [(S.aD.length:Int)] (vT S [.I a.now]) (sT S [bP a.bH,aA a.cU,bM a.aM,aA a.aZ,aA a.down,bW a.ahead]) (.d (rK r) .nil)) Kfv (.i 8) kn
 have v:∀{a b:dL},S.aD[0]?=some a->S.aD[1]?=some b->a.closed=true->b.closed=false->Ck 33 [S.av] (.i 8):=fun{a b} p g1 f s=>by
  have r:=j p f;have u:=j g1 s;exact cw _ (ev1 { vars:=[(2,3)],lens:=KgN,gI:=[(0,[],VS),(0,[([],1)],[.o 4,Kgb,.q 4 13,.q 1 14,.q 11 15,.q 1 16,.q 1 17,.q 8 18])] } [(S.aD.length:Int)] (vT S [.I a.now,.I b.now]) (sT S [bP a.bH,aA a.cU,bM a.aM,aA a.aZ,aA a.down,bW a.ahead,bP b.bH,aA b.cU,bM b.aM,aA b.aZ,aA b.down,bW b.ahead]) (.d (rK r) (.d (rK u) .nil))) Kfv (.i 8) kn
 obtain⟨x,n,k⟩:=w;rcases R9 G y with⟨a,b,l⟩|⟨a,b,m,l⟩
 .have p:S.aD[0]?=some a:=by rw[l];rfl
  have g1:S.aD[1]?=some b:=by rw[l];rfl
  rw[l]at n;simp only[a0c,a0b,or_false]at n;cases f:a.closed with
  |false=>exact w0 p f
  |true =>
   rcases n with rfl|rfl
   .rw[f]at k;cases k
   .exact v p g1 f k
 .have p:S.aD[0]?=some a:=by rw[l];rfl
  have g1:S.aD[1]?=some b:=by rw[l];rfl
  have g2:S.aD[2]?=some m:=by rw[l];rfl
  have z:S.aD.length=3:=by rw[l];rfl
  rw[l]at n;simp only[a0c,a0b,or_false]at n;cases f:a.closed with
  |false=>exact w0 p f
  |true =>
   cases s:b.closed with
   |false=>exact v p g1 f s
   |true =>
    rcases n with h|h|h<;>rw[h]at k
    .rw[f]at k;cases k
    .rw[s]at k;cases k
    .have r:=j p f
     have u:=j g1 s;have t:=j g2 k;exact cw _ (ev1 { vars:=[(3,3)],lens:=KgN,gI:=[(0,[],VS),(0,[([],1)],[.o 4,Kgm,.q 4 13,.q 1 14,.q 11 15,.q 1 16,.q 1 17,.q 8 18]),(0,[([],2)],[.o 5,Kgb,.q 4 19,.q 1 20,.q 11 21,.q 1 22,.q 1 23,.q 8 24])] } [(S.aD.length:Int)] (vT S [.I a.now,.I b.now,.I m.now]) (sT S [bP a.bH,aA a.cU,bM a.aM,aA a.aZ,aA a.down,bW a.ahead,bP b.bH,aA b.cU,bM b.aM,aA b.aZ,aA b.down,bW b.ahead,bP m.bH,aA m.cU,bM m.aM,aA m.aZ,aA m.down,bW m.ahead]) (.d (rK r) (.d (rK u) (.d (rK t) .nil)))) Kfv (.i 8) kn
end
end
section
open Mc
def XP {k:FuncId} {xs:List AV} (h:CK Tryz.prog k xs Kgm) (w:World) (vs:Array Value) (b:vs.size=xs.length) (a:∀(i:Nat) (x:AV),xs[i]?=some x->@eE dK dN (fun _=>False) w x (vs.getD i Go.undef)):Calls Tryz.prog k vs w fun e w'=>e=.returned (.bool true)/\Below w.heap.size w w':=by
 refine(h.ok (fun _=>False) w vs (fun _ h=>h.elim) (fun t h=>absurd h a0b) b a).mono ?_;rintro e w' ⟨v,rfl,d,c⟩;cases d;exact⟨rfl,c⟩
def agv {w:World} {a:Option Addr} {n cap:Nat} {z:List Int} (h:Row w 1 a n cap z):@eE dK dN (fun _=>False) w (.lit 1 (aA z)) (.slice a n cap):=by
 obtain⟨p,f,l,o,c⟩:=h;have e:n=z.length:=by omega
 subst e;rw[MZ];have d:(z.map fun v=>[v]).length=z.length:=by simp
 rw[<-d]at f |-;refine Cg (by intro r g;obtain⟨x,-,rfl⟩:=a0l.1 g;rfl) f l ?_;rw[d,LI];rcases c with c|⟨b,off,c,k,j⟩
 .exact .inl c
 .exact .inr ⟨b,off,c,fun h=>h,k,fun i m=>j i (by omega)⟩
namespace GN
abbrev gnG (it:AV) (l:List AV) (i:AV):List AV:=fr 71 [(2,it),(7,.ptr 10 0 0 0),(22,.agg l),(23,i)]
abbrev gF (it:AV) (S T:bK) (i:AV):List AV:=gnG it [.i S.bU,.i S.bT,.lit 1 (aA S.weights),.lit 1 (bF S.methods),.lit 1 (bF S.cI),.lit 8 (bD S.aD),.lit 8 (hH S.bB),.lit 9 (dX S.aN),.lit 6 (fM S.aH),.i S.done,.i T.bU,.i T.bT,.lit 1 (aA T.weights),.lit 1 (bF T.methods),.lit 1 (bF T.cI),.lit 8 (bD T.aD),.lit 8 (hH T.bB),.lit 9 (dX T.aN),.lit 6 (fM T.aH),.i T.done] i
noncomputable def body:Code:=(Tryz.f5).body.getD .skip
abbrev ami (c:Code) (r:Option (RT Out)):Prop:=nV { vars:=[nB],bR:=Ks } c ([.o 0,.q 1 0,.v 0]++List.replicate 68 .undef) [] [some 0] (gnG (.v 0) [.o 3,.o 4,.q 1 5,.q 1 6,.q 1 7,.q 8 4,.q 8 8,.q 9 9,.q 6 10,.o 5,.o 6,.o 7,.q 1 12,.q 1 13,.q 1 14,.q 8 11,.q 8 15,.q 9 16,.q 6 17,.o 8] (.i 0)) [(.cells 31 10 [Wi])] r
noncomputable def age:Option (RT Out):=uL { vars:=[nB],bR:=Ks } body ([.o 0,.q 1 0,.v 0]++List.replicate 68 .undef:List AV).length ([.o 0,.q 1 0,.v 0]++List.replicate 68 .undef) [] 0
def aoL:ami body age:=⟨by unfold age;rfl,by decide +kernel,by decide +kernel⟩
abbrev ahb (c:Code):Prop:=dD { vars:=Dd,facts:=KdY,lens:=Kg2,bR:=[(12,Kfv,GP),(17,Kfv,GP),Kfq,Zq,(19,Kdx,Kds),(20,Kdx,Kds),(19,KdH,Kdi),(20,KdH,Kdi)] } c (gnG (.v 0) J6 (.i 0)) YE 0 [some 0] (gnG (.v 0) J6 (.i 1)) YE
abbrev ag9 (c:Code):Prop:=dD { vars:=Hw,facts:=KdY,lens:=Kg2,bR:=[(12,Kfv,BG),(17,Kfv,BG),Kfq,YK,(19,Kdx,Kdt),(20,Kdx,Kdt),(19,KdH,Kc5),(20,KdH,Kc5)] } c (gnG (.v 0) J6 (.i 0)) YE 0 [some 0] (gnG (.v 0) J6 (.i 1)) YE
abbrev aha (c:Code):Prop:=dD { vars:=Dd,facts:=KdY,lens:=Kg2,bR:=[(12,Ur,GP),(17,Ur,GP),Kfq,Zq,(19,YF,Kds),(20,YF,Kds),(19,YG,Kdi),(20,YG,Kdi)] } c (gnG (.v 0) J6 (.i 1)) YE 0 [some 0] (gnG (.v 0) J6 (.i 2)) YE
abbrev ag8 (c:Code):Prop:=dD { vars:=Hw,facts:=KdY,lens:=Kg2,bR:=[(12,Ur,BG),(17,Ur,BG),Kfq,YK,(19,YF,Kdt),(20,YF,Kdt),(19,YG,Kc5),(20,YG,Kc5)] } c (gnG (.v 0) J6 (.i 1)) YE 0 [some 0] (gnG (.v 0) J6 (.i 2)) YE
def ajs (X:bK):Prop :=
 (∃(now:Int) (its:List nW) (ml:List dE) (bs:List Int),(∀f,f=12\/f=17->Ck f [X.av] (.bG [.agg [.i now,.lit 4 (dP its),.lit 2 (bS ml),.lit 1 (aA bs)],.i 0])) /\
  Ck 18 [.agg [.i now,.lit 4 (dP its),.lit 2 (bS ml),.lit 1 (aA bs)],.agg [.i now,.lit 4 (dP its),.lit 2 (bS ml),.lit 1 (aA bs)]] Kgm) \/
 ∃er:Int,(1<=er/\er<=9)/\∀f,f=12\/f=17->Ck f [X.av] (NL.no er)
def ad5 {X:bK} (G:Gn X) (c:X.aD.length=2\/X.aD.length=3) (d:1<=X.weights.length) (M:Sml X):ajs X:=by
 by_cases k:∃x∈X.aD,x.closed=false
 .refine .inr ⟨8,by omega,?_⟩
  rintro f (rfl|rfl)
  .exact Nm (by omega) (ab6 G c k)
  .exact AY G c (.inl ⟨k,rfl⟩)
 .have j:∀x∈X.aD,x.closed=true:=fun x a=>by
   cases h:x.closed with
   |true=>rfl
   |false=>exact absurd ⟨x,a,h⟩ k
  rcases Pq G c j with⟨r,hs⟩|⟨r,t⟩
  .obtain⟨x,a⟩:∃x,X.aD[0]?=some x:=⟨_,a0d (by omega)⟩
   have m:=(Ih G d c M.b M.h M.y).1;have e:=ahT m;have w:=Pu G c d j M r a rfl;have A:=XH G c d j hs M a rfl;have p:=(G.aJ 0 x a).now;refine .inl ⟨_,_,_,_,?_,ai2 (now:=x.now) (its:=wM X X.weights.length) (ml:=eF (gL7 X)) (bs:=RZ X (eF (gL7 X)) 17) (by omega) (by simp[wM];have:=G.hw;omega) (by simp[RZ]) ?_ ?_ (by have:=e.len;omega) ?_⟩
   .rintro f (rfl|rfl)
    .exact w
    .exact A
   .intro g s
    obtain⟨i,l,rfl⟩:=a0l.1 s;obtain⟨f1,f2,u,f4⟩:=M.q (i:Int) ⟨by omega,by have:=a0v.1 l;omega⟩;obtain⟨-,-,B,-⟩:=f1.sum;obtain⟨-,-,b3,-⟩:=f2.sum;obtain⟨-,-,E,-⟩:=u.sum;obtain⟨-,-,D,-⟩:=f4.sum;unfold vM;dsimp only;exact⟨⟨by omega,by omega⟩,⟨by omega,by omega⟩,⟨by omega,by omega⟩,by omega,by omega⟩
   .intro v o
    obtain⟨i,l,rfl⟩:=a0l.1 o;obtain⟨-,-,B,-⟩:=(M.b (i:Int) ⟨by omega,by have:=a0v.1 l;omega⟩).sum;have C:=CS _ (fun x a=>(e.ok x a).2.2) (i:Int);have:=e.len;exact⟨by omega,by omega⟩
   .intro z n
    have:=e.ok z n;exact⟨⟨by omega,by omega⟩,by omega,by omega⟩
  .refine .inr ⟨9,by omega,?_⟩
   rintro f (rfl|rfl)
   .exact Nm (by omega) r
   .exact AY G c (.inr ⟨j,t,rfl⟩)
section
variable {S T:bK} {item:Int} {A:Nat->Prop} {w0:World} {a0:Act} {o:Option (RT Out)}
def anu (rF:ahb (aW o)) (v:ag9 (aW o)) (Q:1<=S.weights.length/\S.weights.length<=5) (t:fW item) (B:ajs S) {k f av g h d b e bd:Int} (R:0<=k/\k<S.weights.length) (u:Ck 14 [.i item,.i (S.weights.length:Int)] (.i k))
  (x:fW f/\fW av/\fW g/\fW h) (ib:fW d/\fW b/\fW e/\fW bd) (l:Ck 19 [S.av,.i item] (.agg [.i f,.i av,.i g,.i h])) (n:Ck 20 [S.av,.i item] (.agg [.i f,.i av,.i g,.i h]))
  (j:Ck 19 [S.av,.i k] (.agg [.i d,.i b,.i e,.i bd])) (m:Ck 20 [S.av,.i k] (.agg [.i d,.i b,.i e,.i bd])) {Φ:iO}
  (s:∀mm w a,@dZ dK dN A w0 a0 mm w a (gF (.i item) S T (.i 1)) (eB [GO.sR S])->Φ (AX.normal).to a w)
  (mm:Nat->St) (w:World) (a:Act) (r:@dZ dK dN A w0 a0 mm w a (gF (.i item) S T (.i 0)) (eB [GO.sR S])):(aW o).wpIn (fw none) 9 Tryz.prog Φ a w:=by
 have:=t.lo;have:=t.hi;obtain⟨⟨P,O⟩,⟨N,M⟩,⟨L,i6⟩,K,J⟩:=x;obtain⟨⟨H,G⟩,⟨F,E⟩,⟨D,C⟩,z,y⟩:=ib;rcases B with⟨now,its,ml,bs,c,p⟩|⟨er,U,c⟩
 .have q:=c _ (.inl rfl)
  have cB:=c _ (.inr rfl);exact rF.go (ev1 _ [item,(S.weights.length:Int),k,f,av,g,h,d,b,e,bd] (vT S (vT T [.I now])) (sT S (sT T [dP its,bS ml,aA bs])) .nil) (xK (kc q (kc cB (kc u (kc p (kc l (kc n (kc j (kc m kn))))))))) r (fd:=gF (.i item) S T (.i 1)) (bd:=[GO.sR S]) s
 .have q:=c _ (.inl rfl)
  have cB:=c _ (.inr rfl);have p:=Pt;exact v.go (ev1 _ [item,(S.weights.length:Int),k,er,f,av,g,h,d,b,e,bd] (vT S (vT T [])) (sT S (sT T [])) .nil) (xK (kc q (kc cB (kc u (kc p (kc l (kc n (kc j (kc m kn))))))))) r (fd:=gF (.i item) S T (.i 1)) (bd:=[GO.sR S]) s
def ant (rF:aha (aW o)) (v:ag8 (aW o)) (Q:1<=S.weights.length/\S.weights.length<=5) (t:fW item) (B:ajs T) {k f av g h d b e bd:Int} (R:0<=k/\k<S.weights.length) (u:Ck 14 [.i item,.i (S.weights.length:Int)] (.i k))
  (x:fW f/\fW av/\fW g/\fW h) (ib:fW d/\fW b/\fW e/\fW bd) (l:Ck 19 [T.av,.i item] (.agg [.i f,.i av,.i g,.i h])) (n:Ck 20 [T.av,.i item] (.agg [.i f,.i av,.i g,.i h]))
  (j:Ck 19 [T.av,.i k] (.agg [.i d,.i b,.i e,.i bd])) (m:Ck 20 [T.av,.i k] (.agg [.i d,.i b,.i e,.i bd])) {Φ:iO}
  (s:∀mm w a,@dZ dK dN A w0 a0 mm w a (gF (.i item) S T (.i 2)) (eB [GO.sR S])->Φ (AX.normal).to a w)
  (mm:Nat->St) (w:World) (a:Act) (r:@dZ dK dN A w0 a0 mm w a (gF (.i item) S T (.i 1)) (eB [GO.sR S])):(aW o).wpIn (fw none) 9 Tryz.prog Φ a w:=by
 have:=t.lo;have:=t.hi;obtain⟨⟨P,O⟩,⟨N,M⟩,⟨L,i6⟩,K,J⟩:=x;obtain⟨⟨H,G⟩,⟨F,E⟩,⟨D,C⟩,z,y⟩:=ib;rcases B with⟨now,its,ml,bs,c,p⟩|⟨er,U,c⟩
 .have q:=c _ (.inl rfl)
  have cB:=c _ (.inr rfl);exact rF.go (ev1 _ [item,(S.weights.length:Int),k,f,av,g,h,d,b,e,bd] (vT S (vT T [.I now])) (sT S (sT T [dP its,bS ml,aA bs])) .nil) (xK (kc q (kc cB (kc u (kc p (kc l (kc n (kc j (kc m kn))))))))) r (fd:=gF (.i item) S T (.i 2)) (bd:=[GO.sR S]) s
 .have q:=c _ (.inl rfl)
  have cB:=c _ (.inr rfl);have p:=Pt;exact v.go (ev1 _ [item,(S.weights.length:Int),k,er,f,av,g,h,d,b,e,bd] (vT S (vT T [])) (sT S (sT T [])) .nil) (xK (kc q (kc cB (kc u (kc p (kc l (kc n (kc j (kc m kn))))))))) r (fd:=gF (.i item) S T (.i 2)) (bd:=[GO.sR S]) s
end
def walk (oA:Option (RT Out)) (H:ami body oA) (s:ahb (aW oA)) (o:ag9 (aW oA)) (r:aha (aW oA)) (h:ag8 (aW oA)) (G:dD { vars:=[nB] } (aW oA) (gnG (.v 0) J6 (.i 2)) YE 2 [some 0] (gnG (.v 0) J6 (.i 2)) YE) (F:iU { vars:=[nB],bR:=[(13,[],Kgm)] } Tryz.f5 oA 0 (gnG (.v 0) J6 (.i 2)) YE Kf9) {S T:bK} {v item m per:Int} {l ws:List Int} {ms cs:List (List Int)} (W:l.length<=9223372036854775807)
  (x:1<=S.weights.length/\S.weights.length<=5) (e:fW item) (Y:T.weights.length=S.weights.length) (V:ajs S) (U:ajs T)
  (gS:∀i,fW i->∃q v p d:Int,(fW q/\fW v/\fW p/\fW d)/\Ck 19 [S.av,.i i] (.agg [.i q,.i v,.i p,.i d])/\Ck 20 [S.av,.i i] (.agg [.i q,.i v,.i p,.i d]))
  (z:∀i,fW i->∃q v p d:Int,(fW q/\fW v/\fW p/\fW d)/\Ck 19 [T.av,.i i] (.agg [.i q,.i v,.i p,.i d])/\Ck 20 [T.av,.i i] (.agg [.i q,.i v,.i p,.i d]))
  (Q:Ck 11 [.i v] (mAv m per ws ms cs)) (P:Ck 10 [mAv m per ws ms cs,.lit 1 (aA l)] S.av) (cC:Ck 9 [S.av] T.av) (R:Ck 13 [] Kgm) :
  Ck 5 [.i v,.lit 1 (aA l),.i item] Kgm:=by
 have:=e.lo;have:=e.hi;obtain⟨k,f⟩:∃k,k=item%(S.weights.length:Int):=⟨_,rfl⟩;have y:0<=k/\k<S.weights.length:=by rw[f];exact⟨a2d _ (by omega),a24 _ (by omega)⟩
 have g:=Np item (S.weights.length:Int);rw[<-f]at g;have t:fW k:=⟨by omega,by omega⟩;obtain⟨aq,av,ap,ad,K,E,O⟩:=gS item e;obtain⟨bq,bv,bp,bd,ib,D,N⟩:=gS k t;obtain⟨cq,cv,cp,cd,J,C,M⟩:=z item e;obtain⟨dq,Z,dp,dd,u,B,L⟩:=z k t;refine CK.fP Tryz.func5 (c:=body) (by kernel_rfl) (yO.out) (uD.out) fun A w0 a0=>?_
 intro mm w a b;rw[Tryz.ntmps5]at b;refine H.go (ev1 _ [item] [.I v,.I m,.I per,.I S.bU,.I S.bT,.I S.done,.I T.bU,.I T.bT,.I T.done] [aA l,aA ws,bF ms,bF cs,bD S.aD,aA S.weights,bF S.methods,bF S.cI,hH S.bB,dX S.aN,fM S.aH,bD T.aD,aA T.weights,bF T.methods,bF T.cI,hH T.bB,dX T.aN,fM T.aH] .nil) (xK (kc Q (kc P (kc cC kn)))) b (fd:=gF (.i item) S T (.i 0)) (bd:=[GO.sR S]) ?_;intro mm w a b;refine cN (fun n a w=>∃j:Nat,n=2-j/\j<=2/\∃mm,@dZ dK dN A w0 a0 mm w a (gF (.i item) S T (.i (j:Int))) (eB [GO.sR S])) ?_ (n:=2) ⟨0,rfl,a0j _,_,b⟩;clear b;rintro n a w ⟨j,rfl,X,mm,b⟩;rcases(by omega:j=0\/j=1\/j=2)with rfl|rfl|rfl
 .exact anu s o x e V y g K ib E O D N (fun mm w a b=>⟨_,by omega,1,rfl,by omega,mm,b⟩) mm w a b
 .exact ant r h x e U y g J u C M B L (fun mm w a b=>⟨_,by omega,2,rfl,by omega,mm,b⟩) mm w a b
 .refine G.go (ev1 _ [item] (vT S (vT T [])) (sT S (sT T [])) .nil) (xK kn) b ?_
  intro mm w a b;exact F.go (ev1 _ [item] (vT S (vT T [])) (sT S (sT T [])) .nil) (xK (kc R kn)) b
end GN
def Ll {v item:Int} {l:List Int} (g:l.length<=9223372036854775807) (n:fW item):Ck 5 [.i v,.lit 1 (aA l),.i item] Kgm:=by
 obtain⟨m,per,ws,ms,cs,M,r⟩:=afh v;obtain⟨k,S,⟨j,-⟩,o,R,q⟩:=XO M l g;have s:=M.w2;have u:=M.n2;have t:=M.n3;have lk:=o.lk M j;have a:1<=S.weights.length:=by rw[R.wt];omega
 have cC:=Py R.gn a (by rw[R.pe];have:=M.p;omega);have c:=Ig R.gn (k:=(k:Int)) (by omega) (by omega) a lk S.aD.length (a0h _);have w:=R.le;generalize kI S S.aD.length=T at *;have d:T.aD.length=2\/T.aD.length=3:=by rw[c.le];omega
 have b:S.aD.length=2\/S.aD.length=3:=by omega
 have f:T.weights.length=S.weights.length:=by rw[c.wt]
 have e:=aaH R.gn lk (by omega) (by omega) b;have sT:=aaH c.gn c.lk (by omega) (by omega) d;exact GN.walk GN.age GN.aoL .of .of .of .of .of .of g ⟨a,R.gn.hw⟩ n f (GN.ad5 R.gn b a e) (GN.ad5 c.gn d (by omega) sT) (fun i h=>Ps R.gn b a h e) (fun i h=>Ps c.gn d (by omega) h sT) r q cC ai5
def Fc (v:Int) (h:Option Addr) (a d:Nat) (g:List Int) (item:Int) (w:World) (w0:fW v) (f:Row w 1 h a d g) (j:fW item) :
  Calls Tryz.prog 5 #[.int .i64 v,.slice h a d,.int .i64 item] w fun e w'=>e=.returned (.bool true)/\Below w.heap.size w w':=by
 have e1:=f.len;have e2:=f.le;have m:=f.max;simp only[maxLen]at m;refine XP (Ll (v:=v) (item:=item) (l:=g) (by omega) j) w _ rfl ?_;intro i x b;rcases(by omega:i=0\/i=1\/i=2\/3<=i)with rfl|rfl|rfl|k
 .cases b;exact @eE.c dK dN _ _ _
 .cases b;exact agv f
 .cases b;exact @eE.c dK dN _ _ _
 .rw[a1k k]at b;cases b
end
end Go.Proofs.YtnepgggkgnckcaaGreat
