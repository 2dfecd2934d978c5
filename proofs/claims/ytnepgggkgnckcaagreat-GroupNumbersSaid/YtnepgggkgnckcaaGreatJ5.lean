/-
 Texts joined and made small by wip/small.sh.
-/
import Derived.Test.YtnepgggkgnckcaaGreatJ4
set_option linter.all false
set_option maxHeartbeats 4000000
set_option maxRecDepth 1000000
namespace Go.Proofs.YtnepgggkgnckcaaGreat
open Go.RowKit
section
open Mc
namespace FT
abbrev tF (a b c l n i:AV):List AV:=fr 67 [(2,.ptr 3 0 0 0),(3,.i 0),(4,a),(5,b),(6,c),(14,l),(15,n),(16,i)]
abbrev SQ (i:AV):List AV:=fr 67 [(2,.ptr 3 0 0 0),(3,.i 0),(9,.ptr 3 1 0 0),(45,.own 238 2 2 0 3),(46,.i 3),(47,i)]
abbrev zB:Mc.dC:=.cells 101 3 [[.i 0,.i 0,.i 0]]
abbrev cB (R:List (List AV)):Mc.dC:=.cells 3 1 R
abbrev tB (Q V P:List (List AV)):List Mc.dC:=[zB,cB Q,cB V,cB P]
abbrev tB2 (n:Nat) (a b c:Int) (Q V P:List (List AV)):List Mc.dC:=[zB,.cells 101 3 [[.i a,.i b,.i c]],.cells 238 2 [[.ptr 3 1 0 0,.own 3 1 3 0 n],[.ptr 3 1 0 1,.own 3 1 4 0 n],[.ptr 3 1 0 2,.own 3 1 5 0 n]],cB Q,cB V,cB P]
abbrev fT (L:List bV) (j:Nat) (i:Int):List AV:=tF (.own 3 1 1 0 j) (.own 3 1 2 0 j) (.own 3 1 3 0 j) (.lit 3 (aO L)) (.i (L.length:Int)) (.i i)
noncomputable def body:Code:=(Tryz.f169).body.getD .skip
abbrev amx (c:Code) (r:Option (RT Out)):Prop:=nV { vars:=[(0,30)],lens:=KgN } c ([.q 3 0]++List.replicate 66 .undef) [] [some 0,none,none,none] (tF Kgx Kgy Kgz (.q 3 0) (.v 0) (.i 0)) [KbZ,KgO,KgO,KgO] r
noncomputable def Tf:Option (RT Out):=uL { vars:=[(0,30)],lens:=KgN } body ([.q 3 0]++List.replicate 66 .undef:List AV).length ([.q 3 0]++List.replicate 66 .undef) [] 0
def aoR:amx body Tf:=⟨by unfold Tf;rfl,by decide +kernel,by decide +kernel⟩
abbrev abq (o:Option (RT Out)) (r:Option (RT Out)):Prop:=pJ { vars:=[(0,30)],lens:=W7 } o 0 (tF KeT KeU KeV (.q 3 0) (.v 0) (.v 0)) Qp [some 0,some 4,some 5,some 1,some 2,some 3] (SQ (.i 0)) Kz r
noncomputable def aaO:Option (RT Out):=IF { vars:=[(0,30)],lens:=W7 } Tf 0 (tF KeT KeU KeV (.q 3 0) (.v 0) (.v 0):List AV).length (tF KeT KeU KeV (.q 3 0) (.v 0) (.v 0)) Qp 4
def anm:abq Tf aaO:=⟨by unfold aaO;rfl,by decide +kernel,by decide +kernel⟩
abbrev amA (c:Code):Prop:=dD { vars:=[(0,30)],lens:=W7,bR:=[(72,[.q 1 1],(.bG [.o 0,.i 0]))] } c (SQ (.i 0)) Kz 0 [some 0,some 1,some 2,some 3,some 4,some 5] (SQ (.i 1)) KA
abbrev amz (c:Code):Prop:=dD { vars:=[(0,30)],lens:=W7,bR:=[(72,[.q 1 2],(.bG [.o 1,.i 0]))] } c (SQ (.i 1)) KA 0 [some 0,some 1,some 2,some 3,some 4,some 5] (SQ (.i 2)) KB
abbrev amy (c:Code):Prop:=dD { vars:=[(0,30)],lens:=W7,bR:=[(72,[.q 1 3],(.bG [.o 2,.i 0]))] } c (SQ (.i 2)) KB 0 [some 0,some 1,some 2,some 3,some 4,some 5] (SQ (.i 3)) KC
abbrev ahh (c:Code):Prop:=dD { vars:=[(0,30)],lens:=W7 } c (SQ (.i 3)) KC 4 [some 0,some 1,some 2,some 3,some 4,some 5] (SQ (.i 3)) KC
abbrev amw (o:Option (RT Out)):Prop:=iU { vars:=[(0,30)],lens:=W7 } Tryz.f169 o 2 (SQ (.i 3)) KC (KaH)
section
variable {A:Nat->Prop} {w0:World} {a0:Act} {L:List bV} {Q V P:List Int} {tq tv tp:Int}
def I9 {o:Option (RT Out)} (r0:amA (aW o)) (r1:amz (aW o)) (r2:amy (aW o)) (d:ahh (aW o)) (c:amw o) (p:L.length<=30) (l:Q.length=L.length) (k:V.length=L.length) (m:P.length=L.length)
  (h:Ck 72 [.lit 1 (aA Q)] (.bG [.i tq,.i 0])) (g:Ck 72 [.lit 1 (aA V)] (.bG [.i tv,.i 0])) (f:Ck 72 [.lit 1 (aA P)] (.bG [.i tp,.i 0]))
  (mm:Nat->St) (w:World) (a:Act) (b:@dZ dK dN A w0 a0 mm w a (SQ (.i 0)) (eB (tB2 L.length 0 0 0 (aA Q) (aA V) (aA P)))):(Code.loop (aW o)).wpIn (fw none) 9 Tryz.prog (KS Tryz.prog (oK o) (Fin Tryz.prog Tryz.f169 A w0 a0 (.bG [.agg [.i tq,.i tv,.i tp],.i 0]))) a w:=by
 have q:(aO L).length=L.length:=by simp[aO]
 refine cN (fun n a w=>∃(j:Nat) (x y z:Int),n=3-j/\(j=0/\x=0/\y=0/\z=0\/j=1/\tq=x/\y=0/\z=0\/j=2/\tq=x/\tv=y/\z=0\/j=3/\tq=x/\tv=y/\tp=z)/\∃mm,@dZ dK dN A w0 a0 mm w a (SQ (.i (j:Int))) (eB (tB2 L.length x y z (aA Q) (aA V) (aA P)))) ?_ (n:=3) ⟨0,0,0,0,rfl,.inl ⟨rfl,rfl,rfl,rfl⟩,mm,b⟩;rintro n a w ⟨j,x,y,z,rfl,e,mm,b⟩;rcases e with⟨rfl,rfl,rfl,rfl⟩|⟨rfl,rfl,rfl,rfl⟩|⟨rfl,rfl,rfl,rfl⟩|⟨rfl,rfl,rfl,rfl⟩
 .refine r0.go (ev1 _ [(L.length:Int)] [.I tq,.I tv,.I tp] [aO L,aA Q,aA V,aA P] .nil) (xK (kc h kn)) b (fd:=SQ (.i 1)) (bd:=tB2 L.length tq 0 0 (aA Q) (aA V) (aA P)) ?_
  exact fun mm w a b=>⟨_,by omega,1,_,_,_,rfl,.inr (.inl ⟨rfl,rfl,rfl,rfl⟩),mm,b⟩
 .refine r1.go (ev1 _ [(L.length:Int)] [.I tq,.I tv,.I tp] [aO L,aA Q,aA V,aA P] .nil) (xK (kc g kn)) b (fd:=SQ (.i 2)) (bd:=tB2 L.length tq tv 0 (aA Q) (aA V) (aA P)) ?_
  exact fun mm w a b=>⟨_,by omega,2,_,_,_,rfl,.inr (.inr (.inl ⟨rfl,rfl,rfl,rfl⟩)),mm,b⟩
 .refine r2.go (ev1 _ [(L.length:Int)] [.I tq,.I tv,.I tp] [aO L,aA Q,aA V,aA P] .nil) (xK (kc f kn)) b (fd:=SQ (.i 3)) (bd:=tB2 L.length tq tv tp (aA Q) (aA V) (aA P)) ?_
  exact fun mm w a b=>⟨_,by omega,3,_,_,_,rfl,.inr (.inr (.inr ⟨rfl,rfl,rfl,rfl⟩)),mm,b⟩
 .refine d.go (ev1 _ [(L.length:Int)] [.I tq,.I tv,.I tp] [aO L,aA Q,aA V,aA P] .nil) (xK kn) b ?_
  intro mm w a b;exact c.go (ev1 _ [(L.length:Int)] [.I tq,.I tv,.I tp] [aO L,aA Q,aA V,aA P] .nil) (xK kn) b
def next {o b:Option (RT Out)} (c:abq o b) (j:L.length<=30) (g:Q.length=L.length) (f:V.length=L.length) (h:P.length=L.length) {Φ:iO}
  (e:∀mm w a,@dZ dK dN A w0 a0 mm w a (SQ (.i 0)) (eB (tB2 L.length 0 0 0 (aA Q) (aA V) (aA P)))->(Code.loop (aW b)).wpIn (fw none) 9 Tryz.prog (KS Tryz.prog (oK b) Φ) a w)
  (mm:Nat->St) (w:World) (a:Act) (d:@dZ dK dN A w0 a0 mm w a (fT L L.length L.length) (eB (tB (aA Q) (aA V) (aA P)))):KS Tryz.prog (oK o) Φ (AX.exit 0).to a w:=by
 have k:(aO L).length=L.length:=by simp[aO]
 exact c.go (ev1 _ [(L.length:Int)] [] [aO L,aA Q,aA V,aA P] .nil) (xK kn) d (fd:=SQ (.i 0)) (bd:=tB2 L.length 0 0 0 (aA Q) (aA V) (aA P)) e
end
def walk (oA l:Option (RT Out)) (K:amx body oA) (J:dD { vars:=[(0,30),(0,29)],facts:=[(Kgc,1,30)],lens:=[Kg7,Kg9,(2,[([1],1)]),(3,[([1],1)])],gI:=[(0,[([1],1)],KgA)] } (aW oA) (tF KeW (.cZ 3 1 2 [([1],1)]) KeX (.q 3 0) (.v 0) (.v 1)) [KbZ,(.sc 3 1 1 [] [] [([1],1)]),(.sc 3 1 2 [] [] [([1],1)]),(.sc 3 1 3 [] [] [([1],1)])] 0 [some 0,some 6,some 8,some 10] (tF KcM (.cZ 3 1 2 KgB) (.cZ 3 1 3 KgB) (.q 3 0) (.v 0) Kfz) [KbZ,(.sc 3 1 1 [] [[.o 0]] KgB),(.sc 3 1 2 [] [[.o 1]] KgB),(.sc 3 1 3 [] [[.o 2]] KgB)]) (H:dD { vars:=[(0,30)],lens:=W7 } (aW oA) (tF KeT KeU KeV (.q 3 0) (.v 0) (.v 0)) Qp 2 [some 0,some 1,some 2,some 3] (tF KeT KeU KeV (.q 3 0) (.v 0) (.v 0)) Qp) (z:abq oA l) (r0:amA (aW l)) (r1:amz (aW l)) (r2:amy (aW l)) (y:ahh (aW l)) (G:amw l) {L:List bV} (h:LR L) :
  Ck 169 [.lit 3 (aO L)] (.bG [(⟨qs L,vs L,ps L⟩:bV).av,.i 0]):=by
 have B:=h.len;have U:(aO L).length=L.length:=by simp[aO]
 obtain⟨F,E,D,-⟩:=h.I9;have r:∀{f:bV->Int} {s:Int},dO 0 (L.map f)=some s->(∀x∈L,fW (f x))->Ck 72 [.lit 1 (aA (L.map f))] (.bG [.i s,.i 0]):=by
  intro f s e N;have:=qZ (L.map f) (fun v M=>by obtain⟨x,g,rfl⟩:=a0l.1 M;exact N x g);unfold dJ dW at this;rw[e]at this;exact this
 have T:=r F (fun x g=>by have:=h.at_ g;exact⟨by omega,by omega⟩);have S:=r E (fun x g=>by have:=h.at_ g;exact⟨by omega,by omega⟩);have R:=r D (fun x g=>by have:=h.at_ g;exact⟨by omega,by omega⟩);refine CK.fP Tryz.func169 (c:=body) (by kernel_rfl) (yO.out) (uD.out) fun A w0 a0=>?_;intro mm w a b;rw[Tryz.ntmps169]at b;refine K.go (ev1 _ [(L.length:Int)] [] [aO L] .nil) (xK kn) b (fd:=fT L 0 0) (bd:=tB [] [] []) ?_;intro mm w a b;refine cN (fun n a w=>∃j:Nat,n=L.length-j/\j<=L.length/\∃mm,@dZ dK dN A w0 a0 mm w a (fT L j j) (eB (tB (aA ((L.take j).map (·.q))) (aA ((L.take j).map (·.v))) (aA ((L.take j).map (·.p)))))) ?_ (n:=L.length) ⟨0,rfl,a0j _,mm,b⟩;rintro n a w ⟨j,rfl,W,mm,b⟩;rcases(by omega:j=L.length\/j<L.length)with rfl|C
 .rw[a04]at b
  have k:∀f:bV->Int,(L.map f).length=L.length:=fun f=>by simp
  have e1:=k (·.q);have e2:=k (·.v);have u:=k (·.p);generalize L.map (·.q)=Q at *;generalize L.map (·.v)=V at *;generalize L.map (·.p)=P at *;refine H.go (ev1 _ [(L.length:Int)] [] [aO L,aA Q,aA V,aA P] .nil) (xK kn) b ?_;exact next z B e1 e2 u (I9 r0 r1 r2 y G B e1 e2 u T S R)
 .obtain⟨x,m⟩:∃x,L[j]?=some x:=⟨_,a0d C⟩
  have g:L[(j:Int).toNat]?=some x:=by simpa using m
  have k:∀f:bV->Int,((L.take j).map f).length=j:=fun f=>by simp;omega
  have t:∀f:bV->Int,aA ((L.take j).map f)++[[.i (f x)]]=aA ((L.take (j+1)).map f):=fun f=>by rw[a0n,m];simp[aA]
  have e1:=k (·.q);have e2:=k (·.v);have u:=k (·.p);have f1:=t (·.q);have f2:=t (·.v);have O:=t (·.p)
  have nx:∀mm w a,@dZ dK dN A w0 a0 mm w a (fT L (1+(j:Int)).toNat (1+(j:Int))) (eB (tB (aA ((L.take (j+1)).map (·.q))) (aA ((L.take (j+1)).map (·.v))) (aA ((L.take (j+1)).map (·.p)))))->∃n',n'<L.length-j/\∃j:Nat,n'=L.length-j/\j<=L.length/\∃mm,@dZ dK dN A w0 a0 mm w a (fT L j j) (eB (tB (aA ((L.take j).map (·.q))) (aA ((L.take j).map (·.v))) (aA ((L.take j).map (·.p))))):=by
   intro mm w a b;rw[show(1+(j:Int))=((j+1:Nat):Int)by omega,a0w]at b;exact⟨_,by omega,j+1,rfl,by omega,mm,b⟩
  rw[<-f1,<-f2,<-O]at nx;generalize (L.take j).map (·.q)=Q at *;generalize (L.take j).map (·.v)=V at *;generalize (L.take j).map (·.p)=P at *;exact J.go (ev1 _ [(L.length:Int),(j:Int)] [.I x.q,.I x.v,.I x.p] [aO L,aA Q,aA V,aA P] (.d (aY g) .nil)) (xK kn) b (fd:=fT L (1+(j:Int)).toNat (1+(j:Int))) (bd:=tB (aA Q++[[.i x.q]]) (aA V++[[.i x.v]]) (aA P++[[.i x.p]])) nx
end FT
def Pv {l:List bV} (h:LR l):Ck 169 [.lit 3 (aO l)] (.bG [(⟨qs l,vs l,ps l⟩:bV).av,.i 0]) :=
 FT.walk FT.Tf FT.aaO FT.aoR .of .of FT.anm .of .of .of .of .of h
end
section
open Mc
def dI.pn (p:dI):tY:=⟨p.p0,p.p1,p.p2⟩
def Xd {l:List bV} {x:bV}:0<=(Cy l x).2/\(Cy l x).2<=20:=by
 unfold Cy;split
 .exact⟨by simp,by simp⟩
 .split
  .exact⟨by simp,by simp⟩
  .split<;>exact⟨by simp,by simp⟩
end
section
variable {x:bV}
def aj2 (d:tY) (k q:Int):(d.add k q).a+(d.add k q).b+(d.add k q).c=d.a+d.b+d.c+q:=by
 unfold tY.add;split
 .simp only;omega
 .split<;>(simp only;omega)
def aa8 {d:tY} (h:aei d) (k:Int):0<=d.get k/\d.get k<=d.a+d.b+d.c:=by
 have g:=h.a0;have f:=h.b0;have e:=h.c0;unfold tY.get;split
 .omega
 .split<;>omega
structure jS (m:Int) (l:List bV) (d:tY):Prop where
 lr:LR l
 one:m=1\/l.length<=1
 a0:0<=d.a
 b0:0<=d.b
 c0:0<=d.c
 sum:d.a+d.b+d.c<=qs l
 zero:m=3\/(d.a=0/\d.b=0/\d.c=0)
def jS.pnd {m:Int} {l:List bV} {d:tY} (h:jS m l d):aei d:=by
 have:=h.lr.q;have:=h.sum;have:=h.a0;have:=h.b0;have:=h.c0;exact⟨by omega,by omega,by omega,by omega,by omega,by omega⟩
def ED {l m:List bV} (h:Cy l x=(m,0)):m=l++[x]/\qs m=qs l+x.q/\vs m=vs l+x.v/\LR m/\1<=x.q:=by
 unfold Cy at h;split at h
 .cases h
 .rename_i b
  split at h
  .cases h
  .split at h
   .rename_i a
    cases h;exact⟨rfl,by rw[FD];simp[qs],by rw[Fo];simp[vs],LR.of a,by omega⟩
   .cases h
def wK {l m:List bV} (h:zJ l x=(m,0)):m.length=1/\qs m=qs l+x.q/\vs m=vs l+x.v/\1<=x.q:=by
 unfold zJ at h;split at h
 .rename_i a
  cases h;obtain⟨k,e,b⟩:∃k e,Cy l x=(k,e):=⟨_,_,rfl⟩;rw[b]at a |-;simp only at a |-;subst a;obtain⟨-,f,d,c,g⟩:=ED b;refine⟨rfl,?_,?_,g⟩
  .rw[c.uF.1];simp[qs]at f |-;exact f
  .rw[c.uF.1];simp[vs]at d |-;exact d
 .rename_i a
  exact absurd (congrArg Prod.snd h) a
def jS.in_ {m c:Int} {l l':List bV} {d:tY} {up e':Int} (h:jS m l d) (A:1<=m/\m<=4) (a:fD m c l x=(l',up,e')) :
  jS m l' d/\(e'=0->vs l'=vs l+x.v-up)/\(e'≠0->l'=l):=by
 have i:LR (fD m c l x).1:=aa7 h.lr;have g:=@MG m c l x;rw[a]at i g;simp only at i g;by_cases s:e'=0
 .subst s
  have key:qs l'=qs l+x.q/\vs l'=vs l+x.v-up/\1<=x.q/\(m=1\/l'.length<=1):=by
   unfold fD at a;split at a
   .have f:Cy l x=(l',0):=Prod.ext (congrArg (fun r=>r.1) a) (congrArg (fun r=>r.2.2) a)
    have o:up=0:=(congrArg (fun r=>r.2.1) a).symm;obtain⟨-,e,j,-,b⟩:=ED f;exact⟨e,by omega,b,.inl ‹_›⟩
   .split at a
    .have f:zJ l x=(l',0):=Prod.ext (congrArg (fun r=>r.1) a) (congrArg (fun r=>r.2.2) a)
     have o:up=0:=(congrArg (fun r=>r.2.1) a).symm;obtain⟨t,e,j,b⟩:=wK f;exact⟨e,by omega,b,.inr (by omega)⟩
    .split at a
     .have f:zJ l x=(l',0):=Prod.ext (congrArg (fun r=>r.1) a) (congrArg (fun r=>r.2.2) a)
      have o:up=0:=(congrArg (fun r=>r.2.1) a).symm;obtain⟨t,e,j,b⟩:=wK f;exact⟨e,by omega,b,.inr (by omega)⟩
     .split at a
      .unfold inC at a
       split at a
       .cases a
       .split at a
        .cases a
        .split at a
         .rename_i k
          have f:zJ l ⟨x.q,CJ c x.q,x.p⟩=(l',0):=Prod.ext (congrArg (fun r=>r.1) a) k;have o:up=x.v-CJ c x.q:=(congrArg (fun r=>r.2.1) a).symm;obtain⟨t,e,j,b⟩:=wK f;simp only at e j b;exact⟨e,by omega,b,.inr (by omega)⟩
         .rename_i k
          exact absurd (congrArg (fun r=>r.2.2) a) k
      .cases a
  obtain⟨z,w,y,u⟩:=key;have:=h.sum;exact⟨⟨i,u,h.a0,h.b0,h.c0,by omega,h.zero⟩,fun _=>w,fun n=>absurd rfl n⟩
 .obtain⟨rfl,-⟩:=g s
  exact⟨h,fun n=>absurd n s,fun _=>rfl⟩
def wD {l m:List bV} {y:bV} {q:Int} (h:LR l) (a:fU l q=(m,y,0)):1<=q/\q<=qs l/\qs m=qs l-q/\y.v+vs m=vs l/\m.length<=l.length/\0<=y.v:=by
 have f:¬ q<1:=fun h=>by rw[fU,if_pos h]at a;cases a
 have c:q<=qs l:=by
  rcases(by omega:qs l<q\/q<=qs l)with h'|h'
  .rw[Cs h (by omega) h']at a;cases a
  .exact h'
 have hs:=TF h a;have b:=En (l:=l) (q:=q);rw[a]at b;have d:=wE l .zero q h (by omega) c;rw[Em h (by omega) c]at a;have e:m=(jL l .zero q).1:=(congrArg (fun r=>r.1) a).symm;rw[<-e]at d;exact⟨by omega,c,d.2.1,by omega,b,hs.1⟩
def ahv {l m:List bV} {y:bV} {q c:Int} (h:LR l) (f:Cw l q c=(m,y,0)):1<=q/\q<=qs l/\qs m=qs l-q/\y.v+vs m=vs l/\m.length<=l.length:=by
 unfold Cw at f;split at f
 .exact absurd (congrArg (fun r=>r.2.2) f) (by simp)
 .split at f
  .rename_i g s o
   have n:s=0:=congrArg (fun r=>r.2.2) f;have k:[]=m:=congrArg (fun r=>r.1) f;have j:g=y:=congrArg (fun r=>r.2.1) f;subst n k j;obtain⟨a,b,c,d,e,-⟩:=wD h o;exact⟨a,b,c,d,e⟩
  .rename_i z t g s o
   split at f
   .rename_i i
    exact absurd (congrArg (fun r=>r.2.2) f) i
   .rename_i i
    have n:s=0:=(by simpa using i);subst n;obtain⟨a,b,u,d,e,-⟩:=wD h o;simp only at f;generalize (if ofE c q≠0\/z.v+g.v<CJ c q then z.v+g.v else CJ c q)=V at f;have k:(⟨z.q,z.v+(g.v-V),z.p⟩:bV)::t=m:=congrArg (fun r=>r.1) f;have j:(⟨g.q,V,g.p⟩:bV)=y:=congrArg (fun r=>r.2.1) f;subst k j;rw[gQ]at u;rw[mO]at d;refine⟨a,b,?_,?_,by simpa using e⟩
    .rw[gQ];exact u
    .rw[mO];simp only;omega
def jS.ao2 {m c:Int} {l l':List bV} {d d':tY} {y:bV} {wt:Bool} {kind q e':Int} (h:jS m l d) (G:1<=m/\m<=4) (H:0<=kind/\kind<=3) (e:dG m c l d kind q=(l',d',y,wt,e')) :
  jS m l' d'/\y.v+vs l'=vs l:=by
 have i:LR (dG m c l d kind q).1:=Tx h.lr;rw[e]at i;simp only at i;unfold dG at e;rw[if_neg (by omega),if_neg (by omega)]at e;by_cases t:m=3/\kind≠3
 .rw[if_pos t]at e
  obtain⟨rfl,B⟩:=t;have e1:l=l':=congrArg (fun r=>r.1) e;have e2:(qD l d kind q).1=d':=congrArg (fun r=>r.2.1) e;have k:bV.zero=y:=congrArg (fun r=>r.2.2.1) e;subst e1 k;refine⟨?_,by simp[bV.zero]⟩;unfold qD at e2;split at e2
  .subst e2;exact h
  .split at e2
   .subst e2;exact h
   .rename_i J w
    subst e2;have j:wN l d=qs l-d.a-d.b-d.c:=rfl;rw[j]at w;have hs:=aj2 d kind q;have I:=aa8 h.pnd kind;have z:=h.a0;have p:=h.b0;have o:=h.c0
    have g:0<=(d.add kind q).a/\0<=(d.add kind q).b/\0<=(d.add kind q).c:=by
     unfold tY.add;split
     .exact⟨by simp only;omega,p,o⟩
     .split
      .exact⟨z,by simp only;omega,o⟩
      .exact⟨z,p,by simp only;omega⟩
    have u:(d.add kind q).a+(d.add kind q).b+(d.add kind q).c<=qs l:=(by omega);exact⟨h.lr,h.one,g.1,g.2.1,g.2.2,u,.inl rfl⟩
 .rw[if_neg t]at e
  have e1:(fV m c l d q).1=l':=congrArg (fun r=>r.1) e;have e2:d=d':=congrArg (fun r=>r.2.1) e;have k:(fV m c l d q).2.1=y:=congrArg (fun r=>r.2.2.1) e;subst e2;by_cases x:(fV m c l d q).2.2=0
  .have f:fV m c l d q=(l',y,0):=Prod.ext e1 (Prod.ext k x)
   have key:qs l'=qs l-q/\y.v+vs l'=vs l/\l'.length<=l.length/\d.a+d.b+d.c<=qs l-q:=by
    unfold fV at f;split at f
    .unfold AK at f
     split at f
     .exact absurd (congrArg (fun r=>r.2.2) f) (by simp)
     .split at f
      .exact absurd (congrArg (fun r=>r.2.2) f) (by simp)
      .rename_i w
       obtain⟨-,-,a,b,n,-⟩:=wD h.lr f;have j:wN l d=qs l-d.a-d.b-d.c:=rfl;rw[j]at w;exact⟨a,b,n,by omega⟩
    .rename_i A
     have F:d.a=0/\d.b=0/\d.c=0:=by
      rcases h.zero with h'|h'
      .exact absurd h' A
      .exact h'
     split at f
     .obtain⟨-,s,a,b,n⟩:=ahv h.lr f
      exact⟨a,b,n,by omega⟩
     .obtain⟨-,s,a,b,n,-⟩:=wD h.lr f
      exact⟨a,b,n,by omega⟩
   obtain⟨E,s,D,C⟩:=key;refine⟨⟨i,?_,h.a0,h.b0,h.c0,by omega,h.zero⟩,s⟩;rcases h.one with h'|h'
   .exact .inl h'
   .exact .inr (by omega)
  .obtain⟨f1,f2⟩:=abG x
   rw[f1]at e1;rw[f2]at k;subst e1 k;exact⟨h,by simp[bV.zero]⟩
def TE {l:List bV} (a:LR l) {q:Int}:0<=(fU l q).2.1.v/\(fU l q).2.1.v<=288230376151711744:=by
 by_cases h:(fU l q).2.2=0
 .have b:=a.v
  have:=wD a (m:=(fU l q).1) (y:=(fU l q).2.1) (by rw[<-h]);have:=(gG (nL (q:=q) a).ok).2.1;omega
 .rw[(Ak h).2];simp[bV.zero]
def ahs {l:List bV} (a:LR l) {q:Int}:(0<=(fU l q).2.1.q/\(fU l q).2.1.q<=288230376151711744)/\-576460752303423488<=(fU l q).2.1.p/\(fU l q).2.1.p<=576460752303423488:=by
 by_cases h:(fU l q).2.2=0
 .have g:=a.q
  obtain⟨f,b,-⟩:=wD a (m:=(fU l q).1) (y:=(fU l q).2.1) (by rw[<-h]);have e:=nL (q:=q) a;have i:=Ej l;have a2:=a.p;have d:=Ej (fU l q).1;have c:=e.p;rw[Em a f b]at d c |-;have s:=wE l .zero q a (by omega) b;simp only[bV.zero]at s d c |-;omega
 .rw[(Ak h).2];simp[bV.zero]
def abr {l:List bV} (h:LR l) {q:Int}:((fU l q).2.2=0/\1<=q/\q<=qs l/\(fU l q).2.1.q=q/\qs (fU l q).1=qs l-q/\(fU l q).2.1.v+vs (fU l q).1=vs l/\(fU l q).2.1.p+ps (fU l q).1=ps l)\/(((fU l q).2.2=1/\q<1\/(fU l q).2.2=5/\qs l<q)/\(fU l q).1=l/\(fU l q).2.1=.zero):=by
 by_cases b:q<1
 .right;unfold fU;rw[if_pos b];exact⟨.inl ⟨rfl,b⟩,rfl,rfl⟩
 by_cases a:q<=qs l
 .left
  rw[Em h (by omega) a];have s:=wE l .zero q h (by omega) a;simp only[bV.zero]at s |-;exact⟨trivial,by omega,a,by omega,s.2.1,by omega,by omega⟩
 .right;rw[Cs h (by omega) (by omega)];exact⟨.inr ⟨rfl,by omega⟩,rfl,rfl⟩
def LR.bds {l:List bV} (h:LR l):fW (qs l)/\fW (vs l)/\fW (ps l):=by
 have e:=gG h.ok;have d:=h.q;have c:=h.v;have b:=h.p;have a:=Ej l;exact⟨⟨by omega,by omega⟩,⟨by omega,by omega⟩,⟨by omega,by omega⟩⟩
end
section
open Mc
abbrev M58:Int:=288230376151711744
abbrev qC (v:Int):Prop:=-288230376151711744<=v/\v<=288230376151711744
def dL.nil:dL:=⟨⟨0,false,[],[],[],[],[]⟩,[]⟩
def bK.aJ (S:bK) (e:Int):dL:=S.aD.getD e.toNat dL.nil
def bK.cX (S:bK) (e item:Int):Int:=(S.methods.getD e.toNat []).getD item.toNat 0
def bK.cost (S:bK) (e item:Int):Int:=(S.cI.getD e.toNat []).getD item.toNat 0
def dL.bE (x:dL) (k:Int):dI:=x.bH.getD k.toNat ⟨[],0,0,0⟩
def dL.rL (x:dL) (item:Int):List Int:=x.aM.getD item.toNat []
def dL.bX (x:dL) (k:Int) (p:dI):dL:={ x with bH:=x.bH.set k.toNat p }
def dL.xH (x:dL) (item:Int) (r:List Int):dL:={ x with aM:=x.aM.set item.toNat r }
structure NT (n:Nat) (ms:List Int) (x:EntC):Prop where
 pl:x.bH.length=2*n
 ok:∀(k:Nat) (p:dI),x.bH[k]?=some p->jS (ms.getD (k/2) 0) p.aX p.pn
 bl:x.cU.length=17
 bb:∀v∈x.cU,qC v
 rl:x.aM.length=n
 rr:∀r∈x.aM,r.length=11/\∀v∈r,qC v
 pr:x.aZ.length=n
 prb:∀v∈x.aZ,-1<=v/\v<=M58
 dl:x.down.length=n
 db:∀v∈x.down,0<=v/\v<=M58
 now:1<=x.now/\x.now<=12
structure StOk (S:bK):Prop where
 hn:S.aD.length<=4
 hw:S.weights.length<=5
 M7:S.methods.length=S.aD.length
 Fg:S.cI.length=S.aD.length
 wY:∀r∈S.methods,r.length=S.weights.length
 mE:∀r∈S.cI,r.length=S.weights.length
 mb:∀r∈S.methods,∀v∈r,1<=v/\v<=4
 cb:∀r∈S.cI,∀v∈r,0<=v/\v<=1073741824
 aJ:∀(e:Nat) (x:dL),S.aD[e]?=some x->NT S.weights.length (S.methods.getD e []) x.toEntC
 ahead:∀x∈S.aD,∀(e:Nat),S.aD[e]?=some x->∀y∈x.ahead,NT S.weights.length (S.methods.getD e []) y
structure Ix (S:bK) (e item:Int):Prop where
 e0:0<=e
 e1:e<S.aD.length
 i0:0<=item
 i1:item<S.weights.length
section
variable {S:bK} {e item:Int}
def StOk.at_ (h:StOk S) (x:Ix S e item):S.aD[e.toNat]?=some (S.aJ e):=getD_some (by have:=x.e0;have:=x.e1;omega)
def StOk.zN (h:StOk S) (x:Ix S e item):NT S.weights.length (S.methods.getD e.toNat []) (S.aJ e).toEntC:=h.aJ _ _ (h.at_ x)
def StOk.wx (h:StOk S) (x:Ix S e item):Wx S e item (S.aJ e).now (S.aJ e).closed (S.aJ e).bH (S.aJ e).cU (S.aJ e).aM (S.aJ e).aZ (S.aJ e).down (S.aJ e).ahead (S.methods.getD e.toNat []) (S.cI.getD e.toNat []) (S.cX e item) (S.cost e item):=by
 have E:=h.zN x;have c:e.toNat<S.aD.length:=by have:=x.e0;have:=x.e1;omega
 have b:e.toNat<S.methods.length:=by rw[h.M7];exact c
 have f:e.toNat<S.cI.length:=by rw[h.Fg];exact c
 have a:=dR (d:=[]) b;have g:=dR (d:=[]) f;have i:=h.wY _ a;have j:=h.mE _ g;have m:item.toNat<S.weights.length:=by have:=x.i0;have:=x.i1;omega
 have l:=h.mb _ a _ (dR (d:=0) (k:=item.toNat) (by omega));have n:=h.cb _ g _ (dR (d:=0) (k:=item.toNat) (by omega));exact⟨h.hn,x.e0,x.e1,h.at_ x,h.hw,x.i0,x.i1,h.M7,h.Fg,getD_some b,getD_some f,i,j,E.pl,E.rl,getD_some (by omega),getD_some (by omega),⟨by unfold bK.cX;omega,by unfold bK.cX;omega⟩,⟨by unfold bK.cost;omega,by unfold bK.cost;omega⟩⟩
def StOk.mb' (h:StOk S) (x:Ix S e item):1<=S.cX e item/\S.cX e item<=4:=by
 have c:e.toNat<S.aD.length:=by have:=x.e0;have:=x.e1;omega
 have b:e.toNat<S.methods.length:=by rw[h.M7];exact c
 have a:=dR (d:=[]) b;have f:=h.wY _ a;have g:item.toNat<S.weights.length:=by have:=x.i0;have:=x.i1;omega
 exact h.mb _ a _ (dR (d:=0) (k:=item.toNat) (by omega))
def StOk.cb' (h:StOk S) (x:Ix S e item):0<=S.cost e item/\S.cost e item<=1073741824:=by
 have b:e.toNat<S.aD.length:=by have:=x.e0;have:=x.e1;omega
 have c:e.toNat<S.cI.length:=by rw[h.Fg];exact b
 have a:=dR (d:=[]) c;have f:=h.mE _ a;have g:item.toNat<S.weights.length:=by have:=x.i0;have:=x.i1;omega
 exact h.cb _ a _ (dR (d:=0) (k:=item.toNat) (by omega))
def StOk.plt (h:StOk S) (x:Ix S e item) {loc:Int} (b:0<=loc) (a:loc<=1):(2*item+loc).toNat<(S.aJ e).bH.length:=by
 have:=(h.zN x).pl;have:=x.i0;have:=x.i1;omega
def StOk.pat (h:StOk S) (x:Ix S e item) {loc:Int} (b:0<=loc) (a:loc<=1):(S.aJ e).bH[(2*item+loc).toNat]?=some ((S.aJ e).bE (2*item+loc)):=getD_some (h.plt x b a)
def StOk.AS (h:StOk S) (x:Ix S e item) {loc:Int} (b:0<=loc) (a:loc<=1):jS (S.cX e item) ((S.aJ e).bE (2*item+loc)).aX ((S.aJ e).bE (2*item+loc)).pn:=by
 have k:=(h.zN x).ok _ _ (h.pat x b a);have e1:(2*item+loc).toNat/2=item.toNat:=by have:=x.i0;omega
 rw[e1]at k;exact k
def Ix.ie (x:Ix S e item) (h:StOk S):fW e:=by have:=x.e0;have:=x.e1;have:=h.hn;exact⟨by omega,by omega⟩
def Ix.ii (x:Ix S e item) (h:StOk S):fW item:=by have:=x.i0;have:=x.i1;have:=h.hw;exact⟨by omega,by omega⟩
def amZ (h:StOk S) (x:Ix S e item) {loc:Int} (b:0<=loc) (a:loc<=1):CK Tryz.prog 112 [S.av,.i e,.i item,.i loc] ((S.aJ e).bE (2*item+loc)).av :=
 apE (h.wx x) b a rfl (h.pat x b a) (h.AS x b a).lr.len
def bZ (S:bK) (e item:Int):bV×Bool :=
 let a:=((S.aJ e).bE (2*item)).aX;let b:=((S.aJ e).bE (2*item+1)).aX
 (⟨dJ [qs a,qs b],dJ [vs a,vs b],dJ [ps a,ps b]⟩,decide (dW [qs a,qs b]=0/\dW [vs a,vs b]=0/\dW [ps a,ps b]=0))
def xC (l:List Int):dW l=0\/dW l=2:=by unfold dW;split<;>simp
def PE {a b:Int} (h1:fW a) (d:fW b):eW [a,b]:=by
 intro v c;simp only[a0c,a0b,or_false]at c;rcases c with rfl|rfl
 .exact h1
 .exact d
def aiZ (h:StOk S) (x:Ix S e item):CK Tryz.prog 129 [S.av,.i e,.i item] (.bG [(bZ S e item).1.av,.c (.bool (bZ S e item).2)]):=by
 have a0:=amZ h x (loc:=0) (by omega) (by omega);have k:=amZ h x (loc:=1) (by omega) (by omega);have r0:=(h.AS x (loc:=0) (by omega) (by omega)).lr;have r1:=(h.AS x (loc:=1) (by omega) (by omega)).lr;rw[a1g]at a0 r0;have f:=Pv r0;have d:=Pv r1;unfold bZ;generalize (S.aJ e).bE (2*item)=b at *;generalize (S.aJ e).bE (2*item+1)=a at *;obtain⟨b1,b2,b3⟩:=r0.bds;obtain⟨q,p,o⟩:=r1.bds;have g:=qZ [qs b.aX,qs a.aX] (PE b1 q);have sv:=qZ [vs b.aX,vs a.aX] (PE b2 p);have j:=qZ [ps b.aX,ps a.aX] (PE b3 o);have m:=xC [qs b.aX,qs a.aX];have l:=xC [vs b.aX,vs a.aX];have n:=xC [ps b.aX,ps a.aX];simp only;generalize dW [qs b.aX,qs a.aX]=r at *;generalize dW [vs b.aX,vs a.aX]=ev at *;generalize dW [ps b.aX,ps a.aX]=s at *;rcases m with rfl|rfl<;>rcases l with rfl|rfl<;>rcases n with rfl|rfl
 .exact alw (x.ie h) (x.ii h) a0 k f d g sv j
 .exact alr (x.ie h) (x.ii h) a0 k f d g sv j
 .exact alu (x.ie h) (x.ii h) a0 k f d g sv j
 .exact alp (x.ie h) (x.ii h) a0 k f d g sv j
 .exact alv (x.ie h) (x.ii h) a0 k f d g sv j
 .exact alq (x.ie h) (x.ii h) a0 k f d g sv j
 .exact als (x.ie h) (x.ii h) a0 k f d g sv j
 .exact alo (x.ie h) (x.ii h) a0 k f d g sv j
def XN (h:StOk S) (x:Ix S e item):CK Tryz.prog 69 [S.av,.i e,.i item] (bZ S e item).1.av:=by
 have k:=aiZ h x;generalize bZ S e item=r at *;obtain⟨y,b⟩:=r;cases b with
 |true=>exact Ox (x.ie h) (x.ii h) k
 |false=>exact NM (x.ie h) (x.ii h) k
def PS (S:bK) (e item:Int):Bool:=decide (dW (sw ((S.aJ e).bE (2*item)).aX++sw ((S.aJ e).bE (2*item+1)).aX)=0)
end
end
section
open Mc
variable {x:bV}
def adB {l:List bV}:gZ (Cy l x).2:=by
 unfold Cy;split
 .exact⟨by simp,by simp⟩
 .split
  .exact⟨by simp,by simp⟩
  .split<;>exact⟨by simp,by simp⟩
def RU {l:List bV}:gZ (zJ l x).2:=by
 unfold zJ;split
 .exact⟨by simp,by simp⟩
 .exact adB
def akv {l:List bV} {c:Int}:gZ (inC l x c).2.2:=by
 unfold inC;split
 .exact⟨by simp,by simp⟩
 .split
  .exact⟨by simp,by simp⟩
  .split
   .exact⟨by simp,by simp⟩
   .exact RU
def IK {m c:Int} {l:List bV} {x:bV}:gZ (fD m c l x).2.2:=by
 unfold fD;split
 .exact adB
 .split
  .exact RU
  .split
   .exact RU
   .split
    .exact akv
    .exact⟨by simp,by simp⟩
def MN {l:List bV} {q:Int}:gZ (fU l q).2.2:=by
 unfold fU;split
 .exact⟨by simp,by simp⟩
 .split<;>exact⟨by simp,by simp⟩
def aht {l:List bV} {d:tY} {q:Int}:gZ (AK l d q).2.2:=by
 unfold AK;split
 .exact⟨by simp,by simp⟩
 .split
  .exact⟨by simp,by simp⟩
  .exact MN
def ahu {l:List bV} {q c:Int}:gZ (Cw l q c).2.2:=by
 have h:=@MN l q;unfold Cw;split
 .exact⟨by simp,by simp⟩
 .split
  .rename_i y e a;rw[a]at h;exact h
  .rename_i z t y e a
   rw[a]at h;split
   .exact h
   .exact⟨by simp,by simp⟩
def aem {l:List bV} {d:tY} {k q:Int}:gZ (qD l d k q).2:=by
 unfold qD;split
 .exact⟨by simp,by simp⟩
 .split<;>exact⟨by simp,by simp⟩
def El {m c:Int} {l:List bV} {d:tY} {kind q:Int}:gZ (dG m c l d kind q).2.2.2.2:=by
 unfold dG;split
 .exact⟨by simp,by simp⟩
 .split
  .exact⟨by simp,by simp⟩
  .split
   .exact aem
   .simp only[fV]
    split
    .exact aht
    .split
     .exact ahu
     .exact MN
def adA {l:List bV} (h:(Cy l x).2=0):1<=x.q/\x.q<=288230376151711744/\0<=x.v/\x.v<=288230376151711744/\-288230376151711744<=x.p/\x.p<=288230376151711744:=by
 unfold Cy at h;split at h
 .cases h
 .split at h
  .cases h
  .split at h
   .rename_i a
    exact(LR.of a).at_ (x:=x) (by simp)
   .cases h
def RR {l:List bV} (h:(zJ l x).2=0):1<=x.q/\x.q<=288230376151711744/\0<=x.v/\x.v<=288230376151711744/\-288230376151711744<=x.p/\x.p<=288230376151711744:=by
 unfold zJ at h;split at h
 .exact adA ‹_›
 .exact absurd h ‹_›
def Cn {m c:Int} {l l':List bV} {up:Int} (h:fD m c l x=(l',up,0)):0<=x.v/\x.v<=288230376151711744/\-288230376151711744<=up/\up<=288230376151711744/\0<=x.v-up/\x.v-up<=288230376151711744/\1<=x.q:=by
 unfold fD at h;split at h
 .have:=adA (l:=l) (x:=x) (congrArg (fun r=>r.2.2) h)
  have a:up=0:=(congrArg (fun r=>r.2.1) h).symm;omega
 .split at h
  .have:=RR (l:=l) (x:=x) (congrArg (fun r=>r.2.2) h)
   have a:up=0:=(congrArg (fun r=>r.2.1) h).symm;omega
  .split at h
   .have:=RR (l:=l) (x:=x) (congrArg (fun r=>r.2.2) h)
    have a:up=0:=(congrArg (fun r=>r.2.1) h).symm;omega
   .split at h
    .unfold inC at h
     split at h
     .exact absurd (congrArg (fun r=>r.2.2) h) (by simp)
     .split at h
      .exact absurd (congrArg (fun r=>r.2.2) h) (by simp)
      .split at h
       .rename_i e d b
        have:=RR b;simp only at this;have a:up=x.v-CJ c x.q:=(congrArg (fun r=>r.2.1) h).symm;omega
       .rename_i b
        exact absurd (congrArg (fun r=>r.2.2) h) b
    .exact absurd (congrArg (fun r=>r.2.2) h) (by simp)
def StOk.bJ {S:bK} (h:StOk S) {e:Int} {x:dL} (i:0<=e) (d:NT S.weights.length (S.methods.getD e.toNat []) x.toEntC) (f:∀y∈x.ahead,NT S.weights.length (S.methods.getD e.toNat []) y):StOk (S.bJ e x):=by
 refine⟨by simp only[bK.bJ,a1m];exact h.hn,h.hw,by simp only[bK.bJ,a1m];exact h.M7,by simp only[bK.bJ,a1m];exact h.Fg,h.wY,h.mE,h.mb,h.cb,?_,?_⟩
 .intro k y a
  simp only[bK.bJ]at a |-;rw[a0r]at a;split at a
  .rename_i b
   subst b;split at a
   .cases a;exact d
   .cases a
  .exact h.aJ k y a
 .intro y g k a z c
  simp only[bK.bJ]at a |-;rw[a0r]at a;split at a
  .rename_i b
   subst b;split at a
   .cases a;exact f z c
   .cases a
  .exact h.ahead y (a0a a) k a z c
section
variable {S:bK} {e item:Int}
def StOk.bX (h:StOk S) (x:Ix S e item) {loc:Int} (f:0<=loc) (d:loc<=1) {p:dI} (b:jS (S.cX e item) p.aX p.pn):StOk (S.bJ e ((S.aJ e).bX (2*item+loc) p)):=by
 have E:=h.zN x;refine h.bJ x.e0 ?_ (h.ahead _ (a0a (h.at_ x)) _ (h.at_ x));refine⟨by simp only[dL.bX,a1m];exact E.pl,?_,E.bl,E.bb,E.rl,E.rr,E.pr,E.prb,E.dl,E.db,E.now⟩;intro k q a;simp only[dL.bX]at a;rw[a0r]at a;split at a
 .rename_i c
  subst c;split at a
  .cases a
   have e1:(2*item+loc).toNat/2=item.toNat:=by have:=x.i0;omega
   rw[e1];exact b
  .cases a
 .exact E.ok k q a
def Ix.bJ (x:Ix S e item) {e':Int} {y:dL}:Ix (S.bJ e' y) e item:=⟨x.e0,by simp only[bK.bJ,a1m];exact x.e1,x.i0,x.i1⟩
def bK.jQ (x:Ix S e item) (y:dL):(S.bJ e y).aJ e=y:=by
 have a:e.toNat<S.aD.length:=by have:=x.e0;have:=x.e1;omega
 simp[bK.aJ,bK.bJ,List.getD,a0r,a]
def dL.Ek {x:dL} {k:Int} {p:dI} (h:k.toNat<x.bH.length):(x.bX k p).bE k=p:=by
 simp[dL.bE,dL.bX,List.getD,a0r,h]
def dL.Cj {x:dL} {k j:Int} {p:dI} (h:j.toNat≠k.toNat):(x.bX k p).bE j=x.bE j:=by
 simp[dL.bE,dL.bX,List.getD,a0r,Ne.symm h]
def eK (S:bK) (e item loc:Int) (y:bV):bK×Int×Int×Int :=
 if(fD (S.cX e item) (S.cost e item) ((S.aJ e).bE (2*item+loc)).aX y).2.2≠0 then(S,0,0,(fD (S.cX e item) (S.cost e item) ((S.aJ e).bE (2*item+loc)).aX y).2.2)
 else if(bZ (S.bJ e ((S.aJ e).bX (2*item+loc) { (S.aJ e).bE (2*item+loc)with aX:=(fD (S.cX e item) (S.cost e item) ((S.aJ e).bE (2*item+loc)).aX y).1 })) e item).2=false then(S,0,0,2)
 else if PS (S.bJ e ((S.aJ e).bX (2*item+loc) { (S.aJ e).bE (2*item+loc)with aX:=(fD (S.cX e item) (S.cost e item) ((S.aJ e).bE (2*item+loc)).aX y).1 })) e item=false then(S,0,0,2)
 else(S.bJ e ((S.aJ e).bX (2*item+loc) { (S.aJ e).bE (2*item+loc)with aX:=(fD (S.cX e item) (S.cost e item) ((S.aJ e).bE (2*item+loc)).aX y).1 }),y.v-(fD (S.cX e item) (S.cost e item) ((S.aJ e).bE (2*item+loc)).aX y).2.1,(fD (S.cX e item) (S.cost e item) ((S.aJ e).bE (2*item+loc)).aX y).2.1,0)
def dU (S:bK) (e item loc kind q:Int):bK×bV×Bool×Int :=
 if(dG (S.cX e item) (S.cost e item) ((S.aJ e).bE (2*item+loc)).aX ((S.aJ e).bE (2*item+loc)).pn kind q).2.2.2.2≠0 then(S,⟨0,0,0⟩,false,(dG (S.cX e item) (S.cost e item) ((S.aJ e).bE (2*item+loc)).aX ((S.aJ e).bE (2*item+loc)).pn kind q).2.2.2.2)
 else(S.bJ e ((S.aJ e).bX (2*item+loc) ⟨(dG (S.cX e item) (S.cost e item) ((S.aJ e).bE (2*item+loc)).aX ((S.aJ e).bE (2*item+loc)).pn kind q).1,(dG (S.cX e item) (S.cost e item) ((S.aJ e).bE (2*item+loc)).aX ((S.aJ e).bE (2*item+loc)).pn kind q).2.1.a,(dG (S.cX e item) (S.cost e item) ((S.aJ e).bE (2*item+loc)).aX ((S.aJ e).bE (2*item+loc)).pn kind q).2.1.b,(dG (S.cX e item) (S.cost e item) ((S.aJ e).bE (2*item+loc)).aX ((S.aJ e).bE (2*item+loc)).pn kind q).2.1.c⟩),(dG (S.cX e item) (S.cost e item) ((S.aJ e).bE (2*item+loc)).aX ((S.aJ e).bE (2*item+loc)).pn kind q).2.2.1,(dG (S.cX e item) (S.cost e item) ((S.aJ e).bE (2*item+loc)).aX ((S.aJ e).bE (2*item+loc)).pn kind q).2.2.2.1,0)
def rJ:List Int->List Int->Option (List Int)
 |a::l,b::r=>if nI a b=0 then(rJ l r).map (nT a b::·)else none
 |_,_=>some []
def eC (S:bK) (e item:Int) (r:List Int):bK×Int :=
 match rJ ((S.aJ e).rL item) r with
 |none=>(S,2)
 |some s=>(S.bJ e ((S.aJ e).xH item s),0)
def pD (a b:Int):nI a b=0\/nI a b=2:=by unfold nI;split<;>simp
def alk (a b:Int):qC (nT a b):=by
 unfold nT;split
 .rename_i h
  have:=zW h;exact⟨by omega,by omega⟩
 .exact⟨by omega,by omega⟩
def RN {l:List Int} (h:l.length=11):∃r0 r1 r2 i g f e d c b a,l=[r0,r1,r2,i,g,f,e,d,c,b,a]:=by
 match l,h with
 |[r0,r1,r2,i,g,f,e,d,c,b,a],_=>exact⟨_,_,_,_,_,_,_,_,_,_,_,rfl⟩
def acX (h:StOk S) (x:Ix S e item):(S.aJ e).aM[item.toNat]?=some ((S.aJ e).rL item):=getD_some (by have:=(h.zN x).rl;have:=x.i0;have:=x.i1;omega)
def acW (h:StOk S) (x:Ix S e item):((S.aJ e).rL item).length=11/\∀v∈(S.aJ e).rL item,qC v:=(h.zN x).rr _ (a0a (acX h x))
def dS (S:bK) (e:Int) (l:List dE):bK×Int :=
 if(dA l).2≠0 then(S,(dA l).2)else if(nE (S.aJ e).cU (dA l).1).2≠0 then(S,(nE (S.aJ e).cU (dA l).1).2)else(S.bJ e ((S.aJ e).xI (nE (S.aJ e).cU (dA l).1).1),0)
def OT (b:List Int) (l:List dE):gZ (nE b l).2:=by
 unfold nE;split
 .exact⟨by simp,by simp⟩
 .unfold AQ
  split
  .exact⟨by simp,by simp⟩
  .split<;>exact⟨by simp,by simp⟩
end
end
section
open Mc
structure Kin (S S1:bK):Prop where
 eq:S1=S.bQ S1.aD
 len:S1.aD.length=S.aD.length
 ok:StOk S1
def Kin.refl {S:bK} (h:StOk S):Kin S S:=⟨rfl,rfl,h⟩
def Kin.trans {S S1 a:bK} (h:Kin S S1) (g:Kin S1 a):Kin S a:=⟨by rw[g.eq,h.eq];rfl,g.len.trans h.len,g.ok⟩
def Kin.ix {S S1:bK} (h:Kin S S1) {e item:Int} (x:Ix S e item):Ix S1 e item:=⟨x.e0,by rw[h.len];exact x.e1,x.i0,by rw[h.eq];exact x.i1⟩
def Kin.bJ {S:bK} {e:Int} {y:dL} (h:StOk (S.bJ e y)):Kin S (S.bJ e y):=⟨rfl,by simp[bK.bJ],h⟩
section
variable {S:bK} {e item:Int}
def Sn (h:StOk S) (x:Ix S e item) {loc:Int} (j:0<=loc) (i:loc<=1) (y:bV) :
  Kin S (eK S e item loc y).1/\gZ (eK S e item loc y).2.2.2/\qC (eK S e item loc y).2.1/\qC (eK S e item loc y).2.2.1/\((eK S e item loc y).2.2.2≠0->(eK S e item loc y).1=S/\(eK S e item loc y).2.1=0/\(eK S e item loc y).2.2.1=0):=by
 have m:=h.AS x j i;have q:=h.mb' x;have c:=@IK (S.cX e item) (S.cost e item) ((S.aJ e).bE (2*item+loc)).aX y;have f:=fun p o=>h.bX x (p:=p) j i o;unfold eK;obtain⟨d,up,a,b⟩:∃d up a,fD (S.cX e item) (S.cost e item) ((S.aJ e).bE (2*item+loc)).aX y=(d,up,a):=⟨_,_,_,rfl⟩;have n:=m.in_ q b;have l:a=0->_:=fun(r:a=0)=>Cn (by rw[b,r]);simp only[b]at c |-;clear b;have k:=Kin.bJ (f { (S.aJ e).bE (2*item+loc)with aX:=d } n.1);split
 .exact⟨Kin.refl h,c,⟨by simp,by simp⟩,⟨by simp,by simp⟩,fun _=>⟨rfl,rfl,rfl⟩⟩
 .rename_i g
  have g:a=0:=by simpa using g
  have l:=l g;split
  .exact⟨Kin.refl h,⟨by simp,by simp⟩,⟨by simp,by simp⟩,⟨by simp,by simp⟩,fun _=>⟨rfl,rfl,rfl⟩⟩
  .split
   .exact⟨Kin.refl h,⟨by simp,by simp⟩,⟨by simp,by simp⟩,⟨by simp,by simp⟩,fun _=>⟨rfl,rfl,rfl⟩⟩
   .exact⟨k,⟨by simp,by simp⟩,⟨by simp only;omega,by simp only;omega⟩,⟨by simp only;omega,by simp only;omega⟩,fun h=>absurd rfl h⟩
def Rg {m c:Int} {l:List bV} {d:tY} {kind q:Int} (a:jS m l d) (e:1<=m/\m<=4) (f:0<=kind/\kind<=3):-288230376151711744<=(dG m c l d kind q).2.2.1.v/\(dG m c l d kind q).2.2.1.v<=288230376151711744:=by
 obtain⟨b,g⟩:=a.ao2 (c:=c) (kind:=kind) (q:=q) e f (l':=(dG m c l d kind q).1) (d':=(dG m c l d kind q).2.1) (y:=(dG m c l d kind q).2.2.1) (wt:=(dG m c l d kind q).2.2.2.1) (e':=(dG m c l d kind q).2.2.2.2) rfl;have k:=a.lr.v;have j:=(gG a.lr.ok).2.1;have i:=b.lr.v;have h:=(gG b.lr.ok).2.1;omega
def aa5 {m c:Int} {l:List bV} {d:tY} {kind q:Int} (b:LR l):(0<=(dG m c l d kind q).2.2.1.q/\(dG m c l d kind q).2.2.1.q<=288230376151711744)/\-576460752303423488<=(dG m c l d kind q).2.2.1.p/\(dG m c l d kind q).2.2.1.p<=576460752303423488:=by
 have k:=ahs b (q:=q);unfold dG;split
 .simp[bV.zero]
 .split
  .simp[bV.zero]
  .split
   .simp[bV.zero]
   .simp only[fV]
    split
    .unfold AK
     split
     .simp[bV.zero]
     .split
      .simp[bV.zero]
      .exact k
    .split
     .unfold Cw
      split
      .simp[bV.zero]
      .split
       .rename_i y e a;rw[a]at k;exact k
       .rename_i z t y e a
        rw[a]at k;split
        .exact k
        .exact k
     .exact k
def R8 (h:StOk S) (x:Ix S e item) {loc kind:Int} (r:0<=loc) (o:loc<=1) (t:0<=kind) (s:kind<=3) (q:Int) :
  Kin S (dU S e item loc kind q).1/\gZ (dU S e item loc kind q).2.2.2/\qC (dU S e item loc kind q).2.1.v/\((0<=(dU S e item loc kind q).2.1.q/\(dU S e item loc kind q).2.1.q<=288230376151711744)/\-576460752303423488<=(dU S e item loc kind q).2.1.p/\(dU S e item loc kind q).2.1.p<=576460752303423488)/\((dU S e item loc kind q).2.2.2≠0->(dU S e item loc kind q).1=S/\(dU S e item loc kind q).2.1=⟨0,0,0⟩/\(dU S e item loc kind q).2.2.1=false):=by
 have f:=h.AS x r o;have u:=h.mb' x;have i:=@El (S.cX e item) (S.cost e item) ((S.aJ e).bE (2*item+loc)).aX ((S.aJ e).bE (2*item+loc)).pn kind q;have A:=Rg (c:=S.cost e item) (kind:=kind) (q:=q) f u ⟨t,s⟩;have v:=aa5 (m:=S.cX e item) (c:=S.cost e item) (d:=((S.aJ e).bE (2*item+loc)).pn) (kind:=kind) (q:=q) f.lr;unfold dU;obtain⟨j,g,y,n,w,l⟩:∃j g y n w,dG (S.cX e item) (S.cost e item) ((S.aJ e).bE (2*item+loc)).aX ((S.aJ e).bE (2*item+loc)).pn kind q=(j,g,y,n,w):=⟨_,_,_,_,_,rfl⟩;have k:=f.ao2 u ⟨t,s⟩ l;simp only[l]at i A v |-;clear l;have z:=Kin.bJ (h.bX x r o (p:=⟨j,g.a,g.b,g.c⟩) k.1);split
 .exact⟨Kin.refl h,i,⟨by simp,by simp⟩,by simp,fun _=>⟨rfl,rfl,rfl⟩⟩
 .exact⟨z,⟨by simp,by simp⟩,⟨by simp only;omega,by simp only;omega⟩,v,fun h=>absurd rfl h⟩
def X7:∀(a b s:List Int),a.length=b.length->rJ a b=some s->s.length=a.length/\∀v∈s,qC v
 |[],[],s,_,h=>by simp[rJ]at h;subst h;simp
 |[],_::_,s,c,h=>by simp at c
 |_::_,[],s,c,h=>by simp at c
 |a::l,b::r,s,c,h=>by
  simp only[rJ]at h;split at h
  .cases d:rJ l r with
   |none=>rw[d]at h;cases h
   |some t =>
    rw[d]at h;cases h;obtain⟨g,f⟩:=X7 l r t (by simpa using c) d;refine⟨by simp[g],?_⟩;intro v e;rcases a0c.1 e with rfl|e
    .exact alk _ _
    .exact f v e
  .cases h
def StOk.xH (h:StOk S) (x:Ix S e item) {r:List Int} (b:r.length=11/\∀v∈r,qC v):StOk (S.bJ e ((S.aJ e).xH item r)):=by
 have E:=h.zN x;refine h.bJ x.e0 ?_ (h.ahead _ (a0a (h.at_ x)) _ (h.at_ x));refine⟨E.pl,E.ok,E.bl,E.bb,by simp only[dL.xH,a1m];exact E.rl,?_,E.pr,E.prb,E.dl,E.db,E.now⟩;intro q a;simp only[dL.xH]at a;rcases a05 a with a|rfl
 .exact E.rr q a
 .exact b
def SP (h:StOk S) (x:Ix S e item) {r:List Int} (d:r.length=11):Kin S (eC S e item r).1/\gZ (eC S e item r).2/\((eC S e item r).2≠0->(eC S e item r).1=S):=by
 have a:=acW h x;unfold eC;split
 .exact⟨Kin.refl h,⟨by simp,by simp⟩,fun _=>rfl⟩
 .rename_i s hs
  obtain⟨c,b⟩:=X7 _ _ _ (by rw[a.1,d]) hs;exact⟨Kin.bJ (h.xH x ⟨by rw[c,a.1],b⟩),⟨by simp,by simp⟩,fun h=>absurd rfl h⟩
def aaa:∀(m:List dE) (cU next:List Int),(∀v∈cU,qC v)->gM cU m=some next->∀v∈next,qC v
 |[],cU,next,a,h=>by simp[gM]at h;rw[<-h];exact a
 |x::m,cU,next,a,h=>by
  simp only[gM]at h;split at h
  .rename_i c
   have d:=zW c;refine aaa m _ _ (fun z b=>?_) h;rcases a05 b with h|rfl
   .exact a z h
   .exact⟨by omega,by omega⟩
  .cases h
def agz {b:List Int} {l:List dE} (a:b.length=17) (c:∀v∈b,qC v):(nE b l).1.length=17/\∀v∈(nE b l).1,qC v:=by
 unfold nE;split
 .simp only[MD]
  cases h:gM b (dA l).1 with
  |none=>simp only[Option.getD_none];exact⟨a,c⟩
  |some n=>simp only[a2y];exact⟨by rw[CG _ _ _ h,a],aaa _ _ _ c h⟩
 .exact⟨a,c⟩
def StOk.xI (h:StOk S) (x:Ix S e item) {b:List Int} (a:b.length=17/\∀v∈b,qC v):StOk (S.bJ e ((S.aJ e).xI b)):=by
 have E:=h.zN x;refine h.bJ x.e0 ?_ (h.ahead _ (a0a (h.at_ x)) _ (h.at_ x));exact⟨E.pl,E.ok,a.1,a.2,E.rl,E.rr,E.pr,E.prb,E.dl,E.db,E.now⟩
def Tv (h:StOk S) (x:Ix S e item) (l:List dE):Kin S (dS S e l).1/\gZ (dS S e l).2/\((dS S e l).2≠0->(dS S e l).1=S):=by
 have E:=h.zN x;have e1:=Co l;have e2:=OT (S.aJ e).cU (dA l).1;have a:=agz (l:=(dA l).1) E.bl E.bb;unfold dS;split
 .exact⟨Kin.refl h,e1.1,fun _=>rfl⟩
 .split
  .exact⟨Kin.refl h,e2,fun _=>rfl⟩
  .exact⟨Kin.bJ (h.xI x a),⟨by simp,by simp⟩,fun h=>absurd rfl h⟩
end
end
section
open Mc
variable {S S1:bK} {k:Int}
def afI (n w:Nat) (x:wU):Prop:=(0<=x.aU/\x.aU<n)/\(0<=x.item/\x.item<w)/\(0<=x.loc/\x.loc<=1)/\(1<=x.eU/\x.eU<=1073741824)/\(0<=x.value/\x.value<=1125899906842624)/\(0<=x.wG/\x.wG<=x.eU)/\(0<=x.dQ/\x.dQ<=1125899906842624)/\(0<=x.back/\x.back<=x.eU)
def acw (n w:Nat) (x:kU):Prop:=(0<=x.aU/\x.aU<n)/\(0<=x.item/\x.item<w)/\(0<=x.loc/\x.loc<=1)/\(1<=x.eU/\x.eU<=1073741824)/\(0<=x.back/\x.back<=x.eU)/\qC x.cost/\qC x.bY/\(1<=x.period/\x.period<=12)
def afH (n w:Nat) (x:Fh):Prop:=(0<=x.src/\x.src<n)/\(0<=x.dst/\x.dst<n)/\(0<=x.item/\x.item<w)/\(0<=x.eU/\x.eU<=1073741824)/\(0<=x.value/\x.value<=1125899906842624)/\qC x.bY
def dL.sh (x:dL):Int×Bool×List EntC:=(x.now,x.closed,x.ahead)
def apF (s:Int×Bool×List EntC):Prop:=s.2.2.length=(if s.2.1 then 1 else 0)/\∀y∈s.2.2,y.now=s.1/\y.closed=false
structure Gn (S:bK):Prop extends StOk S where
 NU:S.bB.length<=40
 OL:S.aN.length<=40
 yP:S.aH.length<=40
 II:∀x∈S.bB,afI S.aD.length S.weights.length x
 C8:∀x∈S.aN,acw S.aD.length S.weights.length x
 OA:∀x∈S.aH,afH S.aD.length S.weights.length x
 d0:0<=S.done
 al:∀x∈S.aD,apF x.sh
 pb:∀x∈S.aN,x.period<=(S.aJ x.aU).now
structure Kn (S S1:bK):Prop extends Kin S S1 where
 sh:S1.aD.map dL.sh=S.aD.map dL.sh
def Kn.refl {S:bK} (h:StOk S):Kn S S:=⟨.refl h,rfl⟩
def Kn.trans {a:bK} (h:Kn S S1) (g:Kn S1 a):Kn S a:=⟨h.toKin.trans g.toKin,g.sh.trans h.sh⟩
def Kn.ex (h:Kn S S1):∃E,S1=S.bQ E:=⟨_,h.eq⟩
def Kn.ix (h:Kn S S1) {e item:Int} (x:Ix S e item):Ix S1 e item:=h.toKin.ix x
theorem EH (l:List dL) (k:Nat) (d:dL):(l.getD k d).sh=(l.map dL.sh).getD k d.sh:=by
 simp only[a0k,a0o];cases l[k]?<;>rfl
def Kn.shE (h:Kn S S1) (e:Int):(S1.aJ e).sh=(S.aJ e).sh:=by
 unfold bK.aJ;rw[EH,EH,h.sh]
def Kn.now (h:Kn S S1) (e:Int):(S1.aJ e).now=(S.aJ e).now:=congrArg Prod.fst (h.shE e)
def Kn.gn (h:Kn S S1) (G:Gn S):Gn S1:=by
 have e:=h.eq;have l:=h.len;have k:=h.ok;have s:=h.sh;have n:=h.now;generalize S1.aD=E at *;subst e;refine⟨k,G.NU,G.OL,G.yP,by show ∀x∈_,afI E.length _ x;rw[l];exact G.II,by show ∀x∈_,acw E.length _ x;rw[l];exact G.C8,by show ∀x∈_,afH E.length _ x;rw[l];exact G.OA,G.d0,?_,fun x a=>by rw[n];exact G.pb x a⟩
 intro x a;have:x.sh∈S.aD.map dL.sh:=by rw[<-s];exact a34 a
 obtain⟨y,b,e⟩:=a0l.1 this;rw[<-e];exact G.al y b
def pO {e item:Int} (x:Ix S e item) {y:dL} (h:y.sh=(S.aJ e).sh):(S.bJ e y).aD.map dL.sh=S.aD.map dL.sh:=by
 show(S.aD.set e.toNat y).map dL.sh=_;rw[a06];apply a3w;intro i;rw[a0r];split
 .rename_i b
  subst b;have a:e.toNat<S.aD.length:=by have:=x.e0;have:=x.e1;omega
  rw[if_pos (by simpa using a),a0o,getD_some (d:=⟨⟨0,false,[],[],[],[],[]⟩,[]⟩) a];simp only[a0q,a0g,h];rfl
 .rfl
section
variable {S:bK} {e item:Int}
def mV (h:StOk S) (x:Ix S e item) {loc:Int} (b:0<=loc) (a:loc<=1) (y:bV) :
  Kn S (eK S e item loc y).1/\gZ (eK S e item loc y).2.2.2/\qC (eK S e item loc y).2.1/\qC (eK S e item loc y).2.2.1/\((eK S e item loc y).2.2.2≠0->(eK S e item loc y).1=S/\(eK S e item loc y).2.1=0/\(eK S e item loc y).2.2.1=0):=by
 obtain⟨k,r⟩:=Sn h x b a y;refine⟨⟨k,?_⟩,r⟩;clear k r;unfold eK;split
 .rfl
 .split
  .rfl
  .split
   .rfl
   .exact pO x rfl
def aj6 (l:List bV):∀(a:bV) (q:Int),LR l->a.p-yN l<=(jL l a q).2.p/\(jL l a q).2.p<=a.p+yN l:=by
 induction l with
 |nil=>intro a q h;simp[jL,yN,eR]
 |cons x r b =>
  intro a q h;simp only[jL];have c:=h.ok x (by simp);have d:=NA r;rw[wR];split
  .dsimp only;omega
  .split
   .have e:=aiL c (q:=q) (by omega) (by omega)
    dsimp only[lD,mZ];omega
   .have k:=b (lD a x) (q-x.q) h.tail
    dsimp only[lD]at k |-;omega
def adr {l:List bV} (a:LR l) (q:Int):qC (fU l q).2.1.p:=by
 have k:=aj6 l .zero q a;have:=a.p;unfold fU;split
 .exact⟨by simp[bV.zero],by simp[bV.zero]⟩
 .split
  .exact⟨by simp[bV.zero],by simp[bV.zero]⟩
  .dsimp only[bV.zero]at k |-;exact⟨by omega,by omega⟩
def Tw {m c:Int} {l:List bV} {d:tY} {kind q:Int} (b:LR l):qC (dG m c l d kind q).2.2.1.p:=by
 have k:=adr b q;have z:qC bV.zero.p:=⟨by simp[bV.zero],by simp[bV.zero]⟩;unfold dG;split
 .exact z
 .split
  .exact z
  .split
   .exact z
   .simp only[fV]
    split
    .unfold AK
     split
     .exact z
     .split
      .exact z
      .exact k
    .split
     .unfold Cw
      split
      .exact z
      .split
       .rename_i y e a;rw[a]at k;exact k
       .rename_i f t y e a
        rw[a]at k;split
        .exact k
        .exact k
     .exact k
def mT (h:StOk S) (x:Ix S e item) {loc kind:Int} (g:0<=loc) (f:loc<=1) (l:0<=kind) (j:kind<=3) (q:Int) :
  Kn S (dU S e item loc kind q).1/\gZ (dU S e item loc kind q).2.2.2/\qC (dU S e item loc kind q).2.1.v/\((0<=(dU S e item loc kind q).2.1.q/\(dU S e item loc kind q).2.1.q<=288230376151711744)/\qC (dU S e item loc kind q).2.1.p)/\((dU S e item loc kind q).2.2.2≠0->(dU S e item loc kind q).1=S/\(dU S e item loc kind q).2.1=⟨0,0,0⟩/\(dU S e item loc kind q).2.2.1=false):=by
 obtain⟨k,r1,r2,b,a⟩:=R8 h x g f l j q;have i:=Tw (m:=S.cX e item) (c:=S.cost e item) (d:=((S.aJ e).bE (2*item+loc)).pn) (kind:=kind) (q:=q) (h.AS x g f).lr;refine⟨⟨k,?_⟩,r1,r2,⟨b.1,?_⟩,a⟩
 .clear k r1 r2 b a
  unfold dU;split
  .rfl
  .exact pO x rfl
 .clear k r1 r2 b a
  unfold dU;split
  .exact⟨by simp,by simp⟩
  .exact i
def gN (h:StOk S) (x:Ix S e item) {r:List Int} (a:r.length=11):Kn S (eC S e item r).1/\gZ (eC S e item r).2/\((eC S e item r).2≠0->(eC S e item r).1=S):=by
 obtain⟨k,r'⟩:=SP h x a;refine⟨⟨k,?_⟩,r'⟩;clear k r';unfold eC;split
 .rfl
 .exact pO x rfl
def eX (h:StOk S) (x:Ix S e item) (l:List dE):Kn S (dS S e l).1/\gZ (dS S e l).2/\((dS S e l).2≠0->(dS S e l).1=S):=by
 obtain⟨k,r'⟩:=Tv h x l;refine⟨⟨k,?_⟩,r'⟩;clear k r';unfold dS;split
 .rfl
 .split
  .rfl
  .exact pO x rfl
def jK (h:StOk S) (x:Ix S e item) {loc:Int} (b:0<=loc) (a:loc<=1) {p:dI} (c:jS (S.cX e item) p.aX p.pn):Kn S (S.bJ e ((S.aJ e).bX (2*item+loc) p)) :=
 ⟨Kin.bJ (h.bX x b a c),pO x rfl⟩
end
def bK.xO (S:bK) (x:wU):bK:={ S with bB:=S.bB++[x] }
def bK.vI (S:bK) (x:kU):bK:={ S with aN:=S.aN++[x] }
def bK.xN (S:bK) (x:Fh):bK:={ S with aH:=S.aH++[x] }
def bK.uK (S:bK) (k:Int) (x:wU):bK:={ S with bB:=S.bB.set k.toNat x }
def bK.rD (S:bK) (k:Int) (x:kU):bK:={ S with aN:=S.aN.set k.toNat x }
def bK.C5 (S:bK) (k:Int) (x:Fh):bK:={ S with aH:=S.aH.set k.toNat x }
def aeM (S:bK) (x:wU):(S.xO x).av=S.avX (bD S.aD) (hH S.bB++[jF x.r]) (dX S.aN) (fM S.aH) S.done:=by rw[agw];rfl
def aeL (S:bK) (x:kU):(S.vI x).av=S.avX (bD S.aD) (hH S.bB) (dX S.aN++[x.row]) (fM S.aH) S.done:=by rw[aga];rfl
def aeK (S:bK) (x:Fh):(S.xN x).av=S.avX (bD S.aD) (hH S.bB) (dX S.aN) (fM S.aH++[jF x.r]) S.done:=by
 rw[show fM S.aH++[jF x.r]=fM (S.aH++[x])by simp[fM]];rfl
def Ml (S:bK) (k:Int) (x:wU):(S.uK k x).av=S.avX (bD S.aD) ((hH S.bB).set k.toNat (jF x.r)) (dX S.aN) (fM S.aH) S.done:=by rw[ajW];rfl
def Mk (S:bK) (k:Int) (x:kU):(S.rD k x).av=S.avX (bD S.aD) (hH S.bB) ((dX S.aN).set k.toNat x.row) (fM S.aH) S.done:=by rw[ajQ];rfl
def af7 (S:bK) (k:Int) (x:Fh):(S.C5 k x).av=S.avX (bD S.aD) (hH S.bB) (dX S.aN) ((fM S.aH).set k.toNat (jF x.r)) S.done:=by
 rw[show(fM S.aH).set k.toNat (jF x.r)=fM (S.aH.set k.toNat x)by simp[fM,a06]];rfl
def RJ {α:Type} {l:List α} {x:α} {P:α->Prop} (h:∀y∈l,P y) (b:P x):∀y∈l++[x],P y:=fun y a=>by
 rcases a0m.1 a with a|a
 .exact h y a
 .rw[a07]at a;rw[a];exact b
def abI {α:Type} {l:List α} {k:Nat} {x:α} {P:α->Prop} (h:∀y∈l,P y) (b:P x):∀y∈l.set k x,P y:=fun y a=>by
 rcases a05 a with a|rfl
 .exact h y a
 .exact b
section
variable {S:bK}
def Gn.xO (G:Gn S) {x:wU} (h:S.bB.length<40) (a:afI S.aD.length S.weights.length x):Gn (S.xO x) :=
 ⟨⟨G.hn,G.hw,G.M7,G.Fg,G.wY,G.mE,G.mb,G.cb,G.aJ,G.ahead⟩,by show(S.bB++[x]).length<=40;simp;omega,G.OL,G.yP,RJ G.II a,G.C8,G.OA,G.d0,G.al,G.pb⟩
def Gn.vI (G:Gn S) {x:kU} (h:S.aN.length<40) (a:acw S.aD.length S.weights.length x) (b:x.period<=(S.aJ x.aU).now):Gn (S.vI x) :=
 ⟨⟨G.hn,G.hw,G.M7,G.Fg,G.wY,G.mE,G.mb,G.cb,G.aJ,G.ahead⟩,G.NU,by show(S.aN++[x]).length<=40;simp;omega,G.yP,G.II,RJ G.C8 a,G.OA,G.d0,G.al,RJ G.pb b⟩
def Gn.xN (G:Gn S) {x:Fh} (h:S.aH.length<40) (a:afH S.aD.length S.weights.length x):Gn (S.xN x) :=
 ⟨⟨G.hn,G.hw,G.M7,G.Fg,G.wY,G.mE,G.mb,G.cb,G.aJ,G.ahead⟩,G.NU,G.OL,by show(S.aH++[x]).length<=40;simp;omega,G.II,G.C8,RJ G.OA a,G.d0,G.al,G.pb⟩
def Gn.uK (G:Gn S) {x:wU} (a:afI S.aD.length S.weights.length x):Gn (S.uK k x) :=
 ⟨⟨G.hn,G.hw,G.M7,G.Fg,G.wY,G.mE,G.mb,G.cb,G.aJ,G.ahead⟩,by show(S.bB.set _ _).length<=40;simp;exact G.NU,G.OL,G.yP,abI G.II a,G.C8,G.OA,G.d0,G.al,G.pb⟩
def Gn.rD (G:Gn S) {x:kU} (a:acw S.aD.length S.weights.length x) (b:x.period<=(S.aJ x.aU).now):Gn (S.rD k x) :=
 ⟨⟨G.hn,G.hw,G.M7,G.Fg,G.wY,G.mE,G.mb,G.cb,G.aJ,G.ahead⟩,G.NU,by show(S.aN.set _ _).length<=40;simp;exact G.OL,G.yP,G.II,abI G.C8 a,G.OA,G.d0,G.al,abI G.pb b⟩
def Gn.C5 (G:Gn S) {x:Fh} (a:afH S.aD.length S.weights.length x):Gn (S.C5 k x) :=
 ⟨⟨G.hn,G.hw,G.M7,G.Fg,G.wY,G.mE,G.mb,G.cb,G.aJ,G.ahead⟩,G.NU,G.OL,by show(S.aH.set _ _).length<=40;simp;exact G.yP,G.II,G.C8,abI G.OA a,G.d0,G.al,G.pb⟩
end
structure oH (S:bK) (r:bK×Int):Prop where
 gn:Gn r.1
 err:gZ r.2
 no:r.2≠0->r.1=S
 le:r.1.aD.length=S.aD.length
 wt:r.1.weights=S.weights
 pe:r.1.bT=S.bT
 en:r.1.bU=S.bU
 me:r.1.methods=S.methods
 dn:r.1.done=S.done
def oH.bad (G:Gn S) {f:Int} (h:gZ f):oH S (S,f):=⟨G,h,fun _=>rfl,rfl,rfl,rfl,rfl,rfl,rfl⟩
def oH.ok {T:bK} (k:Kn S S1) (g:Gn T) (h1:T.aD=S1.aD) (f:T.weights=S1.weights) (d:T.bT=S1.bT) (c:T.bU=S1.bU) (b:T.methods=S1.methods) (a:T.done=S1.done):oH S (T,0):=by
 have e:=k.eq;have l:=k.len;rw[e]at f d c b a;exact⟨g,⟨by simp,by simp⟩,fun h=>absurd rfl h,by show T.aD.length=_;rw[h1,l],f,d,c,b,a⟩
def vK {l:List dE} (h:∀x∈l,(0<=x.a/\x.a<=100)/\(-4611686018427387904<=x.n/\x.n<=4611686018427387904)):eW (dY l):=Nb fun x b=>by
 have:=h x b;exact⟨⟨by omega,by omega⟩,⟨by omega,by omega⟩⟩
end
section
open Mc
variable {L:List bV}
structure nW where
 (q v p d:Int)
def nW.row (x:nW):List AV:=[.i x.q,.i x.v,.i x.p,.i x.d]
def dP (l:List nW):List (List AV):=l.map nW.row
def akZ (l:List nW):qU (dP l):=by
 intro r b x a;obtain⟨g,-,rfl⟩:=a0l.1 b;simp only[nW.row,a0c,a0b,or_false]at a;rcases a with rfl|rfl|rfl|rfl<;>exact .c _
instance (l:List nW):lU (dP l):=⟨akZ l⟩
def rK {ρ:Nat->Int} {p:Poly} {l:List dL} {now:Int} {closed:Bool} {bH:List dI} {cU:List Int} {aM:List (List Int)} {aZ down:List Int} {ahead:List EntC} (h:l[(evP ρ p).toNat]?=some ⟨⟨now,closed,bH,cU,aM,aZ,down⟩,ahead⟩):(bD l)[(cQ ρ p).toNat]?=some [.i now,.c (.bool closed),.lit 4 (bP bH),.lit 1 (aA cU),.lit 11 (bM aM),.lit 1 (aA aZ),.lit 1 (aA down),.lit 8 (bW ahead)]:=rH (xV ρ p).symm (aiu h)
def wL (S:bK) (item:Int) (j:Nat):List bV:=(List.range j).map fun(e:Nat)=>(bZ S (e:Int) item).1
def tL (S:bK) (item:Int) (j:Nat):List Fh:=(S.aH.take j).filter fun t=>t.item==item
def RX (S:bK) (item:Int):List Int:=(wL S item S.aD.length).map (·.q)++(tL S item S.aH.length).map (·.eU)
def RW (S:bK) (item:Int):List Int:=(wL S item S.aD.length).map (·.v)++(tL S item S.aH.length).map (·.value)
def RY (S:bK) (item:Int):List Int:=(wL S item S.aD.length).map (·.p)++(tL S item S.aH.length).map (·.bY)
def CN (S:bK) (item:Int):List Int:=S.aD.map fun x=>x.down.getD item.toNat 0
def xU (S:bK) (a:Int):List Int:=S.aD.map fun x=>x.cU.getD a.toNat 0
def R9 {S:bK} (G:Gn S) (c:S.aD.length=2\/S.aD.length=3):(∃b a,S.aD=[b,a])\/∃b a d,S.aD=[b,a,d]:=by
 match h:S.aD,c with
 |[b,a],_=>exact .inl ⟨b,a,rfl⟩
 |[b,a,d],_=>exact .inr ⟨b,a,d,rfl⟩
 |[],c=>simp at c
 |[_],c=>simp at c
 |_::_::_::_::_,c=>simp at c
def acC (S:bK) (item:Int) (j:Nat):wL S item (j+1)=wL S item j++[(bZ S (j:Int) item).1]:=by simp[wL,a15]
def acN {S:bK} {item:Int} {j:Nat} {g:Fh} (h:S.aH[j]?=some g):tL S item (j+1)=tL S item j++(if g.item=item then[g]else[]):=by
 unfold tL;rw[a0n,h,a08];by_cases a:g.item=item<;>simp[a]
def eY (l:List Int) (x:Int):aA l++[[.i x]]=aA (l++[x]):=by simp[aA]
namespace GO
abbrev oF (a b c l n i:AV):List AV:=fr 113 [(2,.ptr 10 0 0 0),(3,.ptr 1 1 0 0),(4,.ptr 4 2 0 0),(5,.i 0),(6,a),(7,b),(8,c),(21,l),(22,n),(23,i)]
abbrev RF (a b c l n i:AV):List AV:=fr 113 [(2,.ptr 10 0 0 0),(3,.ptr 1 1 0 0),(4,.ptr 4 2 0 0),(5,.i 0),(6,a),(7,b),(8,c),(47,l),(48,n),(49,i)]
abbrev O5 (d i:AV):List AV:=fr 113 [(4,.ptr 4 5 0 0),(5,.i 0),(13,.ptr 4 0 0 0),(14,d),(15,.i 0),(91,.own 128 2 4 0 3),(92,.i 3),(93,i)]
abbrev sR (S:bK):Mc.dC:=.cells 31 10 [[.i S.bU,.i S.bT,.lit 1 (aA S.weights),.lit 1 (bF S.methods),.lit 1 (bF S.cI),.lit 8 (bD S.aD),.lit 8 (hH S.bB),.lit 9 (dX S.aN),.lit 6 (fM S.aH),.i S.done]]
abbrev oB (S:bK) (item:Int) (q v p:List (List AV)):List Mc.dC:=[sR S,.cells 3 1 [[.i item]],.cells 46 4 KeY,.cells 3 1 q,.cells 3 1 v,.cells 3 1 p]
abbrev oB3 (g:List AV) (k:Nat) (q v p:List Int):List Mc.dC:=[.cells 46 4 [g],.cells 3 1 (aA q),.cells 3 1 (aA v),.cells 3 1 (aA p),.cells 128 2 [[.ptr 4 0 0 0,.own 3 1 1 0 k],[.ptr 4 0 0 1,.own 3 1 2 0 k],[.ptr 4 0 0 2,.own 3 1 3 0 k]],.cells 46 4 KeY]
abbrev fA (S:bK) (k j:Nat):List AV:=oF (.own 3 1 3 0 k) (.own 3 1 4 0 k) (.own 3 1 5 0 k) (.lit 8 (bD S.aD)) (.i (S.aD.length:Int)) (.i (j:Int))
abbrev fT (S:bK) (k j:Nat):List AV:=RF (.own 3 1 3 0 k) (.own 3 1 4 0 k) (.own 3 1 5 0 k) (.lit 6 (fM S.aH)) (.i (S.aH.length:Int)) (.i (j:Int))
noncomputable def body:Code:=(Tryz.f34).body.getD .skip
abbrev amh (c:Code) (r:Option (RT Out)):Prop:=nV { vars:=KdS,facts:=KdT,lens:=Bc } c (Kdx++List.replicate 111 .undef) [] [some 0,some 1,some 2,none,none,none] (oF Kgz KgC (.own 3 1 5 0 0) (.q 8 0) (.v 2) (.i 0)) [YH,KfA,KaI,KgO,KgO,KgO] r
noncomputable def acR:Option (RT Out):=uL { vars:=KdS,facts:=KdT,lens:=Bc } body (Kdx++List.replicate 111 .undef:List AV).length (Kdx++List.replicate 111 .undef) [] 0
def aoK:amh body acR:=⟨rfl,by decide +kernel,by decide +kernel⟩
abbrev amg (c:Code):Prop:=dD { vars:=[(0,4),(1,5),(0,4),(0,40),(0,3)],facts:=GB,lens:=Yq,bR:=[(69,[KfT,.v 4,.v 0],KeR)] } c (oF KeZ Ke0 Ke1 (.q 8 0) (.v 2) (.v 4)) KT 0 [some 0,some 1,some 2,some 8,some 10,some 12] (oF KcN KcO KcP (.q 8 0) (.v 2) KfB) [YH,KfA,KaI,B0,B2,B6]
abbrev amf (c:Code):Prop:=dD { vars:=KdS,facts:=KdT,lens:=Yr } c (oF Ke2 Ke3 Ke4 (.q 8 0) (.v 2) (.v 2)) KU 2 [some 0,some 1,some 2,some 3,some 4,some 5] (oF Ke2 Ke3 Ke4 (.q 8 0) (.v 2) (.v 2)) KU
abbrev abi (o:Option (RT Out)) (r:Option (RT Out)):Prop:=pJ { vars:=KdS,facts:=KdT,lens:=Yr } o 0 (oF Ke2 Ke3 Ke4 (.q 8 0) (.v 2) (.v 2)) KU [some 0,some 1,some 2,some 3,some 4,some 5] (RF Ke2 Ke3 Ke4 (.q 6 6) (.v 3) (.i 0)) KU r
noncomputable def FB:Option (RT Out):=IF { vars:=KdS,facts:=KdT,lens:=Yr } acR 0 (oF Ke2 Ke3 Ke4 (.q 8 0) (.v 2) (.v 2):List AV).length (oF Ke2 Ke3 Ke4 (.q 8 0) (.v 2) (.v 2)) KU 6
def anj:abi acR FB:=⟨rfl,by decide +kernel,by decide +kernel⟩
abbrev ag4 (c:Code):Prop:=dD { vars:=DB,facts:=Uu,lens:=Yq,gI:=Dr } c (RF KeZ Ke0 Ke1 (.q 6 6) (.v 3) (.v 5)) KT 0 [some 0,some 1,some 2,some 8,some 10,some 12] (RF KcN KcO KcP (.q 6 6) (.v 3) KfC) [YH,KfA,KaI,B7,B8,B9]
abbrev adm (c:Code):Prop:=dD { vars:=DB,facts:=YT,lens:=Yq,gI:=Dr } c (RF KeZ Ke0 Ke1 (.q 6 6) (.v 3) (.v 5)) KT 0 [some 0,some 1,some 2,some 3,some 4,some 5] (RF KeZ Ke0 Ke1 (.q 6 6) (.v 3) KfC) KT
abbrev adn (c:Code):Prop:=dD { vars:=DB,facts:=Uv,lens:=Yq,gI:=Dr } c (RF KeZ Ke0 Ke1 (.q 6 6) (.v 3) (.v 5)) KT 0 [some 0,some 1,some 2,some 3,some 4,some 5] (RF KeZ Ke0 Ke1 (.q 6 6) (.v 3) KfC) KT
abbrev ag3 (c:Code):Prop:=dD { vars:=Kb1,facts:=KdT,lens:=Yq } c (RF KeZ Ke0 Ke1 (.q 6 6) (.v 3) (.v 3)) KT 4 [some 0,some 1,some 2,some 3,some 4,some 5] (RF KeZ Ke0 Ke1 (.q 6 6) (.v 3) (.v 3)) KT
abbrev Rn (o:Option (RT Out)) (r:Option (RT Out)):Prop:=pJ { vars:=Kb2,facts:=KdT,lens:=QI,gI:=[(0,[],WS),KfD,Vu,KfE],bR:=H9 } o 2 (RF KeZ Ke0 Ke1 (.q 6 6) (.v 3) (.v 3)) KT [some 6,some 3,some 4,some 5,some 15,some 2] (O5 (.o 9) (.i 0)) [(.cells 46 4 [[.i 0,.i 0,.i 0,.o 9]]),Kdy,Kdz,KdA,JT,KaI] r
noncomputable def acQ:Option (RT Out):=IF { vars:=Kb2,facts:=KdT,lens:=QI,gI:=[(0,[],WS),KfD,Vu,KfE],bR:=H9 } FB 2 (RF KeZ Ke0 Ke1 (.q 6 6) (.v 3) (.v 3):List AV).length (RF KeZ Ke0 Ke1 (.q 6 6) (.v 3) (.v 3)) KT 6
def ajF:Rn FB acQ:=⟨rfl,by decide +kernel,by decide +kernel⟩
abbrev Rm (o:Option (RT Out)) (r:Option (RT Out)):Prop:=pJ { vars:=Kb3,facts:=KdT,lens:=Qa,gI:=[(0,[],WS),KfD,Vu,KfE,Vb,(26,[([0],1)],[.o 11])],bR:=WJ } o 2 (RF KeZ Ke0 Ke1 (.q 6 6) (.v 3) (.v 3)) KT [some 6,some 3,some 4,some 5,some 19,some 2] (O5 (.o 12) (.i 0)) [(.cells 46 4 [[.i 0,.i 0,.i 0,.o 12]]),Kdy,Kdz,KdA,JT,KaI] r
noncomputable def acP:Option (RT Out):=IF { vars:=Kb3,facts:=KdT,lens:=Qa,gI:=[(0,[],WS),KfD,Vu,KfE,Vb,(26,[([0],1)],[.o 11])],bR:=WJ } FB 2 (RF KeZ Ke0 Ke1 (.q 6 6) (.v 3) (.v 3):List AV).length (RF KeZ Ke0 Ke1 (.q 6 6) (.v 3) (.v 3)) KT 6
def ajE:Rm FB acP:=⟨rfl,by decide +kernel,by decide +kernel⟩
abbrev ag7 (c:Code):Prop:=dD { vars:=[(0,44)],lens:=Be,bR:=[(72,[.q 1 0],(.bG [.o 1,.i 0]))] } c (O5 (.o 0) (.i 0)) [(.cells 46 4 [[.i 0,.i 0,.i 0,.o 0]]),KdD,Kdu,Kdv,JU,KaI] 0 [some 0,some 1,some 2,some 3,some 4,some 5] (O5 (.o 0) (.i 1)) Ku
abbrev ag6 (c:Code):Prop:=dD { vars:=[(0,44)],lens:=Be,bR:=[(72,[.q 1 1],(.bG [.o 2,.i 0]))] } c (O5 (.o 0) (.i 1)) Ku 0 [some 0,some 1,some 2,some 3,some 4,some 5] (O5 (.o 0) (.i 2)) Kv
abbrev ag5 (c:Code):Prop:=dD { vars:=[(0,44)],lens:=Be,bR:=[(72,[.q 1 2],(.bG [.o 3,.i 0]))] } c (O5 (.o 0) (.i 2)) Kv 0 [some 0,some 1,some 2,some 3,some 4,some 5] (O5 (.o 0) (.i 3)) Kw
abbrev abh (c:Code):Prop:=dD { vars:=[(0,44)],lens:=Be } c (O5 (.o 0) (.i 3)) Kw 6 [some 0,some 1,some 2,some 3,some 4,some 5] (O5 (.o 0) (.i 3)) Kw
abbrev ag2 (o:Option (RT Out)):Prop:=iU { vars:=[(0,44)],lens:=Be } Tryz.f34 o 4 (O5 (.o 0) (.i 3)) Kw ((.bG [(.agg [.o 1,.o 2,.o 3,.o 0]),.i 0]))
end GO
def mM {l:List bV} (h:eW (flat l)):Ck 198 [.lit 3 (aO l)] (.bG [(uF l).av,.i (NY l)]):=by
 refine⟨bN (EU _).lit fY,.bG _ (bN (aiW _) (bN (.c _) fY)),?_⟩;intro A w vs m k f d;have b:=uS f;generalize vs.getD 0 Go.undef=j at b;subst b;obtain⟨a,cap,rfl,R⟩:=RQ (d 0 _ rfl) h;refine(Mx a cap l w R).mono ?_;rintro e w' ⟨rfl,g⟩;exact⟨_,rfl,mI (ajV _) qJ,g⟩
def kO {v q n:Int} (a:fW v) (b:fW q) (d:fW n):Ck 149 [.i v,.i q,.i n] (.i (dM v q n)) :=
 ⟨bN (.c _) (bN (.c _) (bN (.c _) fY)),.c _,@anK dK dN _ [.int .i64 v,.int .i64 q,.int .i64 n] _ fun w=>(agu v q n w a b d).mono fun e w' h=>⟨h.1,h.2▸Below.refl _ _⟩⟩
namespace D9O
abbrev oF (l q m i:AV):List AV:=fr 107 [(0,l),(1,q),(4,.emp),(5,.ptr 3 0 0 0),(6,.i 0),(7,.ptr 3 1 0 0),(8,.i 0),(9,.ptr 3 2 0 0),(10,m),(11,i)]
abbrev lB (a b c:Int):Mc.dC:=.cells 101 3 [[.i a,.i b,.i c]]
abbrev oB (t g:bV) (m:List (List AV)):List Mc.dC:=[lB 0 0 0,lB t.q t.v t.p,lB g.q g.v g.p,.cells 101 3 m]
abbrev fO (L:List bV) (q:Int) (k j:Nat):List AV:=oF (.lit 3 (aO L)) (.i q) (.own 101 3 3 0 k) (.i (j:Int))
noncomputable def body:Code:=(Tryz.f215).body.getD .skip
abbrev ahi (c:Code) (r:Option (RT Out)):Prop:=nV { vars:=Kbf,facts:=Bf,lens:=KgN,bR:=Hx } c (Khi++List.replicate 105 .undef) [] [some 0,some 1,some 2,none] (oF (.q 3 0) (.v 1) (.own 101 3 3 0 0) (.i 0)) [KbZ,(.cells 101 3 [[.v 2,.o 0,.o 1]]),KbZ,(.cells 101 3 [])] r
noncomputable def aaP:Option (RT Out):=uL { vars:=Kbf,facts:=Bf,lens:=KgN,bR:=Hx } body (Khi++List.replicate 105 .undef:List AV).length (Khi++List.replicate 105 .undef) [] 0
def ann:ahi body aaP:=⟨by unfold aaP;rfl,by decide +kernel,by decide +kernel⟩
structure Inv (L:List bV) (q:Int) (j:Nat) (m:List bV) (g:bV):Prop where
 r:m++(jL (L.drop j) g (q-g.q)).1=(jL L .zero q).1/\(jL (L.drop j) g (q-g.q)).2=(jL L .zero q).2
 ml:m.length<=j
 gq:0<=g.q/\g.q<=qs (L.take j)
 gv:0<=g.v/\g.v<=vs (L.take j)
 gp:-(yN (L.take j))<=g.p/\g.p<=yN (L.take j)
def ald (a b:List bV):yN (a++b)=yN a+yN b:=by
 unfold yN eR;simp only[a09,a2l]
def ajD (h:LR L) (j:Nat):qs (L.take j)<=288230376151711744/\vs (L.take j)<=288230376151711744/\yN (L.take j)<=288230376151711744:=by
 have e:∀x∈L.drop j,kS x=true:=fun x a=>h.ok x (a2x a);have k:=gG e;have b:=NA (L.drop j);have f:qs (L.take j)+qs (L.drop j)=qs L:=by rw[<-FD,a2c]
 have d:vs (L.take j)+vs (L.drop j)=vs L:=by rw[<-Fo,a2c]
 have c:yN (L.take j)+yN (L.drop j)=yN L:=by rw[<-ald,a2c]
 have:=h.q;have:=h.v;have:=h.p;omega
def Inv.next {q:Int} {j:Nat} {m f:List bV} {g d x:bV} (i:L[j]?=some x) (I:Inv L q j m g) (h:f++(jL (L.drop (j+1)) d (q-d.q)).1=m++(jL (x::L.drop (j+1)) g (q-g.q)).1/\(jL (L.drop (j+1)) d (q-d.q)).2=(jL (x::L.drop (j+1)) g (q-g.q)).2)
  (ml:f.length<=m.length+1) (a:0<=d.q/\d.q<=g.q+x.q) (b:0<=d.v/\d.v<=g.v+x.v) (c:-(max x.p (-x.p))<=d.p-g.p/\d.p-g.p<=max x.p (-x.p)):Inv L q (j+1) f d:=by
 obtain⟨⟨r1,r2⟩,l,⟨q0,t⟩,⟨s,r⟩,p0,p1⟩:=I;have e:=(a0y.1 i).1;have n:L.drop j=x::L.drop (j+1):=by rw[<-a2t e];congr 1;exact Option.some.inj (by rw[<-a0d e,i])
 have k:L.take (j+1)=L.take j++[x]:=by rw[a0n,i];rfl
 have o:yN (L.take j++[x])=yN (L.take j)+max x.p (-x.p):=by unfold yN;simp[eR]
 have e1:qs (L.take j++[x])=qs (L.take j)+x.q:=by rw[FD];simp[qs]
 have e2:vs (L.take j++[x])=vs (L.take j)+x.v:=by rw[Fo];simp[vs]
 rw[n]at r1 r2;refine⟨⟨h.1.trans r1,h.2.trans r2⟩,by omega,?_,?_,?_⟩
 .rw[k,e1];omega
 .rw[k,e2];omega
 .rw[k,o];omega
def walk (oA:Option (RT Out)) (U:ahi body oA) (K:dD { vars:=Za,facts:=[Kd5,(Kge,-288230376151711744,0)],lens:=Kc6,gI:=Kco } (aW oA) (oF (.q 3 0) (.v 1) Kd6 (.v 2)) J4 0 [some 0,some 1,some 2,some 6] (oF (.q 3 0) (.v 1) (.cZ 101 3 3 KgE) KfF) [KbZ,Kb0,(.cells 101 3 [[.v 4,.v 5,.v 6]]),(.sc 101 3 1 [] [[.v 7,.v 8,.v 9]] KgE)]) (rc:dD { vars:=[(0,30),Kfr,(0,29),(0,29),Kfs,iK,iK,Kfr,iK,iK,iK,iK],facts:=[Kd5,BH,(KdU,1,576460752303423488)],lens:=Kc6,gI:=Kco,bR:=[(149,[.v 8,(.e Kge),.v 7],(.v 10)),(149,[.v 9,(.e Kge),.v 7],(.v 11))] } (aW oA) (oF (.q 3 0) (.v 1) Kd6 (.v 2)) J4 0 [some 0,some 1,some 2,some 7] (oF (.q 3 0) (.v 1) (.cZ 101 3 3 KgE) KfF) [KbZ,Kb0,(.cells 101 3 [[.v 1,(.e [([5],1),([10],1)]),(.e [([6],1),([11],1)])]]),(.sc 101 3 1 [] [[(.e KdU),(.e [([8],1),([10],-1)]),(.e [([9],1),([11],-1)])]] KgE)]) (Q:dD { vars:=Za,facts:=[Kd5,BH,(KdU,-576460752303423488,0)],lens:=Kc6,gI:=Kco } (aW oA) (oF (.q 3 0) (.v 1) Kd6 (.v 2)) J4 0 [some 0,some 1,some 2,some 3] (oF (.q 3 0) (.v 1) Kd6 KfF) [KbZ,Kb0,(.cells 101 3 [[Kft,(.e [([5],1),([8],1)]),(.e [([6],1),([9],1)])]]),(.sc 101 3 1 [] [] [([3],1)])]) (T:dD { vars:=Kas,lens:=Kc7 } (aW oA) (oF (.q 3 0) (.v 1) Kd7 (.v 0)) J5 3 [some 0,some 1,some 2,some 3] (oF (.q 3 0) (.v 1) Kd7 (.v 0)) J5) (S:iU { vars:=Kas,lens:=Kc7 } Tryz.f215 oA 1 (oF (.q 3 0) (.v 1) Kd7 (.v 0)) J5 ((.bG [.q 3 1,KeR,.i 0]))) {q:Int} (h:LR L) (h1:1<=q) (W:q<=qs L) :
  Ck 215 [.lit 3 (aO L),.i q] (.bG [.lit 3 (aO (jL L .zero q).1),(jL L .zero q).2.av,.i 0]):=by
 have hn:=h.len;have hl:(aO L).length=L.length:=by simp[aO]
 have B:=mM (l:=L) (adM h.ok);rw[h.uF.1,h.uF.2]at B;have J:=h.q;obtain⟨tq,u⟩:∃x,x=qs L:=⟨_,rfl⟩;obtain⟨tv,C⟩:∃x,x=vs L:=⟨_,rfl⟩;obtain⟨tp,D⟩:∃x,x=ps L:=⟨_,rfl⟩;have B:Ck 198 [.lit 3 (aO L)] (.bG [.agg [.i tq,.i tv,.i tp],.i 0]):=by rw[u,C,D];exact B
 rw[<-u]at W J;clear u C D;obtain⟨R,O⟩:∃R,R=jL L .zero q:=⟨_,rfl⟩;have I0:Inv L q 0 [] .zero:=⟨⟨by simp[bV.zero],by simp[bV.zero]⟩,a0h _,⟨by simp[bV.zero],by simp[bV.zero,qs]⟩,⟨by simp[bV.zero],by simp[bV.zero,vs]⟩,⟨by simp[bV.zero,yN,eR],by simp[bV.zero,yN,eR]⟩⟩;rw[<-O];refine CK.fP Tryz.func215 (c:=body) (by kernel_rfl) (yO.out) (uD.out) fun A w0 a0=>?_
 intro mm w a b;rw[Tryz.ntmps215]at b;refine U.go (ev1 _ [(L.length:Int),q,tq] [.I tv,.I tp] [aO L] .nil) (xK (kc B kn)) b (fd:=fO L q 0 0) (bd:=oB ⟨tq,tv,tp⟩ .zero []) ?_;intro mm w a b;refine cN (fun n a w=>∃(j k:Nat) (m:List bV) (g:bV),n=L.length-j/\j<=L.length/\m.length=k/\Inv L q j m g/\∃mm,@dZ dK dN A w0 a0 mm w a (fO L q k j) (eB (oB ⟨tq,tv,tp⟩ g (aO m)))) ?_ (n:=L.length) ⟨0,0,[],.zero,rfl,a0j _,rfl,I0,mm,b⟩;rintro n a w ⟨j,k,m,g,rfl,hj,V,I,mm,b⟩;have wY:(aO m).length=m.length:=by simp[aO]
 have:=I.ml;rcases(by omega:j=L.length\/j<L.length)with rfl|M
 .obtain⟨e1,e2⟩:=I.r
  rw[a3e]at e1 e2;simp only[jL,a1i]at e1 e2;rw[<-O]at e1 e2;rw[<-e1,<-e2];refine T.go (ev1 _ [(L.length:Int),q,(k:Int)] [.I tq,.I tv,.I tp,.I g.q,.I g.v,.I g.p] [aO L,aO m] .nil) (xK kn) b ?_;intro mm w a b;exact S.go (ev1 _ [(L.length:Int),q,(k:Int)] [.I tq,.I tv,.I tp,.I g.q,.I g.v,.I g.p] [aO L,aO m] .nil) (xK kn) b
 .obtain⟨x,o⟩:∃x,L[j]?=some x:=⟨_,a0d M⟩
  have H:L[(j:Int).toNat]?=some x:=by simpa using o
  have E:=h.ok x (a0a o);obtain⟨x1,x2,x3,x4,x5,x6⟩:=eI.1 E;have tl:=ajD h j;have gq:=I.gq;have gv:=I.gv;have gp:=I.gp
  have nx:∀(t:List bV) (z:bV),Inv L q (j+1) t z->∀k':Nat,t.length=k'->∀mm w a,@dZ dK dN A w0 a0 mm w a (oF (.lit 3 (aO L)) (.i q) (.own 101 3 3 0 k') (.i (1+(j:Int)))) (eB (oB ⟨tq,tv,tp⟩ z (aO t)))->∃n',n'<L.length-j/\∃(j k:Nat) (m:List bV) (g:bV),n'=L.length-j/\j<=L.length/\m.length=k/\Inv L q j m g/\∃mm,@dZ dK dN A w0 a0 mm w a (fO L q k j) (eB (oB ⟨tq,tv,tp⟩ g (aO m))):=by
   intro t z f k' N mm w a b;rw[show(1+(j:Int))=((j+1:Nat):Int)by omega]at b;exact⟨_,by omega,j+1,k',t,z,rfl,by omega,N,f,mm,b⟩
  have s:∀y:bV,aO m++[[.i y.q,.i y.v,.i y.p]]=aO (m++[y]):=fun y=>by simp[aO,jF,bV.r]
  rcases(by omega:q-g.q<=0\/(0<q-g.q/\q-g.q<x.q)\/(0<q-g.q/\x.q<=q-g.q))with c|⟨c,P⟩|⟨c,P⟩
  .have f:Inv L q (j+1) (m++[x]) g:=I.next o (by rw[FJ c,FJ c];simp) (by simp) (by omega) (by omega) (by omega)
   have nx:=nx _ _ f (1+(k:Int)).toNat (by simp;omega);rw[<-s]at nx;clear I f s;exact K.go (ev1 _ [(L.length:Int),q,(j:Int),(k:Int),g.q,g.v,g.p,x.q,x.v,x.p] [.I tq,.I tv,.I tp] [aO L,aO m] (.d (aY H) .nil)) (xK kn) b (fd:=oF (.lit 3 (aO L)) (.i q) (.own 101 3 3 0 (1+(k:Int)).toNat) (.i (1+(j:Int)))) (bd:=oB ⟨tq,tv,tp⟩ g (aO m++[[.i x.q,.i x.v,.i x.p]])) nx
  .have Y:=kO (v:=x.v) (q:=q-g.q) (n:=x.q) ⟨by omega,by omega⟩ ⟨by omega,by omega⟩ ⟨by omega,by omega⟩
   have Z:=kO (v:=x.p) (q:=q-g.q) (n:=x.q) ⟨by omega,by omega⟩ ⟨by omega,by omega⟩ ⟨by omega,by omega⟩;have X:=abZ E (q:=q-g.q) (by omega) (by omega);obtain⟨b1,b2,b3,b4,b5,b6⟩:=X;have cp:=aiL E (q:=q-g.q) (by omega) (by omega)
   have f:Inv L q (j+1) (m++[lX x (mZ x (q-g.q))]) (lD g (mZ x (q-g.q))):=I.next o (by
    have e:q-(lD g (mZ x (q-g.q))).q=0:=by simp only[lD,mZ];omega
    rw[e,FJ (a0f _)];simp only[jL];rw[if_neg (by omega),if_pos P];simp) (by simp) (by simp only[lD,mZ];omega) (by simp only[lD,mZ];omega) (by simp only[lD,mZ];omega)
   have nx:=nx _ _ f (1+(k:Int)).toNat (by simp;omega);rw[<-s]at nx;simp only[lD,mZ,lX]at nx;rw[show g.q+(q-g.q)=q by omega,show x.q-(q-g.q)=-q+g.q+x.q by omega]at nx;generalize dM x.v (q-g.q) x.q=F at *;generalize dM x.p (q-g.q) x.q=G at *;clear I f s;exact rc.go (ev1 _ [(L.length:Int),q,(j:Int),(k:Int),g.q,g.v,g.p,x.q,x.v,x.p,F,G] [.I tq,.I tv,.I tp] [aO L,aO m] (.d (aY H) .nil)) (xK (kc Y (kc Z kn))) b (fd:=oF (.lit 3 (aO L)) (.i q) (.own 101 3 3 0 (1+(k:Int)).toNat) (.i (1+(j:Int)))) (bd:=oB ⟨tq,tv,tp⟩ ⟨q,g.v+F,g.p+G⟩ (aO m++[[.i (-q+g.q+x.q),.i (x.v-F),.i (x.p-G)]])) nx
  .have f:Inv L q (j+1) m (lD g x):=I.next o (by
    have e:q-(lD g x).q=q-g.q-x.q:=by simp only[lD];omega
    rw[e];simp only[jL];rw[if_neg (by omega),if_neg (by omega)];exact⟨rfl,rfl⟩) (by omega) (by simp only[lD];omega) (by simp only[lD];omega) (by simp only[lD];omega)
   have nx:=nx _ _ f k V;simp only[lD]at nx;clear I f s;exact Q.go (ev1 _ [(L.length:Int),q,(j:Int),(k:Int),g.q,g.v,g.p,x.q,x.v,x.p] [.I tq,.I tv,.I tp] [aO L,aO m] (.d (aY H) .nil)) (xK kn) b (fd:=oF (.lit 3 (aO L)) (.i q) (.own 101 3 3 0 k) (.i (1+(j:Int)))) (bd:=oB ⟨tq,tv,tp⟩ ⟨g.q+x.q,g.v+x.v,g.p+x.p⟩ (aO m)) nx
end D9O
def Px (h:LR L) {q:Int} (c:fW q):Ck 215 [.lit 3 (aO L),.i q] (.bG [.lit 3 (aO (fU L q).1),(fU L q).2.1.av,.i (fU L q).2.2]):=by
 have b:=mM (l:=L) (adM h.ok);have:=c.lo;have:=c.hi;have e:=h.q;have q0:=(gG h.ok).1;unfold fU;by_cases d:q<1
 .rw[if_pos d]
  rw[h.uF.2]at b;generalize uF L=t at *;exact cw _ (ev1 { vars:=[Kes],bR:=[(198,[.q 3 0],KaH)] } [q] [.I t.q,.I t.v,.I t.p] [aO L] .nil) [.q 3 0,.v 0] (.bG [.q 3 0,Ke6,.i 1]) (kc b kn)
 rw[if_neg d];by_cases a:(uF L).q<q
 .rw[if_pos a]
  have f:(uF L).q=qs L:=by rw[h.uF.1]
  rw[h.uF.2]at b;generalize uF L=t at *;exact cw _ (ev1 { vars:=[Ke7,iK],facts:=[(Kgc,1,18446744073709551616)],bR:=[(198,[.q 3 0],(.bG [(.agg [.v 1,.o 0,.o 1]),.i 0]))] } [q,t.q] [.I t.v,.I t.p] [aO L] .nil) [.q 3 0,.v 0] (.bG [.q 3 0,Ke6,.i 5]) (kc b kn)
 rw[if_neg a];rw[h.uF.1]at a;exact D9O.walk D9O.aaP D9O.ann .of .of .of .of .of h (by omega) (by simp only at a;omega)
def zS {l:List bV} (i:eW (flat l)) (f:l.length<=1000):Ck 199 [.lit 3 (aO l)] (.c (.bool (lM l))):=by
 refine⟨bN (EU _).lit fY,.c _,?_⟩;intro A w vs m k g d;have b:=uS g;generalize vs.getD 0 Go.undef=j at b;subst b;obtain⟨a,cap,rfl,R⟩:=RQ (d 0 _ rfl) i;refine(aa0 a cap l w R f).mono ?_;rintro e w' ⟨rfl,h⟩;exact⟨_,rfl,@eE.c dK dN A w' _,h⟩
def XK {l:List bV} (j:eW (flat l)) (d:l.all kS=true):Ck 197 [.lit 3 (aO l)] (.bG [.i (dJ (l.map kR)),.i (dW (l.map kR))]):=by
 refine⟨bN (EU _).lit fY,.bG _ (bN (.c _) (bN (.c _) fY)),?_⟩;intro A w vs n m g f;have b:=uS g;generalize vs.getD 0 Go.undef=k at b;subst b;obtain⟨a,cap,rfl,R⟩:=RQ (f 0 _ rfl) j;refine(OO a cap l w R d).mono ?_;rintro e w' ⟨rfl,h⟩;exact⟨_,rfl,mI qJ qJ,h⟩
def F0 (l:List bV) (x:bV):aO (l++[x])=aO l++[jF x.r]:=by simp[aO]
def CB {l:List bV} (h:∀x∈l,eW [x.q,x.v,x.p]):eW (flat l):=by
 intro z a;obtain⟨x,b,a⟩:=a1v.1 a;exact h x b z a
def Pa {x:bV} (h:kS x=true):eW [x.q,x.v,x.p]:=by
 have:=eI.1 h;intro z a;simp only[a0c,a0b,or_false]at a;rcases a with rfl|rfl|rfl<;>exact⟨by omega,by omega⟩
section
variable {L:List bV} {q v z:Int}
def af2 (h:LR L) (b:eW [q,v,z]):eW (flat (L++[⟨q,v,z⟩])):=CB fun x a=>by
 rcases a0m.1 a with h'|h'
 .exact Pa (h.ok x h')
 .rw[a07]at h';subst h';exact b
def ai4 (h:LR L) (a:eW [q,v,z]):Ck 225 [.lit 3 (aO L),bV.av ⟨q,v,z⟩] (.bG [.lit 3 (aO (Cy L ⟨q,v,z⟩).1),.i (Cy L ⟨q,v,z⟩).2]):=by
 have j:=h.len;have e:=a q (by simp);have d:=a v (by simp);have:=e.lo;have:=e.hi;have:=d.lo;have:=d.hi;have c:=zS (af2 h a) (by simp;omega);unfold Cy;rcases(by omega:q<=0\/(1<=q/\v<=-1)\/(1<=q/\0<=v))with g|g|g
 .rw[if_pos (.inl (by simp only;omega))];exact cw _ (ev1 { vars:=KaJ,lens:=KgN } [(L.length:Int),q,v] [.I z] [aO L] .nil) Kcp KfU kn
 .rw[if_pos (.inr (by simp only;omega))];exact cw _ (ev1 { vars:=WY,lens:=KgN } [(L.length:Int),q,v] [.I z] [aO L] .nil) Kcp KfU kn
 rw[if_neg (by simp only;omega)];by_cases f:30<=L.length
 .rw[if_pos f];exact cw _ (ev1 { vars:=[(30,30),Ke7,Ke8],lens:=KgN } [(L.length:Int),q,v] [.I z] [aO L] .nil) Kcp (.bG [.q 3 0,.i 6]) kn
 rw[if_neg f];generalize lM (L++[⟨q,v,z⟩])=b at *;rw[F0]at c;cases b with
 |false=>rw[if_neg (by simp)];exact cw _ (ev1 { vars:=Hi,lens:=KgN,bR:=WK } [(L.length:Int),q,v] [.I z] [aO L] .nil) Kcp (.bG [.q 3 0,.i 2]) (kc c kn)
 |true=>rw[if_pos rfl];simp only[F0];exact cw _ (ev1 { vars:=Hi,lens:=KgN,bR:=[WZ] } [(L.length:Int),q,v] [.I z] [aO L] .nil) Kcp (.bG [(.seq 3 0 [] [[.v 1,.v 2,.o 0]]),.i 0]) (kc c kn)
def Nn (h:LR L) (h1:L.length<=1) (c:eW [q,v,z]):Ck 226 [.lit 3 (aO L),bV.av ⟨q,v,z⟩] (.bG [.lit 3 (aO (zJ L ⟨q,v,z⟩).1),.i (zJ L ⟨q,v,z⟩).2]):=by
 have l:=h.len;have f:=c q (by simp);have e:=c v (by simp);have:=f.lo;have:=f.hi;have:=e.lo;have:=e.hi;have b:=zS (af2 h c) (by simp;omega);have d:=mM (af2 h c);unfold zJ Cy;rcases(by omega:q<=0\/(1<=q/\v<=-1)\/(1<=q/\0<=v))with h1|h1|h1
 .simp only[if_pos (show q<1\/v<0 from .inl (by omega))];exact cw _ (ev1 { vars:=KaJ,lens:=KgN } [(L.length:Int),q,v] [.I z] [aO L] .nil) Kcp KfU kn
 .simp only[if_pos (show q<1\/v<0 from .inr (by omega))];exact cw _ (ev1 { vars:=WY,lens:=KgN } [(L.length:Int),q,v] [.I z] [aO L] .nil) Kcp KfU kn
 simp only[if_neg (show ¬(q<1\/v<0)by omega),if_neg (show ¬ 30<=L.length by omega)];rw[F0]at b d;by_cases a:lM (L++[⟨q,v,z⟩])=true
 .rw[(LR.of a).uF.2]at d
  rw[a]at b;simp only[a,if_true];generalize uF (L++[⟨q,v,z⟩])=t at *;obtain⟨k,j,g⟩:=t;exact cw _ (ev1 { vars:=Hj,lens:=KgN,bR:=[WZ,(198,Kbw,(.bG [(.agg [.o 1,.o 2,.o 3]),.i 0]))] } [(L.length:Int),q,v] [.I z,.I k,.I j,.I g] [aO L] .nil) Kcp (.bG [(.lit 3 [[.o 1,.o 2,.o 3]]),.i 0]) (kc b (kc d kn))
 .have a:lM (L++[⟨q,v,z⟩])=false:=by simpa using a
  rw[a]at b;simp only[a,a2b,if_false];exact cw _ (ev1 { vars:=Hj,lens:=KgN,bR:=WK } [(L.length:Int),q,v] [.I z] [aO L] .nil) Kcp (.bG [.q 3 0,.i 2]) (kc b kn)
def oZ {a b c:Int} (g:fW a) (f:fW b) (d:fW c):Ck 148 [.i a,.i b,.i c] (.bG [.i (yJ a b c),.i (mdR a b c),.i (Lh a b c)]) :=
 ⟨bN (.c _) (bN (.c _) (bN (.c _) fY)),.bG _ (bN (.c _) (bN (.c _) (bN (.c _) fY))),@amP dK dN _ [.int .i64 a,.int .i64 b,.int .i64 c] [.int .i64 (yJ a b c),.int .i64 (mdR a b c),.int .i64 (Lh a b c)] (fun w=>(xL a b c w g f d).mono fun e w' h=>⟨h.1,h.2▸Below.refl _ _⟩) (by simp)⟩
variable {p0 p1 p2 c:Int}
def ai3 {m:Int} (k:1<=m/\m<=4) (h:LR L) (h1:m=1\/L.length<=1) (l:eW [q,v,z]) (E:0<=c/\c<=1073741824) :
  Ck 196 [.i m,.i c,dI.av ⟨L,p0,p1,p2⟩,bV.av ⟨q,v,z⟩] (.bG [dI.av ⟨(fD m c L ⟨q,v,z⟩).1,p0,p1,p2⟩,.i (fD m c L ⟨q,v,z⟩).2.1,.i (fD m c L ⟨q,v,z⟩).2.2]):=by
 have H:=h.len;have p:=l q (by simp);have B:=l v (by simp);have:=p.lo;have:=p.hi;have:=B.lo;have:=B.hi;have er {x:bV}:=@Xd L x;have no {x:bV}:=@aid L x;have t {x:bV}:=@abS L x;have w {x:bV}:0<=(zJ L x).2/\(zJ L x).2<=20:=by unfold zJ;split;exact⟨by simp,by simp⟩;exact Xd
 have n {x:bV}:=(aie (x:=x) h).len;have u {x:bV}:=(RV (x:=x) h).len;have C:m=1\/m=2\/m=3\/m=4:=by omega
 unfold fD;rcases C with rfl|rfl|rfl|rfl
 .have g:=ai4 h l
  simp only[if_true];have er:=er (x:=⟨q,v,z⟩);have no:=no (x:=⟨q,v,z⟩);have n:=n (x:=⟨q,v,z⟩);generalize Cy L ⟨q,v,z⟩=r at *;obtain⟨d,f⟩:=r;simp only at *;by_cases j:f=0
  .subst j;exact cw _ (ev1 { vars:=[(0,30),(0,30)],lens:=Kc8,bR:=[(225,Kcq,KfV)] } [(L.length:Int),(d.length:Int)] [.I p0,.I p1,.I p2,.I q,.I v,.I c,.I z] [aO L,aO d] .nil) Wa G1 (kc g kn)
  .rw[no j];exact cw _ (ev1 { vars:=Kfu,lens:=Kc8,bR:=[(225,Kcq,(.bG [.q 3 1,.v 2]))] } [(L.length:Int),(d.length:Int),f] [.I p0,.I p1,.I p2,.I q,.I v,.I c,.I z] [aO L,aO d] .nil) Wa G4 (kc g kn)
 all_goals (have h1:L.length<=1:=by omega)
 .have g:=Nn h h1 l
  simp only[show ¬((2:Int)=1)by decide,if_false,if_true];have er:=w (x:=⟨q,v,z⟩);have no:=t (x:=⟨q,v,z⟩);have n:=u (x:=⟨q,v,z⟩);generalize zJ L ⟨q,v,z⟩=r at *;obtain⟨d,f⟩:=r;simp only at *;by_cases j:f=0
  .subst j;exact cw _ (ev1 { vars:=[(0,30),(0,30)],lens:=Kc8,bR:=WL } [(L.length:Int),(d.length:Int)] [.I p0,.I p1,.I p2,.I q,.I v,.I c,.I z] [aO L,aO d] .nil) Wb G1 (kc g kn)
  .rw[no j];exact cw _ (ev1 { vars:=Kfu,lens:=Kc8,bR:=WM } [(L.length:Int),(d.length:Int),f] [.I p0,.I p1,.I p2,.I q,.I v,.I c,.I z] [aO L,aO d] .nil) Wb G4 (kc g kn)
 .have g:=Nn h h1 l
  simp only[show ¬((3:Int)=1)by decide,show ¬((3:Int)=2)by decide,if_false,if_true];have er:=w (x:=⟨q,v,z⟩);have no:=t (x:=⟨q,v,z⟩);have n:=u (x:=⟨q,v,z⟩);generalize zJ L ⟨q,v,z⟩=r at *;obtain⟨d,f⟩:=r;simp only at *;by_cases j:f=0
  .subst j;exact cw _ (ev1 { vars:=[(0,30),(0,30)],lens:=Kc8,bR:=WL } [(L.length:Int),(d.length:Int)] [.I p0,.I p1,.I p2,.I q,.I v,.I c,.I z] [aO L,aO d] .nil) Wc G1 (kc g kn)
  .rw[no j];exact cw _ (ev1 { vars:=Kfu,lens:=Kc8,bR:=WM } [(L.length:Int),(d.length:Int),f] [.I p0,.I p1,.I p2,.I q,.I v,.I c,.I z] [aO L,aO d] .nil) Wc G4 (kc g kn)
 .simp only[show ¬((4:Int)=1)by decide,show ¬((4:Int)=2)by decide,show ¬((4:Int)=3)by decide,if_false,if_true]
  have s:yL c=true:=F8.2 E;unfold inC;rcases(by omega:q<=0\/(1<=q/\v<=-1)\/(1<=q/\0<=v))with g1|g1|g1
  .simp only[if_pos (show yL c=false\/q<1\/v<0 from .inr (.inl (by omega)))];exact cw _ (ev1 { vars:=[(0,30),Kes,nB,Kg3],lens:=KgN } [(L.length:Int),q,v,c] [.I p0,.I p1,.I p2,.I z] [aO L] .nil) Wd G5 kn
  .simp only[if_pos (show yL c=false\/q<1\/v<0 from .inr (.inr (by omega)))];exact cw _ (ev1 { vars:=[(0,30),Ke7,Kd8,Kg3],lens:=KgN } [(L.length:Int),q,v,c] [.I p0,.I p1,.I p2,.I z] [aO L] .nil) Wd G5 kn
  simp only[if_neg (show ¬(yL c=false\/q<1\/v<0)by rw[s];rintro(h|h|h)<;>first|cases h|omega)];have k:=oZ (a:=q) (b:=c) (c:=1) p ⟨by omega,by omega⟩ ⟨by omega,by omega⟩;obtain⟨G,F,D⟩:=ahI (q:=q) s;rw[show yJ q c 1=CJ c q by unfold CJ;rw[show max q 0=q by omega],show Lh q c 1=ofE c q by unfold ofE;rw[show max q 0=q by omega]]at k;generalize mdR q c 1=r at k;generalize CJ c q=o at *;generalize ofE c q=f at *;rcases D with rfl|rfl;rotate_left
  .simp only[if_pos (show(2:Int)≠0\/288230376151711744<v from .inl (by decide))]
   obtain⟨f,s⟩:∃f:Int,f=2:=⟨_,rfl⟩;rw[<-s]at k;exact cw _ (ev1 { vars:=[(0,30),Ke7,Ke8,Kg3,Kfs,(1,20)],lens:=KgN,bR:=[(148,[.v 1,.v 3,.i 1],(.bG [.v 4,.o 4,.v 5]))] } [(L.length:Int),q,v,c,o,f] [.I p0,.I p1,.I p2,.I z,.I r] [aO L] .nil) Wd G6 (kc k kn)
  by_cases g2:288230376151711744<v
  .simp only[if_pos (show(0:Int)≠0\/288230376151711744<v from .inr g2)];exact cw _ (ev1 { vars:=[(0,30),Ke7,Kaa,Kg3,Kfs],lens:=KgN,bR:=[DC] } [(L.length:Int),q,v,c,o] [.I p0,.I p1,.I p2,.I z,.I r] [aO L] .nil) Wd G6 (kc k kn)
  simp only[if_neg (show ¬((0:Int)≠0\/288230376151711744<v)by omega)]
  have g:=Nn (q:=q) (v:=o) (z:=z) h h1 (by
   intro y A;simp only[a0c,a0b,or_false]at A;rcases A with rfl|rfl|rfl
   .exact p
   .exact⟨by omega,by omega⟩
   .exact l y (by simp))
  have er:=w (x:=⟨q,o,z⟩);have no:=t (x:=⟨q,o,z⟩);have n:=u (x:=⟨q,o,z⟩);generalize zJ L ⟨q,o,z⟩=r at *;obtain⟨d,f⟩:=r;simp only at *;by_cases j:f=0
  .subst j;simp only[if_true];exact cw _ (ev1 { vars:=[(0,30),Ke7,Kfs,Kg3,Kfs,(0,30)],lens:=[Kg7,(1,[([5],1)])],bR:=[DC,(226,[.q 3 0,(.agg [.v 1,.v 4,.o 3])],KfV)] } [(L.length:Int),q,v,c,o,(d.length:Int)] [.I p0,.I p1,.I p2,.I z,.I r] [aO L,aO d] .nil) Wd (.bG [KcR,(.e [([2],1),([4],(-1))]),.i 0]) (kc k (kc g kn))
  .simp only[if_neg j];exact cw _ (ev1 { vars:=[(0,30),Ke7,Kfs,Kg3,Kfs,(0,30),(1,20)],lens:=[Kg7,(1,[([5],1)])],bR:=[DC,(226,[.q 3 0,(.agg [.v 1,.v 4,.o 3])],(.bG [.q 3 1,.v 6]))] } [(L.length:Int),q,v,c,o,(d.length:Int),f] [.I p0,.I p1,.I p2,.I z,.I r] [aO L,aO d] .nil) Wd (.bG [KcQ,.i 0,.v 6]) (kc k (kc g kn))
def aff {m kind:Int} (A:1<=m/\m<=4) (h:LR L) (h1:m=1\/L.length<=1) (hd:aei ⟨p0,p1,p2⟩) (Q:fW q) (hk:0<=kind/\kind<=3) (hc:0<=c/\c<=1073741824) :
  Ck 238 [.i m,.i c,dI.av ⟨L,p0,p1,p2⟩,.i kind,.i q] (.bG [dI.av ⟨(dG m c L ⟨p0,p1,p2⟩ kind q).1,(dG m c L ⟨p0,p1,p2⟩ kind q).2.1.a,(dG m c L ⟨p0,p1,p2⟩ kind q).2.1.b,(dG m c L ⟨p0,p1,p2⟩ kind q).2.1.c⟩,(dG m c L ⟨p0,p1,p2⟩ kind q).2.2.1.av,.c (.bool (dG m c L ⟨p0,p1,p2⟩ kind q).2.2.2.1),.i (dG m c L ⟨p0,p1,p2⟩ kind q).2.2.2.2]):=by
 have hl:=h.len;have:=Q.lo;have:=Q.hi;obtain⟨a0,b0,c0,a1,b1,c1⟩:=hd;simp only at a0 b0 c0 a1 b1 c1;have u:=Px h Q;have F:=abr h (q:=q);have Fv:=TE h (q:=q);have Fi:=ahs h (q:=q);have Fl:=(nL (q:=q) h).len;have Fn:=En (l:=L) (q:=q)
 have Fp:(-288230376151711744<=ps (fU L q).1/\ps (fU L q).1<=288230376151711744)/\0<=vs (fU L q).1:=by
  have k:=nL (q:=q) h;have:=Ej (fU L q).1;have:=k.p;have:=(gG k.ok).2;omega
 have R:=mM (CB fun x Y=>Pa (h.ok x Y));rw[h.uF.1,h.uF.2]at R;obtain⟨ac,ab,aa⟩:=h.bds;have:=gG h.ok;have:=h.q;have:=h.v;have:=h.p;have:=Ej L;have j:wN L ⟨p0,p1,p2⟩=qs L-p0-p1-p2:=rfl;have S:m=1\/m=2\/m=3\/m=4:=by omega
 unfold dG;rw[if_neg (by omega),if_neg (by omega)];rcases S with rfl|rfl|rfl|rfl
 .rw[if_neg (by omega)]
  simp only[fV,show ¬((1:Int)=3)by decide,show ¬((1:Int)=4)by decide,if_false];generalize fU L q=r at *;obtain⟨d,⟨xq,xv,xp⟩,f⟩:=r;simp only at *;rcases F with⟨rfl,-⟩|⟨j,E,y⟩
  .exact cw _ (ev1 { vars:=QR,lens:=Kc6,bR:=We } [(L.length:Int),q,kind,(d.length:Int),xq,xv,xp] [.I p0,.I p1,.I p2,.I c] [aO L,aO d] .nil) Ga Yf (kc u kn)
  .simp only[bV.zero,bV.mk.injEq]at y;obtain⟨J,H,G⟩:=y;rw[E,J,H,G];exact cw _ (ev1 { vars:=Qq,lens:=Kc6,bR:=Wf } [(L.length:Int),q,kind,(d.length:Int),xq,xv,xp,f] [.I p0,.I p1,.I p2,.I c] [aO L,aO d] .nil) Ga Yg (kc u kn)
 .rw[if_neg (by omega)]
  simp only[fV,show ¬((2:Int)=3)by decide,show ¬((2:Int)=4)by decide,if_false];generalize fU L q=r at *;obtain⟨d,⟨xq,xv,xp⟩,f⟩:=r;simp only at *;rcases F with⟨rfl,-⟩|⟨j,E,y⟩
  .exact cw _ (ev1 { vars:=QR,lens:=Kc6,bR:=We } [(L.length:Int),q,kind,(d.length:Int),xq,xv,xp] [.I p0,.I p1,.I p2,.I c] [aO L,aO d] .nil) Gb Yf (kc u kn)
  .simp only[bV.zero,bV.mk.injEq]at y;obtain⟨J,H,G⟩:=y;rw[E,J,H,G];exact cw _ (ev1 { vars:=Qq,lens:=Kc6,bR:=Wf } [(L.length:Int),q,kind,(d.length:Int),xq,xv,xp,f] [.I p0,.I p1,.I p2,.I c] [aO L,aO d] .nil) Gb Yg (kc u kn)
 .have h3:L.length<=1:=by omega
  obtain⟨tq,C⟩:∃t,t=qs L:=⟨_,rfl⟩;obtain⟨tv,B⟩:∃t,t=vs L:=⟨_,rfl⟩;obtain⟨tp,D⟩:∃t,t=ps L:=⟨_,rfl⟩;have g:=R;rw[<-C,<-B,<-D]at g;have M:kind=0\/kind=1\/kind=2\/kind=3:=by omega
  by_cases K:q<1
  .rcases M with rfl|rfl|rfl|rfl
   .simp only[qD,if_pos (show(3:Int)=3/\(0:Int)≠3 by decide),if_pos (show(0:Int)<0\/3<=(0:Int)\/q<1 by omega)];exact cw _ (ev1 { vars:=Kb5,lens:=KgN } [(L.length:Int),q] [.I p0,.I p1,.I p2,.I c] [aO L] .nil) [.i 3,.o 3,KcQ,.i 0,.v 1] Yh kn
   .simp only[qD,if_pos (show(3:Int)=3/\(1:Int)≠3 by decide),if_pos (show(1:Int)<0\/3<=(1:Int)\/q<1 by omega)];exact cw _ (ev1 { vars:=Kb5,lens:=KgN } [(L.length:Int),q] [.I p0,.I p1,.I p2,.I c] [aO L] .nil) [.i 3,.o 3,KcQ,.i 1,.v 1] Yh kn
   .simp only[qD,if_pos (show(3:Int)=3/\(2:Int)≠3 by decide),if_pos (show(2:Int)<0\/3<=(2:Int)\/q<1 by omega)];exact cw _ (ev1 { vars:=Kb5,lens:=KgN } [(L.length:Int),q] [.I p0,.I p1,.I p2,.I c] [aO L] .nil) [.i 3,.o 3,KcQ,.i 2,.v 1] Yh kn
   .simp only[fV,AK,if_neg (show ¬((3:Int)=3/\(3:Int)≠3)by decide),if_true,if_pos K];exact cw _ (ev1 { vars:=Kb5,lens:=KgN } [(L.length:Int),q] [.I p0,.I p1,.I p2,.I c] [aO L] .nil) [.i 3,.o 3,KcQ,.i 3,.v 1] Yh kn
  by_cases n:qs L-p0-p1-p2<q
  .rcases M with rfl|rfl|rfl|rfl
   .simp only[qD,j,if_pos (show(3:Int)=3/\(0:Int)≠3 by decide),if_neg (show ¬((0:Int)<0\/3<=(0:Int)\/q<1)by omega),if_pos n];exact cw _ (ev1 { vars:=JC,facts:=Vc,lens:=KgN,bR:=Hy } [(L.length:Int),p0,p1,p2,tq,tv,tp,q] [.I c] [aO L] .nil) Gd Yi (kc g kn)
   .simp only[qD,j,if_pos (show(3:Int)=3/\(1:Int)≠3 by decide),if_neg (show ¬((1:Int)<0\/3<=(1:Int)\/q<1)by omega),if_pos n];exact cw _ (ev1 { vars:=JC,facts:=Vc,lens:=KgN,bR:=Hy } [(L.length:Int),p0,p1,p2,tq,tv,tp,q] [.I c] [aO L] .nil) Ge Yi (kc g kn)
   .simp only[qD,j,if_pos (show(3:Int)=3/\(2:Int)≠3 by decide),if_neg (show ¬((2:Int)<0\/3<=(2:Int)\/q<1)by omega),if_pos n];exact cw _ (ev1 { vars:=JC,facts:=Vc,lens:=KgN,bR:=Hy } [(L.length:Int),p0,p1,p2,tq,tv,tp,q] [.I c] [aO L] .nil) Gf Yi (kc g kn)
   .simp only[fV,AK,j,if_neg (show ¬((3:Int)=3/\(3:Int)≠3)by decide),if_true,if_neg K,if_pos n];exact cw _ (ev1 { vars:=JC,facts:=Vc,lens:=KgN,bR:=Hy } [(L.length:Int),p0,p1,p2,tq,tv,tp,q] [.I c] [aO L] .nil) Gg Yi (kc g kn)
  .rcases M with rfl|rfl|rfl|rfl
   .simp only[qD,tY.add,j,if_pos (show(3:Int)=3/\(0:Int)≠3 by decide),if_neg (show ¬((0:Int)<0\/3<=(0:Int)\/q<1)by omega),if_neg n,if_true];exact cw _ (ev1 { vars:=JE,facts:=VI,lens:=KgN,bR:=Hy } [(L.length:Int),p0,p1,p2,tq,tv,tp,q] [.I c] [aO L] .nil) Gd (.bG [(.agg [.q 3 0,(.e [([1],1),([7],1)]),.v 2,.v 3]),Ke6,Kgm,.i 0]) (kc g kn)
   .simp only[qD,tY.add,j,if_pos (show(3:Int)=3/\(1:Int)≠3 by decide),if_neg (show ¬((1:Int)<0\/3<=(1:Int)\/q<1)by omega),if_neg n,if_neg (show ¬((1:Int)=0)by decide),if_true];exact cw _ (ev1 { vars:=JE,facts:=VI,lens:=KgN,bR:=Hy } [(L.length:Int),p0,p1,p2,tq,tv,tp,q] [.I c] [aO L] .nil) Ge (.bG [(.agg [.q 3 0,.v 1,(.e [([2],1),([7],1)]),.v 3]),Ke6,Kgm,.i 0]) (kc g kn)
   .simp only[qD,tY.add,j,if_pos (show(3:Int)=3/\(2:Int)≠3 by decide),if_neg (show ¬((2:Int)<0\/3<=(2:Int)\/q<1)by omega),if_neg n,if_neg (show ¬((2:Int)=0)by decide),if_neg (show ¬((2:Int)=1)by decide),if_true];exact cw _ (ev1 { vars:=JE,facts:=VI,lens:=KgN,bR:=Hy } [(L.length:Int),p0,p1,p2,tq,tv,tp,q] [.I c] [aO L] .nil) Gf (.bG [(.agg [.q 3 0,.v 1,.v 2,(.e [([3],1),([7],1)])]),Ke6,Kgm,.i 0]) (kc g kn)
   .simp only[fV,AK,j,if_neg (show ¬((3:Int)=3/\(3:Int)≠3)by decide),if_true,if_neg K,if_neg n]
    generalize fU L q=r at *;obtain⟨d,⟨xq,xv,xp⟩,f⟩:=r;simp only at *;rcases F with⟨rfl,-⟩|⟨j,-⟩
    .exact cw _ (ev1 { vars:=[(0,30),Kfs,Kfs,Kfs,Kfs,Kfs,iK,Kfr,(0,30),Kfs,Kfs,Kab],facts:=VI,lens:=[Kg7,(1,[([8],1)])],bR:=[Gc,(215,[.q 3 0,.v 7],(.bG [.q 3 1,(.agg [.v 9,.v 10,.v 11]),.i 0]))] } [(L.length:Int),p0,p1,p2,tq,tv,tp,q,(d.length:Int),xq,xv,xp] [.I c] [aO L,aO d] .nil) Gg (.bG [(.agg [.q 3 1,.v 1,.v 2,.v 3]),(.agg [.v 9,.v 10,.v 11]),Kgb,.i 0]) (kc g (kc u kn))
    .omega
 .have h3:L.length<=1:=by omega
  have N:yL c=true:=F8.2 hc;rw[if_neg (by omega)];simp only[fV,show ¬((4:Int)=3)by decide,if_false,if_true];unfold Cw;rw[if_neg (by rw[N];simp)];have A:=oZ (a:=q) (b:=c) (c:=1) Q ⟨by omega,by omega⟩ ⟨by omega,by omega⟩;obtain⟨o0,o1,X⟩:=ahI (q:=q) N;obtain⟨tq,C⟩:∃t,t=qs L:=⟨_,rfl⟩;obtain⟨tv,B⟩:∃t,t=vs L:=⟨_,rfl⟩;obtain⟨tp,D⟩:∃t,t=ps L:=⟨_,rfl⟩;have g:=R;rw[<-C,<-B,<-D]at g;generalize fU L q=r at *;obtain⟨d,⟨xq,xv,xp⟩,f⟩:=r;simp only at *;rcases F with⟨rfl,g1,g2,g3,V,U,T⟩|⟨j,E,y⟩;rotate_left
  .simp only[bV.zero,bV.mk.injEq]at y
   obtain⟨J,H,G⟩:=y;have W:Ck 238 [.i 4,.i c,dI.av ⟨L,p0,p1,p2⟩,.i kind,.i q] (.bG [dI.av ⟨L,p0,p1,p2⟩,bV.av ⟨0,0,0⟩,.c (.bool false),.i f]):=cw _ (ev1 { vars:=[(0,30),Kg3,nB,(0,3),(0,30),Kfs,Kfs,Kab,(1,20)],lens:=Kc9,bR:=[(215,[.q 3 0,.v 2],(.bG [.q 3 1,Kfb,.v 8]))] } [(L.length:Int),c,q,kind,(d.length:Int),xq,xv,xp,f] [.I p0,.I p1,.I p2] [aO L,aO d] .nil) Gh (.bG [KcQ,Ke6,Kgb,.v 8]) (kc u kn);rw[J,H,G];cases d with
   |nil=>subst E;exact W
   |cons z t=>simp only[if_pos (show f≠0 by omega)];subst E;exact W
  rw[show yJ q c 1=CJ c q by unfold CJ;rw[show max q 0=q by omega],show Lh q c 1=ofE c q by unfold ofE;rw[show max q 0=q by omega]]at A;generalize mdR q c 1=r at A;generalize CJ c q=o at *;generalize ofE c q=f at *;match d,Fn with
  |[],Fn =>
   show Ck 238 [.i 4,.i c,dI.av ⟨L,p0,p1,p2⟩,.i kind,.i q] (.bG [dI.av ⟨[],p0,p1,p2⟩,bV.av ⟨xq,xv,xp⟩,.c (.bool false),.i 0]);obtain⟨d,w⟩:∃d:List bV,d=[]:=⟨_,rfl⟩;rw[<-w]at u |-;have w:d.length=0:=by rw[w];rfl
   exact cw _ (ev1 { vars:=[(0,30),Kg3,Kfr,(0,3),(0,0),Kfs,Kfs,Kab],lens:=Kc9,bR:=[Wp] } [(L.length:Int),c,q,kind,(d.length:Int),xq,xv,xp] [.I p0,.I p1,.I p2] [aO L,aO d] .nil) Gh (.bG [KcR,Kfb,Kgb,.i 0]) (kc u kn)
  |[⟨O,s,P⟩],Fn =>
   obtain⟨d,w⟩:∃d:List bV,d=[⟨O,s,P⟩]:=⟨_,rfl⟩;rw[<-w]at u;have w:d.length=1:=by rw[w];rfl
   rw[<-C]at g2 V;rw[<-B]at U;rw[<-D]at T;simp only[qs,vs,ps,a01,a1x,a0x,a1y,a1g]at V U T Fp;simp only[show ¬((0:Int)≠0)by simp,if_false];rcases X with rfl|rfl
   .by_cases Z:s+xv<o
    .simp only[if_pos (show(0:Int)≠0\/s+xv<o from .inr Z)]
     rw[show O=-q+tq by omega,show s+(xv-(s+xv))=0 by omega,show s+xv=tv by omega,show P=-xp+tp by omega];exact cw _ (ev1 { vars:=KY,facts:=[([([9],-1),([11],1)],1,288230376151711744),WU,BI],lens:=Kc9,bR:=Jo } [(L.length:Int),c,q,kind,(d.length:Int),xq,xv,xp,tq,tv,tp,o] [.I p0,.I p1,.I p2,.I r] [aO L,aO d] .nil) Gh JD (kc u (kc g (kc A kn)))
    .simp only[if_neg (show ¬((0:Int)≠0\/s+xv<o)by omega)]
     rw[show O=-q+tq by omega,show s+(xv-o)=tv-o by omega,show P=-xp+tp by omega];exact cw _ (ev1 { vars:=KY,facts:=[([([9],-1),([11],1)],-288230376151711744,0),WU,BI],lens:=Kc9,bR:=Jo } [(L.length:Int),c,q,kind,(d.length:Int),xq,xv,xp,tq,tv,tp,o] [.I p0,.I p1,.I p2,.I r] [aO L,aO d] .nil) Gh (.bG [(.agg [(.lit 3 [[(.e [([2],(-1)),([8],1)]),(.e [([9],1),([11],(-1))]),(.e [([7],(-1)),([10],1)])]]),.o 0,.o 1,.o 2]),(.agg [.v 5,.v 11,.v 7]),Kgb,.i 0]) (kc u (kc g (kc A kn)))
   .simp only[if_pos (show(2:Int)≠0\/s+xv<o from .inl (by decide))]
    obtain⟨f,j⟩:∃f:Int,f=2:=⟨_,rfl⟩;rw[<-j]at A;rw[show O=-q+tq by omega,show s+(xv-(s+xv))=0 by omega,show s+xv=tv by omega,show P=-xp+tp by omega];exact cw _ (ev1 { vars:=[(0,30),Kg3,Kfr,(0,3),(1,1),Kfs,Kfs,Kab,Kfs,Kfs,iK,Kfs,(1,20)],facts:=[WU,BI],lens:=Kc9,bR:=[Wp,HI,(148,[.v 2,.v 1,.i 1],(.bG [.v 11,.o 3,.v 12]))] } [(L.length:Int),c,q,kind,(d.length:Int),xq,xv,xp,tq,tv,tp,o,f] [.I p0,.I p1,.I p2,.I r] [aO L,aO d] .nil) Gh JD (kc u (kc g (kc A kn)))
  |z::z'::t,Fn=>simp at Fn;omega
def qN (h:LR L):Ck 146 [dI.av ⟨L,p0,p1,p2⟩] (bV.av ⟨qs L,vs L,ps L⟩):=by
 have f:=h.len;have a:=mM (CB fun x e=>Pa (h.ok x e));rw[h.uF.1,h.uF.2]at a;generalize qs L=d at *;generalize vs L=c at *;generalize ps L=b at *;exact cw _ (ev1 { vars:=[(0,30)],lens:=KgN,bR:=Hz } [(L.length:Int)] [.I p0,.I p1,.I p2,.I d,.I c,.I b] [aO L] .nil) [KcQ] KeR (kc a kn)
def acb {m:Int} (r:1<=m/\m<=4) (h:LR L) (j:aei ⟨p0,p1,p2⟩):Ck 221 [.i m,dI.av ⟨L,p0,p1,p2⟩] (.i (if m=3 then wN L ⟨p0,p1,p2⟩else qs L)):=by
 have s:=h.len;have d:=mM (CB fun x g=>Pa (h.ok x g));rw[h.uF.1,h.uF.2]at d;have:=gG h.ok;have:=h.q;have:=h.v;have:=h.p;have:=Ej L;have f:m=1\/m=2\/m=3\/m=4:=by omega
 rcases f with rfl|rfl|rfl|rfl
 .rw[if_neg (by decide)];generalize qs L=c at *;generalize vs L=b at *;generalize ps L=a at *;exact cw _ (ev1 { vars:=[(0,30)],lens:=KgN,bR:=Hz } [(L.length:Int)] [.I p0,.I p1,.I p2,.I c,.I b,.I a] [aO L] .nil) [.i 1,KcQ] (.o 3) (kc d kn)
 .rw[if_neg (by decide)];generalize qs L=c at *;generalize vs L=b at *;generalize ps L=a at *;exact cw _ (ev1 { vars:=[(0,30)],lens:=KgN,bR:=Hz } [(L.length:Int)] [.I p0,.I p1,.I p2,.I c,.I b,.I a] [aO L] .nil) [.i 2,KcQ] (.o 3) (kc d kn)
 .rw[if_pos rfl,show wN L ⟨p0,p1,p2⟩=qs L-p0-p1-p2 from rfl]
  obtain⟨a0,b0,l,n,b1,k⟩:=j;simp only at a0 b0 l n b1 k;generalize qs L=tq at *;generalize vs L=tv at *;generalize ps L=tp at *;rw[show tq-p0-p1-p2=-p0-p1-p2+tq by omega];exact cw _ (ev1 { vars:=[(0,30),Kfs,Kfs,Kfs,Kfs,Kfs,iK],lens:=KgN,bR:=Hy } [(L.length:Int),p0,p1,p2,tq,tv,tp] [] [aO L] .nil) [.i 3,KcS] (.e [([1],(-1)),([2],(-1)),([3],(-1)),([4],1)]) (kc d kn)
 .rw[if_neg (by decide)];generalize qs L=c at *;generalize vs L=b at *;generalize ps L=a at *;exact cw _ (ev1 { vars:=[(0,30)],lens:=KgN,bR:=Hz } [(L.length:Int)] [.I p0,.I p1,.I p2,.I c,.I b,.I a] [aO L] .nil) [.i 4,KcQ] (.o 3) (kc d kn)
def acd (c:L.length<=30) (b:0<=p0/\p0<=288230376151711744) (a:1<=q/\q<=1073741824):Ck 218 [dI.av ⟨L,p0,p1,p2⟩,.i 0,.i q] (.bG [dI.av ⟨L,if p0<q then p0 else p0-q,p1,p2⟩,.i (if p0<q then 5 else 0)]):=by
 by_cases h:p0<q
 .rw[if_pos h,if_pos h];exact cw _ (ev1 { vars:=DD,facts:=[(Kgf,-1073741824,-1)],lens:=KgN } [(L.length:Int),p0,q] [.I p0,.I p1,.I p2] [aO L] .nil) Bw (.bG [(.agg [.q 3 0,.v 1,.o 1,.o 2]),.i 5]) kn
 .rw[if_neg h,if_neg h];exact cw _ (ev1 { vars:=DD,facts:=[(Kgf,0,288230376151711744)],lens:=KgN } [(L.length:Int),p0,q] [.I p0,.I p1,.I p2] [aO L] .nil) Bw (.bG [(.agg [.q 3 0,(.e [([1],1),([2],(-1))]),.o 1,.o 2]),.i 0]) kn
end
end
section
variable {x:dE} {j:Nat}
def akr {y:dE} (h1:x.a=y.a) (b:x.n=y.n):x=y:=by cases x;cases y;simp only at h1 b;rw[h1,b]
def Eh (x:dE) (w:World):Calls Tryz.prog 82 #[x.val] w fun e w'=>e=.returned (.bool (!pC x))/\Below w.heap.size w w':=by
 obtain⟨a,n⟩:=x;unfold dE.val;generalize c:(!pC ⟨a,n⟩)=r;have b:=Lib.hid c;clear c;go_enter Tryz.func82,Tryz.ntmps82;by_cases f:0<=a
 .by_cases d:a<17
  .have e:r=mD n:=by rw[<-b.out];simp[pC,zH,f,d]
   clear b;subst e;go_wp2_with (go_at_call 144;refine(sU _ _).mono ?_;rintro e w' ⟨rfl,rfl⟩);go_ret;exact⟨rfl,blw⟩
  .have e:r=false:=by rw[<-b.out];simp[pC,zH,d]
   clear b;subst e;go_wp2_with (go_at_call 144;refine(sU _ _).mono ?_;rintro e w' ⟨rfl,rfl⟩);go_ret;exact⟨rfl,blw⟩
 .have e:r=false:=by rw[<-b.out];simp[pC,zH,f]
  clear b;subst e;go_wp2_with (go_at_call 144;refine(sU _ _).mono ?_;rintro e w' ⟨rfl,rfl⟩);go_ret;exact⟨rfl,blw⟩
def Pb {l:List dE} (p:dE->Bool) (a:l[j]?=some x):(l.take (j+1)).any p=((l.take j).any p||p x):=by
 rw[a0n,a];simp
def adz {l:List dE} {p:dE->Bool} (a:l[j]?=some x) (h:p x=true):l.any p=true:=a1n.2 ⟨x,a0a a,h⟩
def afA {l:List dE} (a:l[j]?=some x):iG (l.take (j+1))=iG (l.take j)++[x.n]:=by
 rw[a0n,a];simp[iG]
def aoj {l:List dE} (h:eW (dY l)):eW (iG l):=fun z a=>by
 obtain⟨x,b,rfl⟩:=a0l.1 a;exact(ae4 h b).2
def aoc (x:dE):Oq x=(pC x||decide (x.n=0)):=by
 unfold Oq pC;cases zH x.a<;>cases mD x.n<;>cases decide (x.n=0)<;>rfl
def aaZ (a:Option Addr) (cap:Nat) (l:List dE) (w:World) (h:Row w 2 a l.length cap (dY l)) (hn:l.length<=1000000) :
  Calls Tryz.prog 200 #[.slice a l.length cap] w fun e w'=>e=.returned (.bool (pA l))/\Below w.heap.size w w':=by
 obtain⟨n,K⟩:∃n,l.length=n:=⟨_,rfl⟩;have W:=h.all;have F:=h.at_;have R:=h.max;have ab:=h.le;unfold maxLen at R;clear h;rw[K]at hn F ab |-;have H:pA l=(decide (1<=n)&&decide (n<=12)&&!(l.any Oq)&&decide (dJ (iG l)=0)&&decide (dW (iG l)=0)):=by unfold pA;rw[K]
 have S:l.any Oq=true->pA l=false:=fun h=>by rw[H,h];simp
 obtain⟨r,D⟩:∃r,pA l=r:=⟨_,rfl⟩;rw[D]at H S |-;have U:=Lib.hid H;have ac:=Lib.hid S;have P:=Lib.hid K;clear H S K D;go_enter Tryz.func200,Tryz.ntmps200;go_wp2_with fail;go_loopw [3,4] (fun v i wr=>∃j:Nat,j<=n/\i=.int .i64 j/\Hid ((l.take j).any Oq=false)/\hY wr w.heap.size 3 1 v j (iG (l.take j))/\Below w.heap.size w wr) (fun _ i _=>n-(intOf i).toNat)
 case atStart=>exact⟨0,by omega,rfl,rfl,hY.nil _ _ _ _,Below.refl _ _⟩
 case round =>
  obtain⟨j,hj,rfl,z,T,c⟩:=hrel;have Z:=c.size;by_cases aa:j<n
  .obtain⟨b,off,rfl,hb,f⟩:∃b off,a=some ⟨b,off,none⟩/\b<w.heap.size/\cK w b off (dY l):=by
    rcases F with h0|h0
    .omega
    .exact h0
   obtain⟨x,C⟩:∃x,l[j]?=some x:=⟨l[j]'(by rw[P.out];exact aa),a0d _⟩;have M:=f.below hb c;have ag:(j:Int)<(n:Int):=(by omega);have ak:(0:Int)<=(j:Int):=(by omega);have B:=Pb Oq C;rw[z.out,Bool.false_or]at B;have m:Oq x=true->r=false:=fun h=>ac.out (adz C h);have eh:=Lib.hid (afA C);obtain⟨c0,c1⟩:=M.line C;have ai:=Lib.hid C;have N:b<wr.heap.size:=a0s hb Z;have q:=aoc x;clear f C F M;obtain⟨G,t⟩:=x;simp only at c0 c1 eh;cases d:pC ⟨G,t⟩with
   |true =>
    have D:=m (by rw[q,d];rfl);subst D;clear m B q;go_wp2_with fail;refine(Eh ⟨G,t⟩ _).mono ?_;rw[d];rintro e s ⟨rfl,o⟩;clear d;go_wp2_with fail;go_ret;exact⟨rfl,blw⟩
   |false =>
    by_cases I:t=0
    .have D:=m (by rw[q,d];simp[I])
     subst D;subst I;clear m B q;go_wp2_with fail;refine(Eh ⟨G,0⟩ _).mono ?_;rw[d];rintro e s ⟨rfl,o⟩;have af:=(o.cell (p:=⟨b,off+j*2+1,none⟩) N).trans c1;clear d;go_wp2_with fail;go_ret;exact⟨rfl,blw⟩
    .rw[q,d,show(decide (t=0))=false from decide_eq_false I]at B
     have Y:=Lib.hid B;have ah:(t==0)=false:=by rw[beq_eq_false_iff_ne];exact I
     clear m B q;go_wp2_with fail;refine(Eh ⟨G,t⟩ _).mono ?_;rw[d];rintro e s ⟨rfl,o⟩;have af:=(o.cell (p:=⟨b,off+j*2+1,none⟩) N).trans c1;have T1:=T.below o;have ad:Below w.heap.size w s:=blw;have aj:=ad.size;clear d o T c;go_wp2_with (at_builtin;refine uE _ rfl _ _ 22 rfl w.heap.size 3 1 Ni _ j (iG (l.take j)) rfl (T1.alloc _) s.heap.size 0 1 [t] rfl rfl (apM rfl) ?c1 ?c2 ?_)
     case c1=>omega
     case c2=>simp;omega
     intro l' w2 y O;rw[<-eh.out]at y;have J:Below w.heap.size w w2:=Below.trans blw O;clear T1 O;go_wp2_with fail;go_roundw
     case rel=>exact⟨j+1,by omega,by go_num,Y,y,J⟩
     case measure=>simp[intOf];omega
  .have ej:j=n:=by omega
   subst ej;have al:¬ (j:Int)<(j:Int):=by omega
   have L:l.take j=l:=a1l (by rw[P.out];omega);rw[L]at z T;obtain⟨a1,c1,rfl,R1⟩:=T.row (aoj W);have f:=U.out;rw[z.out]at f;obtain⟨V,hV⟩:∃V,dJ (iG l)=V:=⟨_,rfl⟩;obtain⟨E,hE⟩:∃E,dW (iG l)=E:=⟨_,rfl⟩;have u:=Rc a1 j c1 (iG l) wr R1;rw[hV,hE]at f u;have g:=Lib.hid u;clear L z T hV hE u R1;by_cases h1:1<=j
   .by_cases h2:j<=12
    .have Q:(1:Int)<=(j:Int):=by omega
     have ae:(j:Int)<=12:=(by omega);have A:r=(decide (E=0)&&decide (V=0)):=by rw[f];simp[h1,h2,Bool.and_comm]
     by_cases X:E=0
     .subst X
      have k:r=decide (V=0):=by rw[A];simp
      subst k;clear f A;go_wp2_with fail;refine g.out.mono ?_;rintro e s ⟨rfl,rfl⟩;go_wp2_with fail;go_ret;exact⟨lR (by rw[a3z];simp),c⟩
     .have k:r=false:=by rw[A];simp[X]
      subst k;have am:(E==0)=false:=by rw[beq_eq_false_iff_ne];exact X
      clear f A;go_wp2_with fail;refine g.out.mono ?_;rintro e s ⟨rfl,rfl⟩;go_wp2_with fail;go_ret;exact⟨rfl,c⟩
    .have Q:(1:Int)<=(j:Int):=by omega
     have ae:¬ (j:Int)<=12:=(by omega);have k:r=false:=by rw[f];simp[h2]
     subst k;clear f;go_wp2_with fail;refine g.out.mono ?_;rintro e s ⟨rfl,rfl⟩;go_wp2_with fail;go_ret;exact⟨by first|rfl|exact lR (by simp;omega),c⟩
   .have Q:¬ (1:Int)<=(j:Int):=by omega
    have k:r=false:=by rw[f];simp[h1]
    subst k;clear f;go_wp2_with fail;refine g.out.mono ?_;rintro e s ⟨rfl,rfl⟩;go_wp2_with fail;go_ret;exact⟨by first|rfl|exact lR (by simp;omega),c⟩
def val (l:List dE) (a:Int):Int:=(gY l a).sum
def FG (f:Int->Int):List dE:=((List.range 17).map fun(a:Nat)=>(⟨(a:Int),f (a:Int)⟩:dE)).filter (fun x=>!jU x)
def MH {f:Int->Int}:x∈FG f↔0<=x.a/\x.a<17/\x.n=f x.a/\x.n≠0:=by
 unfold FG;simp only[List.mem_filter,a0l,a0v];constructor
 .rintro⟨⟨a,g,rfl⟩,b⟩
  simp[jU]at b;exact⟨by simp only;omega,by simp only;omega,rfl,b⟩
 .rintro⟨e,h,d,c⟩
  refine⟨⟨x.a.toNat,by omega,?_⟩,by simp[jU,c]⟩;rw[a1h e];exact akr rfl d.symm
def N7 (f:Int->Int):NN (FG f):=by
 unfold FG;refine List.Pairwise.filter _ ?_;rw[List.pairwise_map];refine(a2z (n:=17)).imp fun{a b} c=>?_
 simp only;omega
def LW (x:dE) (m:List dE) (a:Int):val (x::m) a=(if x.a=a then x.n else 0)+val m a:=by
 unfold val gY iG;by_cases h:x.a=a
 .simp[h]
 .simp[h]
def acF (a:Int):val [] a=0:=rfl
def LV:∀(l:List dE),NN l->∀a,(∀x,x∈l->x.a=a->val l a=x.n)/\((∀x,x∈l->x.a≠a)->val l a=0)
 |[],_,a=>⟨fun x b=>by simp at b,fun _=>rfl⟩
 |y::l,h,a=>by
  have f:=a12.1 h;have c:=LV l f.2 a;rw[LW];constructor
  .intro x b e
   rcases a0c.1 b with rfl|b
   .rw[if_pos e,c.2 fun z d g=>by have:=f.1 z d;omega]
    omega
   .have:=f.1 x b
    rw[if_neg (by omega),c.1 x b e];omega
  .intro b
   rw[if_neg (b y (by simp)),c.2 fun z d=>b z (by simp[d])];rfl
def aa9 {f:Int->Int} {a:Int} (d:0<=a) (h1:a<17):val (FG f) a=f a:=by
 have h:=LV (FG f) (N7 f) a;by_cases b:f a=0
 .rw[b]
  refine h.2 fun x c e=>?_;have:=MH.1 c;rw[e]at this;omega
 .exact h.1 ⟨a,f a⟩ (MH.2 ⟨d,h1,rfl,b⟩) rfl
def ac1 {a b:Int} (h:gH a b=true) (w:World):Calls Tryz.prog 83 #[.int .i64 a,.int .i64 b] w fun e w'=>e=.returned (.tuple #[.int .i64 (a+b),.int .i64 0])/\w=w':=by
 have:=Ah a b w;unfold nT nI at this;rw[h]at this;exact this
def ac2 {a b:Int} (h:gH a b=false) (w:World):Calls Tryz.prog 83 #[.int .i64 a,.int .i64 b] w fun e w'=>e=.returned (.tuple #[.int .i64 0,.int .i64 2])/\w=w':=by
 have:=Ah a b w;unfold nT nI at this;rw[h]at this;exact this
def Oi {l:List Int} {i:Nat} {v:Int} (h:i<l.length):(l.set i v).getD i 0=v:=by
 rw[a0k,a3c h];rfl
def M8 {l:List Int} {i:Nat} {v:Int} (h:i≠j):(l.set i v).getD j 0=l.getD j 0:=by
 rw[a0k,a3l h,<-a0k]
def mA (P:List dE):List Int:=(List.range 17).map fun(a:Nat)=>dJ (gY P (a:Int))
def pU (P:List dE):(mA P).length=17:=by simp[mA]
def F5 (P:List dE) {a:Nat} (h:a<17):(mA P).getD a 0=dJ (gY P (a:Int)):=by simp[mA,a0k,h]
def Sound (P:List dE):Prop:=∀a:Nat,a<17->dO 0 (gY P (a:Int))=some ((mA P).getD a 0)
def Sound.nil:Sound []:=fun a h=>by rw[F5 _ h];rfl
def Sound.more {P:List dE} (h:Sound P) (o:0<=x.a) (h1:x.a<17) (j:gH ((mA P).getD x.a.toNat 0) x.n=true) :
  Sound (P++[x])/\mA (P++[x])=(mA P).set x.a.toNat ((mA P).getD x.a.toNat 0+x.n):=by
 have f:(x.a.toNat:Int)=x.a:=a1h o
 have l:dO 0 (gY (P++[x]) x.a)=some ((mA P).getD x.a.toNat 0+x.n):=by
  have:=h x.a.toNat (by omega);rw[f]at this;rw[sL,if_pos rfl,uG _ _ _ this,j];rfl
 have key:∀a:Nat,a<17->dO 0 (gY (P++[x]) (a:Int))=some (((mA P).set x.a.toNat ((mA P).getD x.a.toNat 0+x.n)).getD a 0):=by
  intro a b;by_cases e:x.a.toNat=a
  .subst e
   rw[f,l,Oi (by rw[pU];omega)]
  .rw[sL,if_neg (by omega),h a b,M8 e]
 have e:mA (P++[x])=(mA P).set x.a.toNat ((mA P).getD x.a.toNat 0+x.n):=by
  apply a22
  .rw[pU,a1m,pU]
  .intro i c m
   have d:i<17:=by rw[pU]at c;exact c
   have k:=key i d;have g:=F5 (P++[x]) d;rw[(lV k).1]at g;rw[a0k,a0d c,a0k,a0d m]at g;exact g
 exact⟨fun a b=>by rw[e];exact key a b,e⟩
def Sound.stop {l:List dE} (h:Sound (l.take j)) (b:l[j]?=some x) (c:l.any pC=false) (e:gH ((mA (l.take j)).getD x.a.toNat 0) x.n=false):dA l=([],2):=by
 obtain⟨d,k,-⟩:=LH c (a0a b);refine OW (a:=x.a) c (kT.refl l) ⟨d,k⟩ ?_;have f:(x.a.toNat:Int)=x.a:=a1h d;have hs:=h x.a.toNat (by omega);rw[f]at hs;have e2:l.take (j+1)=l.take j++[x]:=by rw[a0n,b];rfl
 have i:dO 0 (gY (l.take (j+1)) x.a)=none:=by
  rw[e2,sL,if_pos rfl,uG _ _ _ hs,e];rfl
 have g:gY l x.a=gY (l.take (j+1)) x.a++gY (l.drop (j+1)) x.a:=by
  conv=>lhs;rw[<-a2c (j+1) l]
  unfold gY iG;rw[a08,a09]
 rw[g,xB,i];rfl
def oQ (l:List dE) (k:Nat):List dE:=((List.range k).map fun(a:Nat)=>(⟨(a:Int),(mA l).getD a 0⟩:dE)).filter fun x=>!jU x
def abO (l:List dE) (k:Nat):oQ l (k+1)=oQ l k++[(⟨(k:Int),(mA l).getD k 0⟩:dE)].filter (fun x=>!jU x):=by
 unfold oQ;rw[a15,a09,a08];rfl
def aeZ (l:List dE) (k:Nat):(oQ l k).length<=k:=by
 unfold oQ;refine a1e (a32 _ _) ?_;simp
def Sound.plain {l:List dE} (h:Sound l) (c:l.any pC=false):dA l=(oQ l 17,0):=by
 have d:(List.range 17).any (fun(a:Nat)=>decide (dW (gY l (a:Int))≠0))=false:=by
  rw[a2e];intro a b;have:=(lV (h a (a0v.1 b))).2;simp[this]
 unfold dA;rw[c,d];simp only[a2b,if_false,a1t,and_true];unfold oQ;have e:((List.range 17).map fun(a:Nat)=>(⟨(a:Int),dJ (gY l (a:Int))⟩:dE))=(List.range 17).map fun(a:Nat)=>(⟨(a:Int),(mA l).getD a 0⟩:dE):=a1c fun a b=>by
  rw[F5 _ (a0v.1 b)]
 rw[e]
def hY.ady {w:World} {base a:Nat} {e:TypeId} {k:Nat} {v:Value} {n:Nat} {zs:List Int} (h:hY w base e k v n zs) (g:a<=base):hY w a e k v n zs:=by
 obtain⟨j,c⟩:=h;refine⟨j,?_⟩;rcases c with c|⟨b,cap,d,rfl,f,i⟩
 .exact .inl c
 .exact .inr ⟨b,cap,d,rfl,a1e g f,i⟩
def apB (w:World) (r:List dE×Int) (e:Ending) (w':World):Prop :=
 ∃v,e=.returned (.tuple #[v,.int .i64 r.2])/\hY w' w.heap.size 44 2 v r.1.length (dY r.1)/\Below w.heap.size w w'
def aaY (a:Option Addr) (cap:Nat) (l:List dE) (w:World) (h:Row w 2 a l.length cap (dY l)) (hn:l.length<=1000000) :
  Calls Tryz.prog 45 #[.slice a l.length cap] w (apB w (dA l)):=by
 obtain⟨n,hN⟩:∃n,l.length=n:=⟨_,rfl⟩
 have aE:=h.all;have V:=h.at_;have aj:=h.max;have au:=h.le;unfold maxLen at aj;clear h;rw[hN]at hn V au |-;have F:∀j,j<n->∃b off x,l[j]?=some x/\a=some ⟨b,off,none⟩/\b<w.heap.size/\∀w',Below w.heap.size w w'->w'.cell? ⟨b,off+j*2,none⟩=some (.int .i64 x.a)/\w'.cell? ⟨b,off+j*2+1,none⟩=some (.int .i64 x.n):=by
  intro j hj;obtain⟨b,off,e,U,I⟩:∃b off,a=some ⟨b,off,none⟩/\b<w.heap.size/\cK w b off (dY l):=by
   rcases V with h0|h0
   .omega
   .exact h0
  exact⟨b,off,l[j]'(by omega),a0d _,e,U,fun w' hw=>(I.below U hw).line (a0d _)⟩
 have ad:=Lib.hid F;have ag:=Lib.hid hN;obtain⟨r,s⟩:∃r,dA l=r:=⟨_,rfl⟩;rw[s];have L:=Lib.hid s;clear F V hN s;go_enter Tryz.func45,Tryz.ntmps45;go_wp2_with fail;go_loopw [4] (fun i wr=>∃j:Nat,j<=n/\i=.int .i64 j/\Hid ((l.take j).any pC=false)/\Below w.heap.size w wr) (fun i _=>n-(intOf i).toNat)
 case atStart=>exact⟨0,by omega,rfl,rfl,Below.refl _ _⟩
 case round =>
  obtain⟨j,hj,rfl,E,c⟩:=hrel;have ab:=c.size;by_cases aq:j<n
  .obtain⟨b,off,x,C,rfl,U,I⟩:=ad.out j aq
   obtain⟨O,c1⟩:=I wr c;have aC:(j:Int)<(n:Int):=(by omega);have aJ:(0:Int)<=(j:Int):=(by omega);have X:=Pb pC C;rw[E.out,Bool.false_or]at X;have J:pC x=true->r=([],1):=fun h=>by rw[<-L.out];exact OX (adz C h)
   clear I C;obtain⟨N,P⟩:=x;simp only at O c1;cases u:pC ⟨N,P⟩with
   |true =>
    have s:=J u;subst s;clear J X;go_wp2_with fail;refine(Eh ⟨N,P⟩ _).mono ?_;rw[u];rintro e w1 ⟨rfl,an⟩;clear u;go_wp2_with fail;go_ret2;exact⟨_,rfl,hY.nil _ _ _ _,blw⟩
   |false =>
    have s3:Hid ((l.take (j+1)).any pC=false):=by rw[Hid,X];exact u
    clear J X;go_wp2_with fail;refine(Eh ⟨N,P⟩ _).mono ?_;rw[u];rintro e w1 ⟨rfl,an⟩;clear u;go_wp2_with fail;go_roundw
    case rel=>exact⟨j+1,by omega,by go_num,s3,blw⟩
    case measure=>simp[intOf];omega
  .have ej:j=n:=by omega
   subst ej;have aK:¬ (j:Int)<(j:Int):=by omega
   have d:l.take j=l:=a1l (by rw[ag.out];omega);rw[d]at E;clear d;go_wp2_with fail;have ab:=c.size;have ay:Below w.heap.size w (wr.alloc (.cells #[.int .i64 0,.int .i64 0,.int .i64 0,.int .i64 0,.int .i64 0,.int .i64 0,.int .i64 0,.int .i64 0,.int .i64 0,.int .i64 0,.int .i64 0,.int .i64 0,.int .i64 0,.int .i64 0,.int .i64 0,.int .i64 0,.int .i64 0] 142)):=blw;have ai:cK (wr.alloc (.cells #[.int .i64 0,.int .i64 0,.int .i64 0,.int .i64 0,.int .i64 0,.int .i64 0,.int .i64 0,.int .i64 0,.int .i64 0,.int .i64 0,.int .i64 0,.int .i64 0,.int .i64 0,.int .i64 0,.int .i64 0,.int .i64 0,.int .i64 0] 142)) wr.heap.size 0 (mA []):=cK.new wr [0,0,0,0,0,0,0,0,0,0,0,0,0,0,0,0,0] 142;have ah:∀i,(wr.alloc (.cells #[.int .i64 0,.int .i64 0,.int .i64 0,.int .i64 0,.int .i64 0,.int .i64 0,.int .i64 0,.int .i64 0,.int .i64 0,.int .i64 0,.int .i64 0,.int .i64 0,.int .i64 0,.int .i64 0,.int .i64 0,.int .i64 0,.int .i64 0] 142)).frozen? ⟨wr.heap.size,i,none⟩=false:=World.frozen?_alloc_new wr _ 142;have af:wr.heap.size<(wr.alloc (.cells #[.int .i64 0,.int .i64 0,.int .i64 0,.int .i64 0,.int .i64 0,.int .i64 0,.int .i64 0,.int .i64 0,.int .i64 0,.int .i64 0,.int .i64 0,.int .i64 0,.int .i64 0,.int .i64 0,.int .i64 0,.int .i64 0,.int .i64 0] 142)).heap.size:=(by simp);generalize wr.alloc (.cells #[.int .i64 0,.int .i64 0,.int .i64 0,.int .i64 0,.int .i64 0,.int .i64 0,.int .i64 0,.int .i64 0,.int .i64 0,.int .i64 0,.int .i64 0,.int .i64 0,.int .i64 0,.int .i64 0,.int .i64 0,.int .i64 0,.int .i64 0] 142)=W0 at *;obtain⟨B,hB⟩:∃B,wr.heap.size=B:=⟨_,rfl⟩;rw[hB]at ai ah af ab |-;clear c hB;go_loopw [6] (fun i wr=>∃q:Nat,q<=j/\i=.int .i64 q/\Hid (Sound (l.take q))/\cK wr B 0 (mA (l.take q))/\(∀i,wr.frozen? ⟨B,i,none⟩=false)/\B<wr.heap.size/\Below w.heap.size w wr) (fun i _=>j-(intOf i).toNat)
   case atStart=>exact⟨0,by omega,rfl,Sound.nil,ai,ah,af,ay⟩
   case round =>
    obtain⟨q,hq,rfl,H,W,hF,Z,c⟩:=hrel;by_cases ak:q<j
    .obtain⟨b,off,x,C,rfl,U,I⟩:=ad.out q ak
     obtain⟨O,c1⟩:=I wr c;have aG:(q:Int)<(j:Int):=(by omega);have aH:(0:Int)<=(q:Int):=(by omega);obtain⟨g0,g1,g2⟩:=LH E.out (a0a C);have az:(x.a.toNat:Int)=x.a:=a1h g0;have o:=W x.a.toNat (by rw[pU];omega);rw[a00]at o;have f:=H.out.stop C E.out;have g:=H.out.more (x:=x) g0 g1;have d:l.take (q+1)=l.take q++[x]:=by rw[a0n,C];rfl
     rw[<-d]at g;rw[L.out]at f;have y:=cK.put W (j:=x.a.toNat) (by rw[pU];omega) ((mA (l.take q)).getD x.a.toNat 0+x.n);rw[a00]at y;obtain⟨v,hv⟩:∃v,(mA (l.take q)).getD x.a.toNat 0=v:=⟨_,rfl⟩;rw[hv]at o f g y;have ac:=hF x.a.toNat;have R:=Lib.hid f;have S:=Lib.hid g;have Y:=Lib.hid y;have aL:b<wr.heap.size:=a0s U c.size;clear f g y hv C d I az;obtain⟨N,P⟩:=x;simp only at O c1 g0 g1 o ac;obtain⟨k,rfl⟩:∃k:Nat,N=(k:Int):=⟨N.toNat,by omega⟩;rw[a0w]at o ac;have av:(k:Int)<17:=g1;cases t:gH v P with
     |true =>
      obtain⟨m1,m2⟩:=S.out t;have hp:=Y.out;rw[a0w]at hp;simp only[a0w]at m2;have am:=Lib.hid m1;have al:=Lib.hid m2;have ap:=Lib.hid hp;clear m1 m2 hp;go_wp2_with fail;go_quiet ((go_at_call 83;first|exact oN (ac1 t _)|exact xM (ac1 t _)));go_wp2_with fail;go_roundw
      case rel=>exact⟨q+1,by omega,by go_num,am.out,by rw[al.out];exact ap.out,(fun i=>by simpa using hF i),by simpa[World.setCell]using Z,(below_drewN c _).setCell (p:=⟨B,k,none⟩) (by simp only;omega) _⟩
      case measure=>simp[intOf];omega
     |false =>
      have s:=R.out t;subst s;go_wp2_with fail;go_quiet ((go_at_call 83;first|exact oN (ac2 t _)|exact xM (ac2 t _)));go_wp2_with fail;go_ret2;exact⟨_,rfl,hY.nil _ _ _ _,blw⟩
    .have eq:q=j:=by omega
     subst eq;have aD:¬ (q:Int)<(q:Int):=by omega
     have d:l.take q=l:=a1l (by rw[ag.out];omega);rw[d]at H W;have s:=H.out.plain E.out;rw[L.out]at s;subst s;obtain⟨A,aa⟩:∃A:World,wr=A:=⟨_,rfl⟩;rw[aa]at W hF Z c |-;have Q:=c.size;clear aa d H L;go_wp2_with fail;go_loopw [9,10] (fun v a wr=>∃k:Nat,k<=17/\a=.int .i64 k/\hY wr A.heap.size 44 2 v (oQ l k).length (dY (oQ l k))/\Below A.heap.size A wr) (fun _ a _=>17-(intOf a).toNat)
     case atStart=>exact⟨0,by omega,rfl,hY.nil _ _ _ _,Below.refl _ _⟩
     case round =>
      obtain⟨k,hk,rfl,T,G⟩:=hrel;have ao:=G.size;by_cases aw:k<17
      .have av:(k:Int)<17:=by omega
       have aI:(0:Int)<=(k:Int):=(by omega);have O:=(G.cell (p:=⟨B,0+k,none⟩) Z).trans (W k (by rw[pU];exact aw));rw[a00]at O;have D:=abO l k;have ar:=aeZ l k;obtain⟨z,hz⟩:∃z,(mA l).getD k 0=z:=⟨_,rfl⟩;rw[hz]at O D;have aM:B<wr.heap.size:=a0s Z ao;clear hz;by_cases K:z=0
       .have e:oQ l (k+1)=oQ l k:=by
         rw[D];have:jU ⟨(k:Int),z⟩=true:=by simp[jU,K]
         simp[this]
        have eh:=Lib.hid e;subst K;clear D e;go_wp2_with fail;go_roundw
        case rel=>exact⟨k+1,by omega,by go_num,by rw[eh.out];exact T,G⟩
        case measure=>simp[intOf];omega
       .have e:oQ l (k+1)=oQ l k++[⟨(k:Int),z⟩]:=by
         rw[D];have:jU ⟨(k:Int),z⟩=false:=by simp[jU,K]
         simp[this]
        have e1:dY (oQ l k)++[(k:Int),z]=dY (oQ l (k+1)):=(by rw[e,tQ]);have e2:(oQ l k).length+1=(oQ l (k+1)).length:=by rw[e];simp
        obtain⟨m,hm⟩:∃m,(oQ l k).length=m:=⟨_,rfl⟩;rw[hm]at T ar e2;have aB:=Lib.hid e1;have aA:=Lib.hid e2;have aF:(z==0)=false:=by rw[beq_eq_false_iff_ne];exact K
        clear D e e1 e2 hm;go_wp2_with (at_builtin;refine uE _ rfl _ _ 36 rfl A.heap.size 44 2 Aw _ m (dY (oQ l k)) rfl (T.alloc _) wr.heap.size 0 1 [(k:Int),z] rfl rfl (anJ (x:=⟨(k:Int),z⟩) rfl) ?c1 ?c2 ?_)
        case c1=>omega
        case c2=>simp;omega
        intro l' w2 M ae;rw[aB.out,aA.out]at M;have ax:Below A.heap.size A w2:=Below.trans blw ae;clear T ae G;go_wp2_with fail;go_roundw
        case rel=>exact⟨k+1,by omega,by go_num,M,ax⟩
        case measure=>simp[intOf];omega
      .have ek:k=17:=by omega
       subst ek;go_wp2_with fail;go_ret2;exact⟨_,rfl,T.ady Q,c.trans (G.mono Q)⟩
end
section
open Mc
variable {V:List (Int×Int)} {X:List Int} {F:List (Poly×Int×Int)} {ss:List (List (List AV))} {L:List (Nat×Poly)} {A:List (Nat×Poly×List AV)} {x:List (Nat×List AV×AV)}
def kC (a b:Int):Ck 83 [.i a,.i b] (.bG [.i (nT a b),.i (nI a b)]) :=
 ⟨bN (.c _) (bN (.c _) fY),.bG _ (bN (.c _) (bN (.c _) fY)),@amP dK dN _ [.int .i64 a,.int .i64 b] [.int .i64 (nT a b),.int .i64 (nI a b)] (fun w=>(Ah a b w).mono fun e w' h=>⟨h.1,h.2▸Below.refl _ _⟩) (by simp)⟩
def Ay (zs:List Int) (g:eW zs):Ck 81 [.lit 1 (aA zs)] (.bG [.i (dJ zs),.i (dW zs)]):=by
 refine⟨bN (kX _).lit fY,.bG _ (bN (.c _) (bN (.c _) fY)),?_⟩;intro A w vs k j f d;have b:=uS f;generalize vs.getD 0 Go.undef=h at b;subst b;obtain⟨a,cap,rfl,R⟩:=LG (d 0 _ rfl) g;refine(Rc a _ cap zs w R).mono ?_;rintro e w' ⟨rfl,rfl⟩;exact⟨_,rfl,mI qJ qJ,Below.refl _ _⟩
def zT (l:List dE) (s:eW (dY l)) (q:l.length<=1000000):Ck 45 [.lit 2 (bS l)] (.bG [.lit 2 (bS (dA l).1),.i (dA l).2]):=by
 refine⟨bN (Ax _).lit fY,.bG _ (bN (Ax _).lit (bN (.c _) fY)),?_⟩;intro A w vs h x r p;have b:=uS r;generalize vs.getD 0 Go.undef=u at b;subst b;obtain⟨a,cap,rfl,R⟩:=RP (p 0 _ rfl) s;refine(aaY a cap l w R q).mono ?_;rintro e w' ⟨v,rfl,d,f⟩;rcases a30 (dA l).1.length with o|t
 .obtain⟨y,nA,rfl,j⟩:=d.row (Rh l)
  exact⟨_,rfl,mI (MX h j.le j.max (.inl o)) qJ,f⟩
 .obtain⟨g,nA,rfl,g1,g2,n,m,k,-⟩:=d.full t
  exact⟨_,rfl,mI (MX h n m (.inr ⟨g,0,rfl,g1,g2,k⟩)) qJ,f⟩
def XL (l:List dE) (i:eW (dY l)) (f:l.length<=1000000):Ck 200 [.lit 2 (bS l)] (.c (.bool (pA l))):=by
 refine⟨bN (Ax _).lit fY,.c _,?_⟩;intro A w vs m k g d;have b:=uS g;generalize vs.getD 0 Go.undef=j at b;subst b;obtain⟨a,cap,rfl,R⟩:=RP (d 0 _ rfl) i;refine(aaZ a cap l w R f).mono ?_;rintro e w' ⟨rfl,h⟩;exact⟨_,rfl,@eE.c dK dN A w' _,h⟩
namespace P8
abbrev hF (m b c i:AV):List AV:=fr 74 [(6,b),(7,m),(9,c),(10,i)]
noncomputable def body:Code:=(Tryz.f152).body.getD .skip
abbrev al0 (c:Code) (r:Option (RT Out)):Prop:=nV { vars:=[(1,20)],lens:=Kda,bR:=VV } c (KgP++List.replicate 72 .undef) [] [some 0,some 1] (hF (.q 2 2) Kfc Kfd (.i 0)) [KdE,KdE] r
noncomputable def alN:Option (RT Out):=uL { vars:=[(1,20)],lens:=Kda,bR:=VV } body (KgP++List.replicate 72 .undef:List AV).length (KgP++List.replicate 72 .undef) [] 0
def aoB:al0 body alN:=⟨rfl,by decide +kernel,by decide +kernel⟩
def walk (oA:Option (RT Out)) (G:al0 body oA) (E:dD { vars:=[(1,20),(0,19),(0,16)],facts:=[(Kgc,1,20)],lens:=Bg,gI:=Df,bR:=[(83,[.o 1,.o 0],(.bG [.o 2,.i 0]))] } (aW oA) (hF (.q 2 1) Kfc Kfd (.v 1)) W8 0 [some 0,some 1] (hF (.q 2 1) Kfc Kfd Kfz) [KdE,(.sc 3 1 2 [([([2],1)],[.o 2])] [] [([],17)])]) (F:Is { vars:=[(1,20),(0,19),(0,16)],facts:=[(Kgc,1,20)],lens:=Bg,gI:=Df,bR:=[(83,[.o 1,.o 0],(.bG [.o 2,.i 2]))] } Tryz.f152 (aW oA) (hF (.q 2 1) Kfc Kfd (.v 1)) W8 ((.bG [.q 1 0,.i 2]))) (C:dD { vars:=[(1,20)],lens:=Bg } (aW oA) (hF (.q 2 1) Kfc Kfd (.v 0)) W8 2 [some 0,some 1] (hF (.q 2 1) Kfc Kfd (.v 0)) W8) (D:iU { vars:=[(1,20)],lens:=Bg } Tryz.f152 oA 0 (hF (.q 2 1) Kfc Kfd (.v 0)) W8 ((.bG [.q 1 2,.i 0]))) {b:List Int} {l m:List dE} (N:b.length=17) (h1:1<=m.length) (P:m.length<=20) (J:∀x∈m,0<=x.a/\x.a<=16)
  (H:Ck 45 [.lit 2 (bS l)] (.bG [.lit 2 (bS m),.i 0])) (K:Ck 200 [.lit 2 (bS m)] Kgm) :
  Ck 152 [.lit 1 (aA b),.lit 2 (bS l)] (.bG [.lit 1 (aA ((gM b m).getD b)),.i (match gM b m with|some _=>0|none=>2)]):=by
 refine CK.fP Tryz.func152 (c:=body) (by kernel_rfl) (yO.out) (uD.out) fun A w0 a0=>?_;intro mm w a e;rw[Tryz.ntmps152]at e;refine G.go (ev1 _ [(m.length:Int)] [] [aA b,bS l,bS m] .nil) (xK (kc H (kc K kn))) e (fd:=hF (.lit 2 (bS m)) (.own 3 1 0 0 17) (.own 3 1 1 0 17) (.i 0)) (bd:=[.cells 3 1 (aA b),.cells 3 1 (aA b)]) ?_;intro mm w a e;refine cN (fun n a w=>∃(j:Nat) (c:List Int),n=m.length-j/\j<=m.length/\c.length=17/\gM b m=gM c (m.drop j)/\∃mm,@dZ dK dN A w0 a0 mm w a (hF (.lit 2 (bS m)) (.own 3 1 0 0 17) (.own 3 1 1 0 17) (.i (j:Int))) (eB [.cells 3 1 (aA b),.cells 3 1 (aA c)])) ?_ (n:=m.length) ⟨0,b,rfl,a0j _,N,rfl,_,e⟩;rintro n a w ⟨j,c,rfl,Q,M,f,mm,e⟩;rcases(by omega:j=m.length\/j<m.length)with rfl|s
 .rw[a3e]at f
  have f:gM b m=some c:=f;rw[f];refine C.go (ev1 _ [(m.length:Int)] [] [aA b,bS m,aA c] .nil) (xK kn) e ?_;intro mm w a e;exact D.go (ev1 _ [(m.length:Int)] [] [aA b,bS m,aA c] .nil) (xK kn) e
 .obtain⟨x,r⟩:∃x,m[j]?=some x:=⟨_,a0d s⟩
  have B:m[(j:Int).toNat]?=some x:=by simpa using r
  have O:=J x (a0a r);have L:m.drop j=x::m.drop (j+1):=by rw[<-a2t s];congr 1;exact Option.some.inj (by rw[<-a0d s,r])
  rw[L]at f;simp only[gM]at f;obtain⟨p,t⟩:∃v,v=c.getD x.a.toNat 0:=⟨_,rfl⟩;have u:c[x.a.toNat]?=some p:=by rw[t,List.getD,a0d (by omega)];rfl
  have g:=kC p x.n;rw[<-t]at f;unfold nT nI at g;by_cases k:gH p x.n=true
  .rw[if_pos k]at f
   rw[if_pos k,if_pos k]at g;obtain⟨z,y⟩:∃z,z=p+x.n:=⟨_,rfl⟩;rw[<-y]at g f;refine E.go (ev1 _ [(m.length:Int),(j:Int),x.a] [.I x.n,.I p,.I z] [aA b,bS m,aA c] (.d (aL B) (.d (aI u) .nil))) (xK (kc g kn)) e (fd:=hF (.lit 2 (bS m)) (.own 3 1 0 0 17) (.own 3 1 1 0 17) (.i (1+(j:Int)))) (bd:=[.cells 3 1 (aA b),.cells 3 1 ((aA c).set x.a.toNat [.i z])]) ?_;intro mm w a e;refine⟨m.length-(j+1),by omega,j+1,c.set x.a.toNat z,rfl,by omega,by simpa using M,f,mm,?_⟩;rw[show(1+(j:Int))=((j+1:Nat):Int)by omega]at e;rw[show aA (c.set x.a.toNat z)=(aA c).set x.a.toNat [.i z]by simp[aA,a06]];exact e
  .rw[if_neg k]at f
   rw[if_neg k,if_neg k]at g;rw[f];obtain⟨z,y⟩:∃z:Int,z=0:=⟨_,rfl⟩;rw[<-y]at g;exact F.go (ev1 _ [(m.length:Int),(j:Int),x.a] [.I x.n,.I p,.I z] [aA b,bS m,aA c] (.d (aL B) (.d (aI u) .nil))) (xK (kc g kn)) e fun a w h=>pW h _
end P8
def agA (b:List Int) (l:List dE):nE b l=if(dA l).2≠0\/(0<(dA l).1.length/\pA (dA l).1=false)then(b,(10:Int))else match gM b (dA l).1 with|some c=>(c,(0:Int))|none=>(b,(2:Int)):=by
 unfold nE AQ MD;by_cases h:(dA l).2≠0\/(0<(dA l).1.length/\pA (dA l).1=false)
 .simp only[if_pos h,show ¬((10:Int)=0)by decide,if_false]
 .simp only[if_neg h]
  cases gM b (dA l).1 with
  |none=>rfl
  |some c=>rfl
def ace (b:List Int) (l:List dE) (s:b.length=17) (t:eW (dY l)) (n:l.length<=1000000):Ck 152 [.lit 1 (aA b),.lit 2 (bS l)] (.bG [.lit 1 (aA (nE b l).1),.i (nE b l).2]):=by
 have d:=zT l t n;have j:=Rh l;have w:=Co l;have y:=OV l;have g:=FE l;rw[agA];generalize z:dA l=r at *;obtain⟨m,f⟩:=r;simp only at *;by_cases h:f=0;rotate_left
 .rw[if_pos (Or.inl h)]
  exact cw _ (ev1 { vars:=[(0,20),(1,20)],lens:=Kda,bR:=[(45,[.q 2 1],(.bG [.q 2 2,.v 1]))] } [(m.length:Int),f] [] [aA b,bS l,bS m] .nil) KgP (.bG [.q 1 0,.i 10]) (kc d kn)
 subst h;have e:=XL m j (by omega);by_cases u:0<m.length;rotate_left
 .have p:m=[]:=a14.1 (by omega)
  subst p;rw[if_neg (by simp)];show Ck 152 [.lit 1 (aA b),.lit 2 (bS l)] (.bG [.lit 1 (aA b),.i 0]);exact cw _ (ev1 { lens:=[(0,[([],17)])],bR:=[(45,[.q 2 1],(.bG [(.lit 2 []),.i 0]))] } [] [] [aA b,bS l] .nil) KgP (.bG [.q 1 0,.i 0]) (kc d kn)
 by_cases a:pA m=true
 .rw[if_neg (by simp[a])]
  rw[a]at e;have W:=P8.walk P8.alN P8.aoB .of .of .of .of s (by omega) (by omega) (fun x k=>by have:=g x k;omega) d e;generalize gM b m=o at W |-;cases o with
  |none=>exact W
  |some c=>exact W
 .have a:pA m=false:=by simpa using a
  rw[if_pos (Or.inr ⟨u,a⟩)];rw[a]at e;exact cw _ (ev1 { vars:=[(1,20)],lens:=Kda,bR:=[Kbx,(200,[.q 2 2],Kgb)] } [(m.length:Int)] [] [aA b,bS l,bS m] .nil) KgP (.bG [.q 1 0,.i 10]) (kc d (kc e kn))
abbrev ρl (l:List Int):Nat->Int:=fun i=>l.getD i 0
abbrev νl (l:List Value):Nat->Value:=fun i=>l.getD i (.bool false)
abbrev gX (S:bK) (e item m c:Int) (X:List Int):List Int:=e::(S.aD.length:Int)::item::(S.weights.length:Int)::m::c::X
abbrev gVs (S:bK) (now:Int) (closed:Bool) (vs:List Value):List Value:=.int .i64 S.bU::.int .i64 S.bT::.int .i64 S.done::.int .i64 now::.bool closed::vs
abbrev EI (cl:AV) (V:List (Int×Int)) (F:List (Poly×Int×Int)) (L:List (Nat×Poly)) (A:List (Nat×Poly×List AV)) (D:List (Nat×Poly×Poly×Poly)) (C:List (Nat×Nat×Nat)) (x:List (Nat×List AV×AV)):Bk:={ vars:=gV++V,facts:=gF++F,lens:=gL++L,gI:=gAw cl++A,defs:=D,afj:=C,bR:=x }
section
variable {S:bK} {e item now m c:Int} {closed:Bool} {bH:List dI} {cU:List Int} {aM:List (List Int)} {aZ down:List Int} {ahead:List EntC} {ms cs:List Int}
def gBo (H:Wx S e item now closed bH cU aM aZ down ahead ms cs m c) (h:jH V X):jH (gV++V) (gX S e item m c X):=by
 have:=H.bd;exact h.c.c.c.c.c.c
def gFo (H:Wx S e item now closed bH cU aM aZ down ahead ms cs m c) (h:jT (ρl (gX S e item m c X)) F):jT (ρl (gX S e item m c X)) (gF++F):=by
 have:=H.bd;exact h.c.c
def gLo (H:Wx S e item now closed bH cU aM aZ down ahead ms cs m c) (h:kP (ρl (gX S e item m c X)) (gS S bH cU aM aZ down ahead ms cs ss) L):kP (ρl (gX S e item m c X)) (gS S bH cU aM aZ down ahead ms cs ss) (gL++L):=by
 have:=H.bd;exact h.c.c.c.c.c.c.c.c
def gAo (H:Wx S e item now closed bH cU aM aZ down ahead ms cs m c) {cl:AV} {vs:List Value} (h:Aa (ρl (gX S e item m c X)) (νl (gVs S now closed vs)) (gS S bH cU aM aZ down ahead ms cs ss) A)
  (a:cl=.o 4\/cl=.c (.bool closed)):Aa (ρl (gX S e item m c X)) (νl (gVs S now closed vs)) (gS S bH cU aM aZ down ahead ms cs ss) (gAw cl++A):=by
 have:=H.bd;rcases a with rfl|rfl
 .exact .d (aE H.hx) (.d (aS H.qT) (.d (aS H.Cz) (.d (aI H.hm) (.d (aI H.hc) h))))
 .exact .d (aE H.hx) (.d (aS H.qT) (.d (aS H.Cz) (.d (aI H.hm) (.d (aI H.hc) h))))
abbrev gEv (H:Wx S e item now closed bH cU aM aZ down ahead ms cs m c) (X:List Int) (vs:List Value) (ss:List (List (List AV))) [ClS ss] {D:List (Nat×Poly×Poly×Poly)} {C:List (Nat×Nat×Nat)} {cl:AV}
  (d:jH V X) (hF:jT (ρl (gX S e item m c X)) F) (f:kP (ρl (gX S e item m c X)) (gS S bH cU aM aZ down ahead ms cs ss) L) (i:Aa (ρl (gX S e item m c X)) (νl (gVs S now closed vs)) (gS S bH cU aM aZ down ahead ms cs ss) A)
  (g:wW (ρl (gX S e item m c X)) D:=by exact .nil) (a:((gVs S now closed vs).all Value.oneCell')=true:=by rfl) (b:cl=.o 4\/cl=.c (.bool closed):=by first|exact .inl rfl|exact .inr rfl) (hC:∀t∈C,(gS S bH cU aM aZ down ahead ms cs ss).getD t.2.2 []=(gS S bH cU aM aZ down ahead ms cs ss).getD t.1 []++(gS S bH cU aM aZ down ahead ms cs ss).getD t.2.1 []:=by exact fun t h=>nomatch h):@Ev (EI cl V F L A D C x) :=
 Oj _ (gX S e item m c X) (gVs S now closed vs) (gS S bH cU aM aZ down ahead ms cs ss) (gBo H d) (gFo H hF) (gLo H f) (gAo H i b) g a rfl hC
abbrev ev2 (H:Wx S e item now closed bH cU aM aZ down ahead ms cs m c) (X:List Int) (vs:List Value) (ss:List (List (List AV))) [ClS ss] {D:List (Nat×Poly×Poly×Poly)} {C:List (Nat×Nat×Nat)} {cl:AV} (i:Aa (ρl (gX S e item m c X)) (νl (gVs S now closed vs)) (gS S bH cU aM aZ down ahead ms cs ss) A) (g:wW (ρl (gX S e item m c X)) D:=by exact .nil) (a:((gVs S now closed vs).all Value.oneCell')=true:=by rfl) (b:cl=.o 4\/cl=.c (.bool closed):=by first|exact .inl rfl|exact .inr rfl) (hC:∀t∈C,(gS S bH cU aM aZ down ahead ms cs ss).getD t.2.2 []=(gS S bH cU aM aZ down ahead ms cs ss).getD t.1 []++(gS S bH cU aM aZ down ahead ms cs ss).getD t.2.1 []:=by exact fun t h=>nomatch h) (d:jH V X:=by repeat (first|exact jH.nil|refine jH.c ?_ (by omega) (by omega))) (hF:jT (ρl (gX S e item m c X)) F:=by repeat (first|exact jT.nil|refine jT.e ?_)) (f:kP (ρl (gX S e item m c X)) (gS S bH cU aM aZ down ahead ms cs ss) L:=by repeat (first|exact kP.nil|refine kP.c ?_)):@Ev (EI cl V F L A D C x) :=gEv H X vs ss d hF f i g a b hC
end
abbrev oV:List (Int×Int):=[(0,3),(0,4),(0,1),(0,3),Kg3,KfW,(0,39),(0,1000000),(0,40),(0,40),(0,40),(0,4),(0,5),(1,20)]
abbrev oL:List (Nat×Poly):=[(0,[([11],1)]),(1,[([12],1)]),(2,[([11],1)]),(3,[([11],1)]),(4,[([8],1)]),(5,[([9],1)]),(6,[([10],1)])]
abbrev iJ (V:List (Int×Int)) (F:List (Poly×Int×Int)) (L:List (Nat×Poly)) (A:List (Nat×Poly×List AV)) (x:List (Nat×List AV×AV)):Bk:={ vars:=oV++V,facts:=F,lens:=oL++L,gI:=A,bR:=x }
abbrev oX (S:bK) (e item loc dst q a ref f:Int) (X:List Int):List Int:=e::item::loc::dst::q::a::ref::S.done::(S.bB.length:Int)::(S.aN.length:Int)::(S.aH.length:Int)::(S.aD.length:Int)::(S.weights.length:Int)::f::X
abbrev oVs (S:bK) (vs:List Value):List Value:=.int .i64 S.bU::.int .i64 S.bT::vs
structure OpI (S:bK) (e item loc dst q a ref f:Int):Prop where
 he:0<=e/\e<=3
 hi:0<=item/\item<=4
 hl:0<=loc/\loc<=1
 hd:0<=dst/\dst<=3
 hq:0<=q/\q<=1073741824
 ha:0<=a/\a<=1125899906842624
 hr:0<=ref/\ref<=39
 hf:1<=f/\f<=20
 od:Od S
 hn:S.aD.length<=4
 hw:S.weights.length<=5
 hm:S.methods.length=S.aD.length
 hc:S.cI.length=S.aD.length
section
variable {S:bK} {e item loc dst q a ref f:Int}
def OpI.bd (H:OpI S e item loc dst q a ref f):(0<=e/\e<=3)/\(0<=item/\item<=4)/\(0<=loc/\loc<=1)/\(0<=dst/\dst<=3)/\(0<=q/\q<=1073741824)/\(0<=a/\a<=1125899906842624)/\(0<=ref/\ref<=39)/\(1<=f/\f<=20)/\((0<=S.done/\S.done<=1000000)/\S.bB.length<=40/\S.aN.length<=40/\S.aH.length<=40)/\S.aD.length<=4/\S.weights.length<=5/\S.methods.length=S.aD.length/\S.cI.length=S.aD.length :=
 ⟨H.he,H.hi,H.hl,H.hd,H.hq,H.ha,H.hr,H.hf,H.od,H.hn,H.hw,H.hm,H.hc⟩
def oBo (H:OpI S e item loc dst q a ref f) (h:jH V X):jH (oV++V) (oX S e item loc dst q a ref f X):=by
 have:=H.bd;exact h.c.c.c.c.c.c.c.c.c.c.c.c.c.c
def oLo (H:OpI S e item loc dst q a ref f) (h:kP (ρl (oX S e item loc dst q a ref f X)) (oS S ss) L):kP (ρl (oX S e item loc dst q a ref f X)) (oS S ss) (oL++L):=by
 have:=H.bd;exact h.c.c.c.c.c.c.c
abbrev oEv (H:OpI S e item loc dst q a ref f) (X:List Int) (vs:List Value) (ss:List (List (List AV))) [ClS ss]
  (c:jH V X) (hF:jT (ρl (oX S e item loc dst q a ref f X)) F) (d:kP (ρl (oX S e item loc dst q a ref f X)) (oS S ss) L) (g:Aa (ρl (oX S e item loc dst q a ref f X)) (νl (oVs S vs)) (oS S ss) A) (b:((oVs S vs).all Value.oneCell')=true:=by rfl):@Ev (iJ V F L A x) :=
 Oj _ (oX S e item loc dst q a ref f X) (oVs S vs) (oS S ss) (oBo H c) hF (oLo H d) g .nil b
abbrev ev3 (H:OpI S e item loc dst q a ref f) (X:List Int) (vs:List Value) (ss:List (List (List AV))) [ClS ss] (h:Aa (ρl (oX S e item loc dst q a ref f X)) (νl (oVs S vs)) (oS S ss) A) (b:((oVs S vs).all Value.oneCell')=true:=by rfl) (d:jH V X:=by repeat (first|exact jH.nil|refine jH.c ?_ (by omega) (by omega))) (hF:jT (ρl (oX S e item loc dst q a ref f X)) F:=by repeat (first|exact jT.nil|refine jT.e ?_)) (g:kP (ρl (oX S e item loc dst q a ref f X)) (oS S ss) L:=by repeat (first|exact kP.nil|refine kP.c ?_)):@Ev (iJ V F L A x) :=oEv H X vs ss d hF g h b
end
end
section
open Mc
section
variable {S:bK} {e item:Int}
def gD (h:StOk S) (x:Ix S e item):Ck 89 [S.av,.i e,.i item] (.i (if(S.aJ e).closed then 7 else 0)):=by
 have H:=h.wx x;have:=H.bd;generalize (S.aJ e).closed=cl at *;cases cl with
 |true=>exact cw (EI Kgm [] [] [] [] [] [] []) (ev2 H [] [] [] .nil) Kcr (.i 7) kn
 |false=>exact cw (EI Kgb [] [] [] [] [] [] []) (ev2 H [] [] [] .nil) Kcr (.i 0) kn
def lT (h:StOk S) (x:Ix S e item) {loc:Int} (b:0<=loc) (a:loc<=1):Ck 121 [S.av,.i e,.i item,.i loc] ((S.aJ e).bE (2*item+loc)).av:=by
 have H:=h.wx x;have:=H.bd;have c:=h.pat x b a;have f:=(h.AS x b a).lr.len;generalize (S.aJ e).bE (2*item+loc)=P at *;obtain⟨L,p0,p1,p2⟩:=P;simp only at f;exact cw (EI (.o 4) [(0,1),(0,30)] KaW [(15,[([7],1)])] De [] [] []) (ev2 H [loc,(L.length:Int)] [.I p0,.I p1,.I p2] [aO L] (.d (aQ c) .nil)) KaD KcC kn
def IX (h:StOk S) (x:Ix S e item):Ck 88 [S.av,.i e,.i item] (.bG [(bZ S e item).1.av,.i (if(bZ S e item).2 then 0 else 2)]):=by
 have:=x.e0;have:=x.e1;have:=h.hn;have:=x.i0;have:=x.i1;have:=h.hw;have a:=lT h x (loc:=0) (by omega) (by omega);have m:=lT h x (loc:=1) (by omega) (by omega);have r0:=(h.AS x (loc:=0) (by omega) (by omega)).lr;have r1:=(h.AS x (loc:=1) (by omega) (by omega)).lr;rw[a1g]at a r0;have o:=r0.bds;have n:=r1.bds;unfold bZ;generalize (S.aJ e).bE (2*item)=s at *;generalize (S.aJ e).bE (2*item+1)=r at *;obtain⟨L0,a0,b,a2⟩:=s;obtain⟨L1,b0,b1,b2⟩:=r;dsimp only at *;have j:=qN (p0:=a0) (p1:=b) (p2:=a2) r0;have g:=qN (p0:=b0) (p1:=b1) (p2:=b2) r1;have k:=Ay [qs L0,qs L1] (PE o.1 n.1);have sv:=Ay [vs L0,vs L1] (PE o.2.1 n.2.1);have sw:=Ay [ps L0,ps L1] (PE o.2.2 n.2.2);have e1:=xC [qs L0,qs L1];have e2:=xC [vs L0,vs L1];have p:=xC [ps L0,ps L1];simp only[decide_eq_true_eq];generalize dJ [qs L0,qs L1]=q at *;generalize dJ [vs L0,vs L1]=v at *;generalize dJ [ps L0,ps L1]=w at *;generalize dW [qs L0,qs L1]=f1 at *;generalize dW [vs L0,vs L1]=f2 at *;generalize dW [ps L0,ps L1]=t at *;generalize qs L0=q0 at *;generalize vs L0=f at *;generalize ps L0=w0 at *;generalize qs L1=l at *;generalize vs L1=d at *;generalize ps L1=c at *;rcases e1 with rfl|rfl<;>rcases e2 with rfl|rfl<;>rcases p with rfl|rfl
 .exact cw _ (ev1 { vars:=Khj,bR:=[Uw,Wj,Ux,Wk,GU,GD,GE] } [e,item] (vT S [.I q0,.I f,.I w0,.I l,.I d,.I c,.I q,.I v,.I w,.I a0,.I b,.I a2,.I b0,.I b1,.I b2]) (sT S [aO L0,aO L1]) .nil) Kcn (.bG [Kd3,.i 0]) (kc a (kc j (kc m (kc g (kc k (kc sv (kc sw kn)))))))
 .exact cw _ (ev1 { vars:=Khj,bR:=[Uw,Wj,Ux,Wk,GU,GD,GG] } [e,item] (vT S [.I q0,.I f,.I w0,.I l,.I d,.I c,.I q,.I v,.I w,.I a0,.I b,.I a2,.I b0,.I b1,.I b2]) (sT S [aO L0,aO L1]) .nil) Kcn Kan (kc a (kc j (kc m (kc g (kc k (kc sv (kc sw kn)))))))
 .exact cw _ (ev1 { vars:=Khj,bR:=[Uw,Wj,Ux,Wk,GU,GH,GE] } [e,item] (vT S [.I q0,.I f,.I w0,.I l,.I d,.I c,.I q,.I v,.I w,.I a0,.I b,.I a2,.I b0,.I b1,.I b2]) (sT S [aO L0,aO L1]) .nil) Kcn Kan (kc a (kc j (kc m (kc g (kc k (kc sv (kc sw kn)))))))
 .exact cw _ (ev1 { vars:=Khj,bR:=[Uw,Wj,Ux,Wk,GU,GH,GG] } [e,item] (vT S [.I q0,.I f,.I w0,.I l,.I d,.I c,.I q,.I v,.I w,.I a0,.I b,.I a2,.I b0,.I b1,.I b2]) (sT S [aO L0,aO L1]) .nil) Kcn Kan (kc a (kc j (kc m (kc g (kc k (kc sv (kc sw kn)))))))
 .exact cw _ (ev1 { vars:=Khj,bR:=[Uw,Wj,Ux,Wk,GV,GD,GE] } [e,item] (vT S [.I q0,.I f,.I w0,.I l,.I d,.I c,.I q,.I v,.I w,.I a0,.I b,.I a2,.I b0,.I b1,.I b2]) (sT S [aO L0,aO L1]) .nil) Kcn Kan (kc a (kc j (kc m (kc g (kc k (kc sv (kc sw kn)))))))
 .exact cw _ (ev1 { vars:=Khj,bR:=[Uw,Wj,Ux,Wk,GV,GD,GG] } [e,item] (vT S [.I q0,.I f,.I w0,.I l,.I d,.I c,.I q,.I v,.I w,.I a0,.I b,.I a2,.I b0,.I b1,.I b2]) (sT S [aO L0,aO L1]) .nil) Kcn Kan (kc a (kc j (kc m (kc g (kc k (kc sv (kc sw kn)))))))
 .exact cw _ (ev1 { vars:=Khj,bR:=[Uw,Wj,Ux,Wk,GV,GH,GE] } [e,item] (vT S [.I q0,.I f,.I w0,.I l,.I d,.I c,.I q,.I v,.I w,.I a0,.I b,.I a2,.I b0,.I b1,.I b2]) (sT S [aO L0,aO L1]) .nil) Kcn Kan (kc a (kc j (kc m (kc g (kc k (kc sv (kc sw kn)))))))
 .exact cw _ (ev1 { vars:=Khj,bR:=[Uw,Wj,Ux,Wk,GV,GH,GG] } [e,item] (vT S [.I q0,.I f,.I w0,.I l,.I d,.I c,.I q,.I v,.I w,.I a0,.I b,.I a2,.I b0,.I b1,.I b2]) (sT S [aO L0,aO L1]) .nil) Kcn Kan (kc a (kc j (kc m (kc g (kc k (kc sv (kc sw kn)))))))
def uX (h:StOk S) (x:Ix S e item):Ck 52 [S.av,.i e,.i item] (bZ S e item).1.av:=by
 have:=x.e0;have:=x.e1;have:=h.hn;have:=x.i0;have:=x.i1;have:=h.hw;have b:=IX h x;obtain⟨f,a⟩:∃f:Int,f=if(bZ S e item).2 then 0 else 2:=⟨_,rfl⟩
 rw[<-a]at b;have:0<=f/\f<=2:=by rw[a];split<;>omega
 clear a;generalize (bZ S e item).1=t at *;obtain⟨q,v,w⟩:=t;exact cw _ (ev1 { vars:=[(0,3),(0,4),(0,2)],bR:=[(88,Kcn,(.bG [KeR,.v 2]))] } [e,item,f] (vT S [.I q,.I v,.I w]) (sT S []) .nil) Kcn KeR (kc b kn)
def sK (h:StOk S) (x:Ix S e item) {loc:Int} (c:0<=loc) (b:loc<=1) (P:dI):Ck 123 [S.av,.i e,.i item,.i loc,P.av] (S.bJ e ((S.aJ e).bX (2*item+loc) P)).av:=by
 have H:=h.wx x;have:=H.bd;have f:=h.pat x c b;have E:=h.zN x;have p:=E.bl;have m:=E.pr;have n:=E.dl
 have a:(S.bJ e ((S.aJ e).bX (2*item+loc) P)).av=S.setRow e (zO (S.aJ e).now (S.aJ e).closed ((bP (S.aJ e).bH).set (2*item+loc).toNat P.row) (aA (S.aJ e).cU) (bM (S.aJ e).aM) (aA (S.aJ e).aZ) (aA (S.aJ e).down) (bW (S.aJ e).ahead)):=by
  rw[bK.nY,<-MF];rfl
 rw[a];clear a E;generalize (S.aJ e).bE (2*item+loc)=Q at *;obtain⟨L,p0,p1,p2⟩:=Q;obtain⟨l,k,j,g⟩:=P;exact cw (EI (.o 4) [(0,1)] KaW DO De [] [] []) (ev2 H [loc] [.I p0,.I p1,.I p2,.I k,.I j,.I g] [aO L,aO l] (.d (aQ f) .nil)) [KfT,.v 0,.v 2,.v 6,(.agg [.q 3 16,.o 8,.o 9,.o 10])] (sN (.seq 8 0 [([([0],1)],[.o 3,.o 4,(.seq 4 7 [(Kgl,[.q 3 16,.o 8,.o 9,.o 10])] []),.q 1 8,.q 11 9,.q 1 10,.q 1 11,.q 8 12])] []) (.o 2)) kn
def eM (h:StOk S) (x:Ix S e item) {l:List dE} (n:eW (dY l)) (k:l.length<=1000000):Ck 92 [S.av,.i e,.lit 2 (bS l)] (.bG [(dS S e l).1.av,.i (dS S e l).2]):=by
 have H:=h.wx x;have:=H.bd;have E:=h.zN x;have w:=E.bl;have p:=E.pr;have u:=E.dl;have c:=zT l n k;have d:=Rh l;have s:=Co l;have t:=OV l;unfold dS;generalize dA l=r at *;obtain⟨m,f⟩:=r;simp only at *;by_cases a:f=0;rotate_left
 .rw[if_pos a];exact cw (EI (.o 4) [(1,20)] [] [] [] [] [] [(45,[.q 2 15],(.bG [.q 2 16,.v 6]))]) (ev2 H [f] [] [bS l,bS m] .nil) Kbg Kby (kc c kn)
 subst a;rw[if_neg (by simp)];have g:=ace (S.aJ e).cU m E.bl d (by omega);have y:=OT (S.aJ e).cU m;generalize nE (S.aJ e).cU m=r at *;obtain⟨b,f⟩:=r;simp only at *;by_cases a:f=0;rotate_left
 .rw[if_pos a];exact cw (EI (.o 4) [(1,20)] [] [] [] [] [] [KaX,(152,[.q 1 8,.q 2 16],(.bG [.q 1 17,.v 6]))]) (ev2 H [f] [] [bS l,bS m,aA b] .nil) Kbg Kby (kc c (kc g kn))
 subst a;rw[if_neg (by simp)];have j:(S.bJ e ((S.aJ e).xI b)).av=S.setRow e (zO (S.aJ e).now (S.aJ e).closed (bP (S.aJ e).bH) (aA b) (bM (S.aJ e).aM) (aA (S.aJ e).aZ) (aA (S.aJ e).down) (bW (S.aJ e).ahead)):=by rw[bK.nY];rfl
 rw[j];exact cw (EI (.o 4) [] [] DO [] [] [] [KaX,(152,[.q 1 8,.q 2 16],(.bG [.q 1 17,.i 0]))]) (ev2 H [] [] [bS l,bS m,aA b] .nil) Kbg (.bG [(sN (.seq 8 0 [([([0],1)],[.o 3,.o 4,.q 4 7,.q 1 17,.q 11 9,.q 1 10,.q 1 11,.q 8 12])] []) (.o 2)),.i 0]) (kc c (kc g kn))
def aa6 {m c:Int} {l l':List bV} {x:bV} {up f:Int} (a:fD m c l x=(l',up,f)):-288230376151711744<=up/\up<=288230376151711744:=by
 by_cases b:f=0
 .subst b;have:=Cn a;omega
 .have:=(MG (m:=m) (c:=c) (l:=l) (x:=x) (by rw[a];exact b)).2
  rw[a]at this;simp only at this;omega
def lI (h:StOk S) (x:Ix S e item) {loc:Int} (G:0<=loc) (F:loc<=1) {y:bV} (hy:eW [y.q,y.v,y.p]):Ck 145 [S.av,.i e,.i item,.i loc,y.av] (.bG [(eK S e item loc y).1.av,.i (eK S e item loc y).2.1,.i (eK S e item loc y).2.2.1,.i (eK S e item loc y).2.2.2]):=by
 have H:=h.wx x;have:=H.bd;have D:=h.pat x G F;have M:=h.AS x G F;have hm:=h.mb' x;have R:=h.cb' x;have U:=lT h x G F;have ab:=@IK (S.cX e item) (S.cost e item) ((S.aJ e).bE (2*item+loc)).aX y;have W:∀{a:List bV} {up f:Int},fD (S.cX e item) (S.cost e item) ((S.aJ e).bE (2*item+loc)).aX y=(a,up,f)->_:=fun j=>M.in_ hm j;have X:∀{a:List bV} {up:Int},fD (S.cX e item) (S.cost e item) ((S.aJ e).bE (2*item+loc)).aX y=(a,up,0)->_:=fun j=>Cn j;have J:=fun p D=>h.bX x (p:=p) G F D;have K:=fun P=>sK h x G F P;obtain⟨t,k,u⟩:=y;have l:=fun p0 p1 p2=>ai3 (p0:=p0) (p1:=p1) (p2:=p2) (q:=t) (v:=k) (z:=u) (c:=S.cost e item) hm M.lr M.one hy R;have V:=hy k (by simp);have:=V.lo;have:=V.hi;unfold eK;obtain⟨a,up,f,j⟩:∃a up f,fD (S.cX e item) (S.cost e item) ((S.aJ e).bE (2*item+loc)).aX ⟨t,k,u⟩=(a,up,f):=⟨_,_,_,rfl⟩;have k1:=W j;have ac:=aa6 j;have k3:=fun(E:f=0)=>X (by rw[j,E]);simp only[j]at ab l |-;clear W X j;have b:=J { (S.aJ e).bE (2*item+loc)with aX:=a } k1.1;have w:=x.bJ (e':=e) (y:=(S.aJ e).bX (2*item+loc) { (S.aJ e).bE (2*item+loc)with aX:=a });have O:=K { (S.aJ e).bE (2*item+loc)with aX:=a };have C:=IX b w;have E:=lT b w (loc:=0) (by omega) (by omega);have h1:=lT b w (loc:=1) (by omega) (by omega);have g0:=(b.AS w (loc:=0) (by omega) (by omega)).lr;have g1:=(b.AS w (loc:=1) (by omega) (by omega)).lr;rw[a1g]at E g0;have aa:PS (S.bJ e ((S.aJ e).bX (2*item+loc) { (S.aJ e).bE (2*item+loc)with aX:=a })) e item=decide (dW (((((S.bJ e ((S.aJ e).bX (2*item+loc) { (S.aJ e).bE (2*item+loc)with aX:=a })).aJ e).bE (2*item)).aX++(((S.bJ e ((S.aJ e).bX (2*item+loc) { (S.aJ e).bE (2*item+loc)with aX:=a })).aJ e).bE (2*item+1)).aX).map kR)=0):=by unfold PS sw kR;rw[a09]
 have l:=l ((S.aJ e).bE (2*item+loc)).p0 ((S.aJ e).bE (2*item+loc)).p1 ((S.aJ e).bE (2*item+loc)).p2;clear J K;generalize hT:S.bJ e ((S.aJ e).bX (2*item+loc) { (S.aJ e).bE (2*item+loc)with aX:=a })=T at *;have Y:T.av=(S.bQ T.aD).av:=by rw[<-hT];rfl
 clear b w;generalize (S.aJ e).bE (2*item+loc)=Q at *;obtain⟨L,p0,p1,p2⟩:=Q;simp only at *;by_cases he:f=0;rotate_left
 .rw[if_pos he]
  exact cw (EI (.o 4) [(0,1),nB,nB,(1,20)] KaW [] De [] [] [U4,(196,V6,(.bG [KcD,.v 8,.v 9]))]) (ev2 H [loc,k,up,f] [.I p0,.I p1,.I p2,.I t,.I u] [aO L,aO a] (.d (aQ D) .nil)) WN (.bG [KfT,.i 0,.i 0,.v 9]) (kc U (kc l kn))
 subst he;have k3:=k3 rfl;rw[if_neg (by simp)];rw[Y]at O C E h1;generalize (bZ T e item).2=wb at *;generalize (bZ T e item).1=wt at *;obtain⟨wq,Z,wp⟩:=wt;cases wb with
 |false =>
  rw[if_pos rfl];simp only[a2b,if_false]at C;exact cw (EI (.o 4) [(0,1),nB,nB] KaW [] De [] [] [U4,Qh,Zx,(88,Kb6,(.bG [(.agg [.o 10,.o 11,.o 12]),.i 2]))]) (ev2 H [loc,k,up] [.I p0,.I p1,.I p2,.I t,.I u,.I wq,.I Z,.I wp] [aO L,aO a,bD T.aD] (.d (aQ D) .nil)) WN DU (kc U (kc l (kc O (kc C kn))))
 |true =>
  rw[if_neg (by simp)];simp only[if_true]at C;rw[aa];generalize ((T.aJ e).bE (2*item))=A at *;generalize ((T.aJ e).bE (2*item+1))=B at *;obtain⟨r,a0,a1,a2⟩:=A;obtain⟨m,b0,b1,b2⟩:=B;simp only at *;obtain⟨g,s⟩:∃g,g=r++m:=⟨_,rfl⟩
  have b:∀z∈g,kS z=true:=fun z N=>by
   rw[s]at N;exact(a0m.1 N).elim (g0.ok z) (g1.ok z)
  have hs:=XK (CB fun z N=>Pa (b z N)) (a0i.2 b);have se:=xC (g.map kR);have af:=g0.len;have ae:=g1.len;rw[<-s];have R:aO g=aO r++aO m:=by rw[s];simp[aO]
  have ad:g.length=r.length+m.length:=by rw[s,a1r]
  generalize dJ (g.map kR)=n at *;generalize dW (g.map kR)=f at *;rcases se with rfl|rfl
  .rw[if_neg (by simp)]
   simp only[Y];exact cw (EI (.o 4) [(0,1),w60,w60,(0,30),(0,30)] KaW Hk De [] [(18,19,20)] [U4,Qh,Zx,YU,YV,YW,(197,[.q 3 20],(.bG [.o 19,.i 0]))]) (ev2 H [loc,k,up,(r.length:Int),(m.length:Int)] [.I p0,.I p1,.I p2,.I t,.I u,.I wq,.I Z,.I wp,.I a0,.I a1,.I a2,.I b0,.I b1,.I b2,.I n] [aO L,aO a,bD T.aD,aO r,aO m,aO g] (.d (aQ D) .nil) (hC:=by simp[R])) WN (.bG [KfG,(.e [([7],1),([8],(-1))]),.v 8,.i 0]) (kc U (kc l (kc O (kc C (kc E (kc h1 (kc hs kn)))))))
  .rw[if_pos (by simp)]
   exact cw (EI (.o 4) [(0,1),nB,nB,(0,30),(0,30)] KaW Hk De [] [(18,19,20)] [U4,Qh,Zx,YU,YV,YW,(197,[.q 3 20],(.bG [.o 19,.i 2]))]) (ev2 H [loc,k,up,(r.length:Int),(m.length:Int)] [.I p0,.I p1,.I p2,.I t,.I u,.I wq,.I Z,.I wp,.I a0,.I a1,.I a2,.I b0,.I b1,.I b2,.I n] [aO L,aO a,bD T.aD,aO r,aO m,aO g] (.d (aQ D) .nil) (hC:=by simp[R])) WN DU (kc U (kc l (kc O (kc C (kc E (kc h1 (kc hs kn)))))))
def mL (h:StOk S) (x:Ix S e item) {loc kind q:Int} (g:0<=loc) (b:loc<=1) (B:0<=kind/\kind<=3) (j:fW q):Ck 217 [S.av,.i e,.i item,.i loc,.i kind,.i q] (.bG [(dU S e item loc kind q).1.av,(dU S e item loc kind q).2.1.av,.c (.bool (dU S e item loc kind q).2.2.1),.i (dU S e item loc kind q).2.2.2]):=by
 have H:=h.wx x;have:=H.bd;have:=j.lo;have:=j.hi;have m:=h.pat x g b;have a:=h.AS x g b;have A:=h.mb' x;have C:=h.cb' x;have t:=lT h x g b;have E:=h.zN x;have J:=E.bl;have D:=E.pr;have G:=E.dl;have F:=@El (S.cX e item) (S.cost e item) ((S.aJ e).bE (2*item+loc)).aX ((S.aJ e).bE (2*item+loc)).pn kind q
 have s:∀p,(S.bJ e ((S.aJ e).bX (2*item+loc) p)).av=S.setRow e (zO (S.aJ e).now (S.aJ e).closed ((bP (S.aJ e).bH).set (2*item+loc).toNat p.row) (aA (S.aJ e).cU) (bM (S.aJ e).aM) (aA (S.aJ e).aZ) (aA (S.aJ e).down) (bW (S.aJ e).ahead)):=by
  intro p;rw[bK.nY,<-MF];rfl
 have k:=aff (p0:=((S.aJ e).bE (2*item+loc)).p0) (p1:=((S.aJ e).bE (2*item+loc)).p1) (p2:=((S.aJ e).bE (2*item+loc)).p2) (c:=S.cost e item) A a.lr a.one a.pnd j B C;unfold dU;rw[show(⟨((S.aJ e).bE (2*item+loc)).p0,((S.aJ e).bE (2*item+loc)).p1,((S.aJ e).bE (2*item+loc)).p2⟩:tY)=((S.aJ e).bE (2*item+loc)).pn from rfl]at k;generalize dG (S.cX e item) (S.cost e item) ((S.aJ e).bE (2*item+loc)).aX ((S.aJ e).bE (2*item+loc)).pn kind q=r at *;obtain⟨z,⟨y,w,u⟩,⟨xq,xv,xp⟩,l,f⟩:=r;clear a;generalize (S.aJ e).bE (2*item+loc)=Q at *;obtain⟨L,p0,p1,p2⟩:=Q;simp only at *;by_cases n:f=0;rotate_left
 .rw[if_pos n];exact cw (EI (.o 4) [(0,1),(0,3),nB,(1,20)] KaW [] De [] [] [U4,(238,HJ,(.bG [Kbz,Ket,.o 14,.v 9]))]) (ev2 H [loc,kind,q,f] [.I p0,.I p1,.I p2,.I xq,.I xv,.I xp,.I y,.I w,.I u,.bool l] [aO L,aO z] (.d (aQ m) .nil)) Dt (.bG [KfT,Ke6,Kgb,.v 9]) (kc t (kc k kn))
 subst n;rw[if_neg (by simp)];simp only[s];exact cw (EI (.o 4) [(0,1),(0,3),nB] KaW DO De [] [] [U4,(238,HJ,(.bG [Kbz,Ket,.o 14,.i 0]))]) (ev2 H [loc,kind,q] [.I p0,.I p1,.I p2,.I xq,.I xv,.I xp,.I y,.I w,.I u,.bool l] [aO L,aO z] (.d (aQ m) .nil)) Dt (.bG [(sN (.seq 8 0 [([([0],1)],[.o 3,.o 4,(.seq 4 7 [(Kgl,[.q 3 16,.o 11,.o 12,.o 13])] []),.q 1 8,.q 11 9,.q 1 10,.q 1 11,.q 8 12])] []) (.o 2)),Ket,.o 14,.i 0]) (kc t (kc k kn))
def fQ (h:StOk S) (x:Ix S e item) {r:List Int} (C:r.length=11):Ck 124 [S.av,.i e,.i item,.agg (jF r)] (.bG [(eC S e item r).1.av,.i (eC S e item r).2]):=by
 have H:=h.wx x;have:=H.bd;have E:=h.zN x;have ag:=E.bl;have ae:=E.pr;have af:=E.dl;have ac:=acX h x;have hl:=(acW h x).1
 have ab:∀s,(S.bJ e ((S.aJ e).xH item s)).av=S.setRow e (zO (S.aJ e).now (S.aJ e).closed (bP (S.aJ e).bH) (aA (S.aJ e).cU) ((bM (S.aJ e).aM).set item.toNat (jF s)) (aA (S.aJ e).aZ) (aA (S.aJ e).down) (bW (S.aJ e).ahead)):=by
  intro s;rw[bK.nY,<-aaR];rfl
 unfold eC;generalize (S.aJ e).rL item=A at *;obtain⟨a0,B,a2,y,w,v,u,t,p,n,b,rfl⟩:=RN hl;obtain⟨b0,b1,b2,b3,m,l,k,j,g,f,a,rfl⟩:=RN C;have C:=ac;have D:=kC a0 b0;have f0:=pD a0 b0;have G:=kC B b1;have f1:=pD B b1;have K:=kC a2 b2;have f2:=pD a2 b2;have M:=kC y b3;have f3:=pD y b3;have O:=kC w m;have f4:=pD w m;have Q:=kC v l;have f5:=pD v l;have T:=kC u k;have f6:=pD u k;have V:=kC t j;have f7:=pD t j;have X:=kC p g;have f8:=pD p g;have k9:=kC n f;have f9:=pD n f;have Y:=kC b a;have ad:=pD b a;simp only[rJ];generalize nT a0 b0=F at *;generalize nI a0 b0=g0 at *;generalize nT B b1=J at *;generalize nI B b1=g1 at *;generalize nT a2 b2=L at *;generalize nI a2 b2=g2 at *;generalize nT y b3=N at *;generalize nI y b3=g3 at *;generalize nT w m=P at *;generalize nI w m=g4 at *;generalize nT v l=R at *;generalize nI v l=g5 at *;generalize nT u k=U at *;generalize nI u k=g6 at *;generalize nT t j=W at *;generalize nI t j=g7 at *;generalize nT p g=Z at *;generalize nI p g=g8 at *;generalize nT n f=s9 at *;generalize nI n f=g9 at *;generalize nT b a=aa at *;generalize nI b a=ah at *;rcases f0 with rfl|rfl;rotate_left
 .obtain⟨z,c⟩:∃z,z=F:=⟨_,rfl⟩
  rw[<-c]at D;simp only[show ¬((2:Int)=0)by decide,if_false,if_true,a1z,ite_self];exact cw (EI (.o 4) [] [] [] Ub [] [] [(83,[.o 5,.o 16],(.bG [.o 27,.i 2]))]) (ev2 H [] [.I a0,.I B,.I a2,.I y,.I w,.I v,.I u,.I t,.I p,.I n,.I b,.I b0,.I b1,.I b2,.I b3,.I m,.I l,.I k,.I j,.I g,.I f,.I a,.I z] [] (.d (aR C) .nil)) Zb KbA (kc D kn)
 rcases f1 with rfl|rfl;rotate_left
 .obtain⟨z,c⟩:∃z,z=J:=⟨_,rfl⟩
  rw[<-c]at G;simp only[show ¬((2:Int)=0)by decide,if_false,if_true,a1z,ite_self];exact cw (EI (.o 4) [] [] [] Ub [] [] [KaK,(83,[.o 6,.o 17],(.bG [.o 28,.i 2]))]) (ev2 H [] [.I a0,.I B,.I a2,.I y,.I w,.I v,.I u,.I t,.I p,.I n,.I b,.I b0,.I b1,.I b2,.I b3,.I m,.I l,.I k,.I j,.I g,.I f,.I a,.I F,.I z] [] (.d (aR C) .nil)) Zb KbA (kc D (kc G kn))
 rcases f2 with rfl|rfl;rotate_left
 .obtain⟨z,c⟩:∃z,z=L:=⟨_,rfl⟩
  rw[<-c]at K;simp only[show ¬((2:Int)=0)by decide,if_false,if_true,a1z,ite_self];exact cw (EI (.o 4) [] [] [] Ub [] [] [KaK,KaL,(83,[.o 7,.o 18],(.bG [.o 29,.i 2]))]) (ev2 H [] [.I a0,.I B,.I a2,.I y,.I w,.I v,.I u,.I t,.I p,.I n,.I b,.I b0,.I b1,.I b2,.I b3,.I m,.I l,.I k,.I j,.I g,.I f,.I a,.I F,.I J,.I z] [] (.d (aR C) .nil)) Zb KbA (kc D (kc G (kc K kn)))
 rcases f3 with rfl|rfl;rotate_left
 .obtain⟨z,c⟩:∃z,z=N:=⟨_,rfl⟩
  rw[<-c]at M;simp only[show ¬((2:Int)=0)by decide,if_false,if_true,a1z,ite_self];exact cw (EI (.o 4) [] [] [] Ub [] [] [KaK,KaL,KaM,(83,[.o 8,.o 19],(.bG [.o 30,.i 2]))]) (ev2 H [] [.I a0,.I B,.I a2,.I y,.I w,.I v,.I u,.I t,.I p,.I n,.I b,.I b0,.I b1,.I b2,.I b3,.I m,.I l,.I k,.I j,.I g,.I f,.I a,.I F,.I J,.I L,.I z] [] (.d (aR C) .nil)) Zb KbA (kc D (kc G (kc K (kc M kn))))
 rcases f4 with rfl|rfl;rotate_left
 .obtain⟨z,c⟩:∃z,z=P:=⟨_,rfl⟩
  rw[<-c]at O;simp only[show ¬((2:Int)=0)by decide,if_false,if_true,a1z,ite_self];exact cw (EI (.o 4) [] [] [] Ub [] [] [KaK,KaL,KaM,KaN,(83,[.o 9,.o 20],(.bG [.o 31,.i 2]))]) (ev2 H [] [.I a0,.I B,.I a2,.I y,.I w,.I v,.I u,.I t,.I p,.I n,.I b,.I b0,.I b1,.I b2,.I b3,.I m,.I l,.I k,.I j,.I g,.I f,.I a,.I F,.I J,.I L,.I N,.I z] [] (.d (aR C) .nil)) Zb KbA (kc D (kc G (kc K (kc M (kc O kn)))))
 rcases f5 with rfl|rfl;rotate_left
 .obtain⟨z,c⟩:∃z,z=R:=⟨_,rfl⟩
  rw[<-c]at Q;simp only[show ¬((2:Int)=0)by decide,if_false,if_true,a1z,ite_self];exact cw (EI (.o 4) [] [] [] Ub [] [] [KaK,KaL,KaM,KaN,KaO,(83,[.o 10,.o 21],(.bG [.o 32,.i 2]))]) (ev2 H [] [.I a0,.I B,.I a2,.I y,.I w,.I v,.I u,.I t,.I p,.I n,.I b,.I b0,.I b1,.I b2,.I b3,.I m,.I l,.I k,.I j,.I g,.I f,.I a,.I F,.I J,.I L,.I N,.I P,.I z] [] (.d (aR C) .nil)) Zb KbA (kc D (kc G (kc K (kc M (kc O (kc Q kn))))))
 rcases f6 with rfl|rfl;rotate_left
 .obtain⟨z,c⟩:∃z,z=U:=⟨_,rfl⟩
  rw[<-c]at T;simp only[show ¬((2:Int)=0)by decide,if_false,if_true,a1z,ite_self];exact cw (EI (.o 4) [] [] [] Ub [] [] [KaK,KaL,KaM,KaN,KaO,Kat,(83,[.o 11,.o 22],(.bG [.o 33,.i 2]))]) (ev2 H [] [.I a0,.I B,.I a2,.I y,.I w,.I v,.I u,.I t,.I p,.I n,.I b,.I b0,.I b1,.I b2,.I b3,.I m,.I l,.I k,.I j,.I g,.I f,.I a,.I F,.I J,.I L,.I N,.I P,.I R,.I z] [] (.d (aR C) .nil)) Zb KbA (kc D (kc G (kc K (kc M (kc O (kc Q (kc T kn)))))))
 rcases f7 with rfl|rfl;rotate_left
 .obtain⟨z,c⟩:∃z,z=W:=⟨_,rfl⟩
  rw[<-c]at V;simp only[show ¬((2:Int)=0)by decide,if_false,if_true,a1z,ite_self];exact cw (EI (.o 4) [] [] [] Ub [] [] [KaK,KaL,KaM,KaN,KaO,Kat,Kau,(83,[.o 12,.o 23],(.bG [.o 34,.i 2]))]) (ev2 H [] [.I a0,.I B,.I a2,.I y,.I w,.I v,.I u,.I t,.I p,.I n,.I b,.I b0,.I b1,.I b2,.I b3,.I m,.I l,.I k,.I j,.I g,.I f,.I a,.I F,.I J,.I L,.I N,.I P,.I R,.I U,.I z] [] (.d (aR C) .nil)) Zb KbA (kc D (kc G (kc K (kc M (kc O (kc Q (kc T (kc V kn))))))))
 rcases f8 with rfl|rfl;rotate_left
 .obtain⟨z,c⟩:∃z,z=Z:=⟨_,rfl⟩
  rw[<-c]at X;simp only[show ¬((2:Int)=0)by decide,if_false,if_true,a1z,ite_self];exact cw (EI (.o 4) [] [] [] Ub [] [] [KaK,KaL,KaM,KaN,KaO,Kat,Kau,Kav,(83,[.o 13,.o 24],(.bG [.o 35,.i 2]))]) (ev2 H [] [.I a0,.I B,.I a2,.I y,.I w,.I v,.I u,.I t,.I p,.I n,.I b,.I b0,.I b1,.I b2,.I b3,.I m,.I l,.I k,.I j,.I g,.I f,.I a,.I F,.I J,.I L,.I N,.I P,.I R,.I U,.I W,.I z] [] (.d (aR C) .nil)) Zb KbA (kc D (kc G (kc K (kc M (kc O (kc Q (kc T (kc V (kc X kn)))))))))
 rcases f9 with rfl|rfl;rotate_left
 .obtain⟨z,c⟩:∃z,z=s9:=⟨_,rfl⟩
  rw[<-c]at k9;simp only[show ¬((2:Int)=0)by decide,if_false,if_true,a1z,ite_self];exact cw (EI (.o 4) [] [] [] Ub [] [] [KaK,KaL,KaM,KaN,KaO,Kat,Kau,Kav,Kaw,(83,[.o 14,.o 25],(.bG [.o 36,.i 2]))]) (ev2 H [] [.I a0,.I B,.I a2,.I y,.I w,.I v,.I u,.I t,.I p,.I n,.I b,.I b0,.I b1,.I b2,.I b3,.I m,.I l,.I k,.I j,.I g,.I f,.I a,.I F,.I J,.I L,.I N,.I P,.I R,.I U,.I W,.I Z,.I z] [] (.d (aR C) .nil)) Zb KbA (kc D (kc G (kc K (kc M (kc O (kc Q (kc T (kc V (kc X (kc k9 kn))))))))))
 rcases ad with rfl|rfl;rotate_left
 .obtain⟨z,c⟩:∃z,z=aa:=⟨_,rfl⟩
  rw[<-c]at Y;simp only[show ¬((2:Int)=0)by decide,if_false,if_true,a1z,ite_self];exact cw (EI (.o 4) [] [] [] Ub [] [] [KaK,KaL,KaM,KaN,KaO,Kat,Kau,Kav,Kaw,Kax,(83,[.o 15,.o 26],(.bG [.o 37,.i 2]))]) (ev2 H [] [.I a0,.I B,.I a2,.I y,.I w,.I v,.I u,.I t,.I p,.I n,.I b,.I b0,.I b1,.I b2,.I b3,.I m,.I l,.I k,.I j,.I g,.I f,.I a,.I F,.I J,.I L,.I N,.I P,.I R,.I U,.I W,.I Z,.I s9,.I z] [] (.d (aR C) .nil)) Zb KbA (kc D (kc G (kc K (kc M (kc O (kc Q (kc T (kc V (kc X (kc k9 (kc Y kn)))))))))))
 simp only[if_true,a0q,ab];exact cw (EI (.o 4) [] [] DO Ub [] [] [KaK,KaL,KaM,KaN,KaO,Kat,Kau,Kav,Kaw,Kax,(83,[.o 15,.o 26],(.bG [.o 37,.i 0]))]) (ev2 H [] [.I a0,.I B,.I a2,.I y,.I w,.I v,.I u,.I t,.I p,.I n,.I b,.I b0,.I b1,.I b2,.I b3,.I m,.I l,.I k,.I j,.I g,.I f,.I a,.I F,.I J,.I L,.I N,.I P,.I R,.I U,.I W,.I Z,.I s9,.I aa] [] (.d (aR C) .nil)) Zb (.bG [(sN (.seq 8 0 [([([0],1)],[.o 3,.o 4,.q 4 7,.q 1 8,(.seq 11 9 [([([2],1)],[.o 27,.o 28,.o 29,.o 30,.o 31,.o 32,.o 33,.o 34,.o 35,.o 36,.o 37])] []),.q 1 10,.q 1 11,.q 8 12])] []) (.o 2)),.i 0]) (kc D (kc G (kc K (kc M (kc O (kc Q (kc T (kc V (kc X (kc k9 (kc Y kn)))))))))))
end
end
section
open Mc
variable {o:Option (RT Out)}
instance:uD .any:=⟨.any⟩
def mU {l:List Int} (b:eW l) (c:dW l=0):Ck 44 [.any,.lit 1 (aA l)] (.i (dJ l)):=by
 have a:=Ay l b;rw[c]at a;exact cw _ (ev1 { bR:=[(81,[.q 1 0],(.bG [.o 0,.i 0]))] } [] [.I (dJ l)] [aA l] .nil) [.any,.q 1 0] (.o 0) (kc a kn)
namespace KS
abbrev kF (a b c d i m:AV):List AV:=fr 97 [(0,.any),(2,m),(4,.ptr 10 0 0 0),(6,.ptr 4 1 0 0),(7,a),(8,b),(9,c),(10,d),(11,i)]
abbrev kF2 (a b c d i m:AV):List AV:=fr 97 [(0,.any),(2,m),(4,.ptr 10 0 0 0),(6,.ptr 4 1 0 0),(7,a),(8,b),(9,c),(10,d),(13,i)]
abbrev oK' (k n:Nat):AV:=.own 3 1 k 0 n
abbrev kB (S:bK) (q v p d:List (List AV)):List Mc.dC:=[GO.sR S,.cells 46 4 KeY,.cells 3 1 q,.cells 3 1 v,.cells 3 1 p,.cells 3 1 d]
abbrev f1 (m:Int) (k:Nat) (i:Int):List AV:=kF (oK' 2 k) (oK' 3 k) (oK' 4 k) (oK' 5 k) (.i i) (.i m)
abbrev f2 (m:Int) (k n:Nat) (i:Int):List AV:=kF2 (oK' 2 k) (oK' 3 k) (oK' 4 k) (oK' 5 n) (.i i) (.i m)
noncomputable def body:Code:=(Tryz.f41).body.getD .skip
abbrev ame (c:Code) (r:Option (RT Out)):Prop:=nV { vars:=KdS,facts:=KdT,lens:=Bc } c ([.any,KfT,.v 0]++List.replicate 94 .undef) [] [some 0,some 1,none,none,none,none] (kF Kgy Kgz KgC (.own 3 1 5 0 0) (.i 0) (.v 0)) [YH,KaI,KgO,KgO,KgO,KgO] r
noncomputable def Tc:Option (RT Out):=uL { vars:=KdS,facts:=KdT,lens:=Bc } body ([.any,KfT,.v 0]++List.replicate 94 .undef:List AV).length ([.any,KfT,.v 0]++List.replicate 94 .undef) [] 0
def aoJ:ame body Tc:=⟨by unfold Tc;rfl,by decide +kernel,by decide +kernel⟩
abbrev amd (c:Code):Prop:=dD { vars:=[(0,4),(1,5),(0,4),(0,40),(0,3)],facts:=GB,lens:=[Kg9,Kha,Khb,Khc,Khd,Khe,(10,[([4],1)]),(15,[([1],1)])],gI:=[(0,[([4],1)],[.o 6,.o 7,.q 4 11,.q 1 12,.q 11 13,.q 1 14,.q 1 15,.q 8 16]),(15,[([0],1)],[.o 8])],bR:=[(52,[KfT,.v 4,.v 0],KeR)] } c (kF Ke5 KeZ Ke0 Ke1 (.v 4) (.v 0)) [YH,KaI,Kdy,Kdz,KdA,(.sc 3 1 10 [] [] [([4],1)])] 0 [some 0,some 1,some 8,some 10,some 12,some 14] (kF KcT KcN KcO KcP KfB (.v 0)) [YH,KaI,B0,B2,B6,(.sc 3 1 10 [] [[.o 8]] KgD)]
abbrev amc (c:Code):Prop:=dD { vars:=KdS,facts:=KdT,lens:=Zl } c (kF Kfe Ke2 Ke3 Ke4 (.v 2) (.v 0)) KQ 2 [some 0,some 1,some 2,some 3,some 4,some 5] (kF Kfe Ke2 Ke3 Ke4 (.v 2) (.v 0)) KQ
abbrev abg (o:Option (RT Out)) (r:Option (RT Out)):Prop:=pJ { vars:=KdS,facts:=KdT,lens:=Zl } o 0 (kF Kfe Ke2 Ke3 Ke4 (.v 2) (.v 0)) KQ [some 0,some 1,some 2,some 3,some 4,some 5] (kF2 Kfe Ke2 Ke3 Ke4 (.i 0) (.v 0)) KQ r
noncomputable def aaN:Option (RT Out):=IF { vars:=KdS,facts:=KdT,lens:=Zl } Tc 0 (kF Kfe Ke2 Ke3 Ke4 (.v 2) (.v 0):List AV).length (kF Kfe Ke2 Ke3 Ke4 (.v 2) (.v 0)) KQ 6
def ani:abg Tc aaN:=⟨by unfold aaN;rfl,by decide +kernel,by decide +kernel⟩
abbrev ag1 (c:Code):Prop:=dD { vars:=DB,facts:=Uu,lens:=Zm,gI:=Dr } c (kF2 Ke5 KeZ Ke0 Ke4 (.v 5) (.v 0)) KR 0 [some 0,some 1,some 8,some 10,some 12,some 5] (kF2 KcT KcN KcO Ke4 KfC (.v 0)) [YH,KaI,B7,B8,B9,Kdj]
abbrev adk (c:Code):Prop:=dD { vars:=DB,facts:=YT,lens:=Zm,gI:=Dr } c (kF2 Ke5 KeZ Ke0 Ke4 (.v 5) (.v 0)) KR 0 [some 0,some 1,some 2,some 3,some 4,some 5] (kF2 Ke5 KeZ Ke0 Ke4 KfC (.v 0)) KR
abbrev adl (c:Code):Prop:=dD { vars:=DB,facts:=Uv,lens:=Zm,gI:=Dr } c (kF2 Ke5 KeZ Ke0 Ke4 (.v 5) (.v 0)) KR 0 [some 0,some 1,some 2,some 3,some 4,some 5] (kF2 Ke5 KeZ Ke0 Ke4 KfC (.v 0)) KR
abbrev ag0 (c:Code):Prop:=dD { vars:=Kb1,facts:=KdT,lens:=Zm } c (kF2 Ke5 KeZ Ke0 Ke4 (.v 3) (.v 0)) KR 4 [some 0,some 1,some 2,some 3,some 4,some 5] (kF2 Ke5 KeZ Ke0 Ke4 (.v 3) (.v 0)) KR
abbrev amb (o:Option (RT Out)):Prop:=iU { vars:=Kb1,facts:=KdT,lens:=Zm,bR:=[(44,[.any,.q 1 7],(.o 3)),(44,[.any,.q 1 8],(.o 4)),(44,[.any,.q 1 9],(.o 5)),(44,[.any,.q 1 10],(.o 6))] } Tryz.f41 o 2 (kF2 Ke5 KeZ Ke0 Ke4 (.v 3) (.v 0)) KR (Kdk)
section
variable {S:bK} {item:Int} {A:Nat->Prop} {w0:World} {a0:Act}
def fin (h:amb o) (G:Gn S) (u:0<=item/\item<S.weights.length) {qs vs ps ds:List Int} {k:Nat} {q0 b p0 c:Int} (t:k<=44) (p:qs.length=k) (n:vs.length=k) (q:ps.length=k) (r:ds.length=S.aD.length)
  (g:Ck 44 [.any,.lit 1 (aA qs)] (.i q0)) (f:Ck 44 [.any,.lit 1 (aA vs)] (.i b)) (e:Ck 44 [.any,.lit 1 (aA ps)] (.i p0)) (d:Ck 44 [.any,.lit 1 (aA ds)] (.i c))
  (mm:Nat->St) (w:World) (a:Act) (j:@dZ dK dN A w0 a0 mm w a (f2 item k S.aD.length (S.aH.length:Int)) (eB (kB S (aA qs) (aA vs) (aA ps) (aA ds)))):KS Tryz.prog (oK o) (Fin Tryz.prog Tryz.f41 A w0 a0 (.agg [.i q0,.i b,.i p0,.i c])) (AX.exit 2).to a w:=by
 have s:=G.hw;have m:=G.hn;have l:=G.yP;exact h.go (ev1 _ [item,(S.weights.length:Int),(S.aD.length:Int),(S.aH.length:Int),(k:Int)] (vT S [.I q0,.I b,.I p0,.I c]) (sT S [aA qs,aA vs,aA ps,aA ds]) .nil) (xK (kc g (kc f (kc e (kc d kn))))) j
def trans (B:ag1 (aW o)) (t:adk (aW o)) (u:adl (aW o)) (z:ag0 (aW o)) (G:Gn S) (M:0<=item/\item<S.weights.length) {ds:List Int} (H:ds.length=S.aD.length) {Φ:iO}
  (x:∀(k:Nat) mm w a,k<=44->(RX S item).length=k->(RW S item).length=k->(RY S item).length=k->@dZ dK dN A w0 a0 mm w a (f2 item k S.aD.length (S.aH.length:Int)) (eB (kB S (aA (RX S item)) (aA (RW S item)) (aA (RY S item)) (aA ds)))->KS Tryz.prog (oK o) Φ (AX.exit 2).to a w)
  (mm:Nat->St) (w:World) (a:Act) (b:@dZ dK dN A w0 a0 mm w a (f2 item S.aD.length S.aD.length 0) (eB (kB S (aA ((wL S item S.aD.length).map (·.q))) (aA ((wL S item S.aD.length).map (·.v))) (aA ((wL S item S.aD.length).map (·.p))) (aA ds)))) :
  (Code.loop (aW o)).wpIn (fw none) 9 Tryz.prog (KS Tryz.prog (oK o) Φ) a w:=by
 have J:=G.hw;have F:=G.hn;have E:=G.yP;refine cN (fun n a w=>∃(j k:Nat) (qs vs ps:List Int),n=S.aH.length-j/\j<=S.aH.length/\qs=(wL S item S.aD.length).map (·.q)++(tL S item j).map (·.eU)/\vs=(wL S item S.aD.length).map (·.v)++(tL S item j).map (·.value)/\ps=(wL S item S.aD.length).map (·.p)++(tL S item j).map (·.bY)/\qs.length=k/\vs.length=k/\ps.length=k/\k<=S.aD.length+j/\∃mm,@dZ dK dN A w0 a0 mm w a (f2 item k S.aD.length (j:Int)) (eB (kB S (aA qs) (aA vs) (aA ps) (aA ds)))) ?_ (n:=S.aH.length) ⟨0,S.aD.length,_,_,_,rfl,a0j _,rfl,rfl,rfl,by simp[wL,tL],by simp[wL,tL],by simp[wL,tL],by omega,_,by simpa[tL]using b⟩;rintro n a w ⟨j,k,qs,vs,ps,rfl,L,e,c,f,l,h,m,K,mm,b⟩;rcases(by omega:j=S.aH.length\/j<S.aH.length)with D|C
 .subst D
  have e:qs=RX S item:=e;have c:vs=RW S item:=c;have f:ps=RY S item:=f;rw[<-e,<-c,<-f]at x;refine z.go (ev1 _ [item,(S.weights.length:Int),(S.aD.length:Int),(S.aH.length:Int),(k:Int)] (vT S []) (sT S [aA qs,aA vs,aA ps,aA ds]) .nil) (xK kn) b ?_;intro mm w a b;exact x k mm w a (by omega) l h m b
 .clear x
  obtain⟨g,s⟩:∃g,S.aH[j]?=some g:=⟨_,a0d C⟩;have y:S.aH[(j:Int).toNat]?=some ⟨g.src,g.dst,g.item,g.eU,g.value,g.bY⟩:=by simpa using s
  obtain⟨-,-,b3,-⟩:=G.OA g (a0a s);have hs:=acN (item:=item) s;rcases(by omega:g.item=item\/g.item<item\/item<g.item)with r|r|r
  .rw[if_pos r]at hs
   refine B.go (ev1 _ [item,(S.weights.length:Int),(S.aD.length:Int),(S.aH.length:Int),(k:Int),(j:Int),g.item] (vT S [.I g.src,.I g.dst,.I g.eU,.I g.value,.I g.bY]) (sT S [aA qs,aA vs,aA ps,aA ds]) (.d (aT y) .nil)) (xK kn) b (fd:=f2 item (1+(k:Int)).toNat S.aD.length (1+(j:Int))) (bd:=kB S (aA qs++[[.i g.eU]]) (aA vs++[[.i g.value]]) (aA ps++[[.i g.bY]]) (aA ds)) ?_;intro mm w a b;rw[show(1+(j:Int))=((j+1:Nat):Int)by omega,show(1+(k:Int))=((k+1:Nat):Int)by omega,a0w,eY,eY,eY]at b;refine⟨_,by omega,j+1,k+1,_,_,_,rfl,by omega,?_,?_,?_,by simp;omega,by simp;omega,by simp;omega,by omega,mm,b⟩
   .rw[hs,e];simp
   .rw[hs,c];simp
   .rw[hs,f];simp
  all_goals rw[if_neg (by omega),a1i]at hs
  .refine t.go (ev1 _ [item,(S.weights.length:Int),(S.aD.length:Int),(S.aH.length:Int),(k:Int),(j:Int),g.item] (vT S [.I g.src,.I g.dst,.I g.eU,.I g.value,.I g.bY]) (sT S [aA qs,aA vs,aA ps,aA ds]) (.d (aT y) .nil)) (xK kn) b (fd:=f2 item k S.aD.length (1+(j:Int))) (bd:=kB S (aA qs) (aA vs) (aA ps) (aA ds)) ?_
   intro mm w a b;rw[show(1+(j:Int))=((j+1:Nat):Int)by omega]at b;exact⟨_,by omega,j+1,k,qs,vs,ps,rfl,by omega,by rw[hs];exact e,by rw[hs];exact c,by rw[hs];exact f,l,h,m,by omega,mm,b⟩
  .refine u.go (ev1 _ [item,(S.weights.length:Int),(S.aD.length:Int),(S.aH.length:Int),(k:Int),(j:Int),g.item] (vT S [.I g.src,.I g.dst,.I g.eU,.I g.value,.I g.bY]) (sT S [aA qs,aA vs,aA ps,aA ds]) (.d (aT y) .nil)) (xK kn) b (fd:=f2 item k S.aD.length (1+(j:Int))) (bd:=kB S (aA qs) (aA vs) (aA ps) (aA ds)) ?_
   intro mm w a b;rw[show(1+(j:Int))=((j+1:Nat):Int)by omega]at b;exact⟨_,by omega,j+1,k,qs,vs,ps,rfl,by omega,by rw[hs];exact e,by rw[hs];exact c,by rw[hs];exact f,l,h,m,by omega,mm,b⟩
def aD {l:Option (RT Out)} (F:amd (aW o)) (E:amc (aW o)) (s:abg o l) (G:Gn S) (y:0<=item/\item<S.weights.length) {Φ:iO}
  (m:∀mm w a,@dZ dK dN A w0 a0 mm w a (f2 item S.aD.length S.aD.length 0) (eB (kB S (aA ((wL S item S.aD.length).map (·.q))) (aA ((wL S item S.aD.length).map (·.v))) (aA ((wL S item S.aD.length).map (·.p))) (aA (CN S item))))->(Code.loop (aW l)).wpIn (fw none) 9 Tryz.prog (KS Tryz.prog (oK l) Φ) a w)
  (mm:Nat->St) (w:World) (a:Act) (c:@dZ dK dN A w0 a0 mm w a (f1 item 0 0) (eB (kB S [] [] [] []))):(Code.loop (aW o)).wpIn (fw none) 9 Tryz.prog (KS Tryz.prog (oK o) Φ) a w:=by
 have R:=G.hw;have M:=G.hn;have L:=G.yP;refine cN (fun n a w=>∃(j:Nat) (qs vs ps ds:List Int),n=S.aD.length-j/\j<=S.aD.length/\qs=(wL S item j).map (·.q)/\vs=(wL S item j).map (·.v)/\ps=(wL S item j).map (·.p)/\ds=(S.aD.take j).map (fun x=>x.down.getD item.toNat 0)/\∃mm,@dZ dK dN A w0 a0 mm w a (f1 item j (j:Int)) (eB (kB S (aA qs) (aA vs) (aA ps) (aA ds)))) ?_ (n:=S.aD.length) ⟨0,[],[],[],[],rfl,a0j _,rfl,rfl,rfl,rfl,_,c⟩;rintro n a w ⟨j,qs,vs,ps,ds,rfl,T,g,f,h,b,mm,c⟩;have O:qs.length=j:=by rw[g];simp[wL]
 have N:vs.length=j:=by rw[f];simp[wL]
 have P:ps.length=j:=by rw[h];simp[wL]
 have Q:ds.length=j:=by rw[b];simp;omega
 rcases(by omega:j=S.aD.length\/j<S.aD.length)with u|t
 .subst u
  rw[a04]at b;have b:ds=CN S item:=b;rw[<-g,<-f,<-h,<-b]at m;clear g f h b;refine E.go (ev1 _ [item,(S.weights.length:Int),(S.aD.length:Int),(S.aH.length:Int)] (vT S []) (sT S [aA qs,aA vs,aA ps,aA ds]) .nil) (xK kn) c ?_;intro mm w a c;exact s.go (ev1 _ [item,(S.weights.length:Int),(S.aD.length:Int),(S.aH.length:Int)] (vT S []) (sT S [aA qs,aA vs,aA ps,aA ds]) .nil) (xK kn) c (fd:=f2 item S.aD.length S.aD.length 0) (bd:=kB S (aA qs) (aA vs) (aA ps) (aA ds)) m
 .clear m
  obtain⟨x,k⟩:∃x,S.aD[j]?=some x:=⟨_,a0d t⟩;have H:S.aD[(j:Int).toNat]?=some ⟨⟨x.now,x.closed,x.bH,x.cU,x.aM,x.aZ,x.down⟩,x.ahead⟩:=by simpa using k
  have z:=(G.aJ j x k).dl;have J:x.down[item.toNat]?=some (x.down.getD item.toNat 0):=getD_some (by rw[z];omega);have B:(S.aD.take (j+1)).map (fun x=>x.down.getD item.toNat 0)=ds++[x.down.getD item.toNat 0]:=by rw[a0n,k,b];simp
  generalize x.down.getD item.toNat 0=C at *;have D:=uX G.toStOk (e:=(j:Int)) (item:=item) ⟨by omega,by omega,y.1,y.2⟩;have hs:=acC S item j;obtain⟨⟨q0,r,p0⟩,K⟩:∃x,x=(bZ S (j:Int) item).1:=⟨_,rfl⟩;rw[<-K]at D hs;refine F.go (ev1 _ [item,(S.weights.length:Int),(S.aD.length:Int),(S.aH.length:Int),(j:Int)] (vT S [.I q0,.I r,.I p0,.I x.now,.bool x.closed,.I C]) (sT S [aA qs,aA vs,aA ps,aA ds,bP x.bH,aA x.cU,bM x.aM,aA x.aZ,aA x.down,bW x.ahead]) (.d (rK H) (.d (aI J) .nil))) (xK (kc D kn)) c (fd:=f1 item (1+(j:Int)).toNat (1+(j:Int))) (bd:=kB S (aA qs++[[.i q0]]) (aA vs++[[.i r]]) (aA ps++[[.i p0]]) (aA ds++[[.i C]])) ?_;intro mm w a c;rw[show(1+(j:Int))=((j+1:Nat):Int)by omega,a0w,eY,eY,eY,eY]at c;refine⟨_,by omega,j+1,_,_,_,_,rfl,by omega,?_,?_,?_,B.symm,mm,c⟩
  .rw[hs,g];simp
  .rw[hs,f];simp
  .rw[hs,h];simp
end
def walk (oA b:Option (RT Out)) (B:ame body oA) (z:amd (aW oA)) (y:amc (aW oA)) (n:abg oA b) (m:ag1 (aW b)) (f:adk (aW b)) (g:adl (aW b)) (l:ag0 (aW b)) (x:amb b)
  {S:bK} {item:Int} (G:Gn S) (h:0<=item/\item<S.weights.length) {q0 j p0 r:Int}
  (v:Ck 44 [.any,.lit 1 (aA (RX S item))] (.i q0)) (u:Ck 44 [.any,.lit 1 (aA (RW S item))] (.i j)) (t:Ck 44 [.any,.lit 1 (aA (RY S item))] (.i p0)) (s:Ck 44 [.any,.lit 1 (aA (CN S item))] (.i r)) :
  Ck 41 [.any,S.av,.i item] (.agg [.i q0,.i j,.i p0,.i r]):=by
 have F:=G.hw;have E:=G.hn;have D:=G.yP;refine CK.fP Tryz.func41 (c:=body) (by kernel_rfl) (yO.out) (uD.out) fun A w0 a0=>?_
 intro mm w a d;rw[Tryz.ntmps41]at d;refine B.go (ev1 _ [item,(S.weights.length:Int),(S.aD.length:Int),(S.aH.length:Int)] (vT S []) (sT S []) .nil) (xK kn) d (fd:=f1 item 0 0) (bd:=kB S [] [] [] []) ?_;have e:(CN S item).length=S.aD.length:=by simp[CN]
 refine aD z y n G h ?_;refine trans m f g l G h e ?_;intro k mm w a C p o q d;exact fin x G h C p o q e v u t s mm w a d
end KS
def IV {S:bK} {item:Int} (G:Gn S) (e:0<=item/\item<S.weights.length) (g:dW (RX S item)=0) (f:dW (RW S item)=0) (h:dW (RY S item)=0) (j:dW (CN S item)=0)
  (b:eW (RX S item)) (a:eW (RW S item)) (c:eW (RY S item)) (d:eW (CN S item)) :
  Ck 41 [.any,S.av,.i item] (.agg [.i (dJ (RX S item)),.i (dJ (RW S item)),.i (dJ (RY S item)),.i (dJ (CN S item))]) :=
 KS.walk KS.Tc KS.aaN KS.aoJ .of .of KS.ani .of .of .of .of .of G e (mU b g) (mU a f) (mU c h) (mU d j)
end
section
open Mc
variable {o:Option (RT Out)} {S:bK} {Φ:iO}
namespace GF
abbrev cFn:AV:=.c (.func (.func 74) #[] #[])
abbrev gtF (l p n i:AV):List AV:=fr 28 [(1,.fn (.func 74) [] []),(4,.i 0),(5,.i 0),(6,p),(9,l),(10,n),(11,i)]
abbrev gtC (l p n i:AV):List AV:=fr 28 [(1,cFn),(4,.i 0),(5,.i 0),(6,p),(9,l),(10,n),(11,i)]
noncomputable def body:Code:=(Tryz.f73).body.getD .skip
abbrev amq (c:Code) (r:Option (RT Out)):Prop:=nV { vars:=[(0,40)],lens:=KgN } c ([.q 6 0,(.fn (.func 74) [] [])]++List.replicate 26 .undef) [] [none] (gtF (.q 6 0) (.own 3 1 0 0 0) (.v 0) (.i 0)) [KgO] r
noncomputable def alR:Option (RT Out):=uL { vars:=[(0,40)],lens:=KgN } body ([.q 6 0,(.fn (.func 74) [] [])]++List.replicate 26 .undef:List AV).length ([.q 6 0,(.fn (.func 74) [] [])]++List.replicate 26 .undef) [] 0
def aoO:amq body alR:=⟨rfl,by decide +kernel,by decide +kernel⟩
abbrev ahe (o:Option (RT Out)):Prop:=iU { vars:=[(0,40)],lens:=Kdb,bR:=[(72,[.q 1 1],(.bG [.o 0,.o 1]))] } Tryz.f73 o 0 (gtF (.q 6 0) Kff (.v 0) (.v 0)) Kdc ((.bG [.o 0,.o 1]))
def fin (c:ahe o) {l:List Fh} {ps:List Int} {sv b:Int} (g:l.length<=40) (f:ps.length=l.length) {A:Nat->Prop} {w0:World} {a0:Act} {mm:Nat->St} {w:World} {a:Act} (e:Ck 72 [.lit 1 (aA ps)] (.bG [.i sv,.i b]))
  (d:@dZ dK dN A w0 a0 mm w a (gtC (.lit 6 (fM l)) (.own 3 1 0 0 l.length) (.i (l.length:Int)) (.i (l.length:Int))) (eB [.cells 3 1 (aA ps)])):KS Tryz.prog (oK o) (Fin Tryz.prog Tryz.f73 A w0 a0 (.bG [.i sv,.i b])) (AX.exit 0).to a w :=
 c.go (ev1 _ [(l.length:Int)] [.I sv,.I b] [fM l,aA ps] .nil) (xK (kc e kn)) d
def walk (oA:Option (RT Out)) (t:amq body oA) (s:dD { vars:=[(0,40),(0,39)],facts:=[Kd9],lens:=Kc8,gI:=[(0,[([1],1)],[.o 0,.o 1,.o 2,.o 3,.o 4,.o 5])] } (aW oA) (gtF (.q 6 0) (.cZ 3 1 0 [([1],1)]) (.v 0) (.v 1)) [(.sc 3 1 1 [] [] [([1],1)])] 0 [some 4] (gtF (.q 6 0) (.cZ 3 1 0 KgB) (.v 0) Kfz) [(.sc 3 1 1 [] [[.o 5]] KgB)]) (r:dD { vars:=[(0,40)],lens:=Kdb } (aW oA) (gtF (.q 6 0) Kff (.v 0) (.v 0)) Kdc 2 [some 0] (gtF (.q 6 0) Kff (.v 0) (.v 0)) Kdc) (p:ahe oA) {l:List Fh} (u:l.length<=40) (h:eW (l.map (·.bY))) :
  Ck 73 [.lit 6 (fM l),cFn] (.bG [.i (dJ (l.map (·.bY))),.i (dW (l.map (·.bY)))]):=by
 refine CK.fP Tryz.func73 (c:=body) (by kernel_rfl) (yO.out) (uD.out) fun A w0 a0=>?_;intro mm w a b;rw[Tryz.ntmps73]at b;refine t.go (ev1 _ [(l.length:Int)] [] [fM l] .nil) (xK kn) b (fd:=gtC (.lit 6 (fM l)) (.own 3 1 0 0 0) (.i (l.length:Int)) (.i 0)) (bd:=[.cells 3 1 []]) ?_;intro mm w a b;refine cN (fun n a w=>∃(j:Nat) (ps:List Int),n=l.length-j/\j<=l.length/\ps=(l.take j).map (·.bY)/\∃mm,@dZ dK dN A w0 a0 mm w a (gtC (.lit 6 (fM l)) (.own 3 1 0 0 j) (.i (l.length:Int)) (.i (j:Int))) (eB [.cells 3 1 (aA ps)])) ?_ (n:=l.length) ⟨0,[],rfl,a0j _,rfl,_,b⟩;rintro n a w ⟨j,ps,rfl,B,e,mm,b⟩;have m:ps.length=j:=by rw[e];simp;omega
 rcases(by omega:j=l.length\/j<l.length)with rfl|k
 .rw[a04]at e
  rw[<-e]at h |-;have y:=qZ ps h;clear e h;generalize dJ ps=sv at *;generalize dW ps=z at *;refine r.go (ev1 _ [(l.length:Int)] [] [fM l,aA ps] .nil) (xK kn) b ?_;intro mm w a b;exact fin p u m y b
 .obtain⟨g,f⟩:∃g,l[j]?=some g:=⟨_,a0d k⟩
  have x:l[(j:Int).toNat]?=some ⟨g.src,g.dst,g.item,g.eU,g.value,g.bY⟩:=by simpa using f
  refine s.go (ev1 _ [(l.length:Int),(j:Int)] [.I g.src,.I g.dst,.I g.item,.I g.eU,.I g.value,.I g.bY] [fM l,aA ps] (.d (aT x) .nil)) (xK kn) b (fd:=gtC (.lit 6 (fM l)) (.own 3 1 0 0 (1+(j:Int)).toNat) (.i (l.length:Int)) (.i (1+(j:Int)))) (bd:=[.cells 3 1 (aA ps++[[.i g.bY]])]) ?_;intro mm w a b;rw[show(1+(j:Int))=((j+1:Nat):Int)by omega,a0w,eY]at b;exact⟨_,by omega,j+1,_,rfl,by omega,by rw[a0n,f,e];simp,mm,b⟩
end GF
def an7 {l:List Fh} (a:l.length<=40) (b:eW (l.map (·.bY))):Ck 73 [.lit 6 (fM l),GF.cFn] (.bG [.i (dJ (l.map (·.bY))),.i (dW (l.map (·.bY)))]) :=
 GF.walk GF.alR GF.aoO .of .of .of a b
def ad1 {a:Int} (G:Gn S) (D:S.aD.length=2\/S.aD.length=3) (K:0<=a/\a<=16) (F:dW (xU S a)=0):Ck 36 [S.av,.i a] (.bG [.i (dJ (xU S a)),.i 0]):=by
 have h:∀{x:dL} {e:Nat},S.aD[e]?=some x->x.cU.length=17/\x.cU[a.toNat]?=some (x.cU.getD a.toNat 0):=fun{x e} p=>by
  have j:=(G.aJ e x p).bl;exact⟨j,getD_some (by rw[j];omega)⟩
 have B:eW (xU S a):=by
  intro v C;obtain⟨x,p,rfl⟩:=a0l.1 C;obtain⟨e,u⟩:=a1j.1 p;have:=(G.aJ e x u).bb _ (a0a (h u).2);exact⟨by omega,by omega⟩
 have n:=qZ _ B;rw[F]at n;generalize dJ (xU S a)=d at *;rcases R9 G D with⟨c,b,g⟩|⟨c,b,f,g⟩
 .have m:S.aD[0]?=some c:=by rw[g];rfl
  have j:S.aD[1]?=some b:=by rw[g];rfl
  have E:S.aD.length=2:=by rw[g];rfl
  obtain⟨A,l⟩:=h m;obtain⟨z,k⟩:=h j;have r:xU S a=[c.cU.getD a.toNat 0,b.cU.getD a.toNat 0]:=by unfold xU;rw[g];rfl
  rw[r]at n;generalize c.cU.getD a.toNat 0=t at *;generalize b.cU.getD a.toNat 0=s at *;exact cw _ (ev1 { vars:=[(0,16),(2,2)],lens:=[Khl,Khk,(14,[([],17)])],gI:=[(0,[],W9),(8,[([0],1)],[.o 5]),Vv,(14,[([0],1)],[.o 8])],bR:=H9 } [a,(S.aD.length:Int)] (vT S [.I c.now,.bool c.closed,.I t,.I b.now,.bool b.closed,.I s,.I d]) (sT S [bP c.bH,aA c.cU,bM c.aM,aA c.aZ,aA c.down,bW c.ahead,bP b.bH,aA b.cU,bM b.aM,aA b.aZ,aA b.down,bW b.ahead]) (.d (rK m) (.d (aI l) (.d (rK j) (.d (aI k) .nil))))) Kdx Kga (kc n kn)
 .have m:S.aD[0]?=some c:=by rw[g];rfl
  have j:S.aD[1]?=some b:=by rw[g];rfl
  have y:S.aD[2]?=some f:=by rw[g];rfl
  have E:S.aD.length=3:=by rw[g];rfl
  obtain⟨A,l⟩:=h m;obtain⟨z,k⟩:=h j;obtain⟨J,w⟩:=h y;have r:xU S a=[c.cU.getD a.toNat 0,b.cU.getD a.toNat 0,f.cU.getD a.toNat 0]:=by unfold xU;rw[g];rfl
  rw[r]at n;generalize c.cU.getD a.toNat 0=t at *;generalize b.cU.getD a.toNat 0=s at *;generalize f.cU.getD a.toNat 0=H at *;exact cw _ (ev1 { vars:=[(0,16),(3,3)],lens:=[Khl,Khk,(14,[([],17)]),(20,[([],17)])],gI:=[(0,[],W9),(8,[([0],1)],[.o 5]),Vv,(14,[([0],1)],[.o 8]),(0,[([],2)],[.o 9,.o 10,.q 4 19,.q 1 20,.q 11 21,.q 1 22,.q 1 23,.q 8 24]),(20,[([0],1)],[.o 11])],bR:=WJ } [a,(S.aD.length:Int)] (vT S [.I c.now,.bool c.closed,.I t,.I b.now,.bool b.closed,.I s,.I f.now,.bool f.closed,.I H,.I d]) (sT S [bP c.bH,aA c.cU,bM c.aM,aA c.aZ,aA c.down,bW c.ahead,bP b.bH,aA b.cU,bM b.aM,aA b.aZ,aA b.down,bW b.ahead,bP f.bH,aA f.cU,bM f.aM,aA f.aZ,aA f.down,bW f.ahead]) (.d (rK m) (.d (aI l) (.d (rK j) (.d (aI k) (.d (rK y) (.d (aI w) .nil))))))) Kdx (.bG [.o 12,.i 0]) (kc n kn)
def Pq (G:Gn S) (p:S.aD.length=2\/S.aD.length=3) (r:∀x∈S.aD,x.closed=true) :
  (Ck 33 [S.av] (.i 0)/\∀x∈S.aD,∀y∈S.aD,x.now=y.now)\/(Ck 33 [S.av] (.i 9)/\∃x∈S.aD,∃y∈S.aD,x.now≠y.now):=by
 have m:∀{x:dL} {e:Nat},S.aD[e]?=some x->(1<=x.now/\x.now<=12)/\S.aD[e]?=some ⟨⟨x.now,true,x.bH,x.cU,x.aM,x.aZ,x.down⟩,x.ahead⟩:=fun{x e} k=>by
  have j:=(G.aJ e x k).now;have n:=r x (a0a k);refine⟨j,?_⟩;rw[k,<-n]
 rcases R9 G p with⟨a,b,f⟩|⟨a,b,c,f⟩
 .obtain⟨b0,l⟩:=m (x:=a) (e:=0) (by rw[f];rfl)
  obtain⟨b1,j⟩:=m (x:=b) (e:=1) (by rw[f];rfl);have q:S.aD.length=2:=by rw[f];rfl
  rcases(by omega:b.now=a.now\/b.now<a.now\/a.now<b.now)with h|h|h
  .refine .inl ⟨?_,?_⟩
   .exact cw _ (ev1 { vars:=KfH,facts:=[Keu],lens:=KgQ,gI:=[(0,[],VR),Yn] } [a.now,b.now,(S.aD.length:Int)] (vT S []) (sT S [bP a.bH,aA a.cU,bM a.aM,aA a.aZ,aA a.down,bW a.ahead,bP b.bH,aA b.cU,bM b.aM,aA b.aZ,aA b.down,bW b.ahead]) (.d (rK l) (.d (rK j) .nil))) Kfv (.i 0) kn
   .rw[f];intro x k y o
    simp only[a0c,a0b,or_false]at k o;rcases k with rfl|rfl<;>rcases o with rfl|rfl<;>omega
  .exact .inr ⟨cw _ (ev1 { vars:=KfH,facts:=[(Kgd,-20,-1)],lens:=KgQ,gI:=[(0,[],VR),Yn] } [a.now,b.now,(S.aD.length:Int)] (vT S []) (sT S [bP a.bH,aA a.cU,bM a.aM,aA a.aZ,aA a.down,bW a.ahead,bP b.bH,aA b.cU,bM b.aM,aA b.aZ,aA b.down,bW b.ahead]) (.d (rK l) (.d (rK j) .nil))) Kfv (.i 9) kn,a,by rw[f];simp,b,by rw[f];simp,by omega⟩
  .exact .inr ⟨cw _ (ev1 { vars:=KfH,facts:=[(Kgd,1,20)],lens:=KgQ,gI:=[(0,[],VR),Yn] } [a.now,b.now,(S.aD.length:Int)] (vT S []) (sT S [bP a.bH,aA a.cU,bM a.aM,aA a.aZ,aA a.down,bW a.ahead,bP b.bH,aA b.cU,bM b.aM,aA b.aZ,aA b.down,bW b.ahead]) (.d (rK l) (.d (rK j) .nil))) Kfv (.i 9) kn,a,by rw[f];simp,b,by rw[f];simp,by omega⟩
 .obtain⟨b0,l⟩:=m (x:=a) (e:=0) (by rw[f];rfl)
  obtain⟨b1,j⟩:=m (x:=b) (e:=1) (by rw[f];rfl);obtain⟨b2,n⟩:=m (x:=c) (e:=2) (by rw[f];rfl);have q:S.aD.length=3:=by rw[f];rfl
  rcases(by omega:b.now<a.now\/a.now<b.now\/b.now=a.now/\(c.now=a.now\/c.now<a.now\/a.now<c.now))with h|h|⟨h,g|g|g⟩
  .exact .inr ⟨cw _ (ev1 { vars:=Kdl,facts:=[(Kgd,-20,-1)],lens:=KgR,gI:=[(0,[],VR),Yn,Yo] } [a.now,b.now,c.now,(S.aD.length:Int)] (vT S []) (sT S [bP a.bH,aA a.cU,bM a.aM,aA a.aZ,aA a.down,bW a.ahead,bP b.bH,aA b.cU,bM b.aM,aA b.aZ,aA b.down,bW b.ahead,bP c.bH,aA c.cU,bM c.aM,aA c.aZ,aA c.down,bW c.ahead]) (.d (rK l) (.d (rK j) (.d (rK n) .nil)))) Kfv (.i 9) kn,a,by rw[f];simp,b,by rw[f];simp,by omega⟩
  .exact .inr ⟨cw _ (ev1 { vars:=Kdl,facts:=[(Kgd,1,20)],lens:=KgR,gI:=[(0,[],VR),Yn,Yo] } [a.now,b.now,c.now,(S.aD.length:Int)] (vT S []) (sT S [bP a.bH,aA a.cU,bM a.aM,aA a.aZ,aA a.down,bW a.ahead,bP b.bH,aA b.cU,bM b.aM,aA b.aZ,aA b.down,bW b.ahead,bP c.bH,aA c.cU,bM c.aM,aA c.aZ,aA c.down,bW c.ahead]) (.d (rK l) (.d (rK j) (.d (rK n) .nil)))) Kfv (.i 9) kn,a,by rw[f];simp,b,by rw[f];simp,by omega⟩
  .refine .inl ⟨?_,?_⟩
   .exact cw _ (ev1 { vars:=Kdl,facts:=[Keu,([([0],-1),([2],1)],0,0)],lens:=KgR,gI:=[(0,[],VR),Yn,Yo] } [a.now,b.now,c.now,(S.aD.length:Int)] (vT S []) (sT S [bP a.bH,aA a.cU,bM a.aM,aA a.aZ,aA a.down,bW a.ahead,bP b.bH,aA b.cU,bM b.aM,aA b.aZ,aA b.down,bW b.ahead,bP c.bH,aA c.cU,bM c.aM,aA c.aZ,aA c.down,bW c.ahead]) (.d (rK l) (.d (rK j) (.d (rK n) .nil)))) Kfv (.i 0) kn
   .rw[f];intro x k y o
    simp only[a0c,a0b,or_false]at k o;rcases k with rfl|rfl|rfl<;>rcases o with rfl|rfl|rfl<;>omega
  .exact .inr ⟨cw _ (ev1 { vars:=Kdl,facts:=[Keu,([([0],-1),([2],1)],-20,-1)],lens:=KgR,gI:=[(0,[],VR),Yn,Yo] } [a.now,b.now,c.now,(S.aD.length:Int)] (vT S []) (sT S [bP a.bH,aA a.cU,bM a.aM,aA a.aZ,aA a.down,bW a.ahead,bP b.bH,aA b.cU,bM b.aM,aA b.aZ,aA b.down,bW b.ahead,bP c.bH,aA c.cU,bM c.aM,aA c.aZ,aA c.down,bW c.ahead]) (.d (rK l) (.d (rK j) (.d (rK n) .nil)))) Kfv (.i 9) kn,a,by rw[f];simp,c,by rw[f];simp,by omega⟩
  .exact .inr ⟨cw _ (ev1 { vars:=Kdl,facts:=[Keu,([([0],-1),([2],1)],1,20)],lens:=KgR,gI:=[(0,[],VR),Yn,Yo] } [a.now,b.now,c.now,(S.aD.length:Int)] (vT S []) (sT S [bP a.bH,aA a.cU,bM a.aM,aA a.aZ,aA a.down,bW a.ahead,bP b.bH,aA b.cU,bM b.aM,aA b.aZ,aA b.down,bW b.ahead,bP c.bH,aA c.cU,bM c.aM,aA c.aZ,aA c.down,bW c.ahead]) (.d (rK l) (.d (rK j) (.d (rK n) .nil)))) Kfv (.i 9) kn,a,by rw[f];simp,c,by rw[f];simp,by omega⟩
def ppR (S:bK) (e:Int) (i:Nat):List Int:=(List.range i).map fun(k:Nat)=>(bZ S e (k:Int)).1.p
def OS (S:bK) (j:Nat):List Int:=(List.range j).flatMap fun(e:Nat)=>ppR S (e:Int) S.weights.length
def MC (S:bK) (j:Nat):OS S (j+1)=OS S j++ppR S (j:Int) S.weights.length:=by simp[OS,a15,List.flatMap_append]
def Tu (S:bK) (e:Int) (i:Nat):ppR S e (i+1)=ppR S e i++[(bZ S e (i:Int)).1.p]:=by simp[ppR,a15]
def Rf (S:bK) (e:Int) (i:Nat):(ppR S e i).length=i:=by simp[ppR]
def Lx (S:bK) (j:Nat):(OS S j).length=j*S.weights.length:=by
 induction j with
 |zero=>simp[OS]
 |succ j a=>rw[MC,a1r,a,Rf,a19]
def PN {l:List Int} (h:eR l<=288230376151711744):dJ l=l.sum/\dW l=0:=by
 have:=mP l 0 (by simp;exact h);rw[a2s]at this;unfold dJ dW;rw[this];simp
namespace GL
abbrev aR:Mc.dC:=.cells 3 1 Kb7
abbrev lF (l i:AV):List AV:=fr 105 [(1,.ptr 10 0 0 0),(2,.emp),(3,.i 0),(4,l),(16,.own 3 1 1 0 4),(17,.i 4),(18,i)]
abbrev Ff (p l n i:AV):List AV:=fr 105 [(1,.ptr 10 0 0 0),(2,.emp),(3,.i 0),(4,.own 44 2 1 0 4),(9,p),(40,l),(41,n),(42,i)]
abbrev NV (p l n i w a j:AV):List AV:=fr 105 [(1,.ptr 10 0 0 0),(2,.emp),(3,.i 0),(4,.own 44 2 1 0 4),(9,p),(10,i),(40,l),(41,n),(42,i),(47,w),(48,a),(49,j)]
abbrev l4 (b0 b1 b2 b3:Int):List (List AV):=[[.i 14,.i (-b0)],[.i 13,.i (-b1)],[.i 15,.i (-b2)],[.i 16,.i (-b3)]]
abbrev lB (S:bK) (L:List (List AV)):List Mc.dC:=[GO.sR S,aR,.cells 44 2 L]
abbrev lB2 (S:bK) (b0 b1 b2 b3:Int) (p:List (List AV)):List Mc.dC:=[GO.sR S,.cells 44 2 (l4 b0 b1 b2 b3),.cells 3 1 p]
abbrev fE (S:bK) (k j:Nat):List AV:=Ff (.own 3 1 2 0 k) (.lit 8 (bD S.aD)) (.i (S.aD.length:Int)) (.i (j:Int))
abbrev fI (S:bK) (k j i:Nat):List AV:=NV (.own 3 1 2 0 k) (.lit 8 (bD S.aD)) (.i (S.aD.length:Int)) (.i (j:Int)) (.lit 1 (aA S.weights)) (.i (S.weights.length:Int)) (.i (i:Int))
noncomputable def body:Code:=(Tryz.f35).body.getD .skip
abbrev aml (c:Code) (r:Option (RT Out)):Prop:=nV { vars:=Jp,lens:=Bh } c (Kfv++List.replicate 104 .undef) [] [some 0,some 1,none] (lF Kgn (.i 0)) JI r
noncomputable def Td:Option (RT Out):=uL { vars:=Jp,lens:=Bh } body (Kfv++List.replicate 104 .undef:List AV).length (Kfv++List.replicate 104 .undef) [] 0
def aoN:aml body Td:=⟨by unfold Td;rfl,by decide +kernel,by decide +kernel⟩
abbrev amp (c:Code):Prop:=dD { vars:=Jp,lens:=Bh,bR:=[(36,[KfT,.i 14],(.bG [.v 3,.i 0]))] } c (lF Kgn (.i 0)) JI 0 [some 0,some 1,some 4] (lF (.own 44 2 2 0 1) (.i 1)) Jl
abbrev amo (c:Code):Prop:=dD { vars:=Jp,lens:=Bh,bR:=[(36,[KfT,.i 13],(.bG [.v 4,.i 0]))] } c (lF (.own 44 2 2 0 1) (.i 1)) Jl 0 [some 0,some 1,some 4] (lF (.own 44 2 2 0 2) (.i 2)) Jd
abbrev amn (c:Code):Prop:=dD { vars:=Jp,lens:=Bh,bR:=[(36,[KfT,.i 15],(.bG [.v 5,.i 0]))] } c (lF (.own 44 2 2 0 2) (.i 2)) Jd 0 [some 0,some 1,some 4] (lF (.own 44 2 2 0 3) (.i 3)) KW
abbrev amm (c:Code):Prop:=dD { vars:=Jp,lens:=Bh,bR:=[(36,[KfT,.i 16],(.bG [.v 6,.i 0]))] } c (lF (.own 44 2 2 0 3) (.i 3)) KW 0 [some 0,some 1,some 4] (lF Kgo (.i 4)) KM
abbrev amk (c:Code):Prop:=dD { vars:=Jp,lens:=Bh } c (lF Kgo (.i 4)) KM 2 [some 0,some 1,some 2] (lF Kgo (.i 4)) KM
abbrev abm (o:Option (RT Out)) (r:Option (RT Out)):Prop:=pJ { vars:=Jp,lens:=Bh } o 0 (lF Kgo (.i 4)) KM [some 0,some 2,none] (Ff Kgy (.q 8 0) (.v 1) (.i 0)) [YH,QZ,KgO] r
noncomputable def Mo:Option (RT Out):=IF { vars:=Jp,lens:=Bh } Td 0 (lF Kgo (.i 4):List AV).length (lF Kgo (.i 4)) KM 3
def ank:abm Td Mo:=⟨by unfold Mo;rfl,by decide +kernel,by decide +kernel⟩
abbrev ahd (c:Code) (r:Option (RT Out)):Prop:=nV { vars:=Jh,facts:=KdV,lens:=Ha } c (Ff Kfj (.q 8 0) (.v 1) (.v 8)) KV [some 0,some 1,some 2] (NV Kfj (.q 8 0) (.v 1) (.v 8) (.q 1 1) (.v 0) (.i 0)) KV r
noncomputable def agf:Option (RT Out):=uL { vars:=Jh,facts:=KdV,lens:=Ha } (aW Mo) (Ff Kfj (.q 8 0) (.v 1) (.v 8):List AV).length (Ff Kfj (.q 8 0) (.v 1) (.v 8)) KV 3
def aoM:ahd (aW Mo) agf:=⟨by unfold agf;rfl,by decide +kernel,by decide +kernel⟩
abbrev abl (c:Code):Prop:=dD { vars:=[(1,5),(0,4),(0,40),KaY,KaY,KaY,KaY,(0,20),(0,3),(0,4)],facts:=[([([1],1),([8],-1)],1,4),([([0],1),([9],-1)],1,5)],lens:=Ha,bR:=[(69,[KfT,.v 8,.v 9],(.agg [.o 4,.o 5,.o 3]))] } c (NV Kfj (.q 8 0) (.v 1) (.v 8) (.q 1 1) (.v 0) (.v 9)) KV 0 [some 0,some 1,some 4] (NV (.cZ 3 1 2 [([],1),([7],1)]) (.q 8 0) (.v 1) (.v 8) (.q 1 1) (.v 0) (.e KgG)) [YH,QZ,(.sc 3 1 7 [] [[.o 3]] [([],1),([7],1)])]
abbrev abj (c:Code):Prop:=dD { vars:=Jh,facts:=KdV,lens:=Ha } c (NV Kfj (.q 8 0) (.v 1) (.v 8) (.q 1 1) (.v 0) (.v 0)) KV 6 [some 0,some 1,some 2] (NV Kfj (.q 8 0) (.v 1) (.v 8) (.q 1 1) (.v 0) (.v 0)) KV
abbrev abk (o:Option (RT Out)):Prop:=Fa { vars:=Jh,facts:=KdV,lens:=Ha } o 4 (NV Kfj (.q 8 0) (.v 1) (.v 8) (.q 1 1) (.v 0) (.v 0)) KV 0 [some 0,some 1,some 2] (Ff Kfj (.q 8 0) (.v 1) (.e [([],1),([8],1)])) KV
abbrev ahc (c:Code):Prop:=dD { vars:=[(1,5),(0,4),(0,40),KaY,KaY,KaY,KaY,(0,20)],lens:=Ha } c (Ff Kfj (.q 8 0) (.v 1) (.v 1)) KV 4 [some 0,some 1,some 2] (Ff Kfj (.q 8 0) (.v 1) (.v 1)) KV
abbrev amj (o:Option (RT Out)):Prop:=iU { vars:=[(1,5),(0,4),(0,40),KaY,KaY,KaY,KaY,(0,20),iK,iK,iK],lens:=Ha,bR:=[(72,[.q 1 7],(.bG [.v 8,.i 0])),(73,[.q 6 6,(.c (.func (.func 74) #[] #[]))],(.bG [.v 9,.i 0])),(72,[(.lit 1 [Kgp,Kgq,Kgr,[KgV],[KgW],[(.e [([9],-1)])]])],(.bG [.v 10,.i 0])),(77,[(.lit 2 [Kfg,Kfh,Kfi,[.i 16,KgV],[.i 0,KgW],[.i 12,(.e [([9],-1)])],[.i 5,(.e [([10],-1)])]])],KfX)] } Tryz.f35 o 2 (Ff Kfj (.q 8 0) (.v 1) (.v 1)) KV (KfX)
end GL
namespace NC
abbrev aF (l i a:AV):List AV:=fr 31 [(0,.any),(2,a),(4,.ptr 10 0 0 0),(6,.i 0),(7,l),(8,i)]
abbrev aB (S:bK) (l:List (List AV)):List Mc.dC:=[GO.sR S,.cells 3 1 l]
abbrev aG (a:Int) (k:Nat) (i:Int):List AV:=aF (.own 3 1 1 0 k) (.i i) (.i a)
noncomputable def body:Code:=(Tryz.f43).body.getD .skip
abbrev al7 (c:Code) (r:Option (RT Out)):Prop:=nV { vars:=Kg5,lens:=KgN } c ([.any,KfT,.v 1]++List.replicate 28 .undef) [] [some 0,none] (aF Kgx (.i 0) (.v 1)) Zn r
noncomputable def agc:Option (RT Out):=uL { vars:=Kg5,lens:=KgN } body ([.any,KfT,.v 1]++List.replicate 28 .undef:List AV).length ([.any,KfT,.v 1]++List.replicate 28 .undef) [] 0
def aoG:al7 body agc:=⟨by unfold agc;rfl,by decide +kernel,by decide +kernel⟩
abbrev al6 (o:Option (RT Out)):Prop:=iU { vars:=Kg5,lens:=[Kg7,Khn],bR:=[(44,[.any,.q 1 7],(.o 3))] } Tryz.f43 o 0 (aF KeT (.v 0) (.v 1)) QS ((.o 3))
section
variable {S:bK} {A:Nat->Prop} {w0:World} {a0:Act} {ac v:Int}
def fin (c:al6 o) (G:Gn S) (h:0<=ac/\ac<=16) {b:List Int} (g:b.length=S.aD.length) (e:Ck 44 [.any,.lit 1 (aA b)] (.i v))
  (mm:Nat->St) (w:World) (a:Act) (d:@dZ dK dN A w0 a0 mm w a (aG ac S.aD.length (S.aD.length:Int)) (eB (aB S (aA b)))):KS Tryz.prog (oK o) (Fin Tryz.prog Tryz.f43 A w0 a0 (.i v)) (AX.exit 0).to a w:=by
 have f:=G.hn;exact c.go (ev1 _ [(S.aD.length:Int),ac] (vT S [.I v]) (sT S [aA b]) .nil) (xK (kc e kn)) d
end
def walk (oA:Option (RT Out)) (z:al7 body oA) (y:dD { vars:=[(0,4),(0,16),(0,3)],facts:=[([([0],1),([2],-1)],1,4)],lens:=[Kg7,Khf,(9,[([],17)])],gI:=[(0,[([2],1)],[.o 3,.o 4,.q 4 8,.q 1 9,.q 11 10,.q 1 11,.q 1 12,.q 8 13]),(9,[([1],1)],[.o 5])] } (aW oA) (aF (.cZ 3 1 1 [([2],1)]) (.v 2) (.v 1)) [YH,KdB] 0 [some 0,some 3] (aF (.cZ 3 1 1 KgF) KfF (.v 1)) [YH,(.sc 3 1 7 [] [[.o 5]] KgF)]) (u:dD { vars:=Kg5,lens:=[Kg7,Khn] } (aW oA) (aF KeT (.v 0) (.v 1)) QS 2 [some 0,some 1] (aF KeT (.v 0) (.v 1)) QS) (t:al6 oA) {ac v:Int} (G:Gn S) (D:0<=ac/\ac<=16) (s:Ck 44 [.any,.lit 1 (aA (xU S ac))] (.i v)) :
  Ck 43 [.any,S.av,.i ac] (.i v):=by
 have E:=G.hn;refine CK.fP Tryz.func43 (c:=body) (by kernel_rfl) (yO.out) (uD.out) fun A w0 a0=>?_
 intro mm w a e;rw[Tryz.ntmps43]at e;refine z.go (ev1 _ [(S.aD.length:Int),ac] (vT S []) (sT S []) .nil) (xK kn) e (fd:=aG ac 0 0) (bd:=aB S []) ?_;intro mm w a e;refine cN (fun n a w=>∃(j:Nat) (f:List Int),n=S.aD.length-j/\j<=S.aD.length/\f=(S.aD.take j).map (fun x=>x.cU.getD ac.toNat 0)/\∃mm,@dZ dK dN A w0 a0 mm w a (aG ac j (j:Int)) (eB (aB S (aA f)))) ?_ (n:=S.aD.length) ⟨0,[],rfl,a0j _,rfl,_,e⟩;rintro n a w ⟨j,f,rfl,F,b,mm,e⟩;have k:f.length=j:=by rw[b];simp;omega
 rcases(by omega:j=S.aD.length\/j<S.aD.length)with l|h
 .subst l
  rw[a04]at b;have b:f=xU S ac:=b;rw[<-b]at s;clear b;refine u.go (ev1 _ [(S.aD.length:Int),ac] (vT S []) (sT S [aA f]) .nil) (xK kn) e ?_;exact fin t G D k s
 .obtain⟨x,g⟩:∃x,S.aD[j]?=some x:=⟨_,a0d h⟩
  have B:S.aD[(j:Int).toNat]?=some ⟨⟨x.now,x.closed,x.bH,x.cU,x.aM,x.aZ,x.down⟩,x.ahead⟩:=by simpa using g
  have p:=(G.aJ j x g).bl;have C:x.cU[ac.toNat]?=some (x.cU.getD ac.toNat 0):=getD_some (by rw[p];omega);have m:(S.aD.take (j+1)).map (fun x=>x.cU.getD ac.toNat 0)=f++[x.cU.getD ac.toNat 0]:=by rw[a0n,g,b];simp
  generalize x.cU.getD ac.toNat 0=r at *;refine y.go (ev1 _ [(S.aD.length:Int),ac,(j:Int)] (vT S [.I x.now,.bool x.closed,.I r]) (sT S [aA f,bP x.bH,aA x.cU,bM x.aM,aA x.aZ,aA x.down,bW x.ahead]) (.d (rK B) (.d (aI C) .nil))) (xK kn) e (fd:=aG ac (1+(j:Int)).toNat (1+(j:Int))) (bd:=aB S (aA f++[[.i r]])) ?_;intro mm w a e;rw[show(1+(j:Int))=((j+1:Nat):Int)by omega,a0w,eY]at e;exact⟨_,by omega,j+1,_,rfl,by omega,m.symm,mm,e⟩
end NC
def On {a:Int} (G:Gn S) (b:0<=a/\a<=16) (d:dW (xU S a)=0) (c:eW (xU S a)):Ck 43 [.any,S.av,.i a] (.i (dJ (xU S a))) :=
 NC.walk NC.agc NC.aoG .of .of .of G b (mU c d)
namespace NP
abbrev pF (p e:AV):List AV:=fr 56 [(0,.any),(3,.ptr 10 0 0 0),(4,.i 0),(5,.i 0),(6,p),(7,.emp),(8,e)]
abbrev pF2 (p e i:AV):List AV:=fr 56 [(0,.any),(3,.ptr 10 0 0 0),(4,.i 0),(5,.i 0),(6,p),(7,.emp),(8,e),(9,i)]
abbrev pF3 (p t i:AV):List AV:=fr 56 [(0,.any),(3,.ptr 10 0 0 0),(4,.i 0),(5,.i 0),(6,p),(7,t),(10,i)]
abbrev g1 (k:Nat) (j:Int):List AV:=pF (.own 3 1 1 0 k) (.i j)
abbrev g2 (k:Nat) (j i:Int):List AV:=pF2 (.own 3 1 1 0 k) (.i j) (.i i)
abbrev g3 (k n:Nat) (i:Int):List AV:=pF3 (.own 3 1 1 0 k) (.own 3 1 2 0 n) (.i i)
abbrev pB (S:bK) (p:List (List AV)):List Mc.dC:=[GO.sR S,.cells 3 1 p]
abbrev pB2 (S:bK) (p t:List (List AV)):List Mc.dC:=[GO.sR S,.cells 3 1 p,.cells 3 1 t]
noncomputable def body:Code:=(Tryz.f42).body.getD .skip
abbrev al3 (c:Code) (r:Option (RT Out)):Prop:=nV { vars:=[(0,4),(1,5),(0,40)],lens:=Bi } c ([.any,KfT]++List.replicate 54 .undef) [] [some 0,none] (pF Kgx (.i 0)) Zn r
noncomputable def Mn:Option (RT Out):=uL { vars:=[(0,4),(1,5),(0,40)],lens:=Bi } body ([.any,KfT]++List.replicate 54 .undef:List AV).length ([.any,KfT]++List.replicate 54 .undef) [] 0
def aoE:al3 body Mn:=⟨by unfold Mn;rfl,by decide +kernel,by decide +kernel⟩
abbrev agJ (c:Code) (r:Option (RT Out)):Prop:=nV { vars:=Kb8,facts:=KdW,lens:=Hb } c (pF Kfk (.v 4)) QT [some 0,some 1] (pF2 Kfk (.v 4) (.i 0)) QT r
noncomputable def agb:Option (RT Out):=uL { vars:=Kb8,facts:=KdW,lens:=Hb } (aW Mn) (pF Kfk (.v 4):List AV).length (pF Kfk (.v 4)) QT 2
def aoD:agJ (aW Mn) agb:=⟨by unfold agb;rfl,by decide +kernel,by decide +kernel⟩
abbrev abc (c:Code):Prop:=dD { vars:=[(0,4),(1,5),(0,40),(0,20),(0,3),(0,4)],facts:=[([([0],1),([4],-1)],1,4),([([1],1),([5],-1)],1,5)],lens:=Hb,bR:=[(52,[KfT,.v 4,.v 5],(.agg [.o 4,.o 5,.o 3]))] } c (pF2 Kfk (.v 4) (.v 5)) QT 0 [some 0,some 3] (pF2 (.cZ 3 1 1 KgE) (.v 4) KfC) [YH,(.sc 3 1 7 [] [[.o 3]] KgE)]
abbrev aba (c:Code):Prop:=dD { vars:=Kb8,facts:=KdW,lens:=Hb } c (pF2 Kfk (.v 4) (.v 1)) QT 4 [some 0,some 1] (pF2 Kfk (.v 4) (.v 1)) QT
abbrev abb (o:Option (RT Out)):Prop:=Fa { vars:=Kb8,facts:=KdW,lens:=Hb } o 2 (pF2 Kfk (.v 4) (.v 1)) QT 0 [some 0,some 1] (pF Kfk KfB) QT
abbrev al2 (c:Code):Prop:=dD { vars:=KdG,lens:=Hb } c (pF Kfk (.v 0)) QT 2 [some 0,some 1] (pF Kfk (.v 0)) QT
abbrev abd (o:Option (RT Out)) (r:Option (RT Out)):Prop:=pJ { vars:=KdG,lens:=Hb } o 0 (pF Kfk (.v 0)) QT [some 0,some 1,none] (pF3 Kfk Kgy (.i 0)) [YH,KdF,KgO] r
noncomputable def aaM:Option (RT Out):=IF { vars:=KdG,lens:=Hb } Mn 0 (pF Kfk (.v 0):List AV).length (pF Kfk (.v 0)) QT 2
def ana:abd Mn aaM:=⟨by unfold aaM;rfl,by decide +kernel,by decide +kernel⟩
abbrev agI (c:Code):Prop:=dD { vars:=[(0,4),(1,5),(0,40),(0,20),(0,39)],facts:=[([([2],1),([4],-1)],1,40)],lens:=[Kg7,Kg9,Khm,(7,[([3],1)]),Khd],gI:=[(6,[([4],1)],[.o 3,.o 4,.o 5,.o 6,.o 7,.o 8])] } c (pF3 Kfk Ke5 (.v 4)) [YH,KdF,Kdz] 0 [some 0,some 1,some 4] (pF3 Kfk KcT KfB) [YH,KdF,(.sc 3 1 8 [] [[.o 8]] KgD)]
abbrev agH (c:Code):Prop:=dD { vars:=KdG,lens:=VJ } c (pF3 Kfk Kfe (.v 2)) JP 6 [some 0,some 1,some 2] (pF3 Kfk Kfe (.v 2)) JP
abbrev agG (o:Option (RT Out)):Prop:=iU { vars:=KdG,lens:=VJ,bR:=[(44,[.any,.q 1 7],(.o 3)),(44,[.any,.q 1 8],(.o 4))] } Tryz.f42 o 4 (pF3 Kfk Kfe (.v 2)) JP ((.bG [.o 3,.o 4]))
section
variable {S:bK} {A:Nat->Prop} {w0:World} {a0:Act} {here mN:Int}
def fin (b:agG o) (G:Gn S) (f:1<=S.weights.length) {ps ts:List Int} {k:Nat} (n:k<=20) (m:ps.length=k) (l:ts.length=S.aH.length) (e:Ck 44 [.any,.lit 1 (aA ps)] (.i here)) (d:Ck 44 [.any,.lit 1 (aA ts)] (.i mN))
  (mm:Nat->St) (w:World) (a:Act) (c:@dZ dK dN A w0 a0 mm w a (g3 k S.aH.length (S.aH.length:Int)) (eB (pB2 S (aA ps) (aA ts)))):KS Tryz.prog (oK o) (Fin Tryz.prog Tryz.f42 A w0 a0 (.bG [.i here,.i mN])) (AX.exit 4).to a w:=by
 have j:=G.hw;have h:=G.hn;have g:=G.yP;exact b.go (ev1 _ [(S.aD.length:Int),(S.weights.length:Int),(S.aH.length:Int),(k:Int)] (vT S [.I here,.I mN]) (sT S [aA ps,aA ts]) .nil) (xK (kc e (kc d kn))) c
def trans (p:agI (aW o)) (m:agH (aW o)) (G:Gn S) (s:1<=S.weights.length) {ps:List Int} {k:Nat} (y:k<=20) (x:ps.length=k)
  (f:∀mm w a,@dZ dK dN A w0 a0 mm w a (g3 k S.aH.length (S.aH.length:Int)) (eB (pB2 S (aA ps) (aA (S.aH.map (·.bY)))))->KS Tryz.prog (oK o) Φ (AX.exit 4).to a w)
  (mm:Nat->St) (w:World) (a:Act) (c:@dZ dK dN A w0 a0 mm w a (g3 k 0 0) (eB (pB2 S (aA ps) []))):(Code.loop (aW o)).wpIn (fw none) 9 Tryz.prog (KS Tryz.prog (oK o) Φ) a w:=by
 have v:=G.hw;have u:=G.hn;have t:=G.yP;refine cN (fun n a w=>∃(j:Nat) (ts:List Int),n=S.aH.length-j/\j<=S.aH.length/\ts=(S.aH.take j).map (·.bY)/\∃mm,@dZ dK dN A w0 a0 mm w a (g3 k j (j:Int)) (eB (pB2 S (aA ps) (aA ts)))) ?_ (n:=S.aH.length) ⟨0,[],rfl,a0j _,rfl,_,c⟩;rintro n a w ⟨j,ts,rfl,z,b,mm,c⟩;have q:ts.length=j:=by rw[b];simp;omega
 rcases(by omega:j=S.aH.length\/j<S.aH.length)with l|h
 .subst l
  rw[a04]at b;rw[<-b]at f;clear b;refine m.go (ev1 _ [(S.aD.length:Int),(S.weights.length:Int),(S.aH.length:Int),(k:Int)] (vT S []) (sT S [aA ps,aA ts]) .nil) (xK kn) c ?_;exact f
 .clear f
  obtain⟨g,e⟩:∃g,S.aH[j]?=some g:=⟨_,a0d h⟩;have r:S.aH[(j:Int).toNat]?=some ⟨g.src,g.dst,g.item,g.eU,g.value,g.bY⟩:=by simpa using e
  refine p.go (ev1 _ [(S.aD.length:Int),(S.weights.length:Int),(S.aH.length:Int),(k:Int),(j:Int)] (vT S [.I g.src,.I g.dst,.I g.item,.I g.eU,.I g.value,.I g.bY]) (sT S [aA ps,aA ts]) (.d (aT r) .nil)) (xK kn) c (fd:=g3 k (1+(j:Int)).toNat (1+(j:Int))) (bd:=pB2 S (aA ps) (aA ts++[[.i g.bY]])) ?_;intro mm w a c;rw[show(1+(j:Int))=((j+1:Nat):Int)by omega,a0w,eY]at c;exact⟨_,by omega,j+1,_,rfl,by omega,by rw[a0n,e,b];simp,mm,c⟩
def items (r:abc (aW o)) (l:aba (aW o)) (m:abb o) (G:Gn S) (u:1<=S.weights.length) {j:Nat} (H:j<S.aD.length) {p0:List Int} {d:Nat} (z:p0.length=d) (E:d+S.weights.length<=20)
  (f:∀mm w a,@dZ dK dN A w0 a0 mm w a (g1 (d+S.weights.length) ((j+1:Nat):Int)) (eB (pB S (aA (p0++ppR S (j:Int) S.weights.length))))->Φ (AX.normal).to a w)
  (mm:Nat->St) (w:World) (a:Act) (b:@dZ dK dN A w0 a0 mm w a (g2 d (j:Int) 0) (eB (pB S (aA p0)))):(Code.loop (aW o)).wpIn (fw none) 9 Tryz.prog (KS Tryz.prog (oK o) Φ) a w:=by
 have F:=G.hw;have B:=G.hn;have y:=G.yP;refine cN (fun n a w=>∃(i k:Nat) (ps:List Int),n=S.weights.length-i/\i<=S.weights.length/\ps=p0++ppR S (j:Int) i/\k=d+i/\∃mm,@dZ dK dN A w0 a0 mm w a (g2 k (j:Int) (i:Int)) (eB (pB S (aA ps)))) ?_ (n:=S.weights.length) ⟨0,d,p0,rfl,a0j _,by simp[ppR],rfl,_,b⟩;rintro n a w ⟨i,k,ps,rfl,J,c,t,mm,b⟩;have D:ps.length=k:=by rw[c,a1r,Rf];omega
 rcases(by omega:i=S.weights.length\/i<S.weights.length)with g|C
 .subst g
  rw[<-c,<-t]at f;clear c;refine l.go (ev1 _ [(S.aD.length:Int),(S.weights.length:Int),(S.aH.length:Int),(k:Int),(j:Int)] (vT S []) (sT S [aA ps]) .nil) (xK kn) b ?_;intro mm w a b;refine m.go (ev1 _ [(S.aD.length:Int),(S.weights.length:Int),(S.aH.length:Int),(k:Int),(j:Int)] (vT S []) (sT S [aA ps]) .nil) (xK kn) b (fd:=g1 k (1+(j:Int))) (bd:=pB S (aA ps)) ?_;intro mm w a b;rw[show(1+(j:Int))=((j+1:Nat):Int)by omega]at b;exact f mm w a b
 .clear f
  have h:=uX G.toStOk (e:=(j:Int)) (item:=(i:Int)) ⟨by omega,by omega,by omega,by omega⟩;have hs:=Tu S (j:Int) i;obtain⟨⟨q,v,p⟩,s⟩:∃x,x=(bZ S (j:Int) (i:Int)).1:=⟨_,rfl⟩;rw[<-s]at h hs;refine r.go (ev1 _ [(S.aD.length:Int),(S.weights.length:Int),(S.aH.length:Int),(k:Int),(j:Int),(i:Int)] (vT S [.I p,.I q,.I v]) (sT S [aA ps]) .nil) (xK (kc h kn)) b (fd:=g2 (1+(k:Int)).toNat (j:Int) (1+(i:Int))) (bd:=pB S (aA ps++[[.i p]])) ?_;intro mm w a b;rw[show(1+(i:Int))=((i+1:Nat):Int)by omega,show(1+(k:Int))=((k+1:Nat):Int)by omega,a0w,eY]at b;exact⟨_,by omega,i+1,k+1,_,rfl,by omega,by rw[hs,c,a3t],by omega,mm,b⟩
def aD {oI f:Option (RT Out)} (t:agJ (aW o) oI) (s:abc (aW oI)) (p:aba (aW oI)) (q:abb oI) (r:al2 (aW o)) (h:abd o f) (G:Gn S) (i:1<=S.weights.length) (B:S.aD.length=2\/S.aD.length=3)
  (g:∀(k:Nat) mm w a,k<=20->(OS S S.aD.length).length=k->@dZ dK dN A w0 a0 mm w a (g3 k 0 0) (eB (pB2 S (aA (OS S S.aD.length)) []))->(Code.loop (aW f)).wpIn (fw none) 9 Tryz.prog (KS Tryz.prog (oK f) Φ) a w)
  (mm:Nat->St) (w:World) (a:Act) (b:@dZ dK dN A w0 a0 mm w a (g1 0 0) (eB (pB S []))):(Code.loop (aW o)).wpIn (fw none) 9 Tryz.prog (KS Tryz.prog (oK o) Φ) a w:=by
 have z:=G.hw;have x:=G.hn;have v:=G.yP;refine cN (fun n a w=>∃(j k:Nat) (ps:List Int),n=S.aD.length-j/\j<=S.aD.length/\ps=OS S j/\k=j*S.weights.length/\∃mm,@dZ dK dN A w0 a0 mm w a (g1 k (j:Int)) (eB (pB S (aA ps)))) ?_ (n:=S.aD.length) ⟨0,0,[],rfl,a0j _,rfl,by simp,_,b⟩;rintro n a w ⟨j,k,ps,rfl,C,c,d,mm,b⟩;have e:ps.length=k:=by rw[c,Lx,d]
 have u:k<=4*S.weights.length:=by rw[d];exact a1a _ (by omega)
 rcases(by omega:j=S.aD.length\/j<S.aD.length)with m|l
 .subst m
  rw[<-c]at g;clear c d;refine r.go (ev1 _ [(S.aD.length:Int),(S.weights.length:Int),(S.aH.length:Int),(k:Int)] (vT S []) (sT S [aA ps]) .nil) (xK kn) b ?_;intro mm w a b;exact h.go (ev1 _ [(S.aD.length:Int),(S.weights.length:Int),(S.aH.length:Int),(k:Int)] (vT S []) (sT S [aA ps]) .nil) (xK kn) b (fd:=g3 k 0 0) (bd:=pB2 S (aA ps) []) fun mm w a b=>g k mm w a (by omega) e b
 .clear g
  have y:k<=3*S.weights.length:=by rw[d];exact a1a _ (by omega)
  have hs:=MC S j;refine t.go (ev1 _ [(S.aD.length:Int),(S.weights.length:Int),(S.aH.length:Int),(k:Int),(j:Int)] (vT S []) (sT S [aA ps]) .nil) (xK kn) b (fd:=g2 k (j:Int) 0) (bd:=pB S (aA ps)) ?_;refine items s p q G i l e (by omega) ?_;intro mm w a b;exact⟨_,by omega,j+1,k+S.weights.length,_,rfl,by omega,by rw[hs,c],by rw[d,a19],mm,b⟩
end
def walk (oA oI b:Option (RT Out)) (s:al3 body oA) (r:agJ (aW oA) oI) (q:abc (aW oI)) (n:aba (aW oI)) (o:abb oI) (p:al2 (aW oA)) (j:abd oA b) (h:agI (aW b)) (g:agH (aW b)) (m:agG b) (G:Gn S) (d:1<=S.weights.length) (t:S.aD.length=2\/S.aD.length=3) {here mN:Int}
  (v:Ck 44 [.any,.lit 1 (aA (OS S S.aD.length))] (.i here)) (u:Ck 44 [.any,.lit 1 (aA (S.aH.map (·.bY)))] (.i mN)):Ck 42 [.any,S.av] (.bG [.i here,.i mN]):=by
 have z:=G.hw;have y:=G.hn;have x:=G.yP;refine CK.fP Tryz.func42 (c:=body) (by kernel_rfl) (yO.out) (uD.out) fun A w0 a0=>?_
 intro mm w a e;rw[Tryz.ntmps42]at e;refine s.go (ev1 _ [(S.aD.length:Int),(S.weights.length:Int),(S.aH.length:Int)] (vT S []) (sT S []) .nil) (xK kn) e (fd:=g1 0 0) (bd:=pB S []) ?_;refine aD r q n o p j G d t ?_;intro k mm w a l f e;exact trans h g G d l f (fin m G d l f (by simp) v u) mm w a e
end NP
def Om (G:Gn S) (a:1<=S.weights.length) (d:S.aD.length=2\/S.aD.length=3) (f:dW (OS S S.aD.length)=0) (c:eW (OS S S.aD.length)) (e:dW (S.aH.map (·.bY))=0) (b:eW (S.aH.map (·.bY))) :
  Ck 42 [.any,S.av] (.bG [.i (dJ (OS S S.aD.length)),.i (dJ (S.aH.map (·.bY)))]) :=
 NP.walk NP.Mn NP.agb NP.aaM NP.aoE NP.aoD .of .of .of .of NP.ana .of .of .of G a d (mU c f) (mU b e)
end
section
open Mc
variable {o:Option (RT Out)} {Φ:iO}
namespace GL
section
variable {S:bK} {A:Nat->Prop} {w0:World} {a0:Act} {b0 b1 b2 b3:Int}
abbrev Bd (b:Int):Prop:=-140737488355328<=b/\b<=140737488355328
def four {c:Option (RT Out)} (r0:amp (aW o)) (r1:amo (aW o)) (r2:amn (aW o)) (k:amm (aW o)) (h:amk (aW o)) (d:abm o c) (G:Gn S) (p:1<=S.weights.length) (v:Bd b0) (h1:Bd b1) (u:Bd b2) (t:Bd b3)
  (g:Ck 36 [S.av,.i 14] (.bG [.i b0,.i 0])) (f:Ck 36 [S.av,.i 13] (.bG [.i b1,.i 0])) (Nr:Ck 36 [S.av,.i 15] (.bG [.i b2,.i 0])) (e:Ck 36 [S.av,.i 16] (.bG [.i b3,.i 0]))
  (l:∀mm w a,@dZ dK dN A w0 a0 mm w a (fE S 0 0) (eB (lB2 S b0 b1 b2 b3 []))->(Code.loop (aW c)).wpIn (fw none) 9 Tryz.prog (KS Tryz.prog (oK c) Φ) a w)
  (mm:Nat->St) (w:World) (a:Act) (b:@dZ dK dN A w0 a0 mm w a (lF Kgn (.i 0)) (eB (lB S []))):(Code.loop (aW o)).wpIn (fw none) 9 Tryz.prog (KS Tryz.prog (oK o) Φ) a w:=by
 have s:=G.hw;have r:=G.hn;have q:=G.yP;refine cN (fun n a w=>∃(j:Nat) (L:List (List AV)),n=4-j/\(j=0/\L=[]\/j=1/\L=(l4 b0 b1 b2 b3).take 1\/j=2/\L=(l4 b0 b1 b2 b3).take 2\/j=3/\L=(l4 b0 b1 b2 b3).take 3\/j=4/\L=l4 b0 b1 b2 b3)/\∃mm,@dZ dK dN A w0 a0 mm w a (lF (.own 44 2 2 0 j) (.i (j:Int))) (eB (lB S L))) ?_ (n:=4) ⟨0,_,rfl,.inl ⟨rfl,rfl⟩,_,b⟩;rintro n a w ⟨j,L,rfl,m,mm,b⟩;rcases m with⟨rfl,rfl⟩|⟨rfl,rfl⟩|⟨rfl,rfl⟩|⟨rfl,rfl⟩|⟨rfl,rfl⟩
 .refine r0.go (ev1 _ [(S.weights.length:Int),(S.aD.length:Int),(S.aH.length:Int),b0,b1,b2,b3] (vT S []) (sT S []) .nil) (xK (kc g kn)) b (fd:=lF (.own 44 2 2 0 1) (.i 1)) (bd:=lB S [[.i 14,.i (-b0)]]) ?_
  exact fun mm w a b=>⟨_,by omega,1,_,rfl,.inr (.inl ⟨rfl,rfl⟩),mm,b⟩
 .refine r1.go (ev1 _ [(S.weights.length:Int),(S.aD.length:Int),(S.aH.length:Int),b0,b1,b2,b3] (vT S []) (sT S []) .nil) (xK (kc f kn)) b (fd:=lF (.own 44 2 2 0 2) (.i 2)) (bd:=lB S [[.i 14,.i (-b0)],[.i 13,.i (-b1)]]) ?_
  exact fun mm w a b=>⟨_,by omega,2,_,rfl,.inr (.inr (.inl ⟨rfl,rfl⟩)),mm,b⟩
 .refine r2.go (ev1 _ [(S.weights.length:Int),(S.aD.length:Int),(S.aH.length:Int),b0,b1,b2,b3] (vT S []) (sT S []) .nil) (xK (kc Nr kn)) b (fd:=lF (.own 44 2 2 0 3) (.i 3)) (bd:=lB S [[.i 14,.i (-b0)],[.i 13,.i (-b1)],[.i 15,.i (-b2)]]) ?_
  exact fun mm w a b=>⟨_,by omega,3,_,rfl,.inr (.inr (.inr (.inl ⟨rfl,rfl⟩))),mm,b⟩
 .refine k.go (ev1 _ [(S.weights.length:Int),(S.aD.length:Int),(S.aH.length:Int),b0,b1,b2,b3] (vT S []) (sT S []) .nil) (xK (kc e kn)) b (fd:=lF Kgo (.i 4)) (bd:=lB S (l4 b0 b1 b2 b3)) ?_
  exact fun mm w a b=>⟨_,by omega,4,_,rfl,.inr (.inr (.inr (.inr ⟨rfl,rfl⟩))),mm,b⟩
 .refine h.go (ev1 _ [(S.weights.length:Int),(S.aD.length:Int),(S.aH.length:Int),b0,b1,b2,b3] (vT S []) (sT S []) .nil) (xK kn) b ?_
  intro mm w a b;exact d.go (ev1 _ [(S.weights.length:Int),(S.aD.length:Int),(S.aH.length:Int),b0,b1,b2,b3] (vT S []) (sT S []) .nil) (xK kn) b (fd:=fE S 0 0) (bd:=lB2 S b0 b1 b2 b3 []) l
def items (r:abl (aW o)) (l:abj (aW o)) (m:abk o) (G:Gn S) (u:1<=S.weights.length) (M:Bd b0) (h1:Bd b1) (L:Bd b2) (K:Bd b3) {j:Nat} (H:j<S.aD.length) {p0:List Int} {c:Nat} (z:p0.length=c) (E:c+S.weights.length<=20)
  (f:∀mm w a,@dZ dK dN A w0 a0 mm w a (fE S (c+S.weights.length) (j+1)) (eB (lB2 S b0 b1 b2 b3 (aA (p0++ppR S (j:Int) S.weights.length))))->Φ (AX.normal).to a w)
  (mm:Nat->St) (w:World) (a:Act) (b:@dZ dK dN A w0 a0 mm w a (fI S c j 0) (eB (lB2 S b0 b1 b2 b3 (aA p0)))):(Code.loop (aW o)).wpIn (fw none) 9 Tryz.prog (KS Tryz.prog (oK o) Φ) a w:=by
 have F:=G.hw;have B:=G.hn;have y:=G.yP;refine cN (fun n a w=>∃(i k:Nat) (ps:List Int),n=S.weights.length-i/\i<=S.weights.length/\ps=p0++ppR S (j:Int) i/\k=c+i/\∃mm,@dZ dK dN A w0 a0 mm w a (fI S k j i) (eB (lB2 S b0 b1 b2 b3 (aA ps)))) ?_ (n:=S.weights.length) ⟨0,c,p0,rfl,a0j _,by simp[ppR],rfl,_,b⟩;rintro n a w ⟨i,k,ps,rfl,J,d,t,mm,b⟩;have D:ps.length=k:=by simp_all[Rf]
 rcases(by omega:i=S.weights.length\/i<S.weights.length)with g|C
 .subst g
  rw[<-d,<-t]at f;clear d;refine l.go (ev1 _ [(S.weights.length:Int),(S.aD.length:Int),(S.aH.length:Int),b0,b1,b2,b3,(k:Int),(j:Int)] (vT S []) (sT S [aA ps]) .nil) (xK kn) b ?_;intro mm w a b;refine m.go (ev1 _ [(S.weights.length:Int),(S.aD.length:Int),(S.aH.length:Int),b0,b1,b2,b3,(k:Int),(j:Int)] (vT S []) (sT S [aA ps]) .nil) (xK kn) b (fd:=Ff (.own 3 1 2 0 k) (.lit 8 (bD S.aD)) (.i (S.aD.length:Int)) (.i (1+(j:Int)))) (bd:=lB2 S b0 b1 b2 b3 (aA ps)) ?_;intro mm w a b;rw[show(1+(j:Int))=((j+1:Nat):Int)by omega]at b;exact f mm w a b
 .clear f
  have h:=XN G.toStOk (e:=(j:Int)) (item:=(i:Int)) ⟨by omega,by omega,by omega,by omega⟩;have hs:=Tu S (j:Int) i;obtain⟨⟨q,v,p⟩,s⟩:∃x,x=(bZ S (j:Int) (i:Int)).1:=⟨_,rfl⟩;rw[<-s]at h hs;refine r.go (ev1 _ [(S.weights.length:Int),(S.aD.length:Int),(S.aH.length:Int),b0,b1,b2,b3,(k:Int),(j:Int),(i:Int)] (vT S [.I p,.I q,.I v]) (sT S [aA ps]) .nil) (xK (kc h kn)) b (fd:=NV (.own 3 1 2 0 (1+(k:Int)).toNat) (.lit 8 (bD S.aD)) (.i (S.aD.length:Int)) (.i (j:Int)) (.lit 1 (aA S.weights)) (.i (S.weights.length:Int)) (.i (1+(i:Int)))) (bd:=lB2 S b0 b1 b2 b3 (aA ps++[[.i p]])) ?_;intro mm w a b;rw[show(1+(i:Int))=((i+1:Nat):Int)by omega,show(1+(k:Int))=((k+1:Nat):Int)by omega,a0w,eY]at b;exact⟨_,by omega,i+1,k+1,_,rfl,by omega,by simp_all,by omega,mm,b⟩
def fin (c:amj o) (G:Gn S) (j:1<=S.weights.length) (x:Bd b0) (h1:Bd b1) (v:Bd b2) (u:Bd b3) {ps:List Int} {k:Nat} (n:ps.length=k) (s:k<=20) {here mN b:Int} (t:Bd here) (p:Bd mN) (r:b=-b0+(-b1+(-b2+(-b3+(-here+-mN))))) {ml:List dE}
  (h:Ck 72 [.lit 1 (aA ps)] (.bG [.i here,.i 0])) (e:Ck 73 [.lit 6 (fM S.aH),GF.cFn] (.bG [.i mN,.i 0])) (f:Ck 72 [.lit 1 (aA [-b0,-b1,-b2,-b3,-here,-mN])] (.bG [.i b,.i 0]))
  (g:Ck 77 [.lit 2 (bS [⟨14,-b0⟩,⟨13,-b1⟩,⟨15,-b2⟩,⟨16,-b3⟩,⟨0,-here⟩,⟨12,-mN⟩,⟨5,-b⟩])] (.bG [.lit 2 (bS ml),.i 0]))
  (mm:Nat->St) (w:World) (a:Act) (d:@dZ dK dN A w0 a0 mm w a (fE S k S.aD.length) (eB (lB2 S b0 b1 b2 b3 (aA ps)))):KS Tryz.prog (oK o) (Fin Tryz.prog Tryz.f35 A w0 a0 (.bG [.lit 2 (bS ml),.i 0])) (AX.exit 2).to a w:=by
 have q:=G.hw;have m:=G.hn;have l:=G.yP;exact c.go (ev1 _ [(S.weights.length:Int),(S.aD.length:Int),(S.aH.length:Int),b0,b1,b2,b3,(k:Int),here,mN,b] (vT S []) (sT S [aA ps,bS ml]) .nil) (xK (kc h (kc e (kc f (kc g kn))))) d
def aD {oI:Option (RT Out)} (r:ahd (aW o) oI) (q:abl (aW oI)) (l:abj (aW oI)) (m:abk oI) (p:ahc (aW o)) (G:Gn S) (f:1<=S.weights.length) (v:Bd b0) (h1:Bd b1) (u:Bd b2) (t:Bd b3)
  (e:∀mm w a,@dZ dK dN A w0 a0 mm w a (fE S (S.aD.length*S.weights.length) S.aD.length) (eB (lB2 S b0 b1 b2 b3 (aA (OS S S.aD.length))))->KS Tryz.prog (oK o) Φ (AX.exit 2).to a w)
  (mm:Nat->St) (w:World) (a:Act) (b:@dZ dK dN A w0 a0 mm w a (fE S 0 0) (eB (lB2 S b0 b1 b2 b3 []))):(Code.loop (aW o)).wpIn (fw none) 9 Tryz.prog (KS Tryz.prog (oK o) Φ) a w:=by
 have B:=G.hw;have y:=G.hn;have x:=G.yP;refine cN (fun n a w=>∃(j k:Nat) (ps:List Int),n=S.aD.length-j/\j<=S.aD.length/\ps=OS S j/\k=j*S.weights.length/\∃mm,@dZ dK dN A w0 a0 mm w a (fE S k j) (eB (lB2 S b0 b1 b2 b3 (aA ps)))) ?_ (n:=S.aD.length) ⟨0,0,[],rfl,a0j _,rfl,by simp,_,b⟩;rintro n a w ⟨j,k,ps,rfl,C,d,c,mm,b⟩;have h:ps.length=k:=by simp_all[Lx]
 have s:k<=4*S.weights.length:=by rw[c];exact a1a _ (by omega)
 rcases(by omega:j=S.aD.length\/j<S.aD.length)with i|g
 .subst i
  rw[<-d,<-c]at e;clear d c;refine p.go (ev1 _ [(S.weights.length:Int),(S.aD.length:Int),(S.aH.length:Int),b0,b1,b2,b3,(k:Int)] (vT S []) (sT S [aA ps]) .nil) (xK kn) b ?_;exact e
 .clear e
  have z:k<=3*S.weights.length:=by rw[c];exact a1a _ (by omega)
  have hs:=MC S j;refine r.go (ev1 _ [(S.weights.length:Int),(S.aD.length:Int),(S.aH.length:Int),b0,b1,b2,b3,(k:Int),(j:Int)] (vT S []) (sT S [aA ps]) .nil) (xK kn) b (fd:=fI S k j 0) (bd:=lB2 S b0 b1 b2 b3 (aA ps)) ?_;refine items q l m G f v h1 u t g h (by omega) ?_;intro mm w a b;exact⟨_,by omega,j+1,k+S.weights.length,_,rfl,by omega,by simp_all,by grind,mm,b⟩
end
def walk (oA d oI:Option (RT Out)) (x:aml body oA) (r0:amp (aW oA)) (r1:amo (aW oA)) (r2:amn (aW oA)) (y:amm (aW oA)) (t:amk (aW oA)) (k:abm oA d) (v:ahd (aW d) oI) (u:abl (aW oI)) (r:abj (aW oI)) (s:abk oI) (j:ahc (aW d)) (q:amj d)
  {S:bK} (G:Gn S) (e:1<=S.weights.length) {b0 b1 b2 b3 here mN b:Int} (h:Bd b0) (h1:Bd b1) (g:Bd b2) (f:Bd b3) (C:Bd here) (z:Bd mN) (B:b=-b0+(-b1+(-b2+(-b3+(-here+-mN))))) {ml:List dE}
  (p:Ck 36 [S.av,.i 14] (.bG [.i b0,.i 0])) (o:Ck 36 [S.av,.i 13] (.bG [.i b1,.i 0])) (Nr:Ck 36 [S.av,.i 15] (.bG [.i b2,.i 0])) (n:Ck 36 [S.av,.i 16] (.bG [.i b3,.i 0]))
  (H:Ck 72 [.lit 1 (aA (OS S S.aD.length))] (.bG [.i here,.i 0])) (D:Ck 73 [.lit 6 (fM S.aH),GF.cFn] (.bG [.i mN,.i 0])) (E:Ck 72 [.lit 1 (aA [-b0,-b1,-b2,-b3,-here,-mN])] (.bG [.i b,.i 0]))
  (F:Ck 77 [.lit 2 (bS [⟨14,-b0⟩,⟨13,-b1⟩,⟨15,-b2⟩,⟨16,-b3⟩,⟨0,-here⟩,⟨12,-mN⟩,⟨5,-b⟩])] (.bG [.lit 2 (bS ml),.i 0])) :
  Ck 35 [S.av] (.bG [.lit 2 (bS ml),.i 0]):=by
 have L:=G.hw;have J:=G.hn;have I:=G.yP;have m:=Lx S S.aD.length;have K:S.aD.length*S.weights.length<=4*5:=Nat.mul_le_mul (by omega) (by omega);refine CK.fP Tryz.func35 (c:=body) (by kernel_rfl) (yO.out) (uD.out) fun A w0 a0=>?_;intro mm w a l;rw[Tryz.ntmps35]at l;refine x.go (ev1 _ [(S.weights.length:Int),(S.aD.length:Int),(S.aH.length:Int),b0,b1,b2,b3] (vT S []) (sT S []) .nil) (xK kn) l (fd:=lF Kgn (.i 0)) (bd:=lB S []) ?_;refine four r0 r1 r2 y t k G e h h1 g f p o Nr n ?_;exact aD v u r s j G e h h1 g f (fin q G e h h1 g f m (by omega) C z B H D E F)
end GL
def gL7 (S:bK):List dE :=
 let b:=fun a=>(xU S a).sum;let h:=(OS S S.aD.length).sum;let w:=(S.aH.map (·.bY)).sum
 [⟨14,-b 14⟩,⟨13,-b 13⟩,⟨15,-b 15⟩,⟨16,-b 16⟩,⟨0,-h⟩,⟨12,-w⟩,⟨5,-(-b 14+(-b 13+(-b 15+(-b 16+(-h+-w)))))⟩]
structure Fw (l:List Int):Prop where
 a:eR l<=140737488355328
def Fw.sum {l:List Int} (h:Fw l):dJ l=l.sum/\dW l=0/\GL.Bd l.sum/\eW l:=by
 have:=h.a;obtain⟨d,c⟩:=PN (l:=l) (by omega)
 have go:∀l:List Int,-eR l<=l.sum/\l.sum<=eR l/\∀v∈l,-eR l<=v/\v<=eR l:=by
  intro l;induction l with
  |nil=>simp[eR]
  |cons x t e =>
   grind[fL]
 have g:=go l;exact⟨d,c,⟨by omega,by omega⟩,fun v b=>by have:=g.2.2 v b;exact⟨by omega,by omega⟩⟩
def Ih {S:bK} (G:Gn S) (g:1<=S.weights.length) (D:S.aD.length=2\/S.aD.length=3) (I:∀a,0<=a/\a<=16->Fw (xU S a)) (H:Fw (OS S S.aD.length)) (F:Fw (S.aH.map (·.bY))) :
  Small (gL7 S)/\Ck 35 [S.av] (.bG [.lit 2 (bS (eF (gL7 S))),.i 0]):=by
 have cU:∀a,0<=a/\a<=16->Ck 36 [S.av,.i a] (.bG [.i (xU S a).sum,.i 0])/\GL.Bd (xU S a).sum:=fun a k=>by
  obtain⟨T,C,R,-⟩:=(I a k).sum;have:=ad1 G D k C
  grind
 obtain⟨Q,M⟩:=cU 14 (by omega);obtain⟨P,L⟩:=cU 13 (by omega);obtain⟨O,K⟩:=cU 15 (by omega);obtain⟨N,J⟩:=cU 16 (by omega);obtain⟨B,A,z,w⟩:=H.sum;obtain⟨u,t,s,q⟩:=F.sum;have n:=qZ _ w;have l:=an7 G.yP q;rw[B,A]at n;rw[u,t]at l;unfold gL7;simp only;generalize (xU S 14).sum=b0 at *;generalize (xU S 13).sum=b1 at *;generalize (xU S 15).sum=b2 at *;generalize (xU S 16).sum=b3 at *;generalize (OS S S.aD.length).sum=h at *;generalize (S.aH.map (·.bY)).sum=y at *;have U:Fw [-b0,-b1,-b2,-b3,-h,-y]\/True:=.inr trivial;have az:eR [-b0,-b1,-b2,-b3,-h,-y]<=288230376151711744:=by simp only[fL];simp only[eR,a1x,a1y];omega
 obtain⟨p,o⟩:=PN az;have E:eW [-b0,-b1,-b2,-b3,-h,-y]:=by
  intro v c;simp only[a0c,a0b,or_false]at c;rcases c with rfl|rfl|rfl|rfl|rfl|rfl<;>exact⟨by omega,by omega⟩
 have d:=qZ _ E;rw[p,o]at d;simp only[a0x,a1y,a1g]at d;obtain⟨b,j⟩:∃r,r=-b0+(-b1+(-b2+(-b3+(-h+-y)))):=⟨_,rfl⟩
 rw[<-j]at d |-;have e:Small [⟨14,-b0⟩,⟨13,-b1⟩,⟨15,-b2⟩,⟨16,-b3⟩,⟨0,-h⟩,⟨12,-y⟩,⟨5,-b⟩]:=by
  refine⟨?_,by simp⟩;intro x f;simp only[a0c,a0b,or_false]at f;rcases f with rfl|rfl|rfl|rfl|rfl|rfl|rfl<;>(refine⟨by simp,by simp,?_,?_⟩<;>simp only<;>omega)
 have m:=ai6 [⟨14,-b0⟩,⟨13,-b1⟩,⟨15,-b2⟩,⟨16,-b3⟩,⟨0,-h⟩,⟨12,-y⟩,⟨5,-b⟩] (by
  intro v c;simp only[dY,a3b,List.flatMap_nil,a1i,a0m,a0c,a0b,or_false]at c;rcases c with(h|h)|(h|h)|(h|h)|(h|h)|(h|h)|(h|h)|(h|h)<;>(subst h;exact⟨by omega,by omega⟩)) (by simp)
 rw[zA e]at m;exact⟨e,GL.walk GL.Td GL.Mo GL.agf GL.aoN .of .of .of .of .of GL.ank GL.aoM .of .of .of .of .of G g M L K J z s j Q P O N n l d m⟩
end
section
open Mc
variable {o:Option (RT Out)} {Φ:iO}
namespace GO
section
variable {S:bK} {item:Int} {A:Nat->Prop} {w0:World} {a0:Act} {R:AV}
def tail (r0:ag7 (aW o)) (r1:ag6 (aW o)) (r2:ag5 (aW o)) (e:abh (aW o)) (p:ag2 o) {qs vs ps:List Int} {k:Nat} {q0 d p0 b:Int} (t:k<=44) (r:qs.length=k) (q:vs.length=k) (s:ps.length=k)
  (m:Ck 72 [.lit 1 (aA qs)] (.bG [.i q0,.i 0])) (l:Ck 72 [.lit 1 (aA vs)] (.bG [.i d,.i 0])) (h:Ck 72 [.lit 1 (aA ps)] (.bG [.i p0,.i 0]))
  (mm:Nat->St) (w:World) (a:Act) (c:@dZ dK dN A w0 a0 mm w a (O5 (.i b) (.i 0)) (eB (oB3 [.i 0,.i 0,.i 0,.i b] k qs vs ps))) :
  (Code.loop (aW o)).wpIn (fw none) 9 Tryz.prog (KS Tryz.prog (oK o) (Fin Tryz.prog Tryz.f34 A w0 a0 (.bG [.agg [.i q0,.i d,.i p0,.i b],.i 0]))) a w:=by
 refine cN (fun n a w=>∃(j:Nat) (g:List AV),n=3-j/\(j=0/\g=[.i 0,.i 0,.i 0,.i b]\/j=1/\g=[.i q0,.i 0,.i 0,.i b]\/j=2/\g=[.i q0,.i d,.i 0,.i b]\/j=3/\g=[.i q0,.i d,.i p0,.i b])/\∃mm,@dZ dK dN A w0 a0 mm w a (O5 (.i b) (.i (j:Int))) (eB (oB3 g k qs vs ps))) ?_ (n:=3) ⟨0,_,rfl,.inl ⟨rfl,rfl⟩,_,c⟩;rintro n a w ⟨j,g,rfl,f,mm,c⟩;rcases f with⟨rfl,rfl⟩|⟨rfl,rfl⟩|⟨rfl,rfl⟩|⟨rfl,rfl⟩
 .refine r0.go (ev1 _ [(k:Int)] [.I b,.I q0,.I d,.I p0] [aA qs,aA vs,aA ps] .nil) (xK (kc m kn)) c (fd:=O5 (.i b) (.i 1)) (bd:=oB3 [.i q0,.i 0,.i 0,.i b] k qs vs ps) ?_
  exact fun mm w a c=>⟨_,by omega,1,_,rfl,.inr (.inl ⟨rfl,rfl⟩),mm,c⟩
 .refine r1.go (ev1 _ [(k:Int)] [.I b,.I q0,.I d,.I p0] [aA qs,aA vs,aA ps] .nil) (xK (kc l kn)) c (fd:=O5 (.i b) (.i 2)) (bd:=oB3 [.i q0,.i d,.i 0,.i b] k qs vs ps) ?_
  exact fun mm w a c=>⟨_,by omega,2,_,rfl,.inr (.inr (.inl ⟨rfl,rfl⟩)),mm,c⟩
 .refine r2.go (ev1 _ [(k:Int)] [.I b,.I q0,.I d,.I p0] [aA qs,aA vs,aA ps] .nil) (xK (kc h kn)) c (fd:=O5 (.i b) (.i 3)) (bd:=oB3 [.i q0,.i d,.i p0,.i b] k qs vs ps) ?_
  exact fun mm w a c=>⟨_,by omega,3,_,rfl,.inr (.inr (.inr ⟨rfl,rfl⟩)),mm,c⟩
 .refine e.go (ev1 _ [(k:Int)] [.I b,.I q0,.I d,.I p0] [aA qs,aA vs,aA ps] .nil) (xK kn) c ?_
  intro mm w a c;exact p.go (ev1 _ [(k:Int)] [.I b,.I q0,.I d,.I p0] [aA qs,aA vs,aA ps] .nil) (xK kn) c
def trans (B:ag4 (aW o)) (t:adm (aW o)) (u:adn (aW o)) (z:ag3 (aW o)) (G:Gn S) (L:0<=item/\item<S.weights.length)
  (x:∀(k:Nat) mm w a,k<=44->(RX S item).length=k->(RW S item).length=k->(RY S item).length=k->@dZ dK dN A w0 a0 mm w a (fT S k S.aH.length) (eB (oB S item (aA (RX S item)) (aA (RW S item)) (aA (RY S item))))->KS Tryz.prog (oK o) Φ (AX.exit 2).to a w)
  (mm:Nat->St) (w:World) (a:Act) (b:@dZ dK dN A w0 a0 mm w a (fT S S.aD.length 0) (eB (oB S item (aA ((wL S item S.aD.length).map (·.q))) (aA ((wL S item S.aD.length).map (·.v))) (aA ((wL S item S.aD.length).map (·.p)))))) :
  (Code.loop (aW o)).wpIn (fw none) 9 Tryz.prog (KS Tryz.prog (oK o) Φ) a w:=by
 have H:=G.hw;have F:=G.hn;have E:=G.yP;refine cN (fun n a w=>∃(j k:Nat) (qs vs ps:List Int),n=S.aH.length-j/\j<=S.aH.length/\qs=(wL S item S.aD.length).map (·.q)++(tL S item j).map (·.eU)/\vs=(wL S item S.aD.length).map (·.v)++(tL S item j).map (·.value)/\ps=(wL S item S.aD.length).map (·.p)++(tL S item j).map (·.bY)/\qs.length=k/\vs.length=k/\ps.length=k/\k<=S.aD.length+j/\∃mm,@dZ dK dN A w0 a0 mm w a (fT S k j) (eB (oB S item (aA qs) (aA vs) (aA ps)))) ?_ (n:=S.aH.length) ⟨0,S.aD.length,_,_,_,rfl,a0j _,rfl,rfl,rfl,by simp[wL,tL],by simp[wL,tL],by simp[wL,tL],by omega,_,by simpa[tL]using b⟩;rintro n a w ⟨j,k,qs,vs,ps,rfl,K,e,c,f,l,h,m,J,mm,b⟩;rcases(by omega:j=S.aH.length\/j<S.aH.length)with D|C
 .subst D
  have e:qs=RX S item:=e;have c:vs=RW S item:=c;have f:ps=RY S item:=f;rw[<-e,<-c,<-f]at x;refine z.go (ev1 _ [item,(S.weights.length:Int),(S.aD.length:Int),(S.aH.length:Int),(k:Int)] (vT S []) (sT S [aA qs,aA vs,aA ps]) .nil) (xK kn) b ?_;intro mm w a b;exact x k mm w a (by omega) l h m b
 .clear x
  obtain⟨g,s⟩:∃g,S.aH[j]?=some g:=⟨_,a0d C⟩;have y:S.aH[(j:Int).toNat]?=some ⟨g.src,g.dst,g.item,g.eU,g.value,g.bY⟩:=by simp_all
  obtain⟨-,-,b3,-⟩:=G.OA g (a0a s);have hs:=acN (item:=item) s;rcases(by omega:g.item=item\/g.item<item\/item<g.item)with r|r|r
  .rw[if_pos r]at hs
   refine B.go (ev1 _ [item,(S.weights.length:Int),(S.aD.length:Int),(S.aH.length:Int),(k:Int),(j:Int),g.item] (vT S [.I g.src,.I g.dst,.I g.eU,.I g.value,.I g.bY]) (sT S [aA qs,aA vs,aA ps]) (.d (aT y) .nil)) (xK kn) b (fd:=RF (.own 3 1 3 0 (1+(k:Int)).toNat) (.own 3 1 4 0 (1+(k:Int)).toNat) (.own 3 1 5 0 (1+(k:Int)).toNat) (.lit 6 (fM S.aH)) (.i (S.aH.length:Int)) (.i (1+(j:Int)))) (bd:=oB S item (aA qs++[[.i g.eU]]) (aA vs++[[.i g.value]]) (aA ps++[[.i g.bY]])) ?_;intro mm w a b;rw[show(1+(j:Int))=((j+1:Nat):Int)by omega,show(1+(k:Int))=((k+1:Nat):Int)by omega,a0w,eY,eY,eY]at b;refine⟨_,by omega,j+1,k+1,_,_,_,rfl,by omega,?_,?_,?_,by grind,by grind,by grind,by omega,mm,b⟩<;>grind
  all_goals rw[if_neg (by omega),a1i]at hs
  .refine t.go (ev1 _ [item,(S.weights.length:Int),(S.aD.length:Int),(S.aH.length:Int),(k:Int),(j:Int),g.item] (vT S [.I g.src,.I g.dst,.I g.eU,.I g.value,.I g.bY]) (sT S [aA qs,aA vs,aA ps]) (.d (aT y) .nil)) (xK kn) b (fd:=RF (.own 3 1 3 0 k) (.own 3 1 4 0 k) (.own 3 1 5 0 k) (.lit 6 (fM S.aH)) (.i (S.aH.length:Int)) (.i (1+(j:Int)))) (bd:=oB S item (aA qs) (aA vs) (aA ps)) ?_
   intro mm w a b;rw[show(1+(j:Int))=((j+1:Nat):Int)by omega]at b;exact⟨_,by omega,j+1,k,qs,vs,ps,rfl,by omega,by simp_all,by simp_all,by simp_all,l,h,m,by omega,mm,b⟩
  .refine u.go (ev1 _ [item,(S.weights.length:Int),(S.aD.length:Int),(S.aH.length:Int),(k:Int),(j:Int),g.item] (vT S [.I g.src,.I g.dst,.I g.eU,.I g.value,.I g.bY]) (sT S [aA qs,aA vs,aA ps]) (.d (aT y) .nil)) (xK kn) b (fd:=RF (.own 3 1 3 0 k) (.own 3 1 4 0 k) (.own 3 1 5 0 k) (.lit 6 (fM S.aH)) (.i (S.aH.length:Int)) (.i (1+(j:Int)))) (bd:=oB S item (aA qs) (aA vs) (aA ps)) ?_
   intro mm w a b;rw[show(1+(j:Int))=((j+1:Nat):Int)by omega]at b;exact⟨_,by omega,j+1,k,qs,vs,ps,rfl,by omega,by simp_all,by simp_all,by simp_all,l,h,m,by omega,mm,b⟩
def I9 {l n m:Option (RT Out)} (t:Rn l n) (s:Rm l m) (G:Gn S) (L:S.aD.length=2\/S.aD.length=3) (Y:0<=item/\item<S.weights.length) (O:dW (CN S item)=0) (J:eW (CN S item)) {qs vs ps:List Int} {k:Nat} (X:k<=44) (T:qs.length=k) (R:vs.length=k) (U:ps.length=k)
  (H:∀mm w a,@dZ dK dN A w0 a0 mm w a (O5 (.i (dJ (CN S item))) (.i 0)) (eB (oB3 [.i 0,.i 0,.i 0,.i (dJ (CN S item))] k qs vs ps))->(Code.loop (aW n)).wpIn (fw none) 9 Tryz.prog (KS Tryz.prog (oK n) Φ) a w)
  (F:∀mm w a,@dZ dK dN A w0 a0 mm w a (O5 (.i (dJ (CN S item))) (.i 0)) (eB (oB3 [.i 0,.i 0,.i 0,.i (dJ (CN S item))] k qs vs ps))->(Code.loop (aW m)).wpIn (fw none) 9 Tryz.prog (KS Tryz.prog (oK m) Φ) a w)
  (mm:Nat->St) (w:World) (a:Act) (z:@dZ dK dN A w0 a0 mm w a (fT S k S.aH.length) (eB (oB S item (aA qs) (aA vs) (aA ps)))):KS Tryz.prog (oK l) Φ (AX.exit 2).to a w:=by
 have W:=G.hw;have Q:=G.yP;have r:=qZ (CN S item) J;rw[O]at r;generalize dJ (CN S item)=j at *
 have g:∀{x:dL} {e:Nat},S.aD[e]?=some x->x.down.length=S.weights.length/\x.down[item.toNat]?=some (x.down.getD item.toNat 0):=fun{x e} K=>by
  have h:=(G.aJ e x K).dl
  simp_all
 rcases R9 G L with⟨c,b,N⟩|⟨c,b,f,N⟩
 .have q:S.aD[0]?=some c:=by simp_all
  have h:S.aD[1]?=some b:=by simp_all
  have M:S.aD.length=2:=by simp_all
  obtain⟨E,p⟩:=g q;obtain⟨D,o⟩:=g h;have u:CN S item=[c.down.getD item.toNat 0,b.down.getD item.toNat 0]:=by unfold CN;simp_all
  rw[u]at r;generalize c.down.getD item.toNat 0=y at *;generalize b.down.getD item.toNat 0=v at *;exact t.go (ev1 _ [item,(S.weights.length:Int),(S.aD.length:Int),(S.aH.length:Int),(k:Int)] (vT S [.I c.now,.bool c.closed,.I y,.I b.now,.bool b.closed,.I v,.I j]) (sT S [aA qs,aA vs,aA ps,bP c.bH,aA c.cU,bM c.aM,aA c.aZ,aA c.down,bW c.ahead,bP b.bH,aA b.cU,bM b.aM,aA b.aZ,aA b.down,bW b.ahead]) (.d (rK q) (.d (aI p) (.d (rK h) (.d (aI o) .nil))))) (xK (kc r kn)) z (fd:=O5 (.i j) (.i 0)) (bd:=oB3 [.i 0,.i 0,.i 0,.i j] k qs vs ps) H
 .have q:S.aD[0]?=some c:=by simp_all
  have h:S.aD[1]?=some b:=by simp_all
  have C:S.aD[2]?=some f:=by simp_all
  have M:S.aD.length=3:=by simp_all
  obtain⟨E,p⟩:=g q;obtain⟨D,o⟩:=g h;obtain⟨V,B⟩:=g C;have u:CN S item=[c.down.getD item.toNat 0,b.down.getD item.toNat 0,f.down.getD item.toNat 0]:=by unfold CN;simp_all
  rw[u]at r;generalize c.down.getD item.toNat 0=y at *;generalize b.down.getD item.toNat 0=v at *;generalize f.down.getD item.toNat 0=P at *;exact s.go (ev1 _ [item,(S.weights.length:Int),(S.aD.length:Int),(S.aH.length:Int),(k:Int)] (vT S [.I c.now,.bool c.closed,.I y,.I b.now,.bool b.closed,.I v,.I f.now,.bool f.closed,.I P,.I j]) (sT S [aA qs,aA vs,aA ps,bP c.bH,aA c.cU,bM c.aM,aA c.aZ,aA c.down,bW c.ahead,bP b.bH,aA b.cU,bM b.aM,aA b.aZ,aA b.down,bW b.ahead,bP f.bH,aA f.cU,bM f.aM,aA f.aZ,aA f.down,bW f.ahead]) (.d (rK q) (.d (aI p) (.d (rK h) (.d (aI o) (.d (rK C) (.d (aI B) .nil))))))) (xK (kc r kn)) z (fd:=O5 (.i j) (.i 0)) (bd:=oB3 [.i 0,.i 0,.i 0,.i j] k qs vs ps) F
def aD {g:Option (RT Out)} (u:amg (aW o)) (t:amf (aW o)) (l:abi o g) (G:Gn S) (r:0<=item/\item<S.weights.length)
  (h:∀mm w a,@dZ dK dN A w0 a0 mm w a (fT S S.aD.length 0) (eB (oB S item (aA ((wL S item S.aD.length).map (·.q))) (aA ((wL S item S.aD.length).map (·.v))) (aA ((wL S item S.aD.length).map (·.p)))))->(Code.loop (aW g)).wpIn (fw none) 9 Tryz.prog (KS Tryz.prog (oK g) Φ) a w)
  (mm:Nat->St) (w:World) (a:Act) (b:@dZ dK dN A w0 a0 mm w a (fA S 0 0) (eB (oB S item [] [] []))):(Code.loop (aW o)).wpIn (fw none) 9 Tryz.prog (KS Tryz.prog (oK o) Φ) a w:=by
 have H:=G.hw;have B:=G.hn;have z:=G.yP;refine cN (fun n a w=>∃(j:Nat) (qs vs ps:List Int),n=S.aD.length-j/\j<=S.aD.length/\qs=(wL S item j).map (·.q)/\vs=(wL S item j).map (·.v)/\ps=(wL S item j).map (·.p)/\∃mm,@dZ dK dN A w0 a0 mm w a (fA S j j) (eB (oB S item (aA qs) (aA vs) (aA ps)))) ?_ (n:=S.aD.length) ⟨0,[],[],[],rfl,a0j _,rfl,rfl,rfl,_,b⟩;rintro n a w ⟨j,qs,vs,ps,rfl,J,d,c,f,mm,b⟩;have E:qs.length=j:=by simp_all[wL]
 have C:vs.length=j:=by simp_all
 have F:ps.length=j:=by simp_all
 rcases(by omega:j=S.aD.length\/j<S.aD.length)with m|D
 .subst m
  rw[<-d,<-c,<-f]at h;clear d c f;refine t.go (ev1 _ [item,(S.weights.length:Int),(S.aD.length:Int),(S.aH.length:Int)] (vT S []) (sT S [aA qs,aA vs,aA ps]) .nil) (xK kn) b ?_;intro mm w a b;exact l.go (ev1 _ [item,(S.weights.length:Int),(S.aD.length:Int),(S.aH.length:Int)] (vT S []) (sT S [aA qs,aA vs,aA ps]) .nil) (xK kn) b (fd:=fT S S.aD.length 0) (bd:=oB S item (aA qs) (aA vs) (aA ps)) h
 .clear h
  have s:=XN G.toStOk (e:=(j:Int)) (item:=item) ⟨by omega,by omega,r.1,r.2⟩;have hs:=acC S item j;obtain⟨⟨q0,k,p0⟩,y⟩:∃x,x=(bZ S (j:Int) item).1:=⟨_,rfl⟩;rw[<-y]at s hs;refine u.go (ev1 _ [item,(S.weights.length:Int),(S.aD.length:Int),(S.aH.length:Int),(j:Int)] (vT S [.I q0,.I k,.I p0]) (sT S [aA qs,aA vs,aA ps]) .nil) (xK (kc s kn)) b (fd:=oF (.own 3 1 3 0 (1+(j:Int)).toNat) (.own 3 1 4 0 (1+(j:Int)).toNat) (.own 3 1 5 0 (1+(j:Int)).toNat) (.lit 8 (bD S.aD)) (.i (S.aD.length:Int)) (.i (1+(j:Int)))) (bd:=oB S item (aA qs++[[.i q0]]) (aA vs++[[.i k]]) (aA ps++[[.i p0]])) ?_;intro mm w a b;rw[show(1+(j:Int))=((j+1:Nat):Int)by omega,a0w,eY,eY,eY]at b;refine⟨_,by omega,j+1,_,_,_,rfl,by omega,?_,?_,?_,mm,b⟩<;>grind
end
def walk (oA b e d:Option (RT Out)) (J:amh body oA) (I:amg (aW oA)) (H:amf (aW oA)) (z:abi oA b) (y:ag4 (aW b)) (o:adm (aW b)) (p:adn (aW b)) (x:ag3 (aW b)) (r:Rn b e) (q:Rm b d)
  (r0:ag7 (aW d)) (r1:ag6 (aW d)) (r2:ag5 (aW d)) (v:abh (aW d)) (F:ag2 d) (E:ag7 (aW e)) (D:ag6 (aW e)) (C:ag5 (aW e)) (u:abh (aW e)) (B:ag2 e)
  {S:bK} {item:Int} (G:Gn S) (O:S.aD.length=2\/S.aD.length=3) (t:0<=item/\item<S.weights.length) (Q:dW (RX S item)=0) (P:dW (RW S item)=0) (R:dW (RY S item)=0) (T:dW (CN S item)=0)
  (L:eW (RX S item)) (K:eW (RW S item)) (M:eW (RY S item)) (N:eW (CN S item)) :
  Ck 34 [S.av,.i item] (.bG [.agg [.i (dJ (RX S item)),.i (dJ (RW S item)),.i (dJ (RY S item)),.i (dJ (CN S item))],.i 0]):=by
 have m:=qZ _ L;have l:=qZ _ K;have j:=qZ _ M;rw[Q]at m;rw[P]at l;rw[R]at j;have W:=G.hw;have V:=G.hn;have U:=G.yP;refine CK.fP Tryz.func34 (c:=body) (by kernel_rfl) (yO.out) (uD.out) fun A w0 a0=>?_
 intro mm w a n;rw[Tryz.ntmps34]at n;refine J.go (ev1 _ [item,(S.weights.length:Int),(S.aD.length:Int),(S.aH.length:Int)] (vT S []) (sT S []) .nil) (xK kn) n (fd:=fA S 0 0) (bd:=oB S item [] [] []) ?_;refine aD I H z G t ?_;refine trans y o p x G t ?_;intro k mm w a s g f h n;exact I9 r q G O t T N s g f h (tail E D C u B s g f h m l j) (tail r0 r1 r2 v F s g f h m l j) mm w a n
end GO
def ai1 {S:bK} {item:Int} (G:Gn S) (e:S.aD.length=2\/S.aD.length=3) (f:0<=item/\item<S.weights.length) (h:dW (RX S item)=0) (g:dW (RW S item)=0) (j:dW (RY S item)=0) (k:dW (CN S item)=0)
  (b:eW (RX S item)) (a:eW (RW S item)) (c:eW (RY S item)) (d:eW (CN S item)) :
  Ck 34 [S.av,.i item] (.bG [.agg [.i (dJ (RX S item)),.i (dJ (RW S item)),.i (dJ (RY S item)),.i (dJ (CN S item))],.i 0]) :=
 GO.walk GO.acR GO.FB GO.acQ GO.acP GO.aoK .of .of GO.anj .of .of .of .of GO.ajF GO.ajE .of .of .of .of .of .of .of .of .of .of G e f h g j k b a c d
end
section
open Mc
variable {o:Option (RT Out)} {its:List nW} {Φ:iO}
namespace GC
abbrev tG:Nat:=38
abbrev cF (n i:AV):List AV:=fr 110 [(1,.ptr 10 0 0 0),(2,.ptr 4 1 0 0),(3,.i 0),(4,.i 0),(5,.ptr 4 2 0 0),(34,.q 1 1),(35,n),(36,i)]
abbrev cC (S:bK) (i:AV):List AV:=fr 110 [(1,.ptr 10 0 0 0),(2,.ptr 4 1 0 0),(3,.i 0),(4,.i 0),(5,.ptr 4 2 0 0),(34,.lit 1 (aA S.weights)),(35,.i (S.weights.length:Int)),(36,i)]
abbrev XQ (l i:AV):List AV:=fr 110 [(1,.ptr 10 0 0 0),(2,.ptr 4 1 0 0),(3,.i 0),(4,.i 0),(5,.ptr 4 2 0 0),(9,l),(67,i)]
abbrev SD (l i n k j:AV):List AV:=fr 110 [(1,.ptr 10 0 0 0),(2,.ptr 4 1 0 0),(3,.i 0),(4,.i 0),(5,.ptr 4 2 0 0),(9,l),(11,i),(12,n),(13,.i 0),(67,i),(80,l),(81,k),(82,j)]
abbrev zG:Mc.dC:=.cells tG 4 [KfI]
abbrev cB (S:bK) (now:Int) (k:Nat) (I:List (List AV)):List Mc.dC:=[GO.sR S,zG,.cells tG 4 [[.i now,.own 46 4 3 0 k,.emp,.emp]],.cells 46 4 I]
abbrev Nr (S:bK) (now:Int) (ml:List dE) (I:List nW) (k:Nat) (b:List (List AV)):List Mc.dC:=[GO.sR S,zG,.cells tG 4 [[.i now,.own 46 4 3 0 S.weights.length,.lit 2 (bS ml),.own 3 1 4 0 k]],.cells 46 4 (dP I),.cells 3 1 b]
noncomputable def body:Code:=(Tryz.f12).body.getD .skip
abbrev amv (c:Code) (r:Option (RT Out)):Prop:=nV { vars:=[(1,5),(1,4)],lens:=[Kg8,Khl],gI:=[(0,[],W9)],bR:=KaZ } c (Kfv++List.replicate 109 .undef) [] [some 0,some 1,some 2,none] (cF (.v 0) (.i 0)) [YH,KaP,(.cells 38 4 [[.o 3,(.own 46 4 3 0 0),.emp,.emp]]),(.cells 46 4 [])] r
noncomputable def Te:Option (RT Out):=uL { vars:=[(1,5),(1,4)],lens:=[Kg8,Khl],gI:=[(0,[],W9)],bR:=KaZ } body (Kfv++List.replicate 109 .undef:List AV).length (Kfv++List.replicate 109 .undef) [] 0
def aoQ:amv body Te:=⟨by unfold Te;rfl,by decide +kernel,by decide +kernel⟩
abbrev amu (c:Code):Prop:=dD { vars:=[(1,5),(1,4),(0,4)],facts:=[([([0],1),([2],-1)],1,5)],lens:=[Kg8,Khl,Khf],bR:=[(34,KdH,(.bG [(.agg KfJ),.i 0]))] } c (cF (.v 0) (.v 2)) [YH,KaP,(.cells 38 4 [[.o 3,(.cZ 46 4 3 [([2],1)]),.emp,.emp]]),(.sc 46 4 7 [] [] [([2],1)])] 0 [some 0,some 1,some 2,some 6] (cF (.v 0) KfF) [YH,KaP,(.cells 38 4 [[.o 3,(.cZ 46 4 3 KgF),.emp,.emp]]),Hl]
abbrev ams (c:Code):Prop:=dD { vars:=[(1,5),(1,4)],lens:=[Kg8,Khl,Khn] } c (cF (.v 0) (.v 0)) K8 2 [some 0,some 1,some 2,some 3] (cF (.v 0) (.v 0)) K8
abbrev Rq (o:Option (RT Out)) (r:Option (RT Out)):Prop:=pJ { vars:=KfY,lens:=Hc,bR:=GW } o 0 (cF (.v 0) (.v 0)) K8 [some 0,some 1,some 2,some 3,none] (XQ (.q 2 8) (.i 0)) [YH,KaP,(.cells 38 4 [[.o 3,Kev,.q 2 8,KgC]]),Kdm,KgO] r
noncomputable def Mp:Option (RT Out):=IF { vars:=KfY,lens:=Hc,bR:=GW } Te 0 (cF (.v 0) (.v 0):List AV).length (cF (.v 0) (.v 0)) K8 4
def anl:Rq Te Mp:=⟨by unfold Mp;rfl,by decide +kernel,by decide +kernel⟩
abbrev ahg (c:Code) (r:Option (RT Out)):Prop:=nV { vars:=KcE,lens:=VK,bR:=HK } c (XQ (.q 2 8) (.v 3)) KG [some 0,some 1,some 2,some 3,some 4] (SD (.q 2 8) (.v 3) (.v 4) (.v 2) (.i 0)) KG r
noncomputable def agh:Option (RT Out):=uL { vars:=KcE,lens:=VK,bR:=HK } (aW Mp) (XQ (.q 2 8) (.v 3):List AV).length (XQ (.q 2 8) (.v 3)) KG 5
def aoP:ahg (aW Mp) agh:=⟨by unfold agh;rfl,by decide +kernel,by decide +kernel⟩
abbrev abn (c:Code):Prop:=dD { vars:=[(1,5),(1,4),(0,12),(0,16),iK,(0,11),(0,16),iK],facts:=Q0,lens:=VK,gI:=[(8,[([5],1)],[.v 6,.v 7])] } c (SD (.q 2 8) (.v 3) (.v 4) (.v 2) (.v 5)) KG 0 [some 0,some 1,some 2,some 3,some 4] (SD (.q 2 8) (.v 3) Kft (.v 2) KfC) KG
abbrev Ro (c:Code):Prop:=dD { vars:=DP,facts:=Hp,lens:=VK,gI:=KdI } c (SD (.q 2 8) (.v 3) (.v 4) (.v 2) (.v 5)) KG 0 [some 0,some 1,some 2,some 3,some 4] (SD (.q 2 8) (.v 3) (.v 4) (.v 2) KfC) KG
abbrev Rp (c:Code):Prop:=dD { vars:=DP,facts:=HL,lens:=VK,gI:=KdI } c (SD (.q 2 8) (.v 3) (.v 4) (.v 2) (.v 5)) KG 0 [some 0,some 1,some 2,some 3,some 4] (SD (.q 2 8) (.v 3) (.v 4) (.v 2) KfC) KG
abbrev abo (c:Code):Prop:=dD { vars:=KcE,lens:=VK } c (SD (.q 2 8) (.v 3) (.v 4) (.v 2) (.v 2)) KG 6 [some 0,some 1,some 2,some 3,some 4] (SD (.q 2 8) (.v 3) (.v 4) (.v 2) (.v 2)) KG
abbrev abp (o:Option (RT Out)):Prop:=Fa { vars:=KcE,lens:=VK } o 4 (SD (.q 2 8) (.v 3) (.v 4) (.v 2) (.v 2)) KG 0 [some 0,some 1,some 2,some 3,some 6] (XQ (.q 2 8) KfK) [YH,KaP,(.cells 38 4 [[.o 3,Kev,.q 2 8,(.cZ 3 1 4 KgE)]]),Kdm,Kac]
abbrev ahf (c:Code):Prop:=dD { vars:=KfY,lens:=VL } c (XQ (.q 2 8) (.i 17)) KH 4 [some 0,some 1,some 2,some 3,some 4] (XQ (.q 2 8) (.i 17)) KH
abbrev amr (o:Option (RT Out)):Prop:=iU { vars:=KfY,lens:=VL } Tryz.f12 o 2 (XQ (.q 2 8) (.i 17)) KH GX
end GC
def vM (S:bK) (i:Int):nW:=⟨(RX S i).sum,(RW S i).sum,(RY S i).sum,(CN S i).sum⟩
def wM (S:bK) (j:Nat):List nW:=(List.range j).map fun(i:Nat)=>vM S (i:Int)
def jG (l:List nW):(dP l).length=l.length:=by simp[dP]
def Pd (S:bK) (j:Nat):wM S (j+1)=wM S j++[vM S (j:Int)]:=by simp[wM,a15]
def RZ (S:bK) (ml:List dE) (j:Nat):List Int:=(List.range j).map fun(a:Nat)=>(xU S (a:Int)).sum+iL ml (a:Int)
def Xk (S:bK) (ml:List dE) (j:Nat):RZ S ml (j+1)=RZ S ml j++[(xU S (j:Int)).sum+iL ml (j:Int)]:=by simp[RZ,a15]
def Oz (l:List dE) (x:dE) (a:Int):iL (l++[x]) a=iL l a+(if x.a=a then x.n else 0):=by
 grind[iL]
def CS:∀(l:List dE),(∀x∈l,-18014398509481984<=x.n/\x.n<=18014398509481984)->∀a,-(18014398509481984*(l.length:Int))<=iL l a/\iL l a<=18014398509481984*(l.length:Int)
 |[],_,a=>by simp[iL]
 |x::l,h,a=>by
  have c:=CS l (fun y b=>h y (a03 _ b)) a
  grind[pL]
structure NQ (ml:List dE):Prop where
 len:ml.length<=12
 ok:∀x∈ml,0<=x.a/\x.a<=16/\-18014398509481984<=x.n/\x.n<=18014398509481984
namespace GC
section
variable {S:bK} {A:Nat->Prop} {w0:World} {a0:Act} {now:Int} {ml:List dE}
def next {b:Option (RT Out)} (c:Rq o b) (G:Gn S) (n:S.aD.length=2\/S.aD.length=3) (g:1<=S.weights.length) (M:NQ ml) (j:its.length=S.weights.length)
  (f:Ck 35 [S.av] (.bG [.lit 2 (bS ml),.i 0])) (e:∀mm w a,@dZ dK dN A w0 a0 mm w a (XQ (.lit 2 (bS ml)) (.i 0)) (eB (Nr S now ml its 0 []))->(Code.loop (aW b)).wpIn (fw none) 9 Tryz.prog (KS Tryz.prog (oK b) Φ) a w)
  (mm:Nat->St) (w:World) (a:Act) (d:@dZ dK dN A w0 a0 mm w a (cC S (.i (S.weights.length:Int))) (eB (cB S now S.weights.length (dP its)))):KS Tryz.prog (oK o) Φ (AX.exit 0).to a w:=by
 have m:=G.hw;have h:=G.hn;have l:=M.len;have k:=jG its;exact c.go (ev1 _ [(S.weights.length:Int),(S.aD.length:Int),(ml.length:Int)] (vT S [.I now]) (sT S [dP its,bS ml]) .nil) (xK (kc f kn)) d (fd:=XQ (.lit 2 (bS ml)) (.i 0)) (bd:=Nr S now ml its 0 []) e
def items {l:Option (RT Out)} (C:amu (aW o)) (B:ams (aW o)) (s:Rq o l) (G:Gn S) (E:S.aD.length=2\/S.aD.length=3) (t:1<=S.weights.length) (M:NQ ml)
  (e:∀i:Int,0<=i/\i<S.weights.length->Ck 34 [S.av,.i i] (.bG [.agg [.i (vM S i).q,.i (vM S i).v,.i (vM S i).p,.i (vM S i).d],.i 0]))
  (z:Ck 35 [S.av] (.bG [.lit 2 (bS ml),.i 0]))
  (m:∀mm w a,@dZ dK dN A w0 a0 mm w a (XQ (.lit 2 (bS ml)) (.i 0)) (eB (Nr S now ml (wM S S.weights.length) 0 []))->(Code.loop (aW l)).wpIn (fw none) 9 Tryz.prog (KS Tryz.prog (oK l) Φ) a w)
  (mm:Nat->St) (w:World) (a:Act) (b:@dZ dK dN A w0 a0 mm w a (cC S (.i 0)) (eB (cB S now 0 []))):(Code.loop (aW o)).wpIn (fw none) 9 Tryz.prog (KS Tryz.prog (oK o) Φ) a w:=by
 have L:=G.hw;have F:=G.hn;have K:=M.len;refine cN (fun n a w=>∃(j:Nat) (its:List nW),n=S.weights.length-j/\j<=S.weights.length/\its=wM S j/\∃mm,@dZ dK dN A w0 a0 mm w a (cC S (.i (j:Int))) (eB (cB S now j (dP its)))) ?_ (n:=S.weights.length) ⟨0,[],rfl,a0j _,rfl,_,b⟩;rintro n a w ⟨j,its,rfl,N,c,mm,b⟩;have u:its.length=j:=by simp_all[wM]
 have J:=jG its;rcases(by omega:j=S.weights.length\/j<S.weights.length)with y|H
 .subst y
  rw[<-c]at m;clear c e;refine B.go (ev1 _ [(S.weights.length:Int),(S.aD.length:Int)] (vT S [.I now]) (sT S [dP its]) .nil) (xK kn) b ?_;intro mm w a b;exact next s G E t M u z m mm w a b
 .clear m z
  have r:=e (j:Int) ⟨by omega,by omega⟩;have hs:=Pd S j;clear e;obtain⟨⟨k,h,g,f⟩,D⟩:∃x,x=vM S (j:Int):=⟨_,rfl⟩;rw[<-D]at r hs;simp only at r;refine C.go (ev1 _ [(S.weights.length:Int),(S.aD.length:Int),(j:Int)] (vT S [.I now,.I k,.I h,.I g,.I f]) (sT S [dP its]) .nil) (xK (kc r kn)) b (fd:=cC S (.i (1+(j:Int)))) (bd:=cB S now (1+(j:Int)).toNat (dP its++[[.i k,.i h,.i g,.i f]])) ?_;intro mm w a b;rw[show(1+(j:Int))=((j+1:Nat):Int)by omega,a0w,show dP its++[[.i k,.i h,.i g,.i f]]=dP (its++[⟨k,h,g,f⟩])by simp[dP,nW.row]]at b;exact⟨_,by omega,j+1,_,rfl,by omega,by simp_all,mm,b⟩
def lines (z:abn (aW o)) (q:Ro (aW o)) (r:Rp (aW o)) (B:abo (aW o)) (C:abp o) (G:Gn S) (N:S.aD.length=2\/S.aD.length=3) (D:1<=S.weights.length) (M:NQ ml) (F:its.length=S.weights.length) {i:Nat} (P:i<17) {bs:List Int} (Q:bs.length=i) {b:Int} (J:GL.Bd b)
  (l:∀mm w a,@dZ dK dN A w0 a0 mm w a (XQ (.lit 2 (bS ml)) (.i ((i+1:Nat):Int))) (eB (Nr S now ml its (i+1) (aA (bs++[b+iL ml (i:Int)]))))->Φ (AX.normal).to a w)
  (mm:Nat->St) (w:World) (a:Act) (c:@dZ dK dN A w0 a0 mm w a (SD (.lit 2 (bS ml)) (.i (i:Int)) (.i b) (.i (ml.length:Int)) (.i 0)) (eB (Nr S now ml its i (aA bs)))):(Code.loop (aW o)).wpIn (fw none) 9 Tryz.prog (KS Tryz.prog (oK o) Φ) a w:=by
 have L:=G.hw;have E:=G.hn;have K:=M.len;have H:=jG its;refine cN (fun m a w=>∃(j:Nat) (n:Int),m=ml.length-j/\j<=ml.length/\n=b+iL (ml.take j) (i:Int)/\∃mm,@dZ dK dN A w0 a0 mm w a (SD (.lit 2 (bS ml)) (.i (i:Int)) (.i n) (.i (ml.length:Int)) (.i (j:Int))) (eB (Nr S now ml its i (aA bs)))) ?_ (n:=ml.length) ⟨0,b,rfl,a0j _,by simp[iL],_,c⟩;rintro m a w ⟨j,n,rfl,O,e,mm,c⟩;have k:=CS (ml.take j) (fun x g=>(M.ok x (a2h g)).2.2) (i:Int);have p:((ml.take j).length:Int)<=12:=by grind
 rcases(by omega:j=ml.length\/j<ml.length)with y|v
 .subst y
  rw[a04]at e;rw[<-e]at l;rw[a04]at k;have t:-288230376151711744<=n/\n<=288230376151711744:=by omega
  clear e k p;refine B.go (ev1 _ [(S.weights.length:Int),(S.aD.length:Int),(ml.length:Int),(i:Int),n] (vT S [.I now]) (sT S [dP its,bS ml,aA bs]) .nil) (xK kn) c ?_;intro mm w a c;refine C.go (ev1 _ [(S.weights.length:Int),(S.aD.length:Int),(ml.length:Int),(i:Int),n] (vT S [.I now]) (sT S [dP its,bS ml,aA bs]) .nil) (xK kn) c (fd:=XQ (.lit 2 (bS ml)) (.i (1+(i:Int)))) (bd:=Nr S now ml its (1+(i:Int)).toNat (aA bs++[[.i n]])) ?_;intro mm w a c;rw[show(1+(i:Int))=((i+1:Nat):Int)by omega,a0w,eY]at c;exact l mm w a c
 .clear l
  obtain⟨x,h⟩:∃x,ml[j]?=some x:=⟨_,a0d v⟩;have g:ml[(j:Int).toNat]?=some x:=by simp_all
  obtain⟨U,a2,T,R⟩:=M.ok x (a0a h);have hs:iL (ml.take (j+1)) (i:Int)=iL (ml.take j) (i:Int)+(if x.a=(i:Int)then x.n else 0):=by rw[a0n,h];exact Oz _ _ _
  have t:-270215977642229760<=n/\n<=270215977642229760:=by omega
  have nx:∀n',n'=b+iL (ml.take (j+1)) (i:Int)->∀mm w a,@dZ dK dN A w0 a0 mm w a (SD (.lit 2 (bS ml)) (.i (i:Int)) (.i n') (.i (ml.length:Int)) (.i (1+(j:Int)))) (eB (Nr S now ml its i (aA bs)))->∃s,s<ml.length-j/\∃(j:Nat) (n:Int),s=ml.length-j/\j<=ml.length/\n=b+iL (ml.take j) (i:Int)/\∃mm,@dZ dK dN A w0 a0 mm w a (SD (.lit 2 (bS ml)) (.i (i:Int)) (.i n) (.i (ml.length:Int)) (.i (j:Int))) (eB (Nr S now ml its i (aA bs))):=by
   intro n' u mm w a c;rw[show(1+(j:Int))=((j+1:Nat):Int)by omega]at c;exact⟨_,by omega,j+1,n',rfl,by omega,u,mm,c⟩
  clear k p;rcases(by omega:x.a=(i:Int)\/x.a<(i:Int)\/(i:Int)<x.a)with f|f|f
  .rw[if_pos f]at hs
   have nx:=nx (n+x.n) (by omega);clear hs e;exact z.go (ev1 _ [(S.weights.length:Int),(S.aD.length:Int),(ml.length:Int),(i:Int),n,(j:Int),x.a,x.n] (vT S [.I now]) (sT S [dP its,bS ml,aA bs]) (.d (aL g) .nil)) (xK kn) c (fd:=SD (.lit 2 (bS ml)) (.i (i:Int)) (.i (n+x.n)) (.i (ml.length:Int)) (.i (1+(j:Int)))) (bd:=Nr S now ml its i (aA bs)) nx
  all_goals
   rw[if_neg (by omega),a1g]at hs;have nx:=nx n (by omega);clear hs e
  .exact q.go (ev1 _ [(S.weights.length:Int),(S.aD.length:Int),(ml.length:Int),(i:Int),n,(j:Int),x.a] (vT S [.I now,.I x.n]) (sT S [dP its,bS ml,aA bs]) (.d (aL g) .nil)) (xK kn) c (fd:=SD (.lit 2 (bS ml)) (.i (i:Int)) (.i n) (.i (ml.length:Int)) (.i (1+(j:Int)))) (bd:=Nr S now ml its i (aA bs)) nx
  .exact r.go (ev1 _ [(S.weights.length:Int),(S.aD.length:Int),(ml.length:Int),(i:Int),n,(j:Int),x.a] (vT S [.I now,.I x.n]) (sT S [dP its,bS ml,aA bs]) (.d (aL g) .nil)) (xK kn) c (fd:=SD (.lit 2 (bS ml)) (.i (i:Int)) (.i n) (.i (ml.length:Int)) (.i (1+(j:Int)))) (bd:=Nr S now ml its i (aA bs)) nx
def fin (b:amr o) (G:Gn S) (k:S.aD.length=2\/S.aD.length=3) (d:1<=S.weights.length) (M:NQ ml) (f:its.length=S.weights.length) {bs:List Int} (l:bs.length=17)
  (mm:Nat->St) (w:World) (a:Act) (c:@dZ dK dN A w0 a0 mm w a (XQ (.lit 2 (bS ml)) (.i 17)) (eB (Nr S now ml its 17 (aA bs)))):KS Tryz.prog (oK o) (Fin Tryz.prog Tryz.f12 A w0 a0 (.bG [.agg [.i now,.lit 4 (dP its),.lit 2 (bS ml),.lit 1 (aA bs)],.i 0])) (AX.exit 2).to a w:=by
 have j:=G.hw;have e:=G.hn;have h:=M.len;have g:=jG its;exact b.go (ev1 _ [(S.weights.length:Int),(S.aD.length:Int),(ml.length:Int)] (vT S [.I now]) (sT S [dP its,bS ml,aA bs]) .nil) (xK kn) c
def zX {oB:Option (RT Out)} (rB:ahg (aW o) oB) (r:abn (aW oB)) (g:Ro (aW oB)) (h:Rp (aW oB)) (s:abo (aW oB)) (t:abp oB) (u:ahf (aW o)) (G:Gn S) (v:S.aD.length=2\/S.aD.length=3) (j:1<=S.weights.length) (M:NQ ml) (p:its.length=S.weights.length)
  (c:∀i:Int,0<=i/\i<=16->GL.Bd (xU S i).sum/\Ck 36 [S.av,.i i] (.bG [.i (xU S i).sum,.i 0]))
  (f:∀mm w a,@dZ dK dN A w0 a0 mm w a (XQ (.lit 2 (bS ml)) (.i 17)) (eB (Nr S now ml its 17 (aA (RZ S ml 17))))->KS Tryz.prog (oK o) Φ (AX.exit 2).to a w)
  (mm:Nat->St) (w:World) (a:Act) (b:@dZ dK dN A w0 a0 mm w a (XQ (.lit 2 (bS ml)) (.i 0)) (eB (Nr S now ml its 0 []))):(Code.loop (aW o)).wpIn (fw none) 9 Tryz.prog (KS Tryz.prog (oK o) Φ) a w:=by
 have C:=G.hw;have y:=G.hn;have B:=M.len;have z:=jG its;refine cN (fun n a w=>∃(i:Nat) (bs:List Int),n=17-i/\i<=17/\bs=RZ S ml i/\∃mm,@dZ dK dN A w0 a0 mm w a (XQ (.lit 2 (bS ml)) (.i (i:Int))) (eB (Nr S now ml its i (aA bs)))) ?_ (n:=17) ⟨0,[],rfl,a0j _,rfl,_,b⟩;rintro m a w ⟨i,bs,rfl,D,d,mm,b⟩;have x:bs.length=i:=by simp_all[RZ]
 rcases(by omega:i=17\/i<17)with q|l
 .subst q
  rw[<-d]at f;clear d c;refine u.go (ev1 _ [(S.weights.length:Int),(S.aD.length:Int),(ml.length:Int)] (vT S [.I now]) (sT S [dP its,bS ml,aA bs]) .nil) (xK kn) b ?_;exact f
 .clear f
  obtain⟨e,cB⟩:=c (i:Int) ⟨by omega,by omega⟩;have hs:=Xk S ml i;clear c;obtain⟨n,k⟩:∃n,n=(xU S (i:Int)).sum:=⟨_,rfl⟩;rw[<-k]at e cB hs;refine rB.go (ev1 _ [(S.weights.length:Int),(S.aD.length:Int),(ml.length:Int),(i:Int),n] (vT S [.I now]) (sT S [dP its,bS ml,aA bs]) .nil) (xK (kc cB kn)) b (fd:=SD (.lit 2 (bS ml)) (.i (i:Int)) (.i n) (.i (ml.length:Int)) (.i 0)) (bd:=Nr S now ml its i (aA bs)) ?_;refine lines r g h s t G v j M p l x e ?_;intro mm w a b;exact⟨_,by omega,i+1,_,rfl,by omega,by simp_all,mm,b⟩
end
def walk (oA b oB:Option (RT Out)) (E:amv body oA) (D:amu (aW oA)) (C:ams (aW oA)) (m:Rq oA b) (rB:ahg (aW b) oB) (u:abn (aW oB)) (j:Ro (aW oB)) (k:Rp (aW oB)) (z:abo (aW oB)) (B:abp oB) (l:ahf (aW b)) (y:amr b)
  {S:bK} (G:Gn S) (h:S.aD.length=2\/S.aD.length=3) (e:1<=S.weights.length) {ml:List dE} (M:NQ ml) {x:dL} {now:Int} (o:S.aD[0]?=some x) (g:x.now=now)
  (H:Ck 33 [S.av] (.i 0)) (r:∀i:Int,0<=i/\i<S.weights.length->Ck 34 [S.av,.i i] (.bG [.agg [.i (vM S i).q,.i (vM S i).v,.i (vM S i).p,.i (vM S i).d],.i 0]))
  (J:Ck 35 [S.av] (.bG [.lit 2 (bS ml),.i 0])) (t:∀i:Int,0<=i/\i<=16->GL.Bd (xU S i).sum/\Ck 36 [S.av,.i i] (.bG [.i (xU S i).sum,.i 0])) :
  Ck 12 [S.av] (.bG [.agg [.i now,.lit 4 (dP (wM S S.weights.length)),.lit 2 (bS ml),.lit 1 (aA (RZ S ml 17))],.i 0]):=by
 have L:=G.hw;have K:=G.hn;have F:S.aD[0]?=some ⟨⟨now,x.closed,x.bH,x.cU,x.aM,x.aZ,x.down⟩,x.ahead⟩:=by rw[o,<-g]
 have f:(wM S S.weights.length).length=S.weights.length:=by simp[wM]
 have s:(RZ S ml 17).length=17:=by simp[RZ]
 refine CK.fP Tryz.func12 (c:=body) (by kernel_rfl) (yO.out) (uD.out) fun A w0 a0=>?_;intro mm w a n;rw[Tryz.ntmps12]at n;refine E.go (ev1 _ [(S.weights.length:Int),(S.aD.length:Int)] (vT S [.I now,.bool x.closed]) (sT S [bP x.bH,aA x.cU,bM x.aM,aA x.aZ,aA x.down,bW x.ahead]) (.d (rK F) .nil)) (xK (kc H kn)) n (fd:=cC S (.i 0)) (bd:=cB S now 0 []) ?_;refine items D C m G h e M r J ?_;exact zX rB u j k z B l G h e M f t (fin y G h e M f s)
end GC
structure Sml (S:bK):Prop where
 q:∀i:Int,0<=i/\i<S.weights.length->Fw (RX S i)/\Fw (RW S i)/\Fw (RY S i)/\Fw (CN S i)
 b:∀a:Int,0<=a/\a<=16->Fw (xU S a)
 h:Fw (OS S S.aD.length)
 y:Fw (S.aH.map (·.bY))
def ahT {l:List dE} (h:Small l):NQ (eF l):=by
 have g:(eF l).length<=l.length:=by
  have e:(eF l).length=((List.range 17).filter fun(a:Nat)=>decide (iL l a≠0)).length:=by
   unfold eF;rw[a4r,a0z];congr 1;apply List.filter_congr
   simp_all[jU]
  rw[e];exact Nl l
 have c:=h.len;refine⟨by omega,fun x b=>?_⟩
 obtain⟨p0,p1,p2,f⟩:=sX h x b;have d:=CT l h.ok x.a;omega
def Pu {S:bK} (G:Gn S) (c:S.aD.length=2\/S.aD.length=3) (d:1<=S.weights.length) (B:∀x∈S.aD,x.closed=true) (M:Sml S) (k:Ck 33 [S.av] (.i 0)) {x:dL} {now:Int} (j:S.aD[0]?=some x) (e:x.now=now) :
  Ck 12 [S.av] (.bG [.agg [.i now,.lit 4 (dP (wM S S.weights.length)),.lit 2 (bS (eF (gL7 S))),.lit 1 (aA (RZ S (eF (gL7 S)) 17))],.i 0]):=by
 obtain⟨f,p⟩:=Ih G d c M.b M.h M.y;refine GC.walk GC.Te GC.Mp GC.agh GC.aoQ .of .of GC.anl GC.aoP .of .of .of .of .of .of .of G c d (ahT f) j e k ?_ p ?_
 .intro i a
  obtain⟨f1,f2,l,f4⟩:=M.q i a;obtain⟨w,a2,-,v⟩:=f1.sum;obtain⟨b1,b2,-,u⟩:=f2.sum;obtain⟨t,s,-,r⟩:=l.sum;obtain⟨o,n,-,m⟩:=f4.sum;have:=ai1 G c a a2 b2 s n v u r m;rw[w,b1,t,o]at this;exact this
 .intro i a
  obtain⟨A,g,z,-⟩:=(M.b i a).sum;have:=ad1 G c a g
  grind
end
section
open Mc
variable {o:Option (RT Out)} {Φ:iO}
namespace NL
abbrev c1F (e:AV):List AV:=fr 192 [(1,.ptr 10 0 0 0),(2,.ptr 4 1 0 0),(3,.i 0),(4,e)]
abbrev XR (e:AV):List AV:=fr 192 [(1,.ptr 10 0 0 0),(2,.ptr 4 1 0 0),(3,.i 0),(5,e)]
abbrev c3F (i:AV):List AV:=fr 192 [(1,.ptr 10 0 0 0),(2,.ptr 4 1 0 0),(3,.i 0),(6,.ptr 1 2 0 0),(7,.ptr 4 3 0 0),(8,i)]
abbrev Sm (l i:AV):List AV:=fr 192 [(1,.ptr 10 0 0 0),(2,.ptr 4 1 0 0),(3,.i 0),(6,.ptr 1 2 0 0),(7,.ptr 4 3 0 0),(11,.own 44 2 5 0 6),(12,l),(13,i)]
abbrev c5F (l i:AV):List AV:=fr 192 [(1,.ptr 10 0 0 0),(2,.ptr 4 1 0 0),(3,.i 0),(6,.ptr 1 2 0 0),(7,.ptr 4 3 0 0),(14,l),(15,.i 0),(16,i)]
abbrev SE (l i n j:AV):List AV:=fr 192 [(1,.ptr 10 0 0 0),(2,.ptr 4 1 0 0),(3,.i 0),(6,.ptr 1 2 0 0),(7,.ptr 4 3 0 0),(14,l),(15,.i 0),(16,i),(17,n),(18,j)]
abbrev zB:Mc.dC:=.cells 86 1 [[.c (.bool false)]]
abbrev B1 (S:bK):List Mc.dC:=[GO.sR S,GC.zG]
abbrev B3 (S:bK) (now:Int) (k:Nat) (I:List (List AV)):List Mc.dC:=[GO.sR S,GC.zG,zB,.cells 38 4 [[.i now,.own 46 4 4 0 k,.emp,.emp]],.cells 46 4 I]
abbrev l6 (b0 b1 b2 b3 h y:Int):List (List AV):=[[.i 14,.i (-b0)],[.i 13,.i (-b1)],[.i 15,.i (-b2)],[.i 16,.i (-b3)],[.i 0,.i (-h)],[.i 12,.i (-y)]]
abbrev i6 (b0 b1 b2 b3 h y:Int):List (List AV):=[[.i (-b0)],[.i (-b1)],[.i (-b2)],[.i (-b3)],[.i (-h)],[.i (-y)]]
abbrev B4 (S:bK) (now:Int) (its:List nW) (b0 b1 b2 b3 h y:Int) (l:List (List AV)):List Mc.dC:=B3 S now S.weights.length (dP its)++[.cells 44 2 (l6 b0 b1 b2 b3 h y),.cells 3 1 l]
abbrev f4 (j:Nat):List AV:=Sm (.own 3 1 6 0 j) (.i (j:Int))
abbrev B5 (S:bK) (now:Int) (ml:List dE) (its:List nW) (k:Nat) (b:List (List AV)):List Mc.dC:=[GO.sR S,GC.zG,zB,.cells 38 4 [[.i now,.own 46 4 4 0 S.weights.length,.lit 2 (bS ml),.own 3 1 5 0 k]],.cells 46 4 (dP its),.cells 3 1 b]
abbrev no (e:Int):AV:=.bG [.agg KfI,.i e]
noncomputable abbrev fC:Func:=Tryz.f17
noncomputable def body:Code:=(Tryz.f17).body.getD .skip
abbrev al5 (c:Code) (r:Option (RT Out)):Prop:=nV { vars:=[(1,4)],lens:=KgN } c (Kfv++List.replicate 191 .undef) [] [some 0,some 1] (c1F (.i 0)) Qm r
noncomputable def C9:Option (RT Out):=uL { vars:=[(1,4)],lens:=KgN } body (Kfv++List.replicate 191 .undef:List AV).length (Kfv++List.replicate 191 .undef) [] 0
def alF:al5 body C9:=⟨by unfold C9;rfl,by decide +kernel,by decide +kernel⟩
abbrev agL (c:Code):Prop:=dD { vars:=[(1,4),(0,3)],facts:=KdX,lens:=KgN,gI:=Yp } c (c1F (.v 1)) Qm 0 [some 0,some 1] (c1F Kfz) Qm
def alD:agL (aW C9):=⟨_,rfl,by decide +kernel,by decide +kernel⟩
abbrev agM (c:Code):Prop:=Is { vars:=[(1,4),(0,3)],facts:=KdX,lens:=KgN,gI:=[(0,[([1],1)],VM)] } Tryz.f17 c (c1F (.v 1)) Qm (Bx)
def alE:agM (aW C9):=⟨_,rfl,by decide +kernel,by decide +kernel,by kernel_rfl⟩
abbrev agK (c:Code):Prop:=dD { vars:=[(1,4)],lens:=KgN } c (c1F (.v 0)) Qm 2 [some 0,some 1] (c1F (.v 0)) Qm
def alC:agK (aW C9):=⟨_,rfl,by decide +kernel,by decide +kernel⟩
abbrev agT (o:Option (RT Out)) (r:Option (RT Out)):Prop:=pJ { vars:=[(1,4)],lens:=KgN } o 0 (c1F (.v 0)) Qm [some 0,some 1] (XR (.i 0)) Qm r
noncomputable def vG:Option (RT Out):=IF { vars:=[(1,4)],lens:=KgN } C9 0 (c1F (.v 0):List AV).length (c1F (.v 0)) Qm 2
def afS:agT C9 vG:=⟨by unfold vG;rfl,by decide +kernel,by decide +kernel⟩
abbrev abf (c:Code):Prop:=dD { vars:=KdJ,facts:=[Kew,(Kgg,0,0)],lens:=KgN,gI:=[(0,[],He),Vd] } c (XR (.v 1)) Qm 0 [some 0,some 1] (XR Kfz) Qm
def afR:abf (aW vG):=⟨_,rfl,by decide +kernel,by decide +kernel⟩
abbrev Rk (c:Code):Prop:=Is { vars:=KdJ,facts:=[Kew,(Kgg,-20,-1)],lens:=KgN,gI:=[(0,[],He),Vd] } Tryz.f17 c (XR (.v 1)) Qm DV
def acL:Rk (aW vG):=⟨_,rfl,by decide +kernel,by decide +kernel,by kernel_rfl⟩
abbrev Rl (c:Code):Prop:=Is { vars:=KdJ,facts:=[Kew,(Kgg,1,20)],lens:=KgN,gI:=[(0,[],He),Vd] } Tryz.f17 c (XR (.v 1)) Qm DV
def acM:Rl (aW vG):=⟨_,rfl,by decide +kernel,by decide +kernel,by kernel_rfl⟩
abbrev abe (c:Code):Prop:=dD { vars:=[(1,4)],lens:=KgN } c (XR (.v 0)) Qm 4 [some 0,some 1] (XR (.v 0)) Qm
def afQ:abe (aW vG):=⟨_,rfl,by decide +kernel,by decide +kernel⟩
abbrev agS (o:Option (RT Out)) (r:Option (RT Out)):Prop:=pJ { vars:=[(1,4)],lens:=KgN,gI:=[(0,[],W9)] } o 2 (XR (.v 0)) Qm [some 0,some 1,some 2,some 3,none] (c3F (.i 0)) [YH,KaP,Ka0,(.cells 38 4 [[.o 3,(.own 46 4 4 0 0),.emp,.emp]]),(.cells 46 4 [])] r
noncomputable def P6:Option (RT Out):=IF { vars:=[(1,4)],lens:=KgN,gI:=[(0,[],W9)] } vG 2 (XR (.v 0):List AV).length (XR (.v 0)) Qm 2
def anf:agS vG P6:=⟨by unfold P6;rfl,by decide +kernel,by decide +kernel⟩
abbrev agR (o:Option (RT Out)) (r:Option (RT Out)):Prop:=pJ { vars:=Jn,lens:=Bj,bR:=[(43,[.any,KfT,.i 14],(.v 2)),(43,[.any,KfT,.i 13],(.v 3)),(43,[.any,KfT,.i 15],(.v 4)),(43,[.any,KfT,.i 16],(.v 5)),(42,[.any,KfT],(.bG [.v 6,.v 7]))] } o 4 (c3F (.v 1)) KK [some 0,some 1,some 2,some 3,some 4,some 5,none] (Sm (.own 3 1 6 0 0) (.i 0)) Kq r
noncomputable def P5:Option (RT Out):=IF { vars:=Jn,lens:=Bj,bR:=[(43,[.any,KfT,.i 14],(.v 2)),(43,[.any,KfT,.i 13],(.v 3)),(43,[.any,KfT,.i 15],(.v 4)),(43,[.any,KfT,.i 16],(.v 5)),(42,[.any,KfT],(.bG [.v 6,.v 7]))] } P6 4 (c3F (.v 1):List AV).length (c3F (.v 1)) KK 5
def ane:agR P6 P5:=⟨by unfold P5;rfl,by decide +kernel,by decide +kernel⟩
abbrev agQ (o:Option (RT Out)) (r:Option (RT Out)):Prop:=pJ { vars:=Ji,lens:=Hg,bR:=[(44,[.any,Qt],(.v 8)),Ja] } o 6 (Sm KgH (.i 6)) Kh [some 0,some 1,some 2,some 3,some 4,none] (c5F (.q 2 8) (.i 0)) [YH,KaP,Ka0,(.cells 38 4 [[.o 3,Kex,.q 2 8,(.own 3 1 5 0 0)]]),Kdo,KgO] r
noncomputable def P4:Option (RT Out):=IF { vars:=Ji,lens:=Hg,bR:=[(44,[.any,Qt],(.v 8)),Ja] } P5 6 (Sm KgH (.i 6):List AV).length (Sm KgH (.i 6)) Kh 7
def anb:agQ P5 P4:=⟨by unfold P4;rfl,by decide +kernel,by decide +kernel⟩
abbrev al4 (c:Code) (r:Option (RT Out)):Prop:=nV { vars:=KcF,lens:=VN,bR:=[(43,[.any,KfT,.v 3],(.v 4))] } c (c5F (.q 2 8) (.v 3)) Kx [some 0,some 1,some 2,some 3,some 4,some 5] (SE (.q 2 8) (.v 3) (.v 4) (.i 0)) Kx r
noncomputable def alP:Option (RT Out):=uL { vars:=KcF,lens:=VN,bR:=[(43,[.any,KfT,.v 3],(.v 4))] } (aW P4) (c5F (.q 2 8) (.v 3):List AV).length (c5F (.q 2 8) (.v 3)) Kx 6
def aoF:al4 (aW P4) alP:=⟨by unfold alP;rfl,by decide +kernel,by decide +kernel⟩
abbrev agN (c:Code):Prop:=dD { vars:=[(1,4),(1,5),(0,12),(0,16),iK,(0,11),(0,16),iK],facts:=Q0,lens:=VN,gI:=[(8,[([5],1)],[.v 6,.v 7])],bR:=[(44,[.any,(.lit 1 [[.v 4],[.v 7]])],Kft)] } c (SE (.q 2 8) (.v 3) (.v 4) (.v 5)) Kx 0 [some 0,some 1,some 2,some 3,some 4,some 5] (SE (.q 2 8) (.v 3) Kft KfC) Kx
abbrev ada (c:Code):Prop:=dD { vars:=DQ,facts:=Hp,lens:=VN,gI:=KdI } c (SE (.q 2 8) (.v 3) (.v 4) (.v 5)) Kx 0 [some 0,some 1,some 2,some 3,some 4,some 5] (SE (.q 2 8) (.v 3) (.v 4) KfC) Kx
abbrev adb (c:Code):Prop:=dD { vars:=DQ,facts:=HL,lens:=VN,gI:=KdI } c (SE (.q 2 8) (.v 3) (.v 4) (.v 5)) Kx 0 [some 0,some 1,some 2,some 3,some 4,some 5] (SE (.q 2 8) (.v 3) (.v 4) KfC) Kx
abbrev agO (c:Code):Prop:=dD { vars:=KcF,lens:=VN } c (SE (.q 2 8) (.v 3) (.v 4) (.v 2)) Kx 12 [some 0,some 1,some 2,some 3,some 4,some 5] (SE (.q 2 8) (.v 3) (.v 4) (.v 2)) Kx
abbrev agP (o:Option (RT Out)):Prop:=Fa { vars:=KcF,lens:=VN } o 10 (SE (.q 2 8) (.v 3) (.v 4) (.v 2)) Kx 0 [some 0,some 1,some 2,some 3,some 4,some 7] (c5F (.q 2 8) KfK) [YH,KaP,Ka0,(.cells 38 4 [[.o 3,Kex,.q 2 8,(.cZ 3 1 5 KgE)]]),Kdo,Kac]
section
variable {S:bK} {A:Nat->Prop} {w0:World} {a0:Act} {now:Int} {ml:List dE} {r:AV}
def T3 (s:agL (aW o)) (t:agM (aW o)) (q:agK (aW o)) (v:1<=S.aD.length/\S.aD.length<=4) (g:∀x∈S.aD,x.closed=false->r=no 8)
  (u:∀mm w a,(∀x∈S.aD,x.closed=true)->@dZ dK dN A w0 a0 mm w a (c1F (.i (S.aD.length:Int))) (eB (B1 S))->KS Tryz.prog (oK o) (Fin Tryz.prog fC A w0 a0 r) (AX.exit 0).to a w)
  (mm:Nat->St) (w:World) (a:Act) (b:@dZ dK dN A w0 a0 mm w a (c1F (.i 0)) (eB (B1 S))):(Code.loop (aW o)).wpIn (fw none) 9 Tryz.prog (KS Tryz.prog (oK o) (Fin Tryz.prog fC A w0 a0 r)) a w:=by
 refine cN (fun n a w=>∃(j:Nat),n=S.aD.length-j/\j<=S.aD.length/\(∀x∈S.aD.take j,x.closed=true)/\∃mm,@dZ dK dN A w0 a0 mm w a (c1F (.i (j:Int))) (eB (B1 S))) ?_ (n:=S.aD.length) ⟨0,rfl,a0j _,by simp,_,b⟩;rintro n a w ⟨j,rfl,y,l,mm,b⟩;rcases(by omega:j=S.aD.length\/j<S.aD.length)with p|m
 .subst p
  rw[a04]at l;refine q.go (ev1 _ [(S.aD.length:Int)] (vT S []) (sT S []) .nil) (xK kn) b ?_;exact fun mm w a b=>u mm w a l b
 .obtain⟨x,e⟩:∃x,S.aD[j]?=some x:=⟨_,a0d m⟩
  have g:=g x (a0a e);cases f:x.closed with
  |true =>
   have k:S.aD[(j:Int).toNat]?=some ⟨⟨x.now,true,x.bH,x.cU,x.aM,x.aZ,x.down⟩,x.ahead⟩:=by rw[<-f];simpa using e
   refine s.go (ev1 _ [(S.aD.length:Int),(j:Int)] (vT S [.I x.now]) (sT S [bP x.bH,aA x.cU,bM x.aM,aA x.aZ,aA x.down,bW x.ahead]) (.d (rK k) .nil)) (xK kn) b (fd:=c1F (.i (1+(j:Int)))) (bd:=B1 S) ?_;intro mm w a b;rw[show(1+(j:Int))=((j+1:Nat):Int)by omega]at b;refine⟨_,by omega,j+1,rfl,by omega,?_,mm,b⟩;intro z c;rw[a0n,e]at c;rcases a0m.1 c with c|c
   .exact l z c
   .simp at c;rw[c];exact f
  |false =>
   have k:S.aD[(j:Int).toNat]?=some ⟨⟨x.now,false,x.bH,x.cU,x.aM,x.aZ,x.down⟩,x.ahead⟩:=by rw[<-f];simpa using e
   rw[g f];exact t.go (ev1 _ [(S.aD.length:Int),(j:Int)] (vT S [.I x.now]) (sT S [bP x.bH,aA x.cU,bM x.aM,aA x.aZ,aA x.down,bW x.ahead]) (.d (rK k) .nil)) (xK kn) b fun a w h=>pW h _
def TZ (y:abf (aW o)) (v:Rk (aW o)) (rh:Rl (aW o)) (B:abe (aW o)) (C:1<=S.aD.length/\S.aD.length<=4) (g:∀x∈S.aD,1<=x.now/\x.now<=12) {b:dL} (l:S.aD[0]?=some b) (k:∀x∈S.aD,x.now≠b.now->r=no 9)
  (s:∀mm w a,(∀x∈S.aD,x.now=b.now)->@dZ dK dN A w0 a0 mm w a (XR (.i (S.aD.length:Int))) (eB (B1 S))->KS Tryz.prog (oK o) (Fin Tryz.prog fC A w0 a0 r) (AX.exit 2).to a w)
  (mm:Nat->St) (w:World) (a:Act) (c:@dZ dK dN A w0 a0 mm w a (XR (.i 0)) (eB (B1 S))):(Code.loop (aW o)).wpIn (fw none) 9 Tryz.prog (KS Tryz.prog (oK o) (Fin Tryz.prog fC A w0 a0 r)) a w:=by
 refine cN (fun n a w=>∃(j:Nat),n=S.aD.length-j/\j<=S.aD.length/\(∀x∈S.aD.take j,x.now=b.now)/\∃mm,@dZ dK dN A w0 a0 mm w a (XR (.i (j:Int))) (eB (B1 S))) ?_ (n:=S.aD.length) ⟨0,rfl,a0j _,by simp,_,c⟩;rintro n a w ⟨j,rfl,F,p,mm,c⟩;rcases(by omega:j=S.aD.length\/j<S.aD.length)with u|t
 .subst u
  rw[a04]at p;refine B.go (ev1 _ [(S.aD.length:Int)] (vT S []) (sT S []) .nil) (xK kn) c ?_;exact fun mm w a c=>s mm w a p c
 .clear s
  obtain⟨x,f⟩:∃x,S.aD[j]?=some x:=⟨_,a0d t⟩;have k:=k x (a0a f);have D:=g x (a0a f);have E:=g b (a0a l);clear g;have m:S.aD[(j:Int).toNat]?=some ⟨⟨x.now,x.closed,x.bH,x.cU,x.aM,x.aZ,x.down⟩,x.ahead⟩:=by simpa using f
  have q:S.aD[0]?=some ⟨⟨b.now,b.closed,b.bH,b.cU,b.aM,b.aZ,b.down⟩,b.ahead⟩:=l;rcases(by omega:x.now=b.now\/x.now<b.now\/b.now<x.now)with h|h|h
  .refine y.go (ev1 _ [(S.aD.length:Int),(j:Int),b.now,x.now] (vT S [.bool b.closed,.bool x.closed]) (sT S [bP b.bH,aA b.cU,bM b.aM,aA b.aZ,aA b.down,bW b.ahead,bP x.bH,aA x.cU,bM x.aM,aA x.aZ,aA x.down,bW x.ahead]) (.d (rK q) (.d (rK m) .nil))) (xK kn) c (fd:=XR (.i (1+(j:Int)))) (bd:=B1 S) ?_
   intro mm w a c;rw[show(1+(j:Int))=((j+1:Nat):Int)by omega]at c;refine⟨_,by omega,j+1,rfl,by omega,?_,mm,c⟩;intro z e;rw[a0n,f]at e;rcases a0m.1 e with e|e
   .exact p z e
   .simp at e;rw[e];exact h
  .rw[k (by omega)]
   exact v.go (ev1 _ [(S.aD.length:Int),(j:Int),b.now,x.now] (vT S [.bool b.closed,.bool x.closed]) (sT S [bP b.bH,aA b.cU,bM b.aM,aA b.aZ,aA b.down,bW b.ahead,bP x.bH,aA x.cU,bM x.aM,aA x.aZ,aA x.down,bW x.ahead]) (.d (rK q) (.d (rK m) .nil))) (xK kn) c fun a w h=>pW h _
  .rw[k (by omega)]
   exact rh.go (ev1 _ [(S.aD.length:Int),(j:Int),b.now,x.now] (vT S [.bool b.closed,.bool x.closed]) (sT S [bP b.bH,aA b.cU,bM b.aM,aA b.aZ,aA b.down,bW b.ahead,bP x.bH,aA x.cU,bM x.aM,aA x.aZ,aA x.down,bW x.ahead]) (.d (rK q) (.d (rK m) .nil))) (xK kn) c fun a w h=>pW h _
def ao7 {b:Option (RT Out)} (e:agS o b) (k:1<=S.aD.length/\S.aD.length<=4) {x:dL} (f:S.aD[0]?=some x) (c:x.now=now) (h:∀mm w a,@dZ dK dN A w0 a0 mm w a (c3F (.i 0)) (eB (B3 S now 0 []))->(Code.loop (aW b)).wpIn (fw none) 9 Tryz.prog (KS Tryz.prog (oK b) Φ) a w)
  (mm:Nat->St) (w:World) (a:Act) (g:@dZ dK dN A w0 a0 mm w a (XR (.i (S.aD.length:Int))) (eB (B1 S))):KS Tryz.prog (oK o) Φ (AX.exit 2).to a w:=by
 have j:S.aD[0]?=some ⟨⟨now,x.closed,x.bH,x.cU,x.aM,x.aZ,x.down⟩,x.ahead⟩:=by rw[f,<-c]
 exact e.go (ev1 _ [(S.aD.length:Int)] (vT S [.I now,.bool x.closed]) (sT S [bP x.bH,aA x.cU,bM x.aM,aA x.aZ,aA x.down,bW x.ahead]) (.d (rK j) .nil)) (xK kn) g (fd:=c3F (.i 0)) (bd:=B3 S now 0 []) h
def items (t:dD { vars:=[(1,4),(1,5),(0,4)],facts:=KdY,lens:=[Kg7,Kg9,Khf],bR:=[(41,[.any,KfT,.v 2],(.agg KfJ))] } (aW o) (c3F (.v 2)) [YH,KaP,Ka0,(.cells 38 4 [[.o 3,(.cZ 46 4 4 [([2],1)]),.emp,.emp]]),(.sc 46 4 7 [] [] [([2],1)])] 0 [some 0,some 1,some 2,some 3,some 6] (c3F KfF) [YH,KaP,Ka0,(.cells 38 4 [[.o 3,(.cZ 46 4 4 KgF),.emp,.emp]]),Hl]) (s:dD { vars:=[(1,4),(1,5)],lens:=Bj } (aW o) (c3F (.v 1)) KK 6 [some 0,some 1,some 2,some 3,some 4] (c3F (.v 1)) KK) (y:1<=S.aD.length/\S.aD.length<=4) (D:1<=S.weights.length/\S.weights.length<=5)
  (e:∀i:Int,0<=i/\i<S.weights.length->Ck 41 [.any,S.av,.i i] (.agg [.i (vM S i).q,.i (vM S i).v,.i (vM S i).p,.i (vM S i).d]))
  (l:∀mm w a,@dZ dK dN A w0 a0 mm w a (c3F (.i (S.weights.length:Int))) (eB (B3 S now S.weights.length (dP (wM S S.weights.length))))->KS Tryz.prog (oK o) Φ (AX.exit 4).to a w)
  (mm:Nat->St) (w:World) (a:Act) (c:@dZ dK dN A w0 a0 mm w a (c3F (.i 0)) (eB (B3 S now 0 []))):(Code.loop (aW o)).wpIn (fw none) 9 Tryz.prog (KS Tryz.prog (oK o) Φ) a w:=by
 refine cN (fun n a w=>∃(j:Nat) (its:List nW),n=S.weights.length-j/\j<=S.weights.length/\its=wM S j/\∃mm,@dZ dK dN A w0 a0 mm w a (c3F (.i (j:Int))) (eB (B3 S now j (dP its)))) ?_ (n:=S.weights.length) ⟨0,[],rfl,a0j _,rfl,_,c⟩;rintro n a w ⟨j,its,rfl,E,b,mm,c⟩;have B:its.length=j:=by rw[b];simp[wM]
 have C:=jG its;rcases(by omega:j=S.weights.length\/j<S.weights.length)with r|z
 .subst r
  rw[<-b]at l;clear b e;refine s.go (ev1 _ [(S.aD.length:Int),(S.weights.length:Int)] (vT S [.I now]) (sT S [dP its]) .nil) (xK kn) c ?_;exact l
 .clear l
  have m:=e (j:Int) ⟨by omega,by omega⟩;have hs:=Pd S j;clear e;obtain⟨⟨k,h,g,f⟩,u⟩:∃x,x=vM S (j:Int):=⟨_,rfl⟩;rw[<-u]at m hs;simp only at m;refine t.go (ev1 _ [(S.aD.length:Int),(S.weights.length:Int),(j:Int)] (vT S [.I now,.I k,.I h,.I g,.I f]) (sT S [dP its]) .nil) (xK (kc m kn)) c (fd:=c3F (.i (1+(j:Int)))) (bd:=B3 S now (1+(j:Int)).toNat (dP its++[[.i k,.i h,.i g,.i f]])) ?_;intro mm w a c;rw[show(1+(j:Int))=((j+1:Nat):Int)by omega,a0w,show dP its++[[.i k,.i h,.i g,.i f]]=dP (its++[⟨k,h,g,f⟩])by simp[dP,nW.row]]at c;exact⟨_,by omega,j+1,_,rfl,by omega,by rw[hs,b],mm,c⟩
section
variable {b0 b1 b2 b3 here mN:Int} {its:List nW}
def ao6 {b:Option (RT Out)} (c:agR o b) (k:1<=S.aD.length/\S.aD.length<=4) (n:1<=S.weights.length/\S.weights.length<=5) (l:its.length=S.weights.length) (t:GL.Bd b0) (h1:GL.Bd b1) (s:GL.Bd b2) (r:GL.Bd b3) (q:GL.Bd here) (p:GL.Bd mN)
  (f:Ck 43 [.any,S.av,.i 14] (.i b0)) (e:Ck 43 [.any,S.av,.i 13] (.i b1)) (Nr:Ck 43 [.any,S.av,.i 15] (.i b2)) (d:Ck 43 [.any,S.av,.i 16] (.i b3)) (j:Ck 42 [.any,S.av] (.bG [.i here,.i mN]))
  (h:∀mm w a,@dZ dK dN A w0 a0 mm w a (f4 0) (eB (B4 S now its b0 b1 b2 b3 here mN []))->(Code.loop (aW b)).wpIn (fw none) 9 Tryz.prog (KS Tryz.prog (oK b) Φ) a w)
  (mm:Nat->St) (w:World) (a:Act) (g:@dZ dK dN A w0 a0 mm w a (c3F (.i (S.weights.length:Int))) (eB (B3 S now S.weights.length (dP its)))):KS Tryz.prog (oK o) Φ (AX.exit 4).to a w:=by
 have m:=jG its;exact c.go (ev1 _ [(S.aD.length:Int),(S.weights.length:Int),b0,b1,b2,b3,here,mN] (vT S [.I now]) (sT S [dP its]) .nil) (xK (kc f (kc e (kc Nr (kc d (kc j kn)))))) g (fd:=f4 0) (bd:=B4 S now its b0 b1 b2 b3 here mN []) h
def six (r0:dD { vars:=Jn,lens:=Bj } (aW o) (Sm (.own 3 1 6 0 0) (.i 0)) Kq 0 [some 0,some 1,some 2,some 3,some 4,some 5,some 8] (Sm (.own 3 1 6 0 1) (.i 1)) Kp) (r1:dD { vars:=Jn,lens:=Bj } (aW o) (Sm (.own 3 1 6 0 1) (.i 1)) Kp 0 [some 0,some 1,some 2,some 3,some 4,some 5,some 8] (Sm (.own 3 1 6 0 2) (.i 2)) Ko) (r2:dD { vars:=Jn,lens:=Bj } (aW o) (Sm (.own 3 1 6 0 2) (.i 2)) Ko 0 [some 0,some 1,some 2,some 3,some 4,some 5,some 8] (Sm (.own 3 1 6 0 3) (.i 3)) Km) (f:dD { vars:=Jn,lens:=Bj } (aW o) (Sm (.own 3 1 6 0 3) (.i 3)) Km 0 [some 0,some 1,some 2,some 3,some 4,some 5,some 8] (Sm (.own 3 1 6 0 4) (.i 4)) Kk) (e:dD { vars:=Jn,lens:=Bj } (aW o) (Sm (.own 3 1 6 0 4) (.i 4)) Kk 0 [some 0,some 1,some 2,some 3,some 4,some 5,some 8] (Sm (.own 3 1 6 0 5) (.i 5)) Ki) (d:dD { vars:=Jn,lens:=Bj } (aW o) (Sm (.own 3 1 6 0 5) (.i 5)) Ki 0 [some 0,some 1,some 2,some 3,some 4,some 5,some 8] (Sm KgH (.i 6)) Kh) (c:dD { vars:=Jn,lens:=Bj } (aW o) (Sm KgH (.i 6)) Kh 8 [some 0,some 1,some 2,some 3,some 4,some 5,some 6] (Sm KgH (.i 6)) Kh) (h:1<=S.aD.length/\S.aD.length<=4) (m:1<=S.weights.length/\S.weights.length<=5) (k:its.length=S.weights.length) (u:GL.Bd b0) (h1:GL.Bd b1) (t:GL.Bd b2) (s:GL.Bd b3) (r:GL.Bd here) (q:GL.Bd mN)
  (g:∀mm w a,@dZ dK dN A w0 a0 mm w a (f4 6) (eB (B4 S now its b0 b1 b2 b3 here mN (i6 b0 b1 b2 b3 here mN)))->KS Tryz.prog (oK o) Φ (AX.exit 6).to a w)
  (mm:Nat->St) (w:World) (a:Act) (b:@dZ dK dN A w0 a0 mm w a (f4 0) (eB (B4 S now its b0 b1 b2 b3 here mN []))):(Code.loop (aW o)).wpIn (fw none) 9 Tryz.prog (KS Tryz.prog (oK o) Φ) a w:=by
 have l:=jG its;refine cN (fun n a w=>∃(j:Nat),n=6-j/\j<=6/\∃mm,@dZ dK dN A w0 a0 mm w a (f4 j) (eB (B4 S now its b0 b1 b2 b3 here mN ((i6 b0 b1 b2 b3 here mN).take j)))) ?_ (n:=6) ⟨0,rfl,a0j _,_,b⟩;rintro n a w ⟨j,rfl,p,mm,b⟩;rcases(by omega:j=0\/j=1\/j=2\/j=3\/j=4\/j=5\/j=6)with rfl|rfl|rfl|rfl|rfl|rfl|rfl
 .refine r0.go (ev1 _ [(S.aD.length:Int),(S.weights.length:Int),b0,b1,b2,b3,here,mN] (vT S [.I now]) (sT S [dP its]) .nil) (xK kn) b (fd:=f4 1) (bd:=B4 S now its b0 b1 b2 b3 here mN ((i6 b0 b1 b2 b3 here mN).take 1)) ?_
  exact fun mm w a b=>⟨_,by omega,1,rfl,by omega,mm,b⟩
 .refine r1.go (ev1 _ [(S.aD.length:Int),(S.weights.length:Int),b0,b1,b2,b3,here,mN] (vT S [.I now]) (sT S [dP its]) .nil) (xK kn) b (fd:=f4 2) (bd:=B4 S now its b0 b1 b2 b3 here mN ((i6 b0 b1 b2 b3 here mN).take 2)) ?_
  exact fun mm w a b=>⟨_,by omega,2,rfl,by omega,mm,b⟩
 .refine r2.go (ev1 _ [(S.aD.length:Int),(S.weights.length:Int),b0,b1,b2,b3,here,mN] (vT S [.I now]) (sT S [dP its]) .nil) (xK kn) b (fd:=f4 3) (bd:=B4 S now its b0 b1 b2 b3 here mN ((i6 b0 b1 b2 b3 here mN).take 3)) ?_
  exact fun mm w a b=>⟨_,by omega,3,rfl,by omega,mm,b⟩
 .refine f.go (ev1 _ [(S.aD.length:Int),(S.weights.length:Int),b0,b1,b2,b3,here,mN] (vT S [.I now]) (sT S [dP its]) .nil) (xK kn) b (fd:=f4 4) (bd:=B4 S now its b0 b1 b2 b3 here mN ((i6 b0 b1 b2 b3 here mN).take 4)) ?_
  exact fun mm w a b=>⟨_,by omega,4,rfl,by omega,mm,b⟩
 .refine e.go (ev1 _ [(S.aD.length:Int),(S.weights.length:Int),b0,b1,b2,b3,here,mN] (vT S [.I now]) (sT S [dP its]) .nil) (xK kn) b (fd:=f4 5) (bd:=B4 S now its b0 b1 b2 b3 here mN ((i6 b0 b1 b2 b3 here mN).take 5)) ?_
  exact fun mm w a b=>⟨_,by omega,5,rfl,by omega,mm,b⟩
 .refine d.go (ev1 _ [(S.aD.length:Int),(S.weights.length:Int),b0,b1,b2,b3,here,mN] (vT S [.I now]) (sT S [dP its]) .nil) (xK kn) b (fd:=f4 6) (bd:=B4 S now its b0 b1 b2 b3 here mN (i6 b0 b1 b2 b3 here mN)) ?_
  exact fun mm w a b=>⟨_,by omega,6,rfl,by omega,mm,b⟩
 .refine c.go (ev1 _ [(S.aD.length:Int),(S.weights.length:Int),b0,b1,b2,b3,here,mN] (vT S [.I now]) (sT S [dP its]) .nil) (xK kn) b ?_
  exact g
def ao5 {c:Option (RT Out)} (d:agQ o c) (j:1<=S.aD.length/\S.aD.length<=4) (n:1<=S.weights.length/\S.weights.length<=5) (k:its.length=S.weights.length) (u:GL.Bd b0) (h1:GL.Bd b1) (t:GL.Bd b2) (s:GL.Bd b3) (r:GL.Bd here) (q:GL.Bd mN) (M:NQ ml) {b:Int} (p:-288230376151711744<=b/\b<=288230376151711744)
  (g:Ck 44 [.any,.lit 1 (aA [-b0,-b1,-b2,-b3,-here,-mN])] (.i b))
  (h:Ck 45 [.lit 2 (bS [⟨14,-b0⟩,⟨13,-b1⟩,⟨15,-b2⟩,⟨16,-b3⟩,⟨0,-here⟩,⟨12,-mN⟩,⟨5,-b⟩])] (.bG [.lit 2 (bS ml),.i 0]))
  (f:∀mm w a,@dZ dK dN A w0 a0 mm w a (c5F (.lit 2 (bS ml)) (.i 0)) (eB (B5 S now ml its 0 []))->(Code.loop (aW c)).wpIn (fw none) 9 Tryz.prog (KS Tryz.prog (oK c) Φ) a w)
  (mm:Nat->St) (w:World) (a:Act) (e:@dZ dK dN A w0 a0 mm w a (f4 6) (eB (B4 S now its b0 b1 b2 b3 here mN (i6 b0 b1 b2 b3 here mN)))):KS Tryz.prog (oK o) Φ (AX.exit 6).to a w:=by
 have l:=jG its;have m:=M.len;exact d.go (ev1 _ [(S.aD.length:Int),(S.weights.length:Int),b0,b1,b2,b3,here,mN,b,(ml.length:Int)] (vT S [.I now]) (sT S [dP its,bS ml]) .nil) (xK (kc g (kc h kn))) e (fd:=c5F (.lit 2 (bS ml)) (.i 0)) (bd:=B5 S now ml its 0 []) f
end
end
end NL
end
section
open Mc
variable {o:Option (RT Out)} {S:bK}
namespace NL
section
variable {S:bK} {A:Nat->Prop} {w0:World} {a0:Act} {now:Int} {ml:List dE} {r:AV} {its:List nW}
def lines (G:agN (aW o)) (s:ada (aW o)) (t:adb (aW o)) (H:agO (aW o)) (J:agP o) (L:1<=S.aD.length/\S.aD.length<=4) (R:1<=S.weights.length/\S.weights.length<=5) (M:NQ ml) (N:its.length=S.weights.length) {i:Nat} (U:i<17) {bs:List Int} (V:bs.length=i) {b:Int} (P:GL.Bd b) {Φ:iO}
  (p:∀mm w a,@dZ dK dN A w0 a0 mm w a (c5F (.lit 2 (bS ml)) (.i ((i+1:Nat):Int))) (eB (B5 S now ml its (i+1) (aA (bs++[b+iL ml (i:Int)]))))->Φ (AX.normal).to a w)
  (mm:Nat->St) (w:World) (a:Act) (c:@dZ dK dN A w0 a0 mm w a (SE (.lit 2 (bS ml)) (.i (i:Int)) (.i b) (.i 0)) (eB (B5 S now ml its i (aA bs)))):(Code.loop (aW o)).wpIn (fw none) 9 Tryz.prog (KS Tryz.prog (oK o) Φ) a w:=by
 have Q:=M.len;have O:=jG its;refine cN (fun m a w=>∃(j:Nat) (n:Int),m=ml.length-j/\j<=ml.length/\n=b+iL (ml.take j) (i:Int)/\∃mm,@dZ dK dN A w0 a0 mm w a (SE (.lit 2 (bS ml)) (.i (i:Int)) (.i n) (.i (j:Int))) (eB (B5 S now ml its i (aA bs)))) ?_ (n:=ml.length) ⟨0,b,rfl,a0j _,by simp[iL],_,c⟩;rintro m a w ⟨j,n,rfl,T,e,mm,c⟩;have k:=CS (ml.take j) (fun x h=>(M.ok x (a2h h)).2.2) (i:Int);have r:((ml.take j).length:Int)<=12:=by rw[a2f];omega
 rcases(by omega:j=ml.length\/j<ml.length)with D|C
 .subst D
  rw[a04]at e;rw[<-e]at p;rw[a04]at k;have z:-288230376151711744<=n/\n<=288230376151711744:=by omega
  clear e k r;refine H.go (ev1 _ [(S.aD.length:Int),(S.weights.length:Int),(ml.length:Int),(i:Int),n] (vT S [.I now]) (sT S [dP its,bS ml,aA bs]) .nil) (xK kn) c ?_;intro mm w a c;refine J.go (ev1 _ [(S.aD.length:Int),(S.weights.length:Int),(ml.length:Int),(i:Int),n] (vT S [.I now]) (sT S [dP its,bS ml,aA bs]) .nil) (xK kn) c (fd:=c5F (.lit 2 (bS ml)) (.i (1+(i:Int)))) (bd:=B5 S now ml its (1+(i:Int)).toNat (aA bs++[[.i n]])) ?_;intro mm w a c;rw[show(1+(i:Int))=((i+1:Nat):Int)by omega,a0w,eY]at c;exact p mm w a c
 .clear p
  obtain⟨x,g⟩:∃x,ml[j]?=some x:=⟨_,a0d C⟩;have h:ml[(j:Int).toNat]?=some x:=by simpa using g
  obtain⟨Y,a2,X,W⟩:=M.ok x (a0a g);have hs:iL (ml.take (j+1)) (i:Int)=iL (ml.take j) (i:Int)+(if x.a=(i:Int)then x.n else 0):=by rw[a0n,g];exact Oz _ _ _
  have z:-270215977642229760<=n/\n<=270215977642229760:=by omega
  have nx:∀n',n'=b+iL (ml.take (j+1)) (i:Int)->∀mm w a,@dZ dK dN A w0 a0 mm w a (SE (.lit 2 (bS ml)) (.i (i:Int)) (.i n') (.i (1+(j:Int)))) (eB (B5 S now ml its i (aA bs)))->∃u,u<ml.length-j/\∃(j:Nat) (n:Int),u=ml.length-j/\j<=ml.length/\n=b+iL (ml.take j) (i:Int)/\∃mm,@dZ dK dN A w0 a0 mm w a (SE (.lit 2 (bS ml)) (.i (i:Int)) (.i n) (.i (j:Int))) (eB (B5 S now ml its i (aA bs))):=by
   intro n' B mm w a c;rw[show(1+(j:Int))=((j+1:Nat):Int)by omega]at c;exact⟨_,by omega,j+1,n',rfl,by omega,B,mm,c⟩
  clear k r;rcases(by omega:x.a=(i:Int)\/x.a<(i:Int)\/(i:Int)<x.a)with f|f|f
  .rw[if_pos f]at hs
   have nx:=nx (n+x.n) (by rw[hs];omega)
   clear hs e;have K:eW [n,x.n]:=by
    intro v y;simp only[a0c,a0b,or_false]at y;rcases y with rfl|rfl<;>exact⟨by omega,by omega⟩
   obtain⟨F,E⟩:=PN (l:=[n,x.n]) (by simp only[fL];simp only[eR,a1x,a1y];omega);have q:=mU K E;rw[F]at q;simp only[a0x,a1y,a1g]at q;exact G.go (ev1 _ [(S.aD.length:Int),(S.weights.length:Int),(ml.length:Int),(i:Int),n,(j:Int),x.a,x.n] (vT S [.I now]) (sT S [dP its,bS ml,aA bs]) (.d (aL h) .nil)) (xK (kc q kn)) c (fd:=SE (.lit 2 (bS ml)) (.i (i:Int)) (.i (n+x.n)) (.i (1+(j:Int)))) (bd:=B5 S now ml its i (aA bs)) nx
  all_goals
   rw[if_neg (by omega),a1g]at hs;have nx:=nx n (by rw[hs];omega);clear hs e
  .exact s.go (ev1 _ [(S.aD.length:Int),(S.weights.length:Int),(ml.length:Int),(i:Int),n,(j:Int),x.a] (vT S [.I now,.I x.n]) (sT S [dP its,bS ml,aA bs]) (.d (aL h) .nil)) (xK kn) c (fd:=SE (.lit 2 (bS ml)) (.i (i:Int)) (.i n) (.i (1+(j:Int)))) (bd:=B5 S now ml its i (aA bs)) nx
  .exact t.go (ev1 _ [(S.aD.length:Int),(S.weights.length:Int),(ml.length:Int),(i:Int),n,(j:Int),x.a] (vT S [.I now,.I x.n]) (sT S [dP its,bS ml,aA bs]) (.d (aL h) .nil)) (xK kn) c (fd:=SE (.lit 2 (bS ml)) (.i (i:Int)) (.i n) (.i (1+(j:Int)))) (bd:=B5 S now ml its i (aA bs)) nx
def fin (b:iU { vars:=[(1,4),(1,5),(0,12)],lens:=VO } Tryz.f17 o 8 (c5F (.q 2 8) (.i 17)) Ky GX) (d:1<=S.aD.length/\S.aD.length<=4) (h:1<=S.weights.length/\S.weights.length<=5) (M:NQ ml) (e:its.length=S.weights.length) {bs:List Int} (j:bs.length=17)
  (mm:Nat->St) (w:World) (a:Act) (c:@dZ dK dN A w0 a0 mm w a (c5F (.lit 2 (bS ml)) (.i 17)) (eB (B5 S now ml its 17 (aA bs)))):KS Tryz.prog (oK o) (Fin Tryz.prog fC A w0 a0 (.bG [.agg [.i now,.lit 4 (dP its),.lit 2 (bS ml),.lit 1 (aA bs)],.i 0])) (AX.exit 8).to a w:=by
 have g:=M.len;have f:=jG its;exact b.go (ev1 _ [(S.aD.length:Int),(S.weights.length:Int),(ml.length:Int)] (vT S [.I now]) (sT S [dP its,bS ml,aA bs]) .nil) (xK kn) c
def zX {oB:Option (RT Out)} (rB:al4 (aW o) oB) (s:agN (aW oB)) (g:ada (aW oB)) (h:adb (aW oB)) (t:agO (aW oB)) (u:agP oB) (v:dD { vars:=[(1,4),(1,5),(0,12)],lens:=VO } (aW o) (c5F (.q 2 8) (.i 17)) Ky 10 [some 0,some 1,some 2,some 3,some 4,some 5] (c5F (.q 2 8) (.i 17)) Ky) (j:1<=S.aD.length/\S.aD.length<=4) (x:1<=S.weights.length/\S.weights.length<=5) (M:NQ ml) (p:its.length=S.weights.length)
  (d:∀i:Int,0<=i/\i<=16->GL.Bd (xU S i).sum/\Ck 43 [.any,S.av,.i i] (.i (xU S i).sum)) {Φ:iO}
  (f:∀mm w a,@dZ dK dN A w0 a0 mm w a (c5F (.lit 2 (bS ml)) (.i 17)) (eB (B5 S now ml its 17 (aA (RZ S ml 17))))->KS Tryz.prog (oK o) Φ (AX.exit 8).to a w)
  (mm:Nat->St) (w:World) (a:Act) (c:@dZ dK dN A w0 a0 mm w a (c5F (.lit 2 (bS ml)) (.i 0)) (eB (B5 S now ml its 0 []))):(Code.loop (aW o)).wpIn (fw none) 9 Tryz.prog (KS Tryz.prog (oK o) Φ) a w:=by
 have B:=M.len;have z:=jG its;refine cN (fun n a w=>∃(i:Nat) (bs:List Int),n=17-i/\i<=17/\bs=RZ S ml i/\∃mm,@dZ dK dN A w0 a0 mm w a (c5F (.lit 2 (bS ml)) (.i (i:Int))) (eB (B5 S now ml its i (aA bs)))) ?_ (n:=17) ⟨0,[],rfl,a0j _,rfl,_,c⟩;rintro m a w ⟨i,bs,rfl,C,b,mm,c⟩;have y:bs.length=i:=by rw[b];simp[RZ]
 rcases(by omega:i=17\/i<17)with r|l
 .subst r
  rw[<-b]at f;clear b d;refine v.go (ev1 _ [(S.aD.length:Int),(S.weights.length:Int),(ml.length:Int)] (vT S [.I now]) (sT S [dP its,bS ml,aA bs]) .nil) (xK kn) c ?_;exact f
 .clear f
  obtain⟨e,cB⟩:=d (i:Int) ⟨by omega,by omega⟩;have hs:=Xk S ml i;clear d;obtain⟨n,k⟩:∃n,n=(xU S (i:Int)).sum:=⟨_,rfl⟩;rw[<-k]at e cB hs;refine rB.go (ev1 _ [(S.aD.length:Int),(S.weights.length:Int),(ml.length:Int),(i:Int),n] (vT S [.I now]) (sT S [dP its,bS ml,aA bs]) .nil) (xK (kc cB kn)) c (fd:=SE (.lit 2 (bS ml)) (.i (i:Int)) (.i n) (.i 0)) (bd:=B5 S now ml its i (aA bs)) ?_;refine lines s g h t u j x M p l y e ?_;intro mm w a c;exact⟨_,by omega,i+1,_,rfl,by omega,by rw[hs,b],mm,c⟩
end
def walk (oA b:Option (RT Out)) (t:al5 body oA) (q:agL (aW oA)) (s:agM (aW oA)) (p:agK (aW oA)) (j:agT oA b) (o:abf (aW b)) (n:Rk (aW b)) (rh:Rl (aW b)) (h:abe (aW b))
  (G:Gn S) (D:S.aD.length=2\/S.aD.length=3) {r:AV} (B:Cl r) (y:∀x∈S.aD,x.closed=false->r=no 8) {g:dL} (k:S.aD[0]?=some g) (v:(∀x∈S.aD,x.closed=true)->∀x∈S.aD,x.now≠g.now->r=no 9)
  (u:∀{A:Nat->Prop} {w0:World} {a0:Act} mm w a,(∀x∈S.aD,x.closed=true)->(∀x∈S.aD,x.now=g.now)->@dZ dK dN A w0 a0 mm w a (XR (.i (S.aD.length:Int))) (eB (B1 S))->KS Tryz.prog (oK b) (Fin Tryz.prog fC A w0 a0 r) (AX.exit 2).to a w) :
  Ck 17 [S.av] r:=by
 have f:1<=S.aD.length/\S.aD.length<=4:=by omega
 have l:∀x∈S.aD,1<=x.now/\x.now<=12:=by
  intro x z;obtain⟨e,C⟩:=a1j.1 z;exact(G.aJ e x C).now
 refine CK.fP Tryz.func17 (c:=body) (by kernel_rfl) (yO.out) B fun A w0 a0=>?_;intro mm w a d;rw[Tryz.ntmps17]at d;refine t.go (ev1 _ [(S.aD.length:Int)] (vT S []) (sT S []) .nil) (xK kn) d (fd:=c1F (.i 0)) (bd:=B1 S) ?_;refine T3 q s p f y ?_;intro mm w a m d;refine j.go (ev1 _ [(S.aD.length:Int)] (vT S []) (sT S []) .nil) (xK kn) d (fd:=XR (.i 0)) (bd:=B1 S) ?_;refine TZ o n rh h f l k (v m) ?_;exact fun mm w a hs d=>u mm w a m hs d
end NL
open NL in
def AY (G:Gn S) (g:S.aD.length=2\/S.aD.length=3) {e:Int} (h:(∃x∈S.aD,x.closed=false)/\e=8\/(∀x∈S.aD,x.closed=true)/\(∃x∈S.aD,∃y∈S.aD,x.now≠y.now)/\e=9):Ck 17 [S.av] (no e):=by
 obtain⟨j,f⟩:∃x,S.aD[0]?=some x:=⟨_,a0d (by omega)⟩;refine walk C9 vG alF alD alE alC afS afR acL acM afQ G g uD.out ?_ f ?_ ?_
 .intro x d b
  rcases h with⟨-,rfl⟩|⟨h,-⟩
  .rfl
  .rw[h x d]at b;cases b
 .intro b x d i
  rcases h with⟨⟨y,c,h⟩,-⟩|⟨-,-,rfl⟩
  .rw[b y c]at h;cases h
  .rfl
 .intro A w0 a0 mm w a b hs k
  rcases h with⟨⟨y,c,h⟩,-⟩|⟨-,⟨x,d,y,c,h⟩,-⟩
  .rw[b y c]at h;cases h
  .exact absurd ((hs x d).trans (hs y c).symm) h
def aez {l:List dE} (h:Small l):eW (dY l):=by
 intro v a;obtain⟨x,b,a⟩:=a1v.1 a;have:=h.ok x b;simp only[a0c,a0b,or_false]at a;rcases a with rfl|rfl<;>exact⟨by omega,by omega⟩
open NL in
def XH (G:Gn S) (K:S.aD.length=2\/S.aD.length=3) (n:1<=S.weights.length) (hc:∀x∈S.aD,x.closed=true) (hs:∀x∈S.aD,∀y∈S.aD,x.now=y.now) (M:Sml S) {x:dL} {now:Int} (m:S.aD[0]?=some x) (J:x.now=now) :
  Ck 17 [S.av] (.bG [.agg [.i now,.lit 4 (dP (wM S S.weights.length)),.lit 2 (bS (eF (gL7 S))),.lit 1 (aA (RZ S (eF (gL7 S)) 17))],.i 0]):=by
 have t:=(Ih G n K M.b M.h M.y).1;have u:=ahT t;have c:1<=S.aD.length/\S.aD.length<=4:=by omega
 have g:1<=S.weights.length/\S.weights.length<=5:=⟨n,G.hw⟩;have f:(wM S S.weights.length).length=S.weights.length:=by simp[wM]
 have I:(RZ S (eF (gL7 S)) 17).length=17:=by simp[RZ]
 have cU:∀a,0<=a/\a<=16->GL.Bd (xU S a).sum/\Ck 43 [.any,S.av,.i a] (.i (xU S a).sum):=fun a R=>by
  obtain⟨s1,s2,s3,s4⟩:=(M.b a R).sum;have:=On G R s2 s4;rw[s1]at this;exact⟨s3,this⟩
 have P:∀i:Int,0<=i/\i<S.weights.length->Ck 41 [.any,S.av,.i i] (.agg [.i (vM S i).q,.i (vM S i).v,.i (vM S i).p,.i (vM S i).d]):=fun i Q=>by
  obtain⟨f1,f2,f3,f4⟩:=M.q i Q;obtain⟨a1,a2,-,a4⟩:=f1.sum;obtain⟨b1,b2,-,b4⟩:=f2.sum;obtain⟨F,E,-,c4⟩:=f3.sum;obtain⟨k,j,-,d4⟩:=f4.sum;have:=IV G Q a2 b2 E j a4 b4 c4 d4;rw[a1,b1,F,k]at this;exact this
 obtain⟨u1,u2,s,u4⟩:=M.h.sum;obtain⟨v1,Z,r,Y⟩:=M.y.sum;have D:=Om G n K u2 u4 Z Y;rw[u1,v1]at D;obtain⟨B,V⟩:=cU 14 (by omega);obtain⟨k,F⟩:=cU 13 (by omega);obtain⟨j,E⟩:=cU 15 (by omega);obtain⟨z,U⟩:=cU 16 (by omega);obtain⟨its,o⟩:∃x,x=wM S S.weights.length:=⟨_,rfl⟩;obtain⟨ml,N⟩:∃x,x=eF (gL7 S):=⟨_,rfl⟩
 have T:Ck 45 [.lit 2 (bS (gL7 S))] (.bG [.lit 2 (bS ml),.i 0]):=by
  have h:=zT (gL7 S) (aez t) (by have:=t.len;omega);rw[zA t,<-N]at h;exact h
 have L:∃b0 b1 b2 b3 here mN e:Int,gL7 S=[⟨14,-b0⟩,⟨13,-b1⟩,⟨15,-b2⟩,⟨16,-b3⟩,⟨0,-here⟩,⟨12,-mN⟩,⟨5,-e⟩]/\b0=(xU S 14).sum/\b1=(xU S 13).sum/\b2=(xU S 15).sum/\b3=(xU S 16).sum/\here=(OS S S.aD.length).sum/\mN=(S.aH.map (·.bY)).sum/\e=-b0+(-b1+(-b2+(-b3+(-here+-mN)))):=⟨_,_,_,_,_,_,_,rfl,rfl,rfl,rfl,rfl,rfl,rfl,rfl⟩;obtain⟨b0,b1,b2,b3,here,mN,e,e7,q0,q1,q2,q3,q4,q5,q6⟩:=L;rw[e7]at T;rw[<-q0]at B V;rw[<-q1]at k F;rw[<-q2]at j E;rw[<-q3]at z U;rw[<-q4]at s D;rw[<-q5]at r D
 have hI:eW [-b0,-b1,-b2,-b3,-here,-mN]:=by
  intro v O;simp only[a0c,a0b,or_false]at O;rcases O with rfl|rfl|rfl|rfl|rfl|rfl<;>exact⟨by omega,by omega⟩
 obtain⟨X,W⟩:=PN (l:=[-b0,-b1,-b2,-b3,-here,-mN]) (by simp only[fL];simp only[eR,a1x,a1y];omega);have C:=mU hI W;rw[X]at C;simp only[a0x,a1y,a1g]at C;rw[<-q6]at C;have hr:-288230376151711744<=e/\e<=288230376151711744:=by omega
 rw[<-o]at f |-;rw[<-N]at u I |-;refine walk C9 vG alF alD alE alC afS afR acL acM afQ G K uD.out ?_ m ?_ ?_
 .intro x m H
  rw[hc x m]at H;cases H
 .intro _ y hy c
  exact absurd (hs y hy x (a0a m)) c
 .intro A w0 a0 mm w a _ _ pr
  refine ao7 anf c m J ?_ mm w a pr;refine items .of .of c g P ?_;rw[<-o];refine ao6 ane c g f B k j z s r V F E U D ?_;refine six .of .of .of .of .of .of .of c g f B k j z s r ?_;refine ao5 anb c g f B k j z s r u hr C T ?_;exact zX aoF .of .of .of .of .of .of c g u f cU (fin .of c g u f I)
end
end Go.Proofs.YtnepgggkgnckcaaGreat
