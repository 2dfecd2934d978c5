/-
 Texts joined and made small by wip/small.sh.
-/
import Derived.Test.YtnepgggkgnckcaaGreatJ6
set_option linter.all false
set_option maxHeartbeats 4000000
set_option maxRecDepth 1000000
namespace Go.Proofs.YtnepgggkgnckcaaGreat
open Go.RowKit
section
open Mc
section
variable {U W Q B:Int} {S T:bF} {e item loc dst q a ref:Int}
def IH {S0:bF} (n:Gn S0):∀(a vs:List Int) (U B:Int) (S:bF) (all:Int) (T:bF) (c:Int),Kn S0 S->yN (U+1000*a.length) W Q->1000<=U->Lm U W Q B S0.aF S->(∀k∈a,0<=k/\k<S0.aO.length)->(∀v∈vs,0<=v/\v<=1000)->a.length=vs.length->0<=all->gM S0 S a vs all=(T,c,0) ->
  Kn S0 T/\Lm (U+1000*a.length) W Q (B+8589934592*a.length) S0.aF T/\0<=c/\c<=all+1000*a.length
 |[],vs,U,B,S,all,T,c,K,C,l,h,_,_,_,j,b=>by
  simp only[gM]at b;cases b;exact⟨K,by simpa using h,j,by simp⟩
 |k::a,[],U,B,S,all,T,c,K,C,l,h,_,_,i,j,b=>by simp at i
 |k::a,v::vs,U,B,S,all,T,c,K,C,l,h,q,g,i,j,b=>by
  rw[pT]at b;have e1:((k::a).length:Int)=a.length+1:=by simp
  rw[e1]at C |-;have o:S0.rc k∈S0.aO:=dA (by have:=q k (by simp);omega);obtain⟨r1,r2,x,w,G,F,E,u⟩:=n.Eu _ o;obtain⟨S1,m,f,s⟩:∃S1 m f,jC S (S0.rc k) v=(S1,m,f):=⟨_,_,_,rfl⟩;rw[s]at b;dsimp only at b;split at b
  .rename_i d;exact absurd (congrArg (fun r=>r.2.2) b) d
  .rename_i d
   have d:f=0:=(by simpa using d);subst d;have D:yN U W Q:=⟨l,by have:=C.u1;omega,C.w0,C.w1,C.q1⟩;obtain⟨A,b1,J,H⟩:=afW n D K h ⟨r1.1,r1.2,r2.1,r2.2⟩ x w.1 u (g v (by simp)) s;have e:=g v (by simp);obtain⟨z,b2,y,I⟩:=IH n a vs (U+1000) (B+8589934592) S1 (all+m) T c A ⟨by omega,by have:=C.u1;omega,C.w0,C.w1,C.q1⟩ (by omega) b1 (fun k' p=>q k' (by simp[p])) (fun t e=>g t (by simp[e])) (by simpa using i) (by omega) b;exact⟨z,by rw[show U+1000*((a.length:Int)+1)=U+1000+1000*a.length by omega,show B+8589934592*((a.length:Int)+1)=B+8589934592+8589934592*a.length by omega];exact b2,y,by omega⟩
def aki {refs:List Int} (G:Gn S) (C:yN (U+3000) W Q) (p:1000<=U) (h:LS U W Q B S) (n:∀k∈refs,0<=k) (o:1<=refs.length/\refs.length<=3) (E:0<=a/\a<=1000) (z:Gn T) (q:qY S dst a refs=(T,0)):Up U W Q B T:=by
 obtain⟨w,-,-,sh,S1,all,u,r,i⟩:=T5 q;have b:∀k∈refs,0<=k/\k<S.aO.length:=by
  intro k b;have:refs.any (fun k=>decide ((S.aO.length:Int)<=k))=false:=by simpa using w
  rw[a1t]at this;have:=this k b;have:=n k b;simp at *;omega
 have c:=@sH a (refs.map (iT S dst));rw[u]at c;rcases c with⟨-,D,A,e,f,l⟩|⟨s,-⟩
 .dsimp only at e f l
  rw[a0w]at e;obtain⟨y,b1,H,F⟩:=IH G refs sh U B S 0 S1 all (.refl G.toStOk) ⟨by omega,by have:=C.u1;omega,C.w0,C.w1,C.q1⟩ p h.lm b (fun v m=>by have:=f v m;omega) e.symm (by omega) r
  obtain⟨r0,d⟩:∃r0,refs.headD 0=r0/\r0∈refs:=by
   cases refs with
   |nil=>simp at o
   |cons r0 t=>exact⟨r0,rfl,by simp⟩
  rw[d.1]at i;have g:S.rc r0∈S.aO:=dA (by have:=b r0 d.2;omega);obtain⟨r1,r2,-⟩:=G.Eu _ g;have x:Ix S (S.rc r0).aD (S.rc r0).item:=⟨r1.1,r1.2,r2.1,r2.2⟩;obtain⟨j,b2⟩:=b1.tQ y x i (by simp;omega) (by simp);exact LS.ao8 z h j rfl j.pap.1 b2 (by omega) (by omega) (by omega) (by omega)
 .rcases s with s|s<;>cases s
def Lm.acW {sa':List kJ} (h:Lm U W Q B sa' S) (f:B<=144115188075855872) (G:StOk S) (x:Ix S e item) {l:List cU} (b:Small l) (hs:(eY l).sum=0):∃S1,cZ S e l=(S1,0):=by
 have E:=G.mQ x;have L:=h.el G x;unfold cZ;rw[IT b];simp only;rw[if_neg (by simp),aa1 E.bl (fun a c=>by have:=L.cN _ (dA (d:=0) (k:=a) (l:=(S.aB e).cN) (by rw[E.bl];omega));omega) b hs];exact⟨_,by rw[if_neg (by simp)]⟩
def NJ {A B:Int} (f:A+B<=288230376151711744):∀(x y:List Int),(∀v∈x,-B<=v/\v<=B)->(∀v∈y,-A<=v/\v<=A)->0<=A->0<=B->∃s,rC x y=some s
 |[],_,_,_,_,_=>⟨_,by simp[rC];rfl⟩
 |_::_,[],_,_,_,_=>⟨_,by simp[rC];rfl⟩
 |a::l,b::r,e,d,h,g=>by
  have j:=e a (by simp);have i:=d b (by simp);obtain⟨s,hs⟩:=NJ f l r (fun v c=>e v (by simp[c])) (fun v c=>d v (by simp[c])) h g;have ok:gD a b=true:=pR.2 ⟨fG.2 ⟨by omega,by omega⟩,fG.2 ⟨by omega,by omega⟩,fG.2 ⟨by omega,by omega⟩⟩;refine⟨mY a b::s,?_⟩;simp only[rC,mZ,ok,if_true,hs];rfl
def Lm.ajf {sa':List kJ} (h:Lm U W Q B sa' S) (d:0<=B/\B<=144115188075855872) (G:StOk S) (x:Ix S e item) {r:List Int} (b:∀v∈r,-8589934592<=v/\v<=8589934592):∃S1,dR S e item r=(S1,0):=by
 have L:=h.el G x;obtain⟨s,hs⟩:=NJ (A:=8589934592) (B:=B) (by omega) ((S.aB e).rG item) r (fun v a=>by
  by_cases c:item.toNat<(S.aB e).aJ.length
  .exact L.rG _ (dA c) v a
  .unfold dE.rG at a
   rw[a0c,a04 (by omega)]at a;simp at a) b (by omega) d.1
 unfold dR;rw[hs];exact⟨_,rfl⟩
def Ra {l:List bP} {n:Int} (a:LR l) (h:∀x∈l,Un U W x):(∀x∈(iK l n).1,Un U W x)/\Un U W (iK l n).2/\qs (iK l n).1<=qs l/\(iK l n).2.q<=max n 0/\(iK l n).2.q<=qs l:=by
 have q0:=(fQ a.ok).1;unfold iK;split
 .obtain⟨e,d⟩:=ada (q:=n) a h
  refine⟨e,d,?_⟩;unfold fN;rw[if_neg (by omega),a.uL.1];split
  .exact⟨a0h _,by simp[bP.zero];omega,by simp[bP.zero];exact q0⟩
  .rename_i hs
   simp only at hs;obtain⟨c,b,-⟩:=tT l .zero n a (by omega) (by omega);simp only[bP.zero]at c b |-;exact⟨by omega,by omega,by omega⟩
 .exact⟨h,.zero,a0h _,by simp[bP.zero];omega,by simp[bP.zero];exact q0⟩
def MG (a c p:List Int) (l:List kJ) (e k:Nat) (now:Int) (b:∀i∈a,0<=i/\i<l.length):∀j,j<=a.length->gN (mL a c p l j) e k now=gN l e k now
 |0,_=>rfl
 |j+1,h=>by
  have g:=MG a c p l e k now b j (by omega);have m:=b _ (dA (d:=0) (show j<a.length by omega));simp only[mL];have f:(a.getD j 0).toNat<(mL a c p l j).length:=by rw[zK];omega
  rw[Al (getD_some (d:=.nil) f),g];have:sY e k now { (mL a c p l j).getD (a.getD j 0).toNat .nil with cost:=c.getD j 0,bW:=p.getD j 0 }=sY e k now ((mL a c p l j).getD (a.getD j 0).toNat .nil):=rfl;rw[this];omega
def O0 (a c p:List Int) (l:List kJ) (k:Nat):∀j,((mL a c p l j).getD k .nil).eX=(l.getD k .nil).eX/\((mL a c p l j).getD k .nil).back=(l.getD k .nil).back/\((mL a c p l j).getD k .nil).aD=(l.getD k .nil).aD
 |0=>⟨rfl,rfl,rfl⟩
 |j+1=>by
  have b:=O0 a c p l k j;simp only[mL];by_cases d:(a.getD j 0).toNat=k
  .by_cases e:k<(mL a c p l j).length
   .rw[d,Az _ _ _ _ e];exact b
   .rw[a0c,a0o,if_pos d,if_neg (by omega)]
    rw[a0c,a04 (by omega)]at b;exact b
  .rw[Ii _ _ _ _ _ d];exact b
def MH (a c p:List Int) (l:List kJ) (e:∀i∈a,0<=i/\i<l.length):∀j,j<=a.length->∀x∈mL a c p l j,x∈l\/∃i,i<j/\x.cost=c.getD i 0/\x.bW=p.getD i 0/\x.eX-x.back=(l.getD (a.getD i 0).toNat .nil).eX-(l.getD (a.getD i 0).toNat .nil).back/\x.aD=(l.getD (a.getD i 0).toNat .nil).aD
 |0,_,x,b=>.inl b
 |j+1,g,x,b=>by
  have f:=e _ (dA (d:=0) (show j<a.length by omega));simp only[mL]at b;rcases a08 b with b|rfl
  .rcases MH a c p l e j (by omega) x b with h|⟨i,f,h⟩
   .exact .inl h
   .exact .inr ⟨i,by omega,h⟩
  .have k:=O0 a c p l (a.getD j 0).toNat j
   exact .inr ⟨j,by omega,rfl,rfl,by dsimp only;rw[k.1,k.2.1],k.2.2⟩
def amB (P:kJ->Bool) (l:List kJ):∀j i,i<(zA P l j).length->(ID P l j).getD i 0=(l.getD ((zA P l j).getD i 0).toNat .nil).eX-(l.getD ((zA P l j).getD i 0).toNat .nil).back
 |0,i,h=>by simp[zA]at h
 |j+1,i,h=>by
  have f:=Fe P l j;simp only[zA,ID]at h |-;by_cases e:i<(zA P l j).length
  .have e1:∀(a b:List Int),i<a.length->(a++b).getD i 0=a.getD i 0:=fun a b d=>by
    rw[a0c,a12 d,<-a0c]
   rw[e1 _ _ e,e1 _ _ (by omega)];exact amB P l j i e
  .rw[a1o]at h
   by_cases c:P (l.getD j .nil)=true
   .rw[if_pos c]at h |-
    rw[if_pos c];simp only[List.length_singleton]at h;have e2:∀(a:List Int) (v:Int),i=a.length->(a++[v]).getD i 0=v:=fun a v d=>by
     rw[a0c,d];simp
    rw[e2 _ _ (by omega),e2 _ _ (by omega),a00]
   .rw[if_neg c]at h
    simp at h;omega
def aoT (P:kJ->Bool) (l:List kJ):∀j,∀k∈zA P l j,P (l.getD k.toNat .nil)=true
 |0,k,h=>by simp[zA]at h
 |j+1,k,h=>by
  simp only[zA,a0m]at h;rcases h with h|h
  .exact aoT P l j k h
  .split at h
   .rw[a05]at h;subst h;rw[a00];assumption
   .simp at h
def afy (P:kJ->Bool) (l:List kJ) (f:kJ->Int) (b:∀x∈l,f x=if P x=true then x.eX-x.back else 0):∀j,j<=l.length->(ID P l j).sum=((l.take j).map f).sum
 |0,_=>by simp[ID]
 |j+1,h=>by
  have c:=afy P l f b j (by omega);have a:j<l.length:=by omega
  rw[a0u,a0f a];have d:l.getD j .nil=l[j]:=by rw[a0c,a0f a];rfl
  simp only[ID,a1h,c,Option.toList_some,a03,a0r,a1x,a0p,a2e];rw[d,b _ (a2w a)];split<;>simp
def SZ {t n U:Int} {ws:List Int} (m:0<=t/\t<=288230376151711744) (l:∀k∈ws,0<=k/\k<=1073741824) (p:ws.length<=40) (hs:∃k∈ws,0<k) (v:t<=U*n) (f:0<=U) (w:n<=ws.sum):∀i,i<ws.length->0<=(eG t ws).1.getD i 0/\(0<ws.getD i 0->(eG t ws).1.getD i 0<=(U+1)*ws.getD i 0):=by
 obtain⟨b,x,r⟩:=sS m l p hs;intro i q;refine⟨(r _ (dA (by omega))).1,fun s=>?_⟩
 unfold eG at b |-;split at b
 .cases b
 rename_i a;rw[if_neg a];split at b
 .cases b
 rename_i d;rw[if_neg d];have c:=pD.of (by simpa using a) (by simpa using d);obtain⟨j,g⟩:=LF (key:=vP (iW t (dP ws) ws)) (List.range ws.length);have F:=adz c j g;have o:=c.sum;dsimp only;generalize nR (iX t (dP ws) ws) ((Of (vP (iW t (dP ws) ws)) (List.range ws.length)).take (tU t (dP ws) ws))=A at *
 have k:t*ws.getD i 0/dP ws<=U*ws.getD i 0:=by
  apply a25 (by have:=c.s0;omega);have u:=mS (show U<=U from a0h _) (show(0:Int)<=max n 0 by omega) (show max n 0<=dP ws by have:=c.s0;omega) f;have m0:U*n<=U*max n 0:=a11 (by omega) f;have e:=jM (show t<=U*dP ws by omega) (show 0<=ws.getD i 0 by omega);rw[a4g]at e;exact e
 rw[a1n];rcases F.one i q with h|h<;>omega
def ON {v n U:Int} {ws:List Int} (j:qA v) (c:∀k∈ws,0<=k/\k<=1073741824) (e:ws.length<=40) (hs:∃k∈ws,0<k) (l:v<=U*n/\-(U*n)<=v) (g:0<=U) (d:n<=ws.sum):∀i,i<ws.length->(0<=v->0<=(iJ v ws).1.getD i 0)/\(0<ws.getD i 0->-((U+1)*ws.getD i 0)<=(iJ v ws).1.getD i 0/\(iJ v ws).1.getD i 0<=(U+1)*ws.getD i 0):=by
 unfold qA at j;intro i f;unfold iJ;split
 .obtain⟨a,b⟩:=SZ (t:=v) ⟨by omega,by omega⟩ c e hs l.1 g d i f
  refine⟨fun _=>a,fun h=>⟨by have:=b h;omega,b h⟩⟩
 .obtain⟨a,b⟩:=SZ (t:=-v) ⟨by omega,by omega⟩ c e hs (by omega) g d i f
  refine⟨fun h=>by omega,fun h=>?_⟩
  have e1:((eG (-v) ws).1.map (fun x=>-x)).getD i 0=-((eG (-v) ws).1.getD i 0):=by
   rw[a0c,a0l,a0c];cases(eG (-v) ws).1[i]?<;>simp
  show _<=((eG (-v) ws).1.map (fun x=>-x)).getD i 0/\((eG (-v) ws).1.map (fun x=>-x)).getD i 0<=_;rw[e1];have:=b h;omega
def aeZ (G:Gn S) (h:Lm U W Q B S.aF S) (I:0<=U) (N:0<=W) (x:Ix S e item) (l0:0<=loc) (l1:loc<=1) {y:bP} (K:(0<=y.v/\y.v<=288230376151711744)/\qA y.p) (g:Un U W y) (t:y.q<=gN S.aF e.toNat (2*item+loc).toNat (S.aB e).now) :
  Lm (U+1) (W+1) Q B (iO S e item loc y).aF (iO S e item loc y)/\(∀b k' now,gN (iO S e item loc y).aF b k' now=gN S.aF b k' now)/\(iO S e item loc y).aH=S.aH/\(∀z∈(iO S e item loc y).aF,z.aD≠e->z∈S.aF):=by
 have u:=h.mono G (show U<=U+1 by omega) (show W<=W+1 by omega) (a0h Q) (a0h B);unfold iO;split
 .exact⟨u,fun _ _ _=>rfl,rfl,fun z a _=>a⟩
 .rename_i hs
  have hs:smN (dC S e item loc) S.aF S.aF.length=true:=by simpa using hs
  have M:=G.N9;have D:=aas (dC S e item loc) S.aF S.aF.length (fun x L=>by obtain⟨_,_,_,b4,b5,_⟩:=G.C7 x L;omega) (a0g _);have hl:=So (dC S e item loc) S.aF S.aF.length;have R:=Fe (dC S e item loc) S.aF S.aF.length;have k:=aca (dC S e item loc) S.aF S.aF.length;have r:=Mi _ _ _ hs;have H:=aoT (dC S e item loc) S.aF S.aF.length;have F:=amB (dC S e item loc) S.aF S.aF.length
  have j:=afy (dC S e item loc) S.aF (sY e.toNat (2*item+loc).toNat (S.aB e).now) (fun z a=>by
   obtain⟨⟨z1,Z⟩,⟨Y,X⟩,⟨V,T⟩,_⟩:=G.C7 z a;have:=x.e0;have:=x.i0;unfold sY dC;simp only[a0e,decide_eq_true_eq];by_cases l:z.waits=true/\z.aD=(e.toNat:Int)/\2*z.item+z.loc=((2*item+loc).toNat:Int)/\z.period=(S.aB e).now
   .rw[if_pos l,if_pos ⟨⟨⟨⟨l.1,by omega⟩,by omega⟩,by omega⟩,l.2.2.2⟩]
   .rw[if_neg l,if_neg (fun c=>l ⟨c.1.1.1.1,by omega,by omega,c.2⟩)]) S.aF.length (a0g _)
  rw[a1g]at j;rw[show gN S.aF e.toNat (2*item+loc).toNat (S.aB e).now=(S.aF.map (sY e.toNat (2*item+loc).toNat (S.aB e).now)).sum from rfl,<-j]at t;have P:=ON (v:=y.v) (n:=y.q) (U:=U) ⟨by omega,by omega⟩ D (by omega) r ⟨g.vu,by have:=a0q I g.q;omega⟩ I t;have p1:=ON (v:=y.p) (n:=y.q) (U:=W) K.2 D (by omega) r ⟨g.p1,g.p0⟩ N t;generalize zA (dC S e item loc) S.aF S.aF.length=A at *;generalize ID (dC S e item loc) S.aF S.aF.length=m at *;have E:∀b k' now,gN (mL A (iJ y.v m).1 (iJ y.p m).1 S.aF A.length) b k' now=gN S.aF b k' now:=fun b k' now=>MG _ _ _ _ _ _ _ k _ (a0g _);refine⟨?_,E,rfl,fun z a C=>?_⟩;rotate_left
  .rcases MH _ _ _ _ k _ (a0g _) z a with a|⟨i,w,-,-,-,O⟩
   .exact a
   .have:=H _ (dA (d:=0) w)
    unfold dC at this;simp only[a0e,decide_eq_true_eq]at this;exact absurd (O.trans this.1.1.1.2) C
  have f:=u.aaS (sa':=mL A (iJ y.v m).1 (iJ y.p m).1 S.aF A.length) (fun b x' _ y' _ k'=>by rw[E];omega);refine⟨f.cost,f.aB,f.rc,fun z a=>?_,f.tr⟩;rcases MH _ _ _ _ k _ (a0g _) z a with a|⟨i,w,e1,e2,J,-⟩
  .exact u.sa z a
  .have o:=P i (by omega)
   have s:=p1 i (by omega);rw[<-F i w]at J;refine⟨by rw[e1];exact o.1 g.v,fun hq=>?_⟩
   rw[e1,e2,J];have o:=o.2 (by omega);have s:=s.2 (by omega);exact⟨o.2,s⟩
def Tg (G:Gn S) (e k:Nat) (now:Int):0<=gN S.aF e k now:=by
 have:∀l:List kJ,(∀x∈l,x.back<=x.eX)->0<=gN l e k now:=by
  intro l;induction l with
  |nil=>intro _;simp[gN]
  |cons z l a =>
   intro h;have:=a fun y b=>h y (by simp[b]);have d:=h z (by simp);simp only[gN,a0r,a0p]at this |-;unfold sY at *;split<;>omega
 exact this _ fun x c=>(G.C7 x c).2.2.2.2.1.2
def OQ (G:Gn S) (C:yN (U+1) (W+1) Q) (hU:1000<=U) (Z:0<=W) (hB:0<=B/\B<=72057594037927936) (h:Lm U W Q B S.aF S) (x:Ix S e item) (o:0<=loc) (l1:loc<=1) (hm:S.cE e item=3) :
  ∃T,hH S e item loc=(T,0)/\Lm (U+1) (W+1) Q (B+15032385536) T.aF T/\(∀J k' now,gN T.aF J k' now=gN S.aF J k' now)/\(∀k,((T.aB e).aU k).p0<=max ((S.aB e).aU k).p0 0)/\((T.aB e).aU (2*item+loc)).p0<=0/\(∀z∈T.aF,z.aD≠e->z∈S.aF):=by
 have P:=G.toStOk.xV x o l1;have hS:∀k,((S.aB e).aU k).p0<=max ((S.aB e).aU k).p0 0:=fun k=>by omega
 unfold hH;split
 .rename_i h0
  have:=P.a0;have:=P.b0;have:=P.c0;simp only[cY.pn]at *;exact⟨S,rfl,(h.mono G (by omega) (by omega) (a0h _) (by omega)),fun _ _ _=>rfl,hS,by omega,fun z H _=>H⟩
 .obtain⟨p1,p2,p3,-⟩:=h.aU G.toStOk x o l1
  have R:uc (S.cE e item) (S.cost e item) U=U:=if_neg (by omega);rw[R]at p1;obtain⟨D,a2,K,a4,a5⟩:=Lx (d:=((S.aB e).aU (2*item+loc)).pn) P.lr;obtain⟨s1,M,s3,s4,s5⟩:=Ra (n:=((S.aB e).aU (2*item+loc)).pn.a) P.lr p1;obtain⟨F,-⟩:=xO (n:=((S.aB e).aU (2*item+loc)).pn.a) P.lr;obtain⟨t1,t2,t3,t4,t5⟩:=Ra (n:=((S.aB e).aU (2*item+loc)).pn.b) F s1;obtain⟨N,-⟩:=xO (n:=((S.aB e).aU (2*item+loc)).pn.b) F;obtain⟨u1,u2,u3,u4,u5⟩:=Ra (n:=((S.aB e).aU (2*item+loc)).pn.c) N t1;have eL:nC ((S.aB e).aU (2*item+loc)).aN ((S.aB e).aU (2*item+loc)).pn=((iK (iK (iK ((S.aB e).aU (2*item+loc)).aN ((S.aB e).aU (2*item+loc)).pn.a).1 ((S.aB e).aU (2*item+loc)).pn.b).1 ((S.aB e).aU (2*item+loc)).pn.c).1,(iK ((S.aB e).aU (2*item+loc)).aN ((S.aB e).aU (2*item+loc)).pn.a).2,(iK (iK ((S.aB e).aU (2*item+loc)).aN ((S.aB e).aU (2*item+loc)).pn.a).1 ((S.aB e).aU (2*item+loc)).pn.b).2,(iK (iK (iK ((S.aB e).aU (2*item+loc)).aN ((S.aB e).aU (2*item+loc)).pn.a).1 ((S.aB e).aU (2*item+loc)).pn.b).1 ((S.aB e).aU (2*item+loc)).pn.c).2):=rfl;rw[eL]at D a2 K a4 a5 |-;dsimp only at D a2 K a4 a5;have q1:qs (iK (iK (iK ((S.aB e).aU (2*item+loc)).aN ((S.aB e).aU (2*item+loc)).pn.a).1 ((S.aB e).aU (2*item+loc)).pn.b).1 ((S.aB e).aU (2*item+loc)).pn.c).1<=Q:=by omega
  generalize (iK (iK (iK ((S.aB e).aU (2*item+loc)).aN ((S.aB e).aU (2*item+loc)).pn.a).1 ((S.aB e).aU (2*item+loc)).pn.b).1 ((S.aB e).aU (2*item+loc)).pn.c).1=l at *;generalize (iK (iK (iK ((S.aB e).aU (2*item+loc)).aN ((S.aB e).aU (2*item+loc)).pn.a).1 ((S.aB e).aU (2*item+loc)).pn.b).1 ((S.aB e).aU (2*item+loc)).pn.c).2=zz at *;generalize (iK (iK ((S.aB e).aU (2*item+loc)).aN ((S.aB e).aU (2*item+loc)).pn.a).1 ((S.aB e).aU (2*item+loc)).pn.b).2=yy at *;generalize (iK (iK ((S.aB e).aU (2*item+loc)).aN ((S.aB e).aU (2*item+loc)).pn.a).1 ((S.aB e).aU (2*item+loc)).pn.b).1=l2 at *;generalize (iK ((S.aB e).aU (2*item+loc)).aN ((S.aB e).aU (2*item+loc)).pn.a).2=xx at *;generalize (iK ((S.aB e).aU (2*item+loc)).aN ((S.aB e).aU (2*item+loc)).pn.a).1=l3 at *;clear eL;have L:yN U W Q:=⟨hU,by have:=C.u1;omega,Z,by have:=C.w1;omega,C.q1⟩;have xv:=(M.val L (by have:=C.q1;omega)).1;have yv:=(t2.val L (by have:=C.q1;omega)).1;have zv:=(u2.val L (by have:=C.q1;omega)).1;obtain⟨xq,f,xp⟩:=xx;obtain⟨yq,i,yp⟩:=yy;obtain⟨zq,g,zp⟩:=zz;dsimp only at *;have I:l.length<=1:=by rcases P.one with v|v<;>omega
  have q0:=(fQ D.ok).1;have u:=gH G.toStOk x o l1 (p:=⟨l,0,0,0⟩) ⟨D,.inr I,by show(0:Int)<=0;omega,by show(0:Int)<=0;omega,by show(0:Int)<=0;omega,by show(0:Int)+0+0<=qs l;omega,.inl hm⟩;have rn:=Tg G e.toNat (2*item+loc).toNat (S.aB e).now;have b0:=h.bR G.toStOk x o l1 (p:=⟨l,0,0,0⟩) (by rw[R];exact u1) q1 rn (fun _=>a0h _)
  have Xc:=G.toStOk.plt x o l1;have X:∀k,(((S.aZ e ((S.aB e).bR (2*item+loc) ⟨l,0,0,0⟩)).aB e).aU k).p0<=max ((S.aB e).aU k).p0 0:=by
   intro k;rw[bF.eS x];by_cases Y:k.toNat=(2*item+loc).toNat
   .have:((S.aB e).bR (2*item+loc) ⟨l,0,0,0⟩).aU k=⟨l,0,0,0⟩:=by
     have:=dE.Ex (x:=S.aB e) (k:=2*item+loc) (p:=⟨l,0,0,0⟩) Xc;unfold dE.aU at this |-;rw[Y];exact this
    rw[this];dsimp only;omega
   .rw[dE.CJ Y];omega
  have V:(((S.aZ e ((S.aB e).bR (2*item+loc) ⟨l,0,0,0⟩)).aB e).aU (2*item+loc)).p0<=0:=by
   rw[bF.eS x,dE.Ex Xc];exact a0h _
  generalize aa:S.aZ e ((S.aB e).bR (2*item+loc) ⟨l,0,0,0⟩)=S0 at *;have m:=u.ix x;obtain⟨S1,v⟩:=b0.acW (by omega) u.ok m (l:=[⟨5,f⟩,⟨7,i⟩,⟨8,g⟩,⟨0,-f⟩,⟨0,-i⟩,⟨0,-g⟩]) ⟨by simp;omega,by simp⟩ (by simp[eY];omega);have b1:=b0.post u.ok m (A:=2147483648) v (by simp;omega) (by omega);have t:=(dG u.ok m [⟨5,f⟩,⟨7,i⟩,⟨8,g⟩,⟨0,-f⟩,⟨0,-i⟩,⟨0,-g⟩]).1;rw[v]at t |-;dsimp only;rw[if_neg (by simp)];have w:=t.ix m;have b1:=b1.EJ (B':=B+12884901888) (by simp);obtain⟨s,q⟩:=b1.ajf (by omega) t.ok w (r:=[0,0,0,0,0,f,0,0,i,g,0]) (by simp;omega);have b2:=b1.yV t.ok w (A:=2147483648) q (by simp;omega) (by omega);have K2:=(eI t.ok w (r:=[0,0,0,0,0,f,0,0,i,g,0]) rfl).1;rw[q]at K2 |-;dsimp only;rw[if_neg (by simp)];have E:=(u.trans t).trans K2;have G2:=E.gn G;have es:s.aF=S.aF:=E.pap.1
  have j:∀k,((s.aB e).aU k).p0=((S0.aB e).aU k).p0:=by
   intro k;obtain⟨b,hb,-⟩:=zL v (u.ok.mQ m).bl;unfold dR at q;split at q
   .cases q
   .cases q
    rw[bF.eS w,hb];show(((S0.aZ e _).aB e).aU k).p0=_;rw[bF.eS m];rfl
  rw[<-es]at b2;obtain⟨c1,c2,c3,c4⟩:=aeZ (e:=e) (item:=item) (loc:=loc) G2 b2 (by omega) Z (E.ix x) o l1 (y:=⟨xq,f,xp⟩) K M (by
   rw[es,E.now];have:=P.a0;simp only[cY.pn]at *;omega)
  refine⟨_,rfl,c1.EJ (by omega),fun J k' now=>by rw[c2,es],fun k=>?_,?_,fun z H O=>by have:=c4 z H O;rwa[es]at this⟩
  .have:(iO s e item loc ⟨xq,f,xp⟩).aB e=s.aB e:=by unfold bF.aB;rw[c3]
   rw[this,j];exact X k
  .have:(iO s e item loc ⟨xq,f,xp⟩).aB e=s.aB e:=by unfold bF.aB;rw[c3]
   rw[this,j];exact V
end
end
section
open Mc
def OI (l:List cU):Int:=((List.range 17).map fun(a:Nat)=>val l (a:Int)).sum
structure Bk1 (x:EntC) (sD:Int):Prop where
 g:x.acc 0=x.iv
 w:x.acc 12=sD
 d:x.acc 11=-x.down.sum
 z:((List.range 17).map fun(a:Nat)=>x.acc (a:Int)).sum=0
def mE (S:bF) (W:Int->Int):Prop:=∀e:Int,0<=e->e<S.aH.length->Bk1 (S.aB e).toEntC (W e)/\∀y∈(S.aB e).ahead,Bk1 y (W e)
def bF.sD (S:bF) (e:Int):Int:=((S.aG.filter fun t=>t.dst==e).map (·.value)).sum
def dS (S:bF):Prop:=mE S S.sD
def lY {S:bF} {e e':Int} (x:dE) (a:0<=e) (h1:0<=e') (h:e'≠e):(S.aZ e x).aB e'=S.aB e':=by
 unfold bF.aB bF.aZ;simp only;rw[a0c,a0o,if_neg (by omega),<-a0c]
def OJ (f g:Nat->Int) (n:Nat):((List.range n).map fun a=>f a+g a).sum=((List.range n).map f).sum+((List.range n).map g).sum:=by
 induction n with
 |zero=>rfl
 |succ n b =>
  rw[a1v];simp only[a03,a1h,a0r,a1x,a0p,a2e,b];omega
def mE.ch {S S1:bF} {W:Int->Int} {e item d:Int} {l:List cU} (h:mE S W) (c:Ch S S1 e d l) (x:Ix S e item) (t:val l 0=d) (o:val l 11=0) (j:OI l=0) (i:val l 12=0\/(S.aB e).ahead=[]) :
  mE S1 (fun f=>W f+if f=e then val l 12 else 0):=by
 obtain⟨y,rfl,A,B,k,v,u⟩:=c;intro f p e1;have s:(S.aZ e y).aH.length=S.aH.length:=by simp[bF.aZ]
 rw[s]at e1;obtain⟨b,q⟩:=h f p e1;dsimp only;by_cases m:f=e
 .subst m
  have n:y.ahead=(S.aB f).ahead:=congrArg (fun r=>r.2.2) u;rw[bF.eS x,if_pos rfl];refine⟨⟨?_,?_,?_,?_⟩,?_⟩
  .rw[k 0 (by omega) (by omega),b.g,A,t]
  .rw[k 12 (by omega) (by omega),b.w]
  .rw[k 11 (by omega) (by omega),b.d,o,v];omega
  .have:(List.range 17).map (fun(a:Nat)=>y.acc (a:Int))=(List.range 17).map (fun(a:Nat)=>(S.aB f).acc (a:Int)+val l (a:Int)):=a01 fun a i=>by
    rw[a0t]at i;exact k a (by omega) (by omega)
   rw[this,OJ (fun a=>(S.aB f).acc (a:Int)) (fun a=>val l (a:Int)),b.z];show 0+OI l=0;omega
  .intro z j
   rw[n]at j;rcases i with i|i
   .rw[i,a1i];exact q z j
   .rw[i]at j;cases j
 .rw[lY y x.e0 p m,if_neg m,a1i]
  exact⟨b,q⟩
def mE.to {S T:bF} {W c:Int->Int} (h:mE S W) (a:T.aH=S.aH) (d:∀e:Int,0<=e->e<S.aH.length->c e=W e):mE T c:=by
 intro e b e1;rw[a]at e1;rw[d e b e1];have:T.aB e=S.aB e:=by unfold bF.aB;rw[a]
 rw[this];exact h e b e1
section
variable {U W Q B:Int} {S T:bF} {e item loc dst q a ref:Int}
def aaF (G:Gn S) (C:yN (U+2) (W+2) Q) (j:1000<=U) (i:0<=W) (s:0<=B/\B<=36028797018963968) (h:Lm U W Q B S.aF S) (x:Ix S e item) (b:S.cE e item=3) :
  ∃T,jD S e item=(T,0)/\Lm (U+2) (W+2) Q (B+30064771072) T.aF T/\(∀c k' now,gN T.aF c k' now=gN S.aF c k' now)/\(∀k,((T.aB e).aU k).p0<=max ((S.aB e).aU k).p0 0)/\((T.aB e).aU (2*item)).p0<=0/\((T.aB e).aU (2*item+1)).p0<=0/\(∀z∈T.aF,z.aD≠e->z∈S.aF):=by
 obtain⟨t,f,a2,q,p,o,n⟩:=OQ (loc:=0) G ⟨by omega,by have:=C.u1;omega,by omega,by have:=C.w1;omega,C.q1⟩ j i (by omega) h x (by omega) (by omega) b;have v:=(wH G x (loc:=0) (by omega) (by omega) b).1;rw[f]at v;dsimp only at v;obtain⟨r,b1,b2,b3,d,m,l⟩:=OQ (loc:=1) v.gn (U:=U+1) (W:=W+1) ⟨by omega,by have:=C.u1;omega,by omega,by have:=C.w1;omega,C.q1⟩ (by omega) (by omega) (by omega) a2 (v.ix x) (by omega) (by omega) (by rw[v.cE];exact b);unfold jD;rw[f];dsimp only;rw[if_neg (by simp),b1];dsimp only;rw[if_neg (by simp)];rw[a1i]at o;refine⟨r,rfl,?_,fun c k' now=>by rw[b3,q],fun k=>?_,?_,m,fun z g a=>n z (l z g a) a⟩
 .have e1:U+1+1=U+2:=by omega
  have e2:W+1+1=W+2:=by omega
  rw[e1,e2]at b2;exact b2.EJ (by omega)
 .have:=p k;have:=d k;omega
 .have:=d (2*item);omega
def FJ {e:Int} {Q:Int}:∀(n j:Nat) (U W B:Int) (S:bF),Gn S->yN (U+2*n) (W+2*n) Q->1000<=U->0<=W->0<=B->B+30064771072*n<=36028797018963968->Lm U W Q B S.aF S->(0<=e/\e<S.aH.length)->n+j<=S.weights.length ->
  ∃T,jE e n j S=(T,0)/\Lm (U+2*n) (W+2*n) Q (B+30064771072*n) T.aF T/\(∀r k' now,gN T.aF r k' now=gN S.aF r k' now)/\(∀k,((T.aB e).aU k).p0<=max ((S.aB e).aU k).p0 0)/\(∀i:Nat,j<=i->i<j+n->S.cE e (i:Int)=3->((T.aB e).aU (2*(i:Int))).p0<=0/\((T.aB e).aU (2*(i:Int)+1)).p0<=0)/\(∀z∈T.aF,z.aD≠e->z∈S.aF)
 |0,j,U,W,B,S,G,C,p,o,q,g,h,a,A=>⟨S,rfl,by simpa using h,fun _ _ _=>rfl,fun k=>by omega,fun i x w=>by omega,fun z l _=>l⟩
 |n+1,j,U,W,B,S,G,C,p,o,q,g,h,a,A=>by
  have e1:((n+1:Nat):Int)=(n:Int)+1:=by omega
  rw[e1]at C g |-;unfold jE;by_cases b:S.cE e (j:Int)=3
  .rw[if_pos b]
   obtain⟨I,H,a2,F,E,K,J,D⟩:=aaF G (e:=e) (item:=(j:Int)) (U:=U) (W:=W) (B:=B) (Q:=Q) ⟨by omega,by have:=C.u1;omega,by omega,by have:=C.w1;omega,C.q1⟩ p o ⟨q,by omega⟩ h ⟨a.1,a.2,by omega,by omega⟩ b;have v:=(CA G (e:=e) (item:=(j:Int)) ⟨a.1,a.2,by omega,by omega⟩ b).1;rw[H]at v |-;dsimp only at v |-;rw[if_neg (by simp)];obtain⟨u,b1,b2,b3,c,t,s⟩:=FJ n (j+1) (U+2) (W+2) (B+30064771072) I v.gn ⟨by omega,by have:=C.u1;omega,by omega,by have:=C.w1;omega,C.q1⟩ (by omega) (by omega) (by omega) (by omega) a2 ⟨a.1,by rw[v.le];exact a.2⟩ (by rw[v.wt];omega);refine⟨u,b1,?_,fun r k' now=>by rw[b3,F],fun k=>?_,fun i x w d=>?_,fun z l f=>D z (s z l f) f⟩
   .rw[show U+2*((n:Int)+1)=U+2+2*n by omega,show W+2*((n:Int)+1)=W+2+2*n by omega,show B+30064771072*((n:Int)+1)=B+30064771072+30064771072*n by omega]
    exact b2
   .have:=E k;have:=c k;omega
   .by_cases m:i=j
    .subst m
     have:=c (2*(i:Int));have:=c (2*(i:Int)+1);omega
    .exact t i (by omega) (by omega) (by rw[v.cE];exact d)
  .rw[if_neg b]
   obtain⟨u,b1,b2,b3,c,t,s⟩:=FJ n (j+1) U W B S G ⟨by omega,by have:=C.u1;omega,by omega,by have:=C.w1;omega,C.q1⟩ p o q (by omega) h a (by omega);have y:=b2.EJ (B':=B+30064771072*((n:Int)+1)) (by omega);refine⟨u,b1,?_,b3,c,fun i x w d=>?_,s⟩
   .have v:=(pK n (j+1) S G a (by omega)).1
    rw[b1]at v;exact y.mono v.gn (by omega) (by omega) (a0h _) (a0h _)
   .by_cases m:i=j
    .subst m;exact absurd d b
    .exact t i (by omega) (by omega) d
def SE (h:Lm U W Q B S.aF S) (C:yN U W Q) (G:StOk S) (x:Ix S e item):0<=(bV S e item).1.v/\(bV S e item).1.v<=4294967296:=by
 have c:=h.IX e item;have key:∀{loc:Int},0<=loc->loc<=1->0<=vs ((S.aB e).aU (2*item+loc)).aN/\vs ((S.aB e).aU (2*item+loc)).aN<=2147483648:=by
  intro loc d l1;obtain⟨p1,p2,-⟩:=h.aU G x d l1;have s:=(Un.sum p1).mono (alr (m:=S.cE e item) (show S.cost e item<=U by have:=C.u0;omega)) (a0h W);exact⟨s.v,(s.val C (by have:=C.q1;dsimp only;omega)).1⟩
 have f:=key (loc:=0) (by omega) (by omega);have g:=key (loc:=1) (by omega) (by omega);rw[a1i]at f;unfold bV;dsimp only;generalize vs ((S.aB e).aU (2*item)).aN=a at *;generalize vs ((S.aB e).aU (2*item+1)).aN=b at *
 have:dP [a,b]=a+b:=by
  rw[(Eg (l:=[a,b]) (by simp only[eU,a0r,a1x,a0p,a2e];omega)).2];simp
 omega
def acB (h:Lm U W Q B S.aF S) (C:yN U W Q) (G:StOk S) (x:Ix S e 0) {i:Nat} (b:i<S.weights.length):0<=N6 S e i/\N6 S e i<=4294967296:=by
 have w:=SE h C G (e:=e) (item:=(i:Int)) ⟨x.e0,x.e1,by omega,by omega⟩;refine⟨(Lu S e i).1,?_⟩;unfold N6 vF;split
 .omega
 .rename_i a
  have:=a0q (show 0<=(bV S e (i:Int)).1.q by omega) (show 0<=S.qX e i by omega);split<;>omega
def akb (G:Gn S) (C:yN U W Q) (I:0<=B/\B<=72057594037927936) (h:Lm U W Q B S.aF S) (x:Ix S e 0) :
  ∃T,oP S e=(T,0)/\Lm U W Q (B+85899345920) T.aF T/\T.aF=S.aF/\(∀k,((T.aB e).aU k).p0=((S.aB e).aU k).p0):=by
 have E:=G.toStOk.mQ x;have L:=h.el G.toStOk x;have H:=G.toStOk.hw;have r:∀i,0<=S.down e i/\S.down e i<=4294967296:=by
  intro i;unfold bF.down;by_cases q:i<(S.aB e).down.length
  .exact⟨(E.db _ (dA q)).1,L.down _ (dA q)⟩
  .rw[a0c,a04 (by omega)];simp
 have p:∀n,n<=S.weights.length->(∀y∈jN S e n,(0<=y.a/\y.a<17)/\-8589934592<=y.n/\y.n<=8589934592)/\(eY (jN S e n)).sum=0:=by
  intro n;induction n with
  |zero=>intro _;exact⟨by simp[jN],by simp[jN,eY]⟩
  |succ j f =>
   intro D;obtain⟨w,u⟩:=f (by omega);have t:=acB h C G.toStOk x (i:=j) (by omega);have d:=r j;refine⟨fun y c=>?_,?_⟩
   .simp only[jN,a0m]at c
    rcases c with c|c
    .exact w y c
    .split at c
     .simp only[a0d,a0b,or_false]at c
      rcases c with rfl|rfl
      .exact⟨by simp,by dsimp only;omega⟩
      .exact⟨by simp,by dsimp only;omega⟩
     .simp at c
   .simp only[jN]
    unfold eY at *;rw[a03,a1h,u];split
    .simp;omega
    .simp
 have o:∀n,n<=S.weights.length->∀v∈mA S e n,v<=4294967296:=by
  intro n;induction n with
  |zero=>intro _;exact L.down
  |succ j f =>
   intro D v g;have f:=f (by omega);simp only[mA]at g;split at g
   .rcases a08 g with g|rfl
    .exact f v g
    .exact(acB h C G.toStOk x (i:=j) (by omega)).2
   .exact f v g
 have K:=LU G.toStOk x (tV S e S.weights.length) (LG E.db _)
 have b0:Lm U W Q B S.aF (S.aZ e ((S.aB e).uT (mA S e S.weights.length))):=h.aZ x.e0 fun y c=>by
  rcases c with rfl|c
  .exact⟨L.un,L.cN,L.rG,o _ (a0g _)⟩
  .exact h.elA G.toStOk x c
 obtain⟨l1,l2⟩:=p _ (a0g _);have z:=M5 S e S.weights.length;obtain⟨T,m⟩:=b0.acW (by omega) K.ok (K.ix x) (l:=jN S e S.weights.length) ⟨fun y c=>by have:=l1 y c;omega,by omega⟩ l2
 have b1:=b0.post K.ok (K.ix x) (A:=8589934592) m (fun y c=>(l1 y c).2) (by omega);have s:=(dG K.ok (K.ix x) (jN S e S.weights.length)).1;rw[m]at s;have es:T.aF=S.aF:=(K.trans s).pap.1;unfold oP;rw[m];dsimp only;rw[if_neg (by simp)];refine⟨T,rfl,by rw[es];exact b1.EJ (by omega),es,fun k=>?_⟩
 obtain⟨b,F,-⟩:=zL m (K.ok.mQ (K.ix x)).bl;rw[F,bF.eS (K.ix x)];show(((S.aZ e _).aB e).aU k).p0=_;rw[bF.eS x];rfl
def Nt (G:Gn S) (C:yN (U+3000) W Q) (C2:W<=268435400) (O:1000<=U) (R:0<=B/\B<=18014398509481984) (h:LS U W Q B S) (x:Ix S e 0) (N:(S.aB e).closed=false) :
  ∃T,iZ S e=(T,0)/\Up U W Q B T:=by
 have hw:=G.toStOk.hw;have u1:=C.u1;have H:yN (U+2*S.weights.length) (W+2*S.weights.length) Q:=⟨by omega,by omega,by have:=C.w0;omega,by omega,C.q1⟩;obtain⟨T1,D,a2,a3,a4,a5,a6⟩:=FJ (e:=e) S.weights.length 0 U W B S G H O C.w0 R.1 (by omega) h.lm ⟨x.e0,x.e1⟩ (by omega);have v:=(pK (e:=e) S.weights.length 0 S G ⟨x.e0,x.e1⟩ (by omega)).1;have F:=uA G x;rw[D]at v;dsimp only at v;obtain⟨a,b1,b2,b3,b4⟩:=akb v.gn H (by omega) a2 (v.ix x);have q:=(EM v.gn (v.ix x)).1;rw[b1]at q;dsimp only at q;have b:=v.trans (q.sv v.gn);unfold iZ at F |-;rw[if_neg (by simp[N]),D]at F |-;dsimp only at F |-;rw[if_neg (by simp),b1]at F |-;dsimp only at F |-;rw[if_neg (by simp)]at F |-;refine⟨_,rfl,?_⟩;have GT:=F.gn;dsimp only at GT;have K:∀t k' now,gN a.aF t k' now=gN S.aF t k' now:=fun t k' now=>by rw[b3,a3]
 have i:=b.ix x;have E2:=b.gn.toStOk.mQ i;have M:∀k,k<2*S.weights.length->((a.aB e).aU (k:Int)).p0<=0:=by
  intro k f;rw[b4];by_cases w:S.cE e ((k/2:Nat):Int)=3
  .obtain⟨c1,c2⟩:=a5 (k/2) (by omega) (by omega) w
   rcases(by omega:(k:Int)=2*((k/2:Nat):Int)\/(k:Int)=2*((k/2:Nat):Int)+1)with l|l
   .rw[l];exact c1
   .rw[l];exact c2
  .have I:Ix S e ((k/2:Nat):Int):=⟨x.e0,x.e1,by omega,by omega⟩
   have P:=G.toStOk.xV I (loc:=(k:Int)-2*((k/2:Nat):Int)) (by omega) (by omega);rw[show 2*((k/2:Nat):Int)+((k:Int)-2*((k/2:Nat):Int))=(k:Int)by omega]at P;have:=a4 (k:Int);rcases P.zero with z|⟨z,-⟩
   .exact absurd z w
   .simp only[cY.pn]at z;omega
 have o:=b2.mono b.gn (show U+2*(S.weights.length:Int)<=U+3000 by omega) (show W+2*(S.weights.length:Int)<=W+U+1000 by omega) (show Q<=Q+24 by omega) (show _<=B+274877906944 by omega);refine⟨?_,?_⟩
 .show Lm _ _ _ _ a.aF (a.aZ e ((a.aB e).shut (S.aB e).toEntC))
  refine o.aZ x.e0 fun y c=>?_;have m:=o.el b.gn.toStOk i;have J:a.methods=S.methods:=b.me;have CU:a.bT=S.bT:=b.co;rcases c with rfl|c
  .refine⟨fun k p f=>?_,m.cN,m.rG,m.down⟩
   obtain⟨Y,X,V,g4⟩:=m.un k p f;refine⟨Y,X,V,fun _=>?_⟩
   have A:=(a0y.1 f).1
   have Z:(a.aB e).aU (k:Int)=p:=by
    unfold dE.aU;rw[a00,a0c,show(a.aB e).bK[k]?=some p from f];rfl
   have E:=E2.pl;rw[b.wt]at E;have:=M k (by rw[<-E];exact A);rw[Z]at this;exact this
  .rw[show((a.aB e).shut (S.aB e).toEntC).ahead=[(S.aB e).toEntC]from rfl,a05]at c
   subst c;have L:=(h.lm.el G.toStOk x).mono (show U<=U+3000 by omega) (show W<=W+U+1000 by omega) (show Q<=Q+24 by omega) (show B<=B+274877906944 by omega);rw[J,CU];exact⟨fun k p f=>by rw[K];exact L.un k p f,L.cN,L.rG,L.down⟩
 ·-- what waits of other bJ is as it was
  intro y c u d j;have c:y∈a.aF:=c;by_cases g:y.aD=e
  .rw[g,bF.eS i]at d
   cases d
  .rw[b3]at c
   have n:=a6 y c g;have s:=(G.C7 y n).1.1;rw[lY _ x.e0 s g]at d j;have e2:(a.aB y.aD).closed=(S.aB y.aD).closed:=congrArg (fun r=>r.2.1) (b.shE y.aD);rw[e2]at d;rw[b.now]at j;exact h.sz y n u d j
def aaq (l:List kJ) (e:Int) (now:Int) (e' k':Nat) (a:Int):gN (l.map (jG e now)) e' k' a=gN l e' k' a:=by
 unfold gN;rw[a16];congr 1;refine a01 fun x _=>?_;simp only[Function.comp,jG];split<;>rfl
def aen (G:Gn S) (C:yN (U+3000) W Q) (H:1000<=U) (h:LS U W Q B S) (x:Ix S e 0) (J:Gn T) (i:pV S e=(T,0)):Up U W Q B T:=by
 unfold pV at i;split at i
 .cases i
 rename_i r;have q:=G.toStOk.at_ x;have n:=G.al _ (a0a q);have m:=h.lm.mono G (show U<=U+3000 by omega) (show W<=W+U+1000 by omega) (show Q<=Q+24 by omega) (show B<=B+274877906944 by omega);split at i
 .rename_i y f
  cases i;have u:=(n.2 y (by show y∈(S.aB e).ahead;rw[f];simp)).1;have v:=(n.2 y (by show y∈(S.aB e).ahead;rw[f];simp)).2
  have b1:=m.aZ (e:=e) (E:=⟨y,[]⟩) x.e0 (fun z c=>by
   rcases c with rfl|c
   .exact m.elA G.toStOk x (by rw[f];simp)
   .cases c)
  have b2:=b1.aaS (sa':=S.aF.map (jG e y.now)) (fun I A _ w _ k'=>by rw[aaq];omega);refine⟨⟨b2.cost,b2.aB,b2.rc,fun z c=>?_,b2.tr⟩,?_⟩
  .obtain⟨s,hs,rfl⟩:=a0j.1 c
   have k:=m.sa s hs;unfold jG;split
   .refine⟨a0h _,fun t=>?_⟩
    dsimp only at t |-;have F:=a0q (show 0<=U+3000 by omega) (show 0<=s.eX-s.back by omega);have D:=a0q (show 0<=W+U+1000 by have:=C.w0;omega) (show 0<=s.eX-s.back by omega);omega
   .exact k
  .intro z c j d a
   obtain⟨s,hs,rfl⟩:=a0j.1 c;have o:=(G.C7 s hs).1.1;by_cases b:s.waits=true/\s.aD=e/\s.period=y.now
   .unfold jG
    rw[if_pos b];exact⟨rfl,rfl⟩
   .unfold jG at j d a |-
    rw[if_neg b]at j d a |-;by_cases g:s.aD=e
    .rw[g]at a
     have a:s.period=((S.aZ e ⟨y,[]⟩).aB e).now:=a;rw[bF.eS x]at a;exact absurd ⟨j,g,a⟩ b
    .have d:((S.aZ e ⟨y,[]⟩).aB s.aD).closed=false:=d
     have a:s.period=((S.aZ e ⟨y,[]⟩).aB s.aD).now:=a;rw[lY _ x.e0 o g]at d a;exact h.sz s hs j d a
 .rename_i p
  have l:=n.1;rw[show(S.aB e).sh.2.1=true by show(S.aB e).closed=true;simpa using r]at l;simp only[if_true]at l;obtain⟨y,f⟩:=a3y.1 l;exact absurd (show(S.aB e).ahead=[y]from f) (p y)
def aj2 (G:Gn S) (C:yN (U+3000) W Q) (y:1000<=U) (h:LS U W Q B S) (x:Ix S e 0) (I:Gn T) (c:A7 S e=(T,0)) (F:4294967296<=B):Up U W Q B T:=by
 unfold A7 at c;split at c
 .cases c
 rename_i f;split at c
 .cases c
 cases c;have f:(S.aB e).closed=true:=by simpa using f
 have q:=h.lm.mono G (show U<=U+3000 by omega) (show W<=W+U+1000 by omega) (show Q<=Q+24 by omega) (show B<=B+274877906944 by omega);have E:yN U W Q:=⟨y,by have:=C.u1;omega,C.w0,C.w1,C.q1⟩;refine⟨?_,?_⟩
 .show Lm _ _ _ _ S.aF (S.aZ e (A8 S e))
  refine q.aZ x.e0 fun z a=>?_;rcases a with rfl|a
  .have L:=q.el G.toStOk x
   refine⟨fun k p u=>?_,L.cN,fun r t v l=>?_,L.down⟩
   .obtain⟨D,A,H,g⟩:=L.un k p u
    have g:=g f;have:=Tg G e.toNat k (1+(S.aB e).now);exact⟨D,A,by show p.p0<=gN S.aF e.toNat k (1+(S.aB e).now);omega,fun _=>g⟩
   .obtain⟨i,n,rfl⟩:=a0j.1 t
    have n:i<S.weights.length:=(by simpa using n);have w:=SE h.lm E G.toStOk (e:=e) (item:=(i:Int)) ⟨x.e0,x.e1,by omega,by omega⟩;simp only[mG,a0d,a0b,or_false]at l;rcases l with rfl|rfl|rfl|rfl|rfl|rfl|rfl|rfl|rfl|rfl|rfl<;>omega
  .cases a
 .intro z a s o b
  have j:=(G.C7 z a).1.1;by_cases d:z.aD=e
  .have m:=G.pb z a
   rw[d]at b m;rw[bF.eS x]at b;have b:z.period=1+(S.aB e).now:=b;omega
  .rw[lY _ x.e0 j d]at o b
   exact h.sz z a s o b
end
end
section
open Mc
variable {k item ref:Int} {T S:bF}
def Lk (k:Int) (S:bF):Prop:=LS (3000*(k+1)) (600000*(k+1)) (24*(k+1)) (274877906944*(k+1)) S
def Lk.up (c:0<=k) (b:k<=130) (a:Gn T) (h:Up (3000*(k+1)) (600000*(k+1)) (24*(k+1)) (274877906944*(k+1)) T):Lk (k+1) T :=
 ⟨h.lm.mono a (by omega) (by omega) (by omega) (by omega),h.sz⟩
def Lk.cap (b:0<=k) (a:k<=130):yN (3000*(k+1)+3000) (600000*(k+1)) (24*(k+1)):=⟨by omega,by omega,by omega,by omega,by omega⟩
def Lk.mX (b:0<=k) (a:k<=130):yN (3000*(k+1)) (600000*(k+1)) (24*(k+1)):=⟨by omega,by omega,by omega,by omega,by omega⟩
def Lk.mono {k:Int} {S:bF} (G:Gn S) (a:0<=k) (h:Lk k S):Lk (k+1) S:=⟨h.lm.mono G (by omega) (by omega) (by omega) (by omega),h.sz⟩
def aoD {n:Nat} (G:Gn S) (m:0<=k) (g:k<=130) (h:Lk k S) (E:S.aH.length=n) (H:1<=S.weights.length) {o:C6} (ok:dX n S.weights.length o) (u:qU o) (f:Gn T) (j:doS S o=(T,0)):Lk (k+1) T:=by
 subst E;have C:=Lk.mX m g;have x:=Lk.cap m g;cases o with
 |rJ e item loc q a=>obtain⟨⟨i,a2⟩,⟨l,r⟩,⟨p,t⟩,s,v⟩:=ok;obtain⟨A,z⟩:=u;exact Lk.up m g f (aaX G C h ⟨i,a2,l,r⟩ p t (by omega) (by omega) f j)
 |rM q a ref=>obtain⟨s,v,w⟩:=ok;exact Lk.up m g f (ani G C h s.1 ⟨v.1,u⟩ f j)
 |oH q ref=>obtain⟨s,w⟩:=ok;exact Lk.up m g f (aon G C h s.1 f j)
 |Mr e item loc q a=>obtain⟨⟨i,a2⟩,⟨l,r⟩,⟨p,t⟩,s,v⟩:=ok;obtain⟨A,z⟩:=u;exact Lk.up m g f (ajy G C h ⟨i,a2,l,r⟩ p t (by omega) (by omega) f j)
 |take q a ref=>obtain⟨s,v,w⟩:=ok;obtain⟨A,z⟩:=u;exact Lk.up m g f (ajh G C h (by omega) (by omega) f j)
 |Ek e item loc q=>obtain⟨⟨i,a2⟩,⟨l,r⟩,⟨p,t⟩,s⟩:=ok;exact Lk.up m g f (af0 G C h ⟨i,a2,l,r⟩ p t f j)
 |count e item loc q=>obtain⟨⟨i,a2⟩,⟨l,r⟩,⟨p,t⟩,s,v⟩:=ok;exact Lk.up m g f (ait G C h ⟨i,a2,l,r⟩ p t ⟨s,u⟩ f j)
 |move e item loc dst q=>obtain⟨⟨i,a2⟩,⟨l,r⟩,⟨p,t⟩,⟨s,v⟩,w,y⟩:=ok;exact Lk.up m g f (aj6 G C h ⟨i,a2,l,r⟩ p t s v ⟨y.1,u⟩ f j)
 |rH e item a=>obtain⟨⟨i,a2⟩,⟨l,r⟩,p⟩:=ok;exact Lk.up m g f (aaO G C h ⟨i,a2,l,r⟩ ⟨p.1,u⟩ f j)
 |qX e item a=>obtain⟨⟨i,a2⟩,⟨l,r⟩,p⟩:=ok;exact Lk.up m g f (agn G C h ⟨i,a2,l,r⟩ (by omega) f j)
 |land dst a refs =>
  obtain⟨i,a2,l⟩:=ok;refine Lk.up m g f (aki G x (by omega) h ?_ ?_ ⟨a2.1,u⟩ f j)
  .rcases l with⟨r0,rfl,b⟩|⟨r0,r1,rfl,b,c,-⟩|⟨r0,r1,r2,rfl,b,c,d,-⟩
   .intro k g;simp only[a0d,a0b,or_false]at g;omega
   .intro k g;simp only[a0d,a0b,or_false]at g;omega
   .intro k g;simp only[a0d,a0b,or_false]at g;omega
  .rcases l with⟨r0,rfl,b⟩|⟨r0,r1,rfl,b,c,-⟩|⟨r0,r1,r2,rfl,b,c,d,-⟩<;>simp
 |P7 e item loc dst q a=>obtain⟨⟨i,a2⟩,⟨l,r⟩,⟨p,t⟩,⟨s,v⟩,w,y,I⟩:=ok;obtain⟨A,z⟩:=u;exact Lk.up m g f (ajw G C h ⟨i,a2,l,r⟩ ⟨s,v,l,r⟩ p t (by omega) (by omega) f j)
 |yF loc q ref=>obtain⟨⟨p,t⟩,s,w⟩:=ok;exact Lk.up m g f (afj G C h p t ⟨s.1,u⟩ f j)
 |close e =>
  obtain⟨i,a2⟩:=ok;have j:iZ S e=(T,0):=j;have D:=(Ir j).1;obtain⟨J,B,F⟩:=Nt G x (by omega) (by omega) (by omega) h ⟨i,a2,by omega,by omega⟩ (by simpa using D);rw[j]at B;cases B;exact Lk.up m g f F
 |xR e=>obtain⟨i,a2⟩:=ok;exact Lk.up m g f (aen G x (by omega) h ⟨i,a2,by omega,by omega⟩ f j)
 |next e=>obtain⟨i,a2⟩:=ok;exact Lk.up m g f (aj2 G x (by omega) h ⟨i,a2,by omega,by omega⟩ f j (by omega))
def LS.done {U W Q B:Int} {S:bF} (h:LS U W Q B S) (d:Int):LS U W Q B { S with done:=d }:=⟨⟨h.lm.cost,h.lm.aB,h.lm.rc,h.lm.sa,h.lm.tr⟩,h.sz⟩
def akB (G:Gn S) (f:S.done<=1000000) (n:∀v∈S.weights,0<=v/\v<=1073741824) (u:1<=S.weights.length) (p:1<=S.bH/\S.bH<=12) {o:C6} (ok:dX S.aH.length S.weights.length o):oD S (doS S o):=by
 have x:=G.hn;have t:=G.hw;cases o with
 |rJ e item loc q a =>
  obtain⟨c,b,d,g,i⟩:=ok;obtain⟨-,F⟩:=Pt G f ⟨c.1,c.2,b.1,b.2⟩ d g (a:=a) ⟨i.1,by omega⟩;exact F
 |rM q a ref =>
  obtain⟨c,b,d⟩:=ok;obtain⟨-,F⟩:=amy G f c (a:=a) ⟨b.1,by omega⟩ d;exact F
 |oH q ref =>
  obtain⟨c,d⟩:=ok;obtain⟨-,F⟩:=aoF G f c d;exact F
 |Mr e item loc q a =>
  obtain⟨c,b,d,g,i⟩:=ok;obtain⟨-,F⟩:=aip G f ⟨c.1,c.2,b.1,b.2⟩ d g (a:=a) ⟨i.1,by omega⟩;exact F
 |take q a ref =>
  obtain⟨c,b,d⟩:=ok;obtain⟨-,F⟩:=aif G f c (a:=a) ⟨b.1,by omega⟩ d;exact F
 |Ek e item loc q =>
  obtain⟨c,b,d,g⟩:=ok;obtain⟨-,F⟩:=adF G f ⟨c.1,c.2,b.1,b.2⟩ d g;exact F
 |count e item loc q =>
  obtain⟨c,b,d,g⟩:=ok;obtain⟨-,F⟩:=adH G f ⟨c.1,c.2,b.1,b.2⟩ d g;exact F
 |move e item loc dst q =>
  obtain⟨c,b,d,g,i,l⟩:=ok;obtain⟨-,F⟩:=aiq G f ⟨c.1,c.2,b.1,b.2⟩ d g l;exact F
 |rH e item a =>
  obtain⟨c,b,d⟩:=ok;obtain⟨-,F⟩:=Ps G f ⟨c.1,c.2,b.1,b.2⟩ d;exact F
 |qX e item a =>
  obtain⟨c,b,d⟩:=ok;obtain⟨-,F⟩:=adG G ⟨c.1,c.2,b.1,b.2⟩ (a:=a) ⟨d.1,by omega⟩;exact F
 |land dst a refs =>
  obtain⟨c,b,d⟩:=ok;have j:1<=refs.length/\refs.length<=40/\(∀k∈refs,0<=k/\k<=39):=by
   rcases d with⟨r0,rfl,b0⟩|⟨r0,r1,rfl,b0,b1,w⟩|⟨r0,r1,r2,rfl,b0,b1,b2,s,lt2⟩
   .exact⟨by simp,by simp,fun k h=>by simp at h;subst h;exact b0⟩
   .exact⟨by simp,by simp,fun k h=>by simp at h;rcases h with rfl|rfl<;>assumption⟩
   .exact⟨by simp,by simp,fun k h=>by simp at h;rcases h with rfl|rfl|rfl<;>assumption⟩
  obtain⟨r1,r2,m⟩:=j;obtain⟨-,F⟩:=air G f n r1 r2 m (dst:=dst) ⟨by omega,by omega⟩ (a:=a) ⟨b.1,by omega⟩;exact F
 |P7 e item loc dst q a =>
  obtain⟨c,b,d,g,i,l,r⟩:=ok;obtain⟨-,F⟩:=aio G f ⟨c.1,c.2,b.1,b.2⟩ d ⟨g.1,g.2,b.1,b.2⟩ l (a:=a) ⟨r.1,by omega⟩;exact F
 |yF loc q ref =>
  obtain⟨c,b,d⟩:=ok;obtain⟨-,F⟩:=Xv G f c b d;exact F
 |close e=>exact uA G ⟨ok.1,ok.2,by omega,by omega⟩
 |xR e=>exact IP G ⟨ok.1,ok.2,by omega,by omega⟩
 |next e=>exact Pg G ⟨ok.1,ok.2,by omega,by omega⟩ p.2
def ajq (G:Gn S) (l:S.done<=1000000) (e:∀v∈S.weights,0<=v/\v<=1073741824) (a:1<=S.weights.length) (g:1<=S.bH/\S.bH<=12) (c:0<=k) (i:k<=130) (h:Lk k S) {o:C6} (ok:dX S.aH.length S.weights.length o) (d:qU o):Lk (k+1) (nT S o).1:=by
 have F:=akB G l e a g ok;unfold nT eT;obtain⟨T,f,b⟩:∃T f,doS S o=(T,f):=⟨_,_,rfl⟩;rw[b]at F |-;dsimp only;split
 .rename_i j
  subst j;exact LS.done (aoD G c i h rfl a ok d F.gn b) _
 .exact h.mono G c
def Ch.kn {S1:bF} {e d:Int} {l:List cU} (c:Ch S S1 e d l):S1.aG=S.aG/\S1.aH.length=S.aH.length:=by
 obtain⟨x,rfl,-⟩:=c.ex;exact⟨rfl,by simp[bF.aZ]⟩
def dS.ch {S1:bF} {e d:Int} {l:List cU} (h:dS S) (c:Ch S S1 e d l) (x:Ix S e item) (k:val l 0=d) (b:val l 11=0) (f:OI l=0) (g:val l 12=0\/(S.aB e).ahead=[]) (j:T.aH=S1.aH) (i:∀a:Int,T.sD a=S.sD a+if a=e then val l 12 else 0):dS T :=
 mE.to (mE.ch h c x k b f g) j fun a m e1=>i a
def dS.ch0 {S1:bF} {e d:Int} {l:List cU} (h:dS S) (c:Ch S S1 e d l) (x:Ix S e item) (j:val l 0=d) (b:val l 11=0) (f:OI l=0) (a:val l 12=0) (i:T.aH=S1.aH) (g:T.aG=S.aG):dS T :=
 h.ch c x j b f (.inl a) i fun k=>by rw[a];unfold bF.sD;rw[g];split<;>omega
def eN (l:List cU) (h:∀x∈l,0<=x.a/\x.a<17):OI l=(eY l).sum:=OH l h
def aaY {e loc q a:Int} (G:Gn S) (x:Ix S e item) (l:0<=loc) (l1:loc<=1) (h:dS S) (d:nD S e item loc q a=(T,0)):dS T:=by
 unfold nD at d;split at d
 .cases d
 split at d
 .cases d
 have p:=@Ch.NB S e item G.toStOk x loc l l1 ⟨q,a,0⟩;have g:=(iS G.toStOk x l l1 ⟨q,a,0⟩).1;generalize dW S e item loc ⟨q,a,0⟩=r at *;obtain⟨S1,i,up,f⟩:=r;dsimp only at *;split at d
 .rename_i b;exact absurd (congrArg Prod.snd d) b
 rename_i b;have b:f=0:=by simpa using b
 subst b;obtain⟨u,v⟩:=p rfl;have e1:=g.ok.mQ (g.ix x);have o:=fun j h=>@Ch.post S1 j e [⟨0,i⟩,⟨6,up⟩,⟨1,-a⟩] h e1.bl;have m:=(dG g.ok (g.ix x) [⟨0,i⟩,⟨6,up⟩,⟨1,-a⟩]).1;generalize cZ S1 e [⟨0,i⟩,⟨6,up⟩,⟨1,-a⟩]=r at *;obtain⟨j,f⟩:=r;dsimp only at *;split at d
 .rename_i b;exact absurd (congrArg Prod.snd d) b
 rename_i b;have b:f=0:=by simpa using b
 subst b;have t:=o j rfl;have e2:=m.ok.mQ (m.ix (g.ix x));have n:=fun k h=>@Ch.yV j k e item [0,i,0,0,0,0,0,0,0,0,0] h e2.bl;generalize dR j e item [0,i,0,0,0,0,0,0,0,0,0]=r at *;obtain⟨k,f⟩:=r;dsimp only at *;split at d
 .rename_i b;exact absurd (congrArg Prod.snd d) b
 rename_i b;have b:f=0:=by simpa using b
 subst b;have s:=n k rfl;have c:=(u.trans t x).trans s x;cases d;refine h.ch0 c x ?_ ?_ ?_ ?_ rfl c.kn.1
 .simp[bY,cJ]
 .simp[bY,cJ]
 .rw[eN _ (by simp)];simp[eY];omega
 .simp[bY,cJ]
def ajz {e loc q a:Int} (G:Gn S) (x:Ix S e item) (m:0<=loc) (l1:loc<=1) (h:dS S) (d:A4 S e item loc q a=(T,0)):dS T:=by
 unfold A4 at d;split at d
 .rename_i l;first|cases d;done|exact absurd (congrArg Prod.snd d) l
 split at d
 .rename_i l;first|cases d;done|exact absurd (congrArg Prod.snd d) l
 have g:=@Ch.IW S e item G.toStOk x loc 0 q m l1 (by omega) (by omega);have k:=(iF G.toStOk x m l1 (kind:=0) (by omega) (by omega) q).1;generalize dJ S e item loc 0 q=r at *;obtain⟨S1,⟨xq,xv,xp⟩,t,f⟩:=r;dsimp only at *;split at d
 .rename_i b;exact absurd (congrArg Prod.snd d) b
 rename_i b;have b:f=0:=by simpa using b
 subst b;have p:=g rfl;have j:=k;clear g k;have g:=fun T h=>@Ch.post S1 T e [⟨3,a⟩,⟨4,-a⟩,⟨5,xv⟩,⟨0,-xv⟩] h (j.ok.mQ (j.ix x)).bl;have k:=(dG j.ok (j.ix x) [⟨3,a⟩,⟨4,-a⟩,⟨5,xv⟩,⟨0,-xv⟩]).1;generalize cZ S1 e [⟨3,a⟩,⟨4,-a⟩,⟨5,xv⟩,⟨0,-xv⟩]=r at *;obtain⟨s,f⟩:=r;dsimp only at *;split at d
 .rename_i b;exact absurd (congrArg Prod.snd d) b
 rename_i b;have b:f=0:=by simpa using b
 subst b;have o:=g _ rfl;have i:=j.trans k;clear g k;have g:=fun T h=>@Ch.yV s T e item [0,0,0,0,0,xv,0,0,0,0,0] h (i.ok.mQ (i.ix x)).bl;have k:=(eI i.ok (i.ix x) (r:=[0,0,0,0,0,xv,0,0,0,0,0]) rfl).1;generalize dR s e item [0,0,0,0,0,xv,0,0,0,0,0]=r at *;obtain⟨u,f⟩:=r;dsimp only at *;split at d
 .rename_i b;exact absurd (congrArg Prod.snd d) b
 rename_i b;have b:f=0:=by simpa using b
 subst b;have n:=g _ rfl;have v:=i.trans k;clear g k;have c:=((p.trans o x).trans n x);clear p o n;cases d;refine h.ch0 c x ?_ ?_ ?_ ?_ rfl c.kn.1
 .simp[bY,cJ]<;>omega
 .simp[bY,cJ]<;>omega
 .rw[eN _ (by simp)];simp[eY]<;>omega
 .simp[bY,cJ]<;>omega
def af1 {e loc q:Int} (G:Gn S) (x:Ix S e item) (j:0<=loc) (l1:loc<=1) (h:dS S) (b:vJ S e item loc q=(T,0)):dS T:=by
 unfold vJ at b;split at b
 .rename_i p;first|cases b;done|exact absurd (congrArg Prod.snd b) p
 have d:=@Ch.IW S e item G.toStOk x loc 1 q j l1 (by omega) (by omega);have k:=(iF G.toStOk x j l1 (kind:=1) (by omega) (by omega) q).1;generalize dJ S e item loc 1 q=r at *;obtain⟨S1,⟨xq,xv,xp⟩,s,f⟩:=r;dsimp only at *;split at b
 .rename_i a;exact absurd (congrArg Prod.snd b) a
 rename_i a;have a:f=0:=by simpa using a
 subst a;have n:=d rfl;have i:=k;clear d k;have d:=fun T h=>@Ch.post S1 T e [⟨7,xv⟩,⟨0,-xv⟩] h (i.ok.mQ (i.ix x)).bl;have k:=(dG i.ok (i.ix x) [⟨7,xv⟩,⟨0,-xv⟩]).1;generalize cZ S1 e [⟨7,xv⟩,⟨0,-xv⟩]=r at *;obtain⟨o,f⟩:=r;dsimp only at *;split at b
 .rename_i a;exact absurd (congrArg Prod.snd b) a
 rename_i a;have a:f=0:=by simpa using a
 subst a;have m:=d _ rfl;have g:=i.trans k;clear d k;have d:=fun T h=>@Ch.yV o T e item [0,0,0,0,0,0,0,0,xv,0,0] h (g.ok.mQ (g.ix x)).bl;have k:=(eI g.ok (g.ix x) (r:=[0,0,0,0,0,0,0,0,xv,0,0]) rfl).1;generalize dR o e item [0,0,0,0,0,0,0,0,xv,0,0]=r at *;obtain⟨t,f⟩:=r;dsimp only at *;split at b
 .rename_i a;exact absurd (congrArg Prod.snd b) a
 rename_i a;have a:f=0:=by simpa using a
 subst a;have l:=d _ rfl;have u:=g.trans k;clear d k;have c:=((n.trans m x).trans l x);clear n m l;cases b;refine h.ch0 c x ?_ ?_ ?_ ?_ rfl c.kn.1
 .simp[bY,cJ]<;>omega
 .simp[bY,cJ]<;>omega
 .rw[eN _ (by simp)];simp[eY]<;>omega
 .simp[bY,cJ]<;>omega
def aj7 {e loc dst q:Int} (G:Gn S) (x:Ix S e item) (m:0<=loc) (l1:loc<=1) (o:0<=dst) (n:dst<=1) (h:dS S) (b:A9 S e item loc dst q=(T,0)):dS T:=by
 unfold A9 at b;split at b
 .rename_i y;first|cases b;done|exact absurd (congrArg Prod.snd b) y
 have d:=@Ch.IW S e item G.toStOk x loc 3 q m l1 (by omega) (by omega);have k:=(iF G.toStOk x m l1 (kind:=3) (by omega) (by omega) q).1;generalize dJ S e item loc 3 q=r at *;obtain⟨S1,⟨xq,xv,xp⟩,A,f⟩:=r;dsimp only at *;split at b
 .rename_i a;exact absurd (congrArg Prod.snd b) a
 rename_i a;have a:f=0:=by simpa using a
 subst a;have u:=d rfl;have l:=k;clear d k;have d:=@Ch.NB S1 e item l.ok (l.ix x) dst o n ⟨xq,xv,xp⟩;have k:=(iS l.ok (l.ix x) o n ⟨xq,xv,xp⟩).1;generalize dW S1 e item dst ⟨xq,xv,xp⟩=r at *;obtain⟨w,g,up,f⟩:=r;dsimp only at *;split at b
 .rename_i a;exact absurd (congrArg Prod.snd b) a
 rename_i a;have a:f=0:=by simpa using a
 subst a;obtain⟨t,z⟩:=d rfl;have j:=l.trans k;clear d k;have d:=fun T h=>@Ch.post w T e [⟨0,g-xv⟩,⟨6,up⟩] h (j.ok.mQ (j.ix x)).bl;have k:=(dG j.ok (j.ix x) [⟨0,g-xv⟩,⟨6,up⟩]).1;generalize cZ w e [⟨0,g-xv⟩,⟨6,up⟩]=r at *;obtain⟨v,f⟩:=r;dsimp only at *;split at b
 .rename_i a;exact absurd (congrArg Prod.snd b) a
 rename_i a;have a:f=0:=by simpa using a
 subst a;have s:=d _ rfl;have i:=j.trans k;clear d k;have d:=fun T h=>@Ch.yV v T e item [0,0,0,0,0,0,0,0,0,0,g-xv] h (i.ok.mQ (i.ix x)).bl;have k:=(eI i.ok (i.ix x) (r:=[0,0,0,0,0,0,0,0,0,0,g-xv]) rfl).1;generalize dR v e item [0,0,0,0,0,0,0,0,0,0,g-xv]=r at *;obtain⟨B,f⟩:=r;dsimp only at *;split at b
 .rename_i a;exact absurd (congrArg Prod.snd b) a
 rename_i a;have a:f=0:=by simpa using a
 subst a;have p:=d _ rfl;have C:=i.trans k;clear d k;have c:=(((u.trans t x).trans s x).trans p x);clear u t s p;cases b;refine h.ch0 c x ?_ ?_ ?_ ?_ rfl c.kn.1
 .simp[bY,cJ]<;>omega
 .simp[bY,cJ]<;>omega
 .rw[eN _ (by simp)];simp[eY]<;>omega
 .simp[bY,cJ]<;>omega
def ake {e loc d:Int} (G:Gn S) (x:Ix S e item) (l:0<=loc) (l1:loc<=1) (h:dS S) (b:IU S e item loc d=(T,0)):dS T:=by
 unfold IU at b;have g:=@Ch.IW S e item G.toStOk x loc 2 d l l1 (by omega) (by omega);have k:=(iF G.toStOk x l l1 (kind:=2) (by omega) (by omega) d).1;generalize dJ S e item loc 2 d=r at *;obtain⟨S1,⟨xq,xv,xp⟩,q,f⟩:=r;dsimp only at *;split at b
 .rename_i a;exact absurd (congrArg Prod.snd b) a
 rename_i a;have a:f=0:=by simpa using a
 subst a;have o:=g rfl;have j:=k;clear g k;have g:=fun T h=>@Ch.post S1 T e [⟨8,xv⟩,⟨0,-xv⟩] h (j.ok.mQ (j.ix x)).bl;have k:=(dG j.ok (j.ix x) [⟨8,xv⟩,⟨0,-xv⟩]).1;generalize cZ S1 e [⟨8,xv⟩,⟨0,-xv⟩]=r at *;obtain⟨p,f⟩:=r;dsimp only at *;split at b
 .rename_i a;exact absurd (congrArg Prod.snd b) a
 rename_i a;have a:f=0:=by simpa using a
 subst a;have n:=g _ rfl;have i:=j.trans k;clear g k;have g:=fun T h=>@Ch.yV p T e item [0,0,0,0,0,0,0,0,0,xv,0] h (i.ok.mQ (i.ix x)).bl;have k:=(eI i.ok (i.ix x) (r:=[0,0,0,0,0,0,0,0,0,xv,0]) rfl).1;generalize dR p e item [0,0,0,0,0,0,0,0,0,xv,0]=r at *;obtain⟨s,f⟩:=r;dsimp only at *;split at b
 .rename_i a;exact absurd (congrArg Prod.snd b) a
 rename_i a;have a:f=0:=by simpa using a
 subst a;have m:=g _ rfl;have t:=i.trans k;clear g k;have c:=((o.trans n x).trans m x);clear o n m;cases b;refine h.ch0 c x ?_ ?_ ?_ ?_ rfl c.kn.1
 .simp[bY,cJ]<;>omega
 .simp[bY,cJ]<;>omega
 .rw[eN _ (by simp)];simp[eY]<;>omega
 .simp[bY,cJ]<;>omega
def RX {e loc d v f:Int} (G:Gn S) (x:Ix S e item) (m:0<=loc) (l1:loc<=1) (h:dS S) (b:Ce S e item loc d v f=(T,0)):dS T:=by
 unfold Ce at b;split at b
 .rename_i s;first|cases b;done|exact absurd (congrArg Prod.snd b) s
 have g:=@Ch.NB S e item G.toStOk x loc m l1 ⟨d,v,0⟩;have k:=(iS G.toStOk x m l1 ⟨d,v,0⟩).1;generalize dW S e item loc ⟨d,v,0⟩=r at *;obtain⟨S1,i,up,f⟩:=r;dsimp only at *;split at b
 .rename_i a;exact absurd (congrArg Prod.snd b) a
 rename_i a;have a:f=0:=by simpa using a
 subst a;obtain⟨p,t⟩:=g rfl;have l:=k;clear g k;have g:=fun T h=>@Ch.post S1 T e [⟨0,i⟩,⟨6,up⟩,⟨8,-v⟩] h (l.ok.mQ (l.ix x)).bl;have k:=(dG l.ok (l.ix x) [⟨0,i⟩,⟨6,up⟩,⟨8,-v⟩]).1;generalize cZ S1 e [⟨0,i⟩,⟨6,up⟩,⟨8,-v⟩]=r at *;obtain⟨q,f⟩:=r;dsimp only at *;split at b
 .rename_i a;exact absurd (congrArg Prod.snd b) a
 rename_i a;have a:f=0:=by simpa using a
 subst a;have o:=g _ rfl;have j:=l.trans k;clear g k;have g:=fun T h=>@Ch.yV q T e item [0,0,0,0,0,0,0,0,0,-i,0] h (j.ok.mQ (j.ix x)).bl;have k:=(eI j.ok (j.ix x) (r:=[0,0,0,0,0,0,0,0,0,-i,0]) rfl).1;generalize dR q e item [0,0,0,0,0,0,0,0,0,-i,0]=r at *;obtain⟨u,f⟩:=r;dsimp only at *;split at b
 .rename_i a;exact absurd (congrArg Prod.snd b) a
 rename_i a;have a:f=0:=by simpa using a
 subst a;have n:=g _ rfl;have w:=j.trans k;clear g k;have c:=((p.trans o x).trans n x);clear p o n;cases b;refine h.ch0 c x ?_ ?_ ?_ ?_ rfl c.kn.1
 .simp[bY,cJ]<;>omega
 .simp[bY,cJ]<;>omega
 .rw[eN _ (by simp)];simp[eY]<;>omega
 .simp[bY,cJ]<;>omega
def aiu {e loc q:Int} (G:Gn S) (x:Ix S e item) (b:0<=loc) (l1:loc<=1) (h:dS S) (a:vS S e item loc q=(T,0)):dS T:=by
 unfold vS at a;split at a
 .cases a
 split at a
 .cases a;exact h
 split at a
 .exact ake G x b l1 h a
 split at a
 .exact RX G x b l1 h a
 split at a
 .exact RX G x b l1 h a
 .exact RX G x b l1 h a
def ago {e a:Int} (x:Ix S e item) (h:dS S) (c:vM S e item a=(T,0)):dS T:=by
 unfold vM at c;split at c
 .cases c
 cases c;intro j i e1;have l:(S.aZ e ((S.aB e).sV item a)).aH.length=S.aH.length:=by simp[bF.aZ]
 rw[l]at e1;obtain⟨b,k⟩:=h j i e1;by_cases f:j=e
 .subst f
  rw[bF.eS x];exact⟨⟨b.g,b.w,b.d,b.z⟩,k⟩
 .rw[lY _ x.e0 i f]
  exact⟨b,k⟩
def SO {q a c l:Int} (G:Gn S) {s:kJ} (x:Ix S s.aD s.item) (m:0<=s.loc) (l1:s.loc<=1) (h:dS S) (d:sP S s ref q a c l=(T,0)):dS T:=by
 unfold sP at d;have e:=@Ch.NB S s.aD s.item G.toStOk x s.loc m l1 ⟨q,c,l⟩;have k:=(iS G.toStOk x m l1 ⟨q,c,l⟩).1;generalize dW S s.aD s.item s.loc ⟨q,c,l⟩=r at *;obtain⟨S1,g,up,f⟩:=r;dsimp only at *;split at d
 .rename_i b;exact absurd (congrArg Prod.snd d) b
 rename_i b;have b:f=0:=by simpa using b
 subst b;obtain⟨p,u⟩:=e rfl;have j:=k;clear e k;have e:=fun T h=>@Ch.post S1 T s.aD [⟨4,a⟩,⟨3,-a⟩,⟨0,g⟩,⟨6,up⟩,⟨5,-c⟩] h (j.ok.mQ (j.ix x)).bl;have k:=(dG j.ok (j.ix x) [⟨4,a⟩,⟨3,-a⟩,⟨0,g⟩,⟨6,up⟩,⟨5,-c⟩]).1;generalize cZ S1 s.aD [⟨4,a⟩,⟨3,-a⟩,⟨0,g⟩,⟨6,up⟩,⟨5,-c⟩]=r at *;obtain⟨t,f⟩:=r;dsimp only at *;split at d
 .rename_i b;exact absurd (congrArg Prod.snd d) b
 rename_i b;have b:f=0:=by simpa using b
 subst b;have o:=e _ rfl;have i:=j.trans k;clear e k;have e:=fun T h=>@Ch.yV t T s.aD s.item [0,0,0,0,g,0,0,0,0,0,0] h (i.ok.mQ (i.ix x)).bl;have k:=(eI i.ok (i.ix x) (r:=[0,0,0,0,g,0,0,0,0,0,0]) rfl).1;generalize dR t s.aD s.item [0,0,0,0,g,0,0,0,0,0,0]=r at *;obtain⟨v,f⟩:=r;dsimp only at *;split at d
 .rename_i b;exact absurd (congrArg Prod.snd d) b
 rename_i b;have b:f=0:=by simpa using b
 subst b;have n:=e _ rfl;have w:=i.trans k;clear e k;have c:=((p.trans o x).trans n x);clear p o n;cases d;refine h.ch0 c x ?_ ?_ ?_ ?_ rfl c.kn.1
 .simp[bY,cJ]<;>omega
 .simp[bY,cJ]<;>omega
 .rw[eN _ (by simp)];simp[eY]<;>omega
 .simp[bY,cJ]<;>omega
def OV {q e loc acc d:Int} (G:Gn S) {r:vE} (x:Ix S e item) (l:0<=loc) (l1:loc<=1) (s:acc=1\/acc=2) (h:dS S) (b:vK S ref q e item loc acc d r=(T,0)):dS T:=by
 unfold vK at b;have g:=@Ch.IW S e item G.toStOk x loc 3 q l l1 (by omega) (by omega);have k:=(iF G.toStOk x l l1 (kind:=3) (by omega) (by omega) q).1;generalize dJ S e item loc 3 q=r at *;obtain⟨S1,⟨xq,xv,xp⟩,t,f⟩:=r;dsimp only at *;split at b
 .rename_i a;exact absurd (congrArg Prod.snd b) a
 rename_i a;have a:f=0:=by simpa using a
 subst a;have o:=g rfl;have j:=k;clear g k;have g:=fun T h=>@Ch.post S1 T e [⟨acc,d⟩,⟨6,xv-d⟩,⟨0,-xv⟩] h (j.ok.mQ (j.ix x)).bl;have k:=(dG j.ok (j.ix x) [⟨acc,d⟩,⟨6,xv-d⟩,⟨0,-xv⟩]).1;generalize cZ S1 e [⟨acc,d⟩,⟨6,xv-d⟩,⟨0,-xv⟩]=r at *;obtain⟨p,f⟩:=r;dsimp only at *;split at b
 .rename_i a;exact absurd (congrArg Prod.snd b) a
 rename_i a;have a:f=0:=by simpa using a
 subst a;have n:=g _ rfl;have i:=j.trans k;clear g k;have g:=fun T h=>@Ch.yV p T e item [0,0,0,0,0,0,0,xv,0,0,0] h (i.ok.mQ (i.ix x)).bl;have k:=(eI i.ok (i.ix x) (r:=[0,0,0,0,0,0,0,xv,0,0,0]) rfl).1;generalize dR p e item [0,0,0,0,0,0,0,xv,0,0,0]=r at *;obtain⟨u,f⟩:=r;dsimp only at *;split at b
 .rename_i a;exact absurd (congrArg Prod.snd b) a
 rename_i a;have a:f=0:=by simpa using a
 subst a;have m:=g _ rfl;have v:=i.trans k;clear g k;have c:=((o.trans n x).trans m x)
 clear o n m;cases b;rcases s with rfl|rfl;all_goals
  refine h.ch0 c x ?_ ?_ ?_ ?_ rfl c.kn.1
  .simp[bY,cJ]<;>omega
  .simp[bY,cJ]<;>omega
  .rw[eN _ (by simp)];simp[eY]<;>omega
  .simp[bY,cJ]<;>omega
def alF (G:Gn S) {x:vE} (h:S.aO[ref.toNat]?=some x):Ix S x.aD x.item/\(0<=x.loc/\x.loc<=1):=by
 obtain⟨a,b,c,-⟩:=G.Eu x (a0a h);exact⟨⟨a.1,a.2,b.1,b.2⟩,c⟩
def aor (G:Gn S) {x:kJ} (h:S.aF[ref.toNat]?=some x):Ix S x.aD x.item/\(0<=x.loc/\x.loc<=1):=by
 obtain⟨a,b,c,-⟩:=G.C7 x (a0a h);exact⟨⟨a.1,a.2,b.1,b.2⟩,c⟩
def aoo {q:Int} (G:Gn S) (h:dS S) (a:sbS S ref q=(T,0)):dS T:=by
 unfold sbS at a;split at a
 .cases a
 rename_i e item loc rq rv ro ra rb c;obtain⟨x,b,l1⟩:=alF G c;split at a
 .cases a
 split at a
 .cases a
 split at a
 .cases a
 split at a
 .exact OV G x b l1 (.inl rfl) h a
 .exact OV G x b l1 (.inr rfl) h a
def anj {q a:Int} (G:Gn S)  (h:dS S) (b:Oo S ref q a=(T,0)):dS T:=by
 unfold Oo at b;split at b
 .cases b
 rename_i e item loc rq rv ro ra rb l;obtain⟨x,j,l1⟩:=alF G l;dsimp only at x j l1;split at b
 .cases b
 split at b
 .cases b
 generalize wT ⟨e,item,loc,rq,rv,ro,ra,rb⟩ q=d at *;have i:=fun T h=>@Ch.post S T e [⟨1,d⟩,⟨6,a-d⟩,⟨2,-a⟩] h (G.toStOk.mQ x).bl;have k:=(dG G.toStOk x [⟨1,d⟩,⟨6,a-d⟩,⟨2,-a⟩]).1;generalize cZ S e [⟨1,d⟩,⟨6,a-d⟩,⟨2,-a⟩]=r at *;obtain⟨S1,f⟩:=r;dsimp only at *;split at b
 .rename_i g;exact absurd (congrArg Prod.snd b) g
 rename_i g;have g:f=0:=by simpa using g
 subst g;have m:=i _ rfl;have n:=k;clear i k;have c:=m;cases b;refine h.ch0 c x ?_ ?_ ?_ ?_ rfl c.kn.1
 .simp[bY,cJ]<;>omega
 .simp[bY,cJ]<;>omega
 .rw[eN _ (by simp)];simp[eY]<;>omega
 .simp[bY,cJ]<;>omega
def ad9 {q a:Int} (G:Gn S) {s:kJ} (x:Ix S s.aD s.item) (g:0<=s.loc) (l1:s.loc<=1) (h:dS S) (b:xF S s ref q a=(T,0)):dS T:=by
 unfold xF at b;split at b
 .cases b
 have e:=Ch.aU G.toStOk x g l1 (p:={ (S.aB s.aD).aU (2*s.item+s.loc)with p0:=((S.aB s.aD).aU (2*s.item+s.loc)).p0-q })
 have i:((S.aZ s.aD ((S.aB s.aD).bR (2*s.item+s.loc) { (S.aB s.aD).aU (2*s.item+s.loc)with p0:=((S.aB s.aD).aU (2*s.item+s.loc)).p0-q })).aB s.aD).cN.length=17:=by
  rw[bF.eS x];exact(G.toStOk.mQ x).bl
 dsimp only at e;have j:=fun U h=>@Ch.post _ U s.aD [⟨4,a⟩,⟨3,-a⟩] h i;generalize cZ (S.aZ s.aD ((S.aB s.aD).bR (2*s.item+s.loc) { (S.aB s.aD).aU (2*s.item+s.loc)with p0:=((S.aB s.aD).aU (2*s.item+s.loc)).p0-q })) s.aD [⟨4,a⟩,⟨3,-a⟩]=r at *;obtain⟨k,f⟩:=r;dsimp only at *;split at b
 .rename_i d;exact absurd (congrArg Prod.snd b) d
 rename_i d;have d:f=0:=by simpa using d
 subst d;have c:=e.trans (j _ rfl) x;cases b;refine h.ch0 c x ?_ ?_ ?_ ?_ rfl c.kn.1
 .simp[bY,cJ]<;>omega
 .simp[bY,cJ]<;>omega
 .rw[eN _ (by simp)];simp[eY]<;>omega
 .simp[bY,cJ]<;>omega
def ajj {q a:Int} (G:Gn S) (h:dS S) (b:A0 S ref q a=(T,0)):dS T:=by
 unfold A0 at b;split at b
 .cases b
 rename_i s d;obtain⟨x,c,l1⟩:=aor G d;split at b
 .cases b
 split at b
 .cases b
 split at b
 .exact ad9 G x c l1 h b
 .exact SO G x c l1 h b
section
variable {S T:bF} {e item loc dst q a ref:Int}
def afB (S:bF) (t:yX) (e':Int):(S.tP t).sD e'=S.sD e'+if e'=t.dst then t.value else 0:=by
 unfold bF.sD bF.tP;rw[a1a,a03,a1h];congr 1;by_cases h:e'=t.dst
 .rw[if_pos h];subst h;simp
 .rw[if_neg h]
  simp[Ne.symm h]
def aja (S:bF) (t a:yX) (i:Int) (e':Int) (h:S.aG[i.toNat]?=some t) (d:a.dst=t.dst):(S.zF i a).sD e'=S.sD e'+if e'=t.dst then a.value-t.value else 0:=by
 unfold bF.sD bF.zF;dsimp only
 have go:∀(l:List yX) (n:Nat),l[n]?=some t->(((l.set n a).filter fun t=>t.dst==e').map (·.value)).sum=((l.filter fun t=>t.dst==e').map (·.value)).sum+if e'=t.dst then a.value-t.value else 0:=by
  intro l;induction l with
  |nil=>intro n h;simp at h
  |cons z l b =>
   intro n h;cases n with
   |zero =>
    simp only[a3s,a0i]at h;subst h;simp only[a4f,a1m,d];by_cases c:e'=z.dst
    .subst c;simp;omega
    .rw[if_neg c]
     simp[Ne.symm c]
   |succ n =>
    simp only[a37]at h;have b:=b n h;simp only[a43,a1m];split
    .simp only[a0r,a0p,b];omega
    .exact b
 exact go _ _ h
def dS.closed (h:dS S) {e:Int} {x:dE} (a:0<=e):dS S:=h
def ajx (G:Gn S) (x:Ix S e item) (f:Ix S dst item) (E:dst≠e) (i:0<=loc) (l1:loc<=1) (h:dS S) (v:Ei S e item loc dst q a=(T,0)):dS T:=by
 obtain⟨-,j,-,S1,xq,xv,xp,F,u,H,t,p,o,n,m,rfl⟩:=S7 v;have A:=Ch.IW G.toStOk x i l1 (by omega) (by omega) p;have d:=(iF G.toStOk x i l1 (kind:=3) (by omega) (by omega) q).1;rw[p]at d;have z:=Ch.post o (d.ok.mQ (d.ix x)).bl;have b:=(dG d.ok (d.ix x) [⟨13,a⟩,⟨15,-a⟩,⟨16,xv⟩,⟨0,-xv⟩]).1;rw[o]at b;have b:=d.trans b;have D:=mE.ch h (A.trans z x) x (by simp[bY,cJ]) (by simp[bY,cJ]) (by rw[eN _ (by simp)];simp[eY];omega) (.inl (by simp[bY,cJ]));have y:=Ch.post n (b.ok.mQ (b.ix f)).bl;have c:=(dG b.ok (b.ix f) [⟨12,a⟩,⟨14,-a⟩]).1
 rw[n]at c;have c:=b.trans c;have l:(u.aB dst).ahead=[]:=by
  rw[show(u.aB dst).ahead=(S.aB dst).ahead from congrArg (fun r=>r.2.2) (b.shE dst)];have k:=(G.al _ (a0a (G.toStOk.at_ f))).1;have:(S.aB dst).sh.2.1=false:=by simpa[dE.sh]using j
  rw[this]at k;exact a1f.1 k
 have C:=mE.ch D y (b.ix f) (by simp[bY,cJ]) (by simp[bY,cJ]) (by rw[eN _ (by simp)];simp[eY];omega) (.inr l);have w:=Ch.yV m (c.ok.mQ (c.ix x)).bl;have B:=mE.ch C w (c.ix x) (by simp[cJ]) (by simp[cJ]) (by rw[eN [] (by simp)];simp[eY]) (.inl (by simp[cJ]));have g:=(eI c.ok (c.ix x) (r:=[0,0,0,0,0,0,xv,0,0,0,0]) rfl).1;rw[m]at g;have g:=c.trans g;refine mE.to B rfl fun s _ _=>?_
 rw[afB];have:t.sD s=S.sD s:=by unfold bF.sD;rw[show t.aG=S.aG by have k:=g.eq;dsimp only at k;rw[k];rfl]
 rw[this];simp[bY,cJ]
def acg {a tq tv tp v f:Int} (G:Gn S) (x:Ix S e item) (r:¬(S.aB e).closed=true) (j:0<=loc) (l1:loc<=1) (h:dS S) (s:S.aG[ref.toNat]?=some ⟨a,e,item,tq,tv,tp⟩) (t:yG S a e item tq tv tp loc q ref v f=(T,0)):dS T:=by
 obtain⟨S1,w,up,B,i,p,o,u,rfl⟩:=I7 t;obtain⟨A,m⟩:=Ch.NB G.toStOk x j l1 p;have b:=(iS G.toStOk x j l1 ⟨q,v,f⟩).1;rw[p]at b;have z:=Ch.post o (b.ok.mQ (b.ix x)).bl;have d:=(dG b.ok (b.ix x) [⟨0,w⟩,⟨6,up⟩,⟨12,-v⟩]).1;rw[o]at d;have d:=b.trans d;have y:=Ch.yV u (d.ok.mQ (d.ix x)).bl;have c:=(A.trans z x).trans y x
 have n:(S.aB e).ahead=[]:=by
  have k:=(G.al _ (a0a (G.toStOk.at_ x))).1;have:(S.aB e).sh.2.1=false:=by simpa[dE.sh]using r
  rw[this]at k;exact a1f.1 k
 dsimp only at m;refine dS.ch h c x ?_ ?_ ?_ (.inr n) rfl fun g=>?_
 .simp[bY,cJ]
 .simp[bY,cJ]
 .rw[eN _ (by simp)];simp[eY];omega
 .have l:i.aG[ref.toNat]?=some ⟨a,e,item,tq,tv,tp⟩:=by rw[c.kn.1];exact s
  rw[aja i ⟨a,e,item,tq,tv,tp⟩ ⟨a,e,item,-q+tq,tv-v,tp-f⟩ ref g l rfl];have:i.sD g=S.sD g:=by unfold bF.sD;rw[c.kn.1]
  rw[this];simp[bY,cJ];split<;>omega
def afk (G:Gn S) (f:0<=loc) (l1:loc<=1) (h:dS S) (g:rU S loc q ref=(T,0)):dS T:=by
 obtain⟨i,e,item,tq,tv,tp,a,d,-,k⟩:=NG g;obtain⟨-,⟨r1,r2⟩,⟨c,b⟩,-⟩:=G.L7 _ (a0a a);exact acg G ⟨r1,r2,c,b⟩ d f l1 h a k
def LA {L M:List bP} {a c:Int} (b:yW L a=(M,c,0)):c=vs M-vs L:=by
 unfold yW at b;split at b
 .cases b;omega
 .split at b
  .cases b
  .cases b
   have e2:vs [(⟨qs L,xD (qs L) a 1,ps L⟩:bP)]=xD (qs L) a 1:=by rw[kD];simp[vs]
   omega
def aaP (G:Gn S) (x:Ix S e item) (o:0<=a/\a<=1073741824) (h:dS S) (J:oJ S e item a=(T,0)):dS T:=by
 obtain⟨-,n,d,z,g,y,R,Q,w,C,j,L,rfl⟩:=IM J;have n:S.cE e item=4:=by simpa using n
 have v:=G.toStOk.dH (a:=a) x o;have f:Ix (S.dH (S.bT.set e.toNat ((S.bT.getD e.toNat []).set item.toNat a))) e item:=⟨x.e0,x.e1,x.i0,x.i1⟩;have K:dS (S.dH (S.bT.set e.toNat ((S.bT.getD e.toNat []).set item.toNat a))):=mE.to h rfl fun _ _ _=>rfl;have I:=G.toStOk.xV x (loc:=0) (by omega) (by omega);rw[n]at I;have q0:=(xP I o.1 w).1;have D:=LA w;have s:=LA C;have M:((S.hZ e (2*item+0) d).hZ e (2*item+1) g).dH (S.bT.set e.toNat ((S.bT.getD e.toNat []).set item.toNat a))=((S.dH (S.bT.set e.toNat ((S.bT.getD e.toNat []).set item.toNat a))).hZ e (2*item+0) d).hZ e (2*item+1) g:=rfl;rw[M]at j;have k:yW ((((S.dH (S.bT.set e.toNat ((S.bT.getD e.toNat []).set item.toNat a))).hZ e (2*item+0) d).aB e).aU (2*item+1)).aN a=(g,y,0):=C;have r:yW (((S.dH (S.bT.set e.toNat ((S.bT.getD e.toNat []).set item.toNat a))).aB e).aU (2*item+0)).aN a=(d,z,0):=w;have D:=LA r;have s:=LA k;have i:(S.dH (S.bT.set e.toNat ((S.bT.getD e.toNat []).set item.toNat a))).cE e item=4:=n;generalize S.dH (S.bT.set e.toNat ((S.bT.getD e.toNat []).set item.toNat a))=b at *;have t:=v.xV f (loc:=0) (by omega) (by omega);rw[i]at t;have F:=Ch.aU v f (loc:=0) (by omega) (by omega) { (b.aB e).aU (2*item+0)with aN:=d };have l:=gH v f (loc:=0) (by omega) (by omega) (p:={ (b.aB e).aU (2*item+0)with aN:=d }) (by rw[i];exact(xP t o.1 r).1);rw[show b.hZ e (2*item+0) d=b.aZ e ((b.aB e).bR (2*item+0) { (b.aB e).aU (2*item+0)with aN:=d })from rfl]at k j s;dsimp only at F;generalize b.aZ e ((b.aB e).bR (2*item+0) { (b.aB e).aU (2*item+0)with aN:=d })=S1 at *;have m:=l.ix f;have q:S1.cE e item=4:=by rw[l.eq];exact i
 have H:=l.ok.xV m (loc:=1) (by omega) (by omega);rw[q]at H;have E:=Ch.aU l.ok m (loc:=1) (by omega) (by omega) { (S1.aB e).aU (2*item+1)with aN:=g };have B:=gH l.ok m (loc:=1) (by omega) (by omega) (p:={ (S1.aB e).aU (2*item+1)with aN:=g }) (by rw[q];exact(xP H o.1 k).1);rw[show S1.hZ e (2*item+1) g=S1.aZ e ((S1.aB e).bR (2*item+1) { (S1.aB e).aU (2*item+1)with aN:=g })from rfl]at j;dsimp only at E;generalize S1.aZ e ((S1.aB e).bR (2*item+1) { (S1.aB e).aU (2*item+1)with aN:=g })=S2 at *;have u:=B.ix m;have O:=Ch.post j (B.ok.mQ u).bl;have A:=(dG B.ok u [⟨0,z+y⟩,⟨6,-z-y⟩]).1;rw[j]at A;have N:=Ch.yV L (A.ok.mQ (A.ix u)).bl;have c:=((F.trans E f).trans O f).trans N f;generalize vs ((b.aB e).aU (2*item+0)).aN=P at *;refine K.ch0 c f ?_ ?_ ?_ ?_ rfl c.kn.1
 .simp[bY,cJ];omega
 .simp[bY,cJ]
 .rw[eN _ (by simp)];simp[eY];omega
 .simp[bY,cJ]
def afX {r:vE} {v c:Int} (h:StOk S) (x:Ix S r.aD r.item) (d:0<=r.loc/\r.loc<=1) (l:jC S r v=(T,c,0)):Ch S T r.aD c []:=by
 rcases OP l with⟨rfl,rfl⟩|⟨s,rfl,M,b,m⟩
 .exact⟨T.aB r.aD,by unfold bF.aZ;rw[show T.aH.set r.aD.toNat (T.aB r.aD)=T.aH by
   apply a3h;intro i;rw[a0o];split
   .rename_i k;subst k
    split
    .rw[h.at_ x]
    .rw[a04 (by omega)]
   .rfl],by omega,(h.mQ x).bl,fun a _ _=>by rw[cJ];omega,rfl,rfl⟩
 .have P:=h.xV x d.1 d.2
  have f:=FN P (Aa S r v);rw[b]at f;have o:=Ch.aU h x d.1 d.2 { (S.aB r.aD).aU (2*r.item+r.loc)with aN:=M };have g:=gH h x d.1 d.2 (p:={ (S.aB r.aD).aU (2*r.item+r.loc)with aN:=M }) f.1;have n:=Ch.yV m (g.ok.mQ (g.ix x)).bl
  have q:vs M=vs ((S.aB r.aD).aU (2*r.item+r.loc)).aN+Aa S r v:=by
   unfold tO at b;split at b
   .cases b
   rename_i e;split at b
   .cases b
   split at b
   .cases b
    exact ME _ _ _ _ (by intro j;rw[j]at e;exact e rfl)
   .cases b
  have c:=o.trans n x;dsimp only at c;rw[show vs M-vs ((S.aB r.aD).aU (2*r.item+r.loc)).aN+0=Aa S r v by omega]at c;exact c
def IJ {S0:bF} (m:Gn S0) (y:S0.done<=1000000) {e:Int}:∀(b vs:List Int) (S:bF) (all:Int) (T:bF) (c:Int),Kn S0 S->(∀k∈b,(0<=k/\k<S0.aO.length)/\(S0.rc k).aD=e)->(∀v∈vs,0<=v/\v<=1125899906842624)->b.length=vs.length->b≠[]->gM S0 S b vs all=(T,c,0)->Kn S0 T/\Ch S T e (c-all) []
 |[],vs,S,all,T,c,K,_,_,_,s,_=>absurd rfl s
 |k::b,[],S,all,T,c,K,_,_,l,_,_=>by simp at l
 |k::b,v::vs,S,all,T,c,K,w,p,l,_,d=>by
  rw[pT]at d;obtain⟨H,t⟩:=w k (by simp);have q:S0.rc k∈S0.aO:=dA (by omega);obtain⟨r1,r2,n,E,L,J,I,D⟩:=m.Eu _ q;have x:Ix S0 (S0.rc k).aD (S0.rc k).item:=⟨r1.1,r1.2,r2.1,r2.2⟩;obtain⟨S1,g,f,z⟩:∃S1 g f,jC S (S0.rc k) v=(S1,g,f):=⟨_,_,_,rfl⟩;have a:=(Sb (K.gn m) (by rw[K.eq];exact y) (K.ix x) n E D (p v (by simp)) (rv:=(S0.rc k).value) (ro:=(S0.rc k).vY) (ra:=(S0.rc k).dL)).2.1;have a:Kn S (jC S (S0.rc k) v).1:=a;rw[z]at d a;dsimp only at d a;split at d
  .rename_i h;exact absurd (congrArg (fun r=>r.2.2) d) h
  .rename_i h
   have h:f=0:=(by simpa using h);subst h;have i:=afX K.ok (K.ix x) n z;rw[t]at i x;have B:=K.trans a;by_cases j:b=[]
   .subst j
    simp only[gM]at d;cases d;exact⟨B,by rw[show all+g-all=g by omega];exact i⟩
   .obtain⟨G,F⟩:=IJ m y b vs S1 (all+g) T c B (fun k' u=>w k' (by simp[u])) (fun C o=>p C (by simp[o])) (by simpa using l) j d
    have A:=i.trans F (K.ix x);rw[show g+(c-(all+g))=c-all by omega]at A;exact⟨G,A⟩
def akj {refs:List Int} (G:Gn S) (B:S.done<=1000000) (z:∀k∈refs,0<=k) (n:1<=refs.length) (K:0<=a/\a<=1125899906842624) (h:dS S) (C:qY S dst a refs=(T,0)):dS T:=by
 obtain⟨F,q,-,sh,S1,all,E,D,p⟩:=T5 C;have b:∀k∈refs,0<=k/\k<S.aO.length:=by
  intro k b;have:refs.any (fun k=>decide ((S.aO.length:Int)<=k))=false:=by simpa using F
  rw[a1t]at this;have:=this k b;have:=z k b;simp at *;omega
 have o:∀k∈refs,(S.rc k).aD=(S.rc (refs.headD 0)).aD:=by
  intro k b;have:refs.any (fun k=>decide ((S.rc k).aD≠(S.rc (refs.headD 0)).aD))=false:=by simpa using q
  rw[a1t]at this;have:=this k b;simpa using this
 have d:=@sH a (refs.map (iT S dst));rw[E]at d;rcases d with⟨-,J,I,j,l,w⟩|⟨s,-⟩
 .dsimp only at j l w
  rw[a0w]at j;have g:refs≠[]:=by intro A;rw[A]at n;simp at n
  obtain⟨u,r⟩:=IJ G B (e:=(S.rc (refs.headD 0)).aD) refs sh S 0 S1 all (.refl G.toStOk) (fun k i=>⟨b k i,o k i⟩) (fun v y=>by have:=l v y;omega) j.symm g D
  obtain⟨r0,f⟩:∃r0,refs.headD 0=r0/\r0∈refs:=by
   cases refs with
   |nil=>exact absurd rfl g
   |cons r0 t=>exact⟨r0,rfl,by simp⟩
  rw[f.1]at p r;have m:S.rc r0∈S.aO:=dA (by have:=b r0 f.2;omega);obtain⟨r1,r2,-⟩:=G.Eu _ m;have x:Ix S (S.rc r0).aD (S.rc r0).item:=⟨r1.1,r1.2,r2.1,r2.2⟩;have H:=Ch.post p (u.ok.mQ (u.ix x)).bl;have c:=r.trans H x;refine h.ch0 c x ?_ ?_ ?_ ?_ rfl c.kn.1
  .simp[bY,cJ]
  .simp[bY,cJ]
  .rw[eN _ (by simp)];simp[eY];omega
  .simp[bY,cJ]
 .rcases s with s|s<;>cases s
end
end
section
open Mc
section
variable {S T:bF} {e item loc dst q a ref:Int}
def P9 {l:List bP} {n:Int} (h:LR l):(iK l n).2.v+vs (iK l n).1=vs l:=by
 unfold iK;split
 .unfold fN
  rw[if_neg (by omega),h.uL.1];split
  .simp[bP.zero]
  .rename_i hs
   simp only at hs;obtain⟨-,-,a,-⟩:=tT l .zero n h (by omega) (by omega);simp only[bP.zero]at a |-;omega
 .simp[bP.zero]
def OR (G:Gn S) (x:Ix S e item) (v:0<=loc) (l1:loc<=1) (D:S.cE e item=3) (h:dS S) (g:hH S e item loc=(T,0)):dS T:=by
 have t:=G.toStOk.xV x v l1;obtain⟨C,a2,P,O,N⟩:=Lx (d:=((S.aB e).aU (2*item+loc)).pn) t.lr;have b1:=P9 (n:=((S.aB e).aU (2*item+loc)).pn.a) t.lr;have o:=(xO (n:=((S.aB e).aU (2*item+loc)).pn.a) t.lr).1;have b2:=P9 (n:=((S.aB e).aU (2*item+loc)).pn.b) o;have u:=(xO (n:=((S.aB e).aU (2*item+loc)).pn.b) o).1;have b3:=P9 (n:=((S.aB e).aU (2*item+loc)).pn.c) u;unfold hH at g;split at g
 .cases g;exact h
 .have L:(nC ((S.aB e).aU (2*item+loc)).aN ((S.aB e).aU (2*item+loc)).pn).2.1.v+(nC ((S.aB e).aU (2*item+loc)).aN ((S.aB e).aU (2*item+loc)).pn).2.2.1.v+(nC ((S.aB e).aU (2*item+loc)).aN ((S.aB e).aU (2*item+loc)).pn).2.2.2.v+vs (nC ((S.aB e).aU (2*item+loc)).aN ((S.aB e).aU (2*item+loc)).pn).1=vs ((S.aB e).aU (2*item+loc)).aN:=by
   simp only[nC];omega
  clear b1 b2 b3 o u;generalize nC ((S.aB e).aU (2*item+loc)).aN ((S.aB e).aU (2*item+loc)).pn=r at *;obtain⟨l,⟨xq,xv,xp⟩,⟨J,m,K⟩,⟨H,k,I⟩⟩:=r;dsimp only at *;have q0:=fQ C.ok;have w:l.length<=1:=by rcases t.one with q|q<;>omega
  have s:=gH G.toStOk x v l1 (p:=⟨l,0,0,0⟩) ⟨C,.inr w,by show(0:Int)<=0;omega,by show(0:Int)<=0;omega,by show(0:Int)<=0;omega,by show(0:Int)+0+0<=qs l;omega,.inl D⟩;have A:=Ch.aU G.toStOk x v l1 ⟨l,0,0,0⟩;dsimp only at A;generalize S.aZ e ((S.aB e).bR (2*item+loc) ⟨l,0,0,0⟩)=S0 at *;obtain⟨S1,f,q⟩:∃S1 f,cZ S0 e [⟨5,xv⟩,⟨7,m⟩,⟨8,k⟩,⟨0,-xv⟩,⟨0,-m⟩,⟨0,-k⟩]=(S1,f):=⟨_,_,rfl⟩;rw[q]at g;dsimp only at g;split at g
  .rename_i i;exact absurd (congrArg Prod.snd g) i
  rename_i i;have i:f=0:=by simpa using i
  subst i;obtain⟨j,f,z⟩:∃j f,dR S1 e item [0,0,0,0,0,xv,0,0,m,k,0]=(j,f):=⟨_,_,rfl⟩;rw[z]at g;dsimp only at g;split at g
  .rename_i i;exact absurd (congrArg Prod.snd g) i
  rename_i i;have i:f=0:=by simpa using i
  subst i;cases g;have F:=Ch.post q (s.ok.mQ (s.ix x)).bl;have y:=(dG s.ok (s.ix x) [⟨5,xv⟩,⟨7,m⟩,⟨8,k⟩,⟨0,-xv⟩,⟨0,-m⟩,⟨0,-k⟩]).1;rw[q]at y;have E:=Ch.yV z (y.ok.mQ (y.ix (s.ix x))).bl;have c:=(A.trans F x).trans E x;have B:dS j:=h.ch0 c x (by simp[bY,cJ];omega) (by simp[bY,cJ]) (by rw[eN _ (by simp)];simp[eY];omega) (by simp[bY,cJ]) rfl c.kn.1
  have e1:(iO j e item loc ⟨xq,xv,xp⟩).aH=j.aH/\(iO j e item loc ⟨xq,xv,xp⟩).aG=j.aG:=by
   unfold iO;split<;>exact⟨rfl,rfl⟩
  exact mE.to B e1.1 fun M _ _=>by unfold bF.sD;rw[e1.2]
def aaG (G:Gn S) (x:Ix S e item) (c:S.cE e item=3) (h:dS S) (b:jD S e item=(T,0)):dS T:=by
 unfold jD at b;have v:=(wH G x (loc:=0) (by omega) (by omega) c).1;split at b;rename_i S1 f d;split at b
 .rename_i a;exact absurd (congrArg Prod.snd b) a
 rename_i a;have a:f=0:=by simpa using a
 subst a;rw[d]at v;split at b;rename_i i f g;split at b
 .rename_i a;exact absurd (congrArg Prod.snd b) a
 rename_i a;have a:f=0:=by simpa using a
 subst a;cases b;exact OR v.gn (v.ix x) (by omega) (by omega) (by rw[v.cE];exact c) (OR G x (by omega) (by omega) c h d) g
def FK {e:Int}:∀(n j:Nat) (S T:bF),Gn S->(0<=e/\e<S.aH.length)->n+j<=S.weights.length->dS S->jE e n j S=(T,0)->dS T
 |0,j,S,T,_,_,_,h,a=>by simp only[jE]at a;cases a;exact h
 |n+1,j,S,T,G,c,i,h,a=>by
  unfold jE at a;split at a
  .rename_i d
   have x:Ix S e (j:Int):=⟨c.1,c.2,by omega,by omega⟩;have v:=(CA G x d).1;split at a;rename_i S1 f g;split at a
   .rename_i b;exact absurd (congrArg Prod.snd a) b
   rename_i b;have b:f=0:=by simpa using b
   subst b;rw[g]at v;exact FK n (j+1) S1 T v.gn ⟨c.1,by rw[v.le];exact c.2⟩ (by rw[v.wt];omega) (aaG G x d h g) a
  .exact FK n (j+1) S T G c (by omega) h a
def ahw (S:bF) (e:Int):∀n,n<=(S.aB e).down.length->val (jN S e n) 11=(S.aB e).down.sum-(mA S e n).sum/\(∀a:Int,a≠10->a≠11->val (jN S e n) a=0)/\(eY (jN S e n)).sum=0/\∀y∈jN S e n,0<=y.a/\y.a<17
 |0,_=>⟨by simp[jN,mA,cJ],fun a _ _=>by simp[jN,cJ],by simp[jN,eY],by simp[jN]⟩
 |n+1,h=>by
  obtain⟨g,f,d,c⟩:=ahw S e n (by omega);simp only[jN,mA];split
  .refine⟨?_,fun a j i=>?_,?_,fun y b=>?_⟩
   .rw[PS,g,PU _ _ _ (by rw[tV];omega),TO]
    simp[bY,cJ];omega
   .rw[PS,f a j i];rw[bY,bY,cJ,if_neg (fun h=>j h.symm),if_neg (fun h=>i h.symm)];rfl
   .unfold eY at *;rw[a03,a1h,d];simp;omega
   .rcases a0m.1 b with b|b
    .exact c y b
    .simp only[a0d,a0b,or_false]at b
     rcases b with rfl|rfl<;>simp
  .simp only[a1r]
   exact⟨g,f,d,c⟩
def akc (G:Gn S) (x:Ix S e 0) (o:(S.aB e).ahead=[]) (h:dS S) (k:oP S e=(T,0)):dS T:=by
 have E:=G.toStOk.mQ x;unfold oP at k;split at k;rename_i S1 f A;split at k
 .rename_i j;exact absurd (congrArg Prod.snd k) j
 rename_i j;have j:f=0:=by simpa using j
 subst j;cases k;have K:=LU G.toStOk x (tV S e S.weights.length) (LG E.db _);obtain⟨b,rfl,D,i⟩:=zL A (K.ok.mQ (K.ix x)).bl;obtain⟨s,m,r,q⟩:=ahw S e S.weights.length (by rw[E.dl];exact a0g _);rw[pU];rw[bF.eS x]at i |-;have i:∀a:Int,0<=a->a<17->b.getD a.toNat 0=(S.aB e).acc a+val (jN S e S.weights.length) a:=i;intro c p e1;rw[show(S.aZ e (((S.aB e).uT (mA S e S.weights.length)).sW b)).aH.length=S.aH.length by simp[bF.aZ]]at e1;obtain⟨B,C⟩:=h c p e1;have v:(S.aZ e (((S.aB e).uT (mA S e S.weights.length)).sW b)).sD c=S.sD c:=rfl;rw[v];by_cases n:c=e
 .subst n
  rw[bF.eS x];refine⟨⟨?_,?_,?_,?_⟩,fun y l=>?_⟩
  .show b.getD 0 0=(S.aB c).iv
   have:=i 0 (by omega) (by omega);rw[m 0 (by omega) (by omega)]at this;rw[<-B.g];simpa using this
  .show b.getD 12 0=_
   have:=i 12 (by omega) (by omega);rw[m 12 (by omega) (by omega)]at this;rw[<-B.w];simpa using this
  .show b.getD 11 0=-(mA S c S.weights.length).sum
   have:=i 11 (by omega) (by omega);have t:=B.d;rw[s,t]at this;have this:b.getD 11 0=_:=this;omega
  .have:(List.range 17).map (fun(a:Nat)=>b.getD (a:Int).toNat 0)=(List.range 17).map (fun(a:Nat)=>(S.aB c).acc (a:Int)+val (jN S c S.weights.length) (a:Int)):=a01 fun a u=>by
    rw[a0t]at u;exact i a (by omega) (by omega)
   show((List.range 17).map (fun(a:Nat)=>b.getD (a:Int).toNat 0)).sum=0;rw[this,OJ (fun a=>(S.aB c).acc (a:Int)) (fun a=>val (jN S c S.weights.length) (a:Int)),B.z];have:=eN _ q;unfold OI at this;rw[this,r];rfl
  .have l:y∈(S.aB c).ahead:=l
   rw[o]at l;cases l
 .rw[lY _ x.e0 p n]
  exact⟨B,C⟩
def Xz (G:Gn S) (x:Ix S e 0) (h:dS S) (t:iZ S e=(T,0)):dS T:=by
 obtain⟨q,S1,b,n,m,rfl⟩:=Ir t;have v:=(pK (e:=e) S.weights.length 0 S G ⟨x.e0,x.e1⟩ (by omega)).1;rw[n]at v;have C:=FK S.weights.length 0 S S1 G ⟨x.e0,x.e1⟩ (by omega) h n
 have l:(S1.aB e).ahead=[]:=by
  rw[show(S1.aB e).ahead=(S.aB e).ahead from congrArg (fun r=>r.2.2) (v.shE e)];have k:=(G.al _ (a0a (G.toStOk.at_ x))).1;have:(S.aB e).sh.2.1=false:=by simpa[dE.sh]using q
  rw[this]at k;exact a1f.1 k
 have A:=akc v.gn (v.ix x) l C m;have f:=(EM v.gn (v.ix x)).1;rw[m]at f;have c:=v.trans (f.sv v.gn);have p:=c.ix x;intro a o e1;rw[show(b.aZ e ((b.aB e).shut (S.aB e).toEntC)).aH.length=b.aH.length by simp[bF.aZ]]at e1;obtain⟨B,u⟩:=A a o e1;have s:(b.aZ e ((b.aB e).shut (S.aB e).toEntC)).sD a=b.sD a:=rfl;rw[s];by_cases j:a=e
 .subst j
  rw[bF.eS p];refine⟨⟨B.g,B.w,B.d,B.z⟩,fun y i=>?_⟩
  rw[show((b.aB a).shut (S.aB a).toEntC).ahead=[(S.aB a).toEntC]from rfl,a05]at i;subst i;have:=(h a x.e0 x.e1).1;rw[show S.sD a=b.sD a by unfold bF.sD;rw[c.tr]]at this;exact this
 .rw[lY _ x.e0 o j]
  exact⟨B,u⟩
def aep (G:Gn S) (x:Ix S e 0) (h:dS S) (a:pV S e=(T,0)):dS T:=by
 unfold pV at a;split at a
 .cases a
 split at a
 .rename_i y i
  cases a;have j:mE (S.aZ e ⟨y,[]⟩) S.sD:=by
   intro b d e1;rw[show(S.aZ e ⟨y,[]⟩).aH.length=S.aH.length by simp[bF.aZ]]at e1;obtain⟨B,f⟩:=h b d e1;by_cases c:b=e
   .subst c
    rw[bF.eS x];exact⟨f y (by rw[i];simp),fun z g=>by cases g⟩
   .rw[lY _ x.e0 d c]
    exact⟨B,f⟩
  exact mE.to j rfl fun b _ _=>rfl
 .cases a;exact h
def aj4 (G:Gn S) (x:Ix S e 0) (h:dS S) (a:A7 S e=(T,0)):dS T:=by
 unfold A7 at a;split at a
 .cases a
 split at a
 .cases a
 cases a;intro b f e1;rw[show(S.aZ e (A8 S e)).aH.length=S.aH.length by simp[bF.aZ]]at e1;obtain⟨B,k⟩:=h b f e1;have j:(S.aZ e (A8 S e)).sD b=S.sD b:=rfl;rw[j];by_cases c:b=e
 .subst c
  rw[bF.eS x];exact⟨⟨B.g,B.w,B.d,B.z⟩,fun z i=>by cases i⟩
 .rw[lY _ x.e0 f c]
  exact⟨B,k⟩
end
end
section
open Mc
variable {per:Int} {ws:List Int} {cs ms:List (List Int)}
def SC (n per:Int) (ws:List Int) (ms cs:List (List Int)):AV:=.agg [.i n,.i per,.lit 1 (aA ws),.lit 1 (aW ms),.lit 1 (aW cs)]
instance {n per:Int} {ws:List Int} {ms cs:List (List Int)}:yY (SC n per ws ms cs):=⟨.agg _ (bL (.c _) (bL (.c _) (bL (kV _).lit (bL (oY _).lit (bL (oY _).lit fW)))))⟩
def kW (a b:Int):Prop:=a=b
def kW.mk (a:Int):kW a a:=Eq.refl a
def kW.ex (e n:Int) (h:0<=e/\e<=n:=by omega):∃x,kW x e/\0<=x/\x<=n:=⟨e,.mk e,h⟩
def kW.md (a n:Int) (h:0<n:=by omega):∃x,kW x (a%n)/\0<=x/\x<n:=⟨_,.mk _,a2n _ (by omega),a3n _ h⟩
def aiD (o:C6):Cl o.av:=by
 cases o<;>first|exact amz _|exact .agg _ (bL (.c _) (bL (.c _) (bL (.c _) (bL (.c _) (bL (.c _) (bL (.c _) (bL (.c _) (bL (.c _) (bL (kV _).lit fW)))))))))
instance {o:C6}:yY o.av:=⟨aiD o⟩
structure MOk (n:Nat) (per:Int) (ws:List Int) (ms cs:List (List Int)):Prop where
 n2:2<=n
 n3:n<=3
 w2:2<=ws.length
 w4:ws.length<=4
 p:1<=per/\per<=4
 ml:ms.length=n
 cl:cs.length=n
 mr:∀r∈ms,r.length=ws.length/\∀v∈r,1<=v/\v<=4
 cr:∀r∈cs,r.length=ws.length/\∀v∈r,0<=v/\v<=1000
 wr:∀v∈ws,0<=v/\v<=1073741824
def AT (w:Nat):dE:=⟨⟨1,false,List.replicate (2*w) ⟨[],0,0,0⟩,List.replicate 17 0,List.replicate w (List.replicate 11 0),List.replicate w (-1),List.replicate w 0⟩,[]⟩
def gB (n:Nat) (per:Int) (ws:List Int) (ms cs:List (List Int)):bF:=⟨n,per,ws,ms,cs,List.replicate n (AT ws.length),[],[],[],0⟩
def akw (w:Nat) (ms:List Int):NX w ms (AT w).toEntC:=by
 refine⟨by simp[AT],?_,by simp[AT],?_,by simp[AT],?_,by simp[AT],?_,by simp[AT],?_,by simp[AT]⟩
 .intro k p c
  have:=(a10.1 (a0a c)).2;subst this;exact⟨⟨by simp,fun x h=>absurd h a0b,by decide,by decide,by decide⟩,.inr (by simp),by decide,by decide,by decide,by decide,.inr ⟨rfl,rfl,rfl⟩⟩
 .intro v a
  rw[(a10.1 a).2];exact z58
 .intro r b
  rw[(a10.1 b).2];grind
 .intro v a
  rw[(a10.1 a).2];simp_all
 .intro v a
  rw[(a10.1 a).2];simp_all
def afP {n:Nat} (M:MOk n per ws ms cs):Gn (gB n per ws ms cs):=by
 obtain⟨k,j,i,h,p,ml,cl,f,d,wr⟩:=M;have mem:∀x∈(gB n per ws ms cs).aH,x=AT ws.length:=fun x a=>(a10.1 a).2;have len:(gB n per ws ms cs).aH.length=n:=by simp[gB]
 refine⟨⟨by omega,by show ws.length<=5;omega,by rw[len];exact ml,by rw[len];exact cl,fun r b=>(f r b).1,fun r b=>(d r b).1,fun r b=>(f r b).2,fun r b v g=>⟨((d r b).2 v g).1,by have:=((d r b).2 v g).2;omega⟩,?_,?_⟩,by simp[gB],by simp[gB],by simp[gB],?_,?_,?_,by simp[gB],?_,?_⟩
 .intro e x a
  rw[mem x (a0a a)];exact akw _ _
 .intro x a e l y c
  rw[mem x a]at c;cases c
 .intro x a;cases a
 .intro x a;cases a
 .intro x a;cases a
 .intro x a
  rw[mem x a];exact⟨rfl,fun y c=>by cases c⟩
 .intro x a;cases a
def XJ {n:Nat} (M:MOk n per ws ms cs):Ck 31 [SC n per ws ms cs] (.bE [(gB n per ws ms cs).av,.i 0]):=by
 obtain⟨S,R,P,O,p,ml,cl,a,b,wr⟩:=M;rcases(by omega:n=2\/n=3)with rfl|rfl
 .obtain⟨H,G,rfl⟩:=jP ml
  obtain⟨K,J,rfl⟩:=jP cl;rcases(by omega:ws.length=2\/ws.length=3\/ws.length=4)with h|h|h
  .rw[h]at a b
   obtain⟨w0,m,rfl⟩:=jP h;simp only[a1y,a0b,false_imp_iff,implies_true,and_true]at a b wr;obtain⟨f,e,rfl⟩:=jP a.1.1;obtain⟨l,k,rfl⟩:=jP b.1.1;obtain⟨d,c,rfl⟩:=jP a.2.1;obtain⟨j,g,rfl⟩:=jP b.2.1;simp only[a1y,a0b,false_imp_iff,implies_true,and_true]at a b;exact cw _ (ev1 { vars:=[(1,4),Ke8,Ke8,(1,4),(1,4),(1,4),(1,4),Ke8,Ke8,Ke8,Ke8] } [per,w0,m,f,e,d,c,l,k,j,g] [] [] .nil) [(.agg [.i 2,.v 0,Kc5,VS,VG])] (.bE [(.agg [.i 2,.v 0,Kc5,VS,VG,(.lit 8 [Kj,Kj]),(.lit 8 []),(.lit 9 []),(.lit 6 []),.i 0]),.i 0]) kn
  .rw[h]at a b
   obtain⟨w0,m,y,rfl⟩:=jO h;simp only[a1y,a0b,false_imp_iff,implies_true,and_true]at a b wr;obtain⟨f,e,q,rfl⟩:=jO a.1.1;obtain⟨l,k,s,rfl⟩:=jO b.1.1;obtain⟨d,c,o,rfl⟩:=jO a.2.1;obtain⟨j,g,r,rfl⟩:=jO b.2.1;simp only[a1y,a0b,false_imp_iff,implies_true,and_true]at a b;exact cw _ (ev1 { vars:=[(1,4),Ke8,Ke8,Ke8,(1,4),(1,4),(1,4),(1,4),(1,4),(1,4),Ke8,Ke8,Ke8,Ke8,Ke8,Ke8] } [per,w0,m,y,f,e,q,d,c,o,l,k,s,j,g,r] [] [] .nil) [(.agg [.i 2,.v 0,KbA,YS,Ya])] (.bE [(.agg [.i 2,.v 0,KbA,YS,Ya,(.lit 8 [Kd,Kd]),(.lit 8 []),(.lit 9 []),(.lit 6 []),.i 0]),.i 0]) kn
  .rw[h]at a b
   obtain⟨w0,m,y,F,rfl⟩:=lE h;simp only[a1y,a0b,false_imp_iff,implies_true,and_true]at a b wr;obtain⟨f,e,q,B,rfl⟩:=lE a.1.1;obtain⟨l,k,s,E,rfl⟩:=lE b.1.1;obtain⟨d,c,o,A,rfl⟩:=lE a.2.1;obtain⟨j,g,r,D,rfl⟩:=lE b.2.1;simp only[a1y,a0b,false_imp_iff,implies_true,and_true]at a b;exact cw _ (ev1 { vars:=[(1,4),Ke8,Ke8,Ke8,Ke8,(1,4),(1,4),(1,4),(1,4),(1,4),(1,4),(1,4),(1,4),Ke8,Ke8,Ke8,Ke8,Ke8,Ke8,Ke8,Ke8] } [per,w0,m,y,F,f,e,q,B,d,c,o,A,l,k,s,E,j,g,r,D] [] [] .nil) [(.agg [.i 2,.v 0,Bv,Zq,QZ])] (.bE [(.agg [.i 2,.v 0,Bv,Zq,QZ,(.lit 8 [Ka,Ka]),(.lit 8 []),(.lit 9 []),(.lit 6 []),.i 0]),.i 0]) kn
 .obtain⟨H,G,N,rfl⟩:=jO ml
  obtain⟨K,J,Q,rfl⟩:=jO cl;rcases(by omega:ws.length=2\/ws.length=3\/ws.length=4)with h|h|h
  .rw[h]at a b
   obtain⟨w0,m,rfl⟩:=jP h;simp only[a1y,a0b,false_imp_iff,implies_true,and_true]at a b wr;obtain⟨f,e,rfl⟩:=jP a.1.1;obtain⟨l,k,rfl⟩:=jP b.1.1;obtain⟨d,c,rfl⟩:=jP a.2.1.1;obtain⟨j,g,rfl⟩:=jP b.2.1.1;obtain⟨u,t,rfl⟩:=jP a.2.2.1;obtain⟨x,w,rfl⟩:=jP b.2.2.1;simp only[a1y,a0b,false_imp_iff,implies_true,and_true]at a b;exact cw _ (ev1 { vars:=[(1,4),Ke8,Ke8,(1,4),(1,4),(1,4),(1,4),(1,4),(1,4),Ke8,Ke8,Ke8,Ke8,Ke8,Ke8] } [per,w0,m,f,e,d,c,u,t,l,k,j,g,x,w] [] [] .nil) [(.agg [.i 3,.v 0,Kc5,Zv,Zl])] (.bE [(.agg [.i 3,.v 0,Kc5,Zv,Zl,(.lit 8 [Kj,Kj,Kj]),(.lit 8 []),(.lit 9 []),(.lit 6 []),.i 0]),.i 0]) kn
  .rw[h]at a b
   obtain⟨w0,m,y,rfl⟩:=jO h;simp only[a1y,a0b,false_imp_iff,implies_true,and_true]at a b wr;obtain⟨f,e,q,rfl⟩:=jO a.1.1;obtain⟨l,k,s,rfl⟩:=jO b.1.1;obtain⟨d,c,o,rfl⟩:=jO a.2.1.1;obtain⟨j,g,r,rfl⟩:=jO b.2.1.1;obtain⟨u,t,z,rfl⟩:=jO a.2.2.1;obtain⟨x,w,C,rfl⟩:=jO b.2.2.1;simp only[a1y,a0b,false_imp_iff,implies_true,and_true]at a b;exact cw _ (ev1 { vars:=[(1,4),Ke8,Ke8,Ke8,(1,4),(1,4),(1,4),(1,4),(1,4),(1,4),(1,4),(1,4),(1,4),Ke8,Ke8,Ke8,Ke8,Ke8,Ke8,Ke8,Ke8,Ke8] } [per,w0,m,y,f,e,q,d,c,o,u,t,z,l,k,s,j,g,r,x,w,C] [] [] .nil) [(.agg [.i 3,.v 0,KbA,Qq,J6])] (.bE [(.agg [.i 3,.v 0,KbA,Qq,J6,(.lit 8 [Kd,Kd,Kd]),(.lit 8 []),(.lit 9 []),(.lit 6 []),.i 0]),.i 0]) kn
  .rw[h]at a b
   obtain⟨w0,m,y,F,rfl⟩:=lE h;simp only[a1y,a0b,false_imp_iff,implies_true,and_true]at a b wr;obtain⟨f,e,q,B,rfl⟩:=lE a.1.1;obtain⟨l,k,s,E,rfl⟩:=lE b.1.1;obtain⟨d,c,o,A,rfl⟩:=lE a.2.1.1;obtain⟨j,g,r,D,rfl⟩:=lE b.2.1.1;obtain⟨u,t,z,I,rfl⟩:=lE a.2.2.1;obtain⟨x,w,C,L,rfl⟩:=lE b.2.2.1;simp only[a1y,a0b,false_imp_iff,implies_true,and_true]at a b;exact cw _ (ev1 { vars:=[(1,4),Ke8,Ke8,Ke8,Ke8,(1,4),(1,4),(1,4),(1,4),(1,4),(1,4),(1,4),(1,4),(1,4),(1,4),(1,4),(1,4),Ke8,Ke8,Ke8,Ke8,Ke8,Ke8,Ke8,Ke8,Ke8,Ke8,Ke8,Ke8] } [per,w0,m,y,F,f,e,q,B,d,c,o,A,u,t,z,I,l,k,s,E,j,g,r,D,x,w,C,L] [] [] .nil) [(.agg [.i 3,.v 0,Bv,JA,Jw])] (.bE [(.agg [.i 3,.v 0,Bv,JA,Jw,(.lit 8 [Ka,Ka,Ka]),(.lit 8 []),(.lit 9 []),(.lit 6 []),.i 0]),.i 0]) kn
def ae3 (v:Int):∃(n:Nat) (per:Int) (ws:List Int) (ms cs:List (List Int)),MOk n per ws ms cs/\Ck 11 [.i v] (SC n per ws ms cs):=by
 have hP:=XN v 1073741824;obtain⟨k,hk⟩:∃k,k=v%1073741824:=⟨_,rfl⟩;rw[<-hk]at hP;have bb:0<=k/\k<=1073741823:=by omega
 clear hk;obtain⟨j,ac,ba⟩:=kW.ex (k/2) 1073741824;obtain⟨F,ab,a9⟩:=kW.ex (k/6) 1073741824;obtain⟨W,aa,a8⟩:=kW.ex (F%4) 3;obtain⟨l,L,aU⟩:=kW.ex (k/24) 1073741824;obtain⟨h,Z,a7⟩:=kW.ex (l%7) 6;obtain⟨b,D,aH⟩:=kW.ex (k/168) 1073741824;obtain⟨f,C,aG⟩:=kW.ex (k/672) 1073741824;obtain⟨z,hz,bc⟩:=kW.ex (f%4) 3;obtain⟨a,m,aF⟩:=kW.ex (k/2688) 1073741824;obtain⟨t,K,aT⟩:=kW.ex ((b)%4) 3;obtain⟨y,P,a6⟩:=kW.ex ((a)%40) 39;obtain⟨s,J,aS⟩:=kW.ex ((1+b)%4) 3;obtain⟨x,O,a5⟩:=kW.ex ((7+a)%40) 39;obtain⟨T,ag,aR⟩:=kW.ex ((2+b)%4) 3;obtain⟨V,ai,a4⟩:=kW.ex ((14+a)%40) 39;obtain⟨ap,ax,aQ⟩:=kW.ex ((3+b)%4) 3;obtain⟨au,aA,a3⟩:=kW.ex ((21+a)%40) 39;obtain⟨q,H,aP⟩:=kW.ex ((b+z)%4) 3;obtain⟨w,N,a2⟩:=kW.ex ((1+a)%40) 39;obtain⟨p,G,aO⟩:=kW.ex ((1+b+z)%4) 3;obtain⟨u,M,a1⟩:=kW.ex ((8+a)%40) 39;obtain⟨S,af,aN⟩:=kW.ex ((2+b+z)%4) 3;obtain⟨U,ah,a0⟩:=kW.ex ((15+a)%40) 39;obtain⟨ao,aw,aM⟩:=kW.ex ((3+b+z)%4) 3;obtain⟨ar,az,aZ⟩:=kW.ex ((22+a)%40) 39;obtain⟨Y,ak,aL⟩:=kW.ex ((b+2*z)%4) 3;obtain⟨ae,am,aY⟩:=kW.ex ((2+a)%40) 39;obtain⟨X,aj,aK⟩:=kW.ex ((1+b+2*z)%4) 3;obtain⟨ad,al,aX⟩:=kW.ex ((9+a)%40) 39;obtain⟨an,av,aJ⟩:=kW.ex ((2+b+2*z)%4) 3;obtain⟨aq,ay,aW⟩:=kW.ex ((16+a)%40) 39;obtain⟨aB,aD,aI⟩:=kW.ex ((3+b+2*z)%4) 3;obtain⟨aC,aE,aV⟩:=kW.ex ((23+a)%40) 39;rcases(by omega:k%2=0\/k%2=1)with r2|r2<;>rcases(by omega:j%3=0\/j%3=1\/j%3=2)with E|E|E
 .have B:kW 0 (k%2):=r2.symm
  have A:kW 0 (j%3):=E.symm;clear r2 E;refine⟨2,1+W,[h,1+h],[[1+t,1+s],[1+q,1+p]],[[y,x],[w,u]],⟨by simp,by simp,by simp,by simp,by omega,rfl,rfl,?_,?_,?_⟩,cw _ (Ot { vars:=[Kfa,Ke8,Ke8,(0,3),Ke8,(0,6),Ke8,Ke8,(0,3),Ke8,(0,3),(0,39),(0,3),(0,39),(0,3),(0,39),(0,3),(0,39)],defs:=[(1,[([0],1)],[([],2)],[]),Kbo,(1,[([1],1)],[([],3)],[]),Kbp,Kbq,Ka3,Kbr,KaM,KaN,Kbs,Kao,Ka4,KaO,D8,DM,DN,DO,Gg,DP],bQ:=KaP } [k,j,F,W,l,h,b,f,z,a,t,y,s,x,q,w,p,u] [.I v] [] ((((((((((((((((((jI.nil.c (by omega) (by omega)).c (by omega) (by omega)).c (by omega) (by omega)).c (by omega) (by omega)).c (by omega) (by omega)).c (by omega) (by omega)).c (by omega) (by omega)).c (by omega) (by omega)).c (by omega) (by omega)).c (by omega) (by omega)).c (by omega) (by omega)).c (by omega) (by omega)).c (by omega) (by omega)).c (by omega) (by omega)).c (by omega) (by omega)).c (by omega) (by omega)).c (by omega) (by omega)).c) jT.nil kM.nil .nil (.R k B (.Q k ac (.R j A (.Q k ab (.R F aa (.Q k L (.R l Z (.Q k D (.Q k C (.R f hz (.Q k m (.R b K (.R a P (.R (1+b) J (.R (7+a) O (.R (b+z) H (.R (1+a) N (.R (1+b+z) G (.R (8+a) M (.nil))))))))))))))))))))) [.o 0] (.agg [.i 2,Kd5,DQ,(.lit 1 [V1,V2]),(.lit 1 [[(.lit 1 [[.v 11],[.v 13]])],[(.lit 1 [[.v 15],[.v 17]])]])]) (kc hP kn)⟩
  .intro r d
   simp only[a0d,a0b,or_false]at d;rcases d with rfl|rfl<;>exact⟨rfl,fun v g=>by simp only[a0d,a0b,or_false]at g;omega⟩
  .intro r d
   simp only[a0d,a0b,or_false]at d;rcases d with rfl|rfl<;>exact⟨rfl,fun v g=>by grind⟩
  grind
 .have B:kW 0 (k%2):=r2.symm
  have A:kW 1 (j%3):=E.symm;clear r2 E;refine⟨2,1+W,[h,1+h,2+h],[[1+t,1+s,1+T],[1+q,1+p,1+S]],[[y,x,V],[w,u,U]],⟨by simp,by simp,by simp,by simp,by omega,rfl,rfl,?_,?_,?_⟩,cw _ (Ot { vars:=KT,defs:=[(1,[([0],1)],[([],2)],[]),Kbo,(1,[([1],1)],[([],3)],[([],1)]),Kbp,Kbq,Ka3,Kbr,KaM,KaN,Kbs,Kao,Ka4,KaO,D8,DM,D9,Dy,DR,DS,Gh,DT,Gi,Dz],bQ:=KaP } [k,j,F,W,l,h,b,f,z,a,t,y,s,x,T,V,q,w,p,u,S,U] [.I v] [] ((((((((((((((((((((((jI.nil.c (by omega) (by omega)).c (by omega) (by omega)).c (by omega) (by omega)).c (by omega) (by omega)).c (by omega) (by omega)).c (by omega) (by omega)).c (by omega) (by omega)).c (by omega) (by omega)).c (by omega) (by omega)).c (by omega) (by omega)).c (by omega) (by omega)).c (by omega) (by omega)).c (by omega) (by omega)).c (by omega) (by omega)).c (by omega) (by omega)).c (by omega) (by omega)).c (by omega) (by omega)).c (by omega) (by omega)).c (by omega) (by omega)).c (by omega) (by omega)).c (by omega) (by omega)).c) jT.nil kM.nil .nil (.R k B (.Q k ac (.R j A (.Q k ab (.R F aa (.Q k L (.R l Z (.Q k D (.Q k C (.R f hz (.Q k m (.R b K (.R a P (.R (1+b) J (.R (7+a) O (.R (2+b) ag (.R (14+a) ai (.R (b+z) H (.R (1+a) N (.R (1+b+z) G (.R (8+a) M (.R (2+b+z) af (.R (15+a) ah (.nil))))))))))))))))))))))))) [.o 0] (.agg [.i 2,Kd5,VH,(.lit 1 [ZT,ZU]),(.lit 1 [B5,B6])]) (kc hP kn)⟩
  .intro r d
   simp only[a0d,a0b,or_false]at d;rcases d with rfl|rfl<;>exact⟨rfl,fun v g=>by simp only[a0d,a0b,or_false]at g;omega⟩
  .intro r d
   simp only[a0d,a0b,or_false]at d;rcases d with rfl|rfl<;>exact⟨rfl,fun v g=>by grind⟩
  .intro v g
   simp only[a0d,a0b,or_false]at g;omega
 .have B:kW 0 (k%2):=r2.symm
  have A:kW 2 (j%3):=E.symm;clear r2 E;refine⟨2,1+W,[h,1+h,2+h,3+h],[[1+t,1+s,1+T,1+ap],[1+q,1+p,1+S,1+ao]],[[y,x,V,au],[w,u,U,ar]],⟨by simp,by simp,by simp,by simp,by omega,rfl,rfl,?_,?_,?_⟩,cw _ (Ot { vars:=[Kfa,Ke8,Ke8,(0,3),Ke8,(0,6),Ke8,Ke8,(0,3),Ke8,(0,3),(0,39),(0,3),(0,39),(0,3),(0,39),(0,3),(0,39),(0,3),(0,39),(0,3),(0,39),(0,3),(0,39),(0,3),(0,39)],defs:=[(1,[([0],1)],[([],2)],[]),Kbo,(1,[([1],1)],[([],3)],[([],2)]),Kbp,Kbq,Ka3,Kbr,KaM,KaN,Kbs,Kao,Ka4,KaO,D8,DM,D9,Dy,Bb,DA,DU,DV,Gj,DW,Gk,DB,Gl,DC],bQ:=KaP } [k,j,F,W,l,h,b,f,z,a,t,y,s,x,T,V,ap,au,q,w,p,u,S,U,ao,ar] [.I v] [] ((((((((((((((((((((((((((jI.nil.c (by omega) (by omega)).c (by omega) (by omega)).c (by omega) (by omega)).c (by omega) (by omega)).c (by omega) (by omega)).c (by omega) (by omega)).c (by omega) (by omega)).c (by omega) (by omega)).c (by omega) (by omega)).c (by omega) (by omega)).c (by omega) (by omega)).c (by omega) (by omega)).c (by omega) (by omega)).c (by omega) (by omega)).c (by omega) (by omega)).c (by omega) (by omega)).c (by omega) (by omega)).c (by omega) (by omega)).c (by omega) (by omega)).c (by omega) (by omega)).c (by omega) (by omega)).c (by omega) (by omega)).c (by omega) (by omega)).c (by omega) (by omega)).c (by omega) (by omega)).c) jT.nil kM.nil .nil (.R k B (.Q k ac (.R j A (.Q k ab (.R F aa (.Q k L (.R l Z (.Q k D (.Q k C (.R f hz (.Q k m (.R b K (.R a P (.R (1+b) J (.R (7+a) O (.R (2+b) ag (.R (14+a) ai (.R (3+b) ax (.R (21+a) aA (.R (b+z) H (.R (1+a) N (.R (1+b+z) G (.R (8+a) M (.R (2+b+z) af (.R (15+a) ah (.R (3+b+z) aw (.R (22+a) az (.nil))))))))))))))))))))))))))))) [.o 0] (.agg [.i 2,Kd5,ZI,(.lit 1 [QA,QC]),(.lit 1 [G9,Da])]) (kc hP kn)⟩
  .intro r d
   simp only[a0d,a0b,or_false]at d;rcases d with rfl|rfl<;>exact⟨rfl,fun v g=>by simp only[a0d,a0b,or_false]at g;omega⟩
  .intro r d
   simp only[a0d,a0b,or_false]at d;rcases d with rfl|rfl<;>exact⟨rfl,fun v g=>by grind⟩
  .intro v g
   simp only[a0d,a0b,or_false]at g;omega
 .have B:kW 1 (k%2):=r2.symm
  have A:kW 0 (j%3):=E.symm;clear r2 E;refine⟨3,1+W,[h,1+h],[[1+t,1+s],[1+q,1+p],[1+Y,1+X]],[[y,x],[w,u],[ae,ad]],⟨by simp,by simp,by simp,by simp,by omega,rfl,rfl,?_,?_,?_⟩,cw _ (Ot { vars:=KT,defs:=[KbB,Kbo,(1,[([1],1)],[([],3)],[]),Kbp,Kbq,Ka3,Kbr,KaM,KaN,Kbs,Kao,Ka4,KaO,D8,DM,DN,DO,Gg,DP,(1,[([6],1),([8],2)],[([],4)],[([18],1)]),(1,[([],2),([9],1)],[([],40)],[([19],1)]),(1,Kdd,[([],4)],[([20],1)]),(1,[([],9),([9],1)],[([],40)],[([21],1)])],bQ:=KaP } [k,j,F,W,l,h,b,f,z,a,t,y,s,x,q,w,p,u,Y,ae,X,ad] [.I v] [] ((((((((((((((((((((((jI.nil.c (by omega) (by omega)).c (by omega) (by omega)).c (by omega) (by omega)).c (by omega) (by omega)).c (by omega) (by omega)).c (by omega) (by omega)).c (by omega) (by omega)).c (by omega) (by omega)).c (by omega) (by omega)).c (by omega) (by omega)).c (by omega) (by omega)).c (by omega) (by omega)).c (by omega) (by omega)).c (by omega) (by omega)).c (by omega) (by omega)).c (by omega) (by omega)).c (by omega) (by omega)).c (by omega) (by omega)).c (by omega) (by omega)).c (by omega) (by omega)).c (by omega) (by omega)).c) jT.nil kM.nil .nil (.R k B (.Q k ac (.R j A (.Q k ab (.R F aa (.Q k L (.R l Z (.Q k D (.Q k C (.R f hz (.Q k m (.R b K (.R a P (.R (1+b) J (.R (7+a) O (.R (b+z) H (.R (1+a) N (.R (1+b+z) G (.R (8+a) M (.R (b+2*z) ak (.R (2+a) am (.R (1+b+2*z) aj (.R (9+a) al (.nil))))))))))))))))))))))))) [.o 0] (.agg [.i 3,Kd5,DQ,(.lit 1 [V1,V2,[(.lit 1 [Kdb,Kdc])]]),(.lit 1 [[(.lit 1 [[.v 11],[.v 13]])],[(.lit 1 [[.v 15],[.v 17]])],[(.lit 1 [[.v 19],[.v 21]])]])]) (kc hP kn)⟩
  .intro r d
   simp only[a0d,a0b,or_false]at d;rcases d with rfl|rfl|rfl<;>exact⟨rfl,fun v g=>by simp only[a0d,a0b,or_false]at g;omega⟩
  .intro r d
   simp only[a0d,a0b,or_false]at d;rcases d with rfl|rfl|rfl<;>exact⟨rfl,fun v g=>by grind⟩
  .intro v g
   simp only[a0d,a0b,or_false]at g;omega
 .have B:kW 1 (k%2):=r2.symm
  have A:kW 1 (j%3):=E.symm;clear r2 E;refine⟨3,1+W,[h,1+h,2+h],[[1+t,1+s,1+T],[1+q,1+p,1+S],[1+Y,1+X,1+an]],[[y,x,V],[w,u,U],[ae,ad,aq]],⟨by simp,by simp,by simp,by simp,by omega,rfl,rfl,?_,?_,?_⟩,cw _ (Ot { vars:=[Kfa,Ke8,Ke8,(0,3),Ke8,(0,6),Ke8,Ke8,(0,3),Ke8,(0,3),(0,39),(0,3),(0,39),(0,3),(0,39),(0,3),(0,39),(0,3),(0,39),(0,3),(0,39),(0,3),(0,39),(0,3),(0,39),(0,3),(0,39)],defs:=[KbB,Kbo,(1,[([1],1)],[([],3)],[([],1)]),Kbp,Kbq,Ka3,Kbr,KaM,KaN,Kbs,Kao,Ka4,KaO,D8,DM,D9,Dy,DR,DS,Gh,DT,Gi,Dz,(1,[([6],1),([8],2)],[([],4)],[([22],1)]),(1,[([],2),([9],1)],[([],40)],[([23],1)]),(1,Kdd,[([],4)],[([24],1)]),(1,[([],9),([9],1)],[([],40)],[([25],1)]),(1,[([],2),([6],1),([8],2)],[([],4)],[([26],1)]),(1,[([],16),([9],1)],[([],40)],[([27],1)])],bQ:=KaP } [k,j,F,W,l,h,b,f,z,a,t,y,s,x,T,V,q,w,p,u,S,U,Y,ae,X,ad,an,aq] [.I v] [] ((((((((((((((((((((((((((((jI.nil.c (by omega) (by omega)).c (by omega) (by omega)).c (by omega) (by omega)).c (by omega) (by omega)).c (by omega) (by omega)).c (by omega) (by omega)).c (by omega) (by omega)).c (by omega) (by omega)).c (by omega) (by omega)).c (by omega) (by omega)).c (by omega) (by omega)).c (by omega) (by omega)).c (by omega) (by omega)).c (by omega) (by omega)).c (by omega) (by omega)).c (by omega) (by omega)).c (by omega) (by omega)).c (by omega) (by omega)).c (by omega) (by omega)).c (by omega) (by omega)).c (by omega) (by omega)).c (by omega) (by omega)).c (by omega) (by omega)).c (by omega) (by omega)).c (by omega) (by omega)).c (by omega) (by omega)).c (by omega) (by omega)).c) jT.nil kM.nil .nil (.R k B (.Q k ac (.R j A (.Q k ab (.R F aa (.Q k L (.R l Z (.Q k D (.Q k C (.R f hz (.Q k m (.R b K (.R a P (.R (1+b) J (.R (7+a) O (.R (2+b) ag (.R (14+a) ai (.R (b+z) H (.R (1+a) N (.R (1+b+z) G (.R (8+a) M (.R (2+b+z) af (.R (15+a) ah (.R (b+2*z) ak (.R (2+a) am (.R (1+b+2*z) aj (.R (9+a) al (.R (2+b+2*z) av (.R (16+a) ay (.nil))))))))))))))))))))))))))))))) [.o 0] (.agg [.i 3,Kd5,VH,(.lit 1 [ZT,ZU,[(.lit 1 [[(.e [([],1),([22],1)])],[(.e [([],1),([24],1)])],[(.e [([],1),([26],1)])]])]]),(.lit 1 [B5,B6,[(.lit 1 [[.v 23],[.v 25],[.v 27]])]])]) (kc hP kn)⟩
  .intro r d
   simp only[a0d,a0b,or_false]at d;rcases d with rfl|rfl|rfl<;>exact⟨rfl,fun v g=>by simp only[a0d,a0b,or_false]at g;omega⟩
  .intro r d
   simp only[a0d,a0b,or_false]at d;rcases d with rfl|rfl|rfl<;>exact⟨rfl,fun v g=>by grind⟩
  .intro v g
   simp only[a0d,a0b,or_false]at g;omega
 .have B:kW 1 (k%2):=r2.symm
  have A:kW 2 (j%3):=E.symm;clear r2 E;refine⟨3,1+W,[h,1+h,2+h,3+h],[[1+t,1+s,1+T,1+ap],[1+q,1+p,1+S,1+ao],[1+Y,1+X,1+an,1+aB]],[[y,x,V,au],[w,u,U,ar],[ae,ad,aq,aC]],⟨by simp,by simp,by simp,by simp,by omega,rfl,rfl,?_,?_,?_⟩,cw _ (Ot { vars:=[Kfa,Ke8,Ke8,(0,3),Ke8,(0,6),Ke8,Ke8,(0,3),Ke8,(0,3),(0,39),(0,3),(0,39),(0,3),(0,39),(0,3),(0,39),(0,3),(0,39),(0,3),(0,39),(0,3),(0,39),(0,3),(0,39),(0,3),(0,39),(0,3),(0,39),(0,3),(0,39),(0,3),(0,39)],defs:=[KbB,Kbo,(1,[([1],1)],[([],3)],[([],2)]),Kbp,Kbq,Ka3,Kbr,KaM,KaN,Kbs,Kao,Ka4,KaO,D8,DM,D9,Dy,Bb,DA,DU,DV,Gj,DW,Gk,DB,Gl,DC,(1,[([6],1),([8],2)],[([],4)],[([26],1)]),(1,[([],2),([9],1)],[([],40)],[([27],1)]),(1,Kdd,[([],4)],[([28],1)]),(1,[([],9),([9],1)],[([],40)],[([29],1)]),(1,[([],2),([6],1),([8],2)],[([],4)],[([30],1)]),(1,[([],16),([9],1)],[([],40)],[([31],1)]),(1,[([],3),([6],1),([8],2)],[([],4)],[([32],1)]),(1,[([],23),([9],1)],[([],40)],[([33],1)])],bQ:=KaP } [k,j,F,W,l,h,b,f,z,a,t,y,s,x,T,V,ap,au,q,w,p,u,S,U,ao,ar,Y,ae,X,ad,an,aq,aB,aC] [.I v] [] ((((((((((((((((((((((((((((((((((jI.nil.c (by omega) (by omega)).c (by omega) (by omega)).c (by omega) (by omega)).c (by omega) (by omega)).c (by omega) (by omega)).c (by omega) (by omega)).c (by omega) (by omega)).c (by omega) (by omega)).c (by omega) (by omega)).c (by omega) (by omega)).c (by omega) (by omega)).c (by omega) (by omega)).c (by omega) (by omega)).c (by omega) (by omega)).c (by omega) (by omega)).c (by omega) (by omega)).c (by omega) (by omega)).c (by omega) (by omega)).c (by omega) (by omega)).c (by omega) (by omega)).c (by omega) (by omega)).c (by omega) (by omega)).c (by omega) (by omega)).c (by omega) (by omega)).c (by omega) (by omega)).c (by omega) (by omega)).c (by omega) (by omega)).c (by omega) (by omega)).c (by omega) (by omega)).c (by omega) (by omega)).c (by omega) (by omega)).c (by omega) (by omega)).c (by omega) (by omega)).c) jT.nil kM.nil .nil (.R k B (.Q k ac (.R j A (.Q k ab (.R F aa (.Q k L (.R l Z (.Q k D (.Q k C (.R f hz (.Q k m (.R b K (.R a P (.R (1+b) J (.R (7+a) O (.R (2+b) ag (.R (14+a) ai (.R (3+b) ax (.R (21+a) aA (.R (b+z) H (.R (1+a) N (.R (1+b+z) G (.R (8+a) M (.R (2+b+z) af (.R (15+a) ah (.R (3+b+z) aw (.R (22+a) az (.R (b+2*z) ak (.R (2+a) am (.R (1+b+2*z) aj (.R (9+a) al (.R (2+b+2*z) av (.R (16+a) ay (.R (3+b+2*z) aD (.R (23+a) aE (.nil))))))))))))))))))))))))))))))))))))) [.o 0] (.agg [.i 3,Kd5,ZI,(.lit 1 [QA,QC,[(.lit 1 [[(.e [([],1),([26],1)])],[(.e [([],1),([28],1)])],[(.e [([],1),([30],1)])],[(.e [([],1),([32],1)])]])]]),(.lit 1 [G9,Da,[(.lit 1 [[.v 27],[.v 29],[.v 31],[.v 33]])]])]) (kc hP kn)⟩
  .intro r d
   simp only[a0d,a0b,or_false]at d;rcases d with rfl|rfl|rfl<;>exact⟨rfl,fun v g=>by simp only[a0d,a0b,or_false]at g;omega⟩
  .intro r d
   simp only[a0d,a0b,or_false]at d;rcases d with rfl|rfl|rfl<;>exact⟨rfl,fun v g=>by grind⟩
  .intro v g
   simp only[a0d,a0b,or_false]at g;omega
def adM {n:Nat} (M:MOk n per ws ms cs) (v:Int):∃o:C6,dX n ws.length o/\qU o/\Ck 25 [SC n per ws ms cs,.i v] o.av:=by
 have n2:=M.n2;have n3:=M.n3;have w2:=M.w2;have w4:=M.w4;clear M;have E:=XN v 1099511627776;obtain⟨k,W⟩:∃k,k=v%1099511627776:=⟨_,rfl⟩;rw[<-W]at E;have ai:0<=k/\k<=1099511627775:=by omega
 clear W;obtain⟨t,G,ak⟩:=kW.ex (k%32) 31;obtain⟨j,z,ac⟩:=kW.ex (k/32) 1099511627776;obtain⟨e,H,al⟩:=kW.md j (n:Int);obtain⟨f,p,Y⟩:=kW.ex (k/128) 1099511627776;obtain⟨item,q,Z⟩:=kW.md f (ws.length:Int);obtain⟨d,m,V⟩:=kW.ex (k/1024) 1099511627776;obtain⟨r,A,ae⟩:=kW.ex (d%8) 7;obtain⟨loc,w,ab⟩:=kW.ex (r/7) 1;obtain⟨c,l,U⟩:=kW.ex (k/8192) 1099511627776;obtain⟨y,F,aj⟩:=kW.ex (c%24) 23;obtain⟨b,g,T⟩:=kW.ex (k/196608) 1099511627776;obtain⟨a,J,am⟩:=kW.ex (b%900) 899;obtain⟨s,B,af⟩:=kW.ex (k/7000000) 1099511627776;obtain⟨ref,u,aa⟩:=kW.ex (s%12) 11;rcases(by omega:(0<=t/\t<=7)\/(8<=t/\t<=10)\/(11<=t/\t<=11)\/(12<=t/\t<=16)\/(17<=t/\t<=18)\/(19<=t/\t<=19)\/(20<=t/\t<=20)\/(21<=t/\t<=21)\/(22<=t/\t<=22)\/(23<=t/\t<=23)\/(24<=t/\t<=24)\/(25<=t/\t<=26)\/(27<=t/\t<=28)\/(29<=t/\t<=29)\/(30<=t/\t<=30)\/(31<=t/\t<=31))with h|h|h|h|h|h|h|h|h|h|h|h|h|h|h|h
 .exact⟨.rJ e item loc (1+y) a,by grind[dX],by grind[qU],cw _ (ev1 { vars:=[(2,3),(2,4),KeJ,(0,7),KeK,(0,2),KeK,(0,3),KeK,(0,7),(0,1),KeK,(0,23),KeK,(0,899),KeK,(0,11)],facts:=HQ,defs:=Kh,lens:=Ke3,bQ:=BM } [(n:Int),(ws.length:Int),k,t,j,e,f,item,d,r,loc,c,y,b,a,s,ref] [.I per,.I v] [aA ws,aW ms,aW cs] .nil (.R k G (.Q k z (.R j H (.Q k p (.R f q (.Q k m (.R d A (.Q r w (.Q k l (.R c F (.Q k g (.R b J (.Q k B (.R s u (.nil)))))))))))))))) GI (.agg [.i 1,.v 5,.v 7,.v 10,.i 0,(.e KeI),.v 14,.i 0,.emp]) (kc E kn)⟩
 .obtain⟨C,D,K⟩:=kW.ex ((1+y)/3) 8
  exact⟨.rM (1+C) a ref,by grind[dX],by grind[qU],cw _ (ev1 { vars:=[(2,3),(2,4),KeJ,(8,10),KeK,(0,2),KeK,(0,3),KeK,(0,7),(0,1),KeK,(0,23),KeK,(0,899),KeK,(0,11),(0,8)],facts:=HQ,defs:=Ke,lens:=Ke3,bQ:=BM } [(n:Int),(ws.length:Int),k,t,j,e,f,item,d,r,loc,c,y,b,a,s,ref,C] [.I per,.I v] [aA ws,aW ms,aW cs] .nil (.R k G (.Q k z (.R j H (.Q k p (.R f q (.Q k m (.R d A (.Q r w (.Q k l (.R c F (.Q k g (.R b J (.Q k B (.R s u (.Q (1+y) D (.nil))))))))))))))))) GI (.agg [.i 2,.i 0,.i 0,.i 0,.i 0,KdS,.v 14,.v 16,.emp]) (kc E kn)⟩
 .obtain⟨C,D,K⟩:=kW.ex ((1+y)/6) 4
  exact⟨.oH (1+C) ref,by grind[dX],by simp_all[qU],cw _ (ev1 { vars:=[(2,3),(2,4),KeJ,(11,11),KeK,(0,2),KeK,(0,3),KeK,(0,7),(0,1),KeK,(0,23),KeK,(0,899),KeK,(0,11),(0,4)],facts:=HQ,defs:=[Ka5,Ka6,Ka7,KaQ,Ka8,Kap,Kbt,Ka9,B7,Kaq,Bw,B8,Bh,Kar,(0,KeI,[([],6)],[([17],1)])],lens:=Ke3,bQ:=BM } [(n:Int),(ws.length:Int),k,t,j,e,f,item,d,r,loc,c,y,b,a,s,ref,C] [.I per,.I v] [aA ws,aW ms,aW cs] .nil (.R k G (.Q k z (.R j H (.Q k p (.R f q (.Q k m (.R d A (.Q r w (.Q k l (.R c F (.Q k g (.R b J (.Q k B (.R s u (.Q (1+y) D (.nil))))))))))))))))) GI (.agg [.i 3,.i 0,.i 0,.i 0,.i 0,KdS,.i 0,.v 16,.emp]) (kc E kn)⟩
 .obtain⟨C,D,K⟩:=kW.ex ((1+y)/3) 8
  exact⟨.Mr e item loc (1+C) a,by grind[dX],by grind[qU],cw _ (ev1 { vars:=[(2,3),(2,4),KeJ,(12,16),KeK,(0,2),KeK,(0,3),KeK,(0,7),(0,1),KeK,(0,23),KeK,(0,899),KeK,(0,11),(0,8)],facts:=HQ,defs:=Ke,lens:=Ke3,bQ:=BM } [(n:Int),(ws.length:Int),k,t,j,e,f,item,d,r,loc,c,y,b,a,s,ref,C] [.I per,.I v] [aA ws,aW ms,aW cs] .nil (.R k G (.Q k z (.R j H (.Q k p (.R f q (.Q k m (.R d A (.Q r w (.Q k l (.R c F (.Q k g (.R b J (.Q k B (.R s u (.Q (1+y) D (.nil))))))))))))))))) GI (.agg [.i 4,.v 5,.v 7,.v 10,.i 0,KdS,.v 14,.i 0,.emp]) (kc E kn)⟩
 .obtain⟨C,D,K⟩:=kW.ex ((1+y)/8) 3
  exact⟨.take (1+C) a ref,by grind[dX],by grind[qU],cw _ (ev1 { vars:=[(2,3),(2,4),KeJ,(17,18),KeK,(0,2),KeK,(0,3),KeK,(0,7),(0,1),KeK,(0,23),KeK,(0,899),KeK,(0,11),(0,3)],facts:=HQ,defs:=Kf,lens:=Ke3,bQ:=BM } [(n:Int),(ws.length:Int),k,t,j,e,f,item,d,r,loc,c,y,b,a,s,ref,C] [.I per,.I v] [aA ws,aW ms,aW cs] .nil (.R k G (.Q k z (.R j H (.Q k p (.R f q (.Q k m (.R d A (.Q r w (.Q k l (.R c F (.Q k g (.R b J (.Q k B (.R s u (.Q (1+y) D (.nil))))))))))))))))) GI (.agg [.i 5,.i 0,.i 0,.i 0,.i 0,KdS,.v 14,.v 16,.emp]) (kc E kn)⟩
 .obtain⟨C,D,K⟩:=kW.ex ((1+y)/8) 3
  exact⟨.Ek e item loc (1+C),by grind[dX],by simp_all[qU],cw _ (ev1 { vars:=[(2,3),(2,4),KeJ,(19,19),KeK,(0,2),KeK,(0,3),KeK,(0,7),(0,1),KeK,(0,23),KeK,(0,899),KeK,(0,11),(0,3)],facts:=HQ,defs:=Kf,lens:=Ke3,bQ:=BM } [(n:Int),(ws.length:Int),k,t,j,e,f,item,d,r,loc,c,y,b,a,s,ref,C] [.I per,.I v] [aA ws,aW ms,aW cs] .nil (.R k G (.Q k z (.R j H (.Q k p (.R f q (.Q k m (.R d A (.Q r w (.Q k l (.R c F (.Q k g (.R b J (.Q k B (.R s u (.Q (1+y) D (.nil))))))))))))))))) GI (.agg [.i 6,.v 5,.v 7,.v 10,.i 0,KdS,.i 0,.i 0,.emp]) (kc E kn)⟩
 .exact⟨.count e item loc y,by grind[dX],by grind[qU],cw _ (ev1 { vars:=[(2,3),(2,4),KeJ,(20,20),KeK,(0,2),KeK,(0,3),KeK,(0,7),(0,1),KeK,(0,23),KeK,(0,899),KeK,(0,11)],facts:=HQ,defs:=Kh,lens:=Ke3,bQ:=BM } [(n:Int),(ws.length:Int),k,t,j,e,f,item,d,r,loc,c,y,b,a,s,ref] [.I per,.I v] [aA ws,aW ms,aW cs] .nil (.R k G (.Q k z (.R j H (.Q k p (.R f q (.Q k m (.R d A (.Q r w (.Q k l (.R c F (.Q k g (.R b J (.Q k B (.R s u (.nil)))))))))))))))) GI (.agg [.i 7,.v 5,.v 7,.v 10,.i 0,.v 12,.i 0,.i 0,.emp]) (kc E kn)⟩
 .obtain⟨C,D,K⟩:=kW.ex ((1+y)/3) 8
  exact⟨.move e item loc (1-loc) (1+C),by grind[dX],by grind[qU],cw _ (ev1 { vars:=[(2,3),(2,4),KeJ,(21,21),KeK,(0,2),KeK,(0,3),KeK,(0,7),(0,1),KeK,(0,23),KeK,(0,899),KeK,(0,11),(0,8)],facts:=HQ,defs:=Ke,lens:=Ke3,bQ:=BM } [(n:Int),(ws.length:Int),k,t,j,e,f,item,d,r,loc,c,y,b,a,s,ref,C] [.I per,.I v] [aA ws,aW ms,aW cs] .nil (.R k G (.Q k z (.R j H (.Q k p (.R f q (.Q k m (.R d A (.Q r w (.Q k l (.R c F (.Q k g (.R b J (.Q k B (.R s u (.Q (1+y) D (.nil))))))))))))))))) GI (.agg [.i 8,.v 5,.v 7,.v 10,(.e [([],1),([10],(-1))]),KdS,.i 0,.i 0,.emp]) (kc E kn)⟩
 .obtain⟨a2,L,P⟩:=kW.ex (a%60) 59
  exact⟨.rH e item a2,by grind[dX],by grind[qU],cw _ (ev1 { vars:=[(2,3),(2,4),KeJ,(22,22),KeK,(0,2),KeK,(0,3),KeK,(0,7),(0,1),KeK,(0,23),KeK,(0,899),KeK,(0,11),(0,59)],facts:=HQ,defs:=Kg,lens:=Ke3,bQ:=BM } [(n:Int),(ws.length:Int),k,t,j,e,f,item,d,r,loc,c,y,b,a,s,ref,a2] [.I per,.I v] [aA ws,aW ms,aW cs] .nil (.R k G (.Q k z (.R j H (.Q k p (.R f q (.Q k m (.R d A (.Q r w (.Q k l (.R c F (.Q k g (.R b J (.Q k B (.R s u (.R a L (.nil))))))))))))))))) GI (.agg [.i 9,.v 5,.v 7,.i 0,.i 0,.i 0,.v 17,.i 0,.emp]) (kc E kn)⟩
 .obtain⟨a2,L,P⟩:=kW.ex (a%60) 59
  exact⟨.qX e item a2,by grind[dX],by simp_all[qU],cw _ (ev1 { vars:=[(2,3),(2,4),KeJ,(23,23),KeK,(0,2),KeK,(0,3),KeK,(0,7),(0,1),KeK,(0,23),KeK,(0,899),KeK,(0,11),(0,59)],facts:=HQ,defs:=Kg,lens:=Ke3,bQ:=BM } [(n:Int),(ws.length:Int),k,t,j,e,f,item,d,r,loc,c,y,b,a,s,ref,a2] [.I per,.I v] [aA ws,aW ms,aW cs] .nil (.R k G (.Q k z (.R j H (.Q k p (.R f q (.Q k m (.R d A (.Q r w (.Q k l (.R c F (.Q k g (.R b J (.Q k B (.R s u (.R a L (.nil))))))))))))))))) GI (.agg [.i 10,.v 5,.v 7,.i 0,.i 0,.i 0,.v 17,.i 0,.emp]) (kc E kn)⟩
 .obtain⟨N,O,X⟩:=kW.ex ((1+ref)%12) 11
  obtain⟨a2,L,P⟩:=kW.ex (a%3) 2;rcases(by omega:(1+y)%3=0\/(1+y)%3=1\/(1+y)%3=2)with hs|hs|hs
  .have hs:kW 0 ((1+y)%3):=hs.symm
   exact⟨.land a2 a [ref],⟨⟨by omega,by omega⟩,⟨by omega,by omega⟩,.inl ⟨ref,rfl,by omega,by omega⟩⟩,by grind[qU],cw _ (ev1 { vars:=KQ,facts:=HQ,defs:=[Ka5,Ka6,Ka7,KaQ,Ka8,Kap,Kbt,Ka9,B7,Kaq,Bw,B8,Bh,Kar,(1,KeI,[([],3)],[]),DD,KaR],lens:=Ke3,bQ:=BM } [(n:Int),(ws.length:Int),k,t,j,e,f,item,d,r,loc,c,y,b,a,s,ref,N,a2] [.I per,.I v] [aA ws,aW ms,aW cs] .nil (.R k G (.Q k z (.R j H (.Q k p (.R f q (.Q k m (.R d A (.Q r w (.Q k l (.R c F (.Q k g (.R b J (.Q k B (.R s u (.R (1+y) hs (.R (1+ref) O (.R a L (.nil))))))))))))))))))) GI (.agg [.i 11,.i 0,.i 0,.i 0,.v 18,.i 0,.v 14,.i 0,(.lit 1 [[.v 16]])]) (kc E kn)⟩
  .have hs:kW 1 ((1+y)%3):=hs.symm
   have ag:N≠ref:=(by grind[kW]);exact⟨.land a2 a [ref,N],⟨⟨by omega,by omega⟩,⟨by omega,by omega⟩,.inr (.inl ⟨ref,N,rfl,⟨by omega,by omega⟩,⟨by omega,by omega⟩,by omega⟩)⟩,by grind[qU],cw _ (ev1 { vars:=KQ,facts:=HQ,defs:=[Ka5,Ka6,Ka7,KaQ,Ka8,Kap,Kbt,Ka9,B7,Kaq,Bw,B8,Bh,Kar,(1,KeI,[([],3)],[([],1)]),DD,KaR],lens:=Ke3,bQ:=BM } [(n:Int),(ws.length:Int),k,t,j,e,f,item,d,r,loc,c,y,b,a,s,ref,N,a2] [.I per,.I v] [aA ws,aW ms,aW cs] .nil (.R k G (.Q k z (.R j H (.Q k p (.R f q (.Q k m (.R d A (.Q r w (.Q k l (.R c F (.Q k g (.R b J (.Q k B (.R s u (.R (1+y) hs (.R (1+ref) O (.R a L (.nil))))))))))))))))))) GI (.agg [.i 11,.i 0,.i 0,.i 0,.v 18,.i 0,.v 14,.i 0,(.lit 1 [[.v 16],[.v 17]])]) (kc E kn)⟩
  .have hs:kW 2 ((1+y)%3):=hs.symm
   exact⟨.land a2 a [0,1+ref,2+ref],⟨⟨by omega,by omega⟩,⟨by omega,by omega⟩,.inr (.inr ⟨0,1+ref,2+ref,rfl,⟨by omega,by omega⟩,⟨by omega,by omega⟩,⟨by omega,by omega⟩,by omega,by omega⟩)⟩,by grind[qU],cw _ (ev1 { vars:=KQ,facts:=HQ,defs:=[Ka5,Ka6,Ka7,KaQ,Ka8,Kap,Kbt,Ka9,B7,Kaq,Bw,B8,Bh,Kar,(1,KeI,[([],3)],[([],2)]),DD,KaR],lens:=Ke3,bQ:=BM } [(n:Int),(ws.length:Int),k,t,j,e,f,item,d,r,loc,c,y,b,a,s,ref,N,a2] [.I per,.I v] [aA ws,aW ms,aW cs] .nil (.R k G (.Q k z (.R j H (.Q k p (.R f q (.Q k m (.R d A (.Q r w (.Q k l (.R c F (.Q k g (.R b J (.Q k B (.R s u (.R (1+y) hs (.R (1+ref) O (.R a L (.nil))))))))))))))))))) GI (.agg [.i 11,.i 0,.i 0,.i 0,.v 18,.i 0,.v 14,.i 0,(.lit 1 [[.i 0],Kda,[(.e [([],2),([16],1)])]])]) (kc E kn)⟩
 .obtain⟨C,D,K⟩:=kW.ex ((1+y)/3) 8
  obtain⟨a2,L,P⟩:∃x,kW x (a%(-1+(n:Int)))/\0<=x/\x < -1+(n:Int):=⟨_,.mk _,a2n _ (by omega),a3n _ (by omega)⟩;obtain⟨dst,S,ad⟩:=kW.md (1+e+a2) (n:Int)
  have ah:dst≠e:=by
   unfold kW at S;rcases(by omega:n=2\/n=3)with rfl|rfl<;>omega
  exact⟨.P7 e item loc dst (1+C) a,by grind[dX],by grind[qU],cw _ (ev1 { vars:=[(2,3),(2,4),KeJ,(25,26),KeK,(0,2),KeK,(0,3),KeK,(0,7),(0,1),KeK,(0,23),KeK,(0,899),KeK,(0,11),(0,8),(0,1),(0,2)],facts:=HQ,defs:=[Ka5,Ka6,Ka7,KaQ,Ka8,Kap,Kbt,Ka9,B7,Kaq,Bw,B8,Bh,Kar,DX,(1,[([14],1)],[([],-1),([0],1)],[([18],1)]),(1,[([],1),([5],1),([18],1)],[([0],1)],[([19],1)])],lens:=Ke3,bQ:=BM } [(n:Int),(ws.length:Int),k,t,j,e,f,item,d,r,loc,c,y,b,a,s,ref,C,a2,dst] [.I per,.I v] [aA ws,aW ms,aW cs] .nil (.R k G (.Q k z (.R j H (.Q k p (.R f q (.Q k m (.R d A (.Q r w (.Q k l (.R c F (.Q k g (.R b J (.Q k B (.R s u (.Q (1+y) D (.R a L (.R (1+e+a2) S (.nil))))))))))))))))))) GI (.agg [.i 12,.v 5,.v 7,.v 10,.v 19,KdS,.v 14,.i 0,.emp]) (kc E kn)⟩
 .obtain⟨C,D,K⟩:=kW.ex ((1+y)/4) 6
  exact⟨.yF loc (1+C) ref,by grind[dX],by grind[qU],cw _ (ev1 { vars:=[(2,3),(2,4),KeJ,(27,28),KeK,(0,2),KeK,(0,3),KeK,(0,7),(0,1),KeK,(0,23),KeK,(0,899),KeK,(0,11),(0,6)],facts:=HQ,defs:=[Ka5,Ka6,Ka7,KaQ,Ka8,Kap,Kbt,Ka9,B7,Kaq,Bw,B8,Bh,Kar,(0,KeI,[([],4)],[([17],1)])],lens:=Ke3,bQ:=BM } [(n:Int),(ws.length:Int),k,t,j,e,f,item,d,r,loc,c,y,b,a,s,ref,C] [.I per,.I v] [aA ws,aW ms,aW cs] .nil (.R k G (.Q k z (.R j H (.Q k p (.R f q (.Q k m (.R d A (.Q r w (.Q k l (.R c F (.Q k g (.R b J (.Q k B (.R s u (.Q (1+y) D (.nil))))))))))))))))) GI (.agg [.i 13,.i 0,.i 0,.v 10,.i 0,KdS,.i 0,.v 16,.emp]) (kc E kn)⟩
 .exact⟨.close e,by grind[dX],by simp_all[qU],cw _ (ev1 { vars:=[(2,3),(2,4),KeJ,(29,29),KeK,(0,2),KeK,(0,3),KeK,(0,7),(0,1),KeK,(0,23),KeK,(0,899),KeK,(0,11)],facts:=HQ,defs:=Kh,lens:=Ke3,bQ:=BM } [(n:Int),(ws.length:Int),k,t,j,e,f,item,d,r,loc,c,y,b,a,s,ref] [.I per,.I v] [aA ws,aW ms,aW cs] .nil (.R k G (.Q k z (.R j H (.Q k p (.R f q (.Q k m (.R d A (.Q r w (.Q k l (.R c F (.Q k g (.R b J (.Q k B (.R s u (.nil)))))))))))))))) GI (.agg [.i 14,.v 5,.i 0,.i 0,.i 0,.i 0,.i 0,.i 0,.emp]) (kc E kn)⟩
 .exact⟨.xR e,by grind[dX],by simp_all[qU],cw _ (ev1 { vars:=[(2,3),(2,4),KeJ,(30,30),KeK,(0,2),KeK,(0,3),KeK,(0,7),(0,1),KeK,(0,23),KeK,(0,899),KeK,(0,11)],facts:=HQ,defs:=Kh,lens:=Ke3,bQ:=BM } [(n:Int),(ws.length:Int),k,t,j,e,f,item,d,r,loc,c,y,b,a,s,ref] [.I per,.I v] [aA ws,aW ms,aW cs] .nil (.R k G (.Q k z (.R j H (.Q k p (.R f q (.Q k m (.R d A (.Q r w (.Q k l (.R c F (.Q k g (.R b J (.Q k B (.R s u (.nil)))))))))))))))) GI (.agg [.i 15,.v 5,.i 0,.i 0,.i 0,.i 0,.i 0,.i 0,.emp]) (kc E kn)⟩
 .exact⟨.next e,by grind[dX],by simp_all[qU],cw _ (ev1 { vars:=[(2,3),(2,4),KeJ,(31,31),KeK,(0,2),KeK,(0,3),KeK,(0,7),(0,1),KeK,(0,23),KeK,(0,899),KeK,(0,11)],facts:=HQ,defs:=Kh,lens:=Ke3,bQ:=BM } [(n:Int),(ws.length:Int),k,t,j,e,f,item,d,r,loc,c,y,b,a,s,ref] [.I per,.I v] [aA ws,aW ms,aW cs] .nil (.R k G (.Q k z (.R j H (.Q k p (.R f q (.Q k m (.R d A (.Q r w (.Q k l (.R c F (.Q k g (.R b J (.Q k B (.R s u (.nil)))))))))))))))) GI (.agg [.i 16,.v 5,.i 0,.i 0,.i 0,.i 0,.i 0,.i 0,.emp]) (kc E kn)⟩
inductive Reach (n:Nat) (per:Int) (ws:List Int) (ms cs:List (List Int)):Nat->bF->Prop
 |start:Reach n per ws ms cs 0 (gB n per ws ms cs)
 |step {k:Nat} {S:bF} {o:C6} (h:Reach n per ws ms cs k S) (ok:dX n ws.length o) (sm:qU o):Reach n per ws ms cs (k+1) (nT S o).1
structure RS (n:Nat) (per:Int) (ws:List Int) (ms:List (List Int)) (k:Nat) (S:bF):Prop where
 gn:Gn S
 le:S.aH.length=n
 wt:S.weights=ws
 pe:S.bH=per
 en:S.bJ=n
 me:S.methods=ms
 dn:S.done<=k
def RS.step {n:Nat} {per:Int} {ws:List Int} {ms cs:List (List Int)} (M:MOk n per ws ms cs) {k:Nat} {S:bF} (h:RS n per ws ms k S) (e:k<=900000) {o:C6} (ok:dX n ws.length o) :
  Ck 16 [S.av,o.av] (.bE [(nT S o).1.av,.i (nT S o).2])/\RS n per ws ms (k+1) (nT S o).1:=by
 obtain⟨G,b,a,pe,en,d,f⟩:=h;obtain⟨c,s⟩:=anz (S:=S) G (by omega) (by rw[a];exact M.wr) (by rw[a];have:=M.w2;omega) (by rw[pe];have:=M.p;omega) (o:=o) (by rw[b,a];exact ok);exact⟨c,s.gn,s.le.trans b,s.wt.trans a,s.pe.trans pe,s.en.trans en,s.me.trans d,by have:=s.dn;omega⟩
def RS.start {n:Nat} (M:MOk n per ws ms cs):RS n per ws ms 0 (gB n per ws ms cs) :=
 ⟨afP M,by simp[gB],rfl,rfl,rfl,rfl,by simp[gB]⟩
def Reach.rs {n:Nat} (M:MOk n per ws ms cs) {k:Nat} {S:bF} (h:Reach n per ws ms cs k S) (c:k<=900000):RS n per ws ms k S:=by
 induction h with
 |start=>exact .start M
 |step h ok b a=>exact((a (by omega)).step M (by omega) ok).2
def C6.row (o:C6):List AV:=match o.av with | .agg l=>l|_=>[]
def C6.ab9 (o:C6):o.av=.agg o.row:=by cases o<;>rfl
def nF (l:List C6):List (List AV):=l.map C6.row
@[simp] theorem aot (l:List C6):(nF l).length=l.length:=by simp[nF]
def aiC (o:C6):∀x∈o.row,Cl x:=by
 have h:=aiD o;rw[o.ab9]at h;cases h with
 |agg _ h=>exact h
instance (l:List C6):lW (nF l):=⟨qO.map (fun o x a=>aiC o x a) l⟩
def agc (o:C6):∃j h g f e d c b:Int,o.row=[.i j,.i h,.i g,.i f,.i e,.i d,.i c,.i b,.emp]\/∃refs,o.row=[.i j,.i h,.i g,.i f,.i e,.i d,.i c,.i b,.lit 1 (aA refs)]:=by
 cases o with
 |land dst a refs=>exact⟨_,_,_,_,_,_,_,_,.inr ⟨refs,rfl⟩⟩
 |_=>exact⟨_,_,_,_,_,_,_,_,.inl rfl⟩
namespace NS
abbrev oF (l o i:AV):List AV:=fr 27 [(1,l),(2,.ptr 5 0 0 0),(4,.emp),(5,o),(6,i)]
abbrev sF (o i:AV):List AV:=fr 33 [(2,.ptr 5 0 0 0),(4,.ptr 10 1 0 0),(5,.ptr 10 2 0 0),(6,.i 0),(7,o),(8,i)]
abbrev mB (n per:Int) (ws:List Int) (ms cs:List (List Int)):Mc.dI:=.cells 25 5 [[.i n,.i per,.lit 1 (aA ws),.lit 1 (aW ms),.lit 1 (aW cs)]]
abbrev oO (n:Nat):AV:=.own 50 9 1 0 n
abbrev oB (l:List C6):Mc.dI:=.cells 50 9 (nF l)
abbrev sB (S:bF):Mc.dI:=.cells 31 10 [[.i S.bJ,.i S.bH,.lit 1 (aA S.weights),.lit 1 (aW S.methods),.lit 1 (aW S.bT),.lit 8 (aX S.aH),.lit 8 (fU S.aO),.lit 9 (dN S.aF),.lit 6 (eO S.aG),.i S.done]]
abbrev zB:Mc.dI:=.cells 31 10 He
namespace O
noncomputable def body:Code:=(Tryz.f32).body.getD .skip
abbrev alL (c:Code) (r:Option (RT Out)):Prop:=uG { vars:=KcR,lens:=Ke6 } c (Gm++List.replicate 25 .undef) [] [some 0,none] (oF (.q 1 3) (.own 50 9 1 0 0) (.i 0)) [Gp,(.cells 50 9 [])] r
noncomputable def alA:Option (RT Out):=yZ { vars:=KcR,lens:=Ke6 } body (Gm++List.replicate 25 .undef:List AV).length (Gm++List.replicate 25 .undef) [] 0
def an6:alL body alA:=⟨rfl,by decide +kernel,by decide +kernel⟩
end O
namespace S
noncomputable def body:Code:=(Tryz.f10).body.getD .skip
abbrev alH (c:Code) (r:Option (RT Out)):Prop:=uG { vars:=KcR,lens:=Ke6,bQ:=KO } c (Gm++List.replicate 31 .undef) [] [some 0,some 1,some 2] (sF (.q 9 5) (.i 0)) [Gp,Vn,(.cells 31 10 [Yl])] r
noncomputable def alw:Option (RT Out):=yZ { vars:=KcR,lens:=Ke6,bQ:=KO } body (Gm++List.replicate 31 .undef:List AV).length (Gm++List.replicate 31 .undef) [] 0
def an2:alH body alw:=⟨rfl,by decide +kernel,by decide +kernel⟩
end S
noncomputable abbrev fO:Func:=Tryz.f32
open O S
section
variable {n':Nat} {per:Int} {ws:List Int} {ms cs:List (List Int)}
def aha (M:MOk n' per ws ms cs) (f:Int->C6) (G:∀v,(dX n' ws.length (f v)/\qU (f v))/\Ck 25 [SC n' per ws ms cs,.i v] (f v).av)
  (l:List Int) (S:l.length<=9223372036854775807) (oA:Option (RT Out)) (L:alL O.body oA) (K:eA { vars:=Kba,facts:=Db,lens:=Kb1,iG:=[(3,[([1],1)],[.o 2])],bQ:=[(25,GJ,(.agg Gx))] } (bB oA) (oF (.q 1 3) Kde (.v 1)) YB 0 [some 0,some 3] (oF (.q 1 3) (.dD 50 9 1 KeO) KdU) [Gp,(.sc 50 9 4 [] [Gx] KeO)]) (J:eA { vars:=Kba,facts:=Db,lens:=Kb1,iG:=[(3,[([1],1)],[.o 2])],bQ:=[(25,GJ,(.agg H9))] } (bB oA) (oF (.q 1 3) Kde (.v 1)) YB 0 [some 0,some 3] (oF (.q 1 3) (.dD 50 9 1 KeO) KdU) [Gp,(.sc 50 9 4 [] [H9] KeO)]) (r1:eA { vars:=Kbb,facts:=[(Ket,0,0)],lens:=Kb1 } (bB oA) (oF (.q 1 3) Kde (.v 1)) YB 2 [some 0,some 1] (oF (.q 1 3) Kde (.v 1)) YB) (r2:eA { vars:=[Kdq,(120,120)],facts:=Db,lens:=Kb1 } (bB oA) (oF (.q 1 3) Kde (.v 1)) YB 2 [some 0,some 1] (oF (.q 1 3) Kde (.v 1)) YB) (H:kH { vars:=Kbb,lens:=Kb1 } Tryz.f32 oA 0 (oF (.q 1 3) Kde (.v 1)) YB ((.q 9 4))) :
  Ck 32 [SC n' per ws ms cs,.lit 1 (aA l)] (.lit 9 (nF ((l.take 120).map f))):=by
 obtain⟨n,P⟩:∃n:Int,n=n':=⟨_,rfl⟩;rw[<-P]at G |-;refine CK.hY Tryz.func32 (c:=O.body) (by kernel_rfl) (Cw.out) (yY.out) fun A w0 a0=>?_
 intro mm w aa b;rw[Tryz.ntmps32]at b;refine L.go (ev1 _ [(l.length:Int)] [.I n,.I per] [aA ws,aW ms,aW cs,aA l] .nil) (xK kn) b (fd:=oF (.lit 1 (aA l)) (oO 0) (.i 0)) (bd:=[mB n per ws ms cs,oB []]) ?_;intro mm w aa b;refine dQ (fun k R w=>∃(j:Nat),k=l.length-j/\j<=l.length/\j<=120/\∃mm,@fD dY dZ A w0 a0 mm w R (oF (.lit 1 (aA l)) (oO j) (.i (j:Int))) (fH [mB n per ws ms cs,oB ((l.take j).map f)])) ?_ (n:=l.length) ⟨0,rfl,a0n _,by omega,_,b⟩;rintro k aa w ⟨j,rfl,U,T,mm,b⟩;have E:((l.take j).map f).length=j:=by simp;omega
 by_cases N:j<l.length/\j<120
 .obtain⟨v,C⟩:∃v,l[j]?=some v:=⟨_,a0f N.1⟩
  have F:l[(j:Int).toNat]?=some v:=by simpa using C
  obtain⟨-,p⟩:=G v;have nx:∀mm w a,@fD dY dZ A w0 a0 mm w a (oF (.lit 1 (aA l)) (oO (1+(j:Int)).toNat) (.i (1+(j:Int)))) (fH [mB n per ws ms cs,.cells 50 9 (nF ((l.take j).map f)++[(f v).row])])->∃n',n'<l.length-j/\∃(m:Nat),n'=l.length-m/\m<=l.length/\m<=120/\∃mm,@fD dY dZ A w0 a0 mm w a (oF (.lit 1 (aA l)) (oO m) (.i (m:Int))) (fH [mB n per ws ms cs,oB ((l.take m).map f)]):=by
   intro mm w a b;have e:nF ((l.take j).map f)++[(f v).row]=nF ((l.take (j+1)).map f):=by
    rw[a0u,C];simp[nF]
   rw[e,show(1+(j:Int)).toNat=j+1 by omega,show(1+(j:Int))=((j+1:Nat):Int)by omega]at b;exact⟨_,by omega,j+1,rfl,by omega,by omega,mm,b⟩
  rw[(f v).ab9]at p;obtain⟨B,z,y,x,u,t,s,r,D|⟨refs,D⟩⟩:=agc (f v)
  .rw[D]at p nx
   generalize (l.take j).map f=g at *;refine K.go (ev1 _ [(l.length:Int),(j:Int)] [.I n,.I per,.I v,.I B,.I z,.I y,.I x,.I u,.I t,.I s,.I r] [aA ws,aW ms,aW cs,aA l,nF g] (.d (aI F) .nil)) (xK (kc p kn)) b (fd:=oF (.lit 1 (aA l)) (oO (1+(j:Int)).toNat) (.i (1+(j:Int)))) (bd:=[mB n per ws ms cs,.cells 50 9 (nF g++[[.i B,.i z,.i y,.i x,.i u,.i t,.i s,.i r,.emp]])]) ?_;exact nx
  .rw[D]at p nx
   generalize (l.take j).map f=g at *;refine J.go (ev1 _ [(l.length:Int),(j:Int)] [.I n,.I per,.I v,.I B,.I z,.I y,.I x,.I u,.I t,.I s,.I r] [aA ws,aW ms,aW cs,aA l,nF g,aA refs] (.d (aI F) .nil)) (xK (kc p kn)) b (fd:=oF (.lit 1 (aA l)) (oO (1+(j:Int)).toNat) (.i (1+(j:Int)))) (bd:=[mB n per ws ms cs,.cells 50 9 (nF g++[[.i B,.i z,.i y,.i x,.i u,.i t,.i s,.i r,.lit 1 (aA refs)]])]) ?_;exact nx
 .have Q:l.take j=l.take 120:=by
   rcases(by omega:j=l.length\/j=120)with h|h
   .rw[a1l (by omega),a1l (by omega)]
   .rw[h]
  rw[Q]at b E;generalize (l.take 120).map f=g at *
  have fin:∀mm w aa,@fD dY dZ A w0 a0 mm w aa (oF (.lit 1 (aA l)) (oO j) (.i (j:Int))) (fH [mB n per ws ms cs,oB g])->KS Tryz.prog (oK oA) (Fin Tryz.prog fO A w0 a0 (.lit 9 (nF g))) (AX.exit 0).to aa w:=by
   intro mm w aa b;exact H.go (ev1 _ [(l.length:Int),(j:Int)] [.I n,.I per] [aA ws,aW ms,aW cs,aA l,nF g] .nil) (xK kn) b
  rcases(by omega:j=l.length\/(j=120/\j<l.length))with h|⟨h,V⟩
  .refine r1.go (ev1 _ [(l.length:Int),(j:Int)] [.I n,.I per] [aA ws,aW ms,aW cs,aA l,nF g] .nil) (xK kn) b (fd:=oF (.lit 1 (aA l)) (oO j) (.i (j:Int))) (bd:=[mB n per ws ms cs,oB g]) ?_
   exact fin
  .refine r2.go (ev1 _ [(l.length:Int),(j:Int)] [.I n,.I per] [aA ws,aW ms,aW cs,aA l,nF g] .nil) (xK kn) b (fd:=oF (.lit 1 (aA l)) (oO j) (.i (j:Int))) (bd:=[mB n per ws ms cs,oB g]) ?_
   exact fin
def aaB (M:MOk n' per ws ms cs) (b:List C6) (s:∀o∈b,dX n' ws.length o/\qU o) (ab:b.length<=120) (l:List Int) (ac:l.length<=9223372036854775807) (H:Ck 32 [SC n' per ws ms cs,.lit 1 (aA l)] (.lit 9 (nF b)))
  (oA:Option (RT Out)) (rA:alH S.body oA) (re:eA { vars:=[(0,120),(0,119)],facts:=[(Ket,1,120)],lens:=Ke6,iG:=[(3,[([1],1)],Ga)],bQ:=[(16,[UX,(.agg Ga)],(.bE [(.agg UA),.o 16]))] } (bB oA) (sF (.q 9 3) (.v 1)) KR 0 [some 0,some 1,some 2] (sF (.q 9 3) KdU) [Gp,Vn,(.cells 31 10 [UA])]) (rl:eA { vars:=[(0,120),(0,119)],facts:=[(Ket,1,120)],lens:=Ke6,iG:=[(3,[([1],1)],HD)],bQ:=[(16,[UX,(.agg HD)],(.bE [(.agg UB),.o 16]))] } (bB oA) (sF (.q 9 3) (.v 1)) KR 0 [some 0,some 1,some 2] (sF (.q 9 3) KdU) [Gp,Vn,(.cells 31 10 [UB])]) (rx:eA { vars:=[(0,120)],lens:=Ke6 } (bB oA) (sF (.q 9 3) (.v 0)) KR 2 [some 0,some 1,some 2] (sF (.q 9 3) (.v 0)) KR) (rr:kH { vars:=[(0,120)],lens:=Ke6 } Tryz.f10 oA 0 (sF (.q 9 3) (.v 0)) KR (UX)) :
  ∃T,Reach n' per ws ms cs b.length T/\Ck 10 [SC n' per ws ms cs,.lit 1 (aA l)] T.av:=by
 have go:∀j,j<=b.length->∃T,Reach n' per ws ms cs j T/\T=(b.take j).foldl (fun S o=>(nT S o).1) (gB n' per ws ms cs):=by
  intro j;induction j with
  |zero=>intro _;exact⟨_,.start,rfl⟩
  |succ j ih =>
   intro hj;obtain⟨T,r,e⟩:=ih (by omega);obtain⟨o,m⟩:∃o,b[j]?=some o:=⟨_,a0f (by omega)⟩;refine⟨_,.step r (s o (a0a m)).1 (s o (a0a m)).2,?_⟩;rw[a0u,m];simp[<-e]
 obtain⟨B,r0,e0⟩:=go b.length (a0g _);refine⟨B,r0,?_⟩;rw[a1g]at e0;have z:=XJ M;obtain⟨n,G⟩:∃n:Int,n=n':=⟨_,rfl⟩;rw[<-G]at H z |-;have E:(gB n' per ws ms cs).av=.agg [.i n,.i per,.lit 1 (aA ws),.lit 1 (aW ms),.lit 1 (aW cs),.lit 8 (aX (gB n' per ws ms cs).aH),.lit 8 [],.lit 9 [],.lit 6 [],.i 0]:=by rw[G];rfl
 rw[E]at z;have J:sB (gB n' per ws ms cs)=.cells 31 10 [[.i n,.i per,.lit 1 (aA ws),.lit 1 (aW ms),.lit 1 (aW cs),.lit 8 (aX (gB n' per ws ms cs).aH),.lit 8 [],.lit 9 [],.lit 6 [],.i 0]]:=by rw[G];rfl
 refine CK.hY Tryz.func10 (c:=S.body) (by kernel_rfl) (Cw.out) (yY.out) fun A w0 a0=>?_;intro mm w aa g;rw[Tryz.ntmps10]at g;obtain⟨C,F⟩:∃C,C=(gB n' per ws ms cs).aH:=⟨_,rfl⟩;rw[<-F]at z J;refine rA.go (ev1 _ [(l.length:Int)] [.I n,.I per] [aA ws,aW ms,aW cs,aA l,aX C,nF b] .nil) (xK (kc z (kc H kn))) g (fd:=sF (.lit 9 (nF b)) (.i 0)) (bd:=[mB n per ws ms cs,zB,.cells 31 10 [[.i n,.i per,.lit 1 (aA ws),.lit 1 (aW ms),.lit 1 (aW cs),.lit 8 (aX C),.lit 8 [],.lit 9 [],.lit 6 [],.i 0]]]) ?_;intro mm w aa g;rw[<-J]at g;clear z E H F J;refine dQ (fun k a' w=>∃(j:Nat) (T:bF),k=b.length-j/\j<=b.length/\Reach n' per ws ms cs j T/\B=(b.drop j).foldl (fun S o=>(nT S o).1) T/\∃mm,@fD dY dZ A w0 a0 mm w a' (sF (.lit 9 (nF b)) (.i (j:Int))) (fH [mB n per ws ms cs,zB,sB T])) ?_ (n:=b.length) ⟨0,_,rfl,a0n _,.start,e0,_,g⟩;rintro k aa w ⟨j,T,rfl,hj,Z,p,mm,g⟩;rcases(by omega:j=b.length\/j<b.length)with rfl|y
 .rw[a3k]at p
  have p:T=B:=p.symm;subst p;refine rx.go (ev1 _ [(b.length:Int)] [.I n,.I per,.I T.bJ,.I T.bH,.I T.done] [aA ws,aW ms,aW cs,nF b,aA T.weights,aW T.methods,aW T.bT,aX T.aH,fU T.aO,dN T.aF,eO T.aG] .nil) (xK kn) g (fd:=sF (.lit 9 (nF b)) (.i (b.length:Int))) (bd:=[mB n per ws ms cs,zB,sB T]) ?_;intro mm w aa g;exact rr.go (ev1 _ [(b.length:Int)] [.I n,.I per,.I T.bJ,.I T.bH,.I T.done] [aA ws,aW ms,aW cs,nF b,aA T.weights,aW T.methods,aW T.bT,aX T.aH,fU T.aO,dN T.aF,eO T.aG] .nil) (xK kn) g
 .obtain⟨o,m⟩:∃o,b[j]?=some o:=⟨_,a0f y⟩
  have x:=s o (a0a m);have X:b.drop j=o::b.drop (j+1):=by rw[<-a2x y];congr 1;exact Option.some.inj (by rw[<-a0f y,m])
  rw[X,a2l]at p;obtain⟨t,-⟩:=(Z.rs M (by omega)).step M (by omega) x.1
  have Y:=Reach.step Z x.1 x.2;have nx:∀mm w a,@fD dY dZ A w0 a0 mm w a (sF (.lit 9 (nF b)) (.i (1+(j:Int)))) (fH [mB n per ws ms cs,zB,sB (nT T o).1])->∃D,D<b.length-j/\∃(u:Nat) (K:bF),D=b.length-u/\u<=b.length/\Reach n' per ws ms cs u K/\B=(b.drop u).foldl (fun S o=>(nT S o).1) K/\∃mm,@fD dY dZ A w0 a0 mm w a (sF (.lit 9 (nF b)) (.i (u:Int))) (fH [mB n per ws ms cs,zB,sB K]):=by
   intro mm w a g;rw[show(1+(j:Int))=((j+1:Nat):Int)by omega]at g;exact⟨_,by omega,j+1,_,rfl,by omega,Y,p,mm,g⟩
  have s:(nF b)[(j:Int).toNat]?=some o.row:=by rw[nF,a0l,a00,m];rfl
  rw[o.ab9]at t;generalize nT T o=r at *;obtain⟨U,f⟩:=r;dsimp only at t nx;obtain⟨W,V,R,Q,P,O,N,L,h|⟨refs,h⟩⟩:=agc o
  .rw[h]at s t
   refine re.go (ev1 _ [(b.length:Int),(j:Int)] [.I n,.I per,.I T.bJ,.I T.bH,.I T.done,.I W,.I V,.I R,.I Q,.I P,.I O,.I N,.I L,.I U.bJ,.I U.bH,.I U.done,.I f] [aA ws,aW ms,aW cs,nF b,aA T.weights,aW T.methods,aW T.bT,aX T.aH,fU T.aO,dN T.aF,eO T.aG,aA U.weights,aW U.methods,aW U.bT,aX U.aH,fU U.aO,dN U.aF,eO U.aG] (.d (qH (lZ _ _) s) .nil)) (xK (kc t kn)) g (fd:=sF (.lit 9 (nF b)) (.i (1+(j:Int)))) (bd:=[mB n per ws ms cs,zB,sB U]) ?_;exact nx
  .rw[h]at s t
   refine rl.go (ev1 _ [(b.length:Int),(j:Int)] [.I n,.I per,.I T.bJ,.I T.bH,.I T.done,.I W,.I V,.I R,.I Q,.I P,.I O,.I N,.I L,.I U.bJ,.I U.bH,.I U.done,.I f] [aA ws,aW ms,aW cs,nF b,aA T.weights,aW T.methods,aW T.bT,aX T.aH,fU T.aO,dN T.aF,eO T.aG,aA refs,aA U.weights,aW U.methods,aW U.bT,aX U.aH,fU U.aO,dN U.aF,eO U.aG] (.d (qH (lZ _ _) s) .nil)) (xK (kc t kn)) g (fd:=sF (.lit 9 (nF b)) (.i (1+(j:Int)))) (bd:=[mB n per ws ms cs,zB,sB U]) ?_;exact nx
end
end NS
def XM {n:Nat} (M:MOk n per ws ms cs) (l:List Int) (b:l.length<=9223372036854775807) :
  ∃k T,(k<=120/\k<=l.length)/\Reach n per ws ms cs k T/\RS n per ws ms k T/\Ck 10 [SC n per ws ms cs,.lit 1 (aA l)] T.av:=by
 obtain⟨f,d⟩:∃f:Int->C6,∀v,(dX n ws.length (f v)/\qU (f v))/\Ck 25 [SC n per ws ms cs,.i v] (f v).av:=⟨fun v=>(adM M v).choose,fun v=>⟨⟨(adM M v).choose_spec.1,(adM M v).choose_spec.2.1⟩,(adM M v).choose_spec.2.2⟩⟩;have g:=NS.aha M f d l b NS.O.alA NS.O.an6 .of .of .of .of .of;have a:((l.take 120).map f).length<=120:=by simp;omega
 obtain⟨T,r,c⟩:=NS.aaB M ((l.take 120).map f) (fun o e=>by obtain⟨v,-,rfl⟩:=a0j.1 e;exact(d v).1) a l b g NS.S.alw NS.S.an2 .of .of .of .of;exact⟨_,T,⟨a,by simp;omega⟩,r,r.rs M (by omega),c⟩
end
section
open Mc
variable {S:bF} {item:Int} {o:Option (RT Out)} {Φ:kI}
structure qV where
 (q v p d:Int)
def qV.row (x:qV):List AV:=[.i x.q,.i x.v,.i x.p,.i x.d]
def gG (l:List qV):List (List AV):=l.map qV.row
def akR (l:List qV):qO (gG l):=by
 intro r b x a;obtain⟨g,-,rfl⟩:=a0j.1 b;simp only[qV.row,a0d,a0b,or_false]at a;rcases a with rfl|rfl|rfl|rfl<;>exact .c _
instance (l:List qV):lW (gG l):=⟨akR l⟩
def AZ {ρ:Nat->Int} {p:Poly} {l:List dE} {now:Int} {closed:Bool} {bK:List cY} {cN:List Int} {aJ:List (List Int)} {bD down:List Int} {ahead:List EntC} (h:l[(evP ρ p).toNat]?=some ⟨⟨now,closed,bK,cN,aJ,bD,down⟩,ahead⟩):(aX l)[(cI ρ p).toNat]?=some [.i now,.c (.bool closed),.lit 4 (bS bK),.lit 1 (aA cN),.lit 11 (bN aJ),.lit 1 (aA bD),.lit 1 (aA down),.lit 8 (bX ahead)]:=qH (vQ ρ p).symm (aia h)
def wL (S:bF) (item:Int) (j:Nat):List bP:=(List.range j).map fun(e:Nat)=>(bV S (e:Int) item).1
def tL (S:bF) (item:Int) (j:Nat):List yX:=(S.aG.take j).filter fun t=>t.item==item
def giQ (S:bF) (item:Int):List Int:=(wL S item S.aH.length).map (·.q)++(tL S item S.aG.length).map (·.eX)
def giV (S:bF) (item:Int):List Int:=(wL S item S.aH.length).map (·.v)++(tL S item S.aG.length).map (·.value)
def giP (S:bF) (item:Int):List Int:=(wL S item S.aH.length).map (·.p)++(tL S item S.aG.length).map (·.bW)
def Nf (S:bF) (item:Int):List Int:=S.aH.map fun x=>x.down.getD item.toNat 0
def nG (S:bF) (a:Int):List Int:=S.aH.map fun x=>x.cN.getD a.toNat 0
def abQ (G:Gn S) (c:S.aH.length=2\/S.aH.length=3):(∃b a,S.aH=[b,a])\/∃b a d,S.aH=[b,a,d]:=by
 match h:S.aH,c with
 |[b,a],_=>exact .inl ⟨b,a,rfl⟩
 |[b,a,d],_=>exact .inr ⟨b,a,d,rfl⟩
 |[],c=>simp at c
 |[_],c=>simp at c
 |_::_::_::_::_,c=>simp at c
def ajb (S:bF) (item:Int) (j:Nat):wL S item (j+1)=wL S item j++[(bV S (j:Int) item).1]:=by simp[wL,a1v]
def ajm {j:Nat} {g:yX} (h:S.aG[j]?=some g):tL S item (j+1)=tL S item j++(if g.item=item then[g]else[]):=by
 unfold tL;rw[a0u,h,a1a];by_cases a:g.item=item<;>simp[a]
def lO (l:List Int) (x:Int):aA l++[[.i x]]=aA (l++[x]):=by simp[aA]
namespace GO
abbrev oF (a b c l n i:AV):List AV:=fr 113 [(2,.ptr 10 0 0 0),(3,.ptr 1 1 0 0),(4,.ptr 4 2 0 0),(5,.i 0),(6,a),(7,b),(8,c),(21,l),(22,n),(23,i)]
abbrev RG (a b c l n i:AV):List AV:=fr 113 [(2,.ptr 10 0 0 0),(3,.ptr 1 1 0 0),(4,.ptr 4 2 0 0),(5,.i 0),(6,a),(7,b),(8,c),(47,l),(48,n),(49,i)]
abbrev Pd (d i:AV):List AV:=fr 113 [(4,.ptr 4 5 0 0),(5,.i 0),(13,.ptr 4 0 0 0),(14,d),(15,.i 0),(91,.own 128 2 4 0 3),(92,.i 3),(93,i)]
abbrev sR (S:bF):Mc.dI:=.cells 31 10 [[.i S.bJ,.i S.bH,.lit 1 (aA S.weights),.lit 1 (aW S.methods),.lit 1 (aW S.bT),.lit 8 (aX S.aH),.lit 8 (fU S.aO),.lit 9 (dN S.aF),.lit 6 (eO S.aG),.i S.done]]
abbrev oB (S:bF) (item:Int) (q v p:List (List AV)):List Mc.dI:=[sR S,.cells 3 1 [[.i item]],.cells 46 4 KdE,.cells 3 1 q,.cells 3 1 v,.cells 3 1 p]
abbrev oB3 (g:List AV) (k:Nat) (q v p:List Int):List Mc.dI:=[.cells 46 4 [g],.cells 3 1 (aA q),.cells 3 1 (aA v),.cells 3 1 (aA p),.cells 128 2 [[.ptr 4 0 0 0,.own 3 1 1 0 k],[.ptr 4 0 0 1,.own 3 1 2 0 k],[.ptr 4 0 0 2,.own 3 1 3 0 k]],.cells 46 4 KdE]
abbrev fA (S:bF) (k j:Nat):List AV:=oF (.own 3 1 3 0 k) (.own 3 1 4 0 k) (.own 3 1 5 0 k) (.lit 8 (aX S.aH)) (.i (S.aH.length:Int)) (.i (j:Int))
abbrev fT (S:bF) (k j:Nat):List AV:=RG (.own 3 1 3 0 k) (.own 3 1 4 0 k) (.own 3 1 5 0 k) (.lit 6 (eO S.aG)) (.i (S.aG.length:Int)) (.i (j:Int))
noncomputable def body:Code:=(Tryz.f34).body.getD .skip
abbrev alS (c:Code) (r:Option (RT Out)):Prop:=uG { vars:=Kcu,facts:=Kcv,lens:=Do } c (Kcd++List.replicate 111 .undef) [] [some 0,some 1,some 2,none,none,none] (oF (.own 3 1 3 0 0) (.own 3 1 4 0 0) (.own 3 1 5 0 0) (.q 8 0) (.v 2) (.i 0)) [Yd,Kd8,BN,KeZ,KeZ,KeZ] r
noncomputable def acG:Option (RT Out):=yZ { vars:=Kcu,facts:=Kcv,lens:=Do } body (Kcd++List.replicate 111 .undef:List AV).length (Kcd++List.replicate 111 .undef) [] 0
def aoa:alS body acG:=⟨rfl,by decide +kernel,by decide +kernel⟩
abbrev alR (c:Code):Prop:=eA { vars:=[(0,4),(1,5),(0,4),(0,40),(0,3)],facts:=[Kdf,([([2],1),([4],-1)],1,4)],lens:=ZZ,bQ:=[(69,[Keg,.v 4,.v 0],Kdn)] } c (oF KdF KdG KdH (.q 8 0) (.v 2) (.v 4)) KF 0 [some 0,some 1,some 2,some 8,some 10,some 12] (oF (.dD 3 1 3 KeW) (.dD 3 1 4 KeW) (.dD 3 1 5 KeW) (.q 8 0) (.v 2) Kd3) [Yd,Kd8,BN,(.sc 3 1 7 [] [[.o 3]] KeW),(.sc 3 1 8 [] [[.o 4]] KeW),(.sc 3 1 9 [] [[.o 5]] KeW)]
abbrev alQ (c:Code):Prop:=eA { vars:=Kcu,facts:=Kcv,lens:=Z0 } c (oF KdA KdB KdI (.q 8 0) (.v 2) (.v 2)) KG 2 [some 0,some 1,some 2,some 3,some 4,some 5] (oF KdA KdB KdI (.q 8 0) (.v 2) (.v 2)) KG
abbrev aba (o:Option (RT Out)) (r:Option (RT Out)):Prop:=wZ { vars:=Kcu,facts:=Kcv,lens:=Z0 } o 0 (oF KdA KdB KdI (.q 8 0) (.v 2) (.v 2)) KG [some 0,some 1,some 2,some 3,some 4,some 5] (RG KdA KdB KdI (.q 6 6) (.v 3) (.i 0)) KG r
noncomputable def FL:Option (RT Out):=Oa { vars:=Kcu,facts:=Kcv,lens:=Z0 } acG 0 (oF KdA KdB KdI (.q 8 0) (.v 2) (.v 2):List AV).length (oF KdA KdB KdI (.q 8 0) (.v 2) (.v 2)) KG 6
def amO:aba acG FL:=⟨rfl,by decide +kernel,by decide +kernel⟩
abbrev agL (c:Code):Prop:=eA { vars:=GK,facts:=[Kdf,KcS,([([0],-1),([6],1)],0,0)],lens:=ZZ,iG:=Gy } c (RG KdF KdG KdH (.q 6 6) (.v 3) (.v 5)) KF 0 [some 0,some 1,some 2,some 8,some 10,some 12] (RG (.dD 3 1 3 KeW) (.dD 3 1 4 KeW) (.dD 3 1 5 KeW) (.q 6 6) (.v 3) Kd2) [Yd,Kd8,BN,(.sc 3 1 7 [] [[.o 5]] KeW),(.sc 3 1 8 [] [[.o 6]] KeW),(.sc 3 1 9 [] [[.o 7]] KeW)]
abbrev ac6 (c:Code):Prop:=eA { vars:=GK,facts:=[Kdf,KcS,([([0],-1),([6],1)],-9,-1)],lens:=ZZ,iG:=Gy } c (RG KdF KdG KdH (.q 6 6) (.v 3) (.v 5)) KF 0 [some 0,some 1,some 2,some 3,some 4,some 5] (RG KdF KdG KdH (.q 6 6) (.v 3) Kd2) KF
abbrev ac7 (c:Code):Prop:=eA { vars:=GK,facts:=[Kdf,KcS,([([0],-1),([6],1)],1,9)],lens:=ZZ,iG:=Gy } c (RG KdF KdG KdH (.q 6 6) (.v 3) (.v 5)) KF 0 [some 0,some 1,some 2,some 3,some 4,some 5] (RG KdF KdG KdH (.q 6 6) (.v 3) Kd2) KF
abbrev agK (c:Code):Prop:=eA { vars:=[(0,4),(1,5),(0,4),(0,40),(0,44)],facts:=Kcv,lens:=ZZ } c (RG KdF KdG KdH (.q 6 6) (.v 3) (.v 3)) KF 4 [some 0,some 1,some 2,some 3,some 4,some 5] (RG KdF KdG KdH (.q 6 6) (.v 3) (.v 3)) KF
abbrev Ro (o:Option (RT Out)) (r:Option (RT Out)):Prop:=wZ { vars:=Kbc,facts:=Kcv,lens:=Qr,iG:=[(0,[],Wf),Kd9,UY,Kea],bQ:=HE } o 2 (RG KdF KdG KdH (.q 6 6) (.v 3) (.v 3)) KF [some 6,some 3,some 4,some 5,some 15,some 2] (Pd (.o 9) (.i 0)) [(.cells 46 4 [[.i 0,.i 0,.i 0,.o 9]]),Kci,Kcj,Kck,JD,BN] r
noncomputable def acF:Option (RT Out):=Oa { vars:=Kbc,facts:=Kcv,lens:=Qr,iG:=[(0,[],Wf),Kd9,UY,Kea],bQ:=HE } FL 2 (RG KdF KdG KdH (.q 6 6) (.v 3) (.v 3):List AV).length (RG KdF KdG KdH (.q 6 6) (.v 3) (.v 3)) KF 6
def ajl:Ro FL acF:=⟨rfl,by decide +kernel,by decide +kernel⟩
abbrev Rn (o:Option (RT Out)) (r:Option (RT Out)):Prop:=wZ { vars:=Kbd,facts:=Kcv,lens:=JT,iG:=[(0,[],Wf),Kd9,UY,Kea,US,(26,[([0],1)],[.o 11])],bQ:=Wb } o 2 (RG KdF KdG KdH (.q 6 6) (.v 3) (.v 3)) KF [some 6,some 3,some 4,some 5,some 19,some 2] (Pd (.o 12) (.i 0)) [(.cells 46 4 [[.i 0,.i 0,.i 0,.o 12]]),Kci,Kcj,Kck,JD,BN] r
noncomputable def acE:Option (RT Out):=Oa { vars:=Kbd,facts:=Kcv,lens:=JT,iG:=[(0,[],Wf),Kd9,UY,Kea,US,(26,[([0],1)],[.o 11])],bQ:=Wb } FL 2 (RG KdF KdG KdH (.q 6 6) (.v 3) (.v 3):List AV).length (RG KdF KdG KdH (.q 6 6) (.v 3) (.v 3)) KF 6
def ajk:Rn FL acE:=⟨rfl,by decide +kernel,by decide +kernel⟩
abbrev agO (c:Code):Prop:=eA { vars:=[(0,44)],lens:=Dp,bQ:=[(72,[.q 1 0],(.bE [.o 1,.i 0]))] } c (Pd (.o 0) (.i 0)) [(.cells 46 4 [[.i 0,.i 0,.i 0,.o 0]]),Kcl,Kb8,Kb9,JE,BN] 0 [some 0,some 1,some 2,some 3,some 4,some 5] (Pd (.o 0) (.i 1)) Km
abbrev agN (c:Code):Prop:=eA { vars:=[(0,44)],lens:=Dp,bQ:=[(72,[.q 1 1],(.bE [.o 2,.i 0]))] } c (Pd (.o 0) (.i 1)) Km 0 [some 0,some 1,some 2,some 3,some 4,some 5] (Pd (.o 0) (.i 2)) Ko
abbrev agM (c:Code):Prop:=eA { vars:=[(0,44)],lens:=Dp,bQ:=[(72,[.q 1 2],(.bE [.o 3,.i 0]))] } c (Pd (.o 0) (.i 2)) Ko 0 [some 0,some 1,some 2,some 3,some 4,some 5] (Pd (.o 0) (.i 3)) Kp
abbrev aa9 (c:Code):Prop:=eA { vars:=[(0,44)],lens:=Dp } c (Pd (.o 0) (.i 3)) Kp 6 [some 0,some 1,some 2,some 3,some 4,some 5] (Pd (.o 0) (.i 3)) Kp
abbrev agJ (o:Option (RT Out)):Prop:=kH { vars:=[(0,44)],lens:=Dp } Tryz.f34 o 4 (Pd (.o 0) (.i 3)) Kp ((.bE [(.agg [.o 1,.o 2,.o 3,.o 0]),.i 0]))
end GO
namespace GO
section
variable {S:bF} {item:Int} {A:Nat->Prop} {w0:World} {a0:Act} {R:AV}
def tail (r0:agO (bB o)) (r1:agN (bB o)) (r2:agM (bB o)) (e:aa9 (bB o)) (p:agJ o) {qs vs ps:List Int} {k:Nat} {q0 d p0 b:Int} (t:k<=44) (r:qs.length=k) (q:vs.length=k) (s:ps.length=k)
  (m:Ck 72 [.lit 1 (aA qs)] (.bE [.i q0,.i 0])) (l:Ck 72 [.lit 1 (aA vs)] (.bE [.i d,.i 0])) (h:Ck 72 [.lit 1 (aA ps)] (.bE [.i p0,.i 0]))
  (mm:Nat->St) (w:World) (a:Act) (c:@fD dY dZ A w0 a0 mm w a (Pd (.i b) (.i 0)) (fH (oB3 [.i 0,.i 0,.i 0,.i b] k qs vs ps))) :
  (Code.loop (bB o)).wpIn (fw none) 9 Tryz.prog (KS Tryz.prog (oK o) (Fin Tryz.prog Tryz.f34 A w0 a0 (.bE [.agg [.i q0,.i d,.i p0,.i b],.i 0]))) a w:=by
 refine dQ (fun n a w=>∃(j:Nat) (g:List AV),n=3-j/\(j=0/\g=[.i 0,.i 0,.i 0,.i b]\/j=1/\g=[.i q0,.i 0,.i 0,.i b]\/j=2/\g=[.i q0,.i d,.i 0,.i b]\/j=3/\g=[.i q0,.i d,.i p0,.i b])/\∃mm,@fD dY dZ A w0 a0 mm w a (Pd (.i b) (.i (j:Int))) (fH (oB3 g k qs vs ps))) ?_ (n:=3) ⟨0,_,rfl,.inl ⟨rfl,rfl⟩,_,c⟩;rintro n a w ⟨j,g,rfl,f,mm,c⟩;rcases f with⟨rfl,rfl⟩|⟨rfl,rfl⟩|⟨rfl,rfl⟩|⟨rfl,rfl⟩
 .refine r0.go (ev1 _ [(k:Int)] [.I b,.I q0,.I d,.I p0] [aA qs,aA vs,aA ps] .nil) (xK (kc m kn)) c (fd:=Pd (.i b) (.i 1)) (bd:=oB3 [.i q0,.i 0,.i 0,.i b] k qs vs ps) ?_
  exact fun mm w a c=>⟨_,by omega,1,_,rfl,.inr (.inl ⟨rfl,rfl⟩),mm,c⟩
 .refine r1.go (ev1 _ [(k:Int)] [.I b,.I q0,.I d,.I p0] [aA qs,aA vs,aA ps] .nil) (xK (kc l kn)) c (fd:=Pd (.i b) (.i 2)) (bd:=oB3 [.i q0,.i d,.i 0,.i b] k qs vs ps) ?_
  exact fun mm w a c=>⟨_,by omega,2,_,rfl,.inr (.inr (.inl ⟨rfl,rfl⟩)),mm,c⟩
 .refine r2.go (ev1 _ [(k:Int)] [.I b,.I q0,.I d,.I p0] [aA qs,aA vs,aA ps] .nil) (xK (kc h kn)) c (fd:=Pd (.i b) (.i 3)) (bd:=oB3 [.i q0,.i d,.i p0,.i b] k qs vs ps) ?_
  exact fun mm w a c=>⟨_,by omega,3,_,rfl,.inr (.inr (.inr ⟨rfl,rfl⟩)),mm,c⟩
 .refine e.go (ev1 _ [(k:Int)] [.I b,.I q0,.I d,.I p0] [aA qs,aA vs,aA ps] .nil) (xK kn) c ?_
  intro mm w a c;exact p.go (ev1 _ [(k:Int)] [.I b,.I q0,.I d,.I p0] [aA qs,aA vs,aA ps] .nil) (xK kn) c
def trans (B:agL (bB o)) (t:ac6 (bB o)) (u:ac7 (bB o)) (z:agK (bB o)) (G:Gn S) (L:0<=item/\item<S.weights.length)
  (x:∀(k:Nat) mm w a,k<=44->(giQ S item).length=k->(giV S item).length=k->(giP S item).length=k->@fD dY dZ A w0 a0 mm w a (fT S k S.aG.length) (fH (oB S item (aA (giQ S item)) (aA (giV S item)) (aA (giP S item))))->KS Tryz.prog (oK o) Φ (AX.exit 2).to a w)
  (mm:Nat->St) (w:World) (a:Act) (b:@fD dY dZ A w0 a0 mm w a (fT S S.aH.length 0) (fH (oB S item (aA ((wL S item S.aH.length).map (·.q))) (aA ((wL S item S.aH.length).map (·.v))) (aA ((wL S item S.aH.length).map (·.p)))))) :
  (Code.loop (bB o)).wpIn (fw none) 9 Tryz.prog (KS Tryz.prog (oK o) Φ) a w:=by
 have H:=G.hw;have F:=G.hn;have E:=G.Fo;refine dQ (fun n a w=>∃(j k:Nat) (qs vs ps:List Int),n=S.aG.length-j/\j<=S.aG.length/\qs=(wL S item S.aH.length).map (·.q)++(tL S item j).map (·.eX)/\vs=(wL S item S.aH.length).map (·.v)++(tL S item j).map (·.value)/\ps=(wL S item S.aH.length).map (·.p)++(tL S item j).map (·.bW)/\qs.length=k/\vs.length=k/\ps.length=k/\k<=S.aH.length+j/\∃mm,@fD dY dZ A w0 a0 mm w a (fT S k j) (fH (oB S item (aA qs) (aA vs) (aA ps)))) ?_ (n:=S.aG.length) ⟨0,S.aH.length,_,_,_,rfl,a0n _,rfl,rfl,rfl,by simp[wL,tL],by simp[wL,tL],by simp[wL,tL],by omega,_,by simpa[tL]using b⟩;rintro n a w ⟨j,k,qs,vs,ps,rfl,K,e,c,f,l,h,m,J,mm,b⟩;rcases(by omega:j=S.aG.length\/j<S.aG.length)with D|C
 .subst D
  have e:qs=giQ S item:=e;have c:vs=giV S item:=c;have f:ps=giP S item:=f;rw[<-e,<-c,<-f]at x;refine z.go (ev1 _ [item,(S.weights.length:Int),(S.aH.length:Int),(S.aG.length:Int),(k:Int)] (vT S []) (sT S [aA qs,aA vs,aA ps]) .nil) (xK kn) b ?_;intro mm w a b;exact x k mm w a (by omega) l h m b
 .clear x
  obtain⟨g,s⟩:∃g,S.aG[j]?=some g:=⟨_,a0f C⟩;have y:S.aG[(j:Int).toNat]?=some ⟨g.src,g.dst,g.item,g.eX,g.value,g.bW⟩:=by simpa using s
  obtain⟨-,-,b3,-⟩:=G.L7 g (a0a s);have hs:=ajm (item:=item) s;rcases(by omega:g.item=item\/g.item<item\/item<g.item)with r|r|r
  .rw[if_pos r]at hs
   refine B.go (ev1 _ [item,(S.weights.length:Int),(S.aH.length:Int),(S.aG.length:Int),(k:Int),(j:Int),g.item] (vT S [.I g.src,.I g.dst,.I g.eX,.I g.value,.I g.bW]) (sT S [aA qs,aA vs,aA ps]) (.d (aT y) .nil)) (xK kn) b (fd:=RG (.own 3 1 3 0 (1+(k:Int)).toNat) (.own 3 1 4 0 (1+(k:Int)).toNat) (.own 3 1 5 0 (1+(k:Int)).toNat) (.lit 6 (eO S.aG)) (.i (S.aG.length:Int)) (.i (1+(j:Int)))) (bd:=oB S item (aA qs++[[.i g.eX]]) (aA vs++[[.i g.value]]) (aA ps++[[.i g.bW]])) ?_;intro mm w a b;rw[show(1+(j:Int))=((j+1:Nat):Int)by omega,show(1+(k:Int))=((k+1:Nat):Int)by omega,a00,lO,lO,lO]at b;refine⟨_,by omega,j+1,k+1,_,_,_,rfl,by omega,?_,?_,?_,by simp;omega,by simp;omega,by simp;omega,by omega,mm,b⟩
   .rw[hs,e];simp
   .rw[hs,c];simp
   .rw[hs,f];simp
  all_goals rw[if_neg (by omega),a1r]at hs
  .refine t.go (ev1 _ [item,(S.weights.length:Int),(S.aH.length:Int),(S.aG.length:Int),(k:Int),(j:Int),g.item] (vT S [.I g.src,.I g.dst,.I g.eX,.I g.value,.I g.bW]) (sT S [aA qs,aA vs,aA ps]) (.d (aT y) .nil)) (xK kn) b (fd:=RG (.own 3 1 3 0 k) (.own 3 1 4 0 k) (.own 3 1 5 0 k) (.lit 6 (eO S.aG)) (.i (S.aG.length:Int)) (.i (1+(j:Int)))) (bd:=oB S item (aA qs) (aA vs) (aA ps)) ?_
   intro mm w a b;rw[show(1+(j:Int))=((j+1:Nat):Int)by omega]at b;exact⟨_,by omega,j+1,k,qs,vs,ps,rfl,by omega,by rw[hs];exact e,by rw[hs];exact c,by rw[hs];exact f,l,h,m,by omega,mm,b⟩
  .refine u.go (ev1 _ [item,(S.weights.length:Int),(S.aH.length:Int),(S.aG.length:Int),(k:Int),(j:Int),g.item] (vT S [.I g.src,.I g.dst,.I g.eX,.I g.value,.I g.bW]) (sT S [aA qs,aA vs,aA ps]) (.d (aT y) .nil)) (xK kn) b (fd:=RG (.own 3 1 3 0 k) (.own 3 1 4 0 k) (.own 3 1 5 0 k) (.lit 6 (eO S.aG)) (.i (S.aG.length:Int)) (.i (1+(j:Int)))) (bd:=oB S item (aA qs) (aA vs) (aA ps)) ?_
   intro mm w a b;rw[show(1+(j:Int))=((j+1:Nat):Int)by omega]at b;exact⟨_,by omega,j+1,k,qs,vs,ps,rfl,by omega,by rw[hs];exact e,by rw[hs];exact c,by rw[hs];exact f,l,h,m,by omega,mm,b⟩
def FD {m o n:Option (RT Out)} (u:Ro m o) (t:Rn m n) (G:Gn S) (L:S.aH.length=2\/S.aH.length=3) (W:0<=item/\item<S.weights.length) (N:eB (Nf S item)=0) (J:fM (Nf S item)) {qs vs ps:List Int} {k:Nat} (V:k<=44) (R:qs.length=k) (Q:vs.length=k) (T:ps.length=k)
  (H:∀mm w a,@fD dY dZ A w0 a0 mm w a (Pd (.i (dP (Nf S item))) (.i 0)) (fH (oB3 [.i 0,.i 0,.i 0,.i (dP (Nf S item))] k qs vs ps))->(Code.loop (bB o)).wpIn (fw none) 9 Tryz.prog (KS Tryz.prog (oK o) Φ) a w)
  (F:∀mm w a,@fD dY dZ A w0 a0 mm w a (Pd (.i (dP (Nf S item))) (.i 0)) (fH (oB3 [.i 0,.i 0,.i 0,.i (dP (Nf S item))] k qs vs ps))->(Code.loop (bB n)).wpIn (fw none) 9 Tryz.prog (KS Tryz.prog (oK n) Φ) a w)
  (mm:Nat->St) (w:World) (a:Act) (B:@fD dY dZ A w0 a0 mm w a (fT S k S.aG.length) (fH (oB S item (aA qs) (aA vs) (aA ps)))):KS Tryz.prog (oK m) Φ (AX.exit 2).to a w:=by
 have U:=G.hw;have P:=G.Fo;have s:=qT (Nf S item) J;rw[N]at s;generalize dP (Nf S item)=l at *
 have j:∀{x:dE} {e:Nat},S.aH[e]?=some x->x.down.length=S.weights.length/\x.down[item.toNat]?=some (x.down.getD item.toNat 0):=fun{x e} K=>by
  have h:=(G.aB e x K).dl;exact⟨h,getD_some (by rw[h];omega)⟩
 rcases abQ G L with⟨c,b,g⟩|⟨c,b,f,g⟩
 .have r:S.aH[0]?=some c:=by rw[g];rfl
  have h:S.aH[1]?=some b:=by rw[g];rfl
  have M:S.aH.length=2:=by rw[g];rfl
  obtain⟨E,q⟩:=j r;obtain⟨l1,p⟩:=j h;have v:Nf S item=[c.down.getD item.toNat 0,b.down.getD item.toNat 0]:=by unfold Nf;rw[g];rfl
  rw[v]at s;generalize c.down.getD item.toNat 0=z at *;generalize b.down.getD item.toNat 0=y at *;exact u.go (ev1 _ [item,(S.weights.length:Int),(S.aH.length:Int),(S.aG.length:Int),(k:Int)] (vT S [.I c.now,.bool c.closed,.I z,.I b.now,.bool b.closed,.I y,.I l]) (sT S [aA qs,aA vs,aA ps,bS c.bK,aA c.cN,bN c.aJ,aA c.bD,aA c.down,bX c.ahead,bS b.bK,aA b.cN,bN b.aJ,aA b.bD,aA b.down,bX b.ahead]) (.d (AZ r) (.d (aI q) (.d (AZ h) (.d (aI p) .nil))))) (xK (kc s kn)) B (fd:=Pd (.i l) (.i 0)) (bd:=oB3 [.i 0,.i 0,.i 0,.i l] k qs vs ps) H
 .have r:S.aH[0]?=some c:=by rw[g];rfl
  have h:S.aH[1]?=some b:=by rw[g];rfl
  have D:S.aH[2]?=some f:=by rw[g];rfl
  have M:S.aH.length=3:=by rw[g];rfl
  obtain⟨E,q⟩:=j r;obtain⟨l1,p⟩:=j h;obtain⟨l2,C⟩:=j D;have v:Nf S item=[c.down.getD item.toNat 0,b.down.getD item.toNat 0,f.down.getD item.toNat 0]:=by unfold Nf;rw[g];rfl
  rw[v]at s;generalize c.down.getD item.toNat 0=z at *;generalize b.down.getD item.toNat 0=y at *;generalize f.down.getD item.toNat 0=O at *;exact t.go (ev1 _ [item,(S.weights.length:Int),(S.aH.length:Int),(S.aG.length:Int),(k:Int)] (vT S [.I c.now,.bool c.closed,.I z,.I b.now,.bool b.closed,.I y,.I f.now,.bool f.closed,.I O,.I l]) (sT S [aA qs,aA vs,aA ps,bS c.bK,aA c.cN,bN c.aJ,aA c.bD,aA c.down,bX c.ahead,bS b.bK,aA b.cN,bN b.aJ,aA b.bD,aA b.down,bX b.ahead,bS f.bK,aA f.cN,bN f.aJ,aA f.bD,aA f.down,bX f.ahead]) (.d (AZ r) (.d (aI q) (.d (AZ h) (.d (aI p) (.d (AZ D) (.d (aI C) .nil))))))) (xK (kc s kn)) B (fd:=Pd (.i l) (.i 0)) (bd:=oB3 [.i 0,.i 0,.i 0,.i l] k qs vs ps) F
def aH {g:Option (RT Out)} (u:alR (bB o)) (t:alQ (bB o)) (l:aba o g) (G:Gn S) (r:0<=item/\item<S.weights.length)
  (h:∀mm w a,@fD dY dZ A w0 a0 mm w a (fT S S.aH.length 0) (fH (oB S item (aA ((wL S item S.aH.length).map (·.q))) (aA ((wL S item S.aH.length).map (·.v))) (aA ((wL S item S.aH.length).map (·.p)))))->(Code.loop (bB g)).wpIn (fw none) 9 Tryz.prog (KS Tryz.prog (oK g) Φ) a w)
  (mm:Nat->St) (w:World) (a:Act) (b:@fD dY dZ A w0 a0 mm w a (fA S 0 0) (fH (oB S item [] [] []))):(Code.loop (bB o)).wpIn (fw none) 9 Tryz.prog (KS Tryz.prog (oK o) Φ) a w:=by
 have H:=G.hw;have B:=G.hn;have z:=G.Fo;refine dQ (fun n a w=>∃(j:Nat) (qs vs ps:List Int),n=S.aH.length-j/\j<=S.aH.length/\qs=(wL S item j).map (·.q)/\vs=(wL S item j).map (·.v)/\ps=(wL S item j).map (·.p)/\∃mm,@fD dY dZ A w0 a0 mm w a (fA S j j) (fH (oB S item (aA qs) (aA vs) (aA ps)))) ?_ (n:=S.aH.length) ⟨0,[],[],[],rfl,a0n _,rfl,rfl,rfl,_,b⟩;rintro n a w ⟨j,qs,vs,ps,rfl,J,d,c,f,mm,b⟩;have E:qs.length=j:=by rw[d];simp[wL]
 have C:vs.length=j:=by rw[c];simp[wL]
 have F:ps.length=j:=by rw[f];simp[wL]
 rcases(by omega:j=S.aH.length\/j<S.aH.length)with m|D
 .subst m
  rw[<-d,<-c,<-f]at h;clear d c f;refine t.go (ev1 _ [item,(S.weights.length:Int),(S.aH.length:Int),(S.aG.length:Int)] (vT S []) (sT S [aA qs,aA vs,aA ps]) .nil) (xK kn) b ?_;intro mm w a b;exact l.go (ev1 _ [item,(S.weights.length:Int),(S.aH.length:Int),(S.aG.length:Int)] (vT S []) (sT S [aA qs,aA vs,aA ps]) .nil) (xK kn) b (fd:=fT S S.aH.length 0) (bd:=oB S item (aA qs) (aA vs) (aA ps)) h
 .clear h
  have s:=XL G.toStOk (e:=(j:Int)) (item:=item) ⟨by omega,by omega,r.1,r.2⟩;have hs:=ajb S item j;obtain⟨⟨q0,k,p0⟩,y⟩:∃x,x=(bV S (j:Int) item).1:=⟨_,rfl⟩;rw[<-y]at s hs;refine u.go (ev1 _ [item,(S.weights.length:Int),(S.aH.length:Int),(S.aG.length:Int),(j:Int)] (vT S [.I q0,.I k,.I p0]) (sT S [aA qs,aA vs,aA ps]) .nil) (xK (kc s kn)) b (fd:=oF (.own 3 1 3 0 (1+(j:Int)).toNat) (.own 3 1 4 0 (1+(j:Int)).toNat) (.own 3 1 5 0 (1+(j:Int)).toNat) (.lit 8 (aX S.aH)) (.i (S.aH.length:Int)) (.i (1+(j:Int)))) (bd:=oB S item (aA qs++[[.i q0]]) (aA vs++[[.i k]]) (aA ps++[[.i p0]])) ?_;intro mm w a b;rw[show(1+(j:Int))=((j+1:Nat):Int)by omega,a00,lO,lO,lO]at b;refine⟨_,by omega,j+1,_,_,_,rfl,by omega,?_,?_,?_,mm,b⟩
  .rw[hs,d];simp
  .rw[hs,c];simp
  .rw[hs,f];simp
end
def walk (oA b e d:Option (RT Out)) (J:alS body oA) (I:alR (bB oA)) (H:alQ (bB oA)) (z:aba oA b) (y:agL (bB b)) (o:ac6 (bB b)) (p:ac7 (bB b)) (x:agK (bB b)) (r:Ro b e) (q:Rn b d)
  (r0:agO (bB d)) (r1:agN (bB d)) (r2:agM (bB d)) (v:aa9 (bB d)) (F:agJ d) (E:agO (bB e)) (D:agN (bB e)) (C:agM (bB e)) (u:aa9 (bB e)) (B:agJ e)
  (G:Gn S) (O:S.aH.length=2\/S.aH.length=3) (t:0<=item/\item<S.weights.length) (Q:eB (giQ S item)=0) (P:eB (giV S item)=0) (R:eB (giP S item)=0) (T:eB (Nf S item)=0)
  (L:fM (giQ S item)) (K:fM (giV S item)) (M:fM (giP S item)) (N:fM (Nf S item)) :
  Ck 34 [S.av,.i item] (.bE [.agg [.i (dP (giQ S item)),.i (dP (giV S item)),.i (dP (giP S item)),.i (dP (Nf S item))],.i 0]):=by
 have m:=qT _ L;have l:=qT _ K;have j:=qT _ M;rw[Q]at m;rw[P]at l;rw[R]at j;have W:=G.hw;have V:=G.hn;have U:=G.Fo;refine CK.hY Tryz.func34 (c:=body) (by kernel_rfl) (Cw.out) (yY.out) fun A w0 a0=>?_
 intro mm w a n;rw[Tryz.ntmps34]at n;refine J.go (ev1 _ [item,(S.weights.length:Int),(S.aH.length:Int),(S.aG.length:Int)] (vT S []) (sT S []) .nil) (xK kn) n (fd:=fA S 0 0) (bd:=oB S item [] [] []) ?_;refine aH I H z G t ?_;refine trans y o p x G t ?_;intro k mm w a s g f h n;exact FD r q G O t T N s g f h (tail E D C u B s g f h m l j) (tail r0 r1 r2 v F s g f h m l j) mm w a n
end GO
def anE (G:Gn S) (e:S.aH.length=2\/S.aH.length=3) (f:0<=item/\item<S.weights.length) (h:eB (giQ S item)=0) (g:eB (giV S item)=0) (j:eB (giP S item)=0) (k:eB (Nf S item)=0)
  (b:fM (giQ S item)) (a:fM (giV S item)) (c:fM (giP S item)) (d:fM (Nf S item)) :
  Ck 34 [S.av,.i item] (.bE [.agg [.i (dP (giQ S item)),.i (dP (giV S item)),.i (dP (giP S item)),.i (dP (Nf S item))],.i 0]) :=
 GO.walk GO.acG GO.FL GO.acF GO.acE GO.aoa .of .of GO.amO .of .of .of .of GO.ajl GO.ajk .of .of .of .of .of .of .of .of .of .of G e f h g j k b a c d
end
section
open Mc
variable {S:bF}
def iR (S:bF):Nat->bF
 |0=>S
 |j+1=>(iZ (iR S j) (j:Int)).1
namespace CD
abbrev dF (i:AV):List AV:=fr 18 [(1,.ptr 10 0 0 0),(2,.ptr 10 1 0 0),(3,i)]
abbrev dB (S:bF):List Mc.dI:=[GO.sR S,.cells 31 10 He]
noncomputable def body:Code:=(Tryz.f9).body.getD .skip
abbrev aml (c:Code) (r:Option (RT Out)):Prop:=uG { vars:=[(0,4)],lens:=KeY } c (KdT++List.replicate 17 .undef) [] [some 0,some 1] (dF (.i 0)) Jk r
noncomputable def af7:Option (RT Out):=yZ { vars:=[(0,4)],lens:=KeY } body (KdT++List.replicate 17 .undef:List AV).length (KdT++List.replicate 17 .undef) [] 0
def aol:aml body af7:=⟨by unfold af7;rfl,by decide +kernel,by decide +kernel⟩
abbrev amk (c:Code):Prop:=eA { vars:=[(0,4),(0,3)],facts:=Kct,lens:=KeY,bQ:=[(30,Kcf,(.bE [(.agg Vl),.o 6]))] } c (dF (.v 1)) Jk 0 [some 0,some 1] (dF KdU) [(.cells 31 10 [Vl]),Vn]
abbrev amj (o:Option (RT Out)):Prop:=kH { vars:=[(0,4)],lens:=KeY } Tryz.f9 o 0 (dF (.v 0)) Jk (Keg)
section
variable {A:Nat->Prop} {w0:World} {a0:Act}
def fin {o:Option (RT Out)} (b:amj o) (d:S.aH.length<=4) (mm:Nat->St) (w:World) (a:Act) (c:@fD dY dZ A w0 a0 mm w a (dF (.i (S.aH.length:Int))) (fH (dB S))):KS Tryz.prog (oK o) (Fin Tryz.prog Tryz.f9 A w0 a0 S.av) (AX.exit 0).to a w :=
 b.go (ev1 _ [(S.aH.length:Int)] (vT S []) (sT S []) .nil) (xK kn) c
def round {o:Option (RT Out)} (b:amk (bB o)) {T:bF} {f:Int} {j:Nat} (e:S.aH.length<=4) (g:j<S.aH.length) (cC:Ck 30 [S.av,.i (j:Int)] (.bE [T.av,.i f])) {Φ:kI}
  (d:∀mm w a,@fD dY dZ A w0 a0 mm w a (dF (.i (1+(j:Int)))) (fH (dB T))->Φ (AX.normal).to a w)
  (mm:Nat->St) (w:World) (a:Act) (c:@fD dY dZ A w0 a0 mm w a (dF (.i (j:Int))) (fH (dB S))):(bB o).wpIn (fw none) 9 Tryz.prog Φ a w :=
 b.go (ev1 _ [(S.aH.length:Int),(j:Int)] (vT S (vT T [.I f])) (sT S (sT T [])) .nil) (xK (kc cC kn)) c (fd:=dF (.i (1+(j:Int)))) (bd:=dB T) d
end
def walk (oA:Option (RT Out)) (u:aml body oA) (t:amk (bB oA)) (s:eA { vars:=[(0,4)],lens:=KeY } (bB oA) (dF (.v 0)) Jk 2 [some 0,some 1] (dF (.v 0)) Jk) (q:amj oA) (G:Gn S) (l:1<=S.weights.length) (y:S.bH<=12) :
  Ck 9 [S.av] (iR S S.aH.length).av:=by
 have d:=G.hn;refine CK.hY Tryz.func9 (c:=body) (by kernel_rfl) (Cw.out) (yY.out) fun A w0 a0=>?_
 intro mm w a b;rw[Tryz.ntmps9]at b;refine u.go (ev1 _ [(S.aH.length:Int)] (vT S []) (sT S []) .nil) (xK kn) b (fd:=dF (.i 0)) (bd:=dB S) ?_;intro mm w a b;refine dQ (fun n a w=>∃(j:Nat) (T:bF),n=S.aH.length-j/\j<=S.aH.length/\T=iR S j/\Gn T/\T.aH.length=S.aH.length/\T.weights=S.weights/\∃mm,@fD dY dZ A w0 a0 mm w a (dF (.i (j:Int))) (fH (dB T))) ?_ (n:=S.aH.length) ⟨0,S,rfl,a0n _,rfl,G,rfl,rfl,_,b⟩;clear b;rintro n a w ⟨j,T,rfl,z,h,k,g,e,mm,b⟩;have d:=k.hn;rcases(by omega:j=S.aH.length\/j<S.aH.length)with m|x
 .subst m
  rw[<-h];clear h;rw[<-g]at b;refine s.go (ev1 _ [(T.aH.length:Int)] (vT T []) (sT T []) .nil) (xK kn) b ?_;intro mm w a b;exact fin q d mm w a b
 .have X:Ix T (j:Int) 0:=⟨by omega,by omega,by omega,by rw[e];omega⟩
  have cC:=I1 k (by rw[e];exact l) X;have F:=uA k X;obtain⟨⟨U,f⟩,o⟩:∃r,r=iZ T (j:Int):=⟨_,rfl⟩;have p:U=iR S (j+1):=by show _=(iZ (iR S j) (j:Int)).1;rw[<-h,<-o]
  rw[<-o]at cC F;refine round t d (by omega) cC ?_ mm w a b;intro mm w a b;rw[show(1+(j:Int))=((j+1:Nat):Int)by omega]at b;exact⟨_,by omega,j+1,U,rfl,by omega,p,F.1,by have:=F.le;exact this.trans g,by have:=F.wt;exact this.trans e,mm,b⟩
end CD
def PD (G:Gn S) (a:1<=S.weights.length) (b:S.bH<=12):Ck 9 [S.av] (iR S S.aH.length).av:=CD.walk CD.af7 CD.aol .of .of .of G a b
end
section
open Mc
variable {per:Int} {ws:List Int} {ms cs:List (List Int)} {S:bF} {k:Nat} {o:Option (RT Out)} {Φ:kI}
def afO {n:Nat} (M:MOk n per ws ms cs):Lk 0 (gB n per ws ms cs):=by
 refine⟨⟨fun r c v a=>((M.cr r c).2 v a).2,fun e x d y b=>?_,by simp[gB],by simp[gB],by simp[gB]⟩,fun y b=>by simp[gB]at b⟩;have g:=(a10.1 (a0a d)).2;subst g;rcases b with rfl|b
 .refine⟨fun k p f=>?_,fun v a=>?_,fun r c v a=>?_,fun v a=>?_⟩
  .have:=(a10.1 (a0a f)).2
   subst this;exact⟨by simp,by simp[qs],by simp[gB,gN],fun h=>by simp⟩
  .have:=(a10.1 a).2;omega
  .have:=(a10.1 c).2
   subst this;have:=(a10.1 a).2;omega
  .have:=(a10.1 a).2;omega
 .simp[AT]at b
def SS (n:Nat):(List.replicate n (0:Int)).sum=0:=by
 induction n with
 |zero=>rfl
 |succ n a=>rw[List.replicate_succ,a0p,a];rfl
def afQ {n:Nat}:dS (gB n per ws ms cs):=by
 intro e g e1;have d:(gB n per ws ms cs).aB e=AT ws.length:=by
  have:(gB n per ws ms cs).aH.length=n:=by simp[gB]
  have f:e.toNat<n:=by omega
  show(List.replicate n (AT ws.length)).getD e.toNat dE.nil=_;rw[a0c,a30,if_pos f];rfl
 rw[d];have b:∀a:Int,(AT ws.length).acc a=0:=by
  intro a;show(List.replicate 17 (0:Int)).getD a.toNat 0=0;rw[a0c,a30];split<;>rfl
 refine⟨⟨?_,?_,?_,?_⟩,fun y c=>by simp[AT]at c⟩
 .rw[b]
  show 0=((List.replicate (2*ws.length) (⟨[],0,0,0⟩:cY)).map fun p=>vs p.aN).sum;rw[List.map_replicate];exact(SS _).symm
 .rw[b];simp[bF.sD,gB]
 .rw[b]
  show 0=-(List.replicate ws.length (0:Int)).sum;rw[SS];rfl
 .have:(List.range 17).map (fun(a:Nat)=>(AT ws.length).acc (a:Int))=(List.range 17).map fun _=>(0:Int):=a01 fun a _=>b (a:Int)
  rw[this];rfl
def aoE {T:bF} (G:Gn S) (u:S.done<=1000000) (v:1<=S.weights.length) (h:dS S) {o:C6} (ok:dX S.aH.length S.weights.length o) (i:doS S o=(T,0)):dS T:=by
 cases o with
 |rJ e item loc q a=>obtain⟨⟨f,a2⟩,⟨g,l⟩,⟨j,m⟩,n,p⟩:=ok;exact aaY G ⟨f,a2,g,l⟩ j m h i
 |rM q a ref=>exact anj G h i
 |oH q ref=>exact aoo G h i
 |Mr e item loc q a=>obtain⟨⟨f,a2⟩,⟨g,l⟩,⟨j,m⟩,n,p⟩:=ok;exact ajz G ⟨f,a2,g,l⟩ j m h i
 |take q a ref=>exact ajj G h i
 |Ek e item loc q=>obtain⟨⟨f,a2⟩,⟨g,l⟩,⟨j,m⟩,n⟩:=ok;exact af1 G ⟨f,a2,g,l⟩ j m h i
 |count e item loc q=>obtain⟨⟨f,a2⟩,⟨g,l⟩,⟨j,m⟩,n,p⟩:=ok;exact aiu G ⟨f,a2,g,l⟩ j m h i
 |move e item loc dst q=>obtain⟨⟨f,a2⟩,⟨g,l⟩,⟨j,m⟩,⟨n,p⟩,s,t⟩:=ok;exact aj7 G ⟨f,a2,g,l⟩ j m n p h i
 |rH e item a=>obtain⟨⟨f,a2⟩,⟨g,l⟩,j⟩:=ok;exact aaP G ⟨f,a2,g,l⟩ j h i
 |qX e item a=>obtain⟨⟨f,a2⟩,⟨g,l⟩,j⟩:=ok;exact ago ⟨f,a2,g,l⟩ h i
 |land dst a refs =>
  obtain⟨f,a2,g⟩:=ok;refine akj G u ?_ ?_ ⟨a2.1,by omega⟩ h i
  .rcases g with⟨r0,rfl,b⟩|⟨r0,r1,rfl,b,c,-⟩|⟨r0,r1,r2,rfl,b,c,d,-⟩
   .intro k r;simp only[a0d,a0b,or_false]at r;omega
   .intro k r;simp only[a0d,a0b,or_false]at r;omega
   .intro k r;simp only[a0d,a0b,or_false]at r;omega
  .rcases g with⟨r0,rfl,b⟩|⟨r0,r1,rfl,b,c,-⟩|⟨r0,r1,r2,rfl,b,c,d,-⟩<;>simp
 |P7 e item loc dst q a=>obtain⟨⟨f,a2⟩,⟨g,l⟩,⟨j,m⟩,⟨n,p⟩,s,t,w⟩:=ok;exact ajx G ⟨f,a2,g,l⟩ ⟨n,p,g,l⟩ s j m h i
 |yF loc q ref=>obtain⟨⟨j,m⟩,n,s⟩:=ok;exact afk G j m h i
 |close e=>obtain⟨f,a2⟩:=ok;exact Xz G ⟨f,a2,by omega,by omega⟩ h i
 |xR e=>obtain⟨f,a2⟩:=ok;exact aep G ⟨f,a2,by omega,by omega⟩ h i
 |next e=>obtain⟨f,a2⟩:=ok;exact aj4 G ⟨f,a2,by omega,by omega⟩ h i
def ajr (G:Gn S) (d:S.done<=1000000) (a:1<=S.weights.length) (h:dS S) {o:C6} (ok:dX S.aH.length S.weights.length o):dS (nT S o).1:=by
 unfold nT eT;obtain⟨T,f,b⟩:∃T f,doS S o=(T,f):=⟨_,_,rfl⟩;rw[b];dsimp only;split
 .rename_i c
  subst c;exact mE.to (aoE G d a h ok b) rfl fun _ _ _=>rfl
 .exact h
def Reach.lk {n:Nat} (M:MOk n per ws ms cs) (h:Reach n per ws ms cs k S) (g:k<=120):Lk k S:=by
 induction h with
 |start=>exact afO M
 |@step k S o h ok b d =>
  obtain⟨G,c,a,pe,en,f,i⟩:=h.rs M (by omega);have e:=M.w2;exact ajq G (by omega) (by rw[a];exact M.wr) (by rw[a];omega) (by rw[pe];have:=M.p;omega) (by omega) (by omega) (d (by omega)) (by rw[c,a];exact ok) b
def Reach.bk {n:Nat} (M:MOk n per ws ms cs) (h:Reach n per ws ms cs k S) (g:k<=120):dS S:=by
 induction h with
 |start=>exact afQ
 |@step k S o h ok e c =>
  obtain⟨G,b,a,pe,en,f,i⟩:=h.rs M (by omega);have d:=M.w2;exact ajr G (by omega) (by rw[a];omega) (c (by omega)) (by rw[b,a];exact ok)
structure Cl' (S:bF) (k:Int) (j:Nat) (T:bF):Prop where
 gn:Gn T
 lk:Lk k T
 le:T.aH.length=S.aH.length
 wt:T.weights=S.weights
 pe:T.bH=S.bH
 cl:∀i:Nat,i<j->(T.aB i).closed=true
def AF {S:bF} {k:Int} (G:Gn S) (s:0<=k) (o:k<=120) (g:1<=S.weights.length) (l:Lk k S):∀j,j<=S.aH.length->Cl' S (k+j) j (iR S j)
 |0,_=>⟨G,by simpa[iR]using l,rfl,rfl,rfl,fun i h=>by omega⟩
 |j+1,w=>by
  have a:=AF G s o g l j (by omega);have u:=G.hn;simp only[iR];generalize iR S j=T at *;have x:Ix T (j:Int) 0:=⟨by omega,by rw[a.le];omega,by omega,by rw[a.wt];omega⟩;have F:=uA a.gn x;have t:k+((j+1:Nat):Int)=k+(j:Int)+1:=by omega
  rw[t];by_cases b:(T.aB (j:Int)).closed=true
  .have e1:iZ T (j:Int)=(T,7):=by unfold iZ;rw[if_pos b]
   rw[e1];exact⟨a.gn,a.lk.mono a.gn (by omega),a.le,a.wt,a.pe,fun i h=>by
    by_cases d:i=j
    .subst d;exact b
    .exact a.cl i (by omega)⟩
  .have b:(T.aB (j:Int)).closed=false:=by simpa using b
   obtain⟨U,e1,up⟩:=Nt a.gn (Lk.cap (by omega) (by omega)) (by omega) (by omega) (by omega) a.lk x b;have m:=e1;rw[e1]at F |-;have gn:=F.gn;refine⟨gn,Lk.up (by omega) (by omega) gn up,F.le.trans a.le,F.wt.trans a.wt,F.pe.trans a.pe,fun i h=>?_⟩
   obtain⟨-,S1,n,q,p,rfl⟩:=Ir m;have v:=(pK (e:=(j:Int)) T.weights.length 0 T a.gn ⟨x.e0,x.e1⟩ (by omega)).1;rw[q]at v;dsimp only at v;have c:=(EM v.gn (v.ix x)).1;rw[p]at c;dsimp only at c;have f:=v.trans (c.sv v.gn);show((n.aZ (j:Int) _).aB (i:Int)).closed=true;by_cases d:i=j
   .subst d
    rw[bF.eS (f.ix x)];rfl
   .rw[lY _ x.e0 (by omega) (by omega)]
    rw[show(n.aB (i:Int)).closed=(T.aB (i:Int)).closed from congrArg (fun r=>r.2.1) (f.shE (i:Int))];exact a.cl i (by omega)
def Pv {S:bF} {k:Int} (G:Gn S) (g:0<=k) (e:k<=120) (a:1<=S.weights.length) (l:Lk k S) (b:dS S):∀j,j<=S.aH.length->dS (iR S j)
 |0,_=>b
 |j+1,i=>by
  have c:=AF G g e a l j (by omega);have d:=Pv G g e a l b j (by omega);simp only[iR];generalize iR S j=T at *;have x:Ix T (j:Int) 0:=⟨by omega,by rw[c.le];omega,by omega,by rw[c.wt];omega⟩;by_cases f:(T.aB (j:Int)).closed=true
  .have e1:iZ T (j:Int)=(T,7):=by unfold iZ;rw[if_pos f]
   rw[e1];exact d
  .have h:=G.hn
   obtain⟨U,e1,up⟩:=Nt c.gn (Lk.cap (by omega) (by omega)) (by omega) (by omega) (by omega) c.lk x (by simpa using f);have bk:=Xz c.gn x d e1;rw[e1];exact bk
namespace GF
abbrev cFn:AV:=.c (.func (.func 74) #[] #[])
abbrev gtF (l p n i:AV):List AV:=fr 28 [(1,.fn (.func 74) [] []),(4,.i 0),(5,.i 0),(6,p),(9,l),(10,n),(11,i)]
abbrev gtC (l p n i:AV):List AV:=fr 28 [(1,cFn),(4,.i 0),(5,.i 0),(6,p),(9,l),(10,n),(11,i)]
noncomputable def body:Code:=(Tryz.f73).body.getD .skip
abbrev al1 (c:Code) (r:Option (RT Out)):Prop:=uG { vars:=[(0,40)],lens:=KeY } c ([.q 6 0,(.fn (.func 74) [] [])]++List.replicate 26 .undef) [] [none] (gtF (.q 6 0) (.own 3 1 0 0 0) (.v 0) (.i 0)) [KeZ] r
noncomputable def alC:Option (RT Out):=yZ { vars:=[(0,40)],lens:=KeY } body ([.q 6 0,(.fn (.func 74) [] [])]++List.replicate 26 .undef:List AV).length ([.q 6 0,(.fn (.func 74) [] [])]++List.replicate 26 .undef) [] 0
def aod:al1 body alC:=⟨rfl,by decide +kernel,by decide +kernel⟩
abbrev agR (o:Option (RT Out)):Prop:=kH { vars:=[(0,40)],lens:=KbX,bQ:=[(72,[.q 1 1],(.bE [.o 0,.o 1]))] } Tryz.f73 o 0 (gtF (.q 6 0) KdJ (.v 0) (.v 0)) Kb2 ((.bE [.o 0,.o 1]))
def fin (c:agR o) {l:List yX} {ps:List Int} {sv b:Int} (g:l.length<=40) (f:ps.length=l.length) {A:Nat->Prop} {w0:World} {a0:Act} {mm:Nat->St} {w:World} {a:Act} (e:Ck 72 [.lit 1 (aA ps)] (.bE [.i sv,.i b]))
  (d:@fD dY dZ A w0 a0 mm w a (gtC (.lit 6 (eO l)) (.own 3 1 0 0 l.length) (.i (l.length:Int)) (.i (l.length:Int))) (fH [.cells 3 1 (aA ps)])):KS Tryz.prog (oK o) (Fin Tryz.prog Tryz.f73 A w0 a0 (.bE [.i sv,.i b])) (AX.exit 0).to a w :=
 c.go (ev1 _ [(l.length:Int)] [.I sv,.I b] [eO l,aA ps] .nil) (xK (kc e kn)) d
def walk (oA:Option (RT Out)) (t:al1 body oA) (s:eA { vars:=[(0,40),(0,39)],facts:=[KcN],lens:=KbU,iG:=[(0,[([1],1)],[.o 0,.o 1,.o 2,.o 3,.o 4,.o 5])] } (bB oA) (gtF (.q 6 0) (.dD 3 1 0 [([1],1)]) (.v 0) (.v 1)) [(.sc 3 1 1 [] [] [([1],1)])] 0 [some 4] (gtF (.q 6 0) (.dD 3 1 0 KeO) (.v 0) KdU) [(.sc 3 1 1 [] [[.o 5]] KeO)]) (r:eA { vars:=[(0,40)],lens:=KbX } (bB oA) (gtF (.q 6 0) KdJ (.v 0) (.v 0)) Kb2 2 [some 0] (gtF (.q 6 0) KdJ (.v 0) (.v 0)) Kb2) (p:agR oA) {l:List yX} (u:l.length<=40) (h:fM (l.map (·.bW))) :
  Ck 73 [.lit 6 (eO l),cFn] (.bE [.i (dP (l.map (·.bW))),.i (eB (l.map (·.bW)))]):=by
 refine CK.hY Tryz.func73 (c:=body) (by kernel_rfl) (Cw.out) (yY.out) fun A w0 a0=>?_;intro mm w a b;rw[Tryz.ntmps73]at b;refine t.go (ev1 _ [(l.length:Int)] [] [eO l] .nil) (xK kn) b (fd:=gtC (.lit 6 (eO l)) (.own 3 1 0 0 0) (.i (l.length:Int)) (.i 0)) (bd:=[.cells 3 1 []]) ?_;intro mm w a b;refine dQ (fun n a w=>∃(j:Nat) (ps:List Int),n=l.length-j/\j<=l.length/\ps=(l.take j).map (·.bW)/\∃mm,@fD dY dZ A w0 a0 mm w a (gtC (.lit 6 (eO l)) (.own 3 1 0 0 j) (.i (l.length:Int)) (.i (j:Int))) (fH [.cells 3 1 (aA ps)])) ?_ (n:=l.length) ⟨0,[],rfl,a0n _,rfl,_,b⟩;rintro n a w ⟨j,ps,rfl,B,e,mm,b⟩;have m:ps.length=j:=by rw[e];simp;omega
 rcases(by omega:j=l.length\/j<l.length)with rfl|k
 .rw[a1g]at e
  rw[<-e]at h |-;have y:=qT ps h;clear e h;generalize dP ps=sv at *;generalize eB ps=z at *;refine r.go (ev1 _ [(l.length:Int)] [] [eO l,aA ps] .nil) (xK kn) b ?_;intro mm w a b;exact fin p u m y b
 .obtain⟨g,f⟩:∃g,l[j]?=some g:=⟨_,a0f k⟩
  have x:l[(j:Int).toNat]?=some ⟨g.src,g.dst,g.item,g.eX,g.value,g.bW⟩:=by simpa using f
  refine s.go (ev1 _ [(l.length:Int),(j:Int)] [.I g.src,.I g.dst,.I g.item,.I g.eX,.I g.value,.I g.bW] [eO l,aA ps] (.d (aT x) .nil)) (xK kn) b (fd:=gtC (.lit 6 (eO l)) (.own 3 1 0 0 (1+(j:Int)).toNat) (.i (l.length:Int)) (.i (1+(j:Int)))) (bd:=[.cells 3 1 (aA ps++[[.i g.bW]])]) ?_;intro mm w a b;rw[show(1+(j:Int))=((j+1:Nat):Int)by omega,a00,lO]at b;exact⟨_,by omega,j+1,_,rfl,by omega,by rw[a0u,f,e];simp,mm,b⟩
end GF
def anF {l:List yX} (a:l.length<=40) (b:fM (l.map (·.bW))):Ck 73 [.lit 6 (eO l),GF.cFn] (.bE [.i (dP (l.map (·.bW))),.i (eB (l.map (·.bW)))]) :=
 GF.walk GF.alC GF.aod .of .of .of a b
def adL {a:Int} (G:Gn S) (C:S.aH.length=2\/S.aH.length=3) (H:0<=a/\a<=16) (E:eB (nG S a)=0):Ck 36 [S.av,.i a] (.bE [.i (dP (nG S a)),.i 0]):=by
 have h:∀{x:dE} {e:Nat},S.aH[e]?=some x->x.cN.length=17/\x.cN[a.toNat]?=some (x.cN.getD a.toNat 0):=fun{x e} p=>by
  have j:=(G.aB e x p).bl;exact⟨j,getD_some (by rw[j];omega)⟩
 have A:fM (nG S a):=by
  intro v B;obtain⟨x,p,rfl⟩:=a0j.1 B;obtain⟨e,u⟩:=a1s.1 p;have:=(G.aB e x u).bb _ (a0a (h u).2);exact⟨by omega,by omega⟩
 have n:=qT _ A;rw[E]at n;generalize dP (nG S a)=d at *;rcases abQ G C with⟨c,b,g⟩|⟨c,b,f,g⟩
 .have m:S.aH[0]?=some c:=by rw[g];rfl
  have j:S.aH[1]?=some b:=by rw[g];rfl
  have D:S.aH.length=2:=by rw[g];rfl
  obtain⟨z,l⟩:=h m;obtain⟨l1,k⟩:=h j;have r:nG S a=[c.cN.getD a.toNat 0,b.cN.getD a.toNat 0]:=by unfold nG;rw[g];rfl
  rw[r]at n;generalize c.cN.getD a.toNat 0=t at *;generalize b.cN.getD a.toNat 0=s at *;exact cw _ (ev1 { vars:=[(0,16),(2,2)],lens:=[Kfl,Kfh,(14,[([],17)])],iG:=[(0,[],Wn),(8,[([0],1)],[.o 5]),UZ,(14,[([0],1)],[.o 8])],bQ:=HE } [a,(S.aH.length:Int)] (vT S [.I c.now,.bool c.closed,.I t,.I b.now,.bool b.closed,.I s,.I d]) (sT S [bS c.bK,aA c.cN,bN c.aJ,aA c.bD,aA c.down,bX c.ahead,bS b.bK,aA b.cN,bN b.aJ,aA b.bD,aA b.down,bX b.ahead]) (.d (AZ m) (.d (aI l) (.d (AZ j) (.d (aI k) .nil))))) Kcd Kex (kc n kn)
 .have m:S.aH[0]?=some c:=by rw[g];rfl
  have j:S.aH[1]?=some b:=by rw[g];rfl
  have y:S.aH[2]?=some f:=by rw[g];rfl
  have D:S.aH.length=3:=by rw[g];rfl
  obtain⟨z,l⟩:=h m;obtain⟨l1,k⟩:=h j;obtain⟨l2,w⟩:=h y;have r:nG S a=[c.cN.getD a.toNat 0,b.cN.getD a.toNat 0,f.cN.getD a.toNat 0]:=by unfold nG;rw[g];rfl
  rw[r]at n;generalize c.cN.getD a.toNat 0=t at *;generalize b.cN.getD a.toNat 0=s at *;generalize f.cN.getD a.toNat 0=F at *;exact cw _ (ev1 { vars:=[(0,16),(3,3)],lens:=[Kfl,Kfh,(14,[([],17)]),(20,[([],17)])],iG:=[(0,[],Wn),(8,[([0],1)],[.o 5]),UZ,(14,[([0],1)],[.o 8]),(0,[([],2)],[.o 9,.o 10,.q 4 19,.q 1 20,.q 11 21,.q 1 22,.q 1 23,.q 8 24]),(20,[([0],1)],[.o 11])],bQ:=Wb } [a,(S.aH.length:Int)] (vT S [.I c.now,.bool c.closed,.I t,.I b.now,.bool b.closed,.I s,.I f.now,.bool f.closed,.I F,.I d]) (sT S [bS c.bK,aA c.cN,bN c.aJ,aA c.bD,aA c.down,bX c.ahead,bS b.bK,aA b.cN,bN b.aJ,aA b.bD,aA b.down,bX b.ahead,bS f.bK,aA f.cN,bN f.aJ,aA f.bD,aA f.down,bX f.ahead]) (.d (AZ m) (.d (aI l) (.d (AZ j) (.d (aI k) (.d (AZ y) (.d (aI w) .nil))))))) Kcd (.bE [.o 12,.i 0]) (kc n kn)
def Px (G:Gn S) (p:S.aH.length=2\/S.aH.length=3) (r:∀x∈S.aH,x.closed=true) :
  (Ck 33 [S.av] (.i 0)/\∀x∈S.aH,∀y∈S.aH,x.now=y.now)\/(Ck 33 [S.av] (.i 9)/\∃x∈S.aH,∃y∈S.aH,x.now≠y.now):=by
 have m:∀{x:dE} {e:Nat},S.aH[e]?=some x->(1<=x.now/\x.now<=12)/\S.aH[e]?=some ⟨⟨x.now,true,x.bK,x.cN,x.aJ,x.bD,x.down⟩,x.ahead⟩:=fun{x e} k=>by
  have j:=(G.aB e x k).now;have n:=r x (a0a k);refine⟨j,?_⟩;rw[k,<-n]
 rcases abQ G p with⟨a,b,f⟩|⟨a,b,c,f⟩
 .obtain⟨b0,l⟩:=m (x:=a) (e:=0) (by rw[f];rfl)
  obtain⟨b1,j⟩:=m (x:=b) (e:=1) (by rw[f];rfl);have q:S.aH.length=2:=by rw[f];rfl
  rcases(by omega:b.now=a.now\/b.now<a.now\/a.now<b.now)with h|h|h
  .refine .inl ⟨?_,?_⟩
   .exact cw _ (ev1 { vars:=Keb,facts:=[Kdg],lens:=Ke2,iG:=[(0,[],Vg),ZV] } [a.now,b.now,(S.aH.length:Int)] (vT S []) (sT S [bS a.bK,aA a.cN,bN a.aJ,aA a.bD,aA a.down,bX a.ahead,bS b.bK,aA b.cN,bN b.aJ,aA b.bD,aA b.down,bX b.ahead]) (.d (AZ l) (.d (AZ j) .nil))) KdT (.i 0) kn
   .rw[f];intro x k y o
    simp only[a0d,a0b,or_false]at k o;rcases k with rfl|rfl<;>rcases o with rfl|rfl<;>omega
  .exact .inr ⟨cw _ (ev1 { vars:=Keb,facts:=[(KeE,-20,-1)],lens:=Ke2,iG:=[(0,[],Vg),ZV] } [a.now,b.now,(S.aH.length:Int)] (vT S []) (sT S [bS a.bK,aA a.cN,bN a.aJ,aA a.bD,aA a.down,bX a.ahead,bS b.bK,aA b.cN,bN b.aJ,aA b.bD,aA b.down,bX b.ahead]) (.d (AZ l) (.d (AZ j) .nil))) KdT (.i 9) kn,a,by rw[f];simp,b,by rw[f];simp,by omega⟩
  .exact .inr ⟨cw _ (ev1 { vars:=Keb,facts:=[(KeE,1,20)],lens:=Ke2,iG:=[(0,[],Vg),ZV] } [a.now,b.now,(S.aH.length:Int)] (vT S []) (sT S [bS a.bK,aA a.cN,bN a.aJ,aA a.bD,aA a.down,bX a.ahead,bS b.bK,aA b.cN,bN b.aJ,aA b.bD,aA b.down,bX b.ahead]) (.d (AZ l) (.d (AZ j) .nil))) KdT (.i 9) kn,a,by rw[f];simp,b,by rw[f];simp,by omega⟩
 .obtain⟨b0,l⟩:=m (x:=a) (e:=0) (by rw[f];rfl)
  obtain⟨b1,j⟩:=m (x:=b) (e:=1) (by rw[f];rfl);obtain⟨b2,n⟩:=m (x:=c) (e:=2) (by rw[f];rfl);have q:S.aH.length=3:=by rw[f];rfl
  rcases(by omega:b.now<a.now\/a.now<b.now\/b.now=a.now/\(c.now=a.now\/c.now<a.now\/a.now<c.now))with h|h|⟨h,g|g|g⟩
  .exact .inr ⟨cw _ (ev1 { vars:=Kb6,facts:=[(KeE,-20,-1)],lens:=Ke7,iG:=[(0,[],Vg),ZV,ZW] } [a.now,b.now,c.now,(S.aH.length:Int)] (vT S []) (sT S [bS a.bK,aA a.cN,bN a.aJ,aA a.bD,aA a.down,bX a.ahead,bS b.bK,aA b.cN,bN b.aJ,aA b.bD,aA b.down,bX b.ahead,bS c.bK,aA c.cN,bN c.aJ,aA c.bD,aA c.down,bX c.ahead]) (.d (AZ l) (.d (AZ j) (.d (AZ n) .nil)))) KdT (.i 9) kn,a,by rw[f];simp,b,by rw[f];simp,by omega⟩
  .exact .inr ⟨cw _ (ev1 { vars:=Kb6,facts:=[(KeE,1,20)],lens:=Ke7,iG:=[(0,[],Vg),ZV,ZW] } [a.now,b.now,c.now,(S.aH.length:Int)] (vT S []) (sT S [bS a.bK,aA a.cN,bN a.aJ,aA a.bD,aA a.down,bX a.ahead,bS b.bK,aA b.cN,bN b.aJ,aA b.bD,aA b.down,bX b.ahead,bS c.bK,aA c.cN,bN c.aJ,aA c.bD,aA c.down,bX c.ahead]) (.d (AZ l) (.d (AZ j) (.d (AZ n) .nil)))) KdT (.i 9) kn,a,by rw[f];simp,b,by rw[f];simp,by omega⟩
  .refine .inl ⟨?_,?_⟩
   .exact cw _ (ev1 { vars:=Kb6,facts:=[Kdg,([([0],-1),([2],1)],0,0)],lens:=Ke7,iG:=[(0,[],Vg),ZV,ZW] } [a.now,b.now,c.now,(S.aH.length:Int)] (vT S []) (sT S [bS a.bK,aA a.cN,bN a.aJ,aA a.bD,aA a.down,bX a.ahead,bS b.bK,aA b.cN,bN b.aJ,aA b.bD,aA b.down,bX b.ahead,bS c.bK,aA c.cN,bN c.aJ,aA c.bD,aA c.down,bX c.ahead]) (.d (AZ l) (.d (AZ j) (.d (AZ n) .nil)))) KdT (.i 0) kn
   .rw[f];intro x k y o
    simp only[a0d,a0b,or_false]at k o;rcases k with rfl|rfl|rfl<;>rcases o with rfl|rfl|rfl<;>omega
  .exact .inr ⟨cw _ (ev1 { vars:=Kb6,facts:=[Kdg,([([0],-1),([2],1)],-20,-1)],lens:=Ke7,iG:=[(0,[],Vg),ZV,ZW] } [a.now,b.now,c.now,(S.aH.length:Int)] (vT S []) (sT S [bS a.bK,aA a.cN,bN a.aJ,aA a.bD,aA a.down,bX a.ahead,bS b.bK,aA b.cN,bN b.aJ,aA b.bD,aA b.down,bX b.ahead,bS c.bK,aA c.cN,bN c.aJ,aA c.bD,aA c.down,bX c.ahead]) (.d (AZ l) (.d (AZ j) (.d (AZ n) .nil)))) KdT (.i 9) kn,a,by rw[f];simp,c,by rw[f];simp,by omega⟩
  .exact .inr ⟨cw _ (ev1 { vars:=Kb6,facts:=[Kdg,([([0],-1),([2],1)],1,20)],lens:=Ke7,iG:=[(0,[],Vg),ZV,ZW] } [a.now,b.now,c.now,(S.aH.length:Int)] (vT S []) (sT S [bS a.bK,aA a.cN,bN a.aJ,aA a.bD,aA a.down,bX a.ahead,bS b.bK,aA b.cN,bN b.aJ,aA b.bD,aA b.down,bX b.ahead,bS c.bK,aA c.cN,bN c.aJ,aA c.bD,aA c.down,bX c.ahead]) (.d (AZ l) (.d (AZ j) (.d (AZ n) .nil)))) KdT (.i 9) kn,a,by rw[f];simp,c,by rw[f];simp,by omega⟩
def ppR (S:bF) (e:Int) (i:Nat):List Int:=(List.range i).map fun(k:Nat)=>(bV S e (k:Int)).1.p
def Sy (S:bF) (j:Nat):List Int:=(List.range j).flatMap fun(e:Nat)=>ppR S (e:Int) S.weights.length
def MJ (S:bF) (j:Nat):Sy S (j+1)=Sy S j++ppR S (j:Int) S.weights.length:=by simp[Sy,a1v,List.flatMap_append]
def agp (S:bF) (e:Int) (i:Nat):ppR S e (i+1)=ppR S e i++[(bV S e (i:Int)).1.p]:=by simp[ppR,a1v]
def acV (S:bF) (e:Int) (i:Nat):(ppR S e i).length=i:=by simp[ppR]
def Ri (S:bF) (j:Nat):(Sy S j).length=j*S.weights.length:=by
 induction j with
 |zero=>simp[Sy]
 |succ j a=>rw[MJ,a1o,a,acV,a2h]
def afF {l:List Int} (h:eU l<=288230376151711744):dP l=l.sum/\eB l=0:=by
 have:=mR l 0 (by simp;exact h);rw[a2v]at this;unfold dP eB;rw[this];simp
namespace GL
abbrev aR:Mc.dI:=.cells 3 1 Kbe
abbrev lF (l i:AV):List AV:=fr 105 [(1,.ptr 10 0 0 0),(2,.emp),(3,.i 0),(4,l),(16,.own 3 1 1 0 4),(17,.i 4),(18,i)]
abbrev Fq (p l n i:AV):List AV:=fr 105 [(1,.ptr 10 0 0 0),(2,.emp),(3,.i 0),(4,.own 44 2 1 0 4),(9,p),(40,l),(41,n),(42,i)]
abbrev NZ (p l n i w a j:AV):List AV:=fr 105 [(1,.ptr 10 0 0 0),(2,.emp),(3,.i 0),(4,.own 44 2 1 0 4),(9,p),(10,i),(40,l),(41,n),(42,i),(47,w),(48,a),(49,j)]
abbrev l4 (b0 b1 b2 b3:Int):List (List AV):=[[.i 14,.i (-b0)],[.i 13,.i (-b1)],[.i 15,.i (-b2)],[.i 16,.i (-b3)]]
abbrev lB (S:bF) (L:List (List AV)):List Mc.dI:=[GO.sR S,aR,.cells 44 2 L]
abbrev lB2 (S:bF) (b0 b1 b2 b3:Int) (p:List (List AV)):List Mc.dI:=[GO.sR S,.cells 44 2 (l4 b0 b1 b2 b3),.cells 3 1 p]
abbrev fE (S:bF) (k j:Nat):List AV:=Fq (.own 3 1 2 0 k) (.lit 8 (aX S.aH)) (.i (S.aH.length:Int)) (.i (j:Int))
abbrev fI (S:bF) (k j i:Nat):List AV:=NZ (.own 3 1 2 0 k) (.lit 8 (aX S.aH)) (.i (S.aH.length:Int)) (.i (j:Int)) (.lit 1 (aA S.weights)) (.i (S.weights.length:Int)) (.i (i:Int))
noncomputable def body:Code:=(Tryz.f35).body.getD .skip
abbrev alV (c:Code) (r:Option (RT Out)):Prop:=uG { vars:=Ja,lens:=Dq } c (KdT++List.replicate 104 .undef) [] [some 0,some 1,none] (lF KeL (.i 0)) Ju r
noncomputable def Tc:Option (RT Out):=yZ { vars:=Ja,lens:=Dq } body (KdT++List.replicate 104 .undef:List AV).length (KdT++List.replicate 104 .undef) [] 0
def aoc:alV body Tc:=⟨by unfold Tc;rfl,by decide +kernel,by decide +kernel⟩
abbrev alZ (c:Code):Prop:=eA { vars:=Ja,lens:=Dq,bQ:=[(36,[Keg,.i 14],(.bE [.v 3,.i 0]))] } c (lF KeL (.i 0)) Ju 0 [some 0,some 1,some 4] (lF (.own 44 2 2 0 1) (.i 1)) K7
abbrev alY (c:Code):Prop:=eA { vars:=Ja,lens:=Dq,bQ:=[(36,[Keg,.i 13],(.bE [.v 4,.i 0]))] } c (lF (.own 44 2 2 0 1) (.i 1)) K7 0 [some 0,some 1,some 4] (lF (.own 44 2 2 0 2) (.i 2)) KU
abbrev alX (c:Code):Prop:=eA { vars:=Ja,lens:=Dq,bQ:=[(36,[Keg,.i 15],(.bE [.v 5,.i 0]))] } c (lF (.own 44 2 2 0 2) (.i 2)) KU 0 [some 0,some 1,some 4] (lF (.own 44 2 2 0 3) (.i 3)) KK
abbrev alW (c:Code):Prop:=eA { vars:=Ja,lens:=Dq,bQ:=[(36,[Keg,.i 16],(.bE [.v 6,.i 0]))] } c (lF (.own 44 2 2 0 3) (.i 3)) KK 0 [some 0,some 1,some 4] (lF KeM (.i 4)) KD
abbrev alU (c:Code):Prop:=eA { vars:=Ja,lens:=Dq } c (lF KeM (.i 4)) KD 2 [some 0,some 1,some 2] (lF KeM (.i 4)) KD
abbrev abe (o:Option (RT Out)) (r:Option (RT Out)):Prop:=wZ { vars:=Ja,lens:=Dq } o 0 (lF KeM (.i 4)) KD [some 0,some 2,none] (Fq (.own 3 1 2 0 0) (.q 8 0) (.v 1) (.i 0)) [Yd,QD,KeZ] r
noncomputable def Mu:Option (RT Out):=Oa { vars:=Ja,lens:=Dq } Tc 0 (lF KeM (.i 4):List AV).length (lF KeM (.i 4)) KD 3
def amP:abe Tc Mu:=⟨by unfold Mu;rfl,by decide +kernel,by decide +kernel⟩
abbrev agQ (c:Code) (r:Option (RT Out)):Prop:=uG { vars:=KY,facts:=Kcw,lens:=Wp } c (Fq KdM (.q 8 0) (.v 1) (.v 8)) KH [some 0,some 1,some 2] (NZ KdM (.q 8 0) (.v 1) (.v 8) (.q 1 1) (.v 0) (.i 0)) KH r
noncomputable def af4:Option (RT Out):=yZ { vars:=KY,facts:=Kcw,lens:=Wp } (bB Mu) (Fq KdM (.q 8 0) (.v 1) (.v 8):List AV).length (Fq KdM (.q 8 0) (.v 1) (.v 8)) KH 3
def aob:agQ (bB Mu) af4:=⟨by unfold af4;rfl,by decide +kernel,by decide +kernel⟩
abbrev abd (c:Code):Prop:=eA { vars:=[(1,5),(0,4),(0,40),B9,B9,B9,B9,(0,20),(0,3),(0,4)],facts:=[([([1],1),([8],-1)],1,4),([([0],1),([9],-1)],1,5)],lens:=Wp,bQ:=[(69,[Keg,.v 8,.v 9],(.agg [.o 4,.o 5,.o 3]))] } c (NZ KdM (.q 8 0) (.v 1) (.v 8) (.q 1 1) (.v 0) (.v 9)) KH 0 [some 0,some 1,some 4] (NZ (.dD 3 1 2 [([],1),([7],1)]) (.q 8 0) (.v 1) (.v 8) (.q 1 1) (.v 0) (.e KeX)) [Yd,QD,(.sc 3 1 7 [] [[.o 3]] [([],1),([7],1)])]
abbrev abb (c:Code):Prop:=eA { vars:=KY,facts:=Kcw,lens:=Wp } c (NZ KdM (.q 8 0) (.v 1) (.v 8) (.q 1 1) (.v 0) (.v 0)) KH 6 [some 0,some 1,some 2] (NZ KdM (.q 8 0) (.v 1) (.v 8) (.q 1 1) (.v 0) (.v 0)) KH
abbrev abc (o:Option (RT Out)):Prop:=NT { vars:=KY,facts:=Kcw,lens:=Wp } o 4 (NZ KdM (.q 8 0) (.v 1) (.v 8) (.q 1 1) (.v 0) (.v 0)) KH 0 [some 0,some 1,some 2] (Fq KdM (.q 8 0) (.v 1) (.e [([],1),([8],1)])) KH
abbrev agP (c:Code):Prop:=eA { vars:=[(1,5),(0,4),(0,40),B9,B9,B9,B9,(0,20)],lens:=Wp } c (Fq KdM (.q 8 0) (.v 1) (.v 1)) KH 4 [some 0,some 1,some 2] (Fq KdM (.q 8 0) (.v 1) (.v 1)) KH
abbrev alT (o:Option (RT Out)):Prop:=kH { vars:=[(1,5),(0,4),(0,40),B9,B9,B9,B9,(0,20),jB,jB,jB],lens:=Wp,bQ:=[(72,[.q 1 7],(.bE [.v 8,.i 0])),(73,[.q 6 6,(.c (.func (.func 74) #[] #[]))],(.bE [.v 9,.i 0])),(72,[(.lit 1 [[(.e [([3],-1)])],[(.e [([4],-1)])],[Ke1],[Ke5],[(.e [([8],-1)])],[(.e [([9],-1)])]])],(.bE [.v 10,.i 0])),(77,[(.lit 2 [KdK,KdL,Kdz,[.i 16,Ke5],[.i 0,(.e [([8],-1)])],[.i 12,(.e [([9],-1)])],[.i 5,(.e [([10],-1)])]])],Keo)] } Tryz.f35 o 2 (Fq KdM (.q 8 0) (.v 1) (.v 1)) KH (Keo)
end GL
namespace GL
section
variable {S:bF} {A:Nat->Prop} {w0:World} {a0:Act} {b0 b1 b2 b3:Int}
abbrev Bd (b:Int):Prop:=-140737488355328<=b/\b<=140737488355328
def four {c:Option (RT Out)} (r0:alZ (bB o)) (r1:alY (bB o)) (r2:alX (bB o)) (k:alW (bB o)) (h:alU (bB o)) (d:abe o c) (G:Gn S) (p:1<=S.weights.length) (v:Bd b0) (h1:Bd b1) (u:Bd b2) (t:Bd b3)
  (g:Ck 36 [S.av,.i 14] (.bE [.i b0,.i 0])) (f:Ck 36 [S.av,.i 13] (.bE [.i b1,.i 0])) (Ox:Ck 36 [S.av,.i 15] (.bE [.i b2,.i 0])) (e:Ck 36 [S.av,.i 16] (.bE [.i b3,.i 0]))
  (l:∀mm w a,@fD dY dZ A w0 a0 mm w a (fE S 0 0) (fH (lB2 S b0 b1 b2 b3 []))->(Code.loop (bB c)).wpIn (fw none) 9 Tryz.prog (KS Tryz.prog (oK c) Φ) a w)
  (mm:Nat->St) (w:World) (a:Act) (b:@fD dY dZ A w0 a0 mm w a (lF KeL (.i 0)) (fH (lB S []))):(Code.loop (bB o)).wpIn (fw none) 9 Tryz.prog (KS Tryz.prog (oK o) Φ) a w:=by
 have s:=G.hw;have r:=G.hn;have q:=G.Fo;refine dQ (fun n a w=>∃(j:Nat) (L:List (List AV)),n=4-j/\(j=0/\L=[]\/j=1/\L=(l4 b0 b1 b2 b3).take 1\/j=2/\L=(l4 b0 b1 b2 b3).take 2\/j=3/\L=(l4 b0 b1 b2 b3).take 3\/j=4/\L=l4 b0 b1 b2 b3)/\∃mm,@fD dY dZ A w0 a0 mm w a (lF (.own 44 2 2 0 j) (.i (j:Int))) (fH (lB S L))) ?_ (n:=4) ⟨0,_,rfl,.inl ⟨rfl,rfl⟩,_,b⟩;rintro n a w ⟨j,L,rfl,m,mm,b⟩;rcases m with⟨rfl,rfl⟩|⟨rfl,rfl⟩|⟨rfl,rfl⟩|⟨rfl,rfl⟩|⟨rfl,rfl⟩
 .refine r0.go (ev1 _ [(S.weights.length:Int),(S.aH.length:Int),(S.aG.length:Int),b0,b1,b2,b3] (vT S []) (sT S []) .nil) (xK (kc g kn)) b (fd:=lF (.own 44 2 2 0 1) (.i 1)) (bd:=lB S [[.i 14,.i (-b0)]]) ?_
  exact fun mm w a b=>⟨_,by omega,1,_,rfl,.inr (.inl ⟨rfl,rfl⟩),mm,b⟩
 .refine r1.go (ev1 _ [(S.weights.length:Int),(S.aH.length:Int),(S.aG.length:Int),b0,b1,b2,b3] (vT S []) (sT S []) .nil) (xK (kc f kn)) b (fd:=lF (.own 44 2 2 0 2) (.i 2)) (bd:=lB S [[.i 14,.i (-b0)],[.i 13,.i (-b1)]]) ?_
  exact fun mm w a b=>⟨_,by omega,2,_,rfl,.inr (.inr (.inl ⟨rfl,rfl⟩)),mm,b⟩
 .refine r2.go (ev1 _ [(S.weights.length:Int),(S.aH.length:Int),(S.aG.length:Int),b0,b1,b2,b3] (vT S []) (sT S []) .nil) (xK (kc Ox kn)) b (fd:=lF (.own 44 2 2 0 3) (.i 3)) (bd:=lB S [[.i 14,.i (-b0)],[.i 13,.i (-b1)],[.i 15,.i (-b2)]]) ?_
  exact fun mm w a b=>⟨_,by omega,3,_,rfl,.inr (.inr (.inr (.inl ⟨rfl,rfl⟩))),mm,b⟩
 .refine k.go (ev1 _ [(S.weights.length:Int),(S.aH.length:Int),(S.aG.length:Int),b0,b1,b2,b3] (vT S []) (sT S []) .nil) (xK (kc e kn)) b (fd:=lF KeM (.i 4)) (bd:=lB S (l4 b0 b1 b2 b3)) ?_
  exact fun mm w a b=>⟨_,by omega,4,_,rfl,.inr (.inr (.inr (.inr ⟨rfl,rfl⟩))),mm,b⟩
 .refine h.go (ev1 _ [(S.weights.length:Int),(S.aH.length:Int),(S.aG.length:Int),b0,b1,b2,b3] (vT S []) (sT S []) .nil) (xK kn) b ?_
  intro mm w a b;exact d.go (ev1 _ [(S.weights.length:Int),(S.aH.length:Int),(S.aG.length:Int),b0,b1,b2,b3] (vT S []) (sT S []) .nil) (xK kn) b (fd:=fE S 0 0) (bd:=lB2 S b0 b1 b2 b3 []) l
def items (r:abd (bB o)) (l:abb (bB o)) (m:abc o) (G:Gn S) (u:1<=S.weights.length) (M:Bd b0) (h1:Bd b1) (L:Bd b2) (K:Bd b3) {j:Nat} (H:j<S.aH.length) {p0:List Int} {d:Nat} (z:p0.length=d) (E:d+S.weights.length<=20)
  (f:∀mm w a,@fD dY dZ A w0 a0 mm w a (fE S (d+S.weights.length) (j+1)) (fH (lB2 S b0 b1 b2 b3 (aA (p0++ppR S (j:Int) S.weights.length))))->Φ (AX.normal).to a w)
  (mm:Nat->St) (w:World) (a:Act) (b:@fD dY dZ A w0 a0 mm w a (fI S d j 0) (fH (lB2 S b0 b1 b2 b3 (aA p0)))):(Code.loop (bB o)).wpIn (fw none) 9 Tryz.prog (KS Tryz.prog (oK o) Φ) a w:=by
 have F:=G.hw;have B:=G.hn;have y:=G.Fo;refine dQ (fun n a w=>∃(i k:Nat) (ps:List Int),n=S.weights.length-i/\i<=S.weights.length/\ps=p0++ppR S (j:Int) i/\k=d+i/\∃mm,@fD dY dZ A w0 a0 mm w a (fI S k j i) (fH (lB2 S b0 b1 b2 b3 (aA ps)))) ?_ (n:=S.weights.length) ⟨0,d,p0,rfl,a0n _,by simp[ppR],rfl,_,b⟩;rintro n a w ⟨i,k,ps,rfl,J,c,t,mm,b⟩;have D:ps.length=k:=by rw[c,a1o,acV];omega
 rcases(by omega:i=S.weights.length\/i<S.weights.length)with g|C
 .subst g
  rw[<-c,<-t]at f;clear c;refine l.go (ev1 _ [(S.weights.length:Int),(S.aH.length:Int),(S.aG.length:Int),b0,b1,b2,b3,(k:Int),(j:Int)] (vT S []) (sT S [aA ps]) .nil) (xK kn) b ?_;intro mm w a b;refine m.go (ev1 _ [(S.weights.length:Int),(S.aH.length:Int),(S.aG.length:Int),b0,b1,b2,b3,(k:Int),(j:Int)] (vT S []) (sT S [aA ps]) .nil) (xK kn) b (fd:=Fq (.own 3 1 2 0 k) (.lit 8 (aX S.aH)) (.i (S.aH.length:Int)) (.i (1+(j:Int)))) (bd:=lB2 S b0 b1 b2 b3 (aA ps)) ?_;intro mm w a b;rw[show(1+(j:Int))=((j+1:Nat):Int)by omega]at b;exact f mm w a b
 .clear f
  have h:=XL G.toStOk (e:=(j:Int)) (item:=(i:Int)) ⟨by omega,by omega,by omega,by omega⟩;have hs:=agp S (j:Int) i;obtain⟨⟨q,v,p⟩,s⟩:∃x,x=(bV S (j:Int) (i:Int)).1:=⟨_,rfl⟩;rw[<-s]at h hs;refine r.go (ev1 _ [(S.weights.length:Int),(S.aH.length:Int),(S.aG.length:Int),b0,b1,b2,b3,(k:Int),(j:Int),(i:Int)] (vT S [.I p,.I q,.I v]) (sT S [aA ps]) .nil) (xK (kc h kn)) b (fd:=NZ (.own 3 1 2 0 (1+(k:Int)).toNat) (.lit 8 (aX S.aH)) (.i (S.aH.length:Int)) (.i (j:Int)) (.lit 1 (aA S.weights)) (.i (S.weights.length:Int)) (.i (1+(i:Int)))) (bd:=lB2 S b0 b1 b2 b3 (aA ps++[[.i p]])) ?_;intro mm w a b;rw[show(1+(i:Int))=((i+1:Nat):Int)by omega,show(1+(k:Int))=((k+1:Nat):Int)by omega,a00,lO]at b;exact⟨_,by omega,i+1,k+1,_,rfl,by omega,by rw[hs,c,a3e],by omega,mm,b⟩
def fin (d:alT o) (G:Gn S) (l:1<=S.weights.length) (y:Bd b0) (h1:Bd b1) (x:Bd b2) (v:Bd b3) {ps:List Int} (p:ps.length=k) (t:k<=20) {b sD c:Int} (u:Bd b) (q:Bd sD) (s:c=-b0+(-b1+(-b2+(-b3+(-b+-sD))))) {ml:List cU}
  (j:Ck 72 [.lit 1 (aA ps)] (.bE [.i b,.i 0])) (f:Ck 73 [.lit 6 (eO S.aG),GF.cFn] (.bE [.i sD,.i 0])) (g:Ck 72 [.lit 1 (aA [-b0,-b1,-b2,-b3,-b,-sD])] (.bE [.i c,.i 0]))
  (h:Ck 77 [.lit 2 (bU [⟨14,-b0⟩,⟨13,-b1⟩,⟨15,-b2⟩,⟨16,-b3⟩,⟨0,-b⟩,⟨12,-sD⟩,⟨5,-c⟩])] (.bE [.lit 2 (bU ml),.i 0]))
  (mm:Nat->St) (w:World) (a:Act) (e:@fD dY dZ A w0 a0 mm w a (fE S k S.aH.length) (fH (lB2 S b0 b1 b2 b3 (aA ps)))):KS Tryz.prog (oK o) (Fin Tryz.prog Tryz.f35 A w0 a0 (.bE [.lit 2 (bU ml),.i 0])) (AX.exit 2).to a w:=by
 have r:=G.hw;have n:=G.hn;have m:=G.Fo;exact d.go (ev1 _ [(S.weights.length:Int),(S.aH.length:Int),(S.aG.length:Int),b0,b1,b2,b3,(k:Int),b,sD,c] (vT S []) (sT S [aA ps,bU ml]) .nil) (xK (kc j (kc f (kc g (kc h kn))))) e
def aH {oI:Option (RT Out)} (r:agQ (bB o) oI) (q:abd (bB oI)) (l:abb (bB oI)) (m:abc oI) (p:agP (bB o)) (G:Gn S) (f:1<=S.weights.length) (v:Bd b0) (h1:Bd b1) (u:Bd b2) (t:Bd b3)
  (e:∀mm w a,@fD dY dZ A w0 a0 mm w a (fE S (S.aH.length*S.weights.length) S.aH.length) (fH (lB2 S b0 b1 b2 b3 (aA (Sy S S.aH.length))))->KS Tryz.prog (oK o) Φ (AX.exit 2).to a w)
  (mm:Nat->St) (w:World) (a:Act) (c:@fD dY dZ A w0 a0 mm w a (fE S 0 0) (fH (lB2 S b0 b1 b2 b3 []))):(Code.loop (bB o)).wpIn (fw none) 9 Tryz.prog (KS Tryz.prog (oK o) Φ) a w:=by
 have B:=G.hw;have y:=G.hn;have x:=G.Fo;refine dQ (fun n a w=>∃(j k:Nat) (ps:List Int),n=S.aH.length-j/\j<=S.aH.length/\ps=Sy S j/\k=j*S.weights.length/\∃mm,@fD dY dZ A w0 a0 mm w a (fE S k j) (fH (lB2 S b0 b1 b2 b3 (aA ps)))) ?_ (n:=S.aH.length) ⟨0,0,[],rfl,a0n _,rfl,by simp,_,c⟩;rintro n a w ⟨j,k,ps,rfl,C,b,d,mm,c⟩;have h:ps.length=k:=by rw[b,Ri,d]
 have s:k<=4*S.weights.length:=by rw[d];exact a1q _ (by omega)
 rcases(by omega:j=S.aH.length\/j<S.aH.length)with i|g
 .subst i
  rw[<-b,<-d]at e;clear b d;refine p.go (ev1 _ [(S.weights.length:Int),(S.aH.length:Int),(S.aG.length:Int),b0,b1,b2,b3,(k:Int)] (vT S []) (sT S [aA ps]) .nil) (xK kn) c ?_;exact e
 .clear e
  have z:k<=3*S.weights.length:=by rw[d];exact a1q _ (by omega)
  have hs:=MJ S j;refine r.go (ev1 _ [(S.weights.length:Int),(S.aH.length:Int),(S.aG.length:Int),b0,b1,b2,b3,(k:Int),(j:Int)] (vT S []) (sT S [aA ps]) .nil) (xK kn) c (fd:=fI S k j 0) (bd:=lB2 S b0 b1 b2 b3 (aA ps)) ?_;refine items q l m G f v h1 u t g h (by omega) ?_;intro mm w a c;exact⟨_,by omega,j+1,k+S.weights.length,_,rfl,by omega,by rw[hs,b],by rw[d,a2h],mm,c⟩
end
def walk (oA e oI:Option (RT Out)) (y:alV body oA) (r0:alZ (bB oA)) (r1:alY (bB oA)) (r2:alX (bB oA)) (z:alW (bB oA)) (u:alU (bB oA)) (l:abe oA e) (x:agQ (bB e) oI) (v:abd (bB oI)) (s:abb (bB oI)) (t:abc oI) (k:agP (bB e)) (r:alT e)
  (G:Gn S) (f:1<=S.weights.length) {b0 b1 b2 b3 b sD d:Int} (j:Bd b0) (h1:Bd b1) (h:Bd b2) (g:Bd b3) (D:Bd b) (B:Bd sD) (C:d=-b0+(-b1+(-b2+(-b3+(-b+-sD))))) {ml:List cU}
  (q:Ck 36 [S.av,.i 14] (.bE [.i b0,.i 0])) (p:Ck 36 [S.av,.i 13] (.bE [.i b1,.i 0])) (Ox:Ck 36 [S.av,.i 15] (.bE [.i b2,.i 0])) (o:Ck 36 [S.av,.i 16] (.bE [.i b3,.i 0]))
  (I:Ck 72 [.lit 1 (aA (Sy S S.aH.length))] (.bE [.i b,.i 0])) (E:Ck 73 [.lit 6 (eO S.aG),GF.cFn] (.bE [.i sD,.i 0])) (F:Ck 72 [.lit 1 (aA [-b0,-b1,-b2,-b3,-b,-sD])] (.bE [.i d,.i 0]))
  (H:Ck 77 [.lit 2 (bU [⟨14,-b0⟩,⟨13,-b1⟩,⟨15,-b2⟩,⟨16,-b3⟩,⟨0,-b⟩,⟨12,-sD⟩,⟨5,-d⟩])] (.bE [.lit 2 (bU ml),.i 0])) :
  Ck 35 [S.av] (.bE [.lit 2 (bU ml),.i 0]):=by
 have M:=G.hw;have K:=G.hn;have J:=G.Fo;have n:=Ri S S.aH.length;have L:S.aH.length*S.weights.length<=4*5:=Nat.mul_le_mul (by omega) (by omega);refine CK.hY Tryz.func35 (c:=body) (by kernel_rfl) (Cw.out) (yY.out) fun A w0 a0=>?_;intro mm w a m;rw[Tryz.ntmps35]at m;refine y.go (ev1 _ [(S.weights.length:Int),(S.aH.length:Int),(S.aG.length:Int),b0,b1,b2,b3] (vT S []) (sT S []) .nil) (xK kn) m (fd:=lF KeL (.i 0)) (bd:=lB S []) ?_;refine four r0 r1 r2 z u l G f j h1 h g q p Ox o ?_;exact aH x v s t k G f j h1 h g (fin r G f j h1 h g n (by omega) D B C I E F H)
end GL
def vZ (S:bF):List cU :=
 let b:=fun a=>(nG S a).sum;let h:=(Sy S S.aH.length).sum;let w:=(S.aG.map (·.bW)).sum
 [⟨14,-b 14⟩,⟨13,-b 13⟩,⟨15,-b 15⟩,⟨16,-b 16⟩,⟨0,-h⟩,⟨12,-w⟩,⟨5,-(-b 14+(-b 13+(-b 15+(-b 16+(-h+-w)))))⟩]
structure Fw (l:List Int):Prop where
 a:eU l<=140737488355328
def Fw.sum {l:List Int} (h:Fw l):dP l=l.sum/\eB l=0/\GL.Bd l.sum/\fM l:=by
 have:=h.a;obtain⟨e,d⟩:=afF (l:=l) (by omega)
 have go:∀l:List Int,-eU l<=l.sum/\l.sum<=eU l/\∀v∈l,-eU l<=v/\v<=eU l:=by
  intro l;induction l with
  |nil=>simp[eU]
  |cons x t c =>
   have f:=yK t;rw[fX,a0p];refine⟨by omega,by omega,?_⟩;intro v b;rcases a0d.1 b with rfl|b
   .omega
   .have:=c.2.2 v b;omega
 have g:=go l;exact⟨e,d,⟨by omega,by omega⟩,fun v b=>by have:=g.2.2 v b;exact⟨by omega,by omega⟩⟩
def Py (G:Gn S) (g:1<=S.weights.length) (F:S.aH.length=2\/S.aH.length=3) (K:∀a,0<=a/\a<=16->Fw (nG S a)) (J:Fw (Sy S S.aH.length)) (I:Fw (S.aG.map (·.bW))) :
  Small (vZ S)/\Ck 35 [S.av] (.bE [.lit 2 (bU (dO (vZ S))),.i 0]):=by
 have cN:∀a,0<=a/\a<=16->Ck 36 [S.av,.i a] (.bE [.i (nG S a).sum,.i 0])/\GL.Bd (nG S a).sum:=fun a k=>by
  obtain⟨E,D,C,-⟩:=(K a k).sum;have:=adL G F k D;rw[E]at this;exact⟨this,C⟩
 obtain⟨T,O⟩:=cN 14 (by omega);obtain⟨R,N⟩:=cN 13 (by omega);obtain⟨Q,M⟩:=cN 15 (by omega);obtain⟨P,L⟩:=cN 16 (by omega);obtain⟨B,A,z,w⟩:=J.sum;obtain⟨u,t,s,q⟩:=I.sum;have n:=qT _ w;have l:=anF G.Fo q;rw[B,A]at n;rw[u,t]at l;unfold vZ;simp only;generalize (nG S 14).sum=b0 at *;generalize (nG S 13).sum=b1 at *;generalize (nG S 15).sum=b2 at *;generalize (nG S 16).sum=b3 at *;generalize (Sy S S.aH.length).sum=h at *;generalize (S.aG.map (·.bW)).sum=y at *;have U:Fw [-b0,-b1,-b2,-b3,-h,-y]\/True:=.inr trivial;have az:eU [-b0,-b1,-b2,-b3,-h,-y]<=288230376151711744:=by simp only[fX];simp only[eU,a1x,a2e];omega
 obtain⟨p,o⟩:=afF az;have H:fM [-b0,-b1,-b2,-b3,-h,-y]:=by
  intro v c;simp only[a0d,a0b,or_false]at c;rcases c with rfl|rfl|rfl|rfl|rfl|rfl<;>exact⟨by omega,by omega⟩
 have d:=qT _ H;rw[p,o]at d;simp only[a0p,a2e,a1i]at d;obtain⟨b,j⟩:∃r,r=-b0+(-b1+(-b2+(-b3+(-h+-y)))):=⟨_,rfl⟩
 rw[<-j]at d |-;have e:Small [⟨14,-b0⟩,⟨13,-b1⟩,⟨15,-b2⟩,⟨16,-b3⟩,⟨0,-h⟩,⟨12,-y⟩,⟨5,-b⟩]:=by
  refine⟨?_,by simp⟩;intro x f;simp only[a0d,a0b,or_false]at f;rcases f with rfl|rfl|rfl|rfl|rfl|rfl|rfl<;>(refine⟨by simp,by simp,?_,?_⟩<;>simp only<;>omega)
 have m:=aiK [⟨14,-b0⟩,⟨13,-b1⟩,⟨15,-b2⟩,⟨16,-b3⟩,⟨0,-h⟩,⟨12,-y⟩,⟨5,-b⟩] (by
  intro v c;simp only[dV,a3i,List.flatMap_nil,a1r,a0m,a0d,a0b,or_false]at c;rcases c with(h|h)|(h|h)|(h|h)|(h|h)|(h|h)|(h|h)|(h|h)<;>(subst h;exact⟨by omega,by omega⟩)) (by simp)
 rw[IT e]at m;exact⟨e,GL.walk GL.Tc GL.Mu GL.af4 GL.aoc .of .of .of .of .of GL.amP GL.aob .of .of .of .of .of G g O N M L z s j T R Q P n l d m⟩
end
section
open Mc
variable {o:Option (RT Out)} {its:List qV} {Φ:kI}
namespace GC
abbrev tG:Nat:=38
abbrev cF (n i:AV):List AV:=fr 110 [(1,.ptr 10 0 0 0),(2,.ptr 4 1 0 0),(3,.i 0),(4,.i 0),(5,.ptr 4 2 0 0),(34,.q 1 1),(35,n),(36,i)]
abbrev cC (S:bF) (i:AV):List AV:=fr 110 [(1,.ptr 10 0 0 0),(2,.ptr 4 1 0 0),(3,.i 0),(4,.i 0),(5,.ptr 4 2 0 0),(34,.lit 1 (aA S.weights)),(35,.i (S.weights.length:Int)),(36,i)]
abbrev XP (l i:AV):List AV:=fr 110 [(1,.ptr 10 0 0 0),(2,.ptr 4 1 0 0),(3,.i 0),(4,.i 0),(5,.ptr 4 2 0 0),(9,l),(67,i)]
abbrev SD (l i n k j:AV):List AV:=fr 110 [(1,.ptr 10 0 0 0),(2,.ptr 4 1 0 0),(3,.i 0),(4,.i 0),(5,.ptr 4 2 0 0),(9,l),(11,i),(12,n),(13,.i 0),(67,i),(80,l),(81,k),(82,j)]
abbrev zG:Mc.dI:=.cells tG 4 [Kec]
abbrev cB (S:bF) (now:Int) (k:Nat) (I:List (List AV)):List Mc.dI:=[GO.sR S,zG,.cells tG 4 [[.i now,.own 46 4 3 0 k,.emp,.emp]],.cells 46 4 I]
abbrev Ox (S:bF) (now:Int) (ml:List cU) (I:List qV) (k:Nat) (b:List (List AV)):List Mc.dI:=[GO.sR S,zG,.cells tG 4 [[.i now,.own 46 4 3 0 S.weights.length,.lit 2 (bU ml),.own 3 1 4 0 k]],.cells 46 4 (gG I),.cells 3 1 b]
noncomputable def body:Code:=(Tryz.f12).body.getD .skip
abbrev al5 (c:Code) (r:Option (RT Out)):Prop:=uG { vars:=[(1,5),(1,4)],lens:=[Kfd,Kfl],iG:=[(0,[],Wn)],bQ:=Kaa } c (KdT++List.replicate 109 .undef) [] [some 0,some 1,some 2,none] (cF (.v 0) (.i 0)) [Yd,BO,(.cells 38 4 [[.o 3,(.own 46 4 3 0 0),.emp,.emp]]),(.cells 46 4 [])] r
noncomputable def Td:Option (RT Out):=yZ { vars:=[(1,5),(1,4)],lens:=[Kfd,Kfl],iG:=[(0,[],Wn)],bQ:=Kaa } body (KdT++List.replicate 109 .undef:List AV).length (KdT++List.replicate 109 .undef) [] 0
def aof:al5 body Td:=⟨by unfold Td;rfl,by decide +kernel,by decide +kernel⟩
abbrev al4 (c:Code):Prop:=eA { vars:=[(1,5),(1,4),(0,4)],facts:=[([([0],1),([2],-1)],1,5)],lens:=[Kfd,Kfl,(7,[([2],1)])],bQ:=[(34,[Keg,.v 2],(.bE [(.agg [.o 4,.o 5,.o 6,.o 7]),.i 0]))] } c (cF (.v 0) (.v 2)) [Yd,BO,(.cells 38 4 [[.o 3,(.dD 46 4 3 [([2],1)]),.emp,.emp]]),(.sc 46 4 7 [] [] [([2],1)])] 0 [some 0,some 1,some 2,some 6] (cF (.v 0) KdV) [Yd,BO,(.cells 38 4 [[.o 3,(.dD 46 4 3 KeQ),.emp,.emp]]),(.sc 46 4 7 [] [[.o 4,.o 5,.o 6,.o 7]] KeQ)]
abbrev al3 (c:Code):Prop:=eA { vars:=[(1,5),(1,4)],lens:=[Kfd,Kfl,Kfi] } c (cF (.v 0) (.v 0)) KP 2 [some 0,some 1,some 2,some 3] (cF (.v 0) (.v 0)) KP
abbrev Rr (o:Option (RT Out)) (r:Option (RT Out)):Prop:=wZ { vars:=Kep,lens:=Wq,bQ:=HX } o 0 (cF (.v 0) (.v 0)) KP [some 0,some 1,some 2,some 3,none] (XP (.q 2 8) (.i 0)) [Yd,BO,(.cells 38 4 [[.o 3,Kdh,.q 2 8,(.own 3 1 4 0 0)]]),Kb7,KeZ] r
noncomputable def Mv:Option (RT Out):=Oa { vars:=Kep,lens:=Wq,bQ:=HX } Td 0 (cF (.v 0) (.v 0):List AV).length (cF (.v 0) (.v 0)) KP 4
def amQ:Rr Td Mv:=⟨by unfold Mv;rfl,by decide +kernel,by decide +kernel⟩
abbrev agT (c:Code) (r:Option (RT Out)):Prop:=uG { vars:=KbC,lens:=Vc,bQ:=Hh } c (XP (.q 2 8) (.v 3)) Kx [some 0,some 1,some 2,some 3,some 4] (SD (.q 2 8) (.v 3) (.v 4) (.v 2) (.i 0)) Kx r
noncomputable def af5:Option (RT Out):=yZ { vars:=KbC,lens:=Vc,bQ:=Hh } (bB Mv) (XP (.q 2 8) (.v 3):List AV).length (XP (.q 2 8) (.v 3)) Kx 5
def aoe:agT (bB Mv) af5:=⟨by unfold af5;rfl,by decide +kernel,by decide +kernel⟩
abbrev abf (c:Code):Prop:=eA { vars:=[(1,5),(1,4),(0,12),(0,16),jB,(0,11),(0,16),jB],facts:=[KcT,([([3],-1),([6],1)],0,0),([([4],1),([7],1)],-288230376151711744,288230376151711744)],lens:=Vc,iG:=[(8,[([5],1)],[.v 6,.v 7])] } c (SD (.q 2 8) (.v 3) (.v 4) (.v 2) (.v 5)) Kx 0 [some 0,some 1,some 2,some 3,some 4] (SD (.q 2 8) (.v 3) KdP (.v 2) Kd2) Kx
abbrev Rp (c:Code):Prop:=eA { vars:=GV,facts:=[KcT,([([3],-1),([6],1)],-99,-1)],lens:=Vc,iG:=[(8,[([5],1)],[.v 6,.o 4])] } c (SD (.q 2 8) (.v 3) (.v 4) (.v 2) (.v 5)) Kx 0 [some 0,some 1,some 2,some 3,some 4] (SD (.q 2 8) (.v 3) (.v 4) (.v 2) Kd2) Kx
abbrev Rq (c:Code):Prop:=eA { vars:=GV,facts:=[KcT,([([3],-1),([6],1)],1,99)],lens:=Vc,iG:=[(8,[([5],1)],[.v 6,.o 4])] } c (SD (.q 2 8) (.v 3) (.v 4) (.v 2) (.v 5)) Kx 0 [some 0,some 1,some 2,some 3,some 4] (SD (.q 2 8) (.v 3) (.v 4) (.v 2) Kd2) Kx
abbrev abg (c:Code):Prop:=eA { vars:=KbC,lens:=Vc } c (SD (.q 2 8) (.v 3) (.v 4) (.v 2) (.v 2)) Kx 6 [some 0,some 1,some 2,some 3,some 4] (SD (.q 2 8) (.v 3) (.v 4) (.v 2) (.v 2)) Kx
abbrev abh (o:Option (RT Out)):Prop:=NT { vars:=KbC,lens:=Vc } o 4 (SD (.q 2 8) (.v 3) (.v 4) (.v 2) (.v 2)) Kx 0 [some 0,some 1,some 2,some 3,some 6] (XP (.q 2 8) Kd5) [Yd,BO,(.cells 38 4 [[.o 3,Kdh,.q 2 8,(.dD 3 1 4 KeP)]]),Kb7,(.sc 3 1 9 [] [[.v 4]] KeP)]
abbrev agS (c:Code):Prop:=eA { vars:=Kep,lens:=Vd } c (XP (.q 2 8) (.i 17)) Ky 4 [some 0,some 1,some 2,some 3,some 4] (XP (.q 2 8) (.i 17)) Ky
abbrev al2 (o:Option (RT Out)):Prop:=kH { vars:=Kep,lens:=Vd } Tryz.f12 o 2 (XP (.q 2 8) (.i 17)) Ky ((.bE [(.agg [.o 3,.q 4 7,.q 2 8,.q 1 9]),.i 0]))
end GC
def AQ (S:bF) (i:Int):qV:=⟨(giQ S i).sum,(giV S i).sum,(giP S i).sum,(Nf S i).sum⟩
def wR (S:bF) (j:Nat):List qV:=(List.range j).map fun(i:Nat)=>AQ S (i:Int)
def kA (l:List qV):(gG l).length=l.length:=by simp[gG]
def aeN (S:bF) (j:Nat):wR S (j+1)=wR S j++[AQ S (j:Int)]:=by simp[wR,a1v]
def Fs (S:bF) (ml:List cU) (j:Nat):List Int:=(List.range j).map fun(a:Nat)=>(nG S (a:Int)).sum+gQ ml (a:Int)
def ahY (S:bF) (ml:List cU) (j:Nat):Fs S ml (j+1)=Fs S ml j++[(nG S (j:Int)).sum+gQ ml (j:Int)]:=by simp[Fs,a1v]
def ad6 (l:List cU) (x:cU) (a:Int):gQ (l++[x]) a=gQ l a+(if x.a=a then x.n else 0):=by
 induction l with
 |nil=>simp[lA];simp[gQ]
 |cons y t b=>rw[a2a,lA,lA,b];omega
def SK:∀(l:List cU),(∀x∈l,-18014398509481984<=x.n/\x.n<=18014398509481984)->∀a,-(18014398509481984*(l.length:Int))<=gQ l a/\gQ l a<=18014398509481984*(l.length:Int)
 |[],_,a=>by simp[gQ]
 |x::l,h,a=>by
  have c:=SK l (fun y b=>h y (a06 _ b)) a;have d:=h x a1b;rw[lA,a0v];split<;>omega
structure aco (ml:List cU):Prop where
 len:ml.length<=12
 ok:∀x∈ml,0<=x.a/\x.a<=16/\-18014398509481984<=x.n/\x.n<=18014398509481984
namespace GC
section
variable {S:bF} {A:Nat->Prop} {w0:World} {a0:Act} {now:Int} {ml:List cU}
def next {b:Option (RT Out)} (c:Rr o b) (G:Gn S) (m:S.aH.length=2\/S.aH.length=3) (g:1<=S.weights.length) (M:aco ml) (j:its.length=S.weights.length)
  (f:Ck 35 [S.av] (.bE [.lit 2 (bU ml),.i 0])) (e:∀mm w a,@fD dY dZ A w0 a0 mm w a (XP (.lit 2 (bU ml)) (.i 0)) (fH (Ox S now ml its 0 []))->(Code.loop (bB b)).wpIn (fw none) 9 Tryz.prog (KS Tryz.prog (oK b) Φ) a w)
  (mm:Nat->St) (w:World) (a:Act) (d:@fD dY dZ A w0 a0 mm w a (cC S (.i (S.weights.length:Int))) (fH (cB S now S.weights.length (gG its)))):KS Tryz.prog (oK o) Φ (AX.exit 0).to a w:=by
 have l:=G.hw;have h:=G.hn;have n:=M.len;have k:=kA its;exact c.go (ev1 _ [(S.weights.length:Int),(S.aH.length:Int),(ml.length:Int)] (vT S [.I now]) (sT S [gG its,bU ml]) .nil) (xK (kc f kn)) d (fd:=XP (.lit 2 (bU ml)) (.i 0)) (bd:=Ox S now ml its 0 []) e
def items {l:Option (RT Out)} (C:al4 (bB o)) (B:al3 (bB o)) (s:Rr o l) (G:Gn S) (E:S.aH.length=2\/S.aH.length=3) (t:1<=S.weights.length) (M:aco ml)
  (e:∀i:Int,0<=i/\i<S.weights.length->Ck 34 [S.av,.i i] (.bE [.agg [.i (AQ S i).q,.i (AQ S i).v,.i (AQ S i).p,.i (AQ S i).d],.i 0]))
  (z:Ck 35 [S.av] (.bE [.lit 2 (bU ml),.i 0]))
  (m:∀mm w a,@fD dY dZ A w0 a0 mm w a (XP (.lit 2 (bU ml)) (.i 0)) (fH (Ox S now ml (wR S S.weights.length) 0 []))->(Code.loop (bB l)).wpIn (fw none) 9 Tryz.prog (KS Tryz.prog (oK l) Φ) a w)
  (mm:Nat->St) (w:World) (a:Act) (b:@fD dY dZ A w0 a0 mm w a (cC S (.i 0)) (fH (cB S now 0 []))):(Code.loop (bB o)).wpIn (fw none) 9 Tryz.prog (KS Tryz.prog (oK o) Φ) a w:=by
 have K:=G.hw;have F:=G.hn;have N:=M.len;refine dQ (fun n a w=>∃(j:Nat) (its:List qV),n=S.weights.length-j/\j<=S.weights.length/\its=wR S j/\∃mm,@fD dY dZ A w0 a0 mm w a (cC S (.i (j:Int))) (fH (cB S now j (gG its)))) ?_ (n:=S.weights.length) ⟨0,[],rfl,a0n _,rfl,_,b⟩;rintro n a w ⟨j,its,rfl,L,c,mm,b⟩;have u:its.length=j:=by rw[c];simp[wR]
 have J:=kA its;rcases(by omega:j=S.weights.length\/j<S.weights.length)with y|H
 .subst y
  rw[<-c]at m;clear c e;refine B.go (ev1 _ [(S.weights.length:Int),(S.aH.length:Int)] (vT S [.I now]) (sT S [gG its]) .nil) (xK kn) b ?_;intro mm w a b;exact next s G E t M u z m mm w a b
 .clear m z
  have r:=e (j:Int) ⟨by omega,by omega⟩;have hs:=aeN S j;clear e;obtain⟨⟨k,h,g,f⟩,D⟩:∃x,x=AQ S (j:Int):=⟨_,rfl⟩;rw[<-D]at r hs;simp only at r;refine C.go (ev1 _ [(S.weights.length:Int),(S.aH.length:Int),(j:Int)] (vT S [.I now,.I k,.I h,.I g,.I f]) (sT S [gG its]) .nil) (xK (kc r kn)) b (fd:=cC S (.i (1+(j:Int)))) (bd:=cB S now (1+(j:Int)).toNat (gG its++[[.i k,.i h,.i g,.i f]])) ?_;intro mm w a b;rw[show(1+(j:Int))=((j+1:Nat):Int)by omega,a00,show gG its++[[.i k,.i h,.i g,.i f]]=gG (its++[⟨k,h,g,f⟩])by simp[gG,qV.row]]at b;exact⟨_,by omega,j+1,_,rfl,by omega,by rw[hs,c],mm,b⟩
def lines (z:abf (bB o)) (q:Rp (bB o)) (r:Rq (bB o)) (B:abg (bB o)) (C:abh o) (G:Gn S) (L:S.aH.length=2\/S.aH.length=3) (D:1<=S.weights.length) (M:aco ml) (F:its.length=S.weights.length) {i:Nat} (O:i<17) {bs:List Int} (P:bs.length=i) {b:Int} (J:GL.Bd b)
  (l:∀mm w a,@fD dY dZ A w0 a0 mm w a (XP (.lit 2 (bU ml)) (.i ((i+1:Nat):Int))) (fH (Ox S now ml its (i+1) (aA (bs++[b+gQ ml (i:Int)]))))->Φ (AX.normal).to a w)
  (mm:Nat->St) (w:World) (a:Act) (c:@fD dY dZ A w0 a0 mm w a (SD (.lit 2 (bU ml)) (.i (i:Int)) (.i b) (.i (ml.length:Int)) (.i 0)) (fH (Ox S now ml its i (aA bs)))):(Code.loop (bB o)).wpIn (fw none) 9 Tryz.prog (KS Tryz.prog (oK o) Φ) a w:=by
 have K:=G.hw;have E:=G.hn;have U:=M.len;have H:=kA its;refine dQ (fun m a w=>∃(j:Nat) (n:Int),m=ml.length-j/\j<=ml.length/\n=b+gQ (ml.take j) (i:Int)/\∃mm,@fD dY dZ A w0 a0 mm w a (SD (.lit 2 (bU ml)) (.i (i:Int)) (.i n) (.i (ml.length:Int)) (.i (j:Int))) (fH (Ox S now ml its i (aA bs)))) ?_ (n:=ml.length) ⟨0,b,rfl,a0n _,by simp[gQ],_,c⟩;rintro m a w ⟨j,n,rfl,N,e,mm,c⟩;have k:=SK (ml.take j) (fun x h=>(M.ok x (a2m h)).2.2) (i:Int);have p:((ml.take j).length:Int)<=12:=by rw[a17];omega
 rcases(by omega:j=ml.length\/j<ml.length)with y|v
 .subst y
  rw[a1g]at e;rw[<-e]at l;rw[a1g]at k;have t:-288230376151711744<=n/\n<=288230376151711744:=by omega
  clear e k p;refine B.go (ev1 _ [(S.weights.length:Int),(S.aH.length:Int),(ml.length:Int),(i:Int),n] (vT S [.I now]) (sT S [gG its,bU ml,aA bs]) .nil) (xK kn) c ?_;intro mm w a c;refine C.go (ev1 _ [(S.weights.length:Int),(S.aH.length:Int),(ml.length:Int),(i:Int),n] (vT S [.I now]) (sT S [gG its,bU ml,aA bs]) .nil) (xK kn) c (fd:=XP (.lit 2 (bU ml)) (.i (1+(i:Int)))) (bd:=Ox S now ml its (1+(i:Int)).toNat (aA bs++[[.i n]])) ?_;intro mm w a c;rw[show(1+(i:Int))=((i+1:Nat):Int)by omega,a00,lO]at c;exact l mm w a c
 .clear l
  obtain⟨x,g⟩:∃x,ml[j]?=some x:=⟨_,a0f v⟩;have h:ml[(j:Int).toNat]?=some x:=by simpa using g
  obtain⟨T,a2,R,Q⟩:=M.ok x (a0a g);have hs:gQ (ml.take (j+1)) (i:Int)=gQ (ml.take j) (i:Int)+(if x.a=(i:Int)then x.n else 0):=by rw[a0u,g];exact ad6 _ _ _
  have t:-270215977642229760<=n/\n<=270215977642229760:=by omega
  have nx:∀n',n'=b+gQ (ml.take (j+1)) (i:Int)->∀mm w a,@fD dY dZ A w0 a0 mm w a (SD (.lit 2 (bU ml)) (.i (i:Int)) (.i n') (.i (ml.length:Int)) (.i (1+(j:Int)))) (fH (Ox S now ml its i (aA bs)))->∃s,s<ml.length-j/\∃(j:Nat) (n:Int),s=ml.length-j/\j<=ml.length/\n=b+gQ (ml.take j) (i:Int)/\∃mm,@fD dY dZ A w0 a0 mm w a (SD (.lit 2 (bU ml)) (.i (i:Int)) (.i n) (.i (ml.length:Int)) (.i (j:Int))) (fH (Ox S now ml its i (aA bs))):=by
   intro n' u mm w a c;rw[show(1+(j:Int))=((j+1:Nat):Int)by omega]at c;exact⟨_,by omega,j+1,n',rfl,by omega,u,mm,c⟩
  clear k p;rcases(by omega:x.a=(i:Int)\/x.a<(i:Int)\/(i:Int)<x.a)with f|f|f
  .rw[if_pos f]at hs
   have nx:=nx (n+x.n) (by rw[hs];omega);clear hs e;exact z.go (ev1 _ [(S.weights.length:Int),(S.aH.length:Int),(ml.length:Int),(i:Int),n,(j:Int),x.a,x.n] (vT S [.I now]) (sT S [gG its,bU ml,aA bs]) (.d (aL h) .nil)) (xK kn) c (fd:=SD (.lit 2 (bU ml)) (.i (i:Int)) (.i (n+x.n)) (.i (ml.length:Int)) (.i (1+(j:Int)))) (bd:=Ox S now ml its i (aA bs)) nx
  all_goals
   rw[if_neg (by omega),a1i]at hs;have nx:=nx n (by rw[hs];omega);clear hs e
  .exact q.go (ev1 _ [(S.weights.length:Int),(S.aH.length:Int),(ml.length:Int),(i:Int),n,(j:Int),x.a] (vT S [.I now,.I x.n]) (sT S [gG its,bU ml,aA bs]) (.d (aL h) .nil)) (xK kn) c (fd:=SD (.lit 2 (bU ml)) (.i (i:Int)) (.i n) (.i (ml.length:Int)) (.i (1+(j:Int)))) (bd:=Ox S now ml its i (aA bs)) nx
  .exact r.go (ev1 _ [(S.weights.length:Int),(S.aH.length:Int),(ml.length:Int),(i:Int),n,(j:Int),x.a] (vT S [.I now,.I x.n]) (sT S [gG its,bU ml,aA bs]) (.d (aL h) .nil)) (xK kn) c (fd:=SD (.lit 2 (bU ml)) (.i (i:Int)) (.i n) (.i (ml.length:Int)) (.i (1+(j:Int)))) (bd:=Ox S now ml its i (aA bs)) nx
def fin (b:al2 o) (G:Gn S) (j:S.aH.length=2\/S.aH.length=3) (d:1<=S.weights.length) (M:aco ml) (f:its.length=S.weights.length) {bs:List Int} (k:bs.length=17)
  (mm:Nat->St) (w:World) (a:Act) (c:@fD dY dZ A w0 a0 mm w a (XP (.lit 2 (bU ml)) (.i 17)) (fH (Ox S now ml its 17 (aA bs)))):KS Tryz.prog (oK o) (Fin Tryz.prog Tryz.f12 A w0 a0 (.bE [.agg [.i now,.lit 4 (gG its),.lit 2 (bU ml),.lit 1 (aA bs)],.i 0])) (AX.exit 2).to a w:=by
 have h:=G.hw;have e:=G.hn;have l:=M.len;have g:=kA its;exact b.go (ev1 _ [(S.weights.length:Int),(S.aH.length:Int),(ml.length:Int)] (vT S [.I now]) (sT S [gG its,bU ml,aA bs]) .nil) (xK kn) c
def aiW {oB:Option (RT Out)} (rB:agT (bB o) oB) (r:abf (bB oB)) (g:Rp (bB oB)) (h:Rq (bB oB)) (s:abg (bB oB)) (t:abh oB) (u:agS (bB o)) (G:Gn S) (v:S.aH.length=2\/S.aH.length=3) (j:1<=S.weights.length) (M:aco ml) (p:its.length=S.weights.length)
  (d:∀i:Int,0<=i/\i<=16->GL.Bd (nG S i).sum/\Ck 36 [S.av,.i i] (.bE [.i (nG S i).sum,.i 0]))
  (f:∀mm w a,@fD dY dZ A w0 a0 mm w a (XP (.lit 2 (bU ml)) (.i 17)) (fH (Ox S now ml its 17 (aA (Fs S ml 17))))->KS Tryz.prog (oK o) Φ (AX.exit 2).to a w)
  (mm:Nat->St) (w:World) (a:Act) (c:@fD dY dZ A w0 a0 mm w a (XP (.lit 2 (bU ml)) (.i 0)) (fH (Ox S now ml its 0 []))):(Code.loop (bB o)).wpIn (fw none) 9 Tryz.prog (KS Tryz.prog (oK o) Φ) a w:=by
 have B:=G.hw;have y:=G.hn;have D:=M.len;have z:=kA its;refine dQ (fun n a w=>∃(i:Nat) (bs:List Int),n=17-i/\i<=17/\bs=Fs S ml i/\∃mm,@fD dY dZ A w0 a0 mm w a (XP (.lit 2 (bU ml)) (.i (i:Int))) (fH (Ox S now ml its i (aA bs)))) ?_ (n:=17) ⟨0,[],rfl,a0n _,rfl,_,c⟩;rintro m a w ⟨i,bs,rfl,C,b,mm,c⟩;have x:bs.length=i:=by rw[b];simp[Fs]
 rcases(by omega:i=17\/i<17)with q|l
 .subst q
  rw[<-b]at f;clear b d;refine u.go (ev1 _ [(S.weights.length:Int),(S.aH.length:Int),(ml.length:Int)] (vT S [.I now]) (sT S [gG its,bU ml,aA bs]) .nil) (xK kn) c ?_;exact f
 .clear f
  obtain⟨e,cB⟩:=d (i:Int) ⟨by omega,by omega⟩;have hs:=ahY S ml i;clear d;obtain⟨n,k⟩:∃n,n=(nG S (i:Int)).sum:=⟨_,rfl⟩;rw[<-k]at e cB hs;refine rB.go (ev1 _ [(S.weights.length:Int),(S.aH.length:Int),(ml.length:Int),(i:Int),n] (vT S [.I now]) (sT S [gG its,bU ml,aA bs]) .nil) (xK (kc cB kn)) c (fd:=SD (.lit 2 (bU ml)) (.i (i:Int)) (.i n) (.i (ml.length:Int)) (.i 0)) (bd:=Ox S now ml its i (aA bs)) ?_;refine lines r g h s t G v j M p l x e ?_;intro mm w a c;exact⟨_,by omega,i+1,_,rfl,by omega,by rw[hs,b],mm,c⟩
end
def walk (oA b oB:Option (RT Out)) (E:al5 body oA) (D:al4 (bB oA)) (C:al3 (bB oA)) (m:Rr oA b) (rB:agT (bB b) oB) (u:abf (bB oB)) (j:Rp (bB oB)) (k:Rq (bB oB)) (z:abg (bB oB)) (B:abh oB) (l:agS (bB b)) (y:al2 b)
  {S:bF} (G:Gn S) (h:S.aH.length=2\/S.aH.length=3) (e:1<=S.weights.length) {ml:List cU} (M:aco ml) {x:dE} {now:Int} (o:S.aH[0]?=some x) (g:x.now=now)
  (H:Ck 33 [S.av] (.i 0)) (r:∀i:Int,0<=i/\i<S.weights.length->Ck 34 [S.av,.i i] (.bE [.agg [.i (AQ S i).q,.i (AQ S i).v,.i (AQ S i).p,.i (AQ S i).d],.i 0]))
  (J:Ck 35 [S.av] (.bE [.lit 2 (bU ml),.i 0])) (t:∀i:Int,0<=i/\i<=16->GL.Bd (nG S i).sum/\Ck 36 [S.av,.i i] (.bE [.i (nG S i).sum,.i 0])) :
  Ck 12 [S.av] (.bE [.agg [.i now,.lit 4 (gG (wR S S.weights.length)),.lit 2 (bU ml),.lit 1 (aA (Fs S ml 17))],.i 0]):=by
 have L:=G.hw;have K:=G.hn;have F:S.aH[0]?=some ⟨⟨now,x.closed,x.bK,x.cN,x.aJ,x.bD,x.down⟩,x.ahead⟩:=by rw[o,<-g]
 have f:(wR S S.weights.length).length=S.weights.length:=by simp[wR]
 have s:(Fs S ml 17).length=17:=by simp[Fs]
 refine CK.hY Tryz.func12 (c:=body) (by kernel_rfl) (Cw.out) (yY.out) fun A w0 a0=>?_;intro mm w a n;rw[Tryz.ntmps12]at n;refine E.go (ev1 _ [(S.weights.length:Int),(S.aH.length:Int)] (vT S [.I now,.bool x.closed]) (sT S [bS x.bK,aA x.cN,bN x.aJ,aA x.bD,aA x.down,bX x.ahead]) (.d (AZ F) .nil)) (xK (kc H kn)) n (fd:=cC S (.i 0)) (bd:=cB S now 0 []) ?_;refine items D C m G h e M r J ?_;exact aiW rB u j k z B l G h e M f t (fin y G h e M f s)
end GC
structure Sml (S:bF):Prop where
 q:∀i:Int,0<=i/\i<S.weights.length->Fw (giQ S i)/\Fw (giV S i)/\Fw (giP S i)/\Fw (Nf S i)
 b:∀a:Int,0<=a/\a<=16->Fw (nG S a)
 h:Fw (Sy S S.aH.length)
 y:Fw (S.aG.map (·.bW))
def amo {l:List cU} (h:Small l):aco (dO l):=by
 have g:(dO l).length<=l.length:=by
  have e:(dO l).length=((List.range 17).filter fun(a:Nat)=>decide (gQ l a≠0)).length:=by
   unfold dO;rw[a4z,a0w];congr 1;apply List.filter_congr;intro a _;simp[jU,Function.comp]
  rw[e];exact Ns l
 have c:=h.len;refine⟨by omega,fun x b=>?_⟩
 obtain⟨p0,p1,p2,f⟩:=tR h x b;have d:=Eb l h.ok x.a;exact⟨p0,by omega,by omega,by omega⟩
def Pz {S:bF} (G:Gn S) (c:S.aH.length=2\/S.aH.length=3) (d:1<=S.weights.length) (E:∀x∈S.aH,x.closed=true) (M:Sml S) (m:Ck 33 [S.av] (.i 0)) {x:dE} {now:Int} (l:S.aH[0]?=some x) (e:x.now=now) :
  Ck 12 [S.av] (.bE [.agg [.i now,.lit 4 (gG (wR S S.weights.length)),.lit 2 (bU (dO (vZ S))),.lit 1 (aA (Fs S (dO (vZ S)) 17))],.i 0]):=by
 obtain⟨f,v⟩:=Py G d c M.b M.h M.y;refine GC.walk GC.Td GC.Mv GC.af5 GC.aof .of .of GC.amQ GC.aoe .of .of .of .of .of .of .of G c d (amo f) l e m ?_ v ?_
 .intro i a
  obtain⟨r,p,o,n⟩:=M.q i a;obtain⟨D,a2,-,C⟩:=r.sum;obtain⟨b1,b2,-,B⟩:=p.sum;obtain⟨A,z,-,w⟩:=o.sum;obtain⟨u,t,-,s⟩:=n.sum;have:=anE G c a a2 b2 z t C B w s;rw[D,b1,A,u]at this;exact this
 .intro i a
  obtain⟨k,j,g,-⟩:=(M.b i a).sum;have:=adL G c a j;rw[k]at this;exact⟨g,this⟩
end
section
open Mc
variable {α:Type} {o:Option (RT Out)} {Φ:kI}
def aGi {xs:List Int} {i:Nat} {z:List qV} {g:qV} (h:z[(xs.getD i 0).toNat]?=some g):(gG z)[(cI (fun k=>xs.getD k 0) [([i],1)]).toNat]?=some [.i g.q,.i g.v,.i g.p,.i g.d]:=qH (lZ _ _) (by rw[gG,a0l,h];rfl)
def aJs {ρ:Nat->Int} {p:Poly} {z:List Int} {v:Int} (h:z[(evP ρ p).toNat]?=some v):(aA z)[(cI ρ p).toNat]?=some [.i v]:=qH (vQ ρ p).symm (RY h)
def vG (f:α->Int) (l:List α) (i:Nat):Int:=((l.take i).map f).sum
def sG {f:α->Int} {l:List α} {i:Nat} {x:α} (h:l[i]?=some x):vG f l (i+1)=vG f l i+f x:=by
 unfold vG;rw[a0u,h];simp
def wE (f:α->Int) (l:List α):vG f l l.length=(l.map f).sum:=by unfold vG;rw[a1g]
def rD {α:Type} {f:α->Int} {l:List α} {B:Int} (b:0<=B) (h:∀x∈l,-B<=f x/\f x<=B):∀i,i<=l.length->-(B*i)<=vG f l i/\vG f l i<=B*i
 |0,_=>by simp[vG]
 |i+1,d=>by
  obtain⟨x,a⟩:∃x,l[i]?=some x:=⟨_,a0f (by omega)⟩;have c:=rD b h i (by omega);have:=h x (a0a a);rw[sG a,show B*((i+1:Nat):Int)=B*i+B by rw[a29,a1e];simp];omega
namespace GS
abbrev gF (e b g a d f i:AV):List AV:=fr 169 [(4,.c (.bool false)),(5,.ptr 10 0 0 0),(6,.ptr 4 1 0 0),(7,e),(8,b),(9,g),(10,a),(11,d),(12,f),(13,i)]
abbrev gF2 (d g b e f a:AV):List AV:=fr 169 [(4,.c (.bool false)),(5,.ptr 10 0 0 0),(6,.ptr 4 1 0 0),(7,.i 0),(8,d),(9,g),(10,b),(11,e),(12,f),(14,a)]
abbrev gF3 (b f a d e i:AV):List AV:=fr 169 [(4,.c (.bool false)),(5,.ptr 10 0 0 0),(6,.ptr 4 1 0 0),(7,.i 0),(8,b),(9,f),(10,a),(11,d),(12,e),(15,i)]
abbrev sB (T:bF) (now:Int) (its:List qV) (ml:List cU) (bs:List Int):List Mc.dI:=[.cells 31 10 [[.i T.bJ,.i T.bH,.lit 1 (aA T.weights),.lit 1 (aW T.methods),.lit 1 (aW T.bT),.lit 8 (aX T.aH),.lit 8 (fU T.aO),.lit 9 (dN T.aF),.lit 6 (eO T.aG),.i T.done]],.cells 38 4 [[.i now,.lit 4 (gG its),.lit 2 (bU ml),.lit 1 (aA bs)]]]
noncomputable def body:Code:=(Tryz.f3).body.getD .skip
abbrev alP (c:Code) (r:Option (RT Out)):Prop:=uG { vars:=Kfb,lens:=Wk,bQ:=Ki } c ([.o 1,.q 1 3]++List.replicate 167 .undef) [] [some 0,some 1] (gF (.i 0) (.i 0) (.i 0) (.i 0) (.i 0) (.i 0) (.i 0)) [(.cells 31 10 [U7]),Dr] r
noncomputable def Tb:Option (RT Out):=yZ { vars:=Kfb,lens:=Wk,bQ:=Ki } body ([.o 1,.q 1 3]++List.replicate 167 .undef:List AV).length ([.o 1,.q 1 3]++List.replicate 167 .undef) [] 0
def an9:alP body Tb:=⟨by unfold Tb;rfl,by decide +kernel,by decide +kernel⟩
abbrev agI (c:Code):Prop:=eA { vars:=[(1,5),(0,17),(0,16),N4,N4],facts:=[(Kew,1,17)],lens:=Dt,iG:=[(1,[([2],1)],[.o 4,.v 4])] } c (gF (.i 0) (.v 3) (.i 0) (.i 0) (.i 0) (.i 0) (.v 2)) JX 0 [some 0,some 1] (gF (.i 0) (.e [([3],1),([4],1)]) (.i 0) (.i 0) (.i 0) (.i 0) KdV) JX
abbrev agF (c:Code):Prop:=eA { vars:=Kfb,lens:=Dt } c (gF (.i 0) (.i 0) (.i 0) (.i 0) (.i 0) (.i 0) (.v 1)) JX 2 [some 0,some 1] (gF (.i 0) (.i 0) (.i 0) (.i 0) (.i 0) (.i 0) (.v 1)) JX
abbrev aa8 (o:Option (RT Out)) (r:Option (RT Out)):Prop:=wZ { vars:=Kfb,lens:=Dt } o 0 (gF (.i 0) (.i 0) (.i 0) (.i 0) (.i 0) (.i 0) (.v 1)) JX [some 0,some 1] (gF2 (.i 0) (.i 0) (.i 0) (.i 0) (.i 0) (.i 0)) JX r
noncomputable def Mt:Option (RT Out):=Oa { vars:=Kfb,lens:=Dt } Tb 0 (gF (.i 0) (.i 0) (.i 0) (.i 0) (.i 0) (.i 0) (.v 1):List AV).length (gF (.i 0) (.i 0) (.i 0) (.i 0) (.i 0) (.i 0) (.v 1)) JX 2
def amN:aa8 Tb Mt:=⟨by unfold Mt;rfl,by decide +kernel,by decide +kernel⟩
abbrev agH (c:Code):Prop:=eA { vars:=[(1,5),(0,17),(0,16),N4,N4],lens:=Dt,iG:=[(2,[([2],1)],[.v 4])] } c (gF2 (.i 0) (.v 3) (.i 0) (.i 0) (.i 0) (.v 2)) JX 0 [some 0,some 1] (gF2 (.i 0) (.e [([3],1),([4],1)]) (.i 0) (.i 0) (.i 0) KdV) JX
abbrev agE (c:Code):Prop:=eA { vars:=Kfb,lens:=Dt } c (gF2 (.i 0) (.i 0) (.i 0) (.i 0) (.i 0) (.i 17)) JX 4 [some 0,some 1] (gF2 (.i 0) (.i 0) (.i 0) (.i 0) (.i 0) (.i 17)) JX
abbrev aa7 (o:Option (RT Out)) (r:Option (RT Out)):Prop:=wZ { vars:=Kfb,lens:=Dt } o 2 (gF2 (.i 0) (.i 0) (.i 0) (.i 0) (.i 0) (.i 17)) JX [some 0,some 1] (gF3 (.i 0) (.i 0) (.i 0) (.i 0) (.i 0) (.i 0)) JX r
noncomputable def aaI:Option (RT Out):=Oa { vars:=Kfb,lens:=Dt } Mt 2 (gF2 (.i 0) (.i 0) (.i 0) (.i 0) (.i 0) (.i 17):List AV).length (gF2 (.i 0) (.i 0) (.i 0) (.i 0) (.i 0) (.i 17)) JX 2
def amM:aa7 Mt aaI:=⟨by unfold aaI;rfl,by decide +kernel,by decide +kernel⟩
abbrev agG (c:Code):Prop:=eA { vars:=[(1,5),(0,17),(0,4),N4,N4,N4,N4,N4,N4],facts:=[([([0],1),([2],-1)],1,5)],lens:=Dt,iG:=[(0,[([2],1)],[.o 4,.v 6,.v 7,.v 8])] } c (gF3 (.i 0) (.i 0) (.v 3) (.v 4) (.v 5) (.v 2)) JX 0 [some 0,some 1] (gF3 (.i 0) (.i 0) (.e [([3],1),([6],1)]) KdP (.e [([5],1),([8],1)]) KdV) JX
abbrev agD (c:Code):Prop:=eA { vars:=[(1,5),(0,17),N4,N4,N4],lens:=Dt } c (gF3 (.i 0) (.i 0) (.v 2) (.v 3) (.v 4) (.v 0)) JX 6 [some 0,some 1] (gF3 (.i 0) (.i 0) (.v 2) (.v 3) (.v 4) (.v 0)) JX
abbrev agC (o:Option (RT Out)):Prop:=kH { vars:=[(1,5),(0,17),N4,N4,N4,N4,N4,N4],facts:=[([([2],-1),([3],1),([5],1),([6],1)],0,0),([([4],1),([7],1)],0,0)],lens:=Dt,iG:=[(2,[],[.v 5]),(2,[([],11)],[.v 7]),(2,[([],12)],[.v 6]),(2,[([],13)],[.i 0]),(2,[([],14)],[.i 0]),(2,[([],15)],[.i 0]),(2,[([],16)],[.i 0])],bQ:=[(13,[],KeF)] } Tryz.f3 o 4 (gF3 (.i 0) (.i 0) (.v 2) (.v 3) (.v 4) (.v 0)) JX (KeF)
structure Good (its:List qV) (ml:List cU) (bs:List Int):Prop where
 ni:1<=its.length/\its.length<=5
 nl:ml.length<=17
 nb:bs.length=17
 ok:∀x∈ml,-18014398509481984<=x.n/\x.n<=18014398509481984
 bb:∀v∈bs,-18014398509481984<=v/\v<=18014398509481984
 ib:∀g∈its,(-18014398509481984<=g.v/\g.v<=18014398509481984)/\(-18014398509481984<=g.p/\g.p<=18014398509481984)/\(-18014398509481984<=g.d/\g.d<=18014398509481984)
 s0:(ml.map (·.n)).sum=0
 a0:bs.sum=0
 z13:bs.getD 13 0=0
 z14:bs.getD 14 0=0
 z15:bs.getD 15 0=0
 z16:bs.getD 16 0=0
 iv:bs.getD 0 0+bs.getD 12 0=(its.map (·.v)).sum-(its.map (·.p)).sum
 dn:bs.getD 11 0=-(its.map (·.d)).sum
section
variable {A:Nat->Prop} {w0:World} {a0:Act} {T:bF} {now:Int} {its:List qV} {ml:List cU} {bs:List Int}
def l1 (r:agI (bB o)) (j:agF (bB o)) (G:Good its ml bs)
  (k:∀mm w a,@fD dY dZ A w0 a0 mm w a (gF (.i 0) (.i 0) (.i 0) (.i 0) (.i 0) (.i 0) (.i (ml.length:Int))) (fH (sB T now its ml bs))->KS Tryz.prog (oK o) Φ (AX.exit 0).to a w)
  (mm:Nat->St) (w:World) (a:Act) (b:@fD dY dZ A w0 a0 mm w a (gF (.i 0) (.i 0) (.i 0) (.i 0) (.i 0) (.i 0) (.i 0)) (fH (sB T now its ml bs))):(Code.loop (bB o)).wpIn (fw none) 9 Tryz.prog (KS Tryz.prog (oK o) Φ) a w:=by
 obtain⟨⟨s,q⟩,nl,p,ok,y,ib,h,-⟩:=G;have u:=kA its;have t:(bU ml).length=ml.length:=by simp[bU]
 have v:(aA bs).length=bs.length:=by simp[aA]
 refine dQ (fun n a w=>∃i:Nat,n=ml.length-i/\i<=ml.length/\∃mm,@fD dY dZ A w0 a0 mm w a (gF (.i 0) (.i (vG (·.n) ml i)) (.i 0) (.i 0) (.i 0) (.i 0) (.i (i:Int))) (fH (sB T now its ml bs))) ?_ (n:=ml.length) ⟨0,rfl,a0n _,_,b⟩;rintro n a w ⟨i,rfl,m,mm,b⟩;rcases(by omega:i=ml.length\/i<ml.length)with rfl|g
 .rw[wE,h]at b
  exact j.go (ev1 _ [(its.length:Int),(ml.length:Int)] [.I now,.I T.bJ,.I T.bH,.I T.done] [gG its,bU ml,aA bs,aX T.aH,aA T.weights,aW T.methods,aW T.bT,fU T.aO,dN T.aF,eO T.aG] .nil) (xK kn) b k
 .obtain⟨x,c⟩:∃x,ml[i]?=some x:=⟨_,a0f g⟩
  have l:ml[(i:Int).toNat]?=some x:=by simpa using c
  have hs:=sG (f:=(·.n)) c;have b1:=rD (f:=(·.n)) (by omega) ok i m;have b2:=ok x (a0a c);generalize vG (·.n) ml i=e at *;refine r.go (ev1 _ [(its.length:Int),(ml.length:Int),(i:Int),e,x.n] [.I now,.I T.bJ,.I T.bH,.I T.done,.I x.a] [gG its,bU ml,aA bs,aX T.aH,aA T.weights,aW T.methods,aW T.bT,fU T.aO,dN T.aF,eO T.aG] (.d (aL l) .nil)) (xK kn) b (fd:=gF (.i 0) (.i (e+x.n)) (.i 0) (.i 0) (.i 0) (.i 0) (.i (1+(i:Int)))) (bd:=sB T now its ml bs) ?_;intro mm w a b;rw[show(1+(i:Int))=((i+1:Nat):Int)by omega,<-hs]at b;exact⟨_,by omega,i+1,rfl,by omega,mm,b⟩
def l2 (r:agH (bB o)) (m:agE (bB o)) (G:Good its ml bs)
  (p:∀mm w a,@fD dY dZ A w0 a0 mm w a (gF2 (.i 0) (.i 0) (.i 0) (.i 0) (.i 0) (.i 17)) (fH (sB T now its ml bs))->KS Tryz.prog (oK o) Φ (AX.exit 2).to a w)
  (mm:Nat->St) (w:World) (a:Act) (c:@fD dY dZ A w0 a0 mm w a (gF2 (.i 0) (.i 0) (.i 0) (.i 0) (.i 0) (.i 0)) (fH (sB T now its ml bs))):(Code.loop (bB o)).wpIn (fw none) 9 Tryz.prog (KS Tryz.prog (oK o) Φ) a w:=by
 obtain⟨⟨y,v⟩,nl,g,ok,h,ib,u,j,-⟩:=G;have C:=kA its;have z:(bU ml).length=ml.length:=by simp[bU]
 have t:(aA bs).length=bs.length:=by simp[aA]
 refine dQ (fun n a w=>∃i:Nat,n=17-i/\i<=17/\∃mm,@fD dY dZ A w0 a0 mm w a (gF2 (.i 0) (.i (vG id bs i)) (.i 0) (.i 0) (.i 0) (.i (i:Int))) (fH (sB T now its ml bs))) ?_ (n:=17) ⟨0,rfl,a0n _,_,c⟩;rintro n a w ⟨i,rfl,B,mm,c⟩;rcases(by omega:i=17\/i<17)with rfl|s
 .rw[<-g,wE,a2f,j,g]at c
  exact m.go (ev1 _ [(its.length:Int),(ml.length:Int)] [.I now,.I T.bJ,.I T.bH,.I T.done] [gG its,bU ml,aA bs,aX T.aH,aA T.weights,aW T.methods,aW T.bT,fU T.aO,dN T.aF,eO T.aG] .nil) (xK kn) c p
 .obtain⟨b,e⟩:∃x,bs[i]?=some x:=⟨_,a0f (by omega)⟩
  have q:bs[(i:Int).toNat]?=some b:=by simpa using e
  have hs:=sG (f:=id) e;have b1:=rD (f:=id) (l:=bs) (by omega) h i (by omega);have b2:=h b (a0a e);rw[show id b=b from rfl]at hs;generalize vG id bs i=k at *;refine r.go (ev1 _ [(its.length:Int),(ml.length:Int),(i:Int),k,b] [.I now,.I T.bJ,.I T.bH,.I T.done] [gG its,bU ml,aA bs,aX T.aH,aA T.weights,aW T.methods,aW T.bT,fU T.aO,dN T.aF,eO T.aG] (.d (aI q) .nil)) (xK kn) c (fd:=gF2 (.i 0) (.i (k+b)) (.i 0) (.i 0) (.i 0) (.i (1+(i:Int)))) (bd:=sB T now its ml bs) ?_;intro mm w a c;rw[show(1+(i:Int))=((i+1:Nat):Int)by omega,<-hs]at c;exact⟨_,by omega,i+1,rfl,by omega,mm,c⟩
def fin (C:agC o) (G:Good its ml bs) (H:Ck 13 [] KeF)
  (mm:Nat->St) (w:World) (a:Act) (D:@fD dY dZ A w0 a0 mm w a (gF3 (.i 0) (.i 0) (.i (its.map (·.v)).sum) (.i (its.map (·.p)).sum) (.i (its.map (·.d)).sum) (.i (its.length:Int))) (fH (sB T now its ml bs))):KS Tryz.prog (oK o) (Fin Tryz.prog Tryz.f3 A w0 a0 KeF) (AX.exit 4).to a w:=by
 obtain⟨⟨S,R⟩,nl,Q,ok,n,ib,P,O,t,s,r,q,iv,K⟩:=G;have J:=kA its;have U:(bU ml).length=ml.length:=by simp[bU]
 have L:(aA bs).length=bs.length:=by simp[aA]
 have b1:=rD (f:=(·.v)) (by omega) (fun g b=>(ib g b).1) its.length (a0g _);have b2:=rD (f:=(·.p)) (by omega) (fun g b=>(ib g b).2.1) its.length (a0g _);have b3:=rD (f:=(·.d)) (by omega) (fun g b=>(ib g b).2.2) its.length (a0g _);rw[wE]at b1 b2 b3;generalize (its.map (·.v)).sum=B at *;generalize (its.map (·.p)).sum=E at *;generalize (its.map (·.d)).sum=F at *;have get:∀k,k<17->bs[k]?=some (bs.getD k 0):=fun k V=>getD_some (by omega);have y:=get 0 (by omega);have m:=get 11 (by omega);have l:=get 12 (by omega);have j:=get 13 (by omega);have h:=get 14 (by omega);have e:=get 15 (by omega);have c:=get 16 (by omega);have W:=n _ (a0a y);have N:=n _ (a0a m);have M:=n _ (a0a l);rw[t]at j;rw[s]at h;rw[r]at e;rw[q]at c;generalize bs.getD 0 0=z at *;generalize bs.getD 11 0=x at *;generalize bs.getD 12 0=u at *;exact C.go (ev1 _ [(its.length:Int),(ml.length:Int),B,E,F,z,u,x] [.I now,.I T.bJ,.I T.bH,.I T.done] [gG its,bU ml,aA bs,aX T.aH,aA T.weights,aW T.methods,aW T.bT,fU T.aO,dN T.aF,eO T.aG] (.d (aJs y) (.d (aJs m) (.d (aJs l) (.d (aJs j) (.d (aJs h) (.d (aJs e) (.d (aJs c) .nil)))))))) (xK (kc H kn)) D
def l3 (r:agG (bB o)) (z:agD (bB o)) (y:agC o) (G:Good its ml bs) (C:Ck 13 [] KeF)
  (mm:Nat->St) (w:World) (a:Act) (c:@fD dY dZ A w0 a0 mm w a (gF3 (.i 0) (.i 0) (.i 0) (.i 0) (.i 0) (.i 0)) (fH (sB T now its ml bs))):(Code.loop (bB o)).wpIn (fw none) 9 Tryz.prog (KS Tryz.prog (oK o) (Fin Tryz.prog Tryz.f3 A w0 a0 KeF)) a w:=by
 have D:=G;obtain⟨⟨K,J⟩,nl,H,ok,P,ib,-⟩:=G;have E:=kA its;have L:(bU ml).length=ml.length:=by simp[bU]
 have F:(aA bs).length=bs.length:=by simp[aA]
 refine dQ (fun n a w=>∃i:Nat,n=its.length-i/\i<=its.length/\∃mm,@fD dY dZ A w0 a0 mm w a (gF3 (.i 0) (.i 0) (.i (vG (·.v) its i)) (.i (vG (·.p) its i)) (.i (vG (·.d) its i)) (.i (i:Int))) (fH (sB T now its ml bs))) ?_ (n:=its.length) ⟨0,rfl,a0n _,_,c⟩;rintro n a w ⟨i,rfl,l,mm,c⟩;have b1:=rD (f:=(·.v)) (by omega) (fun g e=>(ib g e).1) i l;have b2:=rD (f:=(·.p)) (by omega) (fun g e=>(ib g e).2.1) i l;have b3:=rD (f:=(·.d)) (by omega) (fun g e=>(ib g e).2.2) i l;rcases(by omega:i=its.length\/i<its.length)with rfl|m
 .have e1:=wE (·.v) its
  have e2:=wE (·.p) its;have B:=wE (·.d) its;have f:=fin y D C (A:=A) (w0:=w0) (a0:=a0) (T:=T) (now:=now);rw[<-e1,<-e2,<-B]at f;generalize vG (·.v) its its.length=h at *;generalize vG (·.p) its its.length=j at *;generalize vG (·.d) its its.length=k at *;exact z.go (ev1 _ [(its.length:Int),(ml.length:Int),h,j,k] [.I now,.I T.bJ,.I T.bH,.I T.done] [gG its,bU ml,aA bs,aX T.aH,aA T.weights,aW T.methods,aW T.bT,fU T.aO,dN T.aF,eO T.aG] .nil) (xK kn) c f
 .obtain⟨g,b⟩:∃x,its[i]?=some x:=⟨_,a0f m⟩
  have e:its[(i:Int).toNat]?=some g:=by simpa using b
  have u:=sG (f:=(·.v)) b;have t:=sG (f:=(·.p)) b;have s:=sG (f:=(·.d)) b;obtain⟨O,N,M⟩:=ib g (a0a b);generalize vG (·.v) its i=h at *;generalize vG (·.p) its i=j at *;generalize vG (·.d) its i=k at *;refine r.go (ev1 _ [(its.length:Int),(ml.length:Int),(i:Int),h,j,k,g.v,g.p,g.d] [.I now,.I T.bJ,.I T.bH,.I T.done,.I g.q] [gG its,bU ml,aA bs,aX T.aH,aA T.weights,aW T.methods,aW T.bT,fU T.aO,dN T.aF,eO T.aG] (.d (aGi e) .nil)) (xK kn) c (fd:=gF3 (.i 0) (.i 0) (.i (h+g.v)) (.i (j+g.p)) (.i (k+g.d)) (.i (1+(i:Int)))) (bd:=sB T now its ml bs) ?_;intro mm w a c;rw[show(1+(i:Int))=((i+1:Nat):Int)by omega,<-u,<-t,<-s]at c;exact⟨_,by omega,i+1,rfl,by omega,mm,c⟩
def nx2 {d b:Option (RT Out)} (c:aa7 d b) (G:Good its ml bs)
  (f:∀mm w a,@fD dY dZ A w0 a0 mm w a (gF3 (.i 0) (.i 0) (.i 0) (.i 0) (.i 0) (.i 0)) (fH (sB T now its ml bs))->(Code.loop (bB b)).wpIn (fw none) 9 Tryz.prog (KS Tryz.prog (oK b) Φ) a w)
  (mm:Nat->St) (w:World) (a:Act) (e:@fD dY dZ A w0 a0 mm w a (gF2 (.i 0) (.i 0) (.i 0) (.i 0) (.i 0) (.i 17)) (fH (sB T now its ml bs))):KS Tryz.prog (oK d) Φ (AX.exit 2).to a w:=by
 obtain⟨⟨l,k⟩,nl,j,-⟩:=G;have g:=kA its;have m:(bU ml).length=ml.length:=by simp[bU]
 have h:(aA bs).length=bs.length:=by simp[aA]
 exact c.go (ev1 _ [(its.length:Int),(ml.length:Int)] [.I now,.I T.bJ,.I T.bH,.I T.done] [gG its,bU ml,aA bs,aX T.aH,aA T.weights,aW T.methods,aW T.bT,fU T.aO,dN T.aF,eO T.aG] .nil) (xK kn) e (fd:=gF3 (.i 0) (.i 0) (.i 0) (.i 0) (.i 0) (.i 0)) (bd:=sB T now its ml bs) f
def nx1 {b:Option (RT Out)} (c:aa8 o b) (G:Good its ml bs)
  (e:∀mm w a,@fD dY dZ A w0 a0 mm w a (gF2 (.i 0) (.i 0) (.i 0) (.i 0) (.i 0) (.i 0)) (fH (sB T now its ml bs))->(Code.loop (bB b)).wpIn (fw none) 9 Tryz.prog (KS Tryz.prog (oK b) Φ) a w)
  (mm:Nat->St) (w:World) (a:Act) (d:@fD dY dZ A w0 a0 mm w a (gF (.i 0) (.i 0) (.i 0) (.i 0) (.i 0) (.i 0) (.i (ml.length:Int))) (fH (sB T now its ml bs))):KS Tryz.prog (oK o) Φ (AX.exit 0).to a w:=by
 obtain⟨⟨k,j⟩,nl,h,-⟩:=G;have f:=kA its;have l:(bU ml).length=ml.length:=by simp[bU]
 have g:(aA bs).length=bs.length:=by simp[aA]
 exact c.go (ev1 _ [(its.length:Int),(ml.length:Int)] [.I now,.I T.bJ,.I T.bH,.I T.done] [gG its,bU ml,aA bs,aX T.aH,aA T.weights,aW T.methods,aW T.bT,fU T.aO,dN T.aF,eO T.aG] .nil) (xK kn) d (fd:=gF2 (.i 0) (.i 0) (.i 0) (.i 0) (.i 0) (.i 0)) (bd:=sB T now its ml bs) e
end
def walk (oA d b:Option (RT Out)) (o:alP body oA) (r1:agI (bB oA)) (k:agF (bB oA)) (f:aa8 oA d) (r2:agH (bB d)) (j:agE (bB d)) (e:aa7 d b) (p:agG (bB b)) (h:agD (bB b)) (n:agC b)
  {v m per:Int} {l ws:List Int} {ms cs:List (List Int)} {S T:bF} {now:Int} {its:List qV} {ml:List cU} {bs:List Int} (F:l.length<=9223372036854775807) (G:Good its ml bs) (q:T.weights.length=its.length)
  (s:Ck 11 [.i v] (SC m per ws ms cs)) (r:Ck 10 [SC m per ws ms cs,.lit 1 (aA l)] S.av) (cC:Ck 9 [S.av] T.av)
  (t:Ck 12 [T.av] (.bE [.agg [.i now,.lit 4 (gG its),.lit 2 (bU ml),.lit 1 (aA bs)],.i 0])) (u:Ck 13 [] KeF) :
  Ck 3 [.i v,.lit 1 (aA l)] KeF:=by
 have C:=kA its;have E:(bU ml).length=ml.length:=by simp[bU]
 have D:(aA bs).length=bs.length:=by simp[aA]
 have x:(aA T.weights).length=its.length:=by simp[aA,q]
 have y:=G.nl;have z:=G.ni;have B:=G.nb;refine CK.hY Tryz.func3 (c:=body) (by kernel_rfl) (Cw.out) (yY.out) fun A w0 a0=>?_;intro mm w a g;rw[Tryz.ntmps3]at g;refine o.go (ev1 _ [(its.length:Int),(ml.length:Int)] [.I now,.I v,.I m,.I per,.I S.bJ,.I S.bH,.I S.done,.I T.bJ,.I T.bH,.I T.done] [gG its,bU ml,aA bs,aA l,aA ws,aW ms,aW cs,aX S.aH,aA S.weights,aW S.methods,aW S.bT,fU S.aO,dN S.aF,eO S.aG,aX T.aH,aA T.weights,aW T.methods,aW T.bT,fU T.aO,dN T.aF,eO T.aG] .nil) (xK (kc s (kc r (kc cC (kc t kn))))) g (fd:=gF (.i 0) (.i 0) (.i 0) (.i 0) (.i 0) (.i 0) (.i 0)) (bd:=sB T now its ml bs) ?_;refine l1 r1 k G ?_;refine nx1 f G ?_;refine l2 r2 j G ?_;refine nx2 e G ?_;exact l3 p h n G u
end GS
section
variable {v m per:Int} {l ws:List Int} {ms cs:List (List Int)} {S T:bF}
def XE (a:Ck 33 [S.av] (.i 9)):Ck 12 [S.av] Bc:=cw _ (ev1 { bQ:=[(33,KdT,(.i 9))] } [] (vT S []) (sT S []) .nil) KdT DE (kc a kn)
def akT (b:Ck 11 [.i v] (SC m per ws ms cs)) (a:Ck 10 [SC m per ws ms cs,.lit 1 (aA l)] S.av) (cC:Ck 9 [S.av] T.av)
  (c:Ck 12 [T.av] Bc) (d:Ck 13 [] KeF):Ck 3 [.i v,.lit 1 (aA l)] KeF:=cw _ (ev1 { bQ:=[(11,[.o 0],Bl),(10,[Bl,.q 1 0],U0),(9,[U0],YD),(12,[YD],DE),(13,[],KeF)] } [] [.I v,.I m,.I per,.I S.bJ,.I S.bH,.I S.done,.I T.bJ,.I T.bH,.I T.done] [aA l,aA ws,aW ms,aW cs,aX S.aH,aA S.weights,aW S.methods,aW S.bT,fU S.aO,dN S.aF,eO S.aG,aX T.aH,aA T.weights,aW T.methods,aW T.bT,fU T.aO,dN T.aF,eO T.aG] .nil) [.o 0,.q 1 0] KeF (kc b (kc a (kc cC (kc c (kc d kn)))))
end
end
section
open Mc
def iI (n:Nat) (f:Nat->Int):Int:=((List.range n).map f).sum
def iN (n:Nat) (f:Nat->Int):iI (n+1) f=iI n f+f n:=by unfold iI;rw[a1v];simp
def gU {n:Nat} {f g:Nat->Int} (h:∀i,i<n->f i=g i):iI n f=iI n g:=by
 unfold iI;rw[a01 fun i a=>h i (a0t.1 a)]
def zE (n:Nat) (f g:Nat->Int):iI n (fun i=>f i+g i)=iI n f+iI n g:=by
 induction n with
 |zero=>rfl
 |succ n a=>rw[iN,iN,iN,a];omega
def afK (n:Nat) (f:Nat->Int):iI n (fun i=>-f i)=-iI n f:=by
 induction n with
 |zero=>rfl
 |succ n a=>rw[iN,iN,a];omega
def FE (n:Nat):iI n (fun _=>0)=0:=by
 induction n with
 |zero=>rfl
 |succ n a=>rw[iN,a];rfl
def Ai (n w:Nat) (F:Nat->Nat->Int):iI w (fun i=>iI n fun e=>F e i)=iI n (fun e=>iI w fun i=>F e i):=by
 induction n with
 |zero=>exact FE w
 |succ n a =>
  rw[iN,<-a,<-zE];exact gU fun i _=>iN n _
def afL (n:Nat) {k:Int} (v:Int) (d:0<=k) (h1:k<n):iI n (fun i=>if k=(i:Int)then v else 0)=v:=by
 have go:∀m:Nat,iI m (fun i=>if k=(i:Int)then v else 0)=if k<m then v else 0:=by
  intro m;induction m with
  |zero=>rw[if_neg (by omega)];rfl
  |succ m c =>
   rw[iN,c];by_cases a:k<(m:Int)
   .rw[if_pos a,if_neg (by omega),if_pos (by omega)];omega
   .rw[if_neg a]
    by_cases b:k=(m:Int)
    .rw[if_pos b,if_pos (by omega)];omega
    .rw[if_neg b,if_neg (by omega)];omega
 rw[go,if_pos h1]
def Aj {α:Type} (f:α->Int) (d:α):∀l:List α,(l.map f).sum=iI l.length fun i=>f (l.getD i d):=by
 intro l;have go:∀j,j<=l.length->((l.take j).map f).sum=iI j fun i=>f (l.getD i d):=by
  intro j;induction j with
  |zero=>intro _;rfl
  |succ j a =>
   intro c;have b:l[j]?=some (l.getD j d):=getD_some (by omega);rw[iN,<-a (by omega),a0u,b];simp
 have:=go l.length (a0g _);rwa[a1g]at this
def afJ (w:Nat) (f:Nat->Int):iI (2*w) f=iI w fun i=>f (2*i)+f (2*i+1):=by
 induction w with
 |zero=>rfl
 |succ w a=>rw[show 2*(w+1)=2*w+1+1 by omega,iN,iN,iN,a];omega
def Ez {α:Type} (k:α->Int) (f:α->Int) (n:Nat):∀l:List α,(∀t∈l,0<=k t/\k t<n)->iI n (fun i=>((l.filter fun t=>k t==(i:Int)).map f).sum)=(l.map f).sum
 |[],_=>FE n
 |t::l,h=>by
  have c:=Ez k f n l fun x d=>h x (by simp[d]);have a:=h t (by simp);rw[a0r,a0p,<-c,<-afL n (f t) a.1 a.2,<-zE];refine gU fun i _=>?_
  rw[a1m];by_cases b:k t=(i:Int)
  .simp[b]
  .simp[b]
def NL {l:List Int} {M:Int} (h:∀v∈l,-M<=v/\v<=M):eU l<=M*l.length:=by
 induction l with
 |nil=>simp[eU]
 |cons x t a =>
  have d:=a fun v b=>h v (by simp[b]);have c:=h x (by simp);rw[fX,a0v,a29,a1e];simp only[Int.natCast_one,Int.mul_one];omega
def afs (a b:List Int):eU (a++b)=eU a+eU b:=by
 induction a with
 |nil=>simp[eU]
 |cons x a c=>rw[a2a,fX,fX,c];omega
section
variable {T:bF} {k:Int}
def zC (G:Gn T) (l:Lk k T) (j:0<=k) (o:k<=124) {e item:Int} (x:Ix T e item) :
  (bV T e item).1=⟨qs ((T.aB e).aU (2*item)).aN+qs ((T.aB e).aU (2*item+1)).aN,vs ((T.aB e).aU (2*item)).aN+vs ((T.aB e).aU (2*item+1)).aN,ps ((T.aB e).aU (2*item)).aN+ps ((T.aB e).aU (2*item+1)).aN⟩ /\
  (0<=(bV T e item).1.q/\(bV T e item).1.q<=8192)/\(0<=(bV T e item).1.v/\(bV T e item).1.v<=4294967296)/\(-2199023255552<=(bV T e item).1.p/\(bV T e item).1.p<=2199023255552):=by
 have C:=Lk.mX j (show k<=130 by omega)
 have c:=l.lm.IX e item;have key:∀{loc:Int},0<=loc->loc<=1->(0<=qs ((T.aB e).aU (2*item+loc)).aN/\qs ((T.aB e).aU (2*item+loc)).aN<=4096)/\(0<=vs ((T.aB e).aU (2*item+loc)).aN/\vs ((T.aB e).aU (2*item+loc)).aN<=2147483648)/\(-1099511627776<=ps ((T.aB e).aU (2*item+loc)).aN/\ps ((T.aB e).aU (2*item+loc)).aN<=1099511627776):=by
  intro loc h l1;obtain⟨p1,p2,-⟩:=l.lm.aU G.toStOk x h l1;have s:=(Un.sum p1).mono (alr (m:=T.cE e item) (show T.cost e item<=3000*(k+1)by omega)) (a0h _);have q:=s.q;have g:=s.p0;have f:=s.p1;dsimp only at q g f;have m:=mS C.w1 q (show qs ((T.aB e).aU (2*item+loc)).aN<=4096 by have:=C.q1;omega) (by omega);exact⟨⟨q,by have:=C.q1;omega⟩,⟨s.v,(s.val C (by have:=C.q1;dsimp only;omega)).1⟩,by omega,by omega⟩
 have i:=key (loc:=0) (by omega) (by omega);have n:=key (loc:=1) (by omega) (by omega)
 rw[a1i]at i;have d:∀{a b:Int},(-1099511627776<=a/\a<=1099511627776)->(-1099511627776<=b/\b<=1099511627776)->dP [a,b]=a+b:=by
  intro a b r p;rw[(Eg (l:=[a,b]) (by simp only[eU,a0r,a1x,a0p,a2e];omega)).2];simp
 have e1:(bV T e item).1=⟨qs ((T.aB e).aU (2*item)).aN+qs ((T.aB e).aU (2*item+1)).aN,vs ((T.aB e).aU (2*item)).aN+vs ((T.aB e).aU (2*item+1)).aN,ps ((T.aB e).aU (2*item)).aN+ps ((T.aB e).aU (2*item+1)).aN⟩:=by
  unfold bV;dsimp only;rw[d ⟨by omega,by omega⟩ ⟨by omega,by omega⟩,d ⟨by omega,by omega⟩ ⟨by omega,by omega⟩,d ⟨by omega,by omega⟩ ⟨by omega,by omega⟩]
 refine⟨e1,?_⟩;rw[e1];dsimp only;omega
def adu {l:List Int} {M:Int} (h:∀v∈l,-M<=v/\v<=M) (a:M*l.length<=140737488355328):Fw l:=⟨a2g (NL h) a⟩
def am9 {item:Int} {n:Nat} {y:bP} (h:y∈wL T item n):∃e:Nat,e<n/\y=(bV T (e:Int) item).1:=by
 obtain⟨e,a,rfl⟩:=a0j.1 h;exact⟨e,a0t.1 a,rfl⟩
def acC (item:Int):tL T item T.aG.length=T.aG.filter fun t=>t.item==item:=by unfold tL;rw[a1g]
def amE (G:Gn T) (item:Int):(wL T item T.aH.length).length<=4/\(tL T item T.aG.length).length<=40:=by
 have:=G.hn;have:=G.Fo;refine⟨by simp[wL];omega,?_⟩;rw[acC];exact a1k (a4d _ _) G.Fo
def aaD (G:Gn T) (l:Lk k T) (u:0<=k) (r:k<=124) (I:T.aH.length=2\/T.aH.length=3):Sml T:=by
 have j:∀t∈T.aG,(-2147483648<=t.eX/\t.eX<=2147483648)/\(-2147483648<=t.value/\t.value<=2147483648)/\(-8589934592<=t.bW/\t.bW<=8589934592):=by
  intro t h;obtain⟨a0,z,a2,K⟩:=l.lm.tr t h;obtain⟨-,-,-,⟨b1,-⟩,⟨b2,-⟩,-⟩:=G.L7 t h;have F:=mS (show 3000*(k+1)<=524288 by omega) b1 a0 (by omega);have D:=mS (show 600000*(k+1)<=268435456 by omega) b1 a0 (by omega);omega
 have A:=G.hw;refine⟨fun i s=>?_,fun a J=>?_,?_,?_⟩
 .obtain⟨H,lt⟩:=amE G i
  have m:∀(f:bP->Int) (g:yX->Int),(∀e:Nat,e<T.aH.length->-2199023255552<=f (bV T (e:Int) i).1/\f (bV T (e:Int) i).1<=2199023255552)->(∀t∈T.aG,-8589934592<=g t/\g t<=8589934592)->Fw ((wL T i T.aH.length).map f++(tL T i T.aG.length).map g):=by
   intro f g C B;refine⟨?_⟩
   rw[afs];have z:=NL (l:=(wL T i T.aH.length).map f) (M:=2199023255552) (fun v c=>by
    obtain⟨y,n,rfl⟩:=a0j.1 c;obtain⟨e,b,rfl⟩:=am9 n;exact C e b)
   have a2:=NL (l:=(tL T i T.aG.length).map g) (M:=8589934592) (fun v c=>by
    obtain⟨y,n,rfl⟩:=a0j.1 c;rw[acC]at n;exact B y (List.mem_filter.1 n).1)
   rw[a0w]at z a2;omega
  have wx:∀e:Nat,e<T.aH.length->Ix T (e:Int) i:=fun e b=>⟨by omega,by omega,s.1,s.2⟩;refine⟨m (·.q) (·.eX) (fun e b=>?_) (fun t h=>by have:=j t h;omega),m (·.v) (·.value) (fun e b=>?_) (fun t h=>by have:=j t h;omega),m (·.p) (·.bW) (fun e b=>?_) (fun t h=>(j t h).2.2),?_⟩
  .have:=(zC G l u r (wx e b)).2;omega
  .have:=(zC G l u r (wx e b)).2;omega
  .exact(zC G l u r (wx e b)).2.2.2
  .refine adu (M:=4294967296) (fun v c=>?_) (by simp[Nf];omega)
   obtain⟨x,w,rfl⟩:=a0j.1 c;obtain⟨e,b⟩:=a1s.1 w;have L:=l.lm.aB e x b _ (.inl rfl);have E:=G.aB e x b;by_cases o:i.toNat<x.down.length
   .have:=L.down _ (dA (d:=0) o);have:=(E.db _ (dA (d:=0) o)).1;omega
   .rw[a0c,a04 (by omega)];simp
 .refine adu (M:=274877906944*125) (fun v c=>?_) (by simp[nG];omega)
  obtain⟨x,w,rfl⟩:=a0j.1 c;obtain⟨e,b⟩:=a1s.1 w;have L:=l.lm.aB e x b _ (.inl rfl);by_cases o:a.toNat<x.cN.length
  .have:=L.cN _ (dA (d:=0) o);omega
  .rw[a0c,a04 (by omega)];simp
 .refine adu (M:=2199023255552) (fun v c=>?_) ?_
  .obtain⟨e,b,c⟩:=a2d.1 c
   obtain⟨i,s,rfl⟩:=a0j.1 c;rw[a0t]at b s;exact(zC G l u r ⟨by omega,by omega,by omega,by omega⟩).2.2.2
  .rw[Ri]
   have:=Nat.mul_le_mul (show T.aH.length<=3 by omega) A;omega
 .refine adu (M:=8589934592) (fun v c=>?_) (by have:=G.Fo;rw[a0w];omega)
  obtain⟨t,h,rfl⟩:=a0j.1 c;exact(j t h).2.2
end
end
section
open Mc
section
variable {T:bF} {k:Int}
def ahN (G:Gn T) (l:Lk k T) (h:0<=k) (f:k<=124) {e:Nat} (g:e<T.aH.length):iI T.weights.length (fun i=>(bV T (e:Int) (i:Int)).1.v)=(T.aB (e:Int)).iv:=by
 by_cases b:T.weights.length=0
 .have E:(T.aB (e:Int)).bK.length=2*T.weights.length:=by
   have:=G.aB e _ (getD_some (d:=dE.nil) g);have:=this.pl;unfold bF.aB;rw[a00];exact this
  unfold EntC.iv;have c:(T.aB (e:Int)).bK=[]:=a1f.1 (by omega);rw[b,c];rfl
 .have a:Ix T (e:Int) 0:=⟨by omega,by omega,by omega,by omega⟩
  have E:=(G.toStOk.mQ a).pl;unfold EntC.iv;rw[Aj (fun p:cY=>vs p.aN) ⟨[],0,0,0⟩,E,afJ];refine gU fun i j=>?_;rw[(zC G l h f (e:=(e:Int)) (item:=(i:Int)) ⟨by omega,by omega,by omega,by omega⟩).1];dsimp only;unfold dE.aU;rw[show(2*(i:Int)).toNat=2*i by omega,show(2*(i:Int)+1).toNat=2*i+1 by omega]
def akn (T:bF) (i:Int):(giV T i).sum=iI T.aH.length (fun e=>(bV T (e:Int) i).1.v)+((T.aG.filter fun t=>t.item==i).map (·.value)).sum:=by
 unfold giV;rw[a1h,acC];congr 1;unfold wL iI;rw[a16];rfl
def ako (T:bF) (i:Int):(giP T i).sum=iI T.aH.length (fun e=>(bV T (e:Int) i).1.p)+((T.aG.filter fun t=>t.item==i).map (·.bW)).sum:=by
 unfold giP;rw[a1h,acC];congr 1;unfold wL iI;rw[a16];rfl
def RR (T:bF) (f:qV->Int) (n:Nat):((wR T n).map f).sum=iI n fun i=>f (AQ T (i:Int)):=by
 unfold wR iI;rw[a16];rfl
def Xs (T:bF) (f:dE->Int):(T.aH.map f).sum=iI T.aH.length fun e=>f (T.aB (e:Int)):=by
 rw[Aj f dE.nil];refine gU fun e _=>?_
 unfold bF.aB;rw[a00]
def LM (T:bF) (a:Nat):(nG T (a:Int)).sum=iI T.aH.length fun e=>(T.aB (e:Int)).acc (a:Int):=by
 unfold nG;rw[Xs T];rfl
def ajM (T:bF) (n:Nat):(Sy T n).sum=iI n fun e=>iI T.weights.length fun i=>(bV T (e:Int) (i:Int)).1.p:=by
 induction n with
 |zero=>rfl
 |succ n a=>rw[MJ,a1h,a,iN];rfl
def ai9 (G:Gn T):iI T.aH.length (fun e=>T.sD (e:Int))=(T.aG.map (·.value)).sum :=
 Ez (fun t:yX=>t.dst) (fun t:yX=>t.value) T.aH.length T.aG fun t a=>(G.L7 t a).2.1
def aoB {T:bF} {ml:List cU} {a:Nat} (b:a<17):(Fs T ml 17).getD a 0=(nG T (a:Int)).sum+gQ ml (a:Int):=by
 unfold Fs;rw[a0c,a0l,a4p b];rfl
def aeM (G:Gn T) (b:dS T) (l:Lk k T) (W:0<=k) (V:k<=124) (hn:T.aH.length=2\/T.aH.length=3) (hw:1<=T.weights.length) (O:Small (vZ T)) :
  GS.Good (wR T T.weights.length) (dO (vZ T)) (Fs T (dO (vZ T)) 17):=by
 have M:=aaD G l W V hn;have s:=amo O;have aa:=G.hw;have n:∀y∈vZ T,0<=y.a/\y.a<17:=fun y U=>⟨(O.ok y U).1,(O.ok y U).2.1⟩
 have Y:(eY (vZ T)).sum=0:=by
  unfold vZ eY;simp only[a0r,a1x,a0p,a2e];omega
 have o:∀a:Nat,a<17->-140737488355328<=(nG T (a:Int)).sum/\(nG T (a:Int)).sum<=140737488355328:=fun a j=>(M.b (a:Int) ⟨by omega,by omega⟩).sum.2.2.1
 have fh:=M.h.sum.2.2.1;have fy:=M.y.sum.2.2.1;have c:∀a:Nat,a<17->(Fs T (dO (vZ T)) 17).getD a 0=(nG T (a:Int)).sum+gQ (vZ T) (a:Int):=fun a j=>by
  rw[aoB j,Cx _ j]
 have bk:∀e:Nat,e<T.aH.length->Bk1 (T.aB (e:Int)).toEntC (T.sD (e:Int)):=fun e f=>(b (e:Int) (by omega) (by omega)).1
 have Z:(nG T 0).sum=iI T.aH.length fun e=>(T.aB (e:Int)).iv:=by
  have h:=LM T 0;exact h.trans (gU fun e f=>(bk e f).g)
 have R:(nG T 12).sum=(T.aG.map (·.value)).sum:=by
  rw[<-ai9 G];have h:=LM T 12;exact h.trans (gU fun e f=>(bk e f).w)
 have S:(nG T 11).sum=iI T.aH.length fun e=>-(T.aB (e:Int)).down.sum:=by
  have h:=LM T 11;exact h.trans (gU fun e f=>(bk e f).d)
 have iV:((wR T T.weights.length).map (·.v)).sum=(iI T.aH.length fun e=>(T.aB (e:Int)).iv)+(T.aG.map (·.value)).sum:=by
  rw[RR];have e1:iI T.weights.length (fun i=>(AQ T (i:Int)).v)=iI T.weights.length (fun i=>iI T.aH.length (fun e=>(bV T (e:Int) (i:Int)).1.v)+((T.aG.filter fun t=>t.item==(i:Int)).map (·.value)).sum):=gU fun i _=>akn T (i:Int);rw[e1,zE,Ai,Ez (fun t:yX=>t.item) (fun t:yX=>t.value) T.weights.length T.aG (fun t P=>(G.L7 t P).2.2.1)];congr 1;exact gU fun e f=>ahN G l W V f
 have iP:((wR T T.weights.length).map (·.p)).sum=(Sy T T.aH.length).sum+(T.aG.map (·.bW)).sum:=by
  rw[RR];have e1:iI T.weights.length (fun i=>(AQ T (i:Int)).p)=iI T.weights.length (fun i=>iI T.aH.length (fun e=>(bV T (e:Int) (i:Int)).1.p)+((T.aG.filter fun t=>t.item==(i:Int)).map (·.bW)).sum):=gU fun i _=>ako T (i:Int);rw[e1,zE,Ai,Ez (fun t:yX=>t.item) (fun t:yX=>t.bW) T.weights.length T.aG (fun t P=>(G.L7 t P).2.2.1),ajM]
 have iD:((wR T T.weights.length).map (·.d)).sum=iI T.aH.length fun e=>(T.aB (e:Int)).down.sum:=by
  rw[RR];have e1:iI T.weights.length (fun i=>(AQ T (i:Int)).d)=iI T.weights.length (fun i=>iI T.aH.length (fun e=>(T.aB (e:Int)).down.getD i 0)):=gU fun i _=>by
   show(Nf T (i:Int)).sum=_;unfold Nf;rw[Xs T,a00]
  rw[e1,Ai];refine gU fun e f=>?_
  have E:=(G.toStOk.mQ (e:=(e:Int)) (item:=0) ⟨by omega,by omega,by omega,by omega⟩).dl;have:=Aj id 0 (T.aB (e:Int)).down;rw[a2f,E]at this;exact this.symm
 have v:∀a:Int,gQ (vZ T) a=(if 14=a then -(nG T 14).sum else 0)+((if 13=a then -(nG T 13).sum else 0)+((if 15=a then -(nG T 15).sum else 0)+((if 16=a then -(nG T 16).sum else 0)+((if 0=a then -(Sy T T.aH.length).sum else 0)+((if 12=a then -(T.aG.map (·.bW)).sum else 0)+((if 5=a then -(-(nG T 14).sum+(-(nG T 13).sum+(-(nG T 15).sum+(-(nG T 16).sum+(-(Sy T T.aH.length).sum+-(T.aG.map (·.bW)).sum)))))else 0)+0)))))):=by
  intro a;unfold vZ;simp only[lA];rfl
 have F:=o 13 (by omega);have D:=o 14 (by omega);have C:=o 15 (by omega);have B:=o 16 (by omega);have F:-140737488355328<=(nG T 13).sum/\(nG T 13).sum<=140737488355328:=F;have D:-140737488355328<=(nG T 14).sum/\(nG T 14).sum<=140737488355328:=D;have C:-140737488355328<=(nG T 15).sum/\(nG T 15).sum<=140737488355328:=C;have B:-140737488355328<=(nG T 16).sum/\(nG T 16).sum<=140737488355328:=B;have r:(Fs T (dO (vZ T)) 17).length=17:=by simp[Fs]
 have X:(Fs T (dO (vZ T)) 17).getD 0 0=(nG T 0).sum+gQ (vZ T) 0:=c 0 (by omega);have N:(Fs T (dO (vZ T)) 17).getD 11 0=(nG T 11).sum+gQ (vZ T) 11:=c 11 (by omega);have L:(Fs T (dO (vZ T)) 17).getD 12 0=(nG T 12).sum+gQ (vZ T) 12:=c 12 (by omega);have K:(Fs T (dO (vZ T)) 17).getD 13 0=(nG T 13).sum+gQ (vZ T) 13:=c 13 (by omega);have J:(Fs T (dO (vZ T)) 17).getD 14 0=(nG T 14).sum+gQ (vZ T) 14:=c 14 (by omega);have I:(Fs T (dO (vZ T)) 17).getD 15 0=(nG T 15).sum+gQ (vZ T) 15:=c 15 (by omega);have H:(Fs T (dO (vZ T)) 17).getD 16 0=(nG T 16).sum+gQ (vZ T) 16:=c 16 (by omega);rw[v]at X N L K J I H;refine⟨⟨by simp[wR];omega,by simp[wR];omega⟩,by have:=s.len;omega,r,fun x A=>(s.ok x A).2.2,fun u hu=>?_,fun g hg=>?_,?_,?_,?_,?_,?_,?_,?_,?_⟩
 .obtain⟨a,j⟩:=a1s.1 hu
  have ab:=(a0y.1 j).1;have e1:(Fs T (dO (vZ T)) 17).getD a 0=u:=by rw[a0c,j];rfl
  rw[c a (by omega),v]at e1;have:=o a (by omega);have m:∀(p:Prop) [Decidable p] (z:Int),(-844424930131968<=z/\z<=844424930131968)->-844424930131968<=(if p then z else 0)/\(if p then z else 0)<=844424930131968:=fun p _ z hz=>by split<;>omega
  have q1:=m (14=(a:Int)) (-(nG T 14).sum) (by omega);have q2:=m (13=(a:Int)) (-(nG T 13).sum) (by omega);have q3:=m (15=(a:Int)) (-(nG T 15).sum) (by omega);have q4:=m (16=(a:Int)) (-(nG T 16).sum) (by omega);have q5:=m (0=(a:Int)) (-(Sy T T.aH.length).sum) (by omega);have q6:=m (12=(a:Int)) (-(T.aG.map (·.bW)).sum) (by omega);have q7:=m (5=(a:Int)) (-(-(nG T 14).sum+(-(nG T 13).sum+(-(nG T 15).sum+(-(nG T 16).sum+(-(Sy T T.aH.length).sum+-(T.aG.map (·.bW)).sum)))))) (by omega);generalize (if 14=(a:Int)then _ else(0:Int))=y1 at *;generalize (if 13=(a:Int)then _ else(0:Int))=y2 at *;generalize (if 15=(a:Int)then _ else(0:Int))=y3 at *;generalize (if 16=(a:Int)then _ else(0:Int))=y4 at *;generalize (if 0=(a:Int)then _ else(0:Int))=y5 at *;generalize (if 12=(a:Int)then _ else(0:Int))=y6 at *;generalize (if 5=(a:Int)then _ else(0:Int))=y7 at *;omega
 .obtain⟨i,hi,rfl⟩:=a0j.1 hg
  rw[a0t]at hi;obtain⟨m1,m2,m3,m4⟩:=M.q (i:Int) ⟨by omega,by omega⟩;have:=m2.sum.2.2.1;have:=m3.sum.2.2.1;have:=m4.sum.2.2.1;unfold AQ;dsimp only;omega
 .have e1:=zD (dO (vZ T)) (fun x A=>⟨(s.ok x A).1,by have:=(s.ok x A).2.1;omega⟩)
  have e2:=zD (vZ T) n;have Q:(List.range 17).map (fun(a:Nat)=>gQ (dO (vZ T)) a)=(List.range 17).map (fun(a:Nat)=>gQ (vZ T) a):=a01 fun a j=>Cx _ (a0t.1 j);rw[Q,e2,Y]at e1;exact e1.symm
 .have e1:=Aj id 0 (Fs T (dO (vZ T)) 17)
  rw[a2f,r]at e1;rw[e1];have e2:iI 17 (fun i=>id ((Fs T (dO (vZ T)) 17).getD i 0))=iI 17 (fun a=>iI T.aH.length (fun e=>(T.aB (e:Int)).acc (a:Int))+gQ (vZ T) (a:Int)):=gU fun a j=>by
   show(Fs T (dO (vZ T)) 17).getD a 0=_;rw[c a j,LM]
  rw[e2,zE,Ai];have Q:iI T.aH.length (fun e=>iI 17 fun a=>(T.aB (e:Int)).acc (a:Int))=0:=by
   rw[<-FE T.aH.length];exact gU fun e f=>(bk e f).z
  have e4:iI 17 (fun a=>gQ (vZ T) (a:Int))=0:=(zD (vZ T) n).trans Y;rw[Q,e4];rfl
 .rw[K];simp;omega
 .rw[J];simp;omega
 .rw[I];simp;omega
 .rw[H];simp;omega
 .rw[X,L,iV,iP,Z,R];simp;omega
 .rw[N,iD,S,afK];simp
end
end
section
open Mc
def XO {k:FuncId} {xs:List AV} (h:CK Tryz.prog k xs KeF) (w:World) (vs:Array Value) (b:vs.size=xs.length) (a:∀(i:Nat) (x:AV),xs[i]?=some x->@eC dY dZ (fun _=>False) w x (vs.getD i Go.undef)):Calls Tryz.prog k vs w fun e w'=>e=.returned (.bool true)/\Below w.heap.size w w':=by
 refine(h.ok (fun _=>False) w vs (fun _ h=>h.elim) (fun t h=>absurd h a0b) b a).mono ?_;rintro e w' ⟨v,rfl,d,c⟩;cases d;exact⟨rfl,c⟩
def agk {w:World} {a:Option Addr} {n cap:Nat} {z:List Int} (h:Row w 1 a n cap z):@eC dY dZ (fun _=>False) w (.lit 1 (aA z)) (.slice a n cap):=by
 obtain⟨p,f,l,o,c⟩:=h;have e:n=z.length:=by omega
 subst e;rw[M8];have d:(z.map fun v=>[v]).length=z.length:=by simp
 rw[<-d]at f |-;refine CH (by intro r g;obtain⟨x,-,rfl⟩:=a0j.1 g;rfl) f l ?_;rw[d,LN];rcases c with c|⟨b,off,c,k,j⟩
 .exact .inl c
 .exact .inr ⟨b,off,c,fun h=>h,k,fun i m=>j i (by omega)⟩
def anD {k:FuncId} {x r:AV} (h:Ck k [x,.lit 1 []] r):Ck k [x,.emp] r:=by
 obtain⟨m,l,j⟩:=h;refine⟨bL (m x (by simp)) (bL .emp fW),l,fun A w vs g f e c=>j A w vs g f e fun i y b=>?_⟩
 rcases i with _|_|i
 .exact c 0 y b
 .cases b
  have d:=c 1 .emp rfl;generalize vs.getD 1 Go.undef=u at d |-;cases d with
  |emp a=>exact @eC.nQ dY dZ _ _ 1 a 0 (by decide)
 .simp at b
def ae2 {n:Nat} {per:Int} {ws:List Int} {ms cs:List (List Int)} (M:MOk n per ws ms cs):Ck 10 [SC n per ws ms cs,.lit 1 []] (gB n per ws ms cs).av:=by
 obtain⟨k,T,⟨-,a⟩,r,-,c⟩:=XM M [] (by simp);obtain rfl:k=0:=by simpa using a
 cases r;exact c
def aoI:Ck 11 [.i 0] (SC 2 1 [0,1] [[1,2],[1,2]] [[0,7],[1,8]]):=cw _ (ev1 {  } [] [] [] .nil) [.i 0] (.agg [.i 2,.i 1,(.lit 1 [[.i 0],[.i 1]]),(.lit 1 [[(.lit 1 [[.i 1],[.i 2]])],[(.lit 1 [[.i 1],[.i 2]])]]),(.lit 1 [[(.lit 1 [[.i 0],[.i 7]])],[(.lit 1 [[.i 1],[.i 8]])]])]) kn
def m0:MOk 2 1 [0,1] [[1,2],[1,2]] [[0,7],[1,8]]:=⟨by omega,by omega,by simp,by simp,by omega,rfl,rfl,by simp,by simp,by simp⟩
section
variable {S T:bF}
def abZ {x:dE} (b:2<=S.aH.length/\S.aH.length<=3) (a:S.aH[0]?=some ⟨⟨x.now,false,x.bK,x.cN,x.aJ,x.bD,x.down⟩,x.ahead⟩):Ck 33 [S.av] (.i 8):=cw _ (ev1 { vars:=[(2,3)],lens:=KeY,iG:=[(0,[],Va)] } [(S.aH.length:Int)] (vT S [.I x.now]) (sT S [bS x.bK,aA x.cN,bN x.aJ,aA x.bD,aA x.down,bX x.ahead]) (.d (AZ a) .nil)) KdT (.i 8) kn
def ab0 (a:Ck 33 [S.av] (.i 8)):Ck 12 [S.av] Be:=cw _ (ev1 { bQ:=[(33,KdT,(.i 8))] } [] (vT S []) (sT S []) .nil) KdT DG (kc a kn)
def ab6 {m per:Int} {ws:List Int} {ms cs:List (List Int)} {its:List qV} {ml:List cU} {bs:List Int} (h:2<=T.weights.length/\T.weights.length<=4) (h1:its.length=T.weights.length) (b:ml.length=0) (a:bs.length=17)
  (f:Ck 11 [.i 0] (SC m per ws ms cs)) (d:Ck 10 [SC m per ws ms cs,.emp] S.av) (cC:Ck 9 [S.av] T.av)
  (g:Ck 12 [T.av] (.bE [.agg [.i 1,.lit 4 (gG its),.lit 2 (bU ml),.lit 1 (aA bs)],.i 0])) (e:Ck 12 [S.av] Be):Ck 13 [] KeF:=cw _ (Ot { vars:=[(2,4)],lens:=[(11,[([0],1)]),(17,[([0],1)]),(18,[]),(19,[([],17)])],bQ:=[(11,[.i 0],Bi),(10,[Bi,.emp],U8),(9,UT,YE),(12,[YE],(.bE [(.agg [.i 1,.q 4 17,.q 2 18,.q 1 19]),.i 0])),(12,UT,DG)] } [(T.weights.length:Int)] [.I m,.I per,.I S.bJ,.I S.bH,.I S.done,.I T.bJ,.I T.bH,.I T.done] [aA ws,aW ms,aW cs,aX S.aH,aA S.weights,aW S.methods,aW S.bT,fU S.aO,dN S.aF,eO S.aG,aX T.aH,aA T.weights,aW T.methods,aW T.bT,fU T.aO,dN T.aF,eO T.aG,gG its,bU ml,aA bs] jI.nil.c jT.nil ((((kM.nil.c (by simp[aA,a,cI,uJ])).c (by simp[bU,b,cI,uJ])).c (by simp[gG,h1,cI,uJ])).c) .nil) [] KeF (kc f (kc d (kc cC (kc g (kc e kn)))))
end
abbrev S00:bF:=gB 2 1 [0,1] [[1,2],[1,2]] [[0,7],[1,8]]
def akU:(iR S00 2).aH.map (fun x=>x.now)=[1,1]:=by decide +kernel
def ae7:(dO (vZ (iR S00 2))).length=0:=by decide +kernel
def XK:Ck 13 [] KeF:=by
 have p:Reach 2 1 [0,1] [[1,2],[1,2]] [[0,7],[1,8]] 0 S00:=.start;have lk:=p.lk m0 (by omega);have R:=p.rs m0 (by omega);have cC:Ck 9 [S00.av] (iR S00 2).av:=PD R.gn (by decide) (by decide);have c:=AF R.gn (k:=((0:Nat):Int)) (by omega) (by omega) (by decide) lk 2 (by decide);have d:=akU;have s:=ae7;have w:(iR S00 2).weights.length=2:=by rw[c.wt];rfl
 have n:(iR S00 2).aH.length=2:=by rw[c.le];rfl
 have t:=ab0 (S:=S00) (abZ (x:=AT 2) (by decide) rfl);have i:=c.cl;generalize iR S00 2=T at *;have g:T.aH.length=2\/T.aH.length=3:=.inl n
 have b:∀x∈T.aH,x.now=1:=by
  intro x a;have h:=a3r (f:=fun x:dE=>x.now) a;rw[d]at h;simpa using h
 have l:∀x∈T.aH,x.closed=true:=by
  intro x a;obtain⟨e,o⟩:=a1s.1 a;have v:=(a0y.1 o).1;have:=i e (by omega);unfold bF.aB at this;rw[a00,a0c,o]at this;exact this
 rcases Px c.gn g l with⟨r,-⟩|⟨-,x,a,y,q,m⟩
 .have j:=aaD c.gn c.lk (by omega) (by omega) g
  obtain⟨x,a⟩:∃x,T.aH[0]?=some x:=⟨_,a0f (by omega)⟩;have u:=Pz c.gn g (by omega) l j r a (b x (a0a a));exact ab6 (by omega) (by simp[wR]) s (by simp[Fs]) aoI (anD (ae2 m0)) cC u t
 .exact absurd ((b x a).trans (b y q).symm) m
end
section
open Mc
def Sk {v:Int} {l:List Int} (o:l.length<=9223372036854775807):Ck 3 [.i v,.lit 1 (aA l)] KeF:=by
 obtain⟨m,per,ws,ms,cs,M,z⟩:=ae3 v;obtain⟨k,S,⟨q,-⟩,u,R,w⟩:=XM M l o;have D:=M.w2;have F:=M.n2;have E:=M.n3;have lk:=u.lk M q;have bk:=u.bk M q;have d:1<=S.weights.length:=by rw[R.wt];omega
 have cC:=PD R.gn d (by rw[R.pe];have:=M.p;omega);have c:=AF R.gn (k:=(k:Int)) (by omega) (by omega) d lk S.aH.length (a0g _);have B:=Pv R.gn (k:=(k:Int)) (by omega) (by omega) d lk bk S.aH.length (a0g _);have H:=R.le;generalize iR S S.aH.length=T at *;have g:T.aH.length=2\/T.aH.length=3:=by rw[c.le];omega
 have n:∀x∈T.aH,x.closed=true:=by
  intro x j;obtain⟨e,t⟩:=a1s.1 j;have s:=(a0y.1 t).1;have:=c.cl e (by rw[<-c.le];exact s);unfold bF.aB at this;rw[a00,a0c,t]at this;exact this
 have f:1<=T.weights.length:=by rw[c.wt];exact d
 rcases Px c.gn g n with⟨r,-⟩|⟨r,-⟩
 .have a:=aaD c.gn c.lk (by omega) (by omega) g
  have A:=(Py c.gn f g a.b a.h a.y).1;obtain⟨x,j⟩:∃x,T.aH[0]?=some x:=⟨_,a0f (by omega)⟩;have C:=Pz c.gn g f n a r j rfl;have G:=aeM c.gn B c.lk (by omega) (by omega) g f A;exact GS.walk GS.Tb GS.Mt GS.aaI GS.an9 .of .of GS.amN .of .of GS.amM .of .of .of o G (by simp[wR]) z w cC C XK
 .exact akT z w cC (XE r) XK
def NW (v:Int) (h:Option Addr) (a b:Nat) (g:List Int) (w:World) (w0:kS v) (d:Row w 1 h a b g) :
  Calls Tryz.prog 3 #[.int .i64 v,.slice h a b] w fun e w'=>e=.returned (.bool true)/\Below w.heap.size w w':=by
 have e1:=d.len;have e2:=d.le;have k:=d.max;simp only[maxLen]at k;refine XO (Sk (v:=v) (l:=g) (by omega)) w _ rfl ?_;intro i x f;rcases(by omega:i=0\/i=1\/2<=i)with rfl|rfl|j
 .cases f;exact @eC.c dY dZ _ _ _
 .cases f;exact agk d
 .rw[a04 j]at f;cases f
end
end Go.Proofs.YtnepgggkgnckcaaGreat
