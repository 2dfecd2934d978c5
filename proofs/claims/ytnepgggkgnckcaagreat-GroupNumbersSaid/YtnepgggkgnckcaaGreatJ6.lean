/-
 Texts joined and made small by wip/small.sh.
-/
import Derived.Test.YtnepgggkgnckcaaGreatJ5
import Derived.Deep.AppendLies
import Derived.BigQuiet
set_option linter.all false
set_option maxHeartbeats 4000000
set_option maxRecDepth 1000000
namespace Go.Proofs.YtnepgggkgnckcaaGreat
open Go.RowKit
section
open Mc
variable {item:Int}
def Ix.en {S:bK} {e:Int} (x:Ix S e item):0<=e/\e<(S.aD.length:Int):=⟨x.e0,x.e1⟩
def Ix.iw {S:bK} {e:Int} (x:Ix S e item):0<=item/\item<(S.weights.length:Int):=⟨x.i0,x.i1⟩
def ajX {n w:Nat} {x:wU} (h1:0<=x.aU/\x.aU<n) (a:0<=x.item/\x.item<w) (h:(0<=x.loc/\x.loc<=1)/\(1<=x.eU/\x.eU<=1073741824)/\(0<=x.value/\x.value<=1125899906842624)/\(0<=x.wG/\x.wG<=x.eU)/\(0<=x.dQ/\x.dQ<=1125899906842624)/\(0<=x.back/\x.back<=x.eU)):afI n w x:=⟨h1,a,h⟩
def ajR {n w:Nat} {x:kU} (h1:0<=x.aU/\x.aU<n) (a:0<=x.item/\x.item<w) (h:(0<=x.loc/\x.loc<=1)/\(1<=x.eU/\x.eU<=1073741824)/\(0<=x.back/\x.back<=x.eU)/\qC x.cost/\qC x.bY/\(1<=x.period/\x.period<=12)):acw n w x:=⟨h1,a,h⟩
def aot {n w:Nat} {x:Fh} (h1:0<=x.src/\x.src<n) (b:0<=x.dst/\x.dst<n) (a:0<=x.item/\x.item<w) (h:(0<=x.eU/\x.eU<=1073741824)/\(0<=x.value/\x.value<=1125899906842624)/\qC x.bY):afH n w x:=⟨h1,b,a,h⟩
def qI (S:bK) (e item loc q a:Int):bK×Int :=
 if(S.aJ e).closed=true then(S,7)else
 if S.bB.length=40 then(S,6)else
 match eK S e item loc ⟨q,a,0⟩with
 |(S1,b,up,f)=>if f≠0 then(S,f)else
 match dS S1 e [⟨0,b⟩,⟨6,up⟩,⟨1,-a⟩]with
 |(d,f)=>if f≠0 then(S,f)else
 match eC d e item [0,b,0,0,0,0,0,0,0,0,0]with
 |(c,f)=>if f≠0 then(S,f)else
 (c.xO ⟨e,item,loc,q,a,q,a,0⟩,0)
def IB (S:bK) (e item loc q a:Int):bK×Int :=
 if(S.aJ e).closed=true then(S,7)else
 if S.aN.length=40 then(S,6)else
 match dU S e item loc 0 q with
 |(S1,⟨xq,xv,xp⟩,b,f)=>if f≠0 then(S,f)else
 match dS S1 e [⟨3,a⟩,⟨4,-a⟩,⟨5,xv⟩,⟨0,-xv⟩]with
 |(d,f)=>if f≠0 then(S,f)else
 match eC d e item [0,0,0,0,0,xv,0,0,0,0,0]with
 |(c,f)=>if f≠0 then(S,f)else
 (c.vI ⟨e,item,loc,q,0,xv,xp,(S.aJ e).now,b⟩,0)
def yQ (S:bK) (s:kU) (ref q a c b:Int):bK×Int :=
 match eK S s.aU s.item s.loc ⟨q,c,b⟩with
 |(S1,d,up,f)=>if f≠0 then(S,f)else
 match dS S1 s.aU [⟨4,a⟩,⟨3,-a⟩,⟨0,d⟩,⟨6,up⟩,⟨5,-c⟩]with
 |(g,f)=>if f≠0 then(S,f)else
 match eC g s.aU s.item [0,0,0,0,d,0,0,0,0,0,0]with
 |(e,f)=>if f≠0 then(S,f)else
 (e.rD ref ⟨s.aU,s.item,s.loc,s.eU,q+s.back,s.cost-c,s.bY-b,s.period,s.waits⟩,0)
def CV (S:bK) (s:kU) (ref q a:Int):bK×Int :=
 if((S.aJ s.aU).bE (2*s.item+s.loc)).p0<q then(S,5)else
 match dS (S.bJ s.aU ((S.aJ s.aU).bX (2*s.item+s.loc) { (S.aJ s.aU).bE (2*s.item+s.loc)with p0:=((S.aJ s.aU).bE (2*s.item+s.loc)).p0-q })) s.aU [⟨4,a⟩,⟨3,-a⟩]with
 |(b,f)=>if f≠0 then(S,f)else
 (b.rD ref ⟨s.aU,s.item,s.loc,s.eU,q+s.back,s.cost,s.bY,s.period,s.waits⟩,0)
def It (S:bK) (ref q a:Int):bK×Int :=
 match S.aN[ref.toNat]? with
 |none=>(S,4)
 |some s=>if(S.aJ s.aU).closed=true then(S,7)else if s.eU-s.back<q then(S,5)else
  if s.waits=true/\s.period=(S.aJ s.aU).now then CV S s ref q a else yQ S s ref q a (dM s.cost q (s.eU-s.back)) (dM s.bY q (s.eU-s.back))
def yR (S:bK) (e item loc q:Int):bK×Int :=
 if(S.aJ e).closed=true then(S,7)else
 match dU S e item loc 1 q with
 |(S1,⟨xq,xv,xp⟩,c,f)=>if f≠0 then(S,f)else
 match dS S1 e [⟨7,xv⟩,⟨0,-xv⟩]with
 |(b,f)=>if f≠0 then(S,f)else
 match eC b e item [0,0,0,0,0,0,0,0,xv,0,0]with
 |(a,f)=>if f≠0 then(S,f)else
 (a,0)
def IN (S:bK) (e item loc dst q:Int):bK×Int :=
 if(S.aJ e).closed=true then(S,7)else
 match dU S e item loc 3 q with
 |(S1,⟨xq,xv,xp⟩,g,f)=>if f≠0 then(S,f)else
 match eK S1 e item dst ⟨xq,xv,xp⟩with
 |(d,a,up,f)=>if f≠0 then(S,f)else
 match dS d e [⟨0,a-xv⟩,⟨6,up⟩]with
 |(c,f)=>if f≠0 then(S,f)else
 match eC c e item [0,0,0,0,0,0,0,0,0,0,a-xv]with
 |(b,f)=>if f≠0 then(S,f)else
 (b,0)
def xW (r:wU) (q:Int):Int:=if q=r.wG then r.dQ else dM r.dQ q r.wG
def Xa (S:bK) (ref q a:Int):bK×Int :=
 match S.bB[ref.toNat]? with
 |none=>(S,4)
 |some ⟨e,item,loc,rq,rv,ro,ra,rb⟩ =>
  if(S.aJ e).closed=true then(S,7)else if ro<q then(S,5)else
  match dS S e [⟨1,xW ⟨e,item,loc,rq,rv,ro,ra,rb⟩ q⟩,⟨6,a-xW ⟨e,item,loc,rq,rv,ro,ra,rb⟩ q⟩,⟨2,-a⟩]with
  |(S1,f)=>if f≠0 then(S,f)else(S1.uK ref ⟨e,item,loc,rq,rv,-q+ro,ra-xW ⟨e,item,loc,rq,rv,ro,ra,rb⟩ q,rb⟩,0)
def yS (S:bK) (ref q e item loc acc d:Int) (r:wU):bK×Int :=
 match dU S e item loc 3 q with
 |(S1,⟨xq,xv,xp⟩,c,f)=>if f≠0 then(S,f)else
 match dS S1 e [⟨acc,d⟩,⟨6,xv-d⟩,⟨0,-xv⟩]with
 |(b,f)=>if f≠0 then(S,f)else
 match eC b e item [0,0,0,0,0,0,0,xv,0,0,0]with
 |(a,f)=>if f≠0 then(S,f)else(a.uK ref r,0)
def sbS (S:bK) (ref q:Int):bK×Int :=
 match S.bB[ref.toNat]? with
 |none=>(S,4)
 |some ⟨e,item,loc,rq,rv,ro,ra,rb⟩ =>
  if(S.aJ e).closed=true then(S,7)else if rq-rb<q then(S,5)else if 0<ro/\ro<q then(S,9)else
  if 0<ro then yS S ref q e item loc 1 (xW ⟨e,item,loc,rq,rv,ro,ra,rb⟩ q) ⟨e,item,loc,rq,rv,-q+ro,ra-xW ⟨e,item,loc,rq,rv,ro,ra,rb⟩ q,q+rb⟩
  else yS S ref q e item loc 2 (dM rv q rq) ⟨e,item,loc,rq,rv,ro,ra,q+rb⟩
def Iy (S:bK) (e item loc dst q a:Int):bK×Int :=
 if(S.aJ e).closed=true then(S,7)else
 if(S.aJ dst).closed=true then(S,7)else
 if S.aH.length=40 then(S,6)else
 match dU S e item loc 3 q with
 |(S1,⟨xq,xv,xp⟩,g,f)=>if f≠0 then(S,f)else
 match dS S1 e [⟨13,a⟩,⟨15,-a⟩,⟨16,xv⟩,⟨0,-xv⟩]with
 |(d,f)=>if f≠0 then(S,f)else
 match dS d dst [⟨12,a⟩,⟨14,-a⟩]with
 |(c,f)=>if f≠0 then(S,f)else
 match eC c e item [0,0,0,0,0,0,xv,0,0,0,0]with
 |(b,f)=>if f≠0 then(S,f)else
 if -288230376151711744<=a-xv+xp/\a-xv+xp<=288230376151711744 then
 (b.xN ⟨e,dst,item,q,a,a-xv+xp⟩,0)else(S,2)
def AD (S:bK) (a e item tq tv tp loc q ref v b:Int):bK×Int :=
 match eK S e item loc ⟨q,v,b⟩with
 |(S1,c,up,f)=>if f≠0 then(S,f)else
 match dS S1 e [⟨0,c⟩,⟨6,up⟩,⟨12,-v⟩]with
 |(g,f)=>if f≠0 then(S,f)else
 match eC g e item [0,0,0,c,0,0,0,0,0,0,0]with
 |(d,f)=>if f≠0 then(S,f)else(d.C5 ref ⟨a,e,item,-q+tq,tv-v,tp-b⟩,0)
def uY (S:bK) (loc q ref:Int):bK×Int :=
 match S.aH[ref.toNat]? with
 |none=>(S,4)
 |some ⟨a,e,item,tq,tv,tp⟩ =>
  if(S.aJ e).closed=true then(S,7)else if tq<q then(S,5)else
  AD S a e item tq tv tp loc q ref (dM tv q tq) (dM tp q tq)
def O9 (S:bK) (e item loc d:Int):bK×Int :=
 match dU S e item loc 2 d with
 |(S1,⟨xq,xv,xp⟩,c,f)=>if f≠0 then(S,f)else
 match dS S1 e [⟨8,xv⟩,⟨0,-xv⟩]with
 |(b,f)=>if f≠0 then(S,f)else
 match eC b e item [0,0,0,0,0,0,0,0,0,xv,0]with
 |(a,f)=>if f≠0 then(S,f)else(a,0)
def IQ (S:bK) (e item loc d v f:Int):bK×Int :=
 if f≠0 then(S,f)else
 match eK S e item loc ⟨d,v,0⟩with
 |(S1,a,up,f)=>if f≠0 then(S,f)else
 match dS S1 e [⟨0,a⟩,⟨6,up⟩,⟨8,-v⟩]with
 |(c,f)=>if f≠0 then(S,f)else
 match eC c e item [0,0,0,0,0,0,0,0,0,-a,0]with
 |(b,f)=>if f≠0 then(S,f)else(b,0)
def dL.oD (x:dL) (m k:Int):Int:=if m=3 then wN (x.bE k).aX (x.bE k).pn else qs (x.bE k).aX
def zQ (S:bK) (e item loc q:Int):bK×Int :=
 if(S.aJ e).closed=true then(S,7)else
 if q-(S.aJ e).oD (S.cX e item) (2*item+loc)=0 then(S,0)else
 if q-(S.aJ e).oD (S.cX e item) (2*item+loc)<0 then O9 S e item loc (-q+(S.aJ e).oD (S.cX e item) (2*item+loc))else
 if S.cX e item=4 then IQ S e item loc (q-(S.aJ e).oD (S.cX e item) (2*item+loc)) (yJ (q-(S.aJ e).oD (S.cX e item) (2*item+loc)) (S.cost e item) 1) (Lh (q-(S.aJ e).oD (S.cX e item) (2*item+loc)) (S.cost e item) 1)else
 if 0<qs ((S.aJ e).bE (2*item+loc)).aX then IQ S e item loc (q-(S.aJ e).oD (S.cX e item) (2*item+loc)) (yJ (vs ((S.aJ e).bE (2*item+loc)).aX) (q-(S.aJ e).oD (S.cX e item) (2*item+loc)) (qs ((S.aJ e).bE (2*item+loc)).aX)) (Lh (vs ((S.aJ e).bE (2*item+loc)).aX) (q-(S.aJ e).oD (S.cX e item) (2*item+loc)) (qs ((S.aJ e).bE (2*item+loc)).aX))else
 IQ S e item loc (q-(S.aJ e).oD (S.cX e item) (2*item+loc)) 0 0
def dL.vX (x:dL) (item v:Int):dL:={ x with aZ:=x.aZ.set item.toNat v }
def yY (S:bK) (e item a:Int):bK×Int :=
 if(S.aJ e).closed=true then(S,7)else(S.bJ e ((S.aJ e).vX item a),0)
def Ts {S:bK} (h:StOk S) {e a:Int} (x:Ix S e item) (c:0<=a/\a<=1125899906842624):Kn S (S.bJ e ((S.aJ e).vX item a)):=by
 have E:=h.zN x;refine⟨Kin.bJ (h.bJ x.e0 ⟨E.pl,E.ok,E.bl,E.bb,E.rl,E.rr,by simp only[dL.vX,a1m];exact E.pr,?_,E.dl,E.db,E.now⟩ (h.ahead _ (a0a (h.at_ x)) _ (h.at_ x))),pO x rfl⟩;intro v b;rcases a05 b with b|rfl
 .exact E.prb v b
 .simp only[M58];omega
def FH {v q n:Int} (c:1<=n) (b:0<=q) (a:q<=n) (d:0<=v) (e:v<=1125899906842624):0<=dM v q n/\dM v q n<=v :=
 (Aj c b a (fK.2 ⟨by omega,by omega⟩)).1 d
def RK {a b c:Int} (e:0<=a) (d:0<=b):0<=yJ a b c/\yJ a b c<=288230376151711744:=by
 unfold yJ;split
 .simp
 .split
  .simp
  .have:=a2j (a0p e d) (show 0<=c by omega)
   omega
def ahW (a b c:Int):gZ (Lh a b c):=by
 unfold Lh;split
 .exact⟨by simp,by simp⟩
 .split<;>exact⟨by simp,by simp⟩
def Sa {r:wU} {q:Int} (h1:1<=q) (c:q<=r.wG) (b:0<=r.dQ) (a:r.dQ<=1125899906842624):0<=xW r q/\xW r q<=r.dQ:=by
 unfold xW;split
 .omega
 .exact FH (by omega) (by omega) c b a
def Eg (L:List bV) (a:Int):List bV×Int×Int :=
 if L.length=0 then(L,0,0)else if Lh (qs L) a 1≠0 then(L,0,2)else([⟨qs L,yJ (qs L) a 1,ps L⟩],-vs L+yJ (qs L) a 1,0)
def bK.mH (S:bK) (e k:Int) (L:List bV):bK:=S.bJ e ((S.aJ e).bX k { (S.aJ e).bE k with aX:=L })
def bK.eG (S:bK) (C:List (List Int)):bK:={ S with cI:=C }
def qH (S:bK) (e item a:Int):bK×Int :=
 if(S.aJ e).closed=true then(S,7)else if S.cX e item≠4 then(S,12)else
 match Eg ((S.aJ e).bE (2*item+0)).aX a with
 |(d,c,f)=>if f≠0 then(S,f)else
 match Eg (((S.mH e (2*item+0) d).aJ e).bE (2*item+1)).aX a with
 |(i,b,f)=>if f≠0 then(S,f)else
 match dS (((S.mH e (2*item+0) d).mH e (2*item+1) i).eG (S.cI.set e.toNat ((S.cI.getD e.toNat []).set item.toNat a))) e [⟨0,c+b⟩,⟨6,-c-b⟩]with
 |(h,f)=>if f≠0 then(S,f)else
 match eC h e item [0,0,0,0,0,0,0,0,0,0,c+b]with
 |(g,f)=>if f≠0 then(S,f)else(g,0)
def Lv {L:List bV} {d:tY} {a:Int} (h:jS 4 L d) (s:0<=a) {M:List bV} {i f:Int} (g:Eg L a=(M,i,f)):jS 4 M d/\(-288230376151711744<=i/\i<=288230376151711744)/\(f=0\/f=2):=by
 unfold Eg at g;have n:=gG h.lr.ok;have:=h.lr.q;have:=h.lr.v;have:=h.lr.p;have u:=Ej L;have j:=RK (a:=qs L) (b:=a) (c:=1) n.1 s;split at g
 .cases g;exact⟨h,⟨by omega,by omega⟩,.inl rfl⟩
 .rename_i o
  split at g
  .cases g;exact⟨h,⟨by omega,by omega⟩,.inr rfl⟩
  .cases g
   have r:1<=qs L:=by
    match L,o with
    |z::t,_ =>
     have:=eI.1 (h.lr.ok z (by simp));have:=(gG (l:=t) fun x m=>h.lr.ok x (by simp[m])).1;rw[gQ];omega
   have k:kS ⟨qs L,yJ (qs L) a 1,ps L⟩=true:=eI.2 ⟨r,by simp only;omega,j.1,j.2,by simp only;omega,by simp only;omega⟩;refine⟨⟨LR.one k,.inr (by simp),h.a0,h.b0,h.c0,?_,h.zero⟩,⟨by omega,by omega⟩,.inl rfl⟩;have:=h.sum;have e:qs [(⟨qs L,yJ (qs L) a 1,ps L⟩:bV)]=qs L:=by rw[gQ];simp[qs]
   omega
def I2 {a b c:Int} (h1:-9223372036854775808<=a/\a<=9223372036854775807) (f:-9223372036854775808<=b/\b<=9223372036854775807) (e:-9223372036854775808<=c/\c<=9223372036854775807):eW [a,b,c]:=by
 intro v d;simp only[a0c,a0b,or_false]at d;rcases d with rfl|rfl|rfl
 .exact⟨h1.1,h1.2⟩
 .exact⟨f.1,f.2⟩
 .exact⟨e.1,e.2⟩
def OpI.er {S:bK} {e loc dst q a ref f g:Int} (H:OpI S e item loc dst q a ref g) (h:1<=f/\f<=20):OpI S e item loc dst q a ref f:=⟨H.he,H.hi,H.hl,H.hd,H.hq,H.ha,H.hr,h,H.od,H.hn,H.hw,H.hm,H.hc⟩
def Gn.op {S:bK} {e loc dst q a ref:Int} (G:Gn S) (b:S.done<=1000000) (h1:0<=e/\e<=3) (i:0<=item/\item<=4) (h:0<=loc/\loc<=1) (g:0<=dst/\dst<=3) (f:0<=q/\q<=1073741824) (d:0<=a/\a<=1125899906842624) (c:0<=ref/\ref<=39):OpI S e item loc dst q a ref 1 :=
 ⟨h1,i,h,g,f,d,c,⟨by omega,by omega⟩,⟨⟨G.d0,b⟩,G.NU,G.OL,G.yP⟩,G.hn,G.hw,G.M7,G.Fg⟩
section
variable {S:bK} {e item loc dst q a ref:Int}
def Ix.eb (x:Ix S e item) (h:StOk S):0<=e/\e<=3:=by have:=x.e0;have:=x.e1;have:=h.hn;omega
def Ix.ib (x:Ix S e item) (h:StOk S):0<=item/\item<=4:=by have:=x.i0;have:=x.i1;have:=h.hw;omega
def Rj {v q n:Int} (d:1<=n) (c:0<=q) (b:q<=n) (a:qC v):qC (dM v q n)/\qC (v-dM v q n):=by
 have:=Aj d c b (fK.2 ⟨a.1,a.2⟩);rcases a20 v 0 with h|h
 .have:=this.2 h;exact⟨⟨by omega,by omega⟩,⟨by omega,by omega⟩⟩
 .have:=this.1 h;exact⟨⟨by omega,by omega⟩,⟨by omega,by omega⟩⟩
def agB {m:Int} {L:List bV} {p0 p1 p2 q:Int} (h:jS m L ⟨p0,p1,p2⟩) (h1:1<=q) (a:q<=p0):jS m L ⟨p0-q,p1,p2⟩:=by
 have:=h.a0;have:=h.b0;have:=h.c0;have:=h.sum;have:=h.zero;dsimp only at *;exact⟨h.lr,h.one,by dsimp only;omega,h.b0,h.c0,by dsimp only;omega,by dsimp only;omega⟩
def Pm (G:Gn S) (K:S.done<=1000000) (x:Ix S e item) (n:0<=loc/\loc<=1) (O:1<=q/\q<=1073741824) (L:0<=a/\a<=1125899906842624) :
  Ck 87 [S.av,eS 1 e item loc 0 q a 0] (.bG [(qI S e item loc q a).1.av,.i (qI S e item loc q a).2])/\oH S (qI S e item loc q a):=by
 have h:=G.toStOk;have H:=G.op K (x.eb h) (x.ib h) n (dst:=0) (by omega) (q:=q) (by omega) L (ref:=0) (by omega);unfold qI;have j:=gD h x;by_cases w:(S.aJ e).closed=true
 .rw[if_pos w]at j |-
  exact⟨cw (iJ [] [] [] [] DG) (ev3 H [] [] [] .nil) UH KbB (kc j kn),.bad G (by decide)⟩
 rw[if_neg w]at j |-;by_cases p:S.bB.length=40
 .rw[if_pos p]
  exact⟨cw (iJ [] [([([8],1)],40,40)] [] [] DH) (ev3 H [] [] [] .nil) UH KbC (kc j kn),.bad G (by decide)⟩
 rw[if_neg p];have p:S.bB.length<40:=by have:=G.NU;omega
 have u:=lI h x n.1 n.2 (y:=⟨q,a,0⟩) (show eW [q,a,0]from I2 (by omega) (by omega) (by omega));obtain⟨J,g1,P,N,D⟩:=mV h x n.1 n.2 ⟨q,a,0⟩;generalize eK S e item loc ⟨q,a,0⟩=b at *;obtain⟨S1,g,up,f⟩:=b;dsimp only at *;have m:=J;by_cases d:f=0;rotate_left
 .rw[if_pos d]
  obtain⟨c,rfl,rfl⟩:=D d;have c:=c.symm;subst c;have H:=H.er (f:=f) (by omega);exact⟨cw (iJ [] Kgh [] [] [DW,(145,WO,DR)]) (ev3 H [] [] [] .nil) UH Kbh (kc j (kc u kn)),.bad G g1⟩
 subst d;rw[if_neg (by simp)];clear D;obtain⟨t,rfl⟩:=m.ex;have A:=eM m.ok (m.ix x) (l:=[⟨0,g⟩,⟨6,up⟩,⟨1,-a⟩]) (vK fmo) (by simp);obtain⟨I,g2,C⟩:=eX m.ok (m.ix x) [⟨0,g⟩,⟨6,up⟩,⟨1,-a⟩];generalize dS (S.bQ t) e [⟨0,g⟩,⟨6,up⟩,⟨1,-a⟩]=b at *;obtain⟨R,f⟩:=b;dsimp only at *;have k:=m.trans I;by_cases d:f=0;rotate_left
 .rw[if_pos d]
  obtain c:=C d;have c:=c.symm;subst c;have H:=H.er (f:=f) (by omega);exact⟨cw (iJ [iK,iK] Kgh [] [] [DW,QN,(92,Yj,Kbi)]) (ev3 H [g,up] [] [bD t] .nil) UH Kbh (kc j (kc u (kc A kn))),.bad G g2⟩
 subst d;rw[if_neg (by simp)];clear C;obtain⟨z,rfl⟩:=k.ex;have E:=fQ k.ok (k.ix x) (r:=[0,g,0,0,0,0,0,0,0,0,0]) rfl;obtain⟨F,g3,B⟩:=gN k.ok (k.ix x) (r:=[0,g,0,0,0,0,0,0,0,0,0]) rfl;generalize eC (S.bQ z) e item [0,g,0,0,0,0,0,0,0,0,0]=b at *;obtain⟨Q,f⟩:=b;dsimp only at *;have s:=k.trans F;by_cases d:f=0;rotate_left
 .rw[if_pos d]
  obtain c:=B d;have c:=c.symm;subst c;have H:=H.er (f:=f) (by omega);exact⟨cw (iJ [iK,iK] Kgh [] [] [DW,QN,Qf,(124,Zy,Kbj)]) (ev3 H [g,up] [] [bD t,bD z] .nil) UH Kbh (kc j (kc u (kc A (kc E kn)))),.bad G g3⟩
 subst d;rw[if_neg (by simp)];clear B;obtain⟨M,rfl⟩:=s.ex;rw[aeM];refine⟨cw (iJ [iK,iK] Kgh [] [] [DW,QN,Qf,(124,Zy,KbE)]) (ev3 H [g,up] [] [bD t,bD z,bD M] .nil) UH (.bG [(.agg [.o 0,.o 1,.q 1 1,.q 1 2,.q 1 3,.q 8 9,(.seq 8 4 [] [[.v 0,.v 1,.v 2,.v 4,.v 5,.v 4,.v 5,.i 0]]),.q 9 5,.q 6 6,.v 7]),.i 0]) (kc j (kc u (kc A (kc E kn)))),.ok s ((s.gn G).xO p (ajX (x:=⟨e,item,loc,q,a,q,a,0⟩) (by rw[s.len];exact x.en) x.iw (by dsimp only;omega))) rfl rfl rfl rfl rfl rfl⟩
def aiI (G:Gn S) (N:S.done<=1000000) (x:Ix S e item) (n:0<=loc/\loc<=1) (R:1<=q/\q<=1073741824) (O:0<=a/\a<=1125899906842624) :
  Ck 139 [S.av,eS 4 e item loc 0 q a 0] (.bG [(IB S e item loc q a).1.av,.i (IB S e item loc q a).2])/\oH S (IB S e item loc q a):=by
 have h:=G.toStOk;have H:=G.op N (x.eb h) (x.ib h) n (dst:=0) (by omega) (q:=q) (by omega) O (ref:=0) (by omega);unfold IB;have j:=gD h x;by_cases y:(S.aJ e).closed=true
 .rw[if_pos y]at j |-
  exact⟨cw (iJ [] [] [] [] DG) (ev3 H [] [] [] .nil) UI KbB (kc j kn),.bad G (by decide)⟩
 rw[if_neg y]at j |-;by_cases t:S.aN.length=40
 .rw[if_pos t]
  exact⟨cw (iJ [] [([([9],1)],40,40)] [] [] DH) (ev3 H [] [] [] .nil) UI KbC (kc j kn),.bad G (by decide)⟩
 rw[if_neg t];have t:S.aN.length<40:=by have:=G.OL;omega
 have w:=mL h x (kind:=0) n.1 n.2 (by omega) (q:=q) ⟨by omega,by omega⟩;obtain⟨L,g1,Q,ib,D⟩:=mT h x (kind:=0) n.1 n.2 (by omega) (by omega) q;generalize dU S e item loc 0 q=b at *;obtain⟨S1,⟨xq,xv,xp⟩,s,f⟩:=b;dsimp only at *;have m:=L;by_cases g:f=0;rotate_left
 .rw[if_pos g]
  obtain⟨c,M,rfl⟩:=D g;cases M;have c:=c.symm;subst c;have H:=H.er (f:=f) (by omega);exact⟨cw (iJ [] [KgI] [] [] [DW,(217,Du,Uc)]) (ev3 H [] [] [] .nil) UI Kbh (kc j (kc w kn)),.bad G g1⟩
 subst g;rw[if_neg (by simp)];clear D;obtain⟨u,rfl⟩:=m.ex;have A:=eM m.ok (m.ix x) (l:=[⟨3,a⟩,⟨4,-a⟩,⟨5,xv⟩,⟨0,-xv⟩]) (vK fmo) (by simp);obtain⟨K,g2,C⟩:=eX m.ok (m.ix x) [⟨3,a⟩,⟨4,-a⟩,⟨5,xv⟩,⟨0,-xv⟩];generalize dS (S.bQ u) e [⟨3,a⟩,⟨4,-a⟩,⟨5,xv⟩,⟨0,-xv⟩]=b at *;obtain⟨U,f⟩:=b;dsimp only at *;have k:=m.trans K;by_cases g:f=0;rotate_left
 .rw[if_pos g]
  obtain c:=C g;have c:=c.symm;subst c;have H:=H.er (f:=f) (by omega);exact⟨cw (iJ [iK] [KgI] [] [] [DW,Qu,(92,Q1,Kbi)]) (ev3 H [xv] [.I xq,.I xp,.bool s] [bD u] .nil) UI Kbh (kc j (kc w (kc A kn))),.bad G g2⟩
 subst g;rw[if_neg (by simp)];clear C;obtain⟨z,rfl⟩:=k.ex;have F:=fQ k.ok (k.ix x) (r:=[0,0,0,0,0,xv,0,0,0,0,0]) rfl;obtain⟨J,g3,B⟩:=gN k.ok (k.ix x) (r:=[0,0,0,0,0,xv,0,0,0,0,0]) rfl;generalize eC (S.bQ z) e item [0,0,0,0,0,xv,0,0,0,0,0]=b at *;obtain⟨T,f⟩:=b;dsimp only at *;have p:=k.trans J;by_cases g:f=0;rotate_left
 .rw[if_pos g]
  obtain c:=B g;have c:=c.symm;subst c;have H:=H.er (f:=f) (by omega);exact⟨cw (iJ [iK] [KgI] [] [] [DW,Qu,JF,(124,Zz,Kbj)]) (ev3 H [xv] [.I xq,.I xp,.bool s] [bD u,bD z] .nil) UI Kbh (kc j (kc w (kc A (kc F kn)))),.bad G g3⟩
 subst g;rw[if_neg (by simp)];clear B;obtain⟨P,rfl⟩:=p.ex;have E:=h.at_ x;have:=(h.zN x).now;have:=x.e0;have:=x.e1;have:=h.hn;rw[aeL];refine⟨cw (iJ [iK] [KgI,Keb] [] [(0,[([0],1)],[.o 5,.o 6,.q 4 10,.q 1 11,.q 11 12,.q 1 13,.q 1 14,.q 8 15])] [DW,Qu,JF,(124,Zz,KbE)]) (ev3 H [xv] [.I xq,.I xp,.bool s,.I (S.aJ e).now,.bool (S.aJ e).closed] [bD u,bD z,bD P,bP (S.aJ e).bH,aA (S.aJ e).cU,bM (S.aJ e).aM,aA (S.aJ e).aZ,aA (S.aJ e).down,bW (S.aJ e).ahead] (.d (aE E) .nil)) UI (.bG [(.agg [.o 0,.o 1,.q 1 1,.q 1 2,.q 1 3,.q 8 9,.q 8 4,(.seq 9 5 [] [[.v 0,.v 1,.v 2,.v 4,.i 0,.v 14,.o 3,.o 5,.o 4]]),.q 6 6,.v 7]),.i 0]) (kc j (kc w (kc A (kc F kn)))),.ok p ((p.gn G).vI t (ajR (x:=⟨e,item,loc,q,0,xv,xp,(S.aJ e).now,s⟩) (by rw[p.len];exact x.en) x.iw (by dsimp only;omega)) (Int.le_of_eq (p.now e).symm)) rfl rfl rfl rfl rfl rfl⟩
def adV (G:Gn S) (F:S.done<=1000000) (x:Ix S e item) (m:0<=loc/\loc<=1) (L:1<=q/\q<=1073741824) :
  Ck 140 [S.av,eS 6 e item loc 0 q 0 0] (.bG [(yR S e item loc q).1.av,.i (yR S e item loc q).2])/\oH S (yR S e item loc q):=by
 have h:=G.toStOk;have H:=G.op F (x.eb h) (x.ib h) m (dst:=0) (by omega) (q:=q) (by omega) (a:=0) (by omega) (ref:=0) (by omega);unfold yR;have g:=gD h x;by_cases p:(S.aJ e).closed=true
 .rw[if_pos p]at g |-
  exact⟨cw (iJ [] [] [] [] DG) (ev3 H [] [] [] .nil) UJ KbB (kc g kn),.bad G (by decide)⟩
 rw[if_neg p]at g |-;have o:=mL h x (kind:=1) m.1 m.2 (by omega) (q:=q) ⟨by omega,by omega⟩;obtain⟨D,g1,K,ib,z⟩:=mT h x (kind:=1) m.1 m.2 (by omega) (by omega) q;generalize dU S e item loc 1 q=b at *;obtain⟨S1,⟨xq,xv,xp⟩,s,f⟩:=b;dsimp only at *;have k:=D;by_cases d:f=0;rotate_left
 .rw[if_pos d]
  obtain⟨c,E,rfl⟩:=z d;cases E;have c:=c.symm;subst c;have H:=H.er (f:=f) (by omega);exact⟨cw (iJ [] [] [] [] [DW,(217,Dw,Uc)]) (ev3 H [] [] [] .nil) UJ Kbh (kc g (kc o kn)),.bad G g1⟩
 subst d;rw[if_neg (by simp)];clear z;obtain⟨n,rfl⟩:=k.ex;have v:=eM k.ok (k.ix x) (l:=[⟨7,xv⟩,⟨0,-xv⟩]) (vK fmo) (by simp);obtain⟨C,g2,y⟩:=eX k.ok (k.ix x) [⟨7,xv⟩,⟨0,-xv⟩];generalize dS (S.bQ n) e [⟨7,xv⟩,⟨0,-xv⟩]=b at *;obtain⟨N,f⟩:=b;dsimp only at *;have j:=k.trans C;by_cases d:f=0;rotate_left
 .rw[if_pos d]
  obtain c:=y d;have c:=c.symm;subst c;have H:=H.er (f:=f) (by omega);exact⟨cw (iJ [iK] [] [] [] [DW,Qv,(92,U5,Kbi)]) (ev3 H [xv] [.I xq,.I xp,.bool s] [bD n] .nil) UJ Kbh (kc g (kc o (kc v kn))),.bad G g2⟩
 subst d;rw[if_neg (by simp)];clear y;obtain⟨u,rfl⟩:=j.ex;have A:=fQ j.ok (j.ix x) (r:=[0,0,0,0,0,0,0,0,xv,0,0]) rfl;obtain⟨B,g3,w⟩:=gN j.ok (j.ix x) (r:=[0,0,0,0,0,0,0,0,xv,0,0]) rfl;generalize eC (S.bQ u) e item [0,0,0,0,0,0,0,0,xv,0,0]=b at *;obtain⟨M,f⟩:=b;dsimp only at *;have t:=j.trans B;by_cases d:f=0;rotate_left
 .rw[if_pos d]
  obtain c:=w d;have c:=c.symm;subst c;have H:=H.er (f:=f) (by omega);exact⟨cw (iJ [iK] [] [] [] [DW,Qv,QJ,(124,ZA,Kbj)]) (ev3 H [xv] [.I xq,.I xp,.bool s] [bD n,bD u] .nil) UJ Kbh (kc g (kc o (kc v (kc A kn)))),.bad G g3⟩
 subst d;rw[if_neg (by simp)];clear w;obtain⟨J,rfl⟩:=t.ex;refine⟨cw (iJ [iK] [] [] [] [DW,Qv,QJ,(124,ZA,KbE)]) (ev3 H [xv] [.I xq,.I xp,.bool s] [bD n,bD u,bD J] .nil) UJ KbE (kc g (kc o (kc v (kc A kn)))),.ok t (t.gn G) rfl rfl rfl rfl rfl rfl⟩
def aiJ (G:Gn S) (T:S.done<=1000000) (x:Ix S e item) (p:0<=loc/\loc<=1) (w:0<=dst/\dst<=1) (Y:1<=q/\q<=1073741824) :
  Ck 140 [S.av,eS 8 e item loc dst q 0 0] (.bG [(IN S e item loc dst q).1.av,.i (IN S e item loc dst q).2])/\oH S (IN S e item loc dst q):=by
 have h:=G.toStOk;have H:=G.op T (x.eb h) (x.ib h) p (dst:=dst) (by omega) (q:=q) (by omega) (a:=0) (by omega) (ref:=0) (by omega);unfold IN;have j:=gD h x;by_cases B:(S.aJ e).closed=true
 .rw[if_pos B]at j |-
  exact⟨cw (iJ [] [] [] [] DG) (ev3 H [] [] [] .nil) UK KbB (kc j kn),.bad G (by decide)⟩
 rw[if_neg B]at j |-;have t:=mL h x (kind:=3) p.1 p.2 (by omega) (q:=q) ⟨by omega,by omega⟩;obtain⟨Q,g1,W,ib,L⟩:=mT h x (kind:=3) p.1 p.2 (by omega) (by omega) q;generalize dU S e item loc 3 q=b at *;obtain⟨S1,⟨xq,xv,xp⟩,u,f⟩:=b;dsimp only at *;have n:=Q;by_cases d:f=0;rotate_left
 .rw[if_pos d]
  obtain⟨c,R,rfl⟩:=L d;cases R;have c:=c.symm;subst c;have H:=H.er (f:=f) (by omega);exact⟨cw (iJ [] [] [] [] Jj) (ev3 H [] [] [] .nil) UK Kbh (kc j (kc t kn)),.bad G g1⟩
 subst d;rw[if_neg (by simp)];clear L;obtain⟨s,rfl⟩:=n.ex;have A:=lI n.ok (n.ix x) w.1 w.2 (y:=⟨xq,xv,xp⟩) (show eW [xq,xv,xp]from I2 (by omega) (by omega) (by omega));obtain⟨P,g2,Z,X,K⟩:=mV n.ok (n.ix x) w.1 w.2 ⟨xq,xv,xp⟩;generalize eK (S.bQ s) e item dst ⟨xq,xv,xp⟩=b at *;obtain⟨S2,g,up,f⟩:=b;dsimp only at *;have m:=n.trans P;by_cases d:f=0;rotate_left
 .rw[if_pos d]
  obtain⟨c,rfl,rfl⟩:=K d;have c:=c.symm;subst c;have H:=H.er (f:=f) (by omega);exact⟨cw (iJ [iK] [] [] [] [DW,(217,Dx,Wq),(145,[Kf0,.v 0,.v 1,.v 3,(.agg [.o 2,.v 14,.o 3])],(.bG [Kf0,.i 0,.i 0,.v 13]))]) (ev3 H [xv] [.I xq,.I xp,.bool u] [bD s] .nil) UK Kbh (kc j (kc t (kc A kn))),.bad G g2⟩
 subst d;rw[if_neg (by simp)];clear K;obtain⟨z,rfl⟩:=m.ex;have E:=eM m.ok (m.ix x) (l:=[⟨0,g-xv⟩,⟨6,up⟩]) (vK fmo) (by simp);obtain⟨O,g3,J⟩:=eX m.ok (m.ix x) [⟨0,g-xv⟩,⟨6,up⟩];generalize dS (S.bQ z) e [⟨0,g-xv⟩,⟨6,up⟩]=b at *;obtain⟨S3,f⟩:=b;dsimp only at *;have k:=m.trans O;by_cases d:f=0;rotate_left
 .rw[if_pos d]
  obtain c:=J d;have c:=c.symm;subst c;have H:=H.er (f:=f) (by omega);exact⟨cw (iJ [iK,iK,iK] [] [] [] [DW,Qw,QK,(92,Yv,Kbj)]) (ev3 H [g,up,xv] [.I xq,.I xp,.bool u] [bD s,bD z] .nil) UK Kbh (kc j (kc t (kc A (kc E kn)))),.bad G g3⟩
 subst d;rw[if_neg (by simp)];clear J;obtain⟨D,rfl⟩:=k.ex;have M:=fQ k.ok (k.ix x) (r:=[0,0,0,0,0,0,0,0,0,0,g-xv]) rfl;obtain⟨N,U,F⟩:=gN k.ok (k.ix x) (r:=[0,0,0,0,0,0,0,0,0,0,g-xv]) rfl;generalize eC (S.bQ D) e item [0,0,0,0,0,0,0,0,0,0,g-xv]=b at *;obtain⟨S4,f⟩:=b;dsimp only at *;have C:=k.trans N;by_cases d:f=0;rotate_left
 .rw[if_pos d]
  obtain c:=F d;have c:=c.symm;subst c;have H:=H.er (f:=f) (by omega);exact⟨cw (iJ [iK,iK,iK] [] [] [] [DW,Qw,QK,Qi,(124,Qy,Kbk)]) (ev3 H [g,up,xv] [.I xq,.I xp,.bool u] [bD s,bD z,bD D] .nil) UK Kbh (kc j (kc t (kc A (kc E (kc M kn))))),.bad G U⟩
 subst d;rw[if_neg (by simp)];clear F;obtain⟨V,rfl⟩:=C.ex;refine⟨cw (iJ [iK,iK,iK] [] [] [] [DW,Qw,QK,Qi,(124,Qy,Kbl)]) (ev3 H [g,up,xv] [.I xq,.I xp,.bool u] [bD s,bD z,bD D,bD V] .nil) UK Kbl (kc j (kc t (kc A (kc E (kc M kn))))),.ok C (C.gn G) rfl rfl rfl rfl rfl rfl⟩
def aiz (G:Gn S) (hd:S.done<=1000000) (hq:1<=q/\q<=1073741824) (ha:0<=a/\a<=1125899906842624) (hr:0<=ref/\ref<=39) :
  Ck 139 [S.av,eS 5 0 0 0 0 q a ref] (.bG [(It S ref q a).1.av,.i (It S ref q a).2])/\oH S (It S ref q a):=by
 have h:=G.toStOk;unfold It;cases k:S.aN[ref.toNat]? with
 |none =>
  have H:=G.op hd (e:=0) (by omega) (item:=0) (by omega) (loc:=0) (by omega) (dst:=0) (by omega) (q:=q) (by omega) ha hr;have:=a3f.1 k;exact⟨cw (iJ [] [([([6],1),([9],-1)],0,1152921504606846976)] [] [] []) (ev3 H [] [] [] .nil) UL KbF kn,.bad G (by decide)⟩
 |some s =>
  have hm:=a0a k;have aa:=G.pb s hm;have B:=G.C8 s hm;have:=(a0y.1 k).1;have:=G.OL;obtain⟨e,item,loc,m,t,sc,w,st,sw⟩:=s;dsimp only at *;obtain⟨b1,b2,D,b4,b5,b6,b7,b8⟩:=B;dsimp only at *;have x:Ix S e item:=⟨b1.1,b1.2,b2.1,b2.2⟩;have H:=G.op hd (x.eb h) (x.ib h) D (dst:=0) (by omega) (q:=q) (by omega) ha hr;have E:=gD h x;by_cases ad:(S.aJ e).closed=true
  .rw[if_pos ad]at E |-
   exact⟨cw (iJ Dy [Kec] [] V7 DG) (ev3 H [m,t,sc,w,st] [.bool sw] [] (.d (aV k) .nil)) UL KbB (kc E kn),.bad G (by decide)⟩
  rw[if_neg ad]at E |-;by_cases ac:m-t<q
  .rw[if_pos ac]
   exact⟨cw (iJ Dy [Kec,([([4],1),([14],-1),([15],1)],1,1152921504606846976)] [] V7 DH) (ev3 H [m,t,sc,w,st] [.bool sw] [] (.d (aV k) .nil)) UL KbG (kc E kn),.bad G (by decide)⟩
  rw[if_neg ac];have K:=h.at_ x;have:=x.e0;have:=x.e1;have:=h.hn;have:=(h.zN x).now;have T:=kO (v:=sc) (q:=q) (n:=m-t) ⟨by omega,by omega⟩ ⟨by omega,by omega⟩ ⟨by omega,by omega⟩;have R:=kO (v:=w) (q:=q) (n:=m-t) ⟨by omega,by omega⟩ ⟨by omega,by omega⟩ ⟨by omega,by omega⟩;obtain⟨c1,c2⟩:=Rj (v:=sc) (q:=q) (n:=m-t) (by omega) (by omega) (by omega) b6;obtain⟨c3,c4⟩:=Rj (v:=w) (q:=q) (n:=m-t) (by omega) (by omega) (by omega) b7;unfold yQ;dsimp only;generalize dM sc q (m-t)=c at *;generalize dM w q (m-t)=C at *;cases sw with
  |false =>
   rw[if_neg (by simp)];have J:=lI h x D.1 D.2 (y:=⟨q,c,C⟩) (show eW [q,c,C]from I2 (by omega) (by omega) (by omega));obtain⟨Z,g1,cb,ub,X⟩:=mV h x D.1 D.2 ⟨q,c,C⟩;generalize eK S e item loc ⟨q,c,C⟩=b at *;obtain⟨S1,z,up,f⟩:=b;dsimp only at *;have u:=Z;by_cases j:f=0;rotate_left
   .rw[if_pos j]
    obtain⟨g,rfl,rfl⟩:=X j;have g:=g.symm;subst g;have H:=H.er (f:=f) (by omega);exact⟨cw (iJ [Kg3,Kg3,iK,iK,(0,100),iK,iK] YL [] YM KF) (ev3 H [m,t,sc,w,st,c,C] [] [] (.d (aV k) .nil)) UL Kbh (kc E (kc T (kc R (kc J kn)))),.bad G g1⟩
   subst j;rw[if_neg (by simp)];clear X;obtain⟨F,rfl⟩:=u.ex;have O:=eM u.ok (u.ix x) (l:=[⟨4,a⟩,⟨3,-a⟩,⟨0,z⟩,⟨6,up⟩,⟨5,-c⟩]) (vK fmo) (by simp);obtain⟨Y,g2,Q⟩:=eX u.ok (u.ix x) [⟨4,a⟩,⟨3,-a⟩,⟨0,z⟩,⟨6,up⟩,⟨5,-c⟩];generalize dS (S.bQ F) e [⟨4,a⟩,⟨3,-a⟩,⟨0,z⟩,⟨6,up⟩,⟨5,-c⟩]=b at *;obtain⟨S2,f⟩:=b;dsimp only at *;have A:=u.trans Y;by_cases j:f=0;rotate_left
   .rw[if_pos j]
    obtain g:=Q j;have g:=g.symm;subst g;have H:=H.er (f:=f) (by omega);exact⟨cw (iJ WD YL [] YM [DW,Gi,Gj,QE,(92,Qk,Kbi)]) (ev3 H [m,t,sc,w,st,c,C,z,up] [] [bD F] (.d (aV k) .nil)) UL Kbh (kc E (kc T (kc R (kc J (kc O kn))))),.bad G g2⟩
   subst j;rw[if_neg (by simp)];clear Q;obtain⟨N,rfl⟩:=A.ex;have C3:=fQ A.ok (A.ix x) (r:=[0,0,0,0,z,0,0,0,0,0,0]) rfl;obtain⟨k3,g3,W⟩:=gN A.ok (A.ix x) (r:=[0,0,0,0,z,0,0,0,0,0,0]) rfl;generalize eC (S.bQ N) e item [0,0,0,0,z,0,0,0,0,0,0]=b at *;obtain⟨S3,f⟩:=b;dsimp only at *;have M:=A.trans k3;by_cases j:f=0;rotate_left
   .rw[if_pos j]
    obtain g:=W j;have g:=g.symm;subst g;have H:=H.er (f:=f) (by omega);exact⟨cw (iJ WD YL [] YM [DW,Gi,Gj,QE,Js,(124,ZB,Kbj)]) (ev3 H [m,t,sc,w,st,c,C,z,up] [] [bD F,bD N] (.d (aV k) .nil)) UL Kbh (kc E (kc T (kc R (kc J (kc O (kc C3 kn)))))),.bad G g3⟩
   subst j;rw[if_neg (by simp)];clear W;obtain⟨E3,rfl⟩:=M.ex;rw[Mk];refine⟨cw (iJ WD YL [] YM [DW,Gi,Gj,QE,Js,(124,ZB,KbE)]) (ev3 H [m,t,sc,w,st,c,C,z,up] [] [bD F,bD N,bD E3] (.d (aV k) .nil)) UL (.bG [(.agg [.o 0,.o 1,.q 1 1,.q 1 2,.q 1 3,.q 8 9,.q 8 4,(.seq 9 5 [([([6],1)],[.v 0,.v 1,.v 2,.v 14,Kfm,(.e [([16],1),([19],(-1))]),KdK,.v 18,Kgb])] []),.q 6 6,.v 7]),.i 0]) (kc E (kc T (kc R (kc J (kc O (kc C3 kn)))))),.ok M ((M.gn G).rD (ajR (x:=⟨e,item,loc,m,q+t,sc-c,w-C,st,false⟩) (by rw[M.len];exact x.en) x.iw (by dsimp only;omega)) (by rw[show(((S.bQ E3).aJ e).now)=(S.aJ e).now from M.now e];exact aa)) rfl rfl rfl rfl rfl rfl⟩
  |true =>
   by_cases ab:st=(S.aJ e).now;rotate_left
   .rw[if_neg (by simp[ab])]
    have J:=lI h x D.1 D.2 (y:=⟨q,c,C⟩) (show eW [q,c,C]from I2 (by omega) (by omega) (by omega));obtain⟨Z,g1,cb,ub,X⟩:=mV h x D.1 D.2 ⟨q,c,C⟩;generalize eK S e item loc ⟨q,c,C⟩=b at *;obtain⟨S1,z,up,f⟩:=b;dsimp only at *;have u:=Z;by_cases j:f=0;rotate_left
    .rw[if_pos j]
     obtain⟨g,rfl,rfl⟩:=X j;have g:=g.symm;subst g;have H:=H.er (f:=f) (by omega);exact⟨cw (iJ [Kg3,Kg3,iK,iK,(0,100),iK,iK,(-100,100)] [Kec,HN,Keb,([([18],-1),([21],1)],1,200)] [] [Ud,(0,[([0],1)],[.v 21,.o 2,.q 4 7,.q 1 8,.q 11 9,.q 1 10,.q 1 11,.q 8 12])] KF) (ev3 H [m,t,sc,w,st,c,C,(S.aJ e).now] [.bool (S.aJ e).closed] [bP (S.aJ e).bH,aA (S.aJ e).cU,bM (S.aJ e).aM,aA (S.aJ e).aZ,aA (S.aJ e).down,bW (S.aJ e).ahead] (.d (aV k) (.d (aE K) .nil))) UL Kbh (kc E (kc T (kc R (kc J kn)))),.bad G g1⟩
    subst j;rw[if_neg (by simp)];clear X;obtain⟨F,rfl⟩:=u.ex;have O:=eM u.ok (u.ix x) (l:=[⟨4,a⟩,⟨3,-a⟩,⟨0,z⟩,⟨6,up⟩,⟨5,-c⟩]) (vK fmo) (by simp);obtain⟨Y,g2,Q⟩:=eX u.ok (u.ix x) [⟨4,a⟩,⟨3,-a⟩,⟨0,z⟩,⟨6,up⟩,⟨5,-c⟩];generalize dS (S.bQ F) e [⟨4,a⟩,⟨3,-a⟩,⟨0,z⟩,⟨6,up⟩,⟨5,-c⟩]=b at *;obtain⟨S2,f⟩:=b;dsimp only at *;have A:=u.trans Y;by_cases j:f=0;rotate_left
    .rw[if_pos j]
     obtain g:=Q j;have g:=g.symm;subst g;have H:=H.er (f:=f) (by omega);exact⟨cw (iJ Ve JY [] Jx [DW,Gi,Gj,Qz,(92,Qj,(.bG [KfM,.v 13]))]) (ev3 H [m,t,sc,w,st,c,C,z,up,(S.aJ e).now] [.bool (S.aJ e).closed] [bP (S.aJ e).bH,aA (S.aJ e).cU,bM (S.aJ e).aM,aA (S.aJ e).aZ,aA (S.aJ e).down,bW (S.aJ e).ahead,bD F] (.d (aV k) (.d (aE K) .nil))) UL Kbh (kc E (kc T (kc R (kc J (kc O kn))))),.bad G g2⟩
    subst j;rw[if_neg (by simp)];clear Q;obtain⟨N,rfl⟩:=A.ex;have C3:=fQ A.ok (A.ix x) (r:=[0,0,0,0,z,0,0,0,0,0,0]) rfl;obtain⟨k3,g3,W⟩:=gN A.ok (A.ix x) (r:=[0,0,0,0,z,0,0,0,0,0,0]) rfl;generalize eC (S.bQ N) e item [0,0,0,0,z,0,0,0,0,0,0]=b at *;obtain⟨S3,f⟩:=b;dsimp only at *;have M:=A.trans k3;by_cases j:f=0;rotate_left
    .rw[if_pos j]
     obtain g:=W j;have g:=g.symm;subst g;have H:=H.er (f:=f) (by omega);exact⟨cw (iJ Ve JY [] Jx [DW,Gi,Gj,Qz,Jq,(124,Zt,Ka1)]) (ev3 H [m,t,sc,w,st,c,C,z,up,(S.aJ e).now] [.bool (S.aJ e).closed] [bP (S.aJ e).bH,aA (S.aJ e).cU,bM (S.aJ e).aM,aA (S.aJ e).aZ,aA (S.aJ e).down,bW (S.aJ e).ahead,bD F,bD N] (.d (aV k) (.d (aE K) .nil))) UL Kbh (kc E (kc T (kc R (kc J (kc O (kc C3 kn)))))),.bad G g3⟩
    subst j;rw[if_neg (by simp)];clear W;obtain⟨E3,rfl⟩:=M.ex;rw[Mk];refine⟨cw (iJ Ve JY [] Jx [DW,Gi,Gj,Qz,Jq,(124,Zt,Kbm)]) (ev3 H [m,t,sc,w,st,c,C,z,up,(S.aJ e).now] [.bool (S.aJ e).closed] [bP (S.aJ e).bH,aA (S.aJ e).cU,bM (S.aJ e).aM,aA (S.aJ e).aZ,aA (S.aJ e).down,bW (S.aJ e).ahead,bD F,bD N,bD E3] (.d (aV k) (.d (aE K) .nil))) UL (.bG [(.agg [.o 0,.o 1,.q 1 1,.q 1 2,.q 1 3,.q 8 15,.q 8 4,(.seq 9 5 [([([6],1)],[.v 0,.v 1,.v 2,.v 14,Kfm,(.e [([16],1),([19],(-1))]),KdK,.v 18,Kgm])] []),.q 6 6,.v 7]),.i 0]) (kc E (kc T (kc R (kc J (kc O (kc C3 kn)))))),.ok M ((M.gn G).rD (ajR (x:=⟨e,item,loc,m,q+t,sc-c,w-C,st,true⟩) (by rw[M.len];exact x.en) x.iw (by dsimp only;omega)) (by rw[show(((S.bQ E3).aJ e).now)=(S.aJ e).now from M.now e];exact aa)) rfl rfl rfl rfl rfl rfl⟩
   rw[if_pos ⟨rfl,ab⟩];unfold CV;have U:=h.AS x D.1 D.2;have Ca:=lT h x D.1 D.2;dsimp only;generalize (S.aJ e).bE (2*item+loc)=P at *;obtain⟨L,p0,p1,p2⟩:=P;have:=U.pnd.a0;have:=U.pnd.a1;dsimp only[dI.pn]at *;have Cb:=acd (L:=L) (p0:=p0) (p1:=p1) (p2:=p2) (q:=q) U.lr.len (by omega) hq;by_cases V:p0<q
   .rw[if_pos V]
    rw[if_pos V,if_pos V]at Cb;exact⟨cw (iJ W5 J2 [] Jy [DW,U6,(218,Bl,(.bG [KcG,.i 5]))]) (ev3 H [m,t,sc,w,st,(S.aJ e).now] [.bool (S.aJ e).closed,.I p0,.I p1,.I p2] [bP (S.aJ e).bH,aA (S.aJ e).cU,bM (S.aJ e).aM,aA (S.aJ e).aZ,aA (S.aJ e).down,bW (S.aJ e).ahead,aO L] (.d (aV k) (.d (aE K) .nil))) UL KbG (kc E (kc Ca (kc Cb kn))),.bad G (by decide)⟩
   rw[if_neg V];rw[if_neg V,if_neg V]at Cb;have J:=sK h x D.1 D.2 ⟨L,p0-q,p1,p2⟩;have Z:=jK h x D.1 D.2 (p:=⟨L,p0-q,p1,p2⟩) (agB U (by omega) (by omega));generalize S.bJ e ((S.aJ e).bX (2*item+loc) ⟨L,p0-q,p1,p2⟩)=S1 at *;have u:=Z;obtain⟨F,rfl⟩:=u.ex;have O:=eM u.ok (u.ix x) (l:=[⟨4,a⟩,⟨3,-a⟩]) (vK fmo) (by simp);obtain⟨Y,g2,Q⟩:=eX u.ok (u.ix x) [⟨4,a⟩,⟨3,-a⟩];generalize dS (S.bQ F) e [⟨4,a⟩,⟨3,-a⟩]=b at *;obtain⟨S2,f⟩:=b;dsimp only at *;have A:=u.trans Y;by_cases j:f=0;rotate_left
   .rw[if_pos j]
    obtain g:=Q j;have g:=g.symm;subst g;have H:=H.er (f:=f) (by omega);exact⟨cw (iJ W5 J2 [] Jy [DW,U6,ZO,ZC,(92,Vf,Ka1)]) (ev3 H [m,t,sc,w,st,(S.aJ e).now] [.bool (S.aJ e).closed,.I p0,.I p1,.I p2,.I (p0-q)] [bP (S.aJ e).bH,aA (S.aJ e).cU,bM (S.aJ e).aM,aA (S.aJ e).aZ,aA (S.aJ e).down,bW (S.aJ e).ahead,aO L,bD F] (.d (aV k) (.d (aE K) .nil))) UL Kbh (kc E (kc Ca (kc Cb (kc J (kc O kn))))),.bad G g2⟩
   subst j;rw[if_neg (by simp)];clear Q;obtain⟨N,rfl⟩:=A.ex;rw[Mk];refine⟨cw (iJ W5 J2 [] Jy [DW,U6,ZO,ZC,(92,Vf,Kbm)]) (ev3 H [m,t,sc,w,st,(S.aJ e).now] [.bool (S.aJ e).closed,.I p0,.I p1,.I p2,.I (p0-q)] [bP (S.aJ e).bH,aA (S.aJ e).cU,bM (S.aJ e).aM,aA (S.aJ e).aZ,aA (S.aJ e).down,bW (S.aJ e).ahead,aO L,bD F,bD N] (.d (aV k) (.d (aE K) .nil))) UL (.bG [(.agg [.o 0,.o 1,.q 1 1,.q 1 2,.q 1 3,.q 8 15,.q 8 4,(.seq 9 5 [([([6],1)],[.v 0,.v 1,.v 2,.v 14,Kfm,.v 16,.v 17,.v 18,Kgm])] []),.q 6 6,.v 7]),.i 0]) (kc E (kc Ca (kc Cb (kc J (kc O kn))))),.ok A ((A.gn G).rD (ajR (x:=⟨e,item,loc,m,q+t,sc,w,st,true⟩) (by rw[A.len];exact x.en) x.iw (by dsimp only;omega)) (by rw[show(((S.bQ N).aJ e).now)=(S.aJ e).now from A.now e];exact aa)) rfl rfl rfl rfl rfl rfl⟩
end
end
section
open Mc
def Pw {e item loc rq rv ro ra rb q:Int} (c:1<=q) (h1:q<=ro) (h:ro<=1073741824) (g:0<=ra) (f:ra<=1125899906842624):Ck 223 [.agg (jF [e,item,loc,rq,rv,ro,ra,rb]),.i q] (.i (xW ⟨e,item,loc,rq,rv,ro,ra,rb⟩ q)):=by
 have b:=kO (v:=ra) (q:=q) (n:=ro) ⟨by omega,by omega⟩ ⟨by omega,by omega⟩ ⟨by omega,by omega⟩;unfold xW;dsimp only;generalize dM ra q ro=d at *;by_cases a:q=ro
 .rw[if_pos a];exact cw _ (ev1 { vars:=Gk,facts:=[(Kgc,0,0)] } [ro,q,ra] [.I e,.I item,.I loc,.I rq,.I rv,.I rb,.I d] [] .nil) Hq (.v 2) kn
 .rw[if_neg a];exact cw _ (ev1 { vars:=Gk,facts:=[(Kgc,1,1099511627776)],bR:=[(149,[.v 2,.v 1,.v 0],(.o 6))] } [ro,q,ra] [.I e,.I item,.I loc,.I rq,.I rv,.I rb,.I d] [] .nil) Hq (.o 6) (kc b kn)
section
variable {S:bK} {e item loc dst q a ref:Int}
def amX (G:Gn S) (w:S.done<=1000000) (J:1<=q/\q<=1073741824) (y:0<=a/\a<=1125899906842624) (u:0<=ref/\ref<=39) :
  Ck 141 [S.av,eS 2 0 0 0 0 q a ref] (.bG [(Xa S ref q a).1.av,.i (Xa S ref q a).2])/\oH S (Xa S ref q a):=by
 have h:=G.toStOk;unfold Xa;cases c:S.bB[ref.toNat]? with
 |none =>
  have H:=G.op w (e:=0) (by omega) (item:=0) (by omega) (loc:=0) (by omega) (dst:=0) (by omega) (q:=q) (by omega) y u;have:=a3f.1 c;exact⟨cw (iJ [] DX [] [] []) (ev3 H [] [] [] .nil) UM KbF kn,.bad G (by decide)⟩
 |some s =>
  have D:=a0a c;have B:=G.II s D;have:=(a0y.1 c).1;have:=G.NU;obtain⟨e,item,loc,rq,rv,ro,ra,rb⟩:=s;obtain⟨b1,b2,E,O,N,M,L,K⟩:=B;dsimp only at *;have x:Ix S e item:=⟨b1.1,b1.2,b2.1,b2.2⟩;have H:=G.op w (x.eb h) (x.ib h) E (dst:=0) (by omega) (q:=q) (by omega) y u;have g:=gD h x;by_cases m:(S.aJ e).closed=true
  .rw[if_pos m]at g |-
   exact⟨cw (iJ Yb [Ked] [] WG DG) (ev3 H [rq,rv,ro,ra,rb] [] [] (.d (aC c) .nil)) UM KbB (kc g kn),.bad G (by decide)⟩
  rw[if_neg m]at g |-;by_cases k:ro<q
  .rw[if_pos k]
   exact⟨cw (iJ Yb [Ked,Bm] [] WG DH) (ev3 H [rq,rv,ro,ra,rb] [] [] (.d (aC c) .nil)) UM KbG (kc g kn),.bad G (by decide)⟩
  rw[if_neg k];have z:=Pw (e:=e) (item:=item) (loc:=loc) (rq:=rq) (rv:=rv) (rb:=rb) (q:=q) (ro:=ro) (ra:=ra) (by omega) (by omega) (by omega) (by omega) (by omega);have F:=Sa (r:=⟨e,item,loc,rq,rv,ro,ra,rb⟩) (q:=q) (by omega) (by dsimp only;omega) (by dsimp only;omega) (by dsimp only;omega);dsimp only at F;generalize xW ⟨e,item,loc,rq,rv,ro,ra,rb⟩ q=d at *;have A:=eM h x (l:=[⟨1,d⟩,⟨6,a-d⟩,⟨2,-a⟩]) (vK fmo) (by simp);obtain⟨C,g1,t⟩:=eX h x [⟨1,d⟩,⟨6,a-d⟩,⟨2,-a⟩];generalize dS S e [⟨1,d⟩,⟨6,a-d⟩,⟨2,-a⟩]=b at *;obtain⟨S1,f⟩:=b;dsimp only at *;have j:=C;by_cases p:f=0;rotate_left
  .rw[if_pos p]
   obtain n:=t p;have n:=n.symm;subst n;have H:=H.er (f:=f) (by omega);exact⟨cw (iJ Q3 VB [] WG [DW,Vg,(92,Zh,Kbh)]) (ev3 H [rq,rv,ro,ra,rb,d] [] [] (.d (aC c) .nil)) UM Kbh (kc g (kc z (kc A kn))),.bad G g1⟩
  subst p;rw[if_neg (by simp)];clear t;obtain⟨I,rfl⟩:=j.ex;rw[Ml];refine⟨cw (iJ Q3 VB [] WG [DW,Vg,(92,Zh,(.bG [Kf0,.i 0]))]) (ev3 H [rq,rv,ro,ra,rb,d] [] [bD I] (.d (aC c) .nil)) UM (.bG [(.agg [.o 0,.o 1,.q 1 1,.q 1 2,.q 1 3,.q 8 7,(.seq 8 4 [([([6],1)],[.v 0,.v 1,.v 2,.v 14,.v 15,(.e [([4],(-1)),([16],1)]),(.e [([17],1),([19],(-1))]),.v 18])] []),.q 9 5,.q 6 6,.v 7]),.i 0]) (kc g (kc z (kc A kn))),.ok j ((j.gn G).uK (ajX (x:=⟨e,item,loc,rq,rv,-q+ro,ra-d,rb⟩) (by rw[j.len];exact x.en) x.iw (by dsimp only;omega))) rfl rfl rfl rfl rfl rfl⟩
def aph (G:Gn S) (Y:S.done<=1000000) (hq:1<=q/\q<=1073741824) (W:0<=ref/\ref<=39) :
  Ck 141 [S.av,eS 3 0 0 0 0 q 0 ref] (.bG [(sbS S ref q).1.av,.i (sbS S ref q).2])/\oH S (sbS S ref q):=by
 have h:=G.toStOk;unfold sbS;cases j:S.bB[ref.toNat]? with
 |none =>
  have H:=G.op Y (e:=0) (by omega) (item:=0) (by omega) (loc:=0) (by omega) (dst:=0) (by omega) (q:=q) (by omega) (a:=0) (by omega) W;have:=a3f.1 j;exact⟨cw (iJ [] DX [] [] []) (ev3 H [] [] [] .nil) UN KbF kn,.bad G (by decide)⟩
 |some s =>
  have hm:=a0a j;have B:=G.II s hm;have:=(a0y.1 j).1;have:=G.NU;obtain⟨e,item,loc,rq,rv,ro,ra,rb⟩:=s;obtain⟨b1,b2,t,b4,b5,b6,b7,b8⟩:=B;dsimp only at *;have x:Ix S e item:=⟨b1.1,b1.2,b2.1,b2.2⟩;have H:=G.op Y (x.eb h) (x.ib h) t (dst:=0) (by omega) (q:=q) (by omega) (a:=0) (by omega) W;have k:=gD h x;by_cases O:(S.aJ e).closed=true
  .rw[if_pos O]at k |-
   exact⟨cw (iJ Yb [Ked] [] WG DG) (ev3 H [rq,rv,ro,ra,rb] [] [] (.d (aC j) .nil)) UN KbB (kc k kn),.bad G (by decide)⟩
  rw[if_neg O]at k |-;by_cases N:rq-rb<q
  .rw[if_pos N]
   exact⟨cw (iJ Yb [Ked,([([4],1),([14],-1),([18],1)],1,1152921504606846976)] [] WG DH) (ev3 H [rq,rv,ro,ra,rb] [] [] (.d (aC j) .nil)) UN KbG (kc k kn),.bad G (by decide)⟩
  rw[if_neg N];by_cases M:0<ro/\ro<q
  .rw[if_pos M]
   exact⟨cw (iJ Yb [Ked,HO,KbH,Bm] [] WG DH) (ev3 H [rq,rv,ro,ra,rb] [] [] (.d (aC j) .nil)) UN (.bG [KfZ,.i 9]) (kc k kn),.bad G (by decide)⟩
  rw[if_neg M];have D:=kO (v:=rv) (q:=q) (n:=rq) ⟨by omega,by omega⟩ ⟨by omega,by omega⟩ ⟨by omega,by omega⟩;have pb:=FH (v:=rv) (q:=q) (n:=rq) (by omega) (by omega) (by omega) (by omega) (by omega);unfold yS;by_cases X:0<ro
  .rw[if_pos X]
   have V:=Pw (e:=e) (item:=item) (loc:=loc) (rq:=rq) (rv:=rv) (rb:=rb) (q:=q) (ro:=ro) (ra:=ra) (by omega) (by omega) (by omega) (by omega) (by omega);have db:=Sa (r:=⟨e,item,loc,rq,rv,ro,ra,rb⟩) (q:=q) (by omega) (by dsimp only;omega) (by dsimp only;omega) (by dsimp only;omega);dsimp only at db;generalize xW ⟨e,item,loc,rq,rv,ro,ra,rb⟩ q=d at *;generalize dM rv q rq=L at *;have y:=mL h x (kind:=3) t.1 t.2 (by omega) (q:=q) ⟨by omega,by omega⟩;obtain⟨R,g1,Z,ib,J⟩:=mT h x (kind:=3) t.1 t.2 (by omega) (by omega) q;generalize dU S e item loc 3 q=b at *;obtain⟨S1,⟨xq,xv,xp⟩,z,f⟩:=b;dsimp only at *;have p:=R;by_cases g:f=0;rotate_left
   .rw[if_pos g]
    obtain⟨c,T,rfl⟩:=J g;cases T;have c:=c.symm;subst c;have H:=H.er (f:=f) (by omega);exact⟨cw (iJ ZS Jt [] WG Jj) (ev3 H [rq,rv,ro,ra,rb,d] [.I L] [] (.d (aC j) .nil)) UN Kbh (kc k (kc y kn)),.bad G g1⟩
   subst g;rw[if_neg (by simp)];clear J;obtain⟨w,rfl⟩:=p.ex;have C:=eM p.ok (p.ix x) (l:=[⟨1,d⟩,⟨6,xv-d⟩,⟨0,-xv⟩]) (vK fmo) (by simp);obtain⟨Q,g2,F⟩:=eX p.ok (p.ix x) [⟨1,d⟩,⟨6,xv-d⟩,⟨0,-xv⟩];generalize dS (S.bQ w) e [⟨1,d⟩,⟨6,xv-d⟩,⟨0,-xv⟩]=b at *;obtain⟨S2,f⟩:=b;dsimp only at *;have m:=p.trans Q;by_cases g:f=0;rotate_left
   .rw[if_pos g]
    obtain c:=F g;have c:=c.symm;subst c;have H:=H.er (f:=f) (by omega);exact⟨cw (iJ ZI Jt [] WG [DW,Qx,KcH,Vh,(92,Q7,Kbi)]) (ev3 H [rq,rv,ro,ra,rb,xv,d] [.I xq,.I xp,.bool z,.I L] [bD w] (.d (aC j) .nil)) UN Kbh (kc k (kc y (kc D (kc V (kc C kn))))),.bad G g2⟩
   subst g;rw[if_neg (by simp)];clear F;obtain⟨A,rfl⟩:=m.ex;have K:=fQ m.ok (m.ix x) (r:=[0,0,0,0,0,0,0,xv,0,0,0]) rfl;obtain⟨P,g3,E⟩:=gN m.ok (m.ix x) (r:=[0,0,0,0,0,0,0,xv,0,0,0]) rfl;generalize eC (S.bQ A) e item [0,0,0,0,0,0,0,xv,0,0,0]=b at *;obtain⟨S3,f⟩:=b;dsimp only at *;have u:=m.trans P;by_cases g:f=0;rotate_left
   .rw[if_pos g]
    obtain c:=E g;have c:=c.symm;subst c;have H:=H.er (f:=f) (by omega);exact⟨cw (iJ ZI Jt [] WG [DW,Qx,KcH,Vh,JJ,JV]) (ev3 H [rq,rv,ro,ra,rb,xv,d] [.I xq,.I xp,.bool z,.I L] [bD w,bD A] (.d (aC j) .nil)) UN Kbh (kc k (kc y (kc D (kc V (kc C (kc K kn)))))),.bad G g3⟩
   subst g;rw[if_neg (by simp)];clear E;obtain⟨U,rfl⟩:=u.ex;rw[Ml];refine⟨cw (iJ ZI Jt [] WG [DW,Qx,KcH,Vh,JJ,JW]) (ev3 H [rq,rv,ro,ra,rb,xv,d] [.I xq,.I xp,.bool z,.I L] [bD w,bD A,bD U] (.d (aC j) .nil)) UN (.bG [(.agg [.o 0,.o 1,.q 1 1,.q 1 2,.q 1 3,.q 8 9,(.seq 8 4 [([([6],1)],[.v 0,.v 1,.v 2,.v 14,.v 15,(.e [([4],(-1)),([16],1)]),KdK,(.e [([4],1),([18],1)])])] []),.q 9 5,.q 6 6,.v 7]),.i 0]) (kc k (kc y (kc D (kc V (kc C (kc K kn)))))),.ok u ((u.gn G).uK (ajX (x:=⟨e,item,loc,rq,rv,-q+ro,ra-d,q+rb⟩) (by rw[u.len];exact x.en) x.iw (by dsimp only;omega))) rfl rfl rfl rfl rfl rfl⟩
  .rw[if_neg X]
   generalize dM rv q rq=d at *;have y:=mL h x (kind:=3) t.1 t.2 (by omega) (q:=q) ⟨by omega,by omega⟩;obtain⟨R,g1,Z,ib,J⟩:=mT h x (kind:=3) t.1 t.2 (by omega) (by omega) q;generalize dU S e item loc 3 q=b at *;obtain⟨S1,⟨xq,xv,xp⟩,z,f⟩:=b;dsimp only at *;have p:=R;by_cases g:f=0;rotate_left
   .rw[if_pos g]
    obtain⟨c,T,rfl⟩:=J g;cases T;have c:=c.symm;subst c;have H:=H.er (f:=f) (by omega);exact⟨cw (iJ ZS QA [] WG Jj) (ev3 H [rq,rv,ro,ra,rb,d] [] [] (.d (aC j) .nil)) UN Kbh (kc k (kc y kn)),.bad G g1⟩
   subst g;rw[if_neg (by simp)];clear J;obtain⟨w,rfl⟩:=p.ex;have C:=eM p.ok (p.ix x) (l:=[⟨2,d⟩,⟨6,xv-d⟩,⟨0,-xv⟩]) (vK fmo) (by simp);obtain⟨Q,g2,F⟩:=eX p.ok (p.ix x) [⟨2,d⟩,⟨6,xv-d⟩,⟨0,-xv⟩];generalize dS (S.bQ w) e [⟨2,d⟩,⟨6,xv-d⟩,⟨0,-xv⟩]=b at *;obtain⟨S2,f⟩:=b;dsimp only at *;have m:=p.trans Q;by_cases g:f=0;rotate_left
   .rw[if_pos g]
    obtain c:=F g;have c:=c.symm;subst c;have H:=H.er (f:=f) (by omega);exact⟨cw (iJ ZI QA [] WG [DW,Qx,Kcs,(92,Q8,Kbi)]) (ev3 H [rq,rv,ro,ra,rb,xv,d] [.I xq,.I xp,.bool z] [bD w] (.d (aC j) .nil)) UN Kbh (kc k (kc y (kc D (kc C kn)))),.bad G g2⟩
   subst g;rw[if_neg (by simp)];clear F;obtain⟨A,rfl⟩:=m.ex;have K:=fQ m.ok (m.ix x) (r:=[0,0,0,0,0,0,0,xv,0,0,0]) rfl;obtain⟨P,g3,E⟩:=gN m.ok (m.ix x) (r:=[0,0,0,0,0,0,0,xv,0,0,0]) rfl;generalize eC (S.bQ A) e item [0,0,0,0,0,0,0,xv,0,0,0]=b at *;obtain⟨S3,f⟩:=b;dsimp only at *;have u:=m.trans P;by_cases g:f=0;rotate_left
   .rw[if_pos g]
    obtain c:=E g;have c:=c.symm;subst c;have H:=H.er (f:=f) (by omega);exact⟨cw (iJ ZI QA [] WG [DW,Qx,Kcs,JK,JV]) (ev3 H [rq,rv,ro,ra,rb,xv,d] [.I xq,.I xp,.bool z] [bD w,bD A] (.d (aC j) .nil)) UN Kbh (kc k (kc y (kc D (kc C (kc K kn))))),.bad G g3⟩
   subst g;rw[if_neg (by simp)];clear E;obtain⟨U,rfl⟩:=u.ex;rw[Ml];refine⟨cw (iJ ZI QA [] WG [DW,Qx,Kcs,JK,JW]) (ev3 H [rq,rv,ro,ra,rb,xv,d] [.I xq,.I xp,.bool z] [bD w,bD A,bD U] (.d (aC j) .nil)) UN (.bG [(.agg [.o 0,.o 1,.q 1 1,.q 1 2,.q 1 3,.q 8 9,(.seq 8 4 [([([6],1)],[.v 0,.v 1,.v 2,.v 14,.v 15,.v 16,.v 17,(.e [([4],1),([18],1)])])] []),.q 9 5,.q 6 6,.v 7]),.i 0]) (kc k (kc y (kc D (kc C (kc K kn))))),.ok u ((u.gn G).uK (ajX (x:=⟨e,item,loc,rq,rv,ro,ra,q+rb⟩) (by rw[u.len];exact x.en) x.iw (by dsimp only;omega))) rfl rfl rfl rfl rfl rfl⟩
def aiH (G:Gn S) (X:S.done<=1000000) (x:Ix S e item) (z:0<=loc/\loc<=1) (y:Ix S dst item) (hq:1<=q/\q<=1073741824) (Y:0<=a/\a<=1125899906842624) :
  Ck 142 [S.av,eS 12 e item loc dst q a 0] (.bG [(Iy S e item loc dst q a).1.av,.i (Iy S e item loc dst q a).2])/\oH S (Iy S e item loc dst q a):=by
 have h:=G.toStOk;have H:=G.op X (x.eb h) (x.ib h) z (y.eb h) (q:=q) (by omega) Y (ref:=0) (by omega);unfold Iy;have g:=gD h x;by_cases K:(S.aJ e).closed=true
 .rw[if_pos K]at g |-
  exact⟨cw (iJ [] [] [] [] DG) (ev3 H [] [] [] .nil) Uy KbB (kc g kn),.bad G (by decide)⟩
 rw[if_neg K]at g |-;have j:=gD h y;by_cases J:(S.aJ dst).closed=true
 .rw[if_pos J]at j |-
  exact⟨cw (iJ [] [] [] [] [DW,(89,[KfZ,.v 3,.v 1],(.i 7))]) (ev3 H [] [] [] .nil) Uy KbB (kc g (kc j kn)),.bad G (by decide)⟩
 rw[if_neg J]at j |-;by_cases D:S.aH.length=40
 .rw[if_pos D]
  exact⟨cw (iJ [] [([([10],1)],40,40)] [] [] [DW,DZ]) (ev3 H [] [] [] .nil) Uy KbC (kc g (kc j kn)),.bad G (by decide)⟩
 rw[if_neg D];have D:S.aH.length<40:=by have:=G.yP;omega
 have m:=mL h x (kind:=3) z.1 z.2 (by omega) (q:=q) ⟨by omega,by omega⟩;obtain⟨V,g1,vb,ib,P⟩:=mT h x (kind:=3) z.1 z.2 (by omega) (by omega) q;generalize dU S e item loc 3 q=b at *;obtain⟨S1,⟨xq,xv,xp⟩,n,f⟩:=b;dsimp only at *;have t:=V;by_cases d:f=0;rotate_left
 .rw[if_pos d]
  obtain⟨c,W,rfl⟩:=P d;cases W;have c:=c.symm;subst c;have H:=H.er (f:=f) (by omega);exact⟨cw (iJ [] Kf6 [] [] [DW,DZ,J7]) (ev3 H [] [] [] .nil) Uy Kbh (kc g (kc j (kc m kn))),.bad G g1⟩
 subst d;rw[if_neg (by simp)];clear P;obtain⟨k,rfl⟩:=t.ex;have w:=eM t.ok (t.ix x) (l:=[⟨13,a⟩,⟨15,-a⟩,⟨16,xv⟩,⟨0,-xv⟩]) (vK fmo) (by simp);obtain⟨U,g2,O⟩:=eX t.ok (t.ix x) [⟨13,a⟩,⟨15,-a⟩,⟨16,xv⟩,⟨0,-xv⟩];generalize dS (S.bQ k) e [⟨13,a⟩,⟨15,-a⟩,⟨16,xv⟩,⟨0,-xv⟩]=b at *;obtain⟨S2,f⟩:=b;dsimp only at *;have s:=t.trans U;by_cases d:f=0;rotate_left
 .rw[if_pos d]
  obtain c:=O d;have c:=c.symm;subst c;have H:=H.er (f:=f) (by omega);exact⟨cw (iJ [iK,iK] Kf6 [] [] [DW,DZ,Qr,(92,QQ,Kbi)]) (ev3 H [xv,xp] [.I xq,.bool n] [bD k] .nil) Uy Kbh (kc g (kc j (kc m (kc w kn)))),.bad G g2⟩
 subst d;rw[if_neg (by simp)];clear O;obtain⟨u,rfl⟩:=s.ex;have C:=eM s.ok (s.ix y) (l:=[⟨12,a⟩,⟨14,-a⟩]) (vK fmo) (by simp);obtain⟨T,g3,N⟩:=eX s.ok (s.ix y) [⟨12,a⟩,⟨14,-a⟩];generalize dS (S.bQ u) dst [⟨12,a⟩,⟨14,-a⟩]=b at *;obtain⟨S3,f⟩:=b;dsimp only at *;have p:=s.trans T;by_cases d:f=0;rotate_left
 .rw[if_pos d]
  obtain c:=N d;have c:=c.symm;subst c;have H:=H.er (f:=f) (by omega);exact⟨cw (iJ [iK,iK] Kf6 [] [] [DW,DZ,Qr,Jz,(92,U7,Kbj)]) (ev3 H [xv,xp] [.I xq,.bool n] [bD k,bD u] .nil) Uy Kbh (kc g (kc j (kc m (kc w (kc C kn))))),.bad G g3⟩
 subst d;rw[if_neg (by simp)];clear N;obtain⟨B,rfl⟩:=p.ex;have E:=fQ p.ok (p.ix x) (r:=[0,0,0,0,0,0,xv,0,0,0,0]) rfl;obtain⟨R,Z,M⟩:=gN p.ok (p.ix x) (r:=[0,0,0,0,0,0,xv,0,0,0,0]) rfl;generalize eC (S.bQ B) e item [0,0,0,0,0,0,xv,0,0,0,0]=b at *;obtain⟨S4,f⟩:=b;dsimp only at *;have A:=p.trans R;by_cases d:f=0;rotate_left
 .rw[if_pos d]
  obtain c:=M d;have c:=c.symm;subst c;have H:=H.er (f:=f) (by omega);exact⟨cw (iJ [iK,iK] Kf6 [] [] [DW,DZ,Qr,Jz,QL,(124,ZE,Kbk)]) (ev3 H [xv,xp] [.I xq,.bool n] [bD k,bD u,bD B] .nil) Uy Kbh (kc g (kc j (kc m (kc w (kc C (kc E kn)))))),.bad G Z⟩
 subst d;rw[if_neg (by simp)];clear M;obtain⟨L,rfl⟩:=A.ex;by_cases F:-288230376151711744<=a-xv+xp/\a-xv+xp<=288230376151711744;rotate_left
 .rw[if_neg F]
  rcases(by omega:a-xv+xp<=-288230376151711745\/288230376151711745<=a-xv+xp)with Q|Q
  .exact⟨cw (iJ [iK,iK] [Kgt,(Kdp,-4611686018427387904,-288230376151711745)] [] [] Kb) (ev3 H [xv,xp] [.I xq,.bool n] [bD k,bD u,bD B,bD L] .nil) Uy KbI (kc g (kc j (kc m (kc w (kc C (kc E kn)))))),.bad G (by decide)⟩
  .exact⟨cw (iJ [iK,iK] [Kgt,(Kdp,288230376151711745,4611686018427387904)] [] [] Kb) (ev3 H [xv,xp] [.I xq,.bool n] [bD k,bD u,bD B,bD L] .nil) Uy KbI (kc g (kc j (kc m (kc w (kc C (kc E kn)))))),.bad G (by decide)⟩
 rw[if_pos F];rw[aeK];refine⟨cw (iJ [iK,iK] [Kgt,(Kdp,-288230376151711744,288230376151711744)] [] [] Kb) (ev3 H [xv,xp] [.I xq,.bool n] [bD k,bD u,bD B,bD L] .nil) Uy (.bG [(.agg [.o 0,.o 1,.q 1 1,.q 1 2,.q 1 3,.q 8 10,.q 8 4,.q 9 5,(.seq 6 6 [] [[.v 0,.v 3,.v 1,.v 4,.v 5,(.e [([5],1),([14],(-1)),([15],1)])]]),.v 7]),.i 0]) (kc g (kc j (kc m (kc w (kc C (kc E kn)))))),.ok A ((A.gn G).xN D (aot (x:=⟨e,dst,item,q,a,a-xv+xp⟩) (by rw[A.len];exact x.en) (by rw[A.len];exact y.en) x.iw (by dsimp only;omega))) rfl rfl rfl rfl rfl rfl⟩
def Xy (G:Gn S) (P:S.done<=1000000) (t:0<=loc/\loc<=1) (hq:1<=q/\q<=1073741824) (O:0<=ref/\ref<=39) :
  Ck 142 [S.av,eS 13 0 0 loc 0 q 0 ref] (.bG [(uY S loc q ref).1.av,.i (uY S loc q ref).2])/\oH S (uY S loc q ref):=by
 have h:=G.toStOk;unfold uY;cases c:S.aH[ref.toNat]? with
 |none =>
  have H:=G.op P (e:=0) (by omega) (item:=0) (by omega) t (dst:=0) (by omega) (q:=q) (by omega) (a:=0) (by omega) O;have:=a3f.1 c;exact⟨cw (iJ [] [([([6],1),([10],-1)],0,1152921504606846976)] [] [] []) (ev3 H [] [] [] .nil) Uz KbF kn,.bad G (by decide)⟩
 |some s =>
  have V:=a0a c;have B:=G.OA s V;have:=(a0y.1 c).1;have:=G.yP;obtain⟨dst,e,item,tq,tv,tp⟩:=s;obtain⟨b1,b2,b3,b4,b5,W⟩:=B;dsimp only at *;have x:Ix S e item:=⟨b2.1,b2.2,b3.1,b3.2⟩;have:=h.hn;have H:=G.op P (x.eb h) (x.ib h) t (dst:=dst) (by omega) (q:=q) (by omega) (a:=0) (by omega) O;have p:=gD h x;by_cases I:(S.aJ e).closed=true
  .rw[if_pos I]at p |-
   exact⟨cw (iJ BJ [KdZ] [] GY DG) (ev3 H [tq,tv,tp] [] [] (.d (aT c) .nil)) Uz KbB (kc p kn),.bad G (by decide)⟩
  rw[if_neg I]at p |-;by_cases F:tq<q
  .rw[if_pos F]
   exact⟨cw (iJ BJ [KdZ,([([4],1),([14],-1)],1,1152921504606846976)] [] GY DH) (ev3 H [tq,tv,tp] [] [] (.d (aT c) .nil)) Uz KbG (kc p kn),.bad G (by decide)⟩
  rw[if_neg F];have C:=kO (v:=tv) (q:=q) (n:=tq) ⟨by omega,by omega⟩ ⟨by omega,by omega⟩ ⟨by omega,by omega⟩;have D:=kO (v:=tp) (q:=q) (n:=tq) ⟨by omega,by omega⟩ ⟨by omega,by omega⟩ ⟨by omega,by omega⟩;have Y:=FH (v:=tv) (q:=q) (n:=tq) (by omega) (by omega) (by omega) (by omega) (by omega);obtain⟨c3,c4⟩:=Rj (v:=tp) (q:=q) (n:=tq) (by omega) (by omega) (by omega) W;unfold AD;generalize dM tv q tq=v at *;generalize dM tp q tq=k at *;have E:=lI h x t.1 t.2 (y:=⟨q,v,k⟩) (show eW [q,v,k]from I2 (by omega) (by omega) (by omega));obtain⟨U,g1,cb,Z,N⟩:=mV h x t.1 t.2 ⟨q,v,k⟩;generalize eK S e item loc ⟨q,v,k⟩=b at *;obtain⟨S1,m,up,f⟩:=b;dsimp only at *;have w:=U;by_cases j:f=0;rotate_left
  .rw[if_pos j]
   obtain⟨g,rfl,rfl⟩:=N j;have g:=g.symm;subst g;have H:=H.er (f:=f) (by omega);exact⟨cw (iJ [Kg3,KfW,iK,KfW,iK] Vw [] GY [DW,Kct,Kcu,(145,WE,DR)]) (ev3 H [tq,tv,tp,v,k] [] [] (.d (aT c) .nil)) Uz Kbh (kc p (kc C (kc D (kc E kn)))),.bad G g1⟩
  subst j;rw[if_neg (by simp)];clear N;obtain⟨A,rfl⟩:=w.ex;have K:=eM w.ok (w.ix x) (l:=[⟨0,m⟩,⟨6,up⟩,⟨12,-v⟩]) (vK fmo) (by simp);obtain⟨T,g2,M⟩:=eX w.ok (w.ix x) [⟨0,m⟩,⟨6,up⟩,⟨12,-v⟩];generalize dS (S.bQ A) e [⟨0,m⟩,⟨6,up⟩,⟨12,-v⟩]=b at *;obtain⟨S2,f⟩:=b;dsimp only at *;have u:=w.trans T;by_cases j:f=0;rotate_left
  .rw[if_pos j]
   obtain g:=M j;have g:=g.symm;subst g;have H:=H.er (f:=f) (by omega);exact⟨cw (iJ Vi Vw [] GY [DW,Kct,Kcu,QG,(92,Z5,Kbi)]) (ev3 H [tq,tv,tp,v,k,m,up] [] [bD A] (.d (aT c) .nil)) Uz Kbh (kc p (kc C (kc D (kc E (kc K kn))))),.bad G g2⟩
  subst j;rw[if_neg (by simp)];clear M;obtain⟨J,rfl⟩:=u.ex;have Q:=fQ u.ok (u.ix x) (r:=[0,0,0,m,0,0,0,0,0,0,0]) rfl;obtain⟨R,g3,L⟩:=gN u.ok (u.ix x) (r:=[0,0,0,m,0,0,0,0,0,0,0]) rfl;generalize eC (S.bQ J) e item [0,0,0,m,0,0,0,0,0,0,0]=b at *;obtain⟨S3,f⟩:=b;dsimp only at *;have z:=u.trans R;by_cases j:f=0;rotate_left
  .rw[if_pos j]
   obtain g:=L j;have g:=g.symm;subst g;have H:=H.er (f:=f) (by omega);exact⟨cw (iJ Vi Vw [] GY [DW,Kct,Kcu,QG,Qc,(124,ZF,Kbj)]) (ev3 H [tq,tv,tp,v,k,m,up] [] [bD A,bD J] (.d (aT c) .nil)) Uz Kbh (kc p (kc C (kc D (kc E (kc K (kc Q kn)))))),.bad G g3⟩
  subst j;rw[if_neg (by simp)];clear L;obtain⟨X,rfl⟩:=z.ex;rw[af7];refine⟨cw (iJ Vi Vw [] GY [DW,Kct,Kcu,QG,Qc,(124,ZF,KbE)]) (ev3 H [tq,tv,tp,v,k,m,up] [] [bD A,bD J,bD X] (.d (aT c) .nil)) Uz (.bG [(.agg [.o 0,.o 1,.q 1 1,.q 1 2,.q 1 3,.q 8 9,.q 8 4,.q 9 5,(.seq 6 6 [([([6],1)],[.v 3,.v 0,.v 1,(.e [([4],(-1)),([14],1)]),(.e [([15],1),([17],(-1))]),(.e [([16],1),([18],(-1))])])] []),.v 7]),.i 0]) (kc p (kc C (kc D (kc E (kc K (kc Q kn)))))),.ok z ((z.gn G).C5 (aot (x:=⟨dst,e,item,-q+tq,tv-v,tp-k⟩) (by rw[z.len];exact b1) (by rw[z.len];exact x.en) x.iw (by dsimp only;omega))) rfl rfl rfl rfl rfl rfl⟩
def adX (G:Gn S) (hd:S.done<=1000000) (x:Ix S e item) (t:0<=loc/\loc<=1) (hq:0<=q/\q<=1073741824) :
  Ck 140 [S.av,eS 7 e item loc 0 q 0 0] (.bG [(zQ S e item loc q).1.av,.i (zQ S e item loc q).2])/\oH S (zQ S e item loc q):=by
 have h:=G.toStOk;have H:=G.op hd (x.eb h) (x.ib h) t (dst:=0) (by omega) (q:=q) (by omega) (a:=0) (by omega) (ref:=0) (by omega);have W:=h.wx x;generalize S.methods.getD e.toNat []=ms at W;generalize S.cI.getD e.toNat []=cs at W;have:=W.bd;have hm:=h.mb' x;have hc:=h.cb' x;unfold zQ;have p:=gD h x;by_cases ab:(S.aJ e).closed=true
 .rw[if_pos ab]at p |-
  exact⟨cw (iJ [(1,4)] HP KgK DJ DG) (ev3 H [(S.cX e item)] [] [aA ms] (.d (aS W.qT) (.d (aI W.hm) .nil))) UO KbB (kc p kn),.bad G (by decide)⟩
 rw[if_neg ab]at p |-;have C:=h.AS x t.1 t.2;have A:=lT h x t.1 t.2;unfold dL.oD;have w:=acb (p0:=((S.aJ e).bE (2*item+loc)).p0) (p1:=((S.aJ e).bE (2*item+loc)).p1) (p2:=((S.aJ e).bE (2*item+loc)).p2) hm C.lr C.pnd;have K:=qN (p0:=((S.aJ e).bE (2*item+loc)).p0) (p1:=((S.aJ e).bE (2*item+loc)).p1) (p2:=((S.aJ e).bE (2*item+loc)).p2) C.lr;have qb:=(gG C.lr.ok).1;have vb:=(gG C.lr.ok).2.1
 have ad:=C.lr.q;have ac:=C.lr.v;have fb:0<=(if S.cX e item=3 then wN ((S.aJ e).bE (2*item+loc)).aX ((S.aJ e).bE (2*item+loc)).pn else qs ((S.aJ e).bE (2*item+loc)).aX)/\(if S.cX e item=3 then wN ((S.aJ e).bE (2*item+loc)).aX ((S.aJ e).bE (2*item+loc)).pn else qs ((S.aJ e).bE (2*item+loc)).aX)<=288230376151711744:=by
  have:=C.a0;have:=C.b0;have:=C.c0;have:=C.sum;split
  .unfold wN;omega
  .omega
 rw[show(⟨((S.aJ e).bE (2*item+loc)).p0,((S.aJ e).bE (2*item+loc)).p1,((S.aJ e).bE (2*item+loc)).p2⟩:tY)=((S.aJ e).bE (2*item+loc)).pn from rfl]at w;generalize (if S.cX e item=3 then wN ((S.aJ e).bE (2*item+loc)).aX ((S.aJ e).bE (2*item+loc)).pn else qs ((S.aJ e).bE (2*item+loc)).aX)=fr at *;clear C;generalize (S.aJ e).bE (2*item+loc)=P at *;obtain⟨L,p0,p1,p2⟩:=P;dsimp only at *;by_cases aa:q-fr=0
 .rw[if_pos aa]
  exact⟨cw (iJ [(1,4),Kfs] [Keb,Kee,(Kf7,0,0)] KgK DJ [DW,Vj,Gl]) (ev3 H [(S.cX e item),fr] [.I p0,.I p1,.I p2] [aA ms,aO L] (.d (aS W.qT) (.d (aI W.hm) .nil))) UO (.bG [KfZ,.i 0]) (kc p (kc A (kc w kn))),.ok (Kn.refl h) G rfl rfl rfl rfl rfl rfl⟩
 rw[if_neg aa];by_cases Z:q-fr<0
 .rw[if_pos Z]
  unfold O9;have B:=mL h x (kind:=2) t.1 t.2 (by omega) (q:=-q+fr) ⟨by omega,by omega⟩;obtain⟨V,g1,vb,ib,O⟩:=mT h x (kind:=2) t.1 t.2 (by omega) (by omega) (-q+fr);generalize dU S e item loc 2 (-q+fr)=b at *;obtain⟨S1,⟨xq,xv,xp⟩,wt,f⟩:=b;dsimp only at *;have n:=V;by_cases g:f=0;rotate_left
  .rw[if_pos g]
   obtain⟨j,hx,rfl⟩:=O g;cases hx;have j:=j.symm;subst j;have H:=H.er (f:=f) (by omega);exact⟨cw (iJ [(1,4),Kfs] Zr KgK DJ [DW,Vj,Gl,(217,V8,Uc)]) (ev3 H [(S.cX e item),fr] [.I p0,.I p1,.I p2] [aA ms,aO L] (.d (aS W.qT) (.d (aI W.hm) .nil))) UO Kbh (kc p (kc A (kc w (kc B kn)))),.bad G g1⟩
  subst g;rw[if_neg (by simp)];clear O;obtain⟨z,rfl⟩:=n.ex;have F:=eM n.ok (n.ix x) (l:=[⟨8,xv⟩,⟨0,-xv⟩]) (vK fmo) (by simp);obtain⟨U,g2,N⟩:=eX n.ok (n.ix x) [⟨8,xv⟩,⟨0,-xv⟩];generalize dS (S.bQ z) e [⟨8,xv⟩,⟨0,-xv⟩]=b at *;obtain⟨S2,f⟩:=b;dsimp only at *;have m:=n.trans U;by_cases g:f=0;rotate_left
  .rw[if_pos g]
   obtain j:=N g;have j:=j.symm;subst j;have H:=H.er (f:=f) (by omega);exact⟨cw (iJ KbJ Zr KgK DJ [DW,Vk,Gm,JX,(92,U8,Kbk)]) (ev3 H [(S.cX e item),fr,xv] [.I xq,.I xp,.bool wt,.I p0,.I p1,.I p2] [aA ms,aO L,bD z] (.d (aS W.qT) (.d (aI W.hm) .nil))) UO Kbh (kc p (kc A (kc w (kc B (kc F kn))))),.bad G g2⟩
  subst g;rw[if_neg (by simp)];clear N;obtain⟨E,rfl⟩:=m.ex;have R:=fQ m.ok (m.ix x) (r:=[0,0,0,0,0,0,0,0,0,xv,0]) rfl;obtain⟨T,g3,M⟩:=gN m.ok (m.ix x) (r:=[0,0,0,0,0,0,0,0,0,xv,0]) rfl;generalize eC (S.bQ E) e item [0,0,0,0,0,0,0,0,0,xv,0]=b at *;obtain⟨S3,f⟩:=b;dsimp only at *;have D:=m.trans T;by_cases g:f=0;rotate_left
  .rw[if_pos g]
   obtain j:=M g;have j:=j.symm;subst j;have H:=H.er (f:=f) (by omega);exact⟨cw (iJ KbJ Zr KgK DJ [DW,Vk,Gm,JX,QH,(124,Zu,Ka2)]) (ev3 H [(S.cX e item),fr,xv] [.I xq,.I xp,.bool wt,.I p0,.I p1,.I p2] [aA ms,aO L,bD z,bD E] (.d (aS W.qT) (.d (aI W.hm) .nil))) UO Kbh (kc p (kc A (kc w (kc B (kc F (kc R kn)))))),.bad G g3⟩
  subst g;rw[if_neg (by simp)];clear M;obtain⟨X,rfl⟩:=D.ex;refine⟨cw (iJ KbJ Zr KgK DJ [DW,Vk,Gm,JX,QH,(124,Zu,Kbo)]) (ev3 H [(S.cX e item),fr,xv] [.I xq,.I xp,.bool wt,.I p0,.I p1,.I p2] [aA ms,aO L,bD z,bD E,bD X] (.d (aS W.qT) (.d (aI W.hm) .nil))) UO Kbo (kc p (kc A (kc w (kc B (kc F (kc R kn)))))),.ok D (D.gn G) rfl rfl rfl rfl rfl rfl⟩
 rw[if_neg Z];generalize qs L=s at *;generalize vs L=u at *;generalize ps L=J at *;unfold IQ;by_cases Y:S.cX e item=4
 .rw[if_pos Y]
  have Q:=oZ (a:=q-fr) (b:=S.cost e item) (c:=1) ⟨by omega,by omega⟩ ⟨by omega,by omega⟩ ⟨by omega,by omega⟩;have mb:=RK (a:=q-fr) (b:=S.cost e item) (c:=1) (by omega) hc.1;have hf:=ahW (q-fr) (S.cost e item) 1;generalize yJ (q-fr) (S.cost e item) 1=v at *;generalize mdR (q-fr) (S.cost e item) 1=r at *;generalize Lh (q-fr) (S.cost e item) 1=f at *;by_cases g:f=0;rotate_left
  .rw[if_pos g]
   have H:=H.er (f:=f) (by omega);exact⟨cw (iJ QO QP KcI ZU [DW,Vl,Gp,Ws,(148,KaR,(.bG [.v 19,.o 3,.v 13]))]) (ev3 H [(S.cX e item),fr,s,u,(S.cost e item),v] [.I J,.I r,.I p0,.I p1,.I p2] [aA ms,aA cs,aO L] (.d (aS W.qT) (.d (aI W.hm) (.d (aS W.Cz) (.d (aI W.hc) .nil))))) UO Kbh (kc p (kc A (kc w (kc K (kc Q kn))))),.bad G hf⟩
  subst g;rw[if_neg (by simp)];have B:=lI h x t.1 t.2 (y:=⟨q-fr,v,0⟩) (show eW [q-fr,v,0]from I2 (by omega) (by omega) (by omega));obtain⟨V,g1,cb,ub,O⟩:=mV h x t.1 t.2 ⟨q-fr,v,0⟩;generalize eK S e item loc ⟨q-fr,v,0⟩=b at *;obtain⟨S1,k,up,f⟩:=b;dsimp only at *;have n:=V;by_cases g:f=0;rotate_left
  .rw[if_pos g]
   obtain⟨j,rfl,rfl⟩:=O g;have j:=j.symm;subst j;have H:=H.er (f:=f) (by omega);exact⟨cw (iJ QO QP KcI ZU [DW,Vl,Gp,Ws,V2,(145,YI,DR)]) (ev3 H [(S.cX e item),fr,s,u,(S.cost e item),v] [.I J,.I r,.I p0,.I p1,.I p2] [aA ms,aA cs,aO L] (.d (aS W.qT) (.d (aI W.hm) (.d (aS W.Cz) (.d (aI W.hc) .nil))))) UO Kbh (kc p (kc A (kc w (kc K (kc Q (kc B kn)))))),.bad G g1⟩
  subst g;rw[if_neg (by simp)];clear O;obtain⟨z,rfl⟩:=n.ex;have F:=eM n.ok (n.ix x) (l:=[⟨0,k⟩,⟨6,up⟩,⟨8,-v⟩]) (vK fmo) (by simp);obtain⟨U,g2,N⟩:=eX n.ok (n.ix x) [⟨0,k⟩,⟨6,up⟩,⟨8,-v⟩];generalize dS (S.bQ z) e [⟨0,k⟩,⟨6,up⟩,⟨8,-v⟩]=b at *;obtain⟨S2,f⟩:=b;dsimp only at *;have m:=n.trans U;by_cases g:f=0;rotate_left
  .rw[if_pos g]
   obtain j:=N g;have j:=j.symm;subst j;have H:=H.er (f:=f) (by omega);exact⟨cw (iJ Qn QP KcI ZU [DW,Vl,Gp,Ws,V2,JZ,(92,Z6,Ka2)]) (ev3 H [(S.cX e item),fr,s,u,(S.cost e item),v,k,up] [.I J,.I r,.I p0,.I p1,.I p2] [aA ms,aA cs,aO L,bD z] (.d (aS W.qT) (.d (aI W.hm) (.d (aS W.Cz) (.d (aI W.hc) .nil))))) UO Kbh (kc p (kc A (kc w (kc K (kc Q (kc B (kc F kn))))))),.bad G g2⟩
  subst g;rw[if_neg (by simp)];clear N;obtain⟨E,rfl⟩:=m.ex;have R:=fQ m.ok (m.ix x) (r:=[0,0,0,0,0,0,0,0,0,-k,0]) rfl;obtain⟨T,g3,M⟩:=gN m.ok (m.ix x) (r:=[0,0,0,0,0,0,0,0,0,-k,0]) rfl;generalize eC (S.bQ E) e item [0,0,0,0,0,0,0,0,0,-k,0]=b at *;obtain⟨S3,f⟩:=b;dsimp only at *;have D:=m.trans T;by_cases g:f=0;rotate_left
  .rw[if_pos g]
   obtain j:=M g;have j:=j.symm;subst j;have H:=H.er (f:=f) (by omega);exact⟨cw (iJ Qn QP KcI ZU [DW,Vl,Gp,Ws,V2,JZ,Qb,(124,Q4,Ka3)]) (ev3 H [(S.cX e item),fr,s,u,(S.cost e item),v,k,up] [.I J,.I r,.I p0,.I p1,.I p2] [aA ms,aA cs,aO L,bD z,bD E] (.d (aS W.qT) (.d (aI W.hm) (.d (aS W.Cz) (.d (aI W.hc) .nil))))) UO Kbh (kc p (kc A (kc w (kc K (kc Q (kc B (kc F (kc R kn)))))))),.bad G g3⟩
  subst g;rw[if_neg (by simp)];clear M;obtain⟨X,rfl⟩:=D.ex;refine⟨cw (iJ Qn QP KcI ZU [DW,Vl,Gp,Ws,V2,JZ,Qb,(124,Q4,Kbp)]) (ev3 H [(S.cX e item),fr,s,u,(S.cost e item),v,k,up] [.I J,.I r,.I p0,.I p1,.I p2] [aA ms,aA cs,aO L,bD z,bD E,bD X] (.d (aS W.qT) (.d (aI W.hm) (.d (aS W.Cz) (.d (aI W.hc) .nil))))) UO Kbp (kc p (kc A (kc w (kc K (kc Q (kc B (kc F (kc R kn)))))))),.ok D (D.gn G) rfl rfl rfl rfl rfl rfl⟩
 rw[if_neg Y];by_cases hh:0<s
 .rw[if_pos hh]
  have Q:=oZ (a:=u) (b:=q-fr) (c:=s) ⟨by omega,by omega⟩ ⟨by omega,by omega⟩ ⟨by omega,by omega⟩;have mb:=RK (a:=u) (b:=q-fr) (c:=s) (by omega) (by omega);have hf:=ahW u (q-fr) s;generalize yJ u (q-fr) s=v at *;generalize mdR u (q-fr) s=r at *;generalize Lh u (q-fr) s=f at *;by_cases g:f=0;rotate_left
  .rw[if_pos g]
   have H:=H.er (f:=f) (by omega);exact⟨cw (iJ Zs JH KgK DJ [DW,Vm,Gq,Wu,(148,Kay,(.bG [.v 18,.o 3,.v 13]))]) (ev3 H [(S.cX e item),fr,s,u,v] [.I J,.I r,.I p0,.I p1,.I p2] [aA ms,aO L] (.d (aS W.qT) (.d (aI W.hm) .nil))) UO Kbh (kc p (kc A (kc w (kc K (kc Q kn))))),.bad G hf⟩
  subst g;rw[if_neg (by simp)];have B:=lI h x t.1 t.2 (y:=⟨q-fr,v,0⟩) (show eW [q-fr,v,0]from I2 (by omega) (by omega) (by omega));obtain⟨V,g1,cb,ub,O⟩:=mV h x t.1 t.2 ⟨q-fr,v,0⟩;generalize eK S e item loc ⟨q-fr,v,0⟩=b at *;obtain⟨S1,k,up,f⟩:=b;dsimp only at *;have n:=V;by_cases g:f=0;rotate_left
  .rw[if_pos g]
   obtain⟨j,rfl,rfl⟩:=O g;have j:=j.symm;subst j;have H:=H.er (f:=f) (by omega);exact⟨cw (iJ Zs JH KgK DJ [DW,Vm,Gq,Wu,VX,(145,YJ,DR)]) (ev3 H [(S.cX e item),fr,s,u,v] [.I J,.I r,.I p0,.I p1,.I p2] [aA ms,aO L] (.d (aS W.qT) (.d (aI W.hm) .nil))) UO Kbh (kc p (kc A (kc w (kc K (kc Q (kc B kn)))))),.bad G g1⟩
  subst g;rw[if_neg (by simp)];clear O;obtain⟨z,rfl⟩:=n.ex;have F:=eM n.ok (n.ix x) (l:=[⟨0,k⟩,⟨6,up⟩,⟨8,-v⟩]) (vK fmo) (by simp);obtain⟨U,g2,N⟩:=eX n.ok (n.ix x) [⟨0,k⟩,⟨6,up⟩,⟨8,-v⟩];generalize dS (S.bQ z) e [⟨0,k⟩,⟨6,up⟩,⟨8,-v⟩]=b at *;obtain⟨S2,f⟩:=b;dsimp only at *;have m:=n.trans U;by_cases g:f=0;rotate_left
  .rw[if_pos g]
   obtain j:=N g;have j:=j.symm;subst j;have H:=H.er (f:=f) (by omega);exact⟨cw (iJ Zc JH KgK DJ [DW,Vm,Gq,Wu,VX,J0,(92,Yc,Kbk)]) (ev3 H [(S.cX e item),fr,s,u,v,k,up] [.I J,.I r,.I p0,.I p1,.I p2] [aA ms,aO L,bD z] (.d (aS W.qT) (.d (aI W.hm) .nil))) UO Kbh (kc p (kc A (kc w (kc K (kc Q (kc B (kc F kn))))))),.bad G g2⟩
  subst g;rw[if_neg (by simp)];clear N;obtain⟨E,rfl⟩:=m.ex;have R:=fQ m.ok (m.ix x) (r:=[0,0,0,0,0,0,0,0,0,-k,0]) rfl;obtain⟨T,g3,M⟩:=gN m.ok (m.ix x) (r:=[0,0,0,0,0,0,0,0,0,-k,0]) rfl;generalize eC (S.bQ E) e item [0,0,0,0,0,0,0,0,0,-k,0]=b at *;obtain⟨S3,f⟩:=b;dsimp only at *;have D:=m.trans T;by_cases g:f=0;rotate_left
  .rw[if_pos g]
   obtain j:=M g;have j:=j.symm;subst j;have H:=H.er (f:=f) (by omega);exact⟨cw (iJ Zc JH KgK DJ [DW,Vm,Gq,Wu,VX,J0,Qd,(124,Q5,Ka2)]) (ev3 H [(S.cX e item),fr,s,u,v,k,up] [.I J,.I r,.I p0,.I p1,.I p2] [aA ms,aO L,bD z,bD E] (.d (aS W.qT) (.d (aI W.hm) .nil))) UO Kbh (kc p (kc A (kc w (kc K (kc Q (kc B (kc F (kc R kn)))))))),.bad G g3⟩
  subst g;rw[if_neg (by simp)];clear M;obtain⟨X,rfl⟩:=D.ex;refine⟨cw (iJ Zc JH KgK DJ [DW,Vm,Gq,Wu,VX,J0,Qd,(124,Q5,Kbo)]) (ev3 H [(S.cX e item),fr,s,u,v,k,up] [.I J,.I r,.I p0,.I p1,.I p2] [aA ms,aO L,bD z,bD E,bD X] (.d (aS W.qT) (.d (aI W.hm) .nil))) UO Kbo (kc p (kc A (kc w (kc K (kc Q (kc B (kc F (kc R kn)))))))),.ok D (D.gn G) rfl rfl rfl rfl rfl rfl⟩
 rw[if_neg hh,if_neg (by simp)];simp only[Int.neg_zero];have B:=lI h x t.1 t.2 (y:=⟨q-fr,0,0⟩) (show eW [q-fr,0,0]from I2 (by omega) (by omega) (by omega));obtain⟨V,g1,cb,ub,O⟩:=mV h x t.1 t.2 ⟨q-fr,0,0⟩;generalize eK S e item loc ⟨q-fr,0,0⟩=b at *;obtain⟨S1,k,up,f⟩:=b;dsimp only at *;have n:=V;by_cases g:f=0;rotate_left
 .rw[if_pos g]
  obtain⟨j,rfl,rfl⟩:=O g;have j:=j.symm;subst j;have H:=H.er (f:=f) (by omega);exact⟨cw (iJ [(1,4),Kfs,Kfs,Kfs] JG KgK DJ [DW,Vn,Gr,Wv,(145,YN,DR)]) (ev3 H [(S.cX e item),fr,s,u] [.I J,.I p0,.I p1,.I p2] [aA ms,aO L] (.d (aS W.qT) (.d (aI W.hm) .nil))) UO Kbh (kc p (kc A (kc w (kc K (kc B kn))))),.bad G g1⟩
 subst g;rw[if_neg (by simp)];clear O;obtain⟨z,rfl⟩:=n.ex;have F:=eM n.ok (n.ix x) (l:=[⟨0,k⟩,⟨6,up⟩,⟨8,0⟩]) (vK fmo) (by simp);obtain⟨U,g2,N⟩:=eX n.ok (n.ix x) [⟨0,k⟩,⟨6,up⟩,⟨8,0⟩];generalize dS (S.bQ z) e [⟨0,k⟩,⟨6,up⟩,⟨8,0⟩]=b at *;obtain⟨S2,f⟩:=b;dsimp only at *;have m:=n.trans U;by_cases g:f=0;rotate_left
 .rw[if_pos g]
  obtain j:=N g;have j:=j.symm;subst j;have H:=H.er (f:=f) (by omega);exact⟨cw (iJ Yw JG KgK DJ [DW,Vn,Gr,Wv,J3,(92,UP,Kbk)]) (ev3 H [(S.cX e item),fr,s,u,k,up] [.I J,.I p0,.I p1,.I p2] [aA ms,aO L,bD z] (.d (aS W.qT) (.d (aI W.hm) .nil))) UO Kbh (kc p (kc A (kc w (kc K (kc B (kc F kn)))))),.bad G g2⟩
 subst g;rw[if_neg (by simp)];clear N;obtain⟨E,rfl⟩:=m.ex;have R:=fQ m.ok (m.ix x) (r:=[0,0,0,0,0,0,0,0,0,-k,0]) rfl;obtain⟨T,g3,M⟩:=gN m.ok (m.ix x) (r:=[0,0,0,0,0,0,0,0,0,-k,0]) rfl;generalize eC (S.bQ E) e item [0,0,0,0,0,0,0,0,0,-k,0]=b at *;obtain⟨S3,f⟩:=b;dsimp only at *;have D:=m.trans T;by_cases g:f=0;rotate_left
 .rw[if_pos g]
  obtain j:=M g;have j:=j.symm;subst j;have H:=H.er (f:=f) (by omega);exact⟨cw (iJ Yw JG KgK DJ [DW,Vn,Gr,Wv,J3,QC,(124,Q6,Ka2)]) (ev3 H [(S.cX e item),fr,s,u,k,up] [.I J,.I p0,.I p1,.I p2] [aA ms,aO L,bD z,bD E] (.d (aS W.qT) (.d (aI W.hm) .nil))) UO Kbh (kc p (kc A (kc w (kc K (kc B (kc F (kc R kn))))))),.bad G g3⟩
 subst g;rw[if_neg (by simp)];clear M;obtain⟨X,rfl⟩:=D.ex;refine⟨cw (iJ Yw JG KgK DJ [DW,Vn,Gr,Wv,J3,QC,(124,Q6,Kbo)]) (ev3 H [(S.cX e item),fr,s,u,k,up] [.I J,.I p0,.I p1,.I p2] [aA ms,aO L,bD z,bD E,bD X] (.d (aS W.qT) (.d (aI W.hm) .nil))) UO Kbo (kc p (kc A (kc w (kc K (kc B (kc F (kc R kn))))))),.ok D (D.gn G) rfl rfl rfl rfl rfl rfl⟩
def adW (G:Gn S) (x:Ix S e item) (j:0<=a/\a<=1125899906842624) :
  Ck 143 [S.av,eS 10 e item 0 0 0 a 0] (.bG [(yY S e item a).1.av,.i (yY S e item a).2])/\oH S (yY S e item a):=by
 have h:=G.toStOk;have H:=h.wx x;have:=H.bd;have E:=h.zN x;have n:=E.bl;have l:=E.pr;have m:=E.dl
 have f:=gD h x;have k:=Ts h x j;have g:(S.bJ e ((S.aJ e).vX item a)).av=S.setRow e (zO (S.aJ e).now (S.aJ e).closed (bP (S.aJ e).bH) (aA (S.aJ e).cU) (bM (S.aJ e).aM) ((aA (S.aJ e).aZ).set item.toNat [.i a]) (aA (S.aJ e).down) (bW (S.aJ e).ahead)):=by
  rw[bK.nY,show(aA (S.aJ e).aZ).set item.toNat [.i a]=aA ((S.aJ e).aZ.set item.toNat a)by simp[aA,a06]];rfl
 obtain⟨c,b⟩:∃c,(S.aJ e).aZ[item.toNat]?=some c:=⟨_,getD_some (d:=0) (by have:=x.i0;have:=x.i1;omega)⟩;unfold yY;generalize (S.aJ e).closed=cl at *;cases cl with
 |true =>
  rw[if_pos rfl]at f |-;exact⟨cw (EI (.o 4) [KfW] [] DO [(10,[([2],1)],[.o 5])] [] [] [(89,Kcr,(.i 7))]) (ev2 H [a] [.I c] [] (.d (aI b) .nil)) UA KbK (kc f kn),.bad G (by decide)⟩
 |false =>
  rw[if_neg (by simp)]at f |-;dsimp only;rw[g];exact⟨cw (EI (.o 4) [KfW] [] DO [(10,[([2],1)],[.o 5])] [] [] [(89,Kcr,(.i 0))]) (ev2 H [a] [.I c] [] (.d (aI b) .nil)) UA (.bG [(sN (.seq 8 0 [([([0],1)],[.o 3,.o 4,.q 4 7,.q 1 8,.q 11 9,(.seq 1 10 [([([2],1)],[.v 6])] []),.q 1 11,.q 8 12])] []) (.o 2)),.i 0]) (kc f kn),.ok k (k.gn G) rfl rfl rfl rfl rfl rfl⟩
end
end
section
open Mc
def AZ {L:List bV} {a:Int} (h:LR L) (u:0<=a/\a<=1073741824):Ck 222 [.lit 3 (aO L),.i a] (.bG [.lit 3 (aO (Eg L a).1),.i (Eg L a).2.1,.i (Eg L a).2.2]):=by
 have z:=h.len;have s:=gG h.ok;have:=h.q;have:=h.v;have:=h.p;have y:=Ej L;unfold Eg;by_cases m:L.length=0
 .rw[if_pos m];exact cw _ (ev1 { vars:=[(0,0),Kg3],lens:=KgN } [(L.length:Int),a] [] [aO L] .nil) Khi (.bG [.q 3 0,.i 0,.i 0]) kn
 rw[if_neg m];have d:=mM (CB fun x n=>Pa (h.ok x n));rw[h.uF.1,h.uF.2]at d;have l:=oZ (a:=qs L) (b:=a) (c:=1) ⟨by omega,by omega⟩ ⟨by omega,by omega⟩ ⟨by omega,by omega⟩;have w:=RK (a:=qs L) (b:=a) (c:=1) s.1 u.1
 have t:Lh (qs L) a 1=0\/Lh (qs L) a 1=2:=by
  grind[Lh]
 generalize yJ (qs L) a 1=v at *;generalize mdR (qs L) a 1=r at *;generalize Lh (qs L) a 1=f at *;generalize qs L=k at *;generalize vs L=j at *;generalize ps L=g at *;rcases t with rfl|rfl
 .rw[if_neg (by simp)];exact cw _ (ev1 { vars:=VY,lens:=KgN,bR:=[Gs,(148,[.o 0,.v 1,.i 1],(.bG [.v 3,.o 2,.i 0]))] } [(L.length:Int),a,j,v] [.I k,.I g,.I r] [aO L] .nil) Khi (.bG [(.lit 3 [[.o 0,.v 3,.o 1]]),(.e [([2],(-1)),([3],1)]),.i 0]) (kc d (kc l kn))
 .rw[if_pos (by simp)];exact cw _ (ev1 { vars:=VY,lens:=KgN,bR:=[Gs,(148,[.o 0,.v 1,.i 1],(.bG [.v 3,.o 2,.i 2]))] } [(L.length:Int),a,j,v] [.I k,.I g,.I r] [aO L] .nil) Khi (.bG [.q 3 0,.i 0,.i 2]) (kc d (kc l kn))
def aiN (C:List (List Int)) (cs:List Int) (e item a:Int):bF (C.set e.toNat (cs.set item.toNat a))=(bF C).set e.toNat [.lit 1 ((aA cs).set item.toNat [.i a])]:=by
 simp[bF,aA,a06]
def StOk.eG {S:bK} (h:StOk S) {e item a:Int} (x:Ix S e item) (i:0<=a/\a<=1073741824):StOk (S.eG (S.cI.set e.toNat ((S.cI.getD e.toNat []).set item.toNat a))):=by
 have g:e.toNat<S.cI.length:=by rw[h.Fg];have:=x.e0;have:=x.e1;omega
 have f:=dR (d:=[]) g;refine⟨h.hn,h.hw,h.M7,by show(S.cI.set _ _).length=_;simp;exact h.Fg,h.wY,fun r b=>?_,h.mb,fun r b=>?_,h.aJ,h.ahead⟩
 .rcases a05 b with b|rfl
  .exact h.mE r b
  .simp;exact h.mE _ f
 .rcases a05 b with b|rfl
  .exact h.cb r b
  .intro v c
   rcases a05 c with c|rfl
   .exact h.cb _ f v c
   omega
section
variable {S:bK} {e item a:Int}
def Pl (G:Gn S) (hd:S.done<=1000000) (x:Ix S e item) (Y:0<=a/\a<=1073741824) :
  Ck 140 [S.av,eS 9 e item 0 0 0 a 0] (.bG [(qH S e item a).1.av,.i (qH S e item a).2])/\oH S (qH S e item a):=by
 have h:=G.toStOk;have H:=G.op hd (x.eb h) (x.ib h) (loc:=0) (by omega) (dst:=0) (by omega) (q:=0) (by omega) (a:=a) (by omega) (ref:=0) (by omega);have W:=h.wx x;have ag:=h.mb' x;have D:(0:Int)<=0/\(0:Int)<=1:=by omega
 have J:(0:Int)<=1/\(1:Int)<=1:=by omega
 have hw:=h.eG (a:=a) x Y;unfold qH;have ad:=aiN S.cI (S.cI.getD e.toNat []) e item a;generalize hC:S.cI.set e.toNat ((S.cI.getD e.toNat []).set item.toNat a)=n at *;generalize S.methods.getD e.toNat []=ms at W;generalize S.cI.getD e.toNat []=cs at W ad;have:=W.bd;have A:=gD h x;by_cases ab:(S.aJ e).closed=true
 .rw[if_pos ab]at A |-
  exact⟨cw (iJ [(1,4)] HP KgK DJ DG) (ev3 H [(S.cX e item)] [] [aA ms] (.d (aS W.qT) (.d (aI W.hm) .nil))) UQ KbB (kc A kn),.bad G (by decide)⟩
 rw[if_neg ab]at A |-;by_cases z:S.cX e item=4;rotate_left
 .rw[if_pos z]
  exact⟨cw (iJ [(1,4)] [Keb,Kee,KgM] KgK DJ DH) (ev3 H [(S.cX e item)] [] [aA ms] (.d (aS W.qT) (.d (aI W.hm) .nil))) UQ (.bG [KfZ,.i 12]) (kc A kn),.bad G (by decide)⟩
 rw[if_neg (by simp[z])];have L:=lT h x D.1 D.2;have p0:=h.AS x D.1 D.2;rw[z]at p0;have s:=AZ p0.lr Y;obtain⟨y,c,f,Q⟩:∃M t f,Eg ((S.aJ e).bE (2*item+0)).aX a=(M,t,f):=⟨_,_,_,rfl⟩;have q0:=Lv p0 Y.1 Q;rw[Q]at s |-;have f0:=q0.2.2;have K:=sK h x D.1 D.2 { (S.aJ e).bE (2*item+0)with aX:=y };have C:=jK h x D.1 D.2 (p:={ (S.aJ e).bE (2*item+0)with aX:=y }) (by rw[z];exact q0.1);dsimp only at s |-;by_cases m:f=0;rotate_left
 .rw[if_pos m]
  have H:=H.er (f:=f) (by omega);clear K C q0 p0 Q;generalize (S.aJ e).bE (2*item+0)=P at *;obtain⟨L0,X,V,U⟩:=P;obtain⟨t,aa⟩:∃t,t=c:=⟨_,rfl⟩;rw[<-aa]at s;exact⟨cw (iJ [(1,4)] VT KgK DJ [DW,Vo,(222,[.q 3 8,.v 5],(.bG [.q 3 9,.o 5,.v 13]))]) (ev3 H [(S.cX e item)] [.I X,.I V,.I U,.I t] [aA ms,aO L0,aO y] (.d (aS W.qT) (.d (aI W.hm) .nil))) UQ Kbh (kc A (kc L (kc s kn))),.bad G (by unfold gZ;omega)⟩
 subst m;rw[if_neg (by simp)];rw[show S.mH e (2*item+0) y=S.bJ e ((S.aJ e).bX (2*item+0) { (S.aJ e).bE (2*item+0)with aX:=y })from rfl];generalize S.bJ e ((S.aJ e).bX (2*item+0) { (S.aJ e).bE (2*item+0)with aX:=y })=S1 at *;obtain⟨j,rfl⟩:=C.ex;clear Q p0;generalize (S.aJ e).bE (2*item+0)=P at *;obtain⟨L0,X,V,U⟩:=P;dsimp only at *;have x1:=C.ix x;have T:=lT C.ok x1 J.1 J.2;have p1:=C.ok.AS x1 J.1 J.2;rw[show(S.bQ j).cX e item=S.cX e item from rfl,z]at p1;have w:=AZ p1.lr Y;obtain⟨B,k,f,O⟩:∃M t f,Eg (((S.bQ j).aJ e).bE (2*item+1)).aX a=(M,t,f):=⟨_,_,_,rfl⟩;have q1:=Lv p1 Y.1 O;rw[O]at w |-;have f1:=q1.2.2;have R:=sK C.ok x1 J.1 J.2 { ((S.bQ j).aJ e).bE (2*item+1)with aX:=B };have k2:=jK C.ok x1 J.1 J.2 (p:={ ((S.bQ j).aJ e).bE (2*item+1)with aX:=B }) (by rw[show(S.bQ j).cX e item=S.cX e item from rfl,z];exact q1.1);dsimp only at w |-;by_cases m:f=0;rotate_left
 .rw[if_pos m]
  have H:=H.er (f:=f) (by omega);clear R k2 p1 O;generalize ((S.bQ j).aJ e).bE (2*item+1)=P at *;obtain⟨L1,u1,y1,Z⟩:=P;obtain⟨t,aa⟩:∃t,t=k:=⟨_,rfl⟩;rw[<-aa]at w;exact⟨cw (iJ [(1,4),Kab] VT KgK DJ [DW,Vo,DK,ZJ,UR,(222,[.q 3 11,.v 5],(.bG [.q 3 12,.o 8,.v 13]))]) (ev3 H [(S.cX e item),c] [.I X,.I V,.I U,.I u1,.I y1,.I Z,.I t] [aA ms,aO L0,aO y,bD j,aO L1,aO B] (.d (aS W.qT) (.d (aI W.hm) .nil))) UQ Kbh (kc A (kc L (kc s (kc K (kc T (kc w kn)))))),.bad G (by unfold gZ;omega)⟩
 subst m;rw[if_neg (by simp)];rw[show(S.bQ j).mH e (2*item+1) B=(S.bQ j).bJ e (((S.bQ j).aJ e).bX (2*item+1) { ((S.bQ j).aJ e).bE (2*item+1)with aX:=B })from rfl];generalize (S.bQ j).bJ e (((S.bQ j).aJ e).bX (2*item+1) { ((S.bQ j).aJ e).bE (2*item+1)with aX:=B })=S2 at *;have K2:=C.trans k2;obtain⟨u,rfl⟩:=K2.ex;clear O p1;generalize ((S.bQ j).aJ e).bE (2*item+1)=P at *;obtain⟨L1,u1,y1,Z⟩:=P;dsimp only at *
 have x2:=K2.ix x;have h3:StOk ((S.bQ u).eG n):=by
  have g:=K2.ok.eG (a:=a) x2 Y;rw[show(S.bQ u).cI=S.cI from rfl,hC]at g;exact g
 have x3:Ix ((S.bQ u).eG n) e item:=⟨x2.e0,x2.e1,x2.i0,x2.i1⟩;have N:=eM h3 x3 (l:=[⟨0,c+k⟩,⟨6,-c-k⟩]) (vK fmo) (by simp);obtain⟨k4,g4,z4⟩:=eX h3 x3 [⟨0,c+k⟩,⟨6,-c-k⟩]
 have G3:Gn ((S.bQ u).eG n):=by
  have g:=K2.gn G;exact⟨h3,g.NU,g.OL,g.yP,g.II,g.C8,g.OA,g.d0,g.al,g.pb⟩
 generalize dS ((S.bQ u).eG n) e [⟨0,c+k⟩,⟨6,-c-k⟩]=b at *;obtain⟨S4,f⟩:=b;dsimp only at *;have ac:∀E,((S.bQ E).eG n).av=.agg [.i S.bU,.i S.bT,.lit 1 (aA S.weights),.lit 1 (bF S.methods),.lit 1 ((bF S.cI).set e.toNat [.lit 1 ((aA cs).set item.toNat [.i a])]),.lit 8 (bD E),.lit 8 (hH S.bB),.lit 9 (dX S.aN),.lit 6 (fM S.aH),.i S.done]:=fun E=>by rw[<-ad];rfl
 by_cases m:f=0;rotate_left
 .rw[if_pos m]
  have af:=(z4 m).symm;subst af;have H:=H.er (f:=f) (by have:=g4;unfold gZ at this;omega);have N:Ck 92 [.agg [.i S.bU,.i S.bT,.lit 1 (aA S.weights),.lit 1 (bF S.methods),.lit 1 ((bF S.cI).set e.toNat [.lit 1 ((aA cs).set item.toNat [.i a])]),.lit 8 (bD u),.lit 8 (hH S.bB),.lit 9 (dX S.aN),.lit 6 (fM S.aH),.i S.done],.i e,.lit 2 (bS [⟨0,c+k⟩,⟨6,-c-k⟩])] (.bG [((S.bQ u).eG n).av,.i f]):=by rw[<-ac];exact N
  exact⟨cw (iJ Z7 VT Kcv ZT [DW,Vo,DK,ZJ,UR,Dg,Zv,(92,KZ,(.bG [(.agg [.o 0,.o 1,.q 1 1,.q 1 2,.q 1 15,.q 8 13,.q 8 4,.q 9 5,.q 6 6,.v 7]),.v 13]))]) (ev3 H [(S.cX e item),c,k] [.I X,.I V,.I U,.I u1,.I y1,.I Z,.I (S.cost e item)] [aA ms,aO L0,aO y,bD j,aO L1,aO B,bD u,aA cs,bF n] (.d (aS W.qT) (.d (aI W.hm) (.d (aS W.Cz) (.d (aI W.hc) .nil))))) UQ Kbh (kc A (kc L (kc s (kc K (kc T (kc w (kc R (kc N kn)))))))),.bad G g4⟩
 subst m;rw[if_neg (by simp)];clear z4;obtain⟨E3,rfl⟩:∃E,S4=(S.bQ E).eG n:=⟨S4.aD,k4.eq⟩;have N:Ck 92 [.agg [.i S.bU,.i S.bT,.lit 1 (aA S.weights),.lit 1 (bF S.methods),.lit 1 ((bF S.cI).set e.toNat [.lit 1 ((aA cs).set item.toNat [.i a])]),.lit 8 (bD u),.lit 8 (hH S.bB),.lit 9 (dX S.aN),.lit 6 (fM S.aH),.i S.done],.i e,.lit 2 (bS [⟨0,c+k⟩,⟨6,-c-k⟩])] (.bG [((S.bQ E3).eG n).av,.i 0]):=by rw[<-ac];exact N
 have x4:=k4.ix x3;have Ct:=fQ k4.ok x4 (r:=[0,0,0,0,0,0,0,0,0,0,c+k]) rfl;obtain⟨k5,g5,z5⟩:=gN k4.ok x4 (r:=[0,0,0,0,0,0,0,0,0,0,c+k]) rfl;generalize eC ((S.bQ E3).eG n) e item [0,0,0,0,0,0,0,0,0,0,c+k]=b at *;obtain⟨S5,f⟩:=b;dsimp only at *;by_cases m:f=0;rotate_left
 .rw[if_pos m]
  have ae:=(z5 m).symm;subst ae;have H:=H.er (f:=f) (by have:=g5;unfold gZ at this;omega);exact⟨cw (iJ Z7 VT Kcv ZT [DW,Vo,DK,ZJ,UR,Dg,Zv,Kt,(124,Jm,(.bG [Vp,.v 13]))]) (ev3 H [(S.cX e item),c,k] [.I X,.I V,.I U,.I u1,.I y1,.I Z,.I (S.cost e item)] [aA ms,aO L0,aO y,bD j,aO L1,aO B,bD u,aA cs,bF n,bD E3] (.d (aS W.qT) (.d (aI W.hm) (.d (aS W.Cz) (.d (aI W.hc) .nil))))) UQ Kbh (kc A (kc L (kc s (kc K (kc T (kc w (kc R (kc N (kc Ct kn))))))))),.bad G g5⟩
 subst m;rw[if_neg (by simp)];have K5:=k4.trans k5;obtain⟨E4,rfl⟩:∃E,S5=(S.bQ E).eG n:=⟨S5.aD,K5.eq⟩;have F:=oH.ok K5 (K5.gn G3) rfl rfl rfl rfl rfl rfl;exact⟨cw (iJ Z7 VT Kcv ZT [DW,Vo,DK,ZJ,UR,Dg,Zv,Kt,(124,Jm,Yd)]) (ev3 H [(S.cX e item),c,k] [.I X,.I V,.I U,.I u1,.I y1,.I Z,.I (S.cost e item)] [aA ms,aO L0,aO y,bD j,aO L1,aO B,bD u,aA cs,bF n,bD E3,bD E4] (.d (aS W.qT) (.d (aI W.hm) (.d (aS W.Cz) (.d (aI W.hc) .nil))))) UQ Yd (kc A (kc L (kc s (kc K (kc T (kc w (kc R (kc N (kc Ct kn))))))))),⟨F.gn,F.err,fun h=>absurd rfl h,F.le.trans K2.len,rfl,rfl,rfl,rfl,rfl⟩⟩
end
end
section
def fZ (v all:Int):Int->List bV->List bV
 |_,[]=>[]
 |left,[x]=>[⟨x.q,x.v+left,x.p⟩]
 |left,x::y::r=>⟨x.q,x.v+dM v x.q all,x.p⟩::fZ v all (left-dM v x.q all) (y::r)
def IJ (v all:Int):∀(l:List bV) (left:Int),(fZ v all left l).length=l.length
 |[],_=>rfl
 |[x],_=>rfl
 |x::y::r,left=>by simp only[fZ,a0t];rw[IJ v all (y::r)];rfl
def Ci (v all:Int):∀(l:List bV) (left:Int),qs (fZ v all left l)=qs l
 |[],_=>rfl
 |[x],_=>rfl
 |x::y::r,left=>by simp only[fZ];rw[gQ,Ci v all (y::r),gQ (l:=y::r)]
def ML {v q all:Int} (b:0<=v) (f:v<=288230376151711744) (c:0<=q) (d:q<=all) (a:1<=all):0<=dM v q all/\dM v q all*all<=v*q:=by
 have e:dM v q all=v*q/all:=by
  unfold dM;rw[if_neg,if_neg (by omega)];have:mD v=true:=fK.2 ⟨by omega,by omega⟩;rw[this];simp;omega
 rw[e];exact⟨(uQ a c d b).1,Int.ediv_mul_le _ (by omega)⟩
end
section
open Mc
variable {L:List bV}
def vH (L:List bV) (v:Int):List bV×Int :=
 if L.length=0 then(L,5)else if 288230376151711744<v then(L,2)else if lM (fZ v (qs L) v L)=true then(fZ v (qs L) v L,0)else(L,2)
def anv (h:LR L) {x:bV} (a:x∈L):x.q<=qs L:=by
 have go:∀(l:List bV),(∀z∈l,kS z=true)->x∈l->x.q<=qs l:=by
  intro l;induction l with
  |nil=>intro _ a;cases a
  |cons z t d =>
   intro b a;have e:=eI.1 (b z (by simp));have f:=(gG (l:=t) fun y c=>b y (by simp[c])).1;rw[gQ];rcases a0c.1 a with rfl|a
   .omega
   .have:=d (fun y c=>b y (by simp[c])) a;omega
 exact go L h.ok a
def ah5 {d:List bV} {j:Nat} {x:bV} (b:d.length=j) (a:L.drop j=x::L.drop (j+1)) (y:bV):(aO (d++L.drop j)).set j [.i y.q,.i y.v,.i y.p]=aO (d++[y]++L.drop (j+1)):=by
 subst b;rw[a];simp only[aO,a09,a01,a1x];rw[a4u _ _ (by simp)];simp;rfl
def aol {a b c:Int} (h1:fW a) (f:fW b) (e:fW c):eW [a,b,c]:=by
 intro v d;simp only[a0c,a0b,or_false]at d;rcases d with rfl|rfl|rfl
 .exact h1
 .exact f
 .exact e
def aeI {v a:Int} (d:0<=v/\v<=288230376151711744) (f:1<=a) (i:a=qs L) (h:LR L):∀z∈fZ v a v L,fW z.q/\fW z.v/\fW z.p:=by
 have go:∀(l:List bV) (left:Int),(∀x∈l,kS x=true)->qs l<=a->0<=left->left<=v->v*qs l<=left*a->∀z∈fZ v a left l,fW z.q/\fW z.v/\fW z.p:=by
  intro l;induction l with
  |nil=>intro left _ _ _ _ _ z b;cases b
  |cons x r g =>
   intro left c k o n hs z b;have s:=eI.1 (c x (by simp));have j:=(gG (l:=r) fun y e=>c y (by simp[e])).1;cases r with
   |nil =>
    simp only[fZ,a07]at b;subst b;exact⟨⟨by dsimp only;omega,by dsimp only;omega⟩,⟨by dsimp only;omega,by dsimp only;omega⟩,⟨by dsimp only;omega,by dsimp only;omega⟩⟩
   |cons y t =>
    rw[gQ]at k hs;obtain⟨p0,p1⟩:=ML d.1 d.2 (q:=x.q) (by omega) (by omega) f;simp only[fZ]at b;have e1:v*(x.q+qs (y::t))=v*x.q+v*qs (y::t):=a16 _ _ _;have e2:(left-dM v x.q a)*a=left*a-dM v x.q a*a:=Int.sub_mul _ _ _;have u:0<=v*qs (y::t):=a0p d.1 j
    have m:0<=left-dM v x.q a:=by
     have:0<=(left-dM v x.q a)*a:=(by omega);exact a47 this (by omega)
    rcases a0c.1 b with rfl|b
    .exact⟨⟨by dsimp only;omega,by dsimp only;omega⟩,⟨by dsimp only;omega,by dsimp only;omega⟩,⟨by dsimp only;omega,by dsimp only;omega⟩⟩
    .exact g (left-dM v x.q a) (fun y e=>c y (by simp[e])) (by omega) m (by omega) (by omega) z b
 exact go L v h.ok (by omega) d.1 (a0f _) (by rw[i];exact a0f _)
namespace RS
abbrev sF (v n l y i:AV):List AV:=fr 79 [(2,v),(4,.ptr 4 0 0 0),(6,.ptr 4 1 0 0),(7,.i 0),(8,n),(9,l),(10,.ptr 3 3 0 0),(11,y),(12,i)]
abbrev sB (L:List bV) (p0 p1 p2 d b a:Int) (c:List (List AV)):List Mc.dC:=[.cells 161 4 [[.lit 3 (aO L),.i p0,.i p1,.i p2]],.cells 161 4 [[.emp,.i 0,.i 0,.i 0]],.cells 101 3 c,.cells 101 3 [[.i d,.i b,.i a]]]
noncomputable def body:Code:=(Tryz.f150).body.getD .skip
abbrev alY (c:Code) (r:Option (RT Out)):Prop:=nV { vars:=KaS,lens:=KgN,bR:=Ww } c (By++List.replicate 76 .undef) [] [some 0,some 1,some 2,some 3] (sF (.v 2) (.v 0) Keg (.v 2) (.i 0)) [Kad,Kaz,(.sc 101 3 0 [] [] [([0],1)]),Kb4] r
noncomputable def alL:Option (RT Out):=uL { vars:=KaS,lens:=KgN,bR:=Ww } body (By++List.replicate 76 .undef:List AV).length (By++List.replicate 76 .undef) [] 0
def aoz:alY body alL:=⟨rfl,by decide +kernel,by decide +kernel⟩
abbrev agF (o:Option (RT Out)):Prop:=iU { vars:=KcJ,lens:=Kdb,bR:=[(199,[.q 3 1],Kgb)] } Tryz.f150 o 1 (sF (.v 1) (.v 0) Keg (.o 6) (.v 0)) JL (D0)
def walk (oA:Option (RT Out)) (rA:alY body oA) (rp:dD { vars:=[(1,30),Kfs,Kfs,Kab,Kab,(0,29)],facts:=[([([0],1),([5],-1)],2,30)],lens:=Kdb,gI:=[(1,[([5],1)],[.o 6,.v 2,.o 7])],bR:=[(149,[.v 1,.o 6,.o 3],(.v 4))] } (aW oA) (sF (.v 1) (.v 0) Keg (.v 3) (.v 5)) JL 0 [some 0,some 1,some 2,some 3] (sF (.v 1) (.v 0) Keg (.e Kgi) KfC) [Kad,Kaz,(.sc 101 3 1 [([([5],1)],[.o 6,(.e [([2],1),([4],1)]),.o 7])] [] [([0],1)]),Kb4]) (rl:dD { vars:=[(1,30),Kfs,Kfs,Kab,(0,29)],facts:=[([([0],1),([4],-1)],1,1)],lens:=Kdb,gI:=[(1,[([4],1)],[.o 6,.v 2,.o 7])] } (aW oA) (sF (.v 1) (.v 0) Keg (.v 3) (.v 4)) JL 0 [some 0,some 1,some 2,some 3] (sF (.v 1) (.v 0) Keg (.i 0) KfB) [Kad,Kaz,(.sc 101 3 1 [([([4],1)],[.o 6,(.e [([2],1),([3],1)]),.o 7])] [] [([0],1)]),Kb4]) (rX:dD { vars:=KcJ,lens:=Kdb } (aW oA) (sF (.v 1) (.v 0) Keg (.o 6) (.v 0)) JL 3 [some 0,some 1,some 2,some 3] (sF (.v 1) (.v 0) Keg (.o 6) (.v 0)) JL) (rO:iU { vars:=KcJ,lens:=Kdb,bR:=[(199,[.q 3 1],Kgm)] } Tryz.f150 oA 1 (sF (.v 1) (.v 0) Keg (.o 6) (.v 0)) JL ((.bG [KcR,.i 0]))) (rB:agF oA)
  {p0 p1 p2 m v:Int} (h:LR L) (h1:1<=L.length) (hm:1<=m/\m<=3) (E:0<=v/\v<=288230376151711744) :
  Ck 150 [.i m,dI.av ⟨L,p0,p1,p2⟩,.i v] (.bG [dI.av ⟨if lM (fZ v (qs L) v L)=true then fZ v (qs L) v L else L,p0,p1,p2⟩,.i (if lM (fZ v (qs L) v L)=true then 0 else 2)]):=by
 have P:=qN (p0:=p0) (p1:=p1) (p2:=p2) h;have W:=h.q;have ac:=h.len;obtain⟨s,T⟩:∃s,s=vs L:=⟨_,rfl⟩;obtain⟨g,S⟩:∃g,g=ps L:=⟨_,rfl⟩;obtain⟨b,u⟩:∃b,b=qs L:=⟨_,rfl⟩
 rw[<-T,<-S,<-u]at P;rw[<-u]at W |-;have K:1<=b:=by
  rw[u];match L,h1,h with
  |z::t,_,h =>
   have:=eI.1 (h.ok z (by simp));have:=(gG (l:=t) fun x M=>h.ok x (by simp[M])).1;rw[gQ];omega
 refine CK.fP Tryz.func150 (c:=body) (by kernel_rfl) (yO.out) (uD.out) fun A w0 a0=>?_;intro mm w a f;rw[Tryz.ntmps150]at f;refine rA.go (ev1 _ [(L.length:Int),m,v] [.I p0,.I p1,.I p2,.I b,.I s,.I g] [aO L] .nil) (xK (kc P kn)) f (fd:=sF (.i v) (.i (L.length:Int)) (.own 101 3 2 0 L.length) (.i v) (.i 0)) (bd:=sB L p0 p1 p2 b s g (aO L)) ?_;intro mm w a f;clear P;refine cN (fun n a w=>∃(j:Nat) (left:Int) (d:List bV),n=L.length-j/\j<=L.length/\d.length=j/\fZ v b v L=d++fZ v b left (L.drop j)/\0<=left/\left<=v/\v*qs (L.drop j)<=left*b/\∃mm,@dZ dK dN A w0 a0 mm w a (sF (.i v) (.i (L.length:Int)) (.own 101 3 2 0 L.length) (.i left) (.i (j:Int))) (eB (sB L p0 p1 p2 b s g (aO (d++L.drop j))))) ?_ (n:=L.length) ⟨0,v,[],rfl,a0j _,rfl,rfl,E.1,a0f _,by rw[List.drop_zero,u];exact a0f _,_,f⟩;rintro n a w ⟨j,left,d,rfl,hj,X,D,l0,l1,hs,mm,f⟩;have Q:(d++L.drop j).length=L.length:=by simp;omega
 rcases(by omega:j=L.length\/j<L.length)with rfl|J
 .have B:L.drop L.length=[]:=a3e
  rw[B]at D Q;rw[B]at f;simp only[fZ,a1i]at D Q f;rw[D];generalize d=c at *;refine rX.go (ev1 _ [(L.length:Int),v] [.I p0,.I p1,.I p2,.I b,.I s,.I g,.I left] [aO L,aO c] .nil) (xK kn) f ?_
  intro mm w a f;have hI:eW (flat c):=by
   rw[<-D];refine CB fun z B=>?_
   obtain⟨o1,o2,o3⟩:=aeI E K u h z B;exact aol o1 o2 o3
  have O:=zS hI (by omega);by_cases F:lM c=true
  .rw[if_pos F,if_pos F]
   rw[F]at O;exact rO.go (ev1 _ [(L.length:Int),v] [.I p0,.I p1,.I p2,.I b,.I s,.I g,.I left] [aO L,aO c] .nil) (xK (kc O kn)) f
  .rw[if_neg F,if_neg F]
   rw[show lM c=false by simpa using F]at O;exact rB.go (ev1 _ [(L.length:Int),v] [.I p0,.I p1,.I p2,.I b,.I s,.I g,.I left] [aO L,aO c] .nil) (xK (kc O kn)) f
 .obtain⟨x,G⟩:∃x,L[j]?=some x:=⟨_,a0d J⟩
  have C:L.drop j=x::L.drop (j+1):=by rw[<-a2t J];congr 1;exact Option.some.inj (by rw[<-a0d J,G])
  have ab:=eI.1 (h.ok x (a0a G))
  have M:(d++L.drop j)[(j:Int).toNat]?=some x:=by
   rw[a0w,a1u (by omega),X,a2r,C];rfl
  have H:∀y,(aO (d++L.drop j)).set j [.i y.q,.i y.v,.i y.p]=aO (d++[y]++L.drop (j+1)):=fun y=>ah5 X C y;have N:=fun(z:bV) (B:z∈L.drop (j+1))=>h.ok z (a2x B);have V:=(gG N).1;rw[C,gQ]at hs;generalize hc:d++L.drop j=c at *;rcases(by omega:j+1=L.length\/j+1<L.length)with aa|Z
  .refine rl.go (ev1 _ [(L.length:Int),v,x.v,left,(j:Int)] [.I p0,.I p1,.I p2,.I b,.I s,.I g,.I x.q,.I x.p] [aO L,aO c] (.d (aY M) .nil)) (xK kn) f (fd:=sF (.i v) (.i (L.length:Int)) (.own 101 3 2 0 L.length) (.i 0) (.i (1+(j:Int)))) (bd:=sB L p0 p1 p2 b s g ((aO c).set j [.i x.q,.i (x.v+left),.i x.p])) ?_
   intro mm w a f;have B:L.drop (j+1)=[]:=a4n.2 (by omega);refine⟨L.length-(j+1),by omega,j+1,0,d++[⟨x.q,x.v+left,x.p⟩],rfl,by omega,by simp;omega,?_,a0f _,E.1,?_,mm,?_⟩
   .rw[D,C,B];simp[fZ]
   .rw[B];simp[qs]
   .rw[show(1+(j:Int))=((j+1:Nat):Int)by omega]at f
    rw[<-H ⟨x.q,x.v+left,x.p⟩];exact f
  .have hk:=kO (v:=v) (q:=x.q) (n:=b) ⟨by omega,by omega⟩ ⟨by omega,by omega⟩ ⟨by omega,by omega⟩
   have U:x.q<=b:=by rw[u];exact anv h (a0a G)
   obtain⟨k0,k1⟩:=ML E.1 E.2 (q:=x.q) (by omega) U K
   obtain⟨y,r,R⟩:∃y r,L.drop (j+1)=y::r:=by
    cases hq:L.drop (j+1)with
    |nil=>have:=a4n.1 hq;omega
    |cons y r=>exact⟨y,r,rfl⟩
   have Y:fZ v b left (x::L.drop (j+1))=⟨x.q,x.v+dM v x.q b,x.p⟩::fZ v b (left-dM v x.q b) (L.drop (j+1)):=by rw[R];rfl
   rw[C,Y]at D;generalize dM v x.q b=k at *;have e1:v*(x.q+qs (L.drop (j+1)))=v*x.q+v*qs (L.drop (j+1)):=a16 _ _ _;have e2:(left-k)*b=left*b-k*b:=Int.sub_mul _ _ _;have e3:0<=v*qs (L.drop (j+1)):=a0p E.1 V
   have e4:0<=left-k:=by
    have:0<=(left-k)*b:=(by omega);exact a47 this (by omega)
   refine rp.go (ev1 _ [(L.length:Int),v,x.v,left,k,(j:Int)] [.I p0,.I p1,.I p2,.I b,.I s,.I g,.I x.q,.I x.p] [aO L,aO c] (.d (aY M) .nil)) (xK (kc hk kn)) f (fd:=sF (.i v) (.i (L.length:Int)) (.own 101 3 2 0 L.length) (.i (left-k)) (.i (1+(j:Int)))) (bd:=sB L p0 p1 p2 b s g ((aO c).set j [.i x.q,.i (x.v+k),.i x.p])) ?_;intro mm w a f;refine⟨L.length-(j+1),by omega,j+1,left-k,d++[⟨x.q,x.v+k,x.p⟩],rfl,by omega,by simp;omega,?_,e4,by omega,by omega,mm,?_⟩
   .rw[D];simp
   .rw[show(1+(j:Int))=((j+1:Nat):Int)by omega]at f
    rw[<-H ⟨x.q,x.v+k,x.p⟩];exact f
end RS
def XJ {p0 p1 p2 m v:Int} (h:LR L) (e:1<=m/\m<=3) (d:0<=v/\v<=9223372036854775807):Ck 150 [.i m,dI.av ⟨L,p0,p1,p2⟩,.i v] (.bG [dI.av ⟨(vH L v).1,p0,p1,p2⟩,.i (vH L v).2]):=by
 have f:=h.len;unfold vH;by_cases c:L.length=0
 .rw[if_pos c];exact cw _ (ev1 { vars:=[(0,0),(1,3),Ke8],lens:=KgN } [(L.length:Int),m,v] [.I p0,.I p1,.I p2] [aO L] .nil) By (.bG [KcQ,.i 5]) kn
 rw[if_neg c];by_cases b:288230376151711744<v
 .rw[if_pos b];exact cw _ (ev1 { vars:=[(1,30),(1,3),Kaa],lens:=KgN } [(L.length:Int),m,v] [.I p0,.I p1,.I p2] [aO L] .nil) By D0 kn
 rw[if_neg b];have W:=RS.walk RS.alL RS.aoz .of .of .of .of .of (p0:=p0) (p1:=p1) (p2:=p2) h (by omega) e ⟨d.1,by omega⟩;by_cases a:lM (fZ v (qs L) v L)=true
 .simp only[if_pos a]at W |-;exact W
 .simp only[if_neg a]at W |-;exact W
def OQ {m:Int} {d:tY} (h:jS m L d) (v:Int):jS m (vH L v).1 d/\gZ (vH L v).2:=by
 unfold vH;split
 .exact⟨h,⟨by simp,by simp⟩⟩
 .split
  .exact⟨h,⟨by simp,by simp⟩⟩
  .split
   .rename_i e
    refine⟨⟨LR.of e,?_,h.a0,h.b0,h.c0,?_,h.zero⟩,⟨by simp,by simp⟩⟩
    .show m=1\/(fZ v (qs L) v L).length<=1
     rw[IJ];exact h.one
    .show d.a+d.b+d.c<=qs (fZ v (qs L) v L)
     rw[Ci];exact h.sum
   .exact⟨h,⟨by simp,by simp⟩⟩
def EW (S:bK) (r:wU) (v:Int):Int:=dM v (min (r.eU-r.back) (qs ((S.aJ r.aU).bE (2*r.item+r.loc)).aX)) r.eU
def kK (S:bK) (r:wU) (v:Int):bK×Int×Int :=
 if S.cX r.aU r.item=4 then(S,0,0)else if EW S r v=0 then(S,0,0)else
 match vH ((S.aJ r.aU).bE (2*r.item+r.loc)).aX (EW S r v)with
 |(M,f)=>if f≠0 then(S,0,f)else
 match eC (S.bJ r.aU ((S.aJ r.aU).bX (2*r.item+r.loc) { (S.aJ r.aU).bE (2*r.item+r.loc)with aX:=M })) r.aU r.item [0,0,EW S r v,0,0,0,0,0,0,0,0]with
 |(a,f)=>(a,EW S r v,f)
section
variable {S:bK} {e item loc rq rv ro ra rb v:Int}
def adU (G:Gn S) (Y:S.done<=1000000) (x:Ix S e item) (t:0<=loc/\loc<=1) (hq:1<=rq/\rq<=1073741824) (hb:0<=rb/\rb<=rq) (N:0<=v/\v<=1125899906842624) :
  Ck 91 [S.av,.agg (jF [e,item,loc,rq,rv,ro,ra,rb]),.i v] (.bG [(kK S ⟨e,item,loc,rq,rv,ro,ra,rb⟩ v).1.av,.i (kK S ⟨e,item,loc,rq,rv,ro,ra,rb⟩ v).2.1,.i (kK S ⟨e,item,loc,rq,rv,ro,ra,rb⟩ v).2.2]) /\
  Kn S (kK S ⟨e,item,loc,rq,rv,ro,ra,rb⟩ v).1/\(0<=(kK S ⟨e,item,loc,rq,rv,ro,ra,rb⟩ v).2.1/\(kK S ⟨e,item,loc,rq,rv,ro,ra,rb⟩ v).2.1<=v)/\gZ (kK S ⟨e,item,loc,rq,rv,ro,ra,rb⟩ v).2.2:=by
 have h:=G.toStOk;have H:=G.op Y (x.eb h) (x.ib h) t (dst:=0) (by omega) (q:=0) (by omega) (a:=0) (by omega) (ref:=0) (by omega);have W:=h.wx x;have hm:=h.mb' x;generalize S.methods.getD e.toNat []=ms at W;generalize S.cI.getD e.toNat []=cs at W;have:=W.bd;have s:=h.AS x t.1 t.2;have o:=lT h x t.1 t.2;have l:=qN (p0:=((S.aJ e).bE (2*item+loc)).p0) (p1:=((S.aJ e).bE (2*item+loc)).p1) (p2:=((S.aJ e).bE (2*item+loc)).p2) s.lr;have tb:=(gG s.lr.ok).1;have aa:=s.lr.q;have u:=fun P=>sK h x t.1 t.2 P
 have k:=fun P Z=>jK h x t.1 t.2 (p:=P) Z;have b:=kO (v:=v) (q:=min (rq-rb) (qs ((S.aJ e).bE (2*item+loc)).aX)) (n:=rq) ⟨by omega,by omega⟩ ⟨by omega,by omega⟩ ⟨by omega,by omega⟩;have cb:=FH (v:=v) (q:=min (rq-rb) (qs ((S.aJ e).bE (2*item+loc)).aX)) (n:=rq) (by omega) (by omega) (by omega) (by omega) (by omega);have e0:EW S ⟨e,item,loc,rq,rv,ro,ra,rb⟩ v=dM v (min (rq-rb) (qs ((S.aJ e).bE (2*item+loc)).aX)) rq:=rfl;unfold kK;rw[e0];dsimp only;obtain⟨z,w⟩:=OQ s (dM v (min (rq-rb) (qs ((S.aJ e).bE (2*item+loc)).aX)) rq);have A:=fun(h3:S.cX e item≠4)=>XJ (p0:=((S.aJ e).bE (2*item+loc)).p0) (p1:=((S.aJ e).bE (2*item+loc)).p1) (p2:=((S.aJ e).bE (2*item+loc)).p2) (m:=S.cX e item) (v:=dM v (min (rq-rb) (qs ((S.aJ e).bE (2*item+loc)).aX)) rq) s.lr (by omega) (by omega);generalize dM v (min (rq-rb) (qs ((S.aJ e).bE (2*item+loc)).aX)) rq=c at *;generalize vH ((S.aJ e).bE (2*item+loc)).aX c=R at *;obtain⟨M,f⟩:=R;have u:=u { (S.aJ e).bE (2*item+loc)with aX:=M };have k:=k { (S.aJ e).bE (2*item+loc)with aX:=M } z;generalize S.bJ e ((S.aJ e).bX (2*item+loc) { (S.aJ e).bE (2*item+loc)with aX:=M })=S1 at *;clear s z;generalize (S.aJ e).bE (2*item+loc)=P at *;obtain⟨L,p0,p1,p2⟩:=P;dsimp only at *;generalize qs L=tq at *;generalize vs L=tv at *;generalize ps L=tp at *;obtain⟨C,rfl⟩:=k.ex;have K:Kn S S:=.refl h;have O:=k.ix x;have E:=fQ k.ok O (r:=[0,0,c,0,0,0,0,0,0,0,0]) rfl;obtain⟨V,g2,z2⟩:=gN k.ok O (r:=[0,0,c,0,0,0,0,0,0,0,0]) rfl;generalize eC (S.bQ C) e item [0,0,c,0,0,0,0,0,0,0,0]=T at *;obtain⟨S2,g⟩:=T;dsimp only at *;have U:=k.trans V;obtain⟨D,rfl⟩:=U.ex;by_cases B:S.cX e item=4
 .rw[if_pos B]
  refine⟨?_,K,⟨a0f _,N.1⟩,⟨by simp,by simp⟩⟩;rcases(by omega:rq-rb<=tq\/tq<rq-rb)with j|j
  .rw[a3g j]at b
   exact cw (iJ Zk [Keb,Kee,HQ,KgL] KgK DJ Je) (ev3 H [(S.cX e item),rq,rb,tq,v,c] [.I rv,.I ro,.I ra,.I tv,.I tp,.I p0,.I p1,.I p2] [aA ms,aO L] (.d (aS W.qT) (.d (aI W.hm) .nil))) YX Kao (kc o (kc l (kc b kn)))
  .rw[a3h (by omega)]at b
   exact cw (iJ Zk [Keb,Kee,Hr,KgL] KgK DJ Jk) (ev3 H [(S.cX e item),rq,rb,tq,v,c] [.I rv,.I ro,.I ra,.I tv,.I tp,.I p0,.I p1,.I p2] [aA ms,aO L] (.d (aS W.qT) (.d (aI W.hm) .nil))) YX Kao (kc o (kc l (kc b kn)))
 rw[if_neg B];have y:=A B;by_cases J:c=0
 .rw[if_pos J]
  refine⟨?_,K,⟨a0f _,N.1⟩,⟨by simp,by simp⟩⟩;rcases(by omega:rq-rb<=tq\/tq<rq-rb)with j|j
  .rw[a3g j]at b
   exact cw (iJ Zk [Keb,Kee,HQ,KgM,([([19],1)],0,0)] KgK DJ Je) (ev3 H [(S.cX e item),rq,rb,tq,v,c] [.I rv,.I ro,.I ra,.I tv,.I tp,.I p0,.I p1,.I p2] [aA ms,aO L] (.d (aS W.qT) (.d (aI W.hm) .nil))) YX Kao (kc o (kc l (kc b kn)))
  .rw[a3h (by omega)]at b
   exact cw (iJ Zk [Keb,Kee,Hr,KgM,([([19],1)],0,0)] KgK DJ Jk) (ev3 H [(S.cX e item),rq,rb,tq,v,c] [.I rv,.I ro,.I ra,.I tv,.I tp,.I p0,.I p1,.I p2] [aA ms,aO L] (.d (aS W.qT) (.d (aI W.hm) .nil))) YX Kao (kc o (kc l (kc b kn)))
 rw[if_neg J];by_cases Q:f=0;rotate_left
 .rw[if_pos Q]
  refine⟨?_,K,⟨a0f _,N.1⟩,w⟩;have H:=H.er (f:=f) (by have:=w;unfold gZ at this;omega);rcases(by omega:rq-rb<=tq\/tq<rq-rb)with j|j
  .rw[a3g j]at b
   exact cw (iJ Zk Jw KgK DJ [Vq,WF,HR,ZK]) (ev3 H [(S.cX e item),rq,rb,tq,v,c] [.I rv,.I ro,.I ra,.I tv,.I tp,.I p0,.I p1,.I p2] [aA ms,aO L,aO M] (.d (aS W.qT) (.d (aI W.hm) .nil))) YX Kae (kc o (kc l (kc b (kc y kn))))
  .rw[a3h (by omega)]at b
   exact cw (iJ Zk Jv KgK DJ [Vq,WF,Kb9,ZK]) (ev3 H [(S.cX e item),rq,rb,tq,v,c] [.I rv,.I ro,.I ra,.I tv,.I tp,.I p0,.I p1,.I p2] [aA ms,aO L,aO M] (.d (aS W.qT) (.d (aI W.hm) .nil))) YX Kae (kc o (kc l (kc b (kc y kn))))
 subst Q;rw[if_neg (by simp)];have F:=u;refine⟨?_,U,cb,g2⟩;by_cases X:g=0
 .subst X
  rcases(by omega:rq-rb<=tq\/tq<rq-rb)with j|j
  .rw[a3g j]at b
   exact cw (iJ Zk Jw KgK DJ [Vq,WF,HR,ZP,ZL,JQ]) (ev3 H [(S.cX e item),rq,rb,tq,v,c] [.I rv,.I ro,.I ra,.I tv,.I tp,.I p0,.I p1,.I p2] [aA ms,aO L,aO M,bD C,bD D] (.d (aS W.qT) (.d (aI W.hm) .nil))) YX BK (kc o (kc l (kc b (kc y (kc F (kc E kn))))))
  .rw[a3h (by omega)]at b
   exact cw (iJ Zk Jv KgK DJ [Vq,WF,Kb9,ZP,ZL,JQ]) (ev3 H [(S.cX e item),rq,rb,tq,v,c] [.I rv,.I ro,.I ra,.I tv,.I tp,.I p0,.I p1,.I p2] [aA ms,aO L,aO M,bD C,bD D] (.d (aS W.qT) (.d (aI W.hm) .nil))) YX BK (kc o (kc l (kc b (kc y (kc F (kc E kn))))))
 .have H:=H.er (f:=g) (by have:=g2;unfold gZ at this;omega)
  obtain⟨f,rfl⟩:∃f,f=g:=⟨_,rfl⟩;rcases(by omega:rq-rb<=tq\/tq<rq-rb)with j|j
  .rw[a3g j]at b
   exact cw (iJ Zk Jw KgK DJ [Vq,WF,HR,ZP,ZL,JO]) (ev3 H [(S.cX e item),rq,rb,tq,v,c] [.I rv,.I ro,.I ra,.I tv,.I tp,.I p0,.I p1,.I p2] [aA ms,aO L,aO M,bD C,bD D] (.d (aS W.qT) (.d (aI W.hm) .nil))) YX Bz (kc o (kc l (kc b (kc y (kc F (kc E kn))))))
  .rw[a3h (by omega)]at b
   exact cw (iJ Zk Jv KgK DJ [Vq,WF,Kb9,ZP,ZL,JO]) (ev3 H [(S.cX e item),rq,rb,tq,v,c] [.I rv,.I ro,.I ra,.I tv,.I tp,.I p0,.I p1,.I p2] [aA ms,aO L,aO M,bD C,bD D] (.d (aS W.qT) (.d (aI W.hm) .nil))) YX Bz (kc o (kc l (kc b (kc y (kc F (kc E kn))))))
end
end
section
open Mc
def jC (S:bK) (basis k:Int):Int :=
 if k<0 then 0 else match S.bB[k.toNat]? with
 |none=>0
 |some g=>if basis=0 then g.eU else if basis=1 then g.value else if basis=2 then g.eU*S.weights.getD g.item.toNat 0 else 0
namespace WT
abbrev wF (r b l i:AV):List AV:=fr 66 [(1,r),(2,b),(3,.ptr 10 0 0 0),(7,l),(8,i)]
abbrev wB (S:bK) (l:List (List AV)):List Mc.dC:=[.cells 31 10 [[.i S.bU,.i S.bT,.lit 1 (aA S.weights),.lit 1 (bF S.methods),.lit 1 (bF S.cI),.lit 8 (bD S.aD),.lit 8 (hH S.bB),.lit 9 (dX S.aN),.lit 6 (fM S.aH),.i S.done]],.cells 3 1 l]
noncomputable def body:Code:=(Tryz.f28).body.getD .skip
abbrev alU (c:Code) (r:Option (RT Out)):Prop:=nV { vars:=[(1,60)],lens:=[Khn] } c (KbL++List.replicate 63 .undef) [] [some 0,none] (wF (.q 1 7) (.o 3) Kgx (.i 0)) Zn r
noncomputable def alI:Option (RT Out):=uL { vars:=[(1,60)],lens:=[Khn] } body (KbL++List.replicate 63 .undef:List AV).length (KbL++List.replicate 63 .undef) [] 0
def aov:alU body alI:=⟨rfl,by decide +kernel,by decide +kernel⟩
abbrev anw (o:Option (RT Out)):Prop:=iU { vars:=[(1,60)],lens:=[Khn,(8,[([0],1)])] } Tryz.f28 o 0 (wF (.q 1 7) (.o 3) KeT (.v 0)) QU ((.q 1 8))
def walk (oA:Option (RT Out)) (N:alU body oA) (rq:dD { vars:=Kd0,facts:=VC,lens:=Bo,gI:=YY } (aW oA) (wF (.q 1 7) (.i 0) KeW (.v 1)) QV 0 [some 0,some 4] (wF (.q 1 7) (.i 0) KcM Kfz) [YH,(.sc 3 1 8 [] [[.o 6]] KgB)]) (rv:dD { vars:=Kd0,facts:=VC,lens:=Bo,gI:=YY } (aW oA) (wF (.q 1 7) (.i 1) KeW (.v 1)) QV 0 [some 0,some 4] (wF (.q 1 7) (.i 1) KcM Kfz) [YH,(.sc 3 1 8 [] [[.o 7]] KgB)]) (B:dD { vars:=[(1,60),(0,59),(0,40),nB,(0,5),(0,4),Kg3,Kg3],facts:=[Keh,([([3],1)],0,100),Kd1,([([4],1),([5],-1)],1,5)],lens:=[Khn,(8,[([1],1)]),(4,[([2],1)]),(1,[([4],1)])],gI:=[Kf3,(1,[([5],1)],[.v 7]),(4,[([3],1)],[.o 3,.v 5,.o 5,.v 6,.o 7,.o 8,.o 9,.o 10])] } (aW oA) (wF (.q 1 7) (.i 2) KeW (.v 1)) QV 0 [some 0,some 4] (wF (.q 1 7) (.i 2) KcM Kfz) [YH,(.sc 3 1 8 [] [[(.e [([6,7],1)])]] KgB)]) (C:dD { vars:=[(1,60),(0,59),(0,40),nB,Kd8],facts:=VC,lens:=Bo,gI:=YY } (aW oA) (wF (.q 1 7) (.v 4) KeW (.v 1)) QV 0 [some 0,some 4] (wF (.q 1 7) (.v 4) KcM Kfz) Qg) (D:dD { vars:=[(1,60),(0,59),(0,40),nB,(3,9223372036854775807)],facts:=VC,lens:=Bo,gI:=YY } (aW oA) (wF (.q 1 7) (.v 4) KeW (.v 1)) QV 0 [some 0,some 4] (wF (.q 1 7) (.v 4) KcM Kfz) Qg) (u:dD { vars:=Kd0,facts:=[Keh,([([3],1)],-9223372036854775808,-1)],lens:=Bo,gI:=[Kf3] } (aW oA) (wF (.q 1 7) (.o 3) KeW (.v 1)) QV 0 [some 0,some 3] (wF (.q 1 7) (.o 3) KcM Kfz) Qg) (y:dD { vars:=Kd0,facts:=[Keh,([([3],1)],0,9223372036854775807),(Kgg,0,9223372036854775808)],lens:=Bo,gI:=[Kf3] } (aW oA) (wF (.q 1 7) (.o 3) KeW (.v 1)) QV 0 [some 0,some 3] (wF (.q 1 7) (.o 3) KcM Kfz) Qg) (L:dD { vars:=[(1,60)],lens:=[Khn,(8,[([0],1)])] } (aW oA) (wF (.q 1 7) (.o 3) KeT (.v 0)) QU 2 [some 0,some 1] (wF (.q 1 7) (.o 3) KeT (.v 0)) QU) (M:anw oA)
  {S:bK} {refs:List Int} {basis:Int} (h1:1<=refs.length) (Y:refs.length<=60) (R:eW refs) (K:fW basis) (Xf:S.bB.length<=40) (U:S.weights.length<=5) (m:∀g∈S.bB,(0<=g.item/\g.item<S.weights.length)/\0<=g.eU/\g.eU<=1073741824) (O:∀v∈S.weights,0<=v/\v<=1073741824) :
  Ck 28 [S.av,.lit 1 (aA refs),.i basis] (.lit 1 (aA (refs.map (jC S basis)))):=by
 refine CK.fP Tryz.func28 (c:=body) (by kernel_rfl) (yO.out) (uD.out) fun A w0 a0=>?_;intro mm w a b;rw[Tryz.ntmps28]at b;refine N.go (ev1 _ [(refs.length:Int)] (vT S [.I basis]) (sT S [aA refs]) .nil) (xK kn) b (fd:=wF (.lit 1 (aA refs)) (.i basis) Kgx (.i 0)) (bd:=wB S []) ?_;intro mm w a b;refine cN (fun n a w=>∃(j:Nat) (l:List Int),n=refs.length-j/\j<=refs.length/\l=(refs.take j).map (jC S basis)/\∃mm,@dZ dK dN A w0 a0 mm w a (wF (.lit 1 (aA refs)) (.i basis) (.own 3 1 1 0 j) (.i (j:Int))) (eB (wB S (aA l)))) ?_ (n:=refs.length) ⟨0,[],rfl,a0j _,rfl,_,b⟩;rintro n a w ⟨j,l,rfl,Z,H,mm,b⟩;have V:l.length=j:=by simp_all
 rcases(by omega:j=refs.length\/j<refs.length)with rfl|G
 .rw[a04]at H
  rw[<-H];refine L.go (ev1 _ [(refs.length:Int)] (vT S [.I basis]) (sT S [aA refs,aA l]) .nil) (xK kn) b ?_;intro mm w a b;exact M.go (ev1 _ [(refs.length:Int)] (vT S [.I basis]) (sT S [aA refs,aA l]) .nil) (xK kn) b
 .obtain⟨k,J⟩:∃k,refs[j]?=some k:=⟨_,a0d G⟩
  have p:refs[(j:Int).toNat]?=some k:=by simp_all
  have t:=R k (a0a J);have:=t.lo;have:=t.hi;have:=K.lo;have:=K.hi
  have fin:∀v,v=jC S basis k->∀mm w a,@dZ dK dN A w0 a0 mm w a (wF (.lit 1 (aA refs)) (.i basis) (.own 3 1 1 0 (1+(j:Int)).toNat) (.i (1+(j:Int)))) (eB (wB S (aA l++[[.i v]])))->∃n',n'<refs.length-j/\∃(r:Nat) (E:List Int),n'=refs.length-r/\r<=refs.length/\E=(refs.take r).map (jC S basis)/\∃mm,@dZ dK dN A w0 a0 mm w a (wF (.lit 1 (aA refs)) (.i basis) (.own 3 1 1 0 r) (.i (r:Int))) (eB (wB S (aA E))):=by
   rintro v rfl mm w a b;rw[show(1+(j:Int))=((j+1:Nat):Int)by omega,a0w,show aA l++[[.i (jC S basis k)]]=aA (l++[jC S basis k])by simp[aA]]at b;exact⟨_,by omega,j+1,_,rfl,by omega,by simp_all[a0n],mm,b⟩
  by_cases z:k<0
  .refine u.go (ev1 _ [(refs.length:Int),(j:Int),(S.bB.length:Int),k] (vT S [.I basis]) (sT S [aA refs,aA l]) (.d (aI p) .nil)) (xK kn) b (fd:=wF (.lit 1 (aA refs)) (.i basis) (.own 3 1 1 0 (1+(j:Int)).toNat) (.i (1+(j:Int)))) (bd:=wB S (aA l++[[.i 0]])) ?_
   exact fun mm w a b=>fin 0 (by simp_all[jC]) mm w a b
  cases h:S.bB[k.toNat]? with
  |none =>
   have:=a3f.1 h;refine y.go (ev1 _ [(refs.length:Int),(j:Int),(S.bB.length:Int),k] (vT S [.I basis]) (sT S [aA refs,aA l]) (.d (aI p) .nil)) (xK kn) b (fd:=wF (.lit 1 (aA refs)) (.i basis) (.own 3 1 1 0 (1+(j:Int)).toNat) (.i (1+(j:Int)))) (bd:=wB S (aA l++[[.i 0]])) ?_;exact fun mm w a b=>fin 0 (by unfold jC;simp_all) mm w a b
  |some g =>
   have P:=(a0y.1 h).1;have W:=m g (a0a h);have X:=m;have m:S.bB[k.toNat]?=some ⟨g.aU,g.item,g.loc,g.eU,g.value,g.wG,g.dQ,g.back⟩:=h;have Q:jC S basis k=if basis=0 then g.eU else if basis=1 then g.value else if basis=2 then g.eU*S.weights.getD g.item.toNat 0 else 0:=by unfold jC;rw[if_neg z,h]
   rcases(by omega:basis=0\/basis=1\/basis=2\/basis<0\/2<basis)with f|f|f|f|f
   .subst f
    refine rq.go (ev1 _ [(refs.length:Int),(j:Int),(S.bB.length:Int),k] (vT S [.I g.aU,.I g.item,.I g.loc,.I g.eU,.I g.value,.I g.wG,.I g.dQ,.I g.back]) (sT S [aA refs,aA l]) (.d (aI p) (.d (aC m) .nil))) (xK kn) b (fd:=wF (.lit 1 (aA refs)) (.i 0) (.own 3 1 1 0 (1+(j:Int)).toNat) (.i (1+(j:Int)))) (bd:=wB S (aA l++[[.i g.eU]])) ?_;exact fun mm w a b=>fin _ (by omega) mm w a b
   .subst f
    refine rv.go (ev1 _ [(refs.length:Int),(j:Int),(S.bB.length:Int),k] (vT S [.I g.aU,.I g.item,.I g.loc,.I g.eU,.I g.value,.I g.wG,.I g.dQ,.I g.back]) (sT S [aA refs,aA l]) (.d (aI p) (.d (aC m) .nil))) (xK kn) b (fd:=wF (.lit 1 (aA refs)) (.i 1) (.own 3 1 1 0 (1+(j:Int)).toNat) (.i (1+(j:Int)))) (bd:=wB S (aA l++[[.i g.value]])) ?_;exact fun mm w a b=>fin _ (by omega) mm w a b
   .subst f
    obtain⟨x,s⟩:∃x,x=S.weights.getD g.item.toNat 0:=⟨_,rfl⟩;have F:S.weights[g.item.toNat]?=some x:=by rw[s];exact getD_some (by omega)
    have T:=O x (a0a F);rw[<-s]at Q;refine B.go (ev1 _ [(refs.length:Int),(j:Int),(S.bB.length:Int),k,(S.weights.length:Int),g.item,g.eU,x] (vT S [.I g.aU,.I g.item,.I g.loc,.I g.eU,.I g.value,.I g.wG,.I g.dQ,.I g.back]) (sT S [aA refs,aA l]) (.d (aI p) (.d (aI F) (.d (aC m) .nil)))) (xK kn) b (fd:=wF (.lit 1 (aA refs)) (.i 2) (.own 3 1 1 0 (1+(j:Int)).toNat) (.i (1+(j:Int)))) (bd:=wB S (aA l++[[.i (1*(g.eU*(x*1)))]])) ?_;exact fun mm w a b=>fin _ (by grind) mm w a b
   .refine C.go (ev1 _ [(refs.length:Int),(j:Int),(S.bB.length:Int),k,basis] (vT S [.I g.aU,.I g.item,.I g.loc,.I g.eU,.I g.value,.I g.wG,.I g.dQ,.I g.back]) (sT S [aA refs,aA l]) (.d (aI p) (.d (aC m) .nil))) (xK kn) b (fd:=wF (.lit 1 (aA refs)) (.i basis) (.own 3 1 1 0 (1+(j:Int)).toNat) (.i (1+(j:Int)))) (bd:=wB S (aA l++[[.i 0]])) ?_
    exact fun mm w a b=>fin _ (by omega) mm w a b
   .refine D.go (ev1 _ [(refs.length:Int),(j:Int),(S.bB.length:Int),k,basis] (vT S [.I g.aU,.I g.item,.I g.loc,.I g.eU,.I g.value,.I g.wG,.I g.dQ,.I g.back]) (sT S [aA refs,aA l]) (.d (aI p) (.d (aC m) .nil))) (xK kn) b (fd:=wF (.lit 1 (aA refs)) (.i basis) (.own 3 1 1 0 (1+(j:Int)).toNat) (.i (1+(j:Int)))) (bd:=wB S (aA l++[[.i 0]])) ?_
    exact fun mm w a b=>fin _ (by omega) mm w a b
end WT
def Oo {S:bK} (G:Gn S) (b:∀v∈S.weights,0<=v/\v<=1073741824) {refs:List Int} {basis:Int} (a:refs.length<=60) (e:eW refs) (d:fW basis) :
  Ck 28 [S.av,.lit 1 (aA refs),.i basis] (.lit 1 (aA (refs.map (jC S basis)))):=by
 by_cases f:refs.length=0
 .have:=a14.1 f
  subst this;exact cw _ (ev1 {  } [] (vT S [.I basis]) (sT S []) .nil) [KfT,(.lit 1 []),.o 3] (.lit 1 []) kn
 .refine WT.walk WT.alI WT.aov .of .of .of .of .of .of .of .of .of (by omega) a e d G.NU G.hw ?_ b
  intro g c;obtain⟨b1,b2,b3,j,h⟩:=G.II g c;omega
end
section
variable {x:Int} {ws:List Int} {j B:Nat} {key:Nat->Int} {m:List Nat}
def vL (a:List Int) (x:Nat):Int:=-(a.getD x 0)
def mG (v:Int):Bool:=decide (v<0)||decide (288230376151711744<v)
def CZ (v:Int):Bool:=decide (v≠0)
def rU (t:Int) (ws:List Int):Bool:=mG t||ws.any mG||!(ws.any CZ)
def jB (t s:Int) (ws:List Int):List Int:=ws.map fun x=>t*x/s
def iY (t s:Int) (ws:List Int):List Int:=ws.map fun x=>t*x%s
def nS (l:List Int) (ps:List Nat):List Int:=ps.foldl (fun l i=>l.set i (l.getD i 0+1)) l
def afm (l:List Int) (ps:List Nat) (i:Nat):nS l (ps++[i])=(nS l ps).set i ((nS l ps).getD i 0+1):=by simp[nS,List.foldl_append]
def Nt (l:List Int) (ps:List Nat):(nS l ps).length=l.length:=by
 induction ps generalizing l<;>simp_all[nS]
def aa2 {t s:Int} (b:0<=t) (hs:0<s) (c:0<=x) (a:x<=s):0<=t*x/s/\t*x/s<=t/\0<=t*x%s/\t*x%s<s:=by
 refine⟨a2j (a0p b c) (by omega),?_,a2d _ (by omega),a24 _ hs⟩;apply a21 hs;exact a1s a b
def ac3 {t s:Int} (a:0<=t) (hs:0<s):∀(ws:List Int),(∀x,x∈ws->0<=x)->0<=(jB t s ws).sum/\(jB t s ws).sum*s<=t*ws.sum
 |[],_=>by simp[jB]
 |x::ws,h=>by
  have b:=ac3 a hs ws fun y c=>h y (by simp[c]);have d:=h x (by simp);have f:0<=t*x/s:=a2j (a0p a d) (by omega);have e:t*x/s*s<=t*x:=Int.ediv_mul_le _ (by omega);simp only[jB,a01,a0x]at b |-;grind
def PQ:∀(l:List Int) (x:Int),(∀y,y∈l->0<=y)->x∈l->x<=l.sum/\0<=l.sum
 |[],x,_,a=>by simp at a
 |y::l,x,h,a=>by
  have d:=h y (by simp)
  have e:0<=l.sum:=by
   clear a;induction l with
   |nil=>simp
   |cons z l c =>
    rw[a0x];have:=c fun u b=>h u (by grind);have:=h z (by simp);omega
  rw[a0x];rcases a0c.1 a with rfl|a
  .omega
  .have:=PQ l x (fun u b=>h u (by simp[b])) a
   omega
structure pE (t:Int) (ws:List Int) (s:Int):Prop where
 t0:0<=t
 t1:t<=288230376151711744
 s0:1<=s
 s1:s<=288230376151711744
 all:∀x,x∈ws->0<=x/\x<=s
 sum:ws.sum=s
def pE.of {t:Int} (h:rU t ws=false) (f:dW ws=0):pE t ws (dJ ws):=by
 simp only[rU,Bool.or_eq_false_iff,Bool.not_eq_false']at h;obtain⟨⟨j,o⟩,i⟩:=h;simp[mG]at j
 have a:∀x,x∈ws->0<=x:=fun x b=>by
  simp_all[mG]
 obtain⟨s,hs⟩:∃s,dO 0 ws=some s:=by
  unfold dW at f;cases l:dO 0 ws<;>simp_all
 have g:dJ ws=s:=by grind[dJ]
 have e:=vV ws 0 s hs;have k:=fK.1 (L8 ws 0 s (by decide +kernel) hs);obtain⟨x,b,d⟩:=a1n.1 i;simp[CZ]at d;have n:=PQ ws x a b;have m:=a x b;rw[g];exact⟨by omega,by omega,by omega,by omega,fun y c=>⟨a y c,by have:=PQ ws y a c;omega⟩,by omega⟩
def pE.left {t s:Int} (h:pE t ws s) (j:Nat):0<=(jB t s (ws.take j)).sum/\(jB t s (ws.take j)).sum<=t:=by
 have a:=ac3 h.t0 (show 0<s by have:=h.s0;omega) (ws.take j) fun x g=>(h.all x (a2h g)).1;refine⟨a.1,?_⟩
 have b:(ws.take j).sum<=s:=by
  have e:(ws.take j).sum+(ws.drop j).sum=s:=by rw[<-a2l,a2c,h.sum]
  have:∀l:List Int,(∀y,y∈l->0<=y)->0<=l.sum:=by
   intro l;induction l with
   |nil=>simp
   |cons z l d=>intro c;rw[a0x];have:=d fun u i=>c u (by simp[i]);have:=c z (by simp);omega
  have:=this (ws.drop j) fun y f=>(h.all y (a2x f)).1;omega
 have m:t*(ws.take j).sum<=t*s:=a1s b h.t0;have k:(jB t s (ws.take j)).sum*s<=t*s:=by omega
 exact Int.le_of_mul_le_mul_right k (by have:=h.s0;omega)
def pE.md {t s:Int} (h:pE t ws s) (b:x∈ws):yJ t x s=t*x/s/\mdR t x s=t*x%s:=by
 have a:=h.all x b;have q:=aa2 h.t0 (show 0<s by have:=h.s0;omega) a.1 a.2;have:=h.t0;have:=h.t1;grind[yJ,mdR]
def aeJ (t s:Int) (a:j<ws.length):jB t s (ws.take (j+1))=jB t s (ws.take j)++[t*ws.getD j 0/s]:=by
 grind[Fu,jB]
def aeH (t s:Int) (a:j<ws.length):iY t s (ws.take (j+1))=iY t s (ws.take j)++[t*ws.getD j 0%s]:=by
 grind[Fu,iY]
def Nu:∀(ps:List Nat) (l:List Int) (i:Nat),(∀p,p∈ps->p<l.length)->(nS l ps).getD i 0=l.getD i 0+(ps.count i:Int)
 |[],l,i,h=>by simp[nS]
 |p::ps,l,i,h=>by
  have c:=h p (by simp);have a:=Nu ps (l.set p (l.getD p 0+1)) i (fun q b=>by simp_all);have e:nS l (p::ps)=nS (l.set p (l.getD p 0+1)) ps:=rfl
  grind
theorem ajH (l:List Int):∀(i:Nat) (v:Int),i<l.length->(l.set i v).sum=l.sum-l.getD i 0+v:=by
 induction l with
 |nil=>simp_all
 |cons x l a =>
  intro i v h;cases i<;>grind
def XS:∀(ps:List Nat) (l:List Int),(∀p,p∈ps->p<l.length)->(nS l ps).sum=l.sum+(ps.length:Int)
 |[],l,h=>by simp[nS]
 |p::ps,l,h=>by
  have c:=h p (by simp);have a:=XS ps (l.set p (l.getD p 0+1)) (fun q b=>by simp_all);have e:nS l (p::ps)=nS (l.set p (l.getD p 0+1)) ps:=rfl
  grind[ajH]
def ac4 (t s:Int):∀(ws:List Int),t*ws.sum=(jB t s ws).sum*s+(iY t s ws).sum
 |[]=>by simp[jB,iY]
 |x::ws=>by
  have a:=ac4 t s ws;have h:=a3y (t*x) s
  grind[jB,iY]
def xF {n:Nat} (h:kT key (List.range n) m):m.Nodup/\∀i,i∈m↔i<n:=by
 refine⟨?_,fun i=>(kT.mem h).trans a0v⟩;rw[List.nodup_iff_count];intro a;have b:=h (key a);have c:m.count a=(m.filter fun x=>key x==key a).count a:=by grind[List.count_filter]
 grind[List.count_filter]
def EK {n:Nat} (d:fR key m) (hs:kT key (List.range n) m) {L i k:Nat} (f:i∈m.take L) (j:k<n) (h:key k<key i\/(key k=key i/\k<i)):k∈m.take L:=by
 have c:m=m.take L++m.drop L:=(a2c L m).symm;have b:k∈m:=((xF hs).2 k).2 j;rw[c]at b;rcases a0m.1 b with a|a
 .exact a
 .exfalso
  rw[c]at d;have l:=(fR.app.1 d).2.2 i f k a
  have o:key k=key i/\k<i:=by
   omega
  have g:=hs (key i);rw[c,a08]at g;have e:((List.range n).filter fun x=>key x==key i).Pairwise (·<·):=(a2z (n:=n)).filter _;rw[<-g]at e;have:=(a13.1 e).2.2 i (List.mem_filter.2 ⟨f,by simp⟩) k (List.mem_filter.2 ⟨a,by grind⟩);omega
def uT (t s:Int) (ws:List Int):Nat:=(min (t-(jB t s ws).sum) ws.length).toNat
def agt (t s:Int) (hs:0<s):∀(ws:List Int),0<=(iY t s ws).sum/\(iY t s ws).sum<=(s-1)*ws.length
 |[]=>by simp[iY]
 |x::ws=>by
  have a:=agt t s hs ws;have c:=a2d (t*x) (show s≠0 by omega);have b:=a24 (t*x) hs;simp only[iY,a01,a0x,a0t]at a |-;grind
def adx {t s:Int} (h:pE t ws s):(uT t s ws:Int)=t-(jB t s ws).sum/\uT t s ws<=ws.length/\(uT t s ws:Int)*s=(iY t s ws).sum:=by
 have hs:0<s:=by have:=h.s0;omega
 have a:=h.left ws.length;rw[a04]at a;have b:=ac4 t s ws;rw[h.sum]at b;have c:=agt t s hs ws;have e:(t-(jB t s ws).sum)*s=(iY t s ws).sum:=by grind
 have d:t-(jB t s ws).sum<=ws.length:=by
  rcases a20 (ws.length:Int) (t-(jB t s ws).sum)with f|f
  .exfalso
   have i:(ws.length:Int)*s<=(t-(jB t s ws).sum)*s:=a2g (by omega) (by omega);have g:((ws.length:Int)+1)*s<=(t-(jB t s ws).sum)*s:=a2g (by omega) (by omega)
   grind
  omega
 grind[uT]
def Tp {t s:Int} {i:Nat} (a:i<ws.length):(jB t s ws).getD i 0=t*ws.getD i 0/s:=by
 grind[jB]
theorem Tk {t s:Int} {i:Nat} (a:i<ws.length):(iY t s ws).getD i 0=t*ws.getD i 0%s:=by
 grind[iY]
theorem yW (t s:Int) (ws:List Int):(jB t s ws).length=ws.length:=by simp[jB]
def Mv (t s:Int) (ws:List Int):(iY t s ws).length=ws.length:=by simp[iY]
def O7:∀(l m:List Nat),l.Nodup->(∀x,x∈l->x∈m)->l.length<=m.length
 |[],m,_,_=>by simp
 |x::l,m,h,a=>by
  have h':=a4a.1 h;have d:=a x (by simp);have c:=O7 l (m.erase x) h'.2 fun y b=>(List.mem_erase_of_ne (by grind)).2 (a y (by simp[b]))
  grind
structure Fair (t s:Int) (ws A:List Int):Prop where
 len:A.length=ws.length
 sum:A.sum=t
 one:∀i,i<ws.length->A.getD i 0=t*ws.getD i 0/s\/A.getD i 0=t*ws.getD i 0/s+1
 none:∀i,i<ws.length->ws.getD i 0=0->A.getD i 0=0
 mono:∀i k,k<i->i<ws.length->ws.getD i 0<=ws.getD k 0->A.getD i 0<=A.getD k 0
def N0 (l:List Int) (s:Int) (b:∀z,z∈l->0<=z/\z<s):l.sum<=(s-1)*((l.filter fun z=>decide (0<z)).length:Int):=by
 induction l with
 |nil=>simp
 |cons z l a =>
  have a:=a fun y c=>b y (by simp[c]);have d:=b z (by simp);by_cases h:0<z
  .rw[a4s (by simp_all),a0x,a0t]
   grind
  grind
def F9 (l:List Int) (p:Int->Bool):((List.range l.length).filter fun i=>p (l.getD i 0)).length=(l.filter p).length:=by
 have:l=(List.range l.length).map fun i=>l.getD i 0:=by
  apply a22<;>simp_all
 conv=>rhs;rw[this]
 rw[a4r,a0z];rfl
def adO {t s:Int} (h:pE t ws s) (A:fR (vL (iY t s ws)) m) (hs:kT (vL (iY t s ws)) (List.range ws.length) m) :
  Fair t s ws (nS (jB t s ws) (m.take (uT t s ws))):=by
 have e:0<s:=by have:=h.s0;omega
 obtain⟨y,mem⟩:=xF hs;obtain⟨L1,P,O⟩:=adx h;obtain⟨L,M⟩:∃L,uT t s ws=L:=⟨_,rfl⟩
 rw[M]at L1 P O |-;have H:m.length=ws.length:=by
  have:=(a4c y a4d).2 fun i=>(mem i).trans a0v.symm;rw[this.length_eq,a4e]
 have l:∀p,p∈m.take L->p<(jB t s ws).length:=fun p W=>by grind[yW]
 have u:∀i,(m.take L).count i=if i∈m.take L then 1 else 0:=fun i=>by
  have v:=List.nodup_iff_count.1 (y.sublist (List.take_sublist L m)) i
  grind
 have b:∀i,i<ws.length->(nS (jB t s ws) (m.take L)).getD i 0=t*ws.getD i 0/s+if i∈m.take L then 1 else 0:=fun i a=>by
  rw[Nu _ _ _ l,Tp a,u];grind
 have G:∀i,i<ws.length->0<=ws.getD i 0:=fun i a=>by
  have:ws.getD i 0∈ws:=by simp_all
  exact(h.all _ this).1
 have K:∀i,i<ws.length->vL (iY t s ws) i=-(t*ws.getD i 0%s):=fun i a=>by grind[vL,Tk]
 have q:∀i,i∈m.take L->0<t*ws.getD i 0%s:=by
  intro i a;have T:i<ws.length:=(mem i).1 (a2h a);rcases a20 0 (t*ws.getD i 0%s)with v|v
  .exact v
  .exfalso
   have F:=a2d (t*ws.getD i 0) (show s≠0 by omega)
   have o:∀k,k∈((List.range ws.length).filter fun k=>decide (0<(iY t s ws).getD k 0))->k∈(m.take L).erase i:=by
    intro k d;obtain⟨C,j⟩:=List.mem_filter.1 d;have g:=a0v.1 C;simp only[decide_eq_true_eq]at j;rw[Tk g]at j;have:k∈m.take L:=EK A hs a g (.inl (by grind))
    grind
   have r:((List.range ws.length).filter fun k=>decide (0<(iY t s ws).getD k 0)).length<=((m.take L).erase i).length:=by
    have w:((List.range ws.length).filter fun k=>decide (0<(iY t s ws).getD k 0)).Nodup:=List.nodup_range.filter _;exact O7 _ _ w o
   have Q:((m.take L).erase i).length+1=L:=by
    grind
   have E:=N0 (iY t s ws) s (fun z I=>by
    obtain⟨x,U,rfl⟩:=a0l.1 I;exact⟨a2d _ (by omega),a24 _ e⟩)
   have e1:=F9 (iY t s ws) fun z=>decide (0<z);rw[Mv]at e1;rw[<-e1]at E;obtain⟨c,D⟩:∃c,((List.range ws.length).filter fun k=>decide (0<(iY t s ws).getD k 0)).length=c:=⟨_,rfl⟩;rw[D]at E r;have X:(s-1)*(c:Int)<=(s-1)*((L:Int)-1):=a1s (by omega) (by omega)
   grind
 refine⟨by rw[Nt,yW],?_,fun i a=>?_,fun i a F=>?_,fun i k R a f=>?_⟩
 .rw[XS _ _ l,a2f,H]
  omega
 .grind
 .rw[b i a,F]
  have:i ∉ m.take L:=fun J=>by have:=q i J;simp_all
  simp_all
 .have d:k<ws.length:=by omega
  rw[b i a,b k d];have V:t*ws.getD i 0/s<=t*ws.getD k 0/s:=Int.ediv_le_ediv e (a1s f h.t0);by_cases n:i∈m.take L
  .rw[if_pos n]
   by_cases B:t*ws.getD i 0/s=t*ws.getD k 0/s
   .have N:=a3y (t*ws.getD i 0) s
    have Z:=a3y (t*ws.getD k 0) s;have Y:t*ws.getD i 0<=t*ws.getD k 0:=a1s f h.t0
    rw[B]at N;have S:k∈m.take L:=EK A hs n d (by
     grind)
    simp_all
   omega
  grind
def jW (l:List Int) (ps:List Nat):List Int:=ps.foldl (fun l i=>l.set i (-1)) l
def SV (l:List Int) (ps:List Nat) (i:Nat):jW l (ps++[i])=(jW l ps).set i (-1):=by simp[jW,List.foldl_append]
def aaE (l:List Int) (ps:List Nat):(jW l ps).length=l.length:=by
 induction ps generalizing l<;>simp_all[jW]
theorem xD:∀(ps:List Nat) (l:List Int) (i:Nat),i<l.length->(jW l ps).getD i 0=if i∈ps then -1 else l.getD i 0
 |[],l,i,h=>by simp[jW]
 |p::ps,l,i,h=>by
  have a:=xD ps (l.set p (-1)) i (by simp_all);have e:jW l (p::ps)=jW (l.set p (-1)) ps:=rfl
  grind
def ak8 {rem:List Int} {i:Nat} (n:fR (vL rem) m) (hs:kT (vL rem) (List.range rem.length) m) (c:∀z,z∈rem->0<=z) (u:i<rem.length) (d:B<rem.length)
  (h1:∀k,k<rem.length->(jW rem (m.take i)).getD k 0<=(jW rem (m.take i)).getD B 0) (v:∀k,k<B->(jW rem (m.take i)).getD k 0<(jW rem (m.take i)).getD B 0):m[i]?=some B:=by
 obtain⟨e,mem⟩:=xF hs;have s:m.length=rem.length:=by
  have:=(a4c e a4d).2 fun i=>(mem i).trans a0v.symm;rw[this.length_eq,a4e]
 obtain⟨x,l⟩:∃x,m[i]?=some x:=⟨m[i]'(by omega),a0d _⟩;rw[l];have j:x∈m:=a0a l;have b:x<rem.length:=(mem x).1 j;have r:m.take (i+1)=m.take i++[x]:=by simp_all[a0n]
 have f:x ∉ m.take i:=by
  intro h;have:=e.sublist (List.take_sublist (i+1) m)
  grind
 have p:∀k,k<rem.length->0<=rem.getD k 0:=fun k t=>c _ (by simp_all);have e1:=h1 x b;rw[xD _ _ _ b,if_neg f,xD _ _ _ d]at e1;have o:B ∉ m.take i:=fun h=>by grind
 rw[if_neg o]at e1;have q:B=x:=by
  have key:B∈m.take (i+1)->B=x:=fun h=>by
   simp_all
  have a:x∈m.take (i+1):=by simp_all
  rcases a20 (rem.getD x 0) (rem.getD B 0)with g|g
  .exact key (EK n hs a d (.inl (by simp_all[vL])))
  .rcases Nat.lt_trichotomy B x with g2|g2|g2
   .exact key (EK n hs a d (.inr ⟨by grind[vL],g2⟩))
   .exact g2
   grind[xD]
 rw[q]
def EC (key:Nat->Int) (x:Nat):List Nat->List Nat
 |[]=>[x]
 |y::l=>if key x<key y then x::y::l else y::EC key x l
def N8 (key:Nat->Int) (l:List Nat):List Nat:=l.foldl (fun a x=>EC key x a) []
def Xc {key:Nat->Int} {x z:Nat}:∀{l:List Nat},z∈EC key x l↔z=x\/z∈l
 |[]=>by simp[EC]
 |y::l=>by
  unfold EC;split
  .simp
  .rw[a0c,Xc,a0c]
   constructor
   .rintro(h|h|h)
    .exact .inr (.inl h)
    .exact .inl h
    .exact .inr (.inr h)
   .rintro(h|h|h)
    .exact .inr (.inl h)
    .exact .inl h
    .exact .inr (.inr h)
def M4 {key:Nat->Int} {x:Nat}:∀{l:List Nat},fR key l->fR key (EC key x l)
 |[],_=>by simp[EC,fR]
 |y::l,h=>by
  unfold EC;have b:=a12.1 h;split
  .refine a12.2 ⟨fun z a=>?_,h⟩
   grind
  .refine a12.2 ⟨fun z a=>?_,M4 b.2⟩
   rcases Xc.1 a with rfl|a<;>simp_all
def IP {key:Nat->Int} {x:Nat} (k:Int):∀{l:List Nat},fR key l->(EC key x l).filter (fun z=>key z==k)=l.filter (fun z=>key z==k)++[x].filter (fun z=>key z==k)
 |[],_=>by simp[EC]
 |y::l,h=>by
  unfold EC;have a:=a12.1 h;split
  .grind[List.filter_eq_nil_iff]
  .have b:=IP (x:=x) k a.2
   grind
def Ly (l:List Nat):fR key (N8 key l)/\kT key l (N8 key l):=by
 have go:∀(l a b:List Nat),fR key b->kT key a b->fR key (l.foldl (fun a x=>EC key x a) b)/\kT key (a++l) (l.foldl (fun a x=>EC key x a) b):=by
  intro l;induction l with
  |nil=>simp_all
  |cons x l d =>
   intro a b c e;have:=d (a++[x]) (EC key x b) (M4 c) (fun k=>by rw[IP k c,e k,a08])
   simp_all
 unfold N8;simpa using go l [] [] (by simp[fR]) (fun k=>rfl)
def fG (t:Int) (ws:List Int):List Int×Int :=
 if rU t ws then([],1)else if dW ws≠0 then([],2)else(nS (jB t (dJ ws) ws) ((N8 (vL (iY t (dJ ws) ws)) (List.range ws.length)).take (uT t (dJ ws) ws)),0)
def hY.amQ {w w':World} {e:TypeId} {k:Nat} {v:Value} {n:Nat} {zs:List Int} {r:Option Nat} (h:hY w B e k v n zs) (g:w.grownBy w' r) (a:v.ownBlock=none\/v.ownBlock≠r):hY w' B e k v n zs:=World.ownsRow.kept h g a
def hY.lt2 {w:World} {e:TypeId} {k:Nat} {v:Value} {n:Nat} {zs:List Int} (h:hY w B e k v n zs):∀b,v.ownBlock=some b->b<w.heap.size/\B<=b:=fun b a=>by
 have:=World.ownsRow.lt h b a;exact⟨by omega,by omega⟩
def IZ {w w':World} {r:Option Nat} (g:w.grownBy w' r) (b:B<=w.heap.size) (a:∀k,r=some k->B<=k):Below B w w':=(Below.refl B w).grown g b a
def CP {P:Program} (w:World) {ops:Array Oper} {l:List Oper} {o:Oper} {a:Act} {Q:Exit->Act->World->Prop} (D:o.guard=none) (s x:Operand) (t:TypeId)
  (L:o.op=.call { callee:=.builtin .append,args:=#[s,x],argTypes:=#[t,t] })
  (base:Nat) (e:TypeId) (size:Nat) (E:ajq P t e size)
  (v:Value) (n:Nat) (zs:List Int) (hs:a.eval s=v) (r:hY w base e size v n zs)
  (b off c:Nat) (f:List Int) (I:a.eval x=.slice (some ⟨b,off,none⟩) 1 c) (C:f.length=size) (R:cK w b off f)
  (M:(n+1)*(size*8)<=140737488355328) (q:base<=w.heap.size)
  (h:∀g cap w',hY w' base e size (.slice (some ⟨g,0,none⟩) (n+1) cap) (n+1) (zs++f)->w.grownBy w' v.ownBlock->(v.ownBlock=some g\/g=w.heap.size)->g<w'.heap.size->wpList P ops Q l (a.put o.dst (.slice (some ⟨g,0,none⟩) (n+1) cap)) w'):wpList P ops Q (o::l) a w:=by
 obtain⟨J,⟨i,z,N,H,m,F,A⟩,K⟩:=E;have S:n+1<=(n+1)*(size*8):=a3q _ (by omega);refine wpList_append_lies w D s x t L base e i z size (size*8) J N H m F A K v n (ints zs) hs r ⟨b,off,none⟩ 1 c (ints f) I (by rw[uV];omega) ?_ ?_ (by omega) (by unfold maxLen;omega) M q w.heap.size rfl ?_
 .intro j u k
  rw[wJ]at k;have d:j<f.length:=by
   rcases a0u j f.length with h|h
   .exact h
   .rw[a1k h]at k;cases k
  have:=R j d;rw[a0d d]at k;rw[a0k,a0d d]at this;simp only[a0q,a0g]at k;subst k;by_cases G:j=0
  .subst G;simpa[Addr.add]using this
  .simpa[Addr.add,G]using this
 .intro u B
  simp only[ints,a0l]at B;obtain⟨y,-,rfl⟩:=B;rfl
 .intro g cap w' p O C d
  exact h g cap w' (by rw[hY,zI];exact p) O C d
def alx (w:World) (t:Int) (ws:List Int) (m:List Nat) (e:Ending) (w':World):Prop :=
 (if rU t ws then e=.returned (.tuple #[.slice none 0 0,.int .i64 1])
  else if dW ws≠0 then e=.returned (.tuple #[.slice none 0 0,.int .i64 2])
  else ∃g cap,e=.returned (.tuple #[.slice (some ⟨g,0,none⟩) ws.length cap,.int .i64 0])/\ws.length<=cap/\cap<=maxLen/\g<w'.heap.size/\w.heap.size<=g /\
   cK w' g 0 (nS (jB t (dJ ws) ws) (m.take (uT t (dJ ws) ws)))/\∀i,w'.frozen? ⟨g,i,none⟩=false)/\Below w.heap.size w w'
structure Two (w:World) (gl gr B:Nat) (A R:List Int) (w0:World):Prop where
 l:cK w gl 0 A
 r:cK w gr 0 R
 fl:∀i,w.frozen? ⟨gl,i,none⟩=false
 fr:∀i,w.frozen? ⟨gr,i,none⟩=false
 ll:gl<w.heap.size
 rl:gr<w.heap.size
 bl:B<=gl
 br:B<=gr
 ne:gl≠gr
 bel:Below B w0 w
def Two.below {w w' w0:World} {b a B:Nat} {A R:List Int} (h:Two w b a B A R w0) (g:Below w.heap.size w w'):Two w' b a B A R w0 :=
 ⟨h.l.below h.ll g,h.r.below h.rl g,fun i=>(g.frozen (p:=⟨b,i,none⟩) h.ll).trans (h.fl i),fun i=>(g.frozen (p:=⟨a,i,none⟩) h.rl).trans (h.fr i),a0s h.ll g.size,a0s h.rl g.size,h.bl,h.br,h.ne,h.bel.trans (g.mono (Nat.le_of_lt (a39 h.bl h.ll)))⟩
def Two.set {w w0:World} {a c:Nat} {A R:List Int} (h:Two w a c B A R w0) {b:Nat} (f:b<A.length) (e:b<R.length) (x y:Int) :
  Two ((w.setCell ⟨a,b,none⟩ (.int .i64 x)).setCell ⟨c,b,none⟩ (.int .i64 y)) a c B (A.set b x) (R.set b y) w0:=by
 have k:=h.bl;have j:=h.br;refine⟨?_,?_,fun i=>by rw[World.frozen?_setCell,World.frozen?_setCell];exact h.fl i,fun i=>by rw[World.frozen?_setCell,World.frozen?_setCell];exact h.fr i,by simpa[World.setCell]using h.ll,by simpa[World.setCell]using h.rl,h.bl,h.br,h.ne,(h.bel.setCell (p:=⟨a,b,none⟩) (by simp only;omega) _).setCell (p:=⟨c,b,none⟩) (by simp only;omega) _⟩
 .have:=cK.put h.l f x
  rw[a00]at this;exact fun i d=>(World.cell?_of_block (w:=w.setCell ⟨a,b,none⟩ (.int .i64 x)) (Below.heap_setCell _ _ _ _ h.ne)).trans (this i d)
 .have g:cK (w.setCell ⟨a,b,none⟩ (.int .i64 x)) c 0 R:=fun i d=>(World.cell?_of_block (w:=w) (Below.heap_setCell _ _ _ _ (Ne.symm h.ne))).trans (h.r i d)
  have:=cK.put g e y;rw[a00]at this;exact this
def X6 (p:Int->Bool) (a:ws[j]?=some x):(ws.take (j+1)).any p=((ws.take j).any p||p x):=by
 rw[a0n,a];simp
def acu {p:Int->Bool} (a:ws[j]?=some x) (h:p x=true):ws.any p=true:=a1n.2 ⟨x,a0a a,h⟩
def OP (a:Option Addr) (cap:Nat) (ws:List Int) (m:List Nat) (t:Int) (w:World) (h:Row w 1 a ws.length cap ws) (bM:ws.length<=1000000) (bF:fW t)
  (hm:rU t ws=false->dW ws=0->fR (vL (iY t (dJ ws) ws)) m/\kT (vL (iY t (dJ ws) ws)) (List.range ws.length) m) :
  Calls Tryz.prog 90 #[.int .i64 t,.slice a ws.length cap] w (alx w t ws m):=by
 have aH:∀e w',rU t ws=true->e=Ending.returned (.tuple #[.slice none 0 0,.int .i64 1])->Below w.heap.size w w'->alx w t ws m e w':=fun e w' H h2 h3=>⟨by rw[if_pos H];exact h2,h3⟩
 have aF:∀e w',rU t ws=false->dW ws≠0->e=Ending.returned (.tuple #[.slice none 0 0,.int .i64 2])->Below w.heap.size w w'->alx w t ws m e w':=fun e w' H h2 h3 h4=>⟨by rw[H,if_neg (by simp),if_pos h2];exact h3,h4⟩
 have f:∀g nA e w',rU t ws=false->dW ws=0->e=Ending.returned (.tuple #[.slice (some ⟨g,0,none⟩) ws.length nA,.int .i64 0])->ws.length<=nA->nA<=maxLen->g<w'.heap.size->w.heap.size<=g->cK w' g 0 (nS (jB t (dJ ws) ws) (m.take (uT t (dJ ws) ws)))->(∀i,w'.frozen? ⟨g,i,none⟩=false)->Below w.heap.size w w'->alx w t ws m e w' :=
  fun g nA e w' H h2 h3 h4 h5 h6 h9 h7 o h8=>⟨by rw[H,if_neg (by simp),if_neg (by simp[h2])];exact⟨g,nA,h3,h4,h5,h6,h9,h7,o⟩,h8⟩
 obtain⟨n,hN⟩:∃n,ws.length=n:=⟨_,rfl⟩
 rw[hN]at h bM hm f |-;have d:=Lib.hid hN;have ay:=h;obtain⟨hl,bW,bs,aJ,be⟩:=h;unfold maxLen at bs;have af:∀j x,ws[j]?=some x->∃b off,a=some ⟨b,off,none⟩/\w.cell? ⟨b,off+j,none⟩=some (.int .i64 x)/\b<w.heap.size:=by
  intro j x c;have hj:j<ws.length:=by
   rcases a0u j ws.length with g|g
   .exact g
   .rw[a1k g]at c;cases c
  rcases be with h0|⟨b,off,e,F,hc⟩
  .omega
  .exact⟨b,off,e,by rw[hc j hj,a0k,c];rfl,F⟩
 have bc:=Lib.hid af;have bK:=Lib.hid ay;have a4:=Lib.hid hm;have C:=Lib.hid aH;have aS:=Lib.hid aF;have ae:=Lib.hid f;have bP:=Lib.hid aJ;clear hN be af ay hm aH aF f aJ hl;go_enter Tryz.func90,Tryz.ntmps90;go_wp2_with fail;go_loop [6,7] (fun s i=>∃j:Nat,j<=n/\i=.int .i64 j/\s=.bool ((ws.take j).any CZ)/\Hid ((ws.take j).any mG=false)) (fun _ i=>n-(intOf i).toNat)
 case atStart=>exact⟨0,by omega,rfl,rfl,rfl⟩
 case round =>
  obtain⟨j,hj,rfl,rfl,an⟩:=hrel;by_cases ab:j<n
  .have bt:(j:Int)<(n:Int):=by omega
   have cd:(0:Int)<=(j:Int):=(by omega);obtain⟨x,c⟩:∃x,ws[j]?=some x:=⟨ws[j]'(by rw[d.out];exact ab),a0d _⟩;obtain⟨b,off,rfl,c0,bd⟩:=bc.out j x c;have O:mG x=true->rU t ws=true:=fun H=>by simp[rU,acu c H]
   have U:=X6 CZ c;have s2:=X6 mG c;rw[an.out]at s2;have al:=Lib.hid c;clear c;by_cases bE:x<0
   .have ap:=Lib.hid (O (by simp[mG,bE]))
    clear O U s2;go_wp2_with fail;go_ret2;exact C.out _ _ ap.out rfl (Below.refl _ _)
   .by_cases bD:288230376151711744<x
    .have ap:=Lib.hid (O (by simp[mG,bD]))
     clear O U s2;go_wp2_with fail;go_ret2;exact C.out _ _ ap.out rfl (Below.refl _ _)
    .have hw:mG x=false:=by simp[mG];omega
     rw[hw]at s2;have aT:=Lib.hid s2;clear O s2 hw;cases v:(ws.take j).any CZ with
     |true =>
      rw[v]at U;have ar:=Lib.hid U;clear v U;go_wp2_with fail;go_round
      case rel=>exact⟨j+1,by omega,by go_num,by rw[ar.out];rfl,aT⟩
      case measure=>simp[intOf];omega
     |false =>
      rw[v]at U;have aX:CZ x=decide (0<x):=by unfold CZ;rw[a3z];simp;omega
      rw[aX]at U;have ar:=Lib.hid U;clear v U aX;go_wp2_with fail;go_round
      case rel=>exact⟨j+1,by omega,by go_num,by rw[ar.out];simp,aT⟩
      case measure=>simp[intOf];omega
  .have ej:j=n:=by omega
   subst ej;have ce:¬ (j:Int)<(j:Int):=by omega
   have J:ws.take j=ws:=a1l (by rw[d.out];omega);rw[J]at an |-;clear J;by_cases ht:mG t=true
   .have F:=Lib.hid (show rU t ws=true by simp[rU,ht])
    by_cases bH:t<0
    .go_wp2_with fail
     go_ret2;exact C.out _ _ F.out rfl (Below.refl _ _)
    .have bG:288230376151711744<t:=by simp[mG]at ht;omega
     go_wp2_with fail;go_ret2;exact C.out _ _ F.out rfl (Below.refl _ _)
   .have av:mG t=false:=by simpa using ht
    have bH:¬ t<0:=fun h=>ht (by simp[mG,h]);have bG:¬ 288230376151711744<t:=fun h=>ht (by simp[mG,h]);cases v:ws.any CZ with
    |false =>
     have F:=Lib.hid (show rU t ws=true by simp[rU,v]);clear v ht av;go_wp2_with fail;go_ret2;exact C.out _ _ F.out rfl (Below.refl _ _)
    |true =>
     have F:=Lib.hid (show rU t ws=false by simp[rU,v,av,an.out]);clear v ht av an;go_wp2_with fail;refine(Rc _ _ _ _ _ bK.out).mono ?_;rintro e T ⟨rfl,rfl⟩;by_cases G:dW ws=0
     .have Z:=pE.of F.out G
      obtain⟨hr,hs⟩:=a4.out F.out G;have f:=fun g nA e w'=>ae.out g nA e w' F.out G
      rw[G];obtain⟨s,aY⟩:∃s,dJ ws=s:=⟨_,rfl⟩
      rw[aY]at Z hr hs f |-;have M:=Lib.hid f;have S:=Lib.hid Z;have bm:=Lib.hid hr;have ax:=Lib.hid hs;have cc:1<=j:=by
       rcases a30 j with h0|h0
       .exfalso
        subst h0;have:ws=[]:=a4l d.out;have H:=Z.sum;have h2:=Z.s0;rw[this]at H;simp at H;omega
       .exact h0
      have b4:1<=s:=Z.s0;have b3:s<=288230376151711744:=Z.s1;have aW:0<=t:=Z.t0;have bR:t<=288230376151711744:=Z.t1;clear Z hr hs f ae a4 G aY;go_wp2_with fail;go_loopw [10,11,12,13] (fun l r u i wr=>∃k:Nat,k<=j/\i=.int .i64 (k:Int)/\u=.int .i64 (t-(jB t s (ws.take k)).sum)/\hY wr w.heap.size 3 1 l k (jB t s (ws.take k))/\hY wr w.heap.size 3 1 r k (iY t s (ws.take k))/\(l.ownBlock=none\/l.ownBlock≠r.ownBlock)/\Below w.heap.size w wr) (fun _ _ _ i _=>j-(intOf i).toNat)
      case atStart=>exact⟨0,by omega,rfl,by simp[jB],hY.nil _ _ _ _,hY.nil _ _ _ _,.inl rfl,Below.refl _ _⟩
      case round =>
       obtain⟨k,hk,rfl,rfl,Q,P,aq,E⟩:=hrel;have bI:=E.size;have aA:=S.out.left k;by_cases ab:k<j
       .have bt:(k:Int)<(j:Int):=by omega
        have cb:(0:Int)<=(k:Int):=(by omega);obtain⟨x,c⟩:∃x,ws[k]?=some x:=⟨ws[k]'(by rw[d.out];exact ab),a0d _⟩;obtain⟨b,off,rfl,bi,bd⟩:=bc.out k x c;have c0:=(E.cell (p:=⟨b,off+k,none⟩) bd).trans bi;have ba:ws.getD k 0=x:=by rw[a0k,c];rfl
        have az:=S.out.md (a0a c);have aV:=S.out.all x (a0a c);have a3:=aa2 aW (show 0<s by omega) aV.1 aV.2;have ag:=xL t x s;rw[az.1,az.2]at ag;have aa:=aeJ t s (ws:=ws) (j:=k) (by rw[d.out];exact ab);have am:=aeH t s (ws:=ws) (j:=k) (by rw[d.out];exact ab);rw[ba]at aa am;have bu:=S.out.left (k+1);have V:(jB t s (ws.take (k+1))).sum=(jB t s (ws.take k)).sum+t*x/s:=by rw[aa];simp
        obtain⟨q,hq⟩:∃q,t*x/s=q:=⟨_,rfl⟩;obtain⟨r,hr⟩:∃r,t*x%s=r:=⟨_,rfl⟩;rw[hq]at ag aa V a3;rw[hr]at ag am a3;obtain⟨A,hA⟩:∃A,(jB t s (ws.take k)).sum=A:=⟨_,rfl⟩;rw[hA]at aA V |-;have aR:=Lib.hid V;have bo:=Lib.hid aa;have bk:=Lib.hid am;have bC:fW x:=⟨by omega,by omega⟩;have bJ:fW s:=⟨by omega,by omega⟩;have O:0<=t-A:=(by omega);have ap:0<=t-A-q:=(by omega);have cf:t-A-q<=t:=(by omega);have f1:IntKind.i64.wrap (t-A-q)=t-A-q:=IntWalk.i64_in _ (by omega);have bx:=Lib.hid ag;clear az ag aa am V hq hr hA c ba aA bu bi;go_wp2_with fail;refine(bx.out _ bF bC bJ).mono ?_;rintro e T ⟨rfl,rfl⟩;go_wp2_with (at_builtin;refine CP _ rfl _ _ 22 rfl w.heap.size 3 1 Ni _ k (jB t s (ws.take k)) rfl (Q.alloc _) wr.heap.size 0 1 [q] rfl rfl (cK.new wr [q] 3) ?c1 ?c2 ?_)
        case c1=>omega
        case c2=>simp;omega
        intro g1 b2 T bh ao ad bU;have ai:u11.ownBlock=none\/u11.ownBlock≠u10.ownBlock:=by
         cases bO:u11.ownBlock with
         |none=>exact .inl rfl
         |some z =>
          right;rcases aq with K|K
          .rw[K];simp
          .rw[bO]at K;exact Ne.symm K
        have ak:=(hY.alloc P (.cells #[.int .i64 q] 3)).amQ ao ai;have aI:Below w.heap.size w T:=(E.alloc bI _).trans (IZ ao (by simp;omega) fun z o=>(Q.lt2 z o).2);have bQ:wr.heap.size<T.heap.size:=by have:=ao.size;simp at this;omega
        have a5:u10.ownBlock=some g1\/g1=wr.heap.size+1:=(by simpa using ad)
        have aj:u11.ownBlock≠some g1:=fun e=>by
         rcases a5 with K|K
         .rcases ai with h|h
          .rw[h]at e;cases e
          .rw[K]at h;exact h e
         .have:=(P.lt2 g1 e).1;omega
        have bn:w.heap.size<=T.heap.size:=(by omega);clear ao ad P E;go_wp2_with (at_builtin;refine CP _ rfl _ _ 22 rfl w.heap.size 3 1 Ni _ k (iY t s (ws.take k)) rfl (ak.alloc _) T.heap.size 0 1 [r] rfl rfl (cK.new T [r] 3) ?c1 ?c2 ?_)
        case c1=>omega
        case c2=>simp;omega
        intro g2 b1 w2 bg aE ac bT;have aM:=(hY.alloc bh (.cells #[.int .i64 r] 3)).amQ aE (.inr (fun e=>aj e.symm));have aB:u11.ownBlock=some g2\/g2=T.heap.size+1:=(by simpa using ac)
        have aD:g1≠g2:=by
         rintro rfl;rcases aB with h|h
         .exact aj h
         .omega
        have bv:Below w.heap.size w w2:=(aI.alloc bn _).trans (IZ aE (by simp;omega) fun z o=>(ak.lt2 z o).2);rw[<-bo.out]at aM;rw[<-bk.out]at bg;clear aE ac ak bh aI ai a5 aj aB aq Q;go_wp2_with fail;go_roundw
        case rel=>exact⟨k+1,by omega,by go_num,by rw[aR.out];congr 1;omega,aM,bg,.inr (fun e=>aD (by injection e)),bv⟩
        case measure=>simp[intOf];omega
       .have ek:k=j:=by omega
        subst ek;have bV:¬ (k:Int)<(k:Int):=by omega
        have J:ws.take k=ws:=a1l (by rw[d.out];omega);rw[J]at Q P |-;obtain⟨gl,cl,rfl,ad,ac,bN,a8,a7,a6⟩:=Q.amS (by omega);obtain⟨gr,cr,rfl,a2,a1,b6,bL,a0,aZ⟩:=P.amS (by omega)
        have aD:gl≠gr:=by
         rintro rfl;rcases aq with h|h
         .cases h
         .exact h rfl
        have bw:Two wr gl gr w.heap.size (jB t s ws) (iY t s ws) w:=⟨a7,a0,a6,aZ,ac,a1,ad,a2,aD,E⟩;obtain⟨L1,L2,L3⟩:=adx S.out;rw[<-L1];obtain⟨L,hL⟩:∃L,uT t s ws=L:=⟨_,rfl⟩;rw[hL]at L2 L3 M |-;rw[d.out]at L2;have bZ:=Lib.hid L3;have cg:=Lib.hid hL;unfold maxLen at a8 bL;clear a7 a0 a6 aZ ac a1 ad a2 aq E Q P J L1 L3 hL aA;go_wp2_with fail;go_loopw [12] (fun u wr=>∃i r:Nat,i+r=L/\u=.int .i64 (r:Int)/\Two wr gl gr w.heap.size (nS (jB t s ws) (m.take i)) (jW (iY t s ws) (m.take i)) w) (fun u _=>(intOf u).toNat)
        case atStart=>exact⟨0,L,by omega,rfl,bw⟩
        case round =>
         obtain⟨i,r,a9,rfl,X⟩:=hrel;obtain⟨wo,rfl⟩:∃wo:World,wo=wr:=⟨_,rfl⟩;by_cases ay:0<r
         .have bS:(0:Int)<(r:Int):=by omega
          have aO:(nS (jB t s ws) (m.take i)).length=k:=by rw[Nt,yW];exact d.out
          have aL:(jW (iY t s ws) (m.take i)).length=k:=by rw[aaE,Mv];exact d.out
          have aP:∀b,b<k->0<=(nS (jB t s ws) (m.take i)).getD b 0/\(nS (jB t s ws) (m.take i)).getD b 0<=288230376152711744:=by
           intro b F;have N:b<ws.length:=by rw[d.out];exact F
           have bB:ws.getD b 0∈ws:=by rw[a0k,a0d N];exact a3d N
           have c:=S.out.all _ bB;have hq:=aa2 aW (show 0<s by omega) c.1 c.2;have br:=(xF ax.out).2;rw[Nu _ _ _ (fun p hp=>by rw[yW,d.out];exact(br p).1 (a2h hp)),Tp N];have hc:=List.count_le_length (a:=b) (l:=m.take i);rw[a2f]at hc;omega
          have W:∀B,B<k->(∀p,p<k->(jW (iY t s ws) (m.take i)).getD p 0<=(jW (iY t s ws) (m.take i)).getD B 0)->(∀p,p<B->(jW (iY t s ws) (m.take i)).getD p 0<(jW (iY t s ws) (m.take i)).getD B 0)->m[i]?=some B:=by
           intro B hB H h2;have Xf:(iY t s ws).length=k:=by rw[Mv];exact d.out
           refine ak8 bm.out (by rw[Xf];exact ax.out) (fun z o=>?_) (by omega) (by omega) (by rw[Xf];exact H) h2;obtain⟨x,c,rfl⟩:=a0l.1 o;exact a2d _ (by omega)
          have I:∀B,m[i]?=some B->nS (jB t s ws) (m.take (i+1))=(nS (jB t s ws) (m.take i)).set B ((nS (jB t s ws) (m.take i)).getD B 0+1)/\jW (iY t s ws) (m.take (i+1))=(jW (iY t s ws) (m.take i)).set B (-1):=by
           intro B hB;have J:m.take (i+1)=m.take i++[B]:=by rw[a0n,hB];rfl
           rw[J,afm,SV];exact⟨rfl,rfl⟩
          generalize nS (jB t s ws) (m.take i)=A at X aO aP I;generalize jW (iY t s ws) (m.take i)=R at X aL W I;have aN:=Lib.hid aO;have Y:=Lib.hid aL;have bz:=Lib.hid aP;have aG:=Lib.hid W;have aw:=Lib.hid I;have aC:=Lib.hid a9;clear aO aL aP W I a9;have ca:(1:Int)<=(k:Int):=(by omega);have b5:r<=1000000:=by have:=aC.out;omega
          go_wp2_with fail;go_loopw [17,18] (fun b q wx=>∃B p:Nat,1<=p/\p<=k/\B<p/\b=.int .i64 (B:Int)/\q=.int .i64 (p:Int)/\Hid (∀z,z<p->R.getD z 0<=R.getD B 0)/\Hid (∀z,z<B->R.getD z 0<R.getD B 0)/\Below wo.heap.size wo wx) (fun _ q _=>k-(intOf q).toNat)
          case atStart =>
           have bA:Hid (∀z,z<1->R.getD z 0<=R.getD 0 0):=fun z o=>by
            have:z=0:=(by omega);subst this;exact a0f _
           exact⟨0,1,by omega,by omega,by omega,rfl,rfl,bA,fun z o=>by omega,Below.refl _ _⟩
          case round =>
           obtain⟨B,p,b8,b7,ch,rfl,rfl,ah,aQ,N⟩:=hrel;have D:=X.below N;have ci:(0:Int)<=(B:Int):=(by omega);have b0:(B:Int)<(k:Int):=(by omega);by_cases bq:p<k
           .have bp:(p:Int)<(k:Int):=by omega
            have b9:(0:Int)<=(p:Int):=(by omega);have c0:=D.r p (by rw[Y.out];exact bq);have c1:=D.r B (by rw[Y.out];omega);rw[a00]at c0 c1;obtain⟨x,c⟩:∃x,R.getD p 0=x:=⟨_,rfl⟩;obtain⟨y,hy⟩:∃y,R.getD B 0=y:=⟨_,rfl⟩;rw[c]at c0;rw[hy]at c1;have al:=Lib.hid c;have au:=Lib.hid hy;clear c hy D;by_cases aU:y<x
            .have hd:decide (y<x)=true:=decide_eq_true aU
             go_wp2_with fail;go_quiet (fail);go_wp2_with fail
             case' roundEnd =>
              refine⟨⟨p,p+1,by omega,by omega,by omega,rfl,by go_num,fun z o=>?_,fun z o=>?_,blw⟩,?_⟩
              .rcases a0u z p with g|g
               .have:=ah.out z g;rw[al.out];rw[au.out]at this;omega
               .have:z=p:=by omega
                subst this;omega
              .have:=ah.out z o;rw[al.out];rw[au.out]at this;omega
              .simp[intOf];omega
            .have hd:decide (y<x)=false:=decide_eq_false aU
             go_wp2_with fail;go_quiet (fail);go_wp2_with fail
             case' roundEnd =>
              refine⟨⟨B,p+1,by omega,by omega,by omega,rfl,by go_num,fun z o=>?_,aQ.out,blw⟩,?_⟩
              .rcases a0u z p with g|g
               .exact ah.out z g
               .have:z=p:=by omega
                subst this;rw[al.out,au.out];omega
              .simp[intOf];omega
           .have ep:p=k:=by omega
            have bp:¬ (p:Int)<(k:Int):=(by omega);have hm:=aG.out B (by omega) (fun z o=>ah.out z (by omega)) aQ.out;obtain⟨e1,e2⟩:=aw.out B hm;have bf:=bz.out B (by omega);have c0:=D.l B (by rw[aN.out];omega);rw[a00]at c0;have aK:=D.set (b:=B) (by rw[aN.out];omega) (by rw[Y.out];omega) (A.getD B 0+1) (-1);rw[<-e1,<-e2]at aK;obtain⟨y,hy⟩:∃y,A.getD B 0=y:=⟨_,rfl⟩;rw[hy]at c0 bf aK;obtain⟨bY,bX⟩:=bf;have f1:=D.fl B;have f2:=D.fr B;have c1:=D.r B (by rw[Y.out];omega);rw[a00]at c1;have T:IntKind.i64.wrap (y+1)=y+1:=IntWalk.i64_in _ (by omega);clear hy D hm e1 e2 ah aQ N X;go_wp2_with fail
            case' roundEnd =>
             obtain⟨r',rfl⟩:∃r',r=r'+1:=⟨r-1,by omega⟩;refine⟨⟨i+1,r',by have:=aC.out;omega,by go_num,aK⟩,?_⟩;simp[intOf]
         .obtain rfl:r=0:=by omega
          obtain rfl:i=L:=(by omega);have o:¬ (0:Int)<((0:Nat):Int):=(by omega);have hf:=X.l;go_wp2_with fail;go_ret2;exact M.out gl cl _ _ rfl bN (by unfold maxLen;exact a8) X.ll X.bl hf X.fl X.bel
     .have bb:dW ws=2:=by unfold dW at G |-;split<;>simp_all
      have bj:=Lib.hid G;rw[bb];clear bb G;go_wp2_with fail;go_ret2;exact aS.out _ _ F.out bj.out rfl (Below.refl _ _)
end
section
open Mc
variable {S:bK}
def Tn {A:Nat->Prop} {w:World}:@eE dK dN A w (.lit 1 (aA [])) (.slice none 0 0):=@eE.nR dK dN A w 1 none 0 (by unfold maxLen;omega)
def IY {t:Int} {ws:List Int} (q:fW t) (v:eW ws) (s:ws.length<=1000000):Ck 90 [.i t,.lit 1 (aA ws)] (.bG [.lit 1 (aA (fG t ws).1),.i (fG t ws).2]):=by
 refine⟨bN (.c _) (bN (kX _).lit fY),.bG _ (bN (kX _).lit (bN (.c _) fY)),?_⟩;intro A w vs x E u l;have k:=SO u;have z:=l 0 _ rfl;generalize vs.getD 0 Go.undef=D at *;have y:=l 1 _ rfl;generalize vs.getD 1 Go.undef=C at *;subst k;cases z;obtain⟨a,cap,rfl,R⟩:=LG y v;have r:=Ly (key:=vL (iY t (dJ ws) ws)) (List.range ws.length);refine(OP a cap ws (N8 (vL (iY t (dJ ws) ws)) (List.range ws.length)) t w R s q (fun _ _=>r)).mono ?_;rintro e w' ⟨b,h⟩;unfold fG;by_cases d:rU t ws=true
 .rw[if_pos d]at b |-
  subst b;exact⟨_,rfl,mI Tn qJ,h⟩
 rw[if_neg d]at b |-;by_cases hs:dW ws≠0
 .rw[if_pos hs]at b |-
  subst b;exact⟨_,rfl,mI Tn qJ,h⟩
 rw[if_neg hs]at b |-;obtain⟨g,nA,rfl,j,p,o,n,m,-⟩:=b;have f:(nS (jB t (dJ ws) ws) ((N8 (vL (iY t (dJ ws) ws)) (List.range ws.length)).take (uT t (dJ ws) ws))).length=ws.length:=by rw[Nt,yW]
 refine⟨_,rfl,mI ?_ qJ,h⟩;generalize nS (jB t (dJ ws) ws) ((N8 (vL (iY t (dJ ws) ws)) (List.range ws.length)).take (uT t (dJ ws) ws))=B at *;rw[<-f]at j |-;exact Xb x j p (.inr ⟨g,0,rfl,n,o,m⟩)
def vW {t:Int} {ws:List Int}:((fG t ws).2=0/\0<=t/\t<=288230376151711744/\(fG t ws).1.length=ws.length/\(∀x∈(fG t ws).1,0<=x/\x<=t)/\(fG t ws).1.sum=t)\/(((fG t ws).2=1\/(fG t ws).2=2)/\(fG t ws).1=[]):=by
 unfold fG;by_cases a:rU t ws=true
 .rw[if_pos a];exact .inr ⟨.inl rfl,rfl⟩
 rw[if_neg a];by_cases hs:dW ws≠0
 .rw[if_pos hs];exact .inr ⟨.inr rfl,rfl⟩
 rw[if_neg hs];left;have b:=pE.of (by simpa using a) (by simpa using hs);obtain⟨j,g⟩:=Ly (key:=vL (iY t (dJ ws) ws)) (List.range ws.length);have F:=adO b j g;dsimp only;generalize nS (jB t (dJ ws) ws) ((N8 (vL (iY t (dJ ws) ws)) (List.range ws.length)).take (uT t (dJ ws) ws))=B at *
 have e:∀x,x∈B->0<=x:=by
  intro x c;obtain⟨i,f⟩:=a1j.1 c;have d:=(a0y.1 f).1;have m:B.getD i 0=x:=by rw[a0k,f];rfl
  have k:0<=ws.getD i 0:=(b.all _ (dR (by rw[<-F.len];exact d))).1;have l:=a2j (a0p b.t0 k) (show 0<=dJ ws by have:=b.s0;omega);rcases F.one i (by rw[<-F.len];exact d)with h|h<;>omega
 refine⟨rfl,b.t0,b.t1,F.len,fun x c=>⟨e x c,?_⟩,F.sum⟩;have:=(PQ B x e c).1;rw[F.sum]at this;exact this
def tP (dst a:Int) (refs:List Int):AV:=.agg [.i 11,.i 0,.i 0,.i 0,.i dst,.i 0,.i a,.i 0,.lit 1 (aA refs)]
instance (d a:Int) (l:List Int):uD (tP d a l):=⟨(inferInstance:uD (.agg [.i 11,.i 0,.i 0,.i 0,.i d,.i 0,.i a,.i 0,.lit 1 (aA l)])).out⟩
def fF (S:bK) (r:bK×Int):bK×Int:=if r.2=0 then({ r.1 with done:=1+r.1.done },0)else(S,r.2)
def kW (T:bK):({ T with done:=1+T.done }:bK).av=.agg [.i T.bU,.i T.bT,.lit 1 (aA T.weights),.lit 1 (bF T.methods),.lit 1 (bF T.cI),.lit 8 (bD T.aD),.lit 8 (hH T.bB),.lit 9 (dX T.aN),.lit 6 (fM T.aH),.i (1+T.done)]:=rfl
section
variable {e item loc dst q a ref r0 r1 r2:Int}
def an1 (f:0<=e/\e<=3) (d:0<=item/\item<=4) (c:0<=loc/\loc<=1) (b:1<=q/\q<=1073741824) (g:0<=a/\a<=1073741824):Ck 22 [eS 1 e item loc 0 q a 0] Kgm:=cw _ (ev1 { vars:=G7 } [e,item,loc,q,a] [] [] .nil) [(.agg [.i 1,.v 0,.v 1,.v 2,.i 0,.v 3,.v 4,.i 0,.emp])] Kgm kn
def an0 (c:1<=q/\q<=1073741824) (d:0<=a/\a<=1073741824) (b:0<=ref/\ref<=39):Ck 22 [eS 2 0 0 0 0 q a ref] Kgm:=cw _ (ev1 { vars:=KaA } [q,a,ref] [] [] .nil) [(.agg [.i 2,.i 0,.i 0,.i 0,.i 0,.v 0,.v 1,.v 2,.emp])] Kgm kn
def anZ (b:1<=q/\q<=1073741824) (a:0<=ref/\ref<=39):Ck 22 [eS 3 0 0 0 0 q 0 ref] Kgm:=cw _ (ev1 { vars:=[Kg4,(0,39)] } [q,ref] [] [] .nil) [(.agg [.i 3,.i 0,.i 0,.i 0,.i 0,.v 0,.i 0,.v 1,.emp])] Kgm kn
def anY (f:0<=e/\e<=3) (d:0<=item/\item<=4) (c:0<=loc/\loc<=1) (b:1<=q/\q<=1073741824) (g:0<=a/\a<=1073741824):Ck 22 [eS 4 e item loc 0 q a 0] Kgm:=cw _ (ev1 { vars:=G7 } [e,item,loc,q,a] [] [] .nil) [(.agg [.i 4,.v 0,.v 1,.v 2,.i 0,.v 3,.v 4,.i 0,.emp])] Kgm kn
def anX (c:1<=q/\q<=1073741824) (d:0<=a/\a<=1073741824) (b:0<=ref/\ref<=39):Ck 22 [eS 5 0 0 0 0 q a ref] Kgm:=cw _ (ev1 { vars:=KaA } [q,a,ref] [] [] .nil) [(.agg [.i 5,.i 0,.i 0,.i 0,.i 0,.v 0,.v 1,.v 2,.emp])] Kgm kn
def anW (d:0<=e/\e<=3) (c:0<=item/\item<=4) (b:0<=loc/\loc<=1) (a:1<=q/\q<=1073741824):Ck 22 [eS 6 e item loc 0 q 0 0] Kgm:=cw _ (ev1 { vars:=[(0,3),(0,4),(0,1),Kg4] } [e,item,loc,q] [] [] .nil) [(.agg [.i 6,.v 0,.v 1,.v 2,.i 0,.v 3,.i 0,.i 0,.emp])] Kgm kn
def anV (d:0<=e/\e<=3) (c:0<=item/\item<=4) (b:0<=loc/\loc<=1) (a:0<=q/\q<=1073741824):Ck 22 [eS 7 e item loc 0 q 0 0] Kgm:=by
 rcases(by omega:q=0\/1<=q)with h|h
 .exact cw _ (ev1 { vars:=KbM,facts:=[([([3],1)],0,0)] } [e,item,loc,q] [] [] .nil) Hs Kgm kn
 .exact cw _ (ev1 { vars:=KbM,facts:=[([([3],1)],1,1073741824)] } [e,item,loc,q] [] [] .nil) Hs Kgm kn
def anU (g:0<=e/\e<=3) (f:0<=item/\item<=4) (d:0<=loc/\loc<=1) (b:0<=dst/\dst<=1) (c:1<=q/\q<=1073741824) (a:dst≠loc):Ck 22 [eS 8 e item loc dst q 0 0] Kgm:=by
 rcases(by omega:dst<loc\/loc<dst)with h|h
 .exact cw _ (ev1 { vars:=Kaf,facts:=[(Kgg,-100,-1)] } [e,item,loc,dst,q] [] [] .nil) Ht Kgm kn
 .exact cw _ (ev1 { vars:=Kaf,facts:=[Kd2] } [e,item,loc,dst,q] [] [] .nil) Ht Kgm kn
def anT (c:0<=e/\e<=3) (b:0<=item/\item<=4) (d:0<=a/\a<=1073741824):Ck 22 [eS 9 e item 0 0 0 a 0] Kgm:=cw _ (ev1 { vars:=[(0,3),(0,4),Kg3] } [e,item,a] [] [] .nil) [(.agg [.i 9,.v 0,.v 1,.i 0,.i 0,.i 0,.v 2,.i 0,.emp])] Kgm kn
def akX (c:0<=e/\e<=3) (b:0<=item/\item<=4) (d:0<=a/\a<=1073741824):Ck 22 [eS 10 e item 0 0 0 a 0] Kgm:=cw _ (ev1 { vars:=[(0,3),(0,4),Kg3] } [e,item,a] [] [] .nil) [(.agg [.i 10,.v 0,.v 1,.i 0,.i 0,.i 0,.v 2,.i 0,.emp])] Kgm kn
def akW (i:0<=e/\e<=3) (g:0<=item/\item<=4) (f:0<=loc/\loc<=1) (c:0<=dst/\dst<=3) (d:1<=q/\q<=1073741824) (j:0<=a/\a<=1073741824) (b:dst≠e):Ck 22 [eS 12 e item loc dst q a 0] Kgm:=by
 rcases(by omega:dst<e\/e<dst)with h|h
 .exact cw _ (ev1 { vars:=Hu,facts:=[([([0],-1),([3],1)],-100,-1)] } [e,item,loc,dst,q,a] [] [] .nil) Hm Kgm kn
 .exact cw _ (ev1 { vars:=Hu,facts:=[([([0],-1),([3],1)],1,100)] } [e,item,loc,dst,q,a] [] [] .nil) Hm Kgm kn
def akV (c:0<=loc/\loc<=1) (b:1<=q/\q<=1073741824) (a:0<=ref/\ref<=39):Ck 22 [eS 13 0 0 loc 0 q 0 ref] Kgm:=cw _ (ev1 { vars:=[(0,1),Kg4,(0,39)] } [loc,q,ref] [] [] .nil) [(.agg [.i 13,.i 0,.i 0,.v 0,.i 0,.v 1,.i 0,.v 2,.emp])] Kgm kn
def akU (a:0<=e/\e<=3):Ck 22 [eS 14 e 0 0 0 0 0 0] Kgm:=cw _ (ev1 { vars:=[(0,3)] } [e] [] [] .nil) [(.agg [.i 14,.v 0,.i 0,.i 0,.i 0,.i 0,.i 0,.i 0,.emp])] Kgm kn
def akT (a:0<=e/\e<=3):Ck 22 [eS 15 e 0 0 0 0 0 0] Kgm:=cw _ (ev1 { vars:=[(0,3)] } [e] [] [] .nil) [(.agg [.i 15,.v 0,.i 0,.i 0,.i 0,.i 0,.i 0,.i 0,.emp])] Kgm kn
def akS (a:0<=e/\e<=3):Ck 22 [eS 16 e 0 0 0 0 0 0] Kgm:=cw _ (ev1 { vars:=[(0,3)] } [e] [] [] .nil) [(.agg [.i 16,.v 0,.i 0,.i 0,.i 0,.i 0,.i 0,.i 0,.emp])] Kgm kn
def afa (b:0<=dst/\dst<=2) (c:0<=a/\a<=1073741824) (b0:0<=r0/\r0<=39):Ck 22 [tP dst a [r0]] Kgm:=cw _ (ev1 { vars:=[(0,2),Kg3,(0,39)] } [dst,a,r0] [] [] .nil) [(.agg [.i 11,.i 0,.i 0,.i 0,.v 0,.i 0,.v 1,.i 0,(.lit 1 [[.v 2]])])] Kgm kn
def ae9 (c:0<=dst/\dst<=2) (d:0<=a/\a<=1073741824) (b0:0<=r0/\r0<=39) (b1:0<=r1/\r1<=39) (b:r1≠r0):Ck 22 [tP dst a [r0,r1]] Kgm:=by
 rcases(by omega:r0<r1\/r1<r0)with h|h
 .exact cw _ (ev1 { vars:=Ka4,facts:=[Kd2] } [dst,a,r0,r1] [] [] .nil) US Kgm kn
 .exact cw _ (ev1 { vars:=Ka4,facts:=[(Kgg,-100,-1)] } [dst,a,r0,r1] [] [] .nil) US Kgm kn
def ae8 (b:0<=dst/\dst<=2) (c:0<=a/\a<=1073741824) (b0:0<=r0/\r0<=39) (b1:0<=r1/\r1<=39) (b2:0<=r2/\r2<=39) (h1:r0<r1) (d:r1<r2):Ck 22 [tP dst a [r0,r1,r2]] Kgm:=cw _ (ev1 { vars:=[(0,2),Kg3,(0,39),(0,39),(0,39)],facts:=[Kd2,([([2],-1),([4],1)],1,100),([([3],-1),([4],1)],1,100)] } [dst,a,r0,r1,r2] [] [] .nil) [(.agg [.i 11,.i 0,.i 0,.i 0,.v 0,.i 0,.v 1,.i 0,(.lit 1 [[.v 2],[.v 3],[.v 4]])])] Kgm kn
def d_step1 {r:bK×Int} (hC:Ck 22 [eS 1 e item loc 0 q a 0] Kgm) (b:Ck 87 [S.av,eS 1 e item loc 0 q a 0] (.bG [r.1.av,.i r.2])) (g:gZ r.2) (d:0<=r.1.done/\r.1.done<=1000000) :
  Ck 16 [S.av,eS 1 e item loc 0 q a 0] (.bG [(fF S r).1.av,.i (fF S r).2]):=by
 obtain⟨T,f⟩:=r;dsimp only at *;unfold fF;by_cases c:f=0
 .subst c
  rw[if_pos rfl,kW];exact cw _ (ev1 { vars:=Khp,bR:=[Ue,(87,UT,ZX)] } [T.done] (vT S [.I e,.I item,.I loc,.I q,.I a,.I T.bU,.I T.bT]) (sT S (sT T [])) .nil) UT Zd (kc hC (kc b kn))
 .rw[if_neg c]
  exact cw _ (ev1 { vars:=Kf4,bR:=[Ue,(87,UT,ZY)] } [f,T.done] (vT S [.I e,.I item,.I loc,.I q,.I a,.I T.bU,.I T.bT]) (sT S (sT T [])) .nil) UT KbN (kc hC (kc b kn))
def akR {r:bK×Int} (hC:Ck 22 [eS 2 0 0 0 0 q a ref] Kgm) (b:Ck 141 [S.av,eS 2 0 0 0 0 q a ref] (.bG [r.1.av,.i r.2])) (e:gZ r.2) (d:0<=r.1.done/\r.1.done<=1000000) :
  Ck 16 [S.av,eS 2 0 0 0 0 q a ref] (.bG [(fF S r).1.av,.i (fF S r).2]):=by
 obtain⟨T,f⟩:=r;dsimp only at *;unfold fF;by_cases c:f=0
 .subst c
  rw[if_pos rfl,kW];exact cw _ (ev1 { vars:=Khp,bR:=[Uf,(141,UU,ZZ)] } [T.done] (vT S [.I q,.I a,.I ref,.I T.bU,.I T.bT]) (sT S (sT T [])) .nil) UU Ze (kc hC (kc b kn))
 .rw[if_neg c]
  exact cw _ (ev1 { vars:=Kf4,bR:=[Uf,(141,UU,Z0)] } [f,T.done] (vT S [.I q,.I a,.I ref,.I T.bU,.I T.bT]) (sT S (sT T [])) .nil) UU KbN (kc hC (kc b kn))
def akQ {r:bK×Int} (hC:Ck 22 [eS 3 0 0 0 0 q 0 ref] Kgm) (a:Ck 141 [S.av,eS 3 0 0 0 0 q 0 ref] (.bG [r.1.av,.i r.2])) (d:gZ r.2) (c:0<=r.1.done/\r.1.done<=1000000) :
  Ck 16 [S.av,eS 3 0 0 0 0 q 0 ref] (.bG [(fF S r).1.av,.i (fF S r).2]):=by
 obtain⟨T,f⟩:=r;dsimp only at *;unfold fF;by_cases b:f=0
 .subst b
  rw[if_pos rfl,kW];exact cw _ (ev1 { vars:=Khp,bR:=[Ug,(141,UV,(.bG [(.agg [.o 5,.o 6,.q 1 8,.q 1 9,.q 1 10,.q 8 7,.q 8 11,.q 9 12,.q 6 13,.v 0]),.i 0]))] } [T.done] (vT S [.I q,.I ref,.I T.bU,.I T.bT]) (sT S (sT T [])) .nil) UV (.bG [(.agg [.o 5,.o 6,.q 1 8,.q 1 9,.q 1 10,.q 8 7,.q 8 11,.q 9 12,.q 6 13,KfQ]),.i 0]) (kc hC (kc a kn))
 .rw[if_neg b]
  exact cw _ (ev1 { vars:=Kf4,bR:=[Ug,(141,UV,(.bG [(.agg [.o 5,.o 6,.q 1 8,.q 1 9,.q 1 10,.q 8 7,.q 8 11,.q 9 12,.q 6 13,.v 1]),.v 0]))] } [f,T.done] (vT S [.I q,.I ref,.I T.bU,.I T.bT]) (sT S (sT T [])) .nil) UV KbN (kc hC (kc a kn))
def akP {r:bK×Int} (hC:Ck 22 [eS 4 e item loc 0 q a 0] Kgm) (b:Ck 139 [S.av,eS 4 e item loc 0 q a 0] (.bG [r.1.av,.i r.2])) (g:gZ r.2) (d:0<=r.1.done/\r.1.done<=1000000) :
  Ck 16 [S.av,eS 4 e item loc 0 q a 0] (.bG [(fF S r).1.av,.i (fF S r).2]):=by
 obtain⟨T,f⟩:=r;dsimp only at *;unfold fF;by_cases c:f=0
 .subst c
  rw[if_pos rfl,kW];exact cw _ (ev1 { vars:=Khp,bR:=[Uh,(139,UW,ZX)] } [T.done] (vT S [.I e,.I item,.I loc,.I q,.I a,.I T.bU,.I T.bT]) (sT S (sT T [])) .nil) UW Zd (kc hC (kc b kn))
 .rw[if_neg c]
  exact cw _ (ev1 { vars:=Kf4,bR:=[Uh,(139,UW,ZY)] } [f,T.done] (vT S [.I e,.I item,.I loc,.I q,.I a,.I T.bU,.I T.bT]) (sT S (sT T [])) .nil) UW KbN (kc hC (kc b kn))
def akO {r:bK×Int} (hC:Ck 22 [eS 5 0 0 0 0 q a ref] Kgm) (b:Ck 139 [S.av,eS 5 0 0 0 0 q a ref] (.bG [r.1.av,.i r.2])) (e:gZ r.2) (d:0<=r.1.done/\r.1.done<=1000000) :
  Ck 16 [S.av,eS 5 0 0 0 0 q a ref] (.bG [(fF S r).1.av,.i (fF S r).2]):=by
 obtain⟨T,f⟩:=r;dsimp only at *;unfold fF;by_cases c:f=0
 .subst c
  rw[if_pos rfl,kW];exact cw _ (ev1 { vars:=Khp,bR:=[Ui,(139,UX,ZZ)] } [T.done] (vT S [.I q,.I a,.I ref,.I T.bU,.I T.bT]) (sT S (sT T [])) .nil) UX Ze (kc hC (kc b kn))
 .rw[if_neg c]
  exact cw _ (ev1 { vars:=Kf4,bR:=[Ui,(139,UX,Z0)] } [f,T.done] (vT S [.I q,.I a,.I ref,.I T.bU,.I T.bT]) (sT S (sT T [])) .nil) UX KbN (kc hC (kc b kn))
def akN {r:bK×Int} (hC:Ck 22 [eS 6 e item loc 0 q 0 0] Kgm) (a:Ck 140 [S.av,eS 6 e item loc 0 q 0 0] (.bG [r.1.av,.i r.2])) (d:gZ r.2) (c:0<=r.1.done/\r.1.done<=1000000) :
  Ck 16 [S.av,eS 6 e item loc 0 q 0 0] (.bG [(fF S r).1.av,.i (fF S r).2]):=by
 obtain⟨T,f⟩:=r;dsimp only at *;unfold fF;by_cases b:f=0
 .subst b
  rw[if_pos rfl,kW];exact cw _ (ev1 { vars:=Khp,bR:=[Uj,(140,UY,Z1)] } [T.done] (vT S [.I e,.I item,.I loc,.I q,.I T.bU,.I T.bT]) (sT S (sT T [])) .nil) UY Zf (kc hC (kc a kn))
 .rw[if_neg b]
  exact cw _ (ev1 { vars:=Kf4,bR:=[Uj,(140,UY,Z2)] } [f,T.done] (vT S [.I e,.I item,.I loc,.I q,.I T.bU,.I T.bT]) (sT S (sT T [])) .nil) UY KbN (kc hC (kc a kn))
def akM {r:bK×Int} (hC:Ck 22 [eS 7 e item loc 0 q 0 0] Kgm) (a:Ck 140 [S.av,eS 7 e item loc 0 q 0 0] (.bG [r.1.av,.i r.2])) (d:gZ r.2) (c:0<=r.1.done/\r.1.done<=1000000) :
  Ck 16 [S.av,eS 7 e item loc 0 q 0 0] (.bG [(fF S r).1.av,.i (fF S r).2]):=by
 obtain⟨T,f⟩:=r;dsimp only at *;unfold fF;by_cases b:f=0
 .subst b
  rw[if_pos rfl,kW];exact cw _ (ev1 { vars:=Khp,bR:=[Uk,(140,UZ,Z1)] } [T.done] (vT S [.I e,.I item,.I loc,.I q,.I T.bU,.I T.bT]) (sT S (sT T [])) .nil) UZ Zf (kc hC (kc a kn))
 .rw[if_neg b]
  exact cw _ (ev1 { vars:=Kf4,bR:=[Uk,(140,UZ,Z2)] } [f,T.done] (vT S [.I e,.I item,.I loc,.I q,.I T.bU,.I T.bT]) (sT S (sT T [])) .nil) UZ KbN (kc hC (kc a kn))
def akL {r:bK×Int} (hC:Ck 22 [eS 8 e item loc dst q 0 0] Kgm) (a:Ck 140 [S.av,eS 8 e item loc dst q 0 0] (.bG [r.1.av,.i r.2])) (d:gZ r.2) (c:0<=r.1.done/\r.1.done<=1000000) :
  Ck 16 [S.av,eS 8 e item loc dst q 0 0] (.bG [(fF S r).1.av,.i (fF S r).2]):=by
 obtain⟨T,f⟩:=r;dsimp only at *;unfold fF;by_cases b:f=0
 .subst b
  rw[if_pos rfl,kW];exact cw _ (ev1 { vars:=Khp,bR:=[Ul,(140,U0,ZX)] } [T.done] (vT S [.I e,.I item,.I loc,.I dst,.I q,.I T.bU,.I T.bT]) (sT S (sT T [])) .nil) U0 Zd (kc hC (kc a kn))
 .rw[if_neg b]
  exact cw _ (ev1 { vars:=Kf4,bR:=[Ul,(140,U0,ZY)] } [f,T.done] (vT S [.I e,.I item,.I loc,.I dst,.I q,.I T.bU,.I T.bT]) (sT S (sT T [])) .nil) U0 KbN (kc hC (kc a kn))
def akK {r:bK×Int} (hC:Ck 22 [eS 9 e item 0 0 0 a 0] Kgm) (b:Ck 140 [S.av,eS 9 e item 0 0 0 a 0] (.bG [r.1.av,.i r.2])) (g:gZ r.2) (d:0<=r.1.done/\r.1.done<=1000000) :
  Ck 16 [S.av,eS 9 e item 0 0 0 a 0] (.bG [(fF S r).1.av,.i (fF S r).2]):=by
 obtain⟨T,f⟩:=r;dsimp only at *;unfold fF;by_cases c:f=0
 .subst c
  rw[if_pos rfl,kW];exact cw _ (ev1 { vars:=Khp,bR:=[Um,(140,U1,ZZ)] } [T.done] (vT S [.I e,.I item,.I a,.I T.bU,.I T.bT]) (sT S (sT T [])) .nil) U1 Ze (kc hC (kc b kn))
 .rw[if_neg c]
  exact cw _ (ev1 { vars:=Kf4,bR:=[Um,(140,U1,Z0)] } [f,T.done] (vT S [.I e,.I item,.I a,.I T.bU,.I T.bT]) (sT S (sT T [])) .nil) U1 KbN (kc hC (kc b kn))
def aiG {r:bK×Int} (hC:Ck 22 [eS 10 e item 0 0 0 a 0] Kgm) (b:Ck 143 [S.av,eS 10 e item 0 0 0 a 0] (.bG [r.1.av,.i r.2])) (g:gZ r.2) (d:0<=r.1.done/\r.1.done<=1000000) :
  Ck 16 [S.av,eS 10 e item 0 0 0 a 0] (.bG [(fF S r).1.av,.i (fF S r).2]):=by
 obtain⟨T,f⟩:=r;dsimp only at *;unfold fF;by_cases c:f=0
 .subst c
  rw[if_pos rfl,kW];exact cw _ (ev1 { vars:=Khp,bR:=[YZ,(143,UB,ZZ)] } [T.done] (vT S [.I e,.I item,.I a,.I T.bU,.I T.bT]) (sT S (sT T [])) .nil) UB Ze (kc hC (kc b kn))
 .rw[if_neg c]
  exact cw _ (ev1 { vars:=Kf4,bR:=[YZ,(143,UB,Z0)] } [f,T.done] (vT S [.I e,.I item,.I a,.I T.bU,.I T.bT]) (sT S (sT T [])) .nil) UB KbN (kc hC (kc b kn))
def aiF {refs:List Int} {r:bK×Int} (hC:Ck 22 [tP dst a refs] Kgm) (b:Ck 53 [S.av,tP dst a refs] (.bG [r.1.av,.i r.2])) (e:gZ r.2) (d:0<=r.1.done/\r.1.done<=1000000) :
  Ck 16 [S.av,tP dst a refs] (.bG [(fF S r).1.av,.i (fF S r).2]):=by
 obtain⟨T,f⟩:=r;dsimp only at *;unfold fF;by_cases c:f=0
 .subst c
  rw[if_pos rfl,kW];exact cw _ (ev1 { vars:=Khp,bR:=[YO,(53,Y0,(.bG [(.agg [.o 5,.o 6,.q 1 9,.q 1 10,.q 1 11,.q 8 8,.q 8 12,.q 9 13,.q 6 14,.v 0]),.i 0]))] } [T.done] (vT S [.I dst,.I a,.I T.bU,.I T.bT]) (sT S [aA refs,bD T.aD,aA T.weights,bF T.methods,bF T.cI,hH T.bB,dX T.aN,fM T.aH]) .nil) Y0 (.bG [(.agg [.o 5,.o 6,.q 1 9,.q 1 10,.q 1 11,.q 8 8,.q 8 12,.q 9 13,.q 6 14,KfQ]),.i 0]) (kc hC (kc b kn))
 .rw[if_neg c]
  exact cw _ (ev1 { vars:=Kf4,bR:=[YO,(53,Y0,(.bG [(.agg [.o 5,.o 6,.q 1 9,.q 1 10,.q 1 11,.q 8 8,.q 8 12,.q 9 13,.q 6 14,.v 1]),.v 0]))] } [f,T.done] (vT S [.I dst,.I a,.I T.bU,.I T.bT]) (sT S [aA refs,bD T.aD,aA T.weights,bF T.methods,bF T.cI,hH T.bB,dX T.aN,fM T.aH]) .nil) Y0 KbN (kc hC (kc b kn))
def aiE {r:bK×Int} (hC:Ck 22 [eS 12 e item loc dst q a 0] Kgm) (b:Ck 142 [S.av,eS 12 e item loc dst q a 0] (.bG [r.1.av,.i r.2])) (g:gZ r.2) (d:0<=r.1.done/\r.1.done<=1000000) :
  Ck 16 [S.av,eS 12 e item loc dst q a 0] (.bG [(fF S r).1.av,.i (fF S r).2]):=by
 obtain⟨T,f⟩:=r;dsimp only at *;unfold fF;by_cases c:f=0
 .subst c
  rw[if_pos rfl,kW];exact cw _ (ev1 { vars:=Khp,bR:=[Y1,(142,UC,(.bG [(.agg [.o 9,.o 10,.q 1 8,.q 1 9,.q 1 10,.q 8 7,.q 8 11,.q 9 12,.q 6 13,.v 0]),.i 0]))] } [T.done] (vT S [.I e,.I item,.I loc,.I dst,.I q,.I a,.I T.bU,.I T.bT]) (sT S (sT T [])) .nil) UC (.bG [(.agg [.o 9,.o 10,.q 1 8,.q 1 9,.q 1 10,.q 8 7,.q 8 11,.q 9 12,.q 6 13,KfQ]),.i 0]) (kc hC (kc b kn))
 .rw[if_neg c]
  exact cw _ (ev1 { vars:=Kf4,bR:=[Y1,(142,UC,(.bG [(.agg [.o 9,.o 10,.q 1 8,.q 1 9,.q 1 10,.q 8 7,.q 8 11,.q 9 12,.q 6 13,.v 1]),.v 0]))] } [f,T.done] (vT S [.I e,.I item,.I loc,.I dst,.I q,.I a,.I T.bU,.I T.bT]) (sT S (sT T [])) .nil) UC KbN (kc hC (kc b kn))
def aiD {r:bK×Int} (hC:Ck 22 [eS 13 0 0 loc 0 q 0 ref] Kgm) (a:Ck 142 [S.av,eS 13 0 0 loc 0 q 0 ref] (.bG [r.1.av,.i r.2])) (d:gZ r.2) (c:0<=r.1.done/\r.1.done<=1000000) :
  Ck 16 [S.av,eS 13 0 0 loc 0 q 0 ref] (.bG [(fF S r).1.av,.i (fF S r).2]):=by
 obtain⟨T,f⟩:=r;dsimp only at *;unfold fF;by_cases b:f=0
 .subst b
  rw[if_pos rfl,kW];exact cw _ (ev1 { vars:=Khp,bR:=[Y2,(142,UD,ZZ)] } [T.done] (vT S [.I loc,.I q,.I ref,.I T.bU,.I T.bT]) (sT S (sT T [])) .nil) UD Ze (kc hC (kc a kn))
 .rw[if_neg b]
  exact cw _ (ev1 { vars:=Kf4,bR:=[Y2,(142,UD,Z0)] } [f,T.done] (vT S [.I loc,.I q,.I ref,.I T.bU,.I T.bT]) (sT S (sT T [])) .nil) UD KbN (kc hC (kc a kn))
def aiC {r:bK×Int} (hC:Ck 22 [eS 14 e 0 0 0 0 0 0] Kgm) (a:Ck 30 [S.av,.i e] (.bG [r.1.av,.i r.2])) (d:gZ r.2) (c:0<=r.1.done/\r.1.done<=1000000) :
  Ck 16 [S.av,eS 14 e 0 0 0 0 0 0] (.bG [(fF S r).1.av,.i (fF S r).2]):=by
 obtain⟨T,f⟩:=r;dsimp only at *;unfold fF;by_cases b:f=0
 .subst b
  rw[if_pos rfl,kW];exact cw _ (ev1 { vars:=Khp,bR:=[Y3,(30,KdL,Z3)] } [T.done] (vT S [.I e,.I T.bU,.I T.bT]) (sT S (sT T [])) .nil) UE Zg (kc hC (kc a kn))
 .rw[if_neg b]
  exact cw _ (ev1 { vars:=Kf4,bR:=[Y3,(30,KdL,Z4)] } [f,T.done] (vT S [.I e,.I T.bU,.I T.bT]) (sT S (sT T [])) .nil) UE KbN (kc hC (kc a kn))
def aiB {r:bK×Int} (hC:Ck 22 [eS 15 e 0 0 0 0 0 0] Kgm) (a:Ck 38 [S.av,.i e] (.bG [r.1.av,.i r.2])) (d:gZ r.2) (c:0<=r.1.done/\r.1.done<=1000000) :
  Ck 16 [S.av,eS 15 e 0 0 0 0 0 0] (.bG [(fF S r).1.av,.i (fF S r).2]):=by
 obtain⟨T,f⟩:=r;dsimp only at *;unfold fF;by_cases b:f=0
 .subst b
  rw[if_pos rfl,kW];exact cw _ (ev1 { vars:=Khp,bR:=[Y4,(38,KdL,Z3)] } [T.done] (vT S [.I e,.I T.bU,.I T.bT]) (sT S (sT T [])) .nil) UF Zg (kc hC (kc a kn))
 .rw[if_neg b]
  exact cw _ (ev1 { vars:=Kf4,bR:=[Y4,(38,KdL,Z4)] } [f,T.done] (vT S [.I e,.I T.bU,.I T.bT]) (sT S (sT T [])) .nil) UF KbN (kc hC (kc a kn))
def aiA {r:bK×Int} (hC:Ck 22 [eS 16 e 0 0 0 0 0 0] Kgm) (a:Ck 39 [S.av,.i e] (.bG [r.1.av,.i r.2])) (d:gZ r.2) (c:0<=r.1.done/\r.1.done<=1000000) :
  Ck 16 [S.av,eS 16 e 0 0 0 0 0 0] (.bG [(fF S r).1.av,.i (fF S r).2]):=by
 obtain⟨T,f⟩:=r;dsimp only at *;unfold fF;by_cases b:f=0
 .subst b
  rw[if_pos rfl,kW];exact cw _ (ev1 { vars:=Khp,bR:=[Y5,(39,KdL,Z3)] } [T.done] (vT S [.I e,.I T.bU,.I T.bT]) (sT S (sT T [])) .nil) UG Zg (kc hC (kc a kn))
 .rw[if_neg b]
  exact cw _ (ev1 { vars:=Kf4,bR:=[Y5,(39,KdL,Z4)] } [f,T.done] (vT S [.I e,.I T.bU,.I T.bT]) (sT S (sT T [])) .nil) UG KbN (kc hC (kc a kn))
end
end
section
open Mc
variable {S:bK} {mm:Nat->St} {aa:Act}
def bK.rc (S:bK) (k:Int):wU:=S.bB.getD k.toNat ⟨0,0,0,0,0,0,0,0⟩
def hZ (S:bK):bK->List Int->List Int->Int->bK×Int×Int
 |T,[],_,all=>(T,all,0)
 |T,k::a,sh,all=>if(kK T (S.rc k) (sh.headD 0)).2.2≠0 then(T,all,(kK T (S.rc k) (sh.headD 0)).2.2)else hZ S (kK T (S.rc k) (sh.headD 0)).1 a sh.tail (all+(kK T (S.rc k) (sh.headD 0)).2.1)
def vE {T:bK} {k v all:Int} {a vs:List Int}:hZ S T (k::a) (v::vs) all=if(kK T (S.rc k) v).2.2≠0 then(T,all,(kK T (S.rc k) v).2.2)else hZ S (kK T (S.rc k) v).1 a vs (all+(kK T (S.rc k) v).2.1):=rfl
def tO (S:bK) (dst a:Int) (refs:List Int):bK×Int :=
 if refs.any (fun k=>decide ((S.bB.length:Int)<=k))=true then(S,4)else
 if refs.any (fun k=>decide ((S.rc k).aU≠(S.rc (refs.headD 0)).aU))=true then(S,1)else
 if(S.aJ (S.rc (refs.headD 0)).aU).closed=true then(S,7)else
 match fG a (refs.map (jC S dst))with
 |(sh,f)=>if f≠0 then(S,f)else
 match hZ S S refs sh 0 with
 |(T,all,f)=>if f≠0 then(S,f)else
 match dS T (S.rc (refs.headD 0)).aU [⟨0,all⟩,⟨9,a-all⟩,⟨2,-a⟩]with
 |(b,f)=>if f≠0 then(S,f)else(b,0)
namespace LD
abbrev lF1 (i:AV):List AV:=fr 166 [(2,.ptr 10 0 0 0),(3,.ptr 9 1 0 0),(4,.ptr 10 2 0 0),(5,.i 0),(6,i)]
abbrev Ff (i:AV):List AV:=fr 166 [(2,.ptr 10 0 0 0),(3,.ptr 9 1 0 0),(4,.ptr 10 2 0 0),(5,.i 0),(7,.ptr 8 3 0 0),(8,i)]
abbrev NV (sh all i:AV):List AV:=fr 166 [(2,.ptr 10 0 0 0),(3,.ptr 9 1 0 0),(4,.ptr 10 2 0 0),(5,.i 0),(7,.ptr 8 3 0 0),(9,.i 0),(10,sh),(11,.i 0),(12,.ptr 10 4 0 0),(13,all),(14,i)]
abbrev sC (S:bK) (E:List dL):Mc.dC:=.cells 31 10 [[.i S.bU,.i S.bT,.lit 1 (aA S.weights),.lit 1 (bF S.methods),.lit 1 (bF S.cI),.lit 8 (bD E),.lit 8 (hH S.bB),.lit 9 (dX S.aN),.lit 6 (fM S.aH),.i S.done]]
abbrev gC (g:wU):Mc.dC:=.cells 110 8 [[.i g.aU,.i g.item,.i g.loc,.i g.eU,.i g.value,.i g.wG,.i g.dQ,.i g.back]]
abbrev lB (S:bK) (dst a:Int) (refs:List Int):List Mc.dC:=[sC S S.aD,.cells 50 9 [[.i 11,.i 0,.i 0,.i 0,.i dst,.i 0,.i a,.i 0,.lit 1 (aA refs)]],.cells 31 10 H4]
noncomputable def body:Code:=(Tryz.f53).body.getD .skip
abbrev ama (c:Code) (r:Option (RT Out)):Prop:=nV { vars:=Ka5,lens:=Kdd } c (Y6++List.replicate 164 .undef) [] [some 0,some 1,some 2] (lF1 (.i 0)) KX r
noncomputable def acO:Option (RT Out):=uL { vars:=Ka5,lens:=Kdd } body (Y6++List.replicate 164 .undef:List AV).length (Y6++List.replicate 164 .undef) [] 0
def aoI:ama body acO:=⟨rfl,by decide +kernel,by decide +kernel⟩
abbrev adj (c:Code):Prop:=dD { vars:=GZ,facts:=[Kei,(Kge,1,40)],lens:=Kdd,gI:=[(7,[([3],1)],[.v 4])] } c (lF1 (.v 3)) KX 0 [some 0,some 1,some 2] (lF1 KfK) KX
abbrev TD (c:Code):Prop:=Is { vars:=GZ,facts:=[Kei,(Kge,-40,0)],lens:=Kdd,gI:=[(7,[([3],1)],[.v 4])] } Tryz.f53 c (lF1 (.v 3)) KX ((.bG [KfT,.i 4]))
abbrev agZ (c:Code):Prop:=dD { vars:=Ka5,lens:=Kdd } c (lF1 (.v 0)) KX 2 [some 0,some 1,some 2] (lF1 (.v 0)) KX
abbrev agY (o:Option (RT Out)) (r:Option (RT Out)):Prop:=pJ { vars:=WP,facts:=[([([1],1),([3],-1)],1,40)],lens:=Kdd,gI:=[(7,[],[.v 3]),Hv] } o 0 (lF1 (.v 0)) KX [some 0,some 1,some 2,some 3] (Ff (.i 1)) [YH,Wl,V3,(.cells 110 8 [BL])] r
noncomputable def P7:Option (RT Out):=IF { vars:=WP,facts:=[([([1],1),([3],-1)],1,40)],lens:=Kdd,gI:=[(7,[],[.v 3]),Hv] } acO 0 (lF1 (.v 0):List AV).length (lF1 (.v 0)) KX 3
def anh:agY acO P7:=⟨rfl,by decide +kernel,by decide +kernel⟩
abbrev adg (c:Code):Prop:=dD { vars:=V4,facts:=[Kej,Kek,KeA],lens:=Kdd,gI:=Ys } c (Ff (.v 5)) KE 0 [some 0,some 1,some 2,some 3] (Ff KfC) KE
abbrev adh (c:Code):Prop:=Is { vars:=V4,facts:=[Kej,Kek,(Kgj,-10,-1)],lens:=Kdd,gI:=Ys } Tryz.f53 c (Ff (.v 5)) KE Ka6
abbrev adi (c:Code):Prop:=Is { vars:=V4,facts:=[Kej,Kek,(Kgj,1,10)],lens:=Kdd,gI:=Ys } Tryz.f53 c (Ff (.v 5)) KE Ka6
abbrev agX (c:Code):Prop:=dD { vars:=Dh,lens:=Kdd } c (Ff (.v 0)) KE 4 [some 0,some 1,some 2,some 3] (Ff (.v 0)) KE
abbrev agW (o:Option (RT Out)) (r:Option (RT Out)):Prop:=pJ { vars:=Dh,lens:=Bp,bR:=J1 } o 2 (Ff (.v 0)) KE [some 0,some 1,some 2,some 3,some 4] (NV (.q 1 9) (.i 0) (.i 0)) [YH,Wl,V3,W6,YH] r
noncomputable def agd:Option (RT Out):=IF { vars:=Dh,lens:=Bp,bR:=J1 } P7 2 (Ff (.v 0):List AV).length (Ff (.v 0)) KE 4
def ang:agW P7 agd:=⟨rfl,by decide +kernel,by decide +kernel⟩
abbrev adf (c:Code):Prop:=dD { vars:=[(1,40),(0,40),KfW,(0,3),(0,4),(0,39),(0,39),KfW,KfW],facts:=H5,lens:=Bp,gI:=Q9,bR:=[(91,Yt,(.bG [KfR,.v 8,.i 0]))] } c (NV (.q 1 9) (.v 7) (.v 5)) Kr 0 [some 0,some 1,some 2,some 3,some 4] (NV (.q 1 9) (.e [([7],1),([8],1)]) KfC) [YH,Wl,V3,W6,(.cells 31 10 [[.o 0,.o 1,.q 1 1,.q 1 2,.q 1 3,.q 8 10,.q 8 4,.q 9 5,.q 6 6,.o 2]])]
abbrev TC (c:Code):Prop:=Is { vars:=[(1,40),(0,40),KfW,(0,3),(0,4),(0,39),(0,39),KfW,(1,20)],facts:=H5,lens:=Bp,gI:=Q9,bR:=[(91,Yt,(.bG [KfR,.o 19,.v 8]))] } Tryz.f53 c (NV (.q 1 9) (.v 7) (.v 5)) Kr ((.bG [KfT,.v 8]))
abbrev agV (c:Code):Prop:=dD { vars:=VZ,lens:=Bp } c (NV (.q 1 9) (.v 5) (.v 0)) Kr 6 [some 0,some 1,some 2,some 3,some 4] (NV (.q 1 9) (.v 5) (.v 0)) Kr
def ael (G:Gn S) (b:∀v∈S.weights,0<=v/\v<=1073741824) (dst k:Int):0<=jC S dst k/\jC S dst k<=1152921504606846976:=by
 unfold jC;split
 .omega
 .split
  .omega
  .rename_i g c
   obtain⟨b1,b2,b3,e,n,m,j,i⟩:=G.II g (a0a c);have a:=b _ (dR (d:=0) (k:=g.item.toNat) (l:=S.weights) (by omega));split
   .omega
   .split
    .omega
    .split
     .have h:=a0p (show 0<=g.eU by omega) a.1
      have f:g.eU*S.weights.getD g.item.toNat 0<=1073741824*1073741824:=Int.mul_le_mul e.2 a.2 a.1 (by omega);omega
     .omega
def To {k:Int} (a:0<=k) (h:k<S.bB.length):S.bB[k.toNat]?=some ⟨(S.rc k).aU,(S.rc k).item,(S.rc k).loc,(S.rc k).eU,(S.rc k).value,(S.rc k).wG,(S.rc k).dQ,(S.rc k).back⟩:=getD_some (by omega)
noncomputable abbrev fDo:Func:=Tryz.f53
section
variable {S:bK} {dst a:Int} {refs:List Int} {A:Nat->Prop} {w0:World} {a0:Act} {R:AV}
def T3 (oA:Option (RT Out)) (r1:adj (aW oA)) (m:TD (aW oA)) (l:agZ (aW oA)) (B:S.bB.length<=40) (h1:1<=refs.length) (v:refs.length<=40) (s:∀k∈refs,0<=k/\k<=39) (y:0<=a/\a<=1125899906842624)
  {w:World} (b:@dZ dK dN A w0 a0 mm w aa (lF1 (.i 0)) (eB (lB S dst a refs))) (g:∀k∈refs,(S.bB.length:Int)<=k->R=.bG [S.av,.i 4])
  (r:(∀k∈refs,k<S.bB.length)->∀mm w aa,@dZ dK dN A w0 a0 mm w aa (lF1 (.i (refs.length:Int))) (eB (lB S dst a refs))->KS Tryz.prog (oK oA) (Fin Tryz.prog fDo A w0 a0 R) (AX.exit 0).to aa w) :
  (Code.loop (aW oA)).wpIn (fw none) 9 Tryz.prog (KS Tryz.prog (oK oA) (Fin Tryz.prog fDo A w0 a0 R)) aa w:=by
 refine cN (fun n t w=>∃(j:Nat),n=refs.length-j/\j<=refs.length/\(∀k∈refs.take j,k<S.bB.length)/\∃mm,@dZ dK dN A w0 a0 mm w t (lF1 (.i (j:Int))) (eB (lB S dst a refs))) ?_ (n:=refs.length) ⟨0,rfl,a0j _,by simp,_,b⟩;rintro n aa w ⟨j,rfl,x,f,mm,b⟩;rcases(by omega:j=refs.length\/j<refs.length)with rfl|o
 .rw[a04]at f
  refine l.go (ev1 _ [(refs.length:Int),(S.bB.length:Int),a] (vT S [.I dst]) (sT S [aA refs]) .nil) (xK kn) b ?_;exact r f
 .obtain⟨k,e⟩:∃k,refs[j]?=some k:=⟨_,a0d o⟩
  have q:refs[(j:Int).toNat]?=some k:=by simpa using e
  have u:=s k (a0a e);by_cases p:k<S.bB.length
  .refine r1.go (ev1 _ [(refs.length:Int),(S.bB.length:Int),a,(j:Int),k] (vT S [.I dst]) (sT S [aA refs]) (.d (aI q) .nil)) (xK kn) b (fd:=lF1 (.i (1+(j:Int)))) (bd:=lB S dst a refs) ?_
   intro mm w aa b;rw[show(1+(j:Int))=((j+1:Nat):Int)by omega]at b;refine⟨_,by omega,j+1,rfl,by omega,?_,mm,b⟩;intro z c;rw[a0n,e]at c;rcases a0m.1 c with c|c
   .exact f z c
   .simp at c;rw[c];exact p
  .rw[g k (a0a e) (by omega)]
   exact m.go (ev1 _ [(refs.length:Int),(S.bB.length:Int),a,(j:Int),k] (vT S [.I dst]) (sT S [aA refs]) (.d (aI q) .nil)) (xK kn) b fun a w h=>pW h _
def TZ (e:Option (RT Out)) (r2:adg (aW e)) (t:adh (aW e)) (u:adi (aW e)) (s:agX (aW e)) (G:Gn S) (h1:1<=refs.length) (L:refs.length<=40) (H:∀k∈refs,0<=k/\k<=39) (N:0<=a/\a<=1125899906842624) (B:∀k∈refs,k<S.bB.length)
  {g:wU} (O:(0<=g.aU/\g.aU<=3)/\0<=g.item/\g.item<=4) (C:∀k∈refs.take 1,(S.rc k).aU=g.aU)
  {w:World} (b:@dZ dK dN A w0 a0 mm w aa (Ff (.i 1)) (eB (lB S dst a refs++[gC g]))) (r:∀k∈refs,(S.rc k).aU≠g.aU->R=.bG [S.av,.i 1])
  (F:(∀k∈refs,(S.rc k).aU=g.aU)->∀mm w aa,@dZ dK dN A w0 a0 mm w aa (Ff (.i (refs.length:Int))) (eB (lB S dst a refs++[gC g]))->KS Tryz.prog (oK e) (Fin Tryz.prog fDo A w0 a0 R) (AX.exit 2).to aa w) :
  (Code.loop (aW e)).wpIn (fw none) 9 Tryz.prog (KS Tryz.prog (oK e) (Fin Tryz.prog fDo A w0 a0 R)) aa w:=by
 have P:=G.NU;have:=G.hn;refine cN (fun n J w=>∃(j:Nat),n=refs.length-j/\1<=j/\j<=refs.length/\(∀k∈refs.take j,(S.rc k).aU=g.aU)/\∃mm,@dZ dK dN A w0 a0 mm w J (Ff (.i (j:Int))) (eB (lB S dst a refs++[gC g]))) ?_ (n:=refs.length-1) ⟨1,rfl,a0h _,h1,C,_,b⟩;rintro n aa w ⟨j,rfl,K,M,c,mm,b⟩;rcases(by omega:j=refs.length\/j<refs.length)with rfl|v
 .rw[a04]at c
  refine s.go (ev1 _ [(refs.length:Int),(S.bB.length:Int),a,g.aU,g.item] (vT S [.I dst,.I g.loc,.I g.eU,.I g.value,.I g.wG,.I g.dQ,.I g.back]) (sT S [aA refs]) .nil) (xK kn) b ?_;exact F c
 .obtain⟨k,m⟩:∃k,refs[j]?=some k:=⟨_,a0d v⟩
  have q:refs[(j:Int).toNat]?=some k:=by simpa using m
  have l:=a0a m;have y:=H k l;have x:=B k l;have p:=To y.1 x;obtain⟨E,-⟩:=G.II _ (a0a p);dsimp only at E
  have D:=r k l;have nx:(S.rc k).aU=g.aU->∀z∈refs.take (j+1),(S.rc z).aU=g.aU:=by
   intro o z f;rw[a0n,m]at f;rcases a0m.1 f with f|f
   .exact c z f
   .simp at f;rw[f];exact o
  generalize S.rc k=h at *;rcases(by omega:h.aU=g.aU\/h.aU<g.aU\/g.aU<h.aU)with o|o|o
  .refine r2.go (ev1 _ [(refs.length:Int),(S.bB.length:Int),a,g.aU,g.item,(j:Int),k,h.aU] (vT S [.I dst,.I g.loc,.I g.eU,.I g.value,.I g.wG,.I g.dQ,.I g.back,.I h.item,.I h.loc,.I h.eU,.I h.value,.I h.wG,.I h.dQ,.I h.back]) (sT S [aA refs]) (.d (aI q) (.d (aC p) .nil))) (xK kn) b (fd:=Ff (.i (1+(j:Int)))) (bd:=lB S dst a refs++[gC g]) ?_
   intro mm w aa b;rw[show(1+(j:Int))=((j+1:Nat):Int)by omega]at b;exact⟨_,by omega,j+1,rfl,by omega,by omega,nx o,mm,b⟩
  .rw[D (by omega)]
   exact t.go (ev1 _ [(refs.length:Int),(S.bB.length:Int),a,g.aU,g.item,(j:Int),k,h.aU] (vT S [.I dst,.I g.loc,.I g.eU,.I g.value,.I g.wG,.I g.dQ,.I g.back,.I h.item,.I h.loc,.I h.eU,.I h.value,.I h.wG,.I h.dQ,.I h.back]) (sT S [aA refs]) (.d (aI q) (.d (aC p) .nil))) (xK kn) b fun a w h=>pW h _
  .rw[D (by omega)]
   exact u.go (ev1 _ [(refs.length:Int),(S.bB.length:Int),a,g.aU,g.item,(j:Int),k,h.aU] (vT S [.I dst,.I g.loc,.I g.eU,.I g.value,.I g.wG,.I g.dQ,.I g.back,.I h.item,.I h.loc,.I h.eU,.I h.value,.I h.wG,.I h.dQ,.I h.back]) (sT S [aA refs]) (.d (aI q) (.d (aC p) .nil))) (xK kn) b fun a w h=>pW h _
def aes (l:List Int) (j:Nat) (h:j<l.length):(l.take (j+1)).sum=(l.take j).sum+l.getD j 0:=by
 rw[a0n,a2l,a0d h,a0k,a0d h];simp
def Iu (l:List Int) (h:∀x∈l,0<=x) (j:Nat):(l.take j).sum<=l.sum:=by
 have e:l.sum=(l.take j).sum+(l.drop j).sum:=by rw[<-a2l,a2c]
 have:0<=(l.drop j).sum:=by
  have go:∀(m:List Int),(∀x∈m,0<=x)->0<=m.sum:=by
   intro m;induction m with
   |nil=>intro _;simp
   |cons x t b=>intro a;rw[a0x];have:=a x (by simp);have:=b fun y c=>a y (by simp[c]);omega
  exact go _ fun x d=>h x (a2x d)
 omega
def ao8 (o:Option (RT Out)) (r3:adf (aW o)) (N:TC (aW o)) (M:agV (aW o)) (G:Gn S) (hd:S.done<=1000000) (h1:1<=refs.length) (ag:refs.length<=40) (r:∀k∈refs,0<=k/\k<=39) (ha:0<=a/\a<=1125899906842624) (Y:∀k∈refs,k<S.bB.length)
  {g:wU} (gb:(0<=g.aU/\g.aU<=3)/\0<=g.item/\g.item<=4) {sh:List Int} (ae:sh.length=refs.length) (q:∀x∈sh,0<=x/\x<=a) (af:sh.sum=a)
  {w:World} (e:@dZ dK dN A w0 a0 mm w aa (NV (.lit 1 (aA sh)) (.i 0) (.i 0)) (eB (lB S dst a refs++[gC g,sC S S.aD])))
  (H:∀f,(hZ S S refs sh 0).2.2=f->f≠0->R=.bG [S.av,.i f])
  (kk:∀E all,hZ S S refs sh 0=(S.bQ E,all,0)->Kn S (S.bQ E)->0<=all/\all<=a->∀mm w aa,@dZ dK dN A w0 a0 mm w aa (NV (.lit 1 (aA sh)) (.i all) (.i (refs.length:Int))) (eB (lB S dst a refs++[gC g,sC S E]))->KS Tryz.prog (oK o) (Fin Tryz.prog fDo A w0 a0 R) (AX.exit 4).to aa w) :
  (Code.loop (aW o)).wpIn (fw none) 9 Tryz.prog (KS Tryz.prog (oK o) (Fin Tryz.prog fDo A w0 a0 R)) aa w:=by
 have Xf:=G.NU;have:=G.hn;refine cN (fun n a' w=>∃(j:Nat) (b:List dL) (all:Int),n=refs.length-j/\j<=refs.length/\hZ S S refs sh 0=hZ S (S.bQ b) (refs.drop j) (sh.drop j) all/\Kn S (S.bQ b)/\(0<=all/\all<=(sh.take j).sum)/\∃mm,@dZ dK dN A w0 a0 mm w a' (NV (.lit 1 (aA sh)) (.i all) (.i (j:Int))) (eB (lB S dst a refs++[gC g,sC S b]))) ?_ (n:=refs.length) ⟨0,S.aD,0,rfl,a0j _,rfl,.refl G.toStOk,⟨a0f _,by simp⟩,_,e⟩;rintro n aa w ⟨j,b,all,rfl,hj,l,K,J,mm,e⟩;have ad:=Iu sh (fun x F=>(q x F).1) j;rcases(by omega:j=refs.length\/j<refs.length)with rfl|s
 .refine M.go (ev1 _ [(refs.length:Int),(S.bB.length:Int),a,g.aU,g.item,all] (vT S [.I dst,.I g.loc,.I g.eU,.I g.value,.I g.wG,.I g.dQ,.I g.back]) (sT S [aA refs,bD b,aA sh]) .nil) (xK kn) e ?_
  exact kk b all (by rw[l,a3e];rfl) K ⟨J.1,by omega⟩
 .obtain⟨k,t⟩:∃k,refs[j]?=some k:=⟨_,a0d s⟩
  have X:refs[(j:Int).toNat]?=some k:=by simpa using t
  have z:=a0a t;have W:=r k z;have V:=Y k z;have u:=To W.1 V;obtain⟨C,B,Q,P,q5,q6,q7,O⟩:=G.II _ (a0a u);dsimp only at C B Q P q5 q6 q7 O;obtain⟨v,m⟩:∃v,sh[j]?=some v:=⟨_,a0d (by omega)⟩;have U:sh[(j:Int).toNat]?=some v:=by simpa using m
  have T:=q v (a0a m);have ab:refs.drop j=k::refs.drop (j+1):=by rw[<-a2t s];congr 1;exact Option.some.inj (by rw[<-a0d s,t])
  have Z:sh.drop j=v::sh.drop (j+1):=by rw[<-a2t (by omega:j<sh.length)];congr 1;exact Option.some.inj (by rw[<-a0d,m])
  have p:=aes sh j (by omega);rw[a0k,m]at p;have ac:=Iu sh (fun x F=>(q x F).1) (j+1);dsimp only[Option.getD_some]at p;rw[ab,Z,vE]at l;have x1:Ix (S.bQ b) (S.rc k).aU (S.rc k).item:=K.ix ⟨C.1,C.2,B.1,B.2⟩;obtain⟨hs,D,c1,f1⟩:=adU (S:=S.bQ b) (rv:=(S.rc k).value) (ro:=(S.rc k).wG) (ra:=(S.rc k).dQ) (v:=v) (K.gn G) hd x1 Q P O ⟨T.1,by omega⟩;have e0:(⟨(S.rc k).aU,(S.rc k).item,(S.rc k).loc,(S.rc k).eU,(S.rc k).value,(S.rc k).wG,(S.rc k).dQ,(S.rc k).back⟩:wU)=S.rc k:=rfl;rw[e0]at hs D c1 f1;obtain⟨T2,c,f,r⟩:∃T2 c f,kK (S.bQ b) (S.rc k) v=(T2,c,f):=⟨_,_,_,rfl⟩;rw[r]at hs D c1 f1;simp only[r]at l;clear r e0;generalize S.rc k=h at hs u;dsimp only at *;have K2:=K.trans D;obtain⟨y,rfl⟩:=K2.ex;by_cases L:f=0
  .subst L
   rw[if_neg (by simp)]at l;refine r3.go (ev1 _ [(refs.length:Int),(S.bB.length:Int),a,g.aU,g.item,(j:Int),k,all,c] (vT S [.I dst,.I g.loc,.I g.eU,.I g.value,.I g.wG,.I g.dQ,.I g.back,.I h.aU,.I h.item,.I h.loc,.I h.eU,.I h.value,.I h.wG,.I h.dQ,.I h.back,.I v]) (sT S [aA refs,bD b,aA sh,bD y]) (.d (aI X) (.d (aC u) (.d (aI U) .nil)))) (xK (kc hs kn)) e (fd:=NV (.lit 1 (aA sh)) (.i (all+c)) (.i (1+(j:Int)))) (bd:=lB S dst a refs++[gC g,sC S y]) ?_;intro mm w aa e;rw[show(1+(j:Int))=((j+1:Nat):Int)by omega]at e;exact⟨_,by omega,j+1,y,all+c,rfl,by omega,l,K2,⟨by omega,by omega⟩,mm,e⟩
  .rw[if_pos L]at l
   rw[H f (by rw[l]) L];have f2:1<=f/\f<=20:=by unfold gZ at f1;omega
   exact N.go (ev1 _ [(refs.length:Int),(S.bB.length:Int),a,g.aU,g.item,(j:Int),k,all,f] (vT S [.I dst,.I g.loc,.I g.eU,.I g.value,.I g.wG,.I g.dQ,.I g.back,.I h.aU,.I h.item,.I h.loc,.I h.eU,.I h.value,.I h.wG,.I h.dQ,.I h.back,.I v,.I c]) (sT S [aA refs,bD b,aA sh,bD y]) (.d (aI X) (.d (aC u) (.d (aI U) .nil)))) (xK (kc hs kn)) e fun a w h=>pW h _
def walk (oA n y:Option (RT Out)) (rA:ama body oA) (r1:adj (aW oA)) (am:TD (aW oA)) (al:agZ (aW oA)) (ak:agY oA n) (r2:adg (aW n)) (ai:adh (aW n)) (aj:adi (aW n)) (ah:agX (aW n)) (NU:iU { vars:=Dh,lens:=Kdd,bR:=[(89,[KfT,.v 3,.v 4],(.i 7))] } Tryz.f53 n 2 (Ff (.v 0)) KE Ka7) (ad:iU { vars:=[(1,40),(0,40),KfW,(0,3),(0,4),(1,20)],lens:=Kdd,bR:=[D5,Di,(90,[.v 2,.q 1 8],(.bG [.q 1 9,.v 5]))] } Tryz.f53 n 2 (Ff (.v 0)) KE Ka8) (ag:agW n y) (r3:adf (aW y)) (af:TC (aW y)) (ae:agV (aW y)) (ab:iU { vars:=VZ,lens:=Bp,bR:=[(92,Zi,Kbq)] } Tryz.f53 y 4 (NV (.q 1 9) (.v 5) (.v 0)) Kr (Kbq)) (ac:iU { vars:=[(1,40),(0,40),KfW,(0,3),(0,4),KfW,(1,20)],lens:=Bp,bR:=[(92,Zi,(.bG [KfR,.v 6]))] } Tryz.f53 y 4 (NV (.q 1 9) (.v 5) (.v 0)) Kr (Kby))
  (G:Gn S) (hd:S.done<=1000000) (hw:∀v∈S.weights,0<=v/\v<=1073741824) (h1:1<=refs.length) (F:refs.length<=40) (o:∀k∈refs,0<=k/\k<=39) (W:fW dst) (X:0<=a/\a<=1125899906842624) :
  Ck 53 [S.av,tP dst a refs] (.bG [(tO S dst a refs).1.av,.i (tO S dst a refs).2]):=by
 have h:=G.toStOk;have Xf:=G.NU;have:=h.hn;have:=h.hw;obtain⟨z,C⟩:∃k,refs[0]?=some k:=⟨_,a0d (by omega)⟩;have P:refs.headD 0=z:=by cases refs with|nil=>simp at h1|cons x t=>simpa using C
 have B:=a0a C;have Q:=o z B;refine CK.fP Tryz.func53 (c:=body) (by kernel_rfl) (yO.out) (uD.out) fun A w0 a0=>?_
 generalize u:AV.bG [(tO S dst a refs).1.av,.i (tO S dst a refs).2]=R;have Z:∀r:bK×Int,tO S dst a refs=r->R=.bG [r.1.av,.i r.2]:=fun r o=>by rw[<-u,o]
 intro mm w aa j;rw[Tryz.ntmps53]at j;refine rA.go (ev1 _ [(refs.length:Int),(S.bB.length:Int),a] (vT S [.I dst]) (sT S [aA refs]) .nil) (xK kn) j (fd:=lF1 (.i 0)) (bd:=lB S dst a refs) ?_;intro mm w aa j;refine T3 oA r1 am al Xf h1 F o X j (fun k m s=>Z (S,4) (by unfold tO;rw[if_pos (a1n.2 ⟨k,m,by simpa using s⟩)])) ?_
 intro p mm w aa j;have c1:¬ (refs.any (fun k=>decide ((S.bB.length:Int)<=k))=true):=by
  rw[a1n];rintro⟨k,m,V⟩;have:=p k m;simp at V;omega
 have U:=To Q.1 (p z B);have O:refs[(0:Int).toNat]?=some z:=C;have aw:=p z B;obtain⟨g1,g2,g3,-⟩:=G.II _ (a0a U);dsimp only at g1 g2 g3;obtain⟨g,s⟩:∃g,S.rc z=g:=⟨_,rfl⟩
 have ap:∀k∈refs.take 1,(S.rc k).aU=g.aU:=by
  intro k m;rw[List.take_one,List.head?_eq_getElem?,C]at m;simp at m;rw[m,s]
 have e:∀r:bK×Int,(if refs.any (fun k=>decide ((S.rc k).aU≠g.aU))=true then(S,1)else if(S.aJ g.aU).closed=true then(S,7)else
   match fG a (refs.map (jC S dst))with
   |(sh,f)=>if f≠0 then(S,f)else
   match hZ S S refs sh 0 with
   |(T,all,f)=>if f≠0 then(S,f)else
   match dS T g.aU [⟨0,all⟩,⟨9,a-all⟩,⟨2,-a⟩]with
   |(T2,f)=>if f≠0 then(S,f)else(T2,0))=r->R=.bG [r.1.av,.i r.2]:=fun r o=>Z r (by unfold tO;rw[if_neg c1,P,s];exact o)
 clear Z u;rw[s]at U g1 g2 g3;refine ak.go (ev1 _ [(refs.length:Int),(S.bB.length:Int),a,z,g.aU,g.item,g.loc] (vT S [.I dst,.I g.eU,.I g.value,.I g.wG,.I g.dQ,.I g.back]) (sT S [aA refs]) (.d (az O) (.d (aC U) .nil))) (xK kn) j (fd:=Ff (.i 1)) (bd:=lB S dst a refs++[gC g]) ?_;intro mm w aa j;refine TZ n r2 ai aj ah G h1 F o X p (g:=g) ⟨by omega,by omega,by omega⟩ ap j (fun k m D=>e (S,1) (by rw[if_pos (a1n.2 ⟨k,m,by simpa using D⟩)])) ?_
 intro H mm w aa j;have c2:¬ (refs.any (fun k=>decide ((S.rc k).aU≠g.aU))=true):=by
  rw[a1n];rintro⟨k,m,V⟩;simp[H k m]at V
 rw[if_neg c2]at e;have x:Ix S g.aU g.item:=⟨g1.1,g1.2,g2.1,g2.2⟩;have u:=gD h x;by_cases hc:(S.aJ g.aU).closed=true
 .rw[if_pos hc]at u e
  rw[e _ rfl];exact NU.go (ev1 _ [(refs.length:Int),(S.bB.length:Int),a,g.aU,g.item] (vT S [.I dst,.I g.loc,.I g.eU,.I g.value,.I g.wG,.I g.dQ,.I g.back]) (sT S [aA refs]) .nil) (xK (kc u kn)) j
 rw[if_neg hc]at u e;have ar:eW (refs.map (jC S dst)):=by
  intro v J;obtain⟨k,m,rfl⟩:=a0l.1 J;have:=ael G hw dst k;exact⟨by omega,by omega⟩
 have hW:=Oo G hw (basis:=dst) (refs:=refs) (by omega) (fun v J=>by have:=o v J;exact⟨by omega,by omega⟩) W;have Y:=IY (t:=a) (ws:=refs.map (jC S dst)) ⟨by omega,by omega⟩ ar (by simp;omega);have M:=vW (t:=a) (ws:=refs.map (jC S dst));rw[a0z]at M;generalize refs.map (jC S dst)=ws at *;generalize fG a ws=sp at *;obtain⟨sh,f⟩:=sp;dsimp only at M Y e;rcases M with⟨hf,t0,t1,N,ao,L⟩|⟨hf,au⟩;rotate_left
 .have aq:f≠0:=by omega
  rw[if_pos aq]at e;rw[e _ rfl];exact ad.go (ev1 _ [(refs.length:Int),(S.bB.length:Int),a,g.aU,g.item,f] (vT S [.I dst,.I g.loc,.I g.eU,.I g.value,.I g.wG,.I g.dQ,.I g.back]) (sT S [aA refs,aA ws,aA sh]) .nil) (xK (kc u (kc hW (kc Y kn)))) j
 subst hf;rw[if_neg (by simp)]at e;refine ag.go (ev1 _ [(refs.length:Int),(S.bB.length:Int),a,g.aU,g.item] (vT S [.I dst,.I g.loc,.I g.eU,.I g.value,.I g.wG,.I g.dQ,.I g.back]) (sT S [aA refs,aA ws,aA sh]) .nil) (xK (kc u (kc hW (kc Y kn)))) j (fd:=NV (.lit 1 (aA sh)) (.i 0) (.i 0)) (bd:=lB S dst a refs++[gC g,sC S S.aD]) ?_;intro mm w aa j;refine ao8 y r3 af ae G hd h1 F o X p (g:=g) ⟨by omega,by omega,by omega⟩ N ao L j ?_ ?_
 .intro f E D
  refine e (S,f) ?_;obtain⟨T,all,f',an⟩:∃T all f',hZ S S refs sh 0=(T,all,f'):=⟨_,_,_,rfl⟩;rw[an]at E |-;dsimp only at E |-;subst E;rw[if_pos D]
 intro E1 all hA K ax mm w aa j;rw[hA]at e;dsimp only at e;rw[if_neg (by simp)]at e;have x3:=K.ix x;have hq:=eM K.ok x3 (l:=[⟨0,all⟩,⟨9,a-all⟩,⟨2,-a⟩]) (vK fmo) (by simp);obtain⟨k4,f4,z4⟩:=eX K.ok x3 [⟨0,all⟩,⟨9,a-all⟩,⟨2,-a⟩];generalize dS (S.bQ E1) g.aU [⟨0,all⟩,⟨9,a-all⟩,⟨2,-a⟩]=b at *;obtain⟨T2,f⟩:=b;dsimp only at *;obtain⟨E2,rfl⟩:=(K.trans k4).ex;by_cases h0:f=0
 .subst h0
  rw[if_neg (by simp)]at e;rw[e _ rfl];exact ab.go (ev1 _ [(refs.length:Int),(S.bB.length:Int),a,g.aU,g.item,all] (vT S [.I dst,.I g.loc,.I g.eU,.I g.value,.I g.wG,.I g.dQ,.I g.back]) (sT S [aA refs,bD E1,aA sh,bD E2]) .nil) (xK (kc hq kn)) j
 .rw[if_pos h0]at e
  rw[e _ rfl];have f2:1<=f/\f<=20:=by unfold gZ at f4;omega
  exact ac.go (ev1 _ [(refs.length:Int),(S.bB.length:Int),a,g.aU,g.item,all,f] (vT S [.I dst,.I g.loc,.I g.eU,.I g.value,.I g.wG,.I g.dQ,.I g.back]) (sT S [aA refs,bD E1,aA sh,bD E2]) .nil) (xK (kc hq kn)) j
end
end LD
def IA {S:bK} (G:Gn S) (q:S.done<=1000000):∀(a vs:List Int) (T:bK) (all:Int),Kn S T->(∀k∈a,0<=k/\k<S.bB.length)->(∀v∈vs,0<=v/\v<=1125899906842624)->vs.length=a.length->Kn S (hZ S T a vs all).1/\gZ (hZ S T a vs all).2.2
 |[],vs,T,all,K,_,_,_=>⟨K,⟨by simp[hZ],by simp[hZ]⟩⟩
 |k::a,[],T,all,K,_,_,h=>by simp at h
 |k::a,v::vs,T,all,K,o,m,h=>by
  rw[vE];have b:=o k (by simp);have w:=LD.To b.1 b.2;obtain⟨d,c,g,f,u,t,s,e⟩:=G.II _ (a0a w);dsimp only at d c g f u t s e;have j:=m v (by simp);have r:Ix T (S.rc k).aU (S.rc k).item:=K.ix ⟨d.1,d.2,c.1,c.2⟩;have p:T.done<=1000000:=by rw[K.eq];exact q
  obtain⟨-,i,y,f1⟩:=adU (rv:=(S.rc k).value) (ro:=(S.rc k).wG) (ra:=(S.rc k).dQ) (v:=v) (K.gn G) p r g f e j;have x:(⟨(S.rc k).aU,(S.rc k).item,(S.rc k).loc,(S.rc k).eU,(S.rc k).value,(S.rc k).wG,(S.rc k).dQ,(S.rc k).back⟩:wU)=S.rc k:=rfl;rw[x]at i f1;split
  .exact⟨K,f1⟩
  .exact IA G q a vs _ _ (K.trans i) (fun k n=>o k (by simp[n])) (fun v l=>m v (by simp[l])) (by simpa using h)
def aiK {dst a:Int} {refs:List Int} (G:Gn S) (q:S.done<=1000000) (y:∀v∈S.weights,0<=v/\v<=1073741824) (h1:1<=refs.length) (u:refs.length<=40) (n:∀k∈refs,0<=k/\k<=39) (m:fW dst) (D:0<=a/\a<=1125899906842624) :
  Ck 53 [S.av,tP dst a refs] (.bG [(tO S dst a refs).1.av,.i (tO S dst a refs).2])/\oH S (tO S dst a refs):=by
 refine⟨LD.walk LD.acO LD.P7 LD.agd LD.aoI .of .of .of LD.anh .of .of .of .of .of .of LD.ang .of .of .of .of .of G q y h1 u n m D,?_⟩;unfold tO;split
 .exact .bad G ⟨by simp,by simp⟩
 .rename_i E
  split
  .exact .bad G ⟨by simp,by simp⟩
  .split
   .exact .bad G ⟨by simp,by simp⟩
   .have c:∀k∈refs,0<=k/\k<S.bB.length:=by
     intro k p;refine⟨(n k p).1,?_⟩;rcases a20 k S.bB.length with h|h
     .exact h
     .exact absurd (a1n.2 ⟨k,p,by simpa using h⟩) E
    have j:=vW (t:=a) (ws:=refs.map (jC S dst));rw[a0z]at j;generalize fG a (refs.map (jC S dst))=w at *;obtain⟨sh,f⟩:=w;dsimp only at j |-;split
    .exact .bad G ⟨by omega,by omega⟩
    .rename_i L
     rcases j with⟨-,J,I,l,o,A⟩|⟨F,-⟩;rotate_left
     .omega
     obtain⟨K,e1⟩:=IA G q refs sh S 0 (.refl G.toStOk) c (fun v z=>by have:=o v z;omega) l;generalize hZ S S refs sh 0=r at *;obtain⟨T,all,f2⟩:=r;dsimp only at K e1 |-;split
     .exact .bad G e1
     .have B:refs.headD 0∈refs:=by cases refs with|nil=>simp at h1|cons x t=>simp
      have s:=c _ B;have C:=LD.To s.1 s.2;obtain⟨e,d,-⟩:=G.II _ (a0a C);dsimp only at e d;have x:Ix T (S.rc (refs.headD 0)).aU (S.rc (refs.headD 0)).item:=K.ix ⟨e.1,e.2,d.1,d.2⟩;obtain⟨g,f4,H⟩:=eX K.ok x [⟨0,all⟩,⟨9,a-all⟩,⟨2,-a⟩];generalize dS T (S.rc (refs.headD 0)).aU [⟨0,all⟩,⟨9,a-all⟩,⟨2,-a⟩]=b at *;obtain⟨N,M⟩:=b;dsimp only at g f4 |-;split
      .exact .bad G f4
      .exact .ok (K.trans g) ((K.trans g).gn G) rfl rfl rfl rfl rfl rfl
end
section
open Mc
variable {α:Type}
structure LeA (x y:AV):Prop where
 rd:∀A w v,@eE dK dN A w x v->@eE dK dN A w y v
 one:x.one=true->y.one=true
inductive LeL:List AV->List AV->Prop
 |nil:LeL [] []
 |cons {x y:AV} {a b:List AV} (h:LeA x y) (t:LeL a b):LeL (x::a) (y::b)
def LeA.refl (x:AV):LeA x x:=⟨fun _ _ _ h=>h,fun h=>h⟩
def LeL.refl:∀(l:List AV),LeL l l
 |[]=>.nil
 |x::l=>.cons (.refl x) (.refl l)
def LeA.emp (s:Nat):LeA .emp (.lit s []):=⟨fun _ _ _ h=>by cases h;exact @eE.nR dK dN _ _ s _ 0 (a0j _),fun _=>rfl⟩
def LeL.get:∀{a b:List AV},LeL a b->a.length=b.length/\∀(j:Nat) (y:AV),b[j]?=some y->∃x,a[j]?=some x/\LeA x y
 |_,_,.nil=>⟨rfl,fun j y h=>by simp at h⟩
 |_,_,.cons h t=>by
  obtain⟨e,d⟩:=t.get;refine⟨by simp[e],fun j y c=>?_⟩
  cases j with
  |zero=>simp at c;subst c;exact⟨_,rfl,h⟩
  |succ j=>simp at c;simpa using d j y c
def LeA.agg {a b:List AV} (h:LeL a b):LeA (.agg a) (.agg b):=by
 obtain⟨k,d⟩:=h.get;refine⟨fun A w v e=>?_,fun h=>by cases h⟩
 cases e with
 |agg _ vs f j g =>
  refine @eE.agg dK dN _ _ _ vs (by rw[f,k]) ?_ ?_
  .intro i y c
   obtain⟨x,g1,g2⟩:=d i y c;exact g2.one (j i x g1)
  .intro i y c
   obtain⟨x,g1,g2⟩:=d i y c;exact g2.rd _ _ _ (g i x g1)
def LeA.bG {a b:List AV} (h:LeL a b):LeA (.bG a) (.bG b):=by
 obtain⟨j,g⟩:=h.get;refine⟨fun A w v d=>?_,fun h=>by cases h⟩
 cases d with
 |bG _ vs e f =>
  refine @eE.bG dK dN _ _ _ vs (by rw[e,j]) ?_;intro i y c;obtain⟨x,g1,g2⟩:=g i y c;exact g2.rd _ _ _ (f i x g1)
def LeA.set {s:Nat} {l:List (List AV)} {k:Nat} {r r':List AV} (h:LeL r r'):LeA (.lit s (l.set k r)) (.lit s (l.set k r')):=by
 obtain⟨I,H⟩:=h.get;have row:∀(i:Nat) (d:List AV),(l.set k r')[i]?=some d->∃e,(l.set k r)[i]?=some e/\LeL e d:=by
  intro i d b;rw[a0r]at b |-;split
  .rename_i f
   rw[if_pos f]at b;split
   .rename_i n
    rw[if_pos n]at b;cases b;exact⟨_,rfl,h⟩
   .rename_i n
    rw[if_neg n]at b;cases b
  .rename_i f
   rw[if_neg f]at b;exact⟨_,b,.refl _⟩
 have c:∀(i j:Nat) (y:AV),iE (l.set k r') i j=some y->∃x,iE (l.set k r) i j=some x/\LeA x y:=by
  intro i j y a;unfold iE at a |-;cases g:(l.set k r')[i]? with
  |none=>rw[g]at a;cases a
  |some e =>
   rw[g]at a;obtain⟨d,g1,g2⟩:=row i e g;obtain⟨x,q,p⟩:=g2.get.2 j y a;exact⟨x,by rw[g1];exact q,p⟩
 refine⟨fun A w v u=>?_,fun _=>rfl⟩;have m:(l.set k r).length=(l.set k r').length:=by simp
 generalize l.set k r=z at *;cases u with
 |lit _ _ G off cap vs D g C o F t E =>
  rw[m];refine @eE.lit dK dN _ _ s _ G off cap vs D g (by rw[<-m];exact C) ?_ ?_ ?_ ?_
  .intro e b
   obtain⟨i,f⟩:=a1j.1 b;obtain⟨d,g1,g2⟩:=row i e f;rw[<-g2.get.1];exact o d (a0a g1)
  .intro i j y a
   obtain⟨x,g1,g2⟩:=c i j y a;exact g2.one (F i j x g1)
  .intro i j y a
   obtain⟨x,g1,g2⟩:=c i j y a;exact t i j x g1
  .intro i j y a
   obtain⟨x,g1,g2⟩:=c i j y a;exact g2.rd _ _ _ (E i j x g1)
 |nR _ a0 cap B =>
  have e:l.set k r'=[]:=a14.1 (by rw[<-m];rfl);rw[e];exact @eE.nR dK dN _ _ s a0 cap B
def apj {P:Program} {k:FuncId} {xs:List AV} {r r':AV} (h:CK P k xs r) (d:LeA r r') (f:Cl r'):CK P k xs r':=by
 refine⟨h.args,f,?_⟩;intro A w vs j i a c;refine(h.ok A w vs j i a c).mono ?_;rintro e w' ⟨v,rfl,g,b⟩;exact⟨v,rfl,d.rd _ _ _ g,b⟩
def ak0 {k:FuncId} {xs:List AV} {S:bK} {e now:Int} {c:Bool} {P B R a D:List (List AV)} [lU P] [lU B] [lU R] [lU a] [lU D] (h:Ck k xs (.bG [S.setRow e [.i now,.c (.bool c),.lit 4 P,.lit 1 B,.lit 11 R,.lit 1 a,.lit 1 D,.emp],.i 0])):Ck k xs (.bG [S.setRow e (zO now c P B R a D []),.i 0]):=by
 refine apj h (.bG (.cons (.agg ?_) (.cons (.refl _) .nil))) (inferInstance:uD _).out;exact .cons (.refl _) (.cons (.refl _) (.cons (.refl _) (.cons (.refl _) (.cons (.refl _) (.cons (.set (.cons (.refl _) (.cons (.refl _) (.cons (.refl _) (.cons (.refl _) (.cons (.refl _) (.cons (.refl _) (.cons (.refl _) (.cons (.emp 8) .nil))))))))) (.refl _))))))
def sQ {xs:List Int} {z:List (List Int)} {p:Poly} (k:Nat) (b:cQ (fun i=>xs.getD i 0) p=k) (h:∀j,j<z.length->((z.getD j []).length=11)) (a:k<z.length:=by omega):(bM z)[(cQ (fun i=>xs.getD i 0) p).toNat]?=some [.i ((z.getD k []).getD 0 0),.i ((z.getD k []).getD 1 0),.i ((z.getD k []).getD 2 0),.i ((z.getD k []).getD 3 0),.i ((z.getD k []).getD 4 0),.i ((z.getD k []).getD 5 0),.i ((z.getD k []).getD 6 0),.i ((z.getD k []).getD 7 0),.i ((z.getD k []).getD 8 0),.i ((z.getD k []).getD 9 0),.i ((z.getD k []).getD 10 0)]:=by
 rw[b];have l:=h k a;have g:=getD_some (l:=z) (d:=[]) a;obtain⟨a0,t,a2,s,r,q,o,n,m,f,c,e⟩:=RN l;rw[e]at g |-;rw[bM,a0o,a0w,g];rfl
def ah2 {l:List α} (h:l.length=1):∃a0,l=[a0]:=by
 match l,h with
 |[a0],_=>exact⟨a0,rfl⟩
def jO {l:List α} (h:l.length=2):∃a0 a,l=[a0,a]:=by
 match l,h with
 |[a0,a],_=>exact⟨a0,a,rfl⟩
def jN {l:List α} (h:l.length=3):∃a0 a a2,l=[a0,a,a2]:=by
 match l,h with
 |[a0,a,a2],_=>exact⟨a0,a,a2,rfl⟩
def lE {l:List α} (h:l.length=4):∃a0 b a2 a,l=[a0,b,a2,a]:=by
 match l,h with
 |[a0,b,a2,a],_=>exact⟨a0,b,a2,a,rfl⟩
def ah1 {l:List α} (h:l.length=5):∃a0 c a2 b a,l=[a0,c,a2,b,a]:=by
 match l,h with
 |[a0,c,a2,b,a],_=>exact⟨a0,c,a2,b,a,rfl⟩
def lZ (v:Int):List Int:=[v,0,0,0,0,0,0,0,0,0,0]
def IM (S:bK) (e:Int):dL:=⟨⟨1+(S.aJ e).now,false,(S.aJ e).bH,(S.aJ e).cU,(List.range S.weights.length).map (fun i:Nat=>lZ (bZ S e i).1.v),(S.aJ e).aZ,(S.aJ e).down⟩,[]⟩
def IL (S:bK) (e:Int):bK×Int :=
 if(S.aJ e).closed=false then(S,8)else if S.bT<=(S.aJ e).now then(S,11)else(S.bJ e (IM S e),0)
section
variable {S:bK} {e:Int}
def ab9 (G:Gn S) (x:Ix S e 0) (hp:1<=S.bT/\S.bT<=12):Ck 39 [S.av,.i e] (.bG [(IL S e).1.av,.i (IL S e).2]):=by
 have h:=G.toStOk;have E:=h.zN x;have ac:=E.bl;have aa:=E.pr;have ab:=E.dl;have Xg:=E.pl;have L:=E.rl;have:=E.now;have:=x.e0;have:=x.e1;have:=h.hn;have:=h.hw;have:=x.i1;have p:=h.at_ x;have a:∀j,j<(S.aJ e).aM.length->((S.aJ e).aM.getD j []).length=11:=fun j hj=>(E.rr _ (dR hj)).1;have f:∀i:Int,0<=i->i<S.weights.length->Ck 52 [S.av,.i e,.i i] (bZ S e i).1.av:=fun i h0 h1=>uX h ⟨x.e0,x.e1,h0,h1⟩;unfold IL;obtain⟨cl,V⟩:∃cl,cl=(S.aJ e).closed:=⟨_,rfl⟩;have p:S.aD[e.toNat]?=some ⟨⟨(S.aJ e).now,cl,(S.aJ e).bH,(S.aJ e).cU,(S.aJ e).aM,(S.aJ e).aZ,(S.aJ e).down⟩,(S.aJ e).ahead⟩:=by rw[V];exact p
 rw[<-V];cases cl with
 |false=>rw[if_pos rfl];exact cw _ (ev1 { vars:=Kde,facts:=[KeB],lens:=KgQ,gI:=[(0,[([1],1)],[.v 3,Kgb,.q 4 7,.q 1 8,.q 11 9,.q 1 10,.q 1 11,.q 8 12])] } [S.bT,e,(S.aD.length:Int),(S.aJ e).now] (vT S []) (sT S [bP (S.aJ e).bH,aA (S.aJ e).cU,bM (S.aJ e).aM,aA (S.aJ e).aZ,aA (S.aJ e).down,bW (S.aJ e).ahead]) (.d (aE p) .nil)) Y7 (.bG [VD,.i 8]) kn
 |true =>
  rw[if_neg (by simp)];by_cases X:S.bT<=(S.aJ e).now
  .rw[if_pos X];exact cw _ (ev1 { vars:=Kde,facts:=[KeB,([([0],1),([3],-1)],-200,0)],lens:=KgQ,gI:=[Yx] } [S.bT,e,(S.aD.length:Int),(S.aJ e).now] (vT S []) (sT S [bP (S.aJ e).bH,aA (S.aJ e).cU,bM (S.aJ e).aM,aA (S.aJ e).aZ,aA (S.aJ e).down,bW (S.aJ e).ahead]) (.d (aE p) .nil)) Y7 (.bG [VD,.i 11]) kn
  rw[if_neg X];have Y:(S.bJ e (IM S e)).av=S.setRow e (zO (1+(S.aJ e).now) false (bP (S.aJ e).bH) (aA (S.aJ e).cU) (bM ((List.range S.weights.length).map (fun i:Nat=>lZ (bZ S e i).1.v))) (aA (S.aJ e).aZ) (aA (S.aJ e).down) []):=by
   rw[bK.nY];rfl
  rw[Y];apply ak0;unfold dL.rL at *;rcases(by omega:S.weights.length=1\/S.weights.length=2\/S.weights.length=3\/S.weights.length=4\/S.weights.length=5)with n|n|n|n|n
  .have m:=f 0 (by omega) (by omega)
   have b:bM ((List.range S.weights.length).map (fun i:Nat=>lZ (bZ S e i).1.v))=(bM (S.aJ e).aM).set 0 (jF (lZ (bZ S e 0).1.v)):=by
    have c:=L.trans n;rw[n];generalize (S.aJ e).aM=z at c;obtain⟨N,rfl⟩:=ah2 c;rfl
   rw[b];clear f b;generalize (bZ S e 0).1=w at *;obtain⟨k,g,l⟩:=w;exact cw _ (ev1 { vars:=Kde,facts:=H6,lens:=[Kha,(7,[([],2)]),Khk,(9,[([],1)]),(10,[([],1)]),(11,[([],1)])],gI:=[Yx,(9,[],WW)],bR:=[(52,Yy,(.agg [.o 14,.o 15,.o 16]))] } [S.bT,e,(S.aD.length:Int),(S.aJ e).now] (vT S [.I (((S.aJ e).aM.getD 0 []).getD 0 0),.I (((S.aJ e).aM.getD 0 []).getD 1 0),.I (((S.aJ e).aM.getD 0 []).getD 2 0),.I (((S.aJ e).aM.getD 0 []).getD 3 0),.I (((S.aJ e).aM.getD 0 []).getD 4 0),.I (((S.aJ e).aM.getD 0 []).getD 5 0),.I (((S.aJ e).aM.getD 0 []).getD 6 0),.I (((S.aJ e).aM.getD 0 []).getD 7 0),.I (((S.aJ e).aM.getD 0 []).getD 8 0),.I (((S.aJ e).aM.getD 0 []).getD 9 0),.I (((S.aJ e).aM.getD 0 []).getD 10 0),.I k,.I g,.I l]) (sT S [bP (S.aJ e).bH,aA (S.aJ e).cU,bM (S.aJ e).aM,aA (S.aJ e).aZ,aA (S.aJ e).down,bW (S.aJ e).ahead]) (.d (aE p) (.d (sQ 0 rfl a) .nil))) Y7 (.bG [(.agg [.o 0,.v 0,.q 1 1,.q 1 2,.q 1 3,(.seq 8 0 [([([1],1)],[KfK,Kgb,.q 4 7,.q 1 8,(.seq 11 9 [([],[.o 15,.i 0,.i 0,.i 0,.i 0,.i 0,.i 0,.i 0,.i 0,.i 0,.i 0])] []),.q 1 10,.q 1 11,.emp])] []),.q 8 4,.q 9 5,.q 6 6,.o 2]),.i 0]) (kc m kn)
  .have m:=f 0 (by omega) (by omega)
   have u:=f 1 (by omega) (by omega)
   have b:bM ((List.range S.weights.length).map (fun i:Nat=>lZ (bZ S e i).1.v))=((bM (S.aJ e).aM).set 0 (jF (lZ (bZ S e 0).1.v))).set 1 (jF (lZ (bZ S e 1).1.v)):=by
    have c:=L.trans n;rw[n];generalize (S.aJ e).aM=z at c;obtain⟨N,O,rfl⟩:=jO c;rfl
   rw[b];clear f b;generalize (bZ S e 0).1=w at *;obtain⟨k,g,l⟩:=w;generalize (bZ S e 1).1=D at *;obtain⟨s,r,t⟩:=D;exact cw _ (ev1 { vars:=Kde,facts:=H6,lens:=[Kha,(7,[([],4)]),Khk,(9,[([],2)]),(10,[([],2)]),(11,[([],2)])],gI:=[Yx,(9,[],WW),YP],bR:=[(52,Yy,(.agg [.o 25,.o 26,.o 27])),(52,Yz,(.agg [.o 28,.o 29,.o 30]))] } [S.bT,e,(S.aD.length:Int),(S.aJ e).now] (vT S [.I (((S.aJ e).aM.getD 0 []).getD 0 0),.I (((S.aJ e).aM.getD 0 []).getD 1 0),.I (((S.aJ e).aM.getD 0 []).getD 2 0),.I (((S.aJ e).aM.getD 0 []).getD 3 0),.I (((S.aJ e).aM.getD 0 []).getD 4 0),.I (((S.aJ e).aM.getD 0 []).getD 5 0),.I (((S.aJ e).aM.getD 0 []).getD 6 0),.I (((S.aJ e).aM.getD 0 []).getD 7 0),.I (((S.aJ e).aM.getD 0 []).getD 8 0),.I (((S.aJ e).aM.getD 0 []).getD 9 0),.I (((S.aJ e).aM.getD 0 []).getD 10 0),.I (((S.aJ e).aM.getD 1 []).getD 0 0),.I (((S.aJ e).aM.getD 1 []).getD 1 0),.I (((S.aJ e).aM.getD 1 []).getD 2 0),.I (((S.aJ e).aM.getD 1 []).getD 3 0),.I (((S.aJ e).aM.getD 1 []).getD 4 0),.I (((S.aJ e).aM.getD 1 []).getD 5 0),.I (((S.aJ e).aM.getD 1 []).getD 6 0),.I (((S.aJ e).aM.getD 1 []).getD 7 0),.I (((S.aJ e).aM.getD 1 []).getD 8 0),.I (((S.aJ e).aM.getD 1 []).getD 9 0),.I (((S.aJ e).aM.getD 1 []).getD 10 0),.I k,.I g,.I l,.I s,.I r,.I t]) (sT S [bP (S.aJ e).bH,aA (S.aJ e).cU,bM (S.aJ e).aM,aA (S.aJ e).aZ,aA (S.aJ e).down,bW (S.aJ e).ahead]) (.d (aE p) (.d (sQ 0 rfl a) (.d (sQ 1 rfl a) .nil)))) Y7 (.bG [(.agg [.o 0,.v 0,.q 1 1,.q 1 2,.q 1 3,(.seq 8 0 [([([1],1)],[KfK,Kgb,.q 4 7,.q 1 8,(.seq 11 9 [([],[.o 26,.i 0,.i 0,.i 0,.i 0,.i 0,.i 0,.i 0,.i 0,.i 0,.i 0]),([([],1)],[.o 29,.i 0,.i 0,.i 0,.i 0,.i 0,.i 0,.i 0,.i 0,.i 0,.i 0])] []),.q 1 10,.q 1 11,.emp])] []),.q 8 4,.q 9 5,.q 6 6,.o 2]),.i 0]) (kc m (kc u kn))
  .have m:=f 0 (by omega) (by omega)
   have u:=f 1 (by omega) (by omega);have C:=f 2 (by omega) (by omega)
   have b:bM ((List.range S.weights.length).map (fun i:Nat=>lZ (bZ S e i).1.v))=(((bM (S.aJ e).aM).set 0 (jF (lZ (bZ S e 0).1.v))).set 1 (jF (lZ (bZ S e 1).1.v))).set 2 (jF (lZ (bZ S e 2).1.v)):=by
    have c:=L.trans n;rw[n];generalize (S.aJ e).aM=z at c;obtain⟨N,O,Q,rfl⟩:=jN c;rfl
   rw[b];clear f b;generalize (bZ S e 0).1=w at *;obtain⟨k,g,l⟩:=w;generalize (bZ S e 1).1=D at *;obtain⟨s,r,t⟩:=D;generalize (bZ S e 2).1=M at *;obtain⟨A,y,B⟩:=M;exact cw _ (ev1 { vars:=Kde,facts:=H6,lens:=[Kha,(7,[([],6)]),Khk,(9,[([],3)]),(10,[([],3)]),(11,[([],3)])],gI:=[Yx,(9,[],WW),YP,YQ],bR:=[(52,Yy,(.agg [.o 36,.o 37,.o 38])),(52,Yz,(.agg [.o 39,.o 40,.o 41])),(52,YA,(.agg [.o 42,.o 43,.o 44]))] } [S.bT,e,(S.aD.length:Int),(S.aJ e).now] (vT S [.I (((S.aJ e).aM.getD 0 []).getD 0 0),.I (((S.aJ e).aM.getD 0 []).getD 1 0),.I (((S.aJ e).aM.getD 0 []).getD 2 0),.I (((S.aJ e).aM.getD 0 []).getD 3 0),.I (((S.aJ e).aM.getD 0 []).getD 4 0),.I (((S.aJ e).aM.getD 0 []).getD 5 0),.I (((S.aJ e).aM.getD 0 []).getD 6 0),.I (((S.aJ e).aM.getD 0 []).getD 7 0),.I (((S.aJ e).aM.getD 0 []).getD 8 0),.I (((S.aJ e).aM.getD 0 []).getD 9 0),.I (((S.aJ e).aM.getD 0 []).getD 10 0),.I (((S.aJ e).aM.getD 1 []).getD 0 0),.I (((S.aJ e).aM.getD 1 []).getD 1 0),.I (((S.aJ e).aM.getD 1 []).getD 2 0),.I (((S.aJ e).aM.getD 1 []).getD 3 0),.I (((S.aJ e).aM.getD 1 []).getD 4 0),.I (((S.aJ e).aM.getD 1 []).getD 5 0),.I (((S.aJ e).aM.getD 1 []).getD 6 0),.I (((S.aJ e).aM.getD 1 []).getD 7 0),.I (((S.aJ e).aM.getD 1 []).getD 8 0),.I (((S.aJ e).aM.getD 1 []).getD 9 0),.I (((S.aJ e).aM.getD 1 []).getD 10 0),.I (((S.aJ e).aM.getD 2 []).getD 0 0),.I (((S.aJ e).aM.getD 2 []).getD 1 0),.I (((S.aJ e).aM.getD 2 []).getD 2 0),.I (((S.aJ e).aM.getD 2 []).getD 3 0),.I (((S.aJ e).aM.getD 2 []).getD 4 0),.I (((S.aJ e).aM.getD 2 []).getD 5 0),.I (((S.aJ e).aM.getD 2 []).getD 6 0),.I (((S.aJ e).aM.getD 2 []).getD 7 0),.I (((S.aJ e).aM.getD 2 []).getD 8 0),.I (((S.aJ e).aM.getD 2 []).getD 9 0),.I (((S.aJ e).aM.getD 2 []).getD 10 0),.I k,.I g,.I l,.I s,.I r,.I t,.I A,.I y,.I B]) (sT S [bP (S.aJ e).bH,aA (S.aJ e).cU,bM (S.aJ e).aM,aA (S.aJ e).aZ,aA (S.aJ e).down,bW (S.aJ e).ahead]) (.d (aE p) (.d (sQ 0 rfl a) (.d (sQ 1 rfl a) (.d (sQ 2 rfl a) .nil))))) Y7 (.bG [(.agg [.o 0,.v 0,.q 1 1,.q 1 2,.q 1 3,(.seq 8 0 [([([1],1)],[KfK,Kgb,.q 4 7,.q 1 8,(.seq 11 9 [([],[.o 37,.i 0,.i 0,.i 0,.i 0,.i 0,.i 0,.i 0,.i 0,.i 0,.i 0]),([([],1)],[.o 40,.i 0,.i 0,.i 0,.i 0,.i 0,.i 0,.i 0,.i 0,.i 0,.i 0]),([([],2)],[.o 43,.i 0,.i 0,.i 0,.i 0,.i 0,.i 0,.i 0,.i 0,.i 0,.i 0])] []),.q 1 10,.q 1 11,.emp])] []),.q 8 4,.q 9 5,.q 6 6,.o 2]),.i 0]) (kc m (kc u (kc C kn)))
  .have m:=f 0 (by omega) (by omega)
   have u:=f 1 (by omega) (by omega);have C:=f 2 (by omega) (by omega);have K:=f 3 (by omega) (by omega)
   have b:bM ((List.range S.weights.length).map (fun i:Nat=>lZ (bZ S e i).1.v))=((((bM (S.aJ e).aM).set 0 (jF (lZ (bZ S e 0).1.v))).set 1 (jF (lZ (bZ S e 1).1.v))).set 2 (jF (lZ (bZ S e 2).1.v))).set 3 (jF (lZ (bZ S e 3).1.v)):=by
    have c:=L.trans n;rw[n];generalize (S.aJ e).aM=z at c;obtain⟨N,O,Q,Z,rfl⟩:=lE c;rfl
   rw[b];clear f b;generalize (bZ S e 0).1=w at *;obtain⟨k,g,l⟩:=w;generalize (bZ S e 1).1=D at *;obtain⟨s,r,t⟩:=D;generalize (bZ S e 2).1=M at *;obtain⟨A,y,B⟩:=M;generalize (bZ S e 3).1=P at *;obtain⟨H,F,J⟩:=P;exact cw _ (ev1 { vars:=Kde,facts:=H6,lens:=[Kha,(7,[([],8)]),Khk,(9,[([],4)]),(10,[([],4)]),(11,[([],4)])],gI:=[Yx,(9,[],WW),YP,YQ,YR],bR:=[(52,Yy,(.agg [.o 47,.o 48,.o 49])),(52,Yz,(.agg [.o 50,.o 51,.o 52])),(52,YA,(.agg [.o 53,.o 54,.o 55])),(52,YB,(.agg [.o 56,.o 57,.o 58]))] } [S.bT,e,(S.aD.length:Int),(S.aJ e).now] (vT S [.I (((S.aJ e).aM.getD 0 []).getD 0 0),.I (((S.aJ e).aM.getD 0 []).getD 1 0),.I (((S.aJ e).aM.getD 0 []).getD 2 0),.I (((S.aJ e).aM.getD 0 []).getD 3 0),.I (((S.aJ e).aM.getD 0 []).getD 4 0),.I (((S.aJ e).aM.getD 0 []).getD 5 0),.I (((S.aJ e).aM.getD 0 []).getD 6 0),.I (((S.aJ e).aM.getD 0 []).getD 7 0),.I (((S.aJ e).aM.getD 0 []).getD 8 0),.I (((S.aJ e).aM.getD 0 []).getD 9 0),.I (((S.aJ e).aM.getD 0 []).getD 10 0),.I (((S.aJ e).aM.getD 1 []).getD 0 0),.I (((S.aJ e).aM.getD 1 []).getD 1 0),.I (((S.aJ e).aM.getD 1 []).getD 2 0),.I (((S.aJ e).aM.getD 1 []).getD 3 0),.I (((S.aJ e).aM.getD 1 []).getD 4 0),.I (((S.aJ e).aM.getD 1 []).getD 5 0),.I (((S.aJ e).aM.getD 1 []).getD 6 0),.I (((S.aJ e).aM.getD 1 []).getD 7 0),.I (((S.aJ e).aM.getD 1 []).getD 8 0),.I (((S.aJ e).aM.getD 1 []).getD 9 0),.I (((S.aJ e).aM.getD 1 []).getD 10 0),.I (((S.aJ e).aM.getD 2 []).getD 0 0),.I (((S.aJ e).aM.getD 2 []).getD 1 0),.I (((S.aJ e).aM.getD 2 []).getD 2 0),.I (((S.aJ e).aM.getD 2 []).getD 3 0),.I (((S.aJ e).aM.getD 2 []).getD 4 0),.I (((S.aJ e).aM.getD 2 []).getD 5 0),.I (((S.aJ e).aM.getD 2 []).getD 6 0),.I (((S.aJ e).aM.getD 2 []).getD 7 0),.I (((S.aJ e).aM.getD 2 []).getD 8 0),.I (((S.aJ e).aM.getD 2 []).getD 9 0),.I (((S.aJ e).aM.getD 2 []).getD 10 0),.I (((S.aJ e).aM.getD 3 []).getD 0 0),.I (((S.aJ e).aM.getD 3 []).getD 1 0),.I (((S.aJ e).aM.getD 3 []).getD 2 0),.I (((S.aJ e).aM.getD 3 []).getD 3 0),.I (((S.aJ e).aM.getD 3 []).getD 4 0),.I (((S.aJ e).aM.getD 3 []).getD 5 0),.I (((S.aJ e).aM.getD 3 []).getD 6 0),.I (((S.aJ e).aM.getD 3 []).getD 7 0),.I (((S.aJ e).aM.getD 3 []).getD 8 0),.I (((S.aJ e).aM.getD 3 []).getD 9 0),.I (((S.aJ e).aM.getD 3 []).getD 10 0),.I k,.I g,.I l,.I s,.I r,.I t,.I A,.I y,.I B,.I H,.I F,.I J]) (sT S [bP (S.aJ e).bH,aA (S.aJ e).cU,bM (S.aJ e).aM,aA (S.aJ e).aZ,aA (S.aJ e).down,bW (S.aJ e).ahead]) (.d (aE p) (.d (sQ 0 rfl a) (.d (sQ 1 rfl a) (.d (sQ 2 rfl a) (.d (sQ 3 rfl a) .nil)))))) Y7 (.bG [(.agg [.o 0,.v 0,.q 1 1,.q 1 2,.q 1 3,(.seq 8 0 [([([1],1)],[KfK,Kgb,.q 4 7,.q 1 8,(.seq 11 9 [([],[.o 48,.i 0,.i 0,.i 0,.i 0,.i 0,.i 0,.i 0,.i 0,.i 0,.i 0]),([([],1)],[.o 51,.i 0,.i 0,.i 0,.i 0,.i 0,.i 0,.i 0,.i 0,.i 0,.i 0]),([([],2)],[.o 54,.i 0,.i 0,.i 0,.i 0,.i 0,.i 0,.i 0,.i 0,.i 0,.i 0]),([([],3)],[.o 57,.i 0,.i 0,.i 0,.i 0,.i 0,.i 0,.i 0,.i 0,.i 0,.i 0])] []),.q 1 10,.q 1 11,.emp])] []),.q 8 4,.q 9 5,.q 6 6,.o 2]),.i 0]) (kc m (kc u (kc C (kc K kn))))
  .have m:=f 0 (by omega) (by omega)
   have u:=f 1 (by omega) (by omega);have C:=f 2 (by omega) (by omega);have K:=f 3 (by omega) (by omega);have W:=f 4 (by omega) (by omega)
   have b:bM ((List.range S.weights.length).map (fun i:Nat=>lZ (bZ S e i).1.v))=(((((bM (S.aJ e).aM).set 0 (jF (lZ (bZ S e 0).1.v))).set 1 (jF (lZ (bZ S e 1).1.v))).set 2 (jF (lZ (bZ S e 2).1.v))).set 3 (jF (lZ (bZ S e 3).1.v))).set 4 (jF (lZ (bZ S e 4).1.v)):=by
    have c:=L.trans n;rw[n];generalize (S.aJ e).aM=z at c;obtain⟨N,O,Q,Z,z4,rfl⟩:=ah1 c;rfl
   rw[b];clear f b;generalize (bZ S e 0).1=w at *;obtain⟨k,g,l⟩:=w;generalize (bZ S e 1).1=D at *;obtain⟨s,r,t⟩:=D;generalize (bZ S e 2).1=M at *;obtain⟨A,y,B⟩:=M;generalize (bZ S e 3).1=P at *;obtain⟨H,F,J⟩:=P;generalize (bZ S e 4).1=W4 at *;obtain⟨T,R,U⟩:=W4;exact cw _ (ev1 { vars:=Kde,facts:=H6,lens:=[Kha,(7,[([],10)]),Khk,(9,[([],5)]),(10,[([],5)]),(11,[([],5)])],gI:=[Yx,(9,[],WW),YP,YQ,YR,(9,[([],4)],[.o 47,.o 48,.o 49,.o 50,.o 51,.o 52,.o 53,.o 54,.o 55,.o 56,.o 57])],bR:=[(52,Yy,(.agg [.o 58,.o 59,.o 60])),(52,Yz,(.agg [.o 61,.o 62,.o 63])),(52,YA,(.agg [.o 64,.o 65,.o 66])),(52,YB,(.agg [.o 67,.o 68,.o 69])),(52,[VD,.v 1,.i 4],(.agg [.o 70,.o 71,.o 72]))] } [S.bT,e,(S.aD.length:Int),(S.aJ e).now] (vT S [.I (((S.aJ e).aM.getD 0 []).getD 0 0),.I (((S.aJ e).aM.getD 0 []).getD 1 0),.I (((S.aJ e).aM.getD 0 []).getD 2 0),.I (((S.aJ e).aM.getD 0 []).getD 3 0),.I (((S.aJ e).aM.getD 0 []).getD 4 0),.I (((S.aJ e).aM.getD 0 []).getD 5 0),.I (((S.aJ e).aM.getD 0 []).getD 6 0),.I (((S.aJ e).aM.getD 0 []).getD 7 0),.I (((S.aJ e).aM.getD 0 []).getD 8 0),.I (((S.aJ e).aM.getD 0 []).getD 9 0),.I (((S.aJ e).aM.getD 0 []).getD 10 0),.I (((S.aJ e).aM.getD 1 []).getD 0 0),.I (((S.aJ e).aM.getD 1 []).getD 1 0),.I (((S.aJ e).aM.getD 1 []).getD 2 0),.I (((S.aJ e).aM.getD 1 []).getD 3 0),.I (((S.aJ e).aM.getD 1 []).getD 4 0),.I (((S.aJ e).aM.getD 1 []).getD 5 0),.I (((S.aJ e).aM.getD 1 []).getD 6 0),.I (((S.aJ e).aM.getD 1 []).getD 7 0),.I (((S.aJ e).aM.getD 1 []).getD 8 0),.I (((S.aJ e).aM.getD 1 []).getD 9 0),.I (((S.aJ e).aM.getD 1 []).getD 10 0),.I (((S.aJ e).aM.getD 2 []).getD 0 0),.I (((S.aJ e).aM.getD 2 []).getD 1 0),.I (((S.aJ e).aM.getD 2 []).getD 2 0),.I (((S.aJ e).aM.getD 2 []).getD 3 0),.I (((S.aJ e).aM.getD 2 []).getD 4 0),.I (((S.aJ e).aM.getD 2 []).getD 5 0),.I (((S.aJ e).aM.getD 2 []).getD 6 0),.I (((S.aJ e).aM.getD 2 []).getD 7 0),.I (((S.aJ e).aM.getD 2 []).getD 8 0),.I (((S.aJ e).aM.getD 2 []).getD 9 0),.I (((S.aJ e).aM.getD 2 []).getD 10 0),.I (((S.aJ e).aM.getD 3 []).getD 0 0),.I (((S.aJ e).aM.getD 3 []).getD 1 0),.I (((S.aJ e).aM.getD 3 []).getD 2 0),.I (((S.aJ e).aM.getD 3 []).getD 3 0),.I (((S.aJ e).aM.getD 3 []).getD 4 0),.I (((S.aJ e).aM.getD 3 []).getD 5 0),.I (((S.aJ e).aM.getD 3 []).getD 6 0),.I (((S.aJ e).aM.getD 3 []).getD 7 0),.I (((S.aJ e).aM.getD 3 []).getD 8 0),.I (((S.aJ e).aM.getD 3 []).getD 9 0),.I (((S.aJ e).aM.getD 3 []).getD 10 0),.I (((S.aJ e).aM.getD 4 []).getD 0 0),.I (((S.aJ e).aM.getD 4 []).getD 1 0),.I (((S.aJ e).aM.getD 4 []).getD 2 0),.I (((S.aJ e).aM.getD 4 []).getD 3 0),.I (((S.aJ e).aM.getD 4 []).getD 4 0),.I (((S.aJ e).aM.getD 4 []).getD 5 0),.I (((S.aJ e).aM.getD 4 []).getD 6 0),.I (((S.aJ e).aM.getD 4 []).getD 7 0),.I (((S.aJ e).aM.getD 4 []).getD 8 0),.I (((S.aJ e).aM.getD 4 []).getD 9 0),.I (((S.aJ e).aM.getD 4 []).getD 10 0),.I k,.I g,.I l,.I s,.I r,.I t,.I A,.I y,.I B,.I H,.I F,.I J,.I T,.I R,.I U]) (sT S [bP (S.aJ e).bH,aA (S.aJ e).cU,bM (S.aJ e).aM,aA (S.aJ e).aZ,aA (S.aJ e).down,bW (S.aJ e).ahead]) (.d (aE p) (.d (sQ 0 rfl a) (.d (sQ 1 rfl a) (.d (sQ 2 rfl a) (.d (sQ 3 rfl a) (.d (sQ 4 rfl a) .nil))))))) Y7 (.bG [(.agg [.o 0,.v 0,.q 1 1,.q 1 2,.q 1 3,(.seq 8 0 [([([1],1)],[KfK,Kgb,.q 4 7,.q 1 8,(.seq 11 9 [([],[.o 59,.i 0,.i 0,.i 0,.i 0,.i 0,.i 0,.i 0,.i 0,.i 0,.i 0]),([([],1)],[.o 62,.i 0,.i 0,.i 0,.i 0,.i 0,.i 0,.i 0,.i 0,.i 0,.i 0]),([([],2)],[.o 65,.i 0,.i 0,.i 0,.i 0,.i 0,.i 0,.i 0,.i 0,.i 0,.i 0]),([([],3)],[.o 68,.i 0,.i 0,.i 0,.i 0,.i 0,.i 0,.i 0,.i 0,.i 0,.i 0]),([([],4)],[.o 71,.i 0,.i 0,.i 0,.i 0,.i 0,.i 0,.i 0,.i 0,.i 0,.i 0])] []),.q 1 10,.q 1 11,.emp])] []),.q 8 4,.q 9 5,.q 6 6,.o 2]),.i 0]) (kc m (kc u (kc C (kc K (kc W kn)))))
end
end
section
open Mc
def jE (e now:Int) (x:kU):kU:=if x.waits=true/\x.aU=e/\x.period=now then{ x with cost:=0,bY:=0 }else x
namespace RO
abbrev rF (e i:AV):List AV:=fr 90 [(1,e),(2,.ptr 10 0 0 0),(4,.ptr 10 3 0 0),(5,.i 0),(6,i)]
abbrev rB (S:bK) (E:List (List AV)) (c:List (List AV)):List Mc.dC:=[.cells 31 10 [[.i S.bU,.i S.bT,.lit 1 (aA S.weights),.lit 1 (bF S.methods),.lit 1 (bF S.cI),.own 76 8 1 0 S.aD.length,.lit 8 (hH S.bB),.own 137 9 2 0 S.aN.length,.lit 6 (fM S.aH),.i S.done]],.cells 76 8 E,.cells 137 9 c,.cells 31 10 H4]
noncomputable def body:Code:=(Tryz.f38).body.getD .skip
abbrev alZ (c:Code) (r:Option (RT Out)):Prop:=nV { vars:=Kf5,facts:=KdX,lens:=Bq,gI:=[(12,[],Wy),Yu] } c (KdM++List.replicate 88 .undef) [] [some 0,some 2,some 3,some 1] (rF (.v 1) (.i 0)) [Qs,(.sc 76 8 0 [([([1],1)],Wy)] [] [([0],1)]),(.sc 137 9 5 [] [] [([2],1)]),V3] r
noncomputable def alM:Option (RT Out):=uL { vars:=Kf5,facts:=KdX,lens:=Bq,gI:=[(12,[],Wy),Yu] } body (KdM++List.replicate 88 .undef:List AV).length (KdM++List.replicate 88 .undef) [] 0
def aoA:alZ body alM:=⟨rfl,by decide +kernel,by decide +kernel⟩
abbrev anx (o:Option (RT Out)):Prop:=iU { vars:=Kf5,lens:=Br } Tryz.f38 o 1 (rF (.v 1) (.v 2)) KJ ((.bG [(.agg [.o 0,.o 1,.q 1 1,.q 1 2,.q 1 3,.q 8 0,.q 8 4,.q 9 7,.q 6 6,.o 2]),.i 0]))
def walk (oA:Option (RT Out)) (O:alZ body oA) (C:dD { vars:=Da,facts:=[Kel,Kew],lens:=Br,gI:=[(7,[([3],1)],[.v 4,.o 3,.o 4,.o 5,.o 6,.o 7,.o 8,.v 5,Kgb]),U2] } (aW oA) (rF (.v 1) (.v 3)) KJ 0 [some 0,some 1,some 2,some 3] (rF (.v 1) KfK) KJ) (D:dD { vars:=Da,facts:=[Kel,(Kgk,-100,-1),Kew],lens:=Br,gI:=JB } (aW oA) (rF (.v 1) (.v 3)) KJ 0 [some 0,some 1,some 2,some 3] (rF (.v 1) KfK) KJ) (E:dD { vars:=Da,facts:=[Kel,(Kgk,1,100),Kew],lens:=Br,gI:=JB } (aW oA) (rF (.v 1) (.v 3)) KJ 0 [some 0,some 1,some 2,some 3] (rF (.v 1) KfK) KJ) (N:dD { vars:=Da,facts:=[Kel,(Kgk,0,0),([([5],-1),([6],1)],1,100),Kew],lens:=Br,gI:=JB } (aW oA) (rF (.v 1) (.v 3)) KJ 0 [some 0,some 1,some 2,some 3] (rF (.v 1) KfK) KJ) (K:dD { vars:=Da,facts:=[Kel,(Kgk,0,0),([([5],-1),([6],1)],0,0),Kew],lens:=Br,gI:=JB } (aW oA) (rF (.v 1) (.v 3)) KJ 0 [some 0,some 1,some 2,some 3] (rF (.v 1) KfK) [Qs,(.sc 76 8 0 [] [] [([0],1)]),(.sc 137 9 7 [([([3],1)],[.v 4,.o 3,.o 4,.o 5,.o 6,.i 0,.i 0,.v 5,Kgm])] [] [([2],1)]),V3]) (L:dD { vars:=Kf5,lens:=Br } (aW oA) (rF (.v 1) (.v 2)) KJ 3 [some 0,some 1,some 2,some 3] (rF (.v 1) (.v 2)) KJ) (M:anx oA) {S:bK} {e:Int} {x y:EntC}
  (he:0<=e/\e<S.aD.length) (Y:S.aD.length<=4) (h1:1<=S.aN.length) (V:S.aN.length<=40) (B:S.aD[e.toNat]?=some ⟨⟨x.now,true,x.bH,x.cU,x.aM,x.aZ,x.down⟩,[y]⟩)
  (T:1<=y.now/\y.now<=12) (hs:∀g∈S.aN,(0<=g.aU/\g.aU<S.aD.length)/\1<=g.period/\g.period<=12/\(g.aU=e->g.period<=y.now)) :
  Ck 38 [S.av,.i e] (.bG [({ S.bQ (S.aD.set e.toNat ⟨y,[]⟩)with aN:=S.aN.map (jE e y.now) }:bK).av,.i 0]):=by
 refine CK.fP Tryz.func38 (c:=body) (by kernel_rfl) (yO.out) (uD.out) fun A w0 a0=>?_;intro mm w a b;rw[Tryz.ntmps38]at b;refine O.go (ev1 _ [(S.aD.length:Int),e,(S.aN.length:Int)] (vT S [.I x.now,.I y.now,.bool y.closed]) (sT S [bP x.bH,aA x.cU,bM x.aM,aA x.aZ,aA x.down,bW [y],bP y.bH,aA y.cU,bM y.aM,aA y.aZ,aA y.down]) (.d (rfl) (.d (aE B) .nil))) (xK kn) b (fd:=rF (.i e) (.i 0)) (bd:=rB S ((bD S.aD).set e.toNat [.i y.now,.c (.bool y.closed),.lit 4 (bP y.bH),.lit 1 (aA y.cU),.lit 11 (bM y.aM),.lit 1 (aA y.aZ),.lit 1 (aA y.down),.lit 8 []]) (dX S.aN)) ?_;intro mm w a b;have G:(bD S.aD).set e.toNat [.i y.now,.c (.bool y.closed),.lit 4 (bP y.bH),.lit 1 (aA y.cU),.lit 11 (bM y.aM),.lit 1 (aA y.aZ),.lit 1 (aA y.down),.lit 8 []]=bD (S.aD.set e.toNat ⟨y,[]⟩):=by simp[bD,a06];rfl
 rw[G]at b;have U:(S.aD.set e.toNat ⟨y,[]⟩).length=S.aD.length:=by simp
 have s:(S.aD.set e.toNat ⟨y,[]⟩)[e.toNat]?=some ⟨⟨y.now,y.closed,y.bH,y.cU,y.aM,y.aZ,y.down⟩,[]⟩:=by rw[a3c (by omega)]
 show _;generalize S.aD.set e.toNat ⟨y,[]⟩=f at *;clear G B;refine cN (fun n a w=>∃(j:Nat) (c:List kU),n=S.aN.length-j/\j<=S.aN.length/\c=(S.aN.take j).map (jE e y.now)++S.aN.drop j/\∃mm,@dZ dK dN A w0 a0 mm w a (rF (.i e) (.i (j:Int))) (eB (rB S (bD f) (dX c)))) ?_ (n:=S.aN.length) ⟨0,S.aN,rfl,a0j _,rfl,_,b⟩;rintro n a w ⟨j,c,rfl,Z,q,mm,b⟩;have X:c.length=S.aN.length:=by rw[q];simp;omega
 rcases(by omega:j=S.aN.length\/j<S.aN.length)with rfl|t
 .have q:c=S.aN.map (jE e y.now):=by rw[q];simp
  rw[<-q];refine L.go (ev1 _ [(S.aD.length:Int),e,(S.aN.length:Int)] (vT S []) [bD f,aA S.weights,bF S.methods,bF S.cI,hH S.bB,dX S.aN,fM S.aH,dX c] .nil) (xK kn) b ?_;intro mm w a b;exact M.go (ev1 _ [(S.aD.length:Int),e,(S.aN.length:Int)] (vT S []) [bD f,aA S.weights,bF S.methods,bF S.cI,hH S.bB,dX S.aN,fM S.aH,dX c] .nil) (xK kn) b
 .obtain⟨g,m⟩:∃g,S.aN[j]?=some g:=⟨_,a0d t⟩
  have u:c[j]?=some g:=by
   rw[q,a1u (by simp;omega)];simp only[a0z,a2f];rw[show j-min j S.aN.length=0 by omega,a26,a2o];exact m
  obtain⟨b1,b2,b3,R⟩:=hs g (a0a m)
  have nx:∀k,k=jE e y.now g->c.set j k=(S.aN.take (j+1)).map (jE e y.now)++S.aN.drop (j+1):=by
   rintro k rfl;have Q:S.aN.drop j=g::S.aN.drop (j+1):=by rw[<-a2t t];congr 1;exact Option.some.inj (by rw[<-a0d t,m])
   rw[q,Q,a4u _ _ (by simp;omega)];simp only[a0z,a2f];rw[show j-min j S.aN.length=0 by omega,a4v,a0n,m];simp
  have z:c.set j g=c:=by
   apply a3w;intro i;rw[a0r];split
   .rename_i P
    subst P;rw[if_pos (by omega),u]
   .rfl
  have fin:∀k,k=jE e y.now g->∀mm w a,@dZ dK dN A w0 a0 mm w a (rF (.i e) (.i (1+(j:Int)))) (eB (rB S (bD f) (dX (c.set j k))))->∃n',n'<S.aN.length-j/\∃(r:Nat) (J:List kU),n'=S.aN.length-r/\r<=S.aN.length/\J=(S.aN.take r).map (jE e y.now)++S.aN.drop r/\∃mm,@dZ dK dN A w0 a0 mm w a (rF (.i e) (.i (r:Int))) (eB (rB S (bD f) (dX J))):=by
   intro k F mm w a b;rw[show(1+(j:Int))=((j+1:Nat):Int)by omega]at b;exact⟨_,by omega,j+1,c.set j k,rfl,by omega,nx k F,mm,b⟩
  cases l:g.waits with
  |false =>
   have p:c[(j:Int).toNat]?=some ⟨g.aU,g.item,g.loc,g.eU,g.back,g.cost,g.bY,g.period,false⟩:=by rw[<-l];exact u
   refine C.go (ev1 _ [(S.aD.length:Int),e,(S.aN.length:Int),(j:Int),g.aU,g.period,y.now] (vT S [.I g.item,.I g.loc,.I g.eU,.I g.back,.I g.cost,.I g.bY,.bool y.closed]) [bD f,aA S.weights,bF S.methods,bF S.cI,hH S.bB,dX S.aN,fM S.aH,dX c,bP y.bH,aA y.cU,bM y.aM,aA y.aZ,aA y.down] (.d (aV p) (.d (aE s) .nil))) (xK kn) b (fd:=rF (.i e) (.i (1+(j:Int)))) (bd:=rB S (bD f) (dX c)) ?_;intro mm w a b;rw[<-z]at b;exact fin g (by simp[jE,l]) mm w a b
  |true =>
   have p:c[(j:Int).toNat]?=some ⟨g.aU,g.item,g.loc,g.eU,g.back,g.cost,g.bY,g.period,true⟩:=by rw[<-l];exact u
   rcases(by omega:g.aU<e\/e<g.aU\/g.aU=e)with h|h|h
   .refine D.go (ev1 _ [(S.aD.length:Int),e,(S.aN.length:Int),(j:Int),g.aU,g.period,y.now] (vT S [.I g.item,.I g.loc,.I g.eU,.I g.back,.I g.cost,.I g.bY,.bool y.closed]) [bD f,aA S.weights,bF S.methods,bF S.cI,hH S.bB,dX S.aN,fM S.aH,dX c,bP y.bH,aA y.cU,bM y.aM,aA y.aZ,aA y.down] (.d (aV p) (.d (aE s) .nil))) (xK kn) b (fd:=rF (.i e) (.i (1+(j:Int)))) (bd:=rB S (bD f) (dX c)) ?_
    intro mm w a b;rw[<-z]at b;exact fin g (by simp[jE,l];intro h';omega) mm w a b
   .refine E.go (ev1 _ [(S.aD.length:Int),e,(S.aN.length:Int),(j:Int),g.aU,g.period,y.now] (vT S [.I g.item,.I g.loc,.I g.eU,.I g.back,.I g.cost,.I g.bY,.bool y.closed]) [bD f,aA S.weights,bF S.methods,bF S.cI,hH S.bB,dX S.aN,fM S.aH,dX c,bP y.bH,aA y.cU,bM y.aM,aA y.aZ,aA y.down] (.d (aV p) (.d (aE s) .nil))) (xK kn) b (fd:=rF (.i e) (.i (1+(j:Int)))) (bd:=rB S (bD f) (dX c)) ?_
    intro mm w a b;rw[<-z]at b;exact fin g (by simp[jE,l];intro h';omega) mm w a b
   .have:=R h
    rcases(by omega:g.period<y.now\/g.period=y.now)with H|H
    .refine N.go (ev1 _ [(S.aD.length:Int),e,(S.aN.length:Int),(j:Int),g.aU,g.period,y.now] (vT S [.I g.item,.I g.loc,.I g.eU,.I g.back,.I g.cost,.I g.bY,.bool y.closed]) [bD f,aA S.weights,bF S.methods,bF S.cI,hH S.bB,dX S.aN,fM S.aH,dX c,bP y.bH,aA y.cU,bM y.aM,aA y.aZ,aA y.down] (.d (aV p) (.d (aE s) .nil))) (xK kn) b (fd:=rF (.i e) (.i (1+(j:Int)))) (bd:=rB S (bD f) (dX c)) ?_
     intro mm w a b;rw[<-z]at b;exact fin g (by simp[jE,l];intro h' W;omega) mm w a b
    .refine K.go (ev1 _ [(S.aD.length:Int),e,(S.aN.length:Int),(j:Int),g.aU,g.period,y.now] (vT S [.I g.item,.I g.loc,.I g.eU,.I g.back,.I g.cost,.I g.bY,.bool y.closed]) [bD f,aA S.weights,bF S.methods,bF S.cI,hH S.bB,dX S.aN,fM S.aH,dX c,bP y.bH,aA y.cU,bM y.aM,aA y.aZ,aA y.down] (.d (aV p) (.d (aE s) .nil))) (xK kn) b (fd:=rF (.i e) (.i (1+(j:Int)))) (bd:=rB S (bD f) ((dX c).set j [.i g.aU,.i g.item,.i g.loc,.i g.eU,.i g.back,.i 0,.i 0,.i g.period,.c (.bool true)])) ?_
     intro mm w a b;refine fin { g with cost:=0,bY:=0 } (by simp[jE,l,h,H]) mm w a ?_;rw[show dX (c.set j { g with cost:=0,bY:=0 })=(dX c).set j [.i g.aU,.i g.item,.i g.loc,.i g.eU,.i g.back,.i 0,.i 0,.i g.period,.c (.bool true)]by simp[dX,a06,kU.row,l]];exact b
end RO
def uN (S:bK) (e:Int):bK×Int :=
 if(S.aJ e).closed=false then(S,8)else
 match (S.aJ e).ahead with
 |[y]=>({ S.bQ (S.aD.set e.toNat ⟨y,[]⟩)with aN:=S.aN.map (jE e y.now) },0)
 |_=>(S,0)
section
variable {S:bK} {e:Int}
def Sj (G:Gn S) (x:Ix S e 0):Ck 38 [S.av,.i e] (.bG [(uN S e).1.av,.i (uN S e).2]):=by
 have h:=G.toStOk;have E:=h.zN x;have:=E.now;have q:=x.e0;have p:=x.e1;have:=h.hn;have a:=h.at_ x;have b:=G.al _ (a0a a);have l:=G.pb;unfold uN;obtain⟨cl,j⟩:∃cl,cl=(S.aJ e).closed:=⟨_,rfl⟩;have a:S.aD[e.toNat]?=some ⟨⟨(S.aJ e).now,cl,(S.aJ e).bH,(S.aJ e).cU,(S.aJ e).aM,(S.aJ e).aZ,(S.aJ e).down⟩,(S.aJ e).ahead⟩:=by rw[j];exact a
 rw[<-j];unfold apF dL.sh at b;rw[<-j]at b;cases cl with
 |false=>rw[if_pos rfl];exact cw _ (ev1 { vars:=Khj,facts:=[(Kgd,1,4)],lens:=KgZ,gI:=[(0,[([0],1)],VM)] } [e,(S.aD.length:Int)] (vT S [.I (S.aJ e).now]) (sT S [bP (S.aJ e).bH,aA (S.aJ e).cU,bM (S.aJ e).aM,aA (S.aJ e).aZ,aA (S.aJ e).down,bW (S.aJ e).ahead]) (.d (aE a) .nil)) Kdx (.bG [KfT,.i 8]) kn
 |true =>
  rw[if_neg (by simp)];obtain⟨y,k⟩:∃y,(S.aJ e).ahead=[y]:=a3r.1 (by simpa using b.1);have f:=(b.2 y (by rw[k];simp)).1;dsimp only at f;rw[k]at a |-;dsimp only;by_cases t:S.aN.length=0
  .have hs:S.aN=[]:=a14.1 t
   have r:({ S.bQ (S.aD.set e.toNat ⟨y,[]⟩)with aN:=S.aN.map (jE e y.now) }:bK).av=.agg [.i S.bU,.i S.bT,.lit 1 (aA S.weights),.lit 1 (bF S.methods),.lit 1 (bF S.cI),.lit 8 ((bD S.aD).set e.toNat [.i y.now,.c (.bool y.closed),.lit 4 (bP y.bH),.lit 1 (aA y.cU),.lit 11 (bM y.aM),.lit 1 (aA y.aZ),.lit 1 (aA y.down),.lit 8 []]),.lit 8 (hH S.bB),.lit 9 (dX S.aN),.lit 6 (fM S.aH),.i S.done]:=by
    rw[hs,show(bD S.aD).set e.toNat [.i y.now,.c (.bool y.closed),.lit 4 (bP y.bH),.lit 1 (aA y.cU),.lit 11 (bM y.aM),.lit 1 (aA y.aZ),.lit 1 (aA y.down),.lit 8 []]=bD (S.aD.set e.toNat ⟨y,[]⟩)by simp[bD,a06];rfl];rfl
   rw[r];obtain⟨X,u⟩:∃X:EntC,X=(S.aJ e).toEntC:=⟨_,rfl⟩;exact cw _ (ev1 { vars:=Khj,facts:=[(Kgd,1,4)],lens:=[Khl,(5,[]),(12,[([],1)])],gI:=[(0,[([0],1)],VS),(12,[],Wy)] } [e,(S.aD.length:Int)] (vT S [.I (S.aJ e).now,.I y.now,.bool y.closed]) (sT S [bP (S.aJ e).bH,aA (S.aJ e).cU,bM (S.aJ e).aM,aA (S.aJ e).aZ,aA (S.aJ e).down,bW [y],bP y.bH,aA y.cU,bM y.aM,aA y.aZ,aA y.down]) (.d (aE a) (.d (rfl) .nil))) Kdx (.bG [(sN (.seq 8 0 [([([0],1)],Wy)] []) (.o 2)),.i 0]) kn
  .refine RO.walk RO.alM RO.aoA .of .of .of .of .of .of .of (x:=(S.aJ e).toEntC) (y:=y) ⟨q,p⟩ h.hn (by omega) G.OL a (by rw[f];exact E.now) ?_
   intro g n;obtain⟨b1,b2,b3,A,z,w,v,s⟩:=G.C8 g n;exact⟨b1,s.1,s.2,fun m=>by rw[f,<-m];exact l g n⟩
end
end
section
open Mc
variable {S T:bK} {item:Int}
def z58:qC 0:=⟨by simp,by simp⟩
def iX (l:List bV) (n:Int):List bV×bV:=if 0<n then((fU l n).1,(fU l n).2.1)else(l,.zero)
def C6 {l:List bV} {n:Int} (h:LR l):LR (iX l n).1/\(iX l n).1.length<=l.length/\(0<=(iX l n).2.v/\(iX l n).2.v<=288230376151711744)/\qC (iX l n).2.p:=by
 unfold iX;split
 .exact⟨nL h,En,TE h,adr h n⟩
 grind[bV.zero]
def qF (l:List bV) (d:tY):List bV×bV×bV×bV :=
 ((iX (iX (iX l d.a).1 d.b).1 d.c).1,(iX l d.a).2,(iX (iX l d.a).1 d.b).2,(iX (iX (iX l d.a).1 d.b).1 d.c).2)
def PY {l:List bV} {d:tY} (h:LR l):LR (qF l d).1/\(qF l d).1.length<=l.length/\((0<=(qF l d).2.1.v/\(qF l d).2.1.v<=288230376151711744)/\qC (qF l d).2.1.p)/\(0<=(qF l d).2.2.1.v/\(qF l d).2.2.1.v<=288230376151711744)/\(0<=(qF l d).2.2.2.v/\(qF l d).2.2.2.v<=288230376151711744):=by
 obtain⟨j,a2,i,g⟩:=C6 (n:=d.a) h;obtain⟨b1,b2,b3,o⟩:=C6 (n:=d.b) j;obtain⟨f,m,e,k⟩:=C6 (n:=d.c) b1;exact⟨f,by show(iX _ _).1.length<=_;omega,⟨i,g⟩,b3,e⟩
def dH (S:bK) (e item loc:Int) (x:kU):Bool:=x.waits&&decide (x.aU=e)&&decide (x.item=item)&&decide (x.loc=loc)&&decide (x.period=(S.aJ e).now)
def kU.nil:kU:=⟨0,0,0,0,0,0,0,0,false⟩
section
variable (P:kU->Bool) (l:List kU)
def AA:Nat->List Int
 |0=>[]
 |j+1=>AA j++(if P (l.getD j .nil)then[(j:Int)]else[])
def I8:Nat->List Int
 |0=>[]
 |j+1=>I8 j++(if P (l.getD j .nil)then[(l.getD j .nil).eU-(l.getD j .nil).back]else[])
def smN:Nat->Bool
 |0=>false
 |j+1=>smN j||(P (l.getD j .nil)&&decide ((l.getD j .nil).back<(l.getD j .nil).eU))
def EY (j:Nat):(AA P l j).length=(I8 P l j).length:=by
 induction j<;>grind[AA,I8]
def Sq (j:Nat):(AA P l j).length<=j:=by
 induction j<;>grind[AA]
def acj (j:Nat):∀k∈AA P l j,0<=k/\k<j:=by
 induction j<;>grind[AA]
def aav (j:Nat) (h:∀x∈l,0<=x.back/\x.back<=x.eU/\x.eU<=1073741824) (a:j<=l.length):∀k∈I8 P l j,0<=k/\k<=1073741824:=by
 induction j<;>grind[I8]
def Mb (j:Nat) (h:smN P l j=true):∃k∈I8 P l j,0<k:=by
 induction j with
 |zero=>cases h
 |succ j a =>
  simp only[smN,a1w,a0e,decide_eq_true_eq]at h;rcases h with h|⟨e,d⟩
  .obtain⟨k,c,b⟩:=a h
   exact⟨k,by simp_all[I8],b⟩
  simp_all[I8]
end
def iN (v:Int) (w:List Int):List Int×Int:=if 0<=v then fG v w else((fG (-v) w).1.map (fun x=>-x),(fG (-v) w).2)
def aab (c:Int) (l:List Int) (h:∀x∈l,0<=x/\x<=c):eR l<=c*l.length:=by
 induction l with
 |nil=>simp[eR]
 |cons x r a =>
  have:=a fun y b=>h y (by simp[b]);have:=h x (by simp);simp only[eR,a0t,a01,a0x]at *
  grind
def sM {t:Int} {w:List Int} (d:0<=t/\t<=288230376151711744) (b:∀k∈w,0<=k/\k<=1073741824) (e:w.length<=40) (hs:∃k∈w,0<k):(fG t w).2=0/\(fG t w).1.length=w.length/\∀x∈(fG t w).1,0<=x/\x<=t:=by
 have h:(fG t w).2=0:=by
  unfold fG;have g:rU t w=false:=by
   grind[rU,mG,CZ]
  have f:dW w=0:=(CY (by have:=aab 1073741824 w b;omega)).1
  simp_all
 rcases vW (t:=t) (ws:=w)with⟨_,_,_,a,c,_⟩|⟨a,_⟩<;>simp_all
def uJ {v:Int} {w:List Int} (f:qC v) (d:∀k∈w,0<=k/\k<=1073741824) (e:w.length<=40) (hs:∃k∈w,0<k):(iN v w).2=0/\(iN v w).1.length=w.length/\∀x∈(iN v w).1,qC x:=by
 unfold qC at *;unfold iN;split
 .obtain⟨a,b,c⟩:=sM (t:=v) ⟨by omega,by omega⟩ d e hs
  grind
 .obtain⟨a,b,c⟩:=sM (t:=-v) ⟨by omega,by omega⟩ d e hs
  grind
def mY (a c p:List Int) (l:List kU):Nat->List kU
 |0=>l
 |j+1=>(mY a c p l j).set (a.getD j 0).toNat { (mY a c p l j).getD (a.getD j 0).toNat .nil with cost:=c.getD j 0,bY:=p.getD j 0 }
theorem yX (a c p:List Int) (l:List kU) (j:Nat):(mY a c p l j).length=l.length:=by
 induction j<;>simp_all[mY]
def Tq (e c p:List Int) (l:List kU) (Q:kU->Prop) (h:∀x∈l,Q x) (r:∀x∈c,qC x) (n:∀x∈p,qC x) (s:∀x a b,Q x->qC a->qC b->Q { x with cost:=a,bY:=b }) (j:Nat) (q:∀k∈e,0<=k/\k<l.length) (t:j<=e.length):∀x∈mY e c p l j,Q x:=by
 induction j with
 |zero=>exact h
 |succ j g =>
  have g:=g (by omega);intro x i;simp only[mY]at i;have u:=q _ (dR (d:=0) (show j<e.length by omega))
  have f:∀(z:List Int),(∀x∈z,qC x)->qC (z.getD j 0):=by
   intro z m;by_cases o:j<z.length
   .exact m _ (dR o)
   grind
  rcases a05 i with i|rfl
  .simp_all
  .exact s _ _ _ (g _ (dR (by rw[yX];omega))) (f c r) (f p n)
def kH (S:bK) (e item loc:Int) (x:bV):bK :=
 if smN (dH S e item loc) S.aN S.aN.length=false then S else
 { S with aN:=mY (AA (dH S e item loc) S.aN S.aN.length) (iN x.v (I8 (dH S e item loc) S.aN S.aN.length)).1 (iN x.p (I8 (dH S e item loc) S.aN S.aN.length)).1 S.aN (AA (dH S e item loc) S.aN S.aN.length).length }
def iW (S:bK) (e item loc:Int):bK×Int :=
 if((S.aJ e).bE (2*item+loc)).p0+((S.aJ e).bE (2*item+loc)).p1+((S.aJ e).bE (2*item+loc)).p2=0 then(S,0)else
 match qF ((S.aJ e).bE (2*item+loc)).aX ((S.aJ e).bE (2*item+loc)).pn with
 |(l,⟨xq,xv,xp⟩,⟨h,b,i⟩,⟨d,a,g⟩) =>
 match dS (S.bJ e ((S.aJ e).bX (2*item+loc) ⟨l,0,0,0⟩)) e [⟨5,xv⟩,⟨7,b⟩,⟨8,a⟩,⟨0,-xv⟩,⟨0,-b⟩,⟨0,-a⟩]with
 |(S1,f)=>if f≠0 then(S,f)else
 match eC S1 e item [0,0,0,0,0,xv,0,0,b,a,0]with
 |(c,f)=>if f≠0 then(S,f)else(kH c e item loc ⟨xq,xv,xp⟩,0)
structure Sv (S T:bK):Prop where
 gn:Gn T
 sh:T.aD.map dL.sh=S.aD.map dL.sh
 le:T.aD.length=S.aD.length
 wt:T.weights=S.weights
 pe:T.bT=S.bT
 en:T.bU=S.bU
 me:T.methods=S.methods
 co:T.cI=S.cI
 dn:T.done=S.done
 rc:T.bB=S.bB
 tr:T.aH=S.aH
def Sv.refl {S:bK} (G:Gn S):Sv S S:=⟨G,rfl,rfl,rfl,rfl,rfl,rfl,rfl,rfl,rfl,rfl⟩
def Sv.trans {U:bK} (h:Sv S T) (g:Sv T U):Sv S U:=⟨g.gn,g.sh.trans h.sh,g.le.trans h.le,g.wt.trans h.wt,g.pe.trans h.pe,g.en.trans h.en,g.me.trans h.me,g.co.trans h.co,g.dn.trans h.dn,g.rc.trans h.rc,g.tr.trans h.tr⟩
def Kn.sv (k:Kn S T) (G:Gn S):Sv S T:=by
 have e:=k.eq;exact⟨k.gn G,k.sh,k.len,by rw[e];rfl,by rw[e];rfl,by rw[e];rfl,by rw[e];rfl,by rw[e];rfl,by rw[e];rfl,by rw[e];rfl,by rw[e];rfl⟩
def Sv.ix (h:Sv S T) {e:Int} (x:Ix S e item):Ix T e item:=⟨x.e0,by rw[h.le];exact x.e1,x.i0,by rw[h.wt];exact x.i1⟩
def Sv.shE (h:Sv S T) (e:Int):(T.aJ e).sh=(S.aJ e).sh:=by
 unfold bK.aJ;rw[EH,EH,h.sh]
def Sv.now (h:Sv S T) (e:Int):(T.aJ e).now=(S.aJ e).now:=congrArg Prod.fst (h.shE e)
def Sv.cX (h:Sv S T) (e i:Int):T.cX e i=S.cX e i:=by unfold bK.cX;rw[h.me]
def afc (G:Gn S) {e loc:Int} {x:bV} (c:(0<=x.v/\x.v<=288230376151711744)/\qC x.p):Sv S (kH S e item loc x):=by
 unfold kH;split
 .exact .refl G
 .rename_i hs
  have hs:smN (dH S e item loc) S.aN S.aN.length=true:=by simp_all
  have n:=G.OL;have g:=aav (dH S e item loc) S.aN S.aN.length (fun x c=>by obtain⟨_,_,_,m,l,_⟩:=G.C8 x c;omega) (a0h _);have r:=Sq (dH S e item loc) S.aN S.aN.length;have q:=EY (dH S e item loc) S.aN S.aN.length;have f:=acj (dH S e item loc) S.aN S.aN.length;have d:=Mb _ _ _ hs;obtain⟨-,-,k⟩:=uJ (v:=x.v) ⟨by omega,by omega⟩ g (by omega) d;obtain⟨-,-,p1⟩:=uJ (v:=x.p) c.2 g (by omega) d;generalize AA (dH S e item loc) S.aN S.aN.length=A at *;generalize I8 (dH S e item loc) S.aN S.aN.length=W at *;have h:=G.toStOk;refine⟨⟨⟨h.hn,h.hw,h.M7,h.Fg,h.wY,h.mE,h.mb,h.cb,h.aJ,h.ahead⟩,G.NU,by simp_all[yX],G.yP,G.II,?_,G.OA,G.d0,G.al,?_⟩,rfl,rfl,rfl,rfl,rfl,rfl,rfl,rfl,rfl,rfl⟩
  .exact Tq A _ _ _ (acw S.aD.length S.weights.length) G.C8 k p1 (fun x a b c j i=>by obtain⟨b1,b2,b3,m,l,t,s,o⟩:=c;exact⟨b1,b2,b3,m,l,j,i,o⟩) _ f (a0h _)
  .exact Tq A _ _ _ (fun x=>x.period<=(S.aJ x.aU).now) G.pb k p1 (fun x a b c j i=>c) _ f (a0h _)
def Ae (G:Gn S) {e loc:Int} (x:Ix S e item) (j:0<=loc) (i:loc<=1) (o:S.cX e item=3):Sv S (iW S e item loc).1/\gZ (iW S e item loc).2/\((iW S e item loc).2≠0->(iW S e item loc).1=S):=by
 have h:=G.toStOk;have k:=h.AS x j i;obtain⟨m,a2,t,C,B⟩:=PY (d:=((S.aJ e).bE (2*item+loc)).pn) k.lr;unfold iW;split
 .exact⟨.refl G,⟨by simp,by simp⟩,fun h=>absurd rfl h⟩
 .generalize qF ((S.aJ e).bE (2*item+loc)).aX ((S.aJ e).bE (2*item+loc)).pn=r at *
  obtain⟨l,⟨xq,xv,xp⟩,⟨z,b,A⟩,⟨w,a,y⟩⟩:=r;dsimp only at *;have q0:=gG m.ok;have c:l.length<=1:=by rcases k.one with q|q<;>omega
  have g:=jK h x j i (p:=⟨l,0,0,0⟩) ⟨m,.inr c,by show(0:Int)<=0;omega,by show(0:Int)<=0;omega,by show(0:Int)<=0;omega,by show(0:Int)+0+0<=qs l;omega,.inl o⟩;generalize S.bJ e ((S.aJ e).bX (2*item+loc) ⟨l,0,0,0⟩)=S0 at *;obtain⟨v,e1,-⟩:=eX g.ok (g.ix x) [⟨5,xv⟩,⟨7,b⟩,⟨8,a⟩,⟨0,-xv⟩,⟨0,-b⟩,⟨0,-a⟩];generalize dS S0 e [⟨5,xv⟩,⟨7,b⟩,⟨8,a⟩,⟨0,-xv⟩,⟨0,-b⟩,⟨0,-a⟩]=r at *;obtain⟨S1,f1⟩:=r;dsimp only at *;split
  .exact⟨.refl G,e1,fun _=>rfl⟩
  .have f:=g.trans v
   obtain⟨u,s,-⟩:=gN f.ok (f.ix x) (r:=[0,0,0,0,0,xv,0,0,b,a,0]) rfl;generalize eC S1 e item [0,0,0,0,0,xv,0,0,b,a,0]=r at *;obtain⟨D,f2⟩:=r;dsimp only at *;split
   .exact⟨.refl G,s,fun _=>rfl⟩
   .have n:=(f.trans u).sv G
    exact⟨n.trans (afc n.gn t),⟨by simp,by simp⟩,fun h=>absurd rfl h⟩
def kE (S:bK) (e item:Int):bK×Int :=
 match iW S e item 0 with
 |(T,f)=>if f≠0 then(S,f)else match iW T e item 1 with
 |(U,f)=>if f≠0 then(S,f)else(U,0)
def kL (e:Int):Nat->Nat->bK->bK×Int
 |0,_,T=>(T,0)
 |n+1,j,T=>if T.cX e (j:Int)=3 then(match kE T e (j:Int)with|(U,f)=>if f≠0 then(T,f)else kL e n (j+1) U)else kL e n (j+1) T
def Mi (G:Gn S) {e:Int} (x:Ix S e item) (b:S.cX e item=3):Sv S (kE S e item).1/\gZ (kE S e item).2:=by
 obtain⟨a,e1,-⟩:=Ae G x (loc:=0) (by omega) (by omega) b;unfold kE;generalize iW S e item 0=r at *;obtain⟨T,f⟩:=r;dsimp only at *;split
 .exact⟨.refl G,e1⟩
 .obtain⟨c,e2,-⟩:=Ae a.gn (a.ix x) (loc:=1) (by omega) (by omega) (by rw[a.cX];exact b)
  generalize iW T e item 1=r at *;obtain⟨U,f⟩:=r;dsimp only at *;split
  .exact⟨.refl G,e2⟩
  .exact⟨a.trans c,⟨by simp,by simp⟩⟩
def vC (v q p:Int):Int:=if v<0\/q<0\/p<0 then 0 else if v<=q*p then 0 else v-q*p
def ajB (v q p:Int) (a:v<=288230376151711744):0<=vC v q p/\vC v q p<=288230376151711744:=by
 unfold vC;split
 .omega
 .rename_i h
  have b:0<=q*p:=a0p (by omega) (by omega);omega
def bK.sV (S:bK) (e:Int) (i:Nat):Int:=(S.aJ e).aZ.getD i 0
def bK.down (S:bK) (e:Int) (i:Nat):Int:=(S.aJ e).down.getD i 0
def NZ (S:bK) (e:Int) (i:Nat):Int:=vC (bZ S e (i:Int)).1.v (bZ S e (i:Int)).1.q (S.sV e i)
def mR (S:bK) (e:Int):Nat->List dE
 |0=>[]
 |j+1=>mR S e j++(if 0<=S.sV e j then[⟨10,NZ S e j-S.down e j⟩,⟨11,-(NZ S e j-S.down e j)⟩]else[])
def nQ (S:bK) (e:Int):Nat->List Int
 |0=>(S.aJ e).down
 |j+1=>if 0<=S.sV e j then(nQ S e j).set j (NZ S e j)else nQ S e j
def Ls (l:List Int):qC (dJ l):=⟨(PR l).1,(PR l).2⟩
def Lq (S:bK) (e:Int) (i:Nat):0<=NZ S e i/\NZ S e i<=288230376151711744:=ajB _ _ _ (Ls _).2
def zE (S:bK) (e:Int) (n:Nat):(nQ S e n).length=(S.aJ e).down.length:=by
 induction n<;>grind[nQ]
def RH {e:Int} (h:∀v∈(S.aJ e).down,0<=v/\v<=M58) (n:Nat):∀v∈nQ S e n,0<=v/\v<=M58:=by
 induction n with
 |zero=>exact h
 |succ j b =>
  intro v a;simp only[nQ]at a;split at a
  .rcases a05 a with a|rfl
   .simp_all
   .exact Lq S e j
  simp_all
def ahU (S:bK) (e:Int) (n:Nat):(nQ S e n).getD n 0=S.down e n:=by
 have go:∀(k:Nat),k<=n->(nQ S e k).getD n 0=S.down e n:=by
  intro k;induction k with
  |zero=>intro _;rfl
  |succ j a =>
   grind[nQ]
 simp_all
def MW (S:bK) (e:Int) (n:Nat):(mR S e n).length<=2*n:=by
 induction n<;>grind[mR]
def akl {e:Int} (h:∀v∈(S.aJ e).down,0<=v/\v<=M58) (n:Nat):∀x∈mR S e n,(0<=x.a/\x.a<=100)/\(-4611686018427387904<=x.n/\x.n<=4611686018427387904):=by
 induction n with
 |zero=>simp_all[mR]
 |succ j c =>
  intro x b;simp only[mR,a0m]at b;rcases b with b|b
  .simp_all
  .have b1:=Lq S e j
   have b2:0<=S.down e j/\S.down e j<=288230376151711744:=by
    unfold bK.down;by_cases d:j<(S.aJ e).down.length<;>simp_all
   grind
def dL.Af (x:dL) (l:List Int):dL:={ x with down:=l }
def qL (S:bK) (e:Int):bK×Int :=
 match dS (S.bJ e ((S.aJ e).Af (nQ S e S.weights.length))) e (mR S e S.weights.length)with
 |(T,f)=>if f≠0 then(S,f)else(T,0)
def Sb (h:StOk S) {e:Int} (x:Ix S e item) {l:List Int} (a:l.length=(S.aJ e).down.length) (b:∀v∈l,0<=v/\v<=M58):Kn S (S.bJ e ((S.aJ e).Af l)):=by
 have E:=h.zN x;exact⟨Kin.bJ (h.bJ x.e0 ⟨E.pl,E.ok,E.bl,E.bb,E.rl,E.rr,E.pr,E.prb,by show l.length=_;rw[a];exact E.dl,b,E.now⟩ (h.ahead _ (a0a (h.at_ x)) _ (h.at_ x))),pO x rfl⟩
def Lz (G:Gn S) {e:Int} (x:Ix S e item):Kn S (qL S e).1/\gZ (qL S e).2:=by
 have h:=G.toStOk;have E:=h.zN x;have K:=Sb h x (zE S e S.weights.length) (RH E.db _);unfold qL;obtain⟨a,e1,-⟩:=eX K.ok (K.ix x) (mR S e S.weights.length);generalize dS (S.bJ e ((S.aJ e).Af (nQ S e S.weights.length))) e (mR S e S.weights.length)=r at *;obtain⟨T,f⟩:=r;dsimp only at *;split
 .exact⟨.refl h,e1⟩
 .exact⟨K.trans a,⟨by simp,by simp⟩⟩
def sG {e:Int}:∀(n j:Nat) (S:bK),Gn S->(0<=e/\e<S.aD.length)->n+j<=S.weights.length->Sv S (kL e n j S).1/\gZ (kL e n j S).2
 |0,_,S,G,_,_=>⟨.refl G,by show gZ 0;omega⟩
 |n+1,j,S,G,a,g=>by
  unfold kL;split
  .rename_i d
   obtain⟨b,e1⟩:=Mi G (e:=e) (item:=(j:Int)) ⟨a.1,a.2,by omega,by omega⟩ d;generalize kE S e (j:Int)=r at *;obtain⟨U,f⟩:=r;dsimp only at *;split
   .exact⟨.refl G,e1⟩
   .obtain⟨c,e2⟩:=sG n (j+1) U b.gn ⟨a.1,by rw[b.le];exact a.2⟩ (by rw[b.wt];omega)
    exact⟨b.trans c,e2⟩
  .exact sG n (j+1) S G a (by omega)
def dL.shut (x:dL) (y:EntC):dL:={ x with closed:=true,ahead:=[y] }
def jY (S:bK) (e:Int):bK×Int :=
 if(S.aJ e).closed=true then(S,7)else
 match kL e S.weights.length 0 S with
 |(T,f)=>if f≠0 then(S,f)else
 match qL T e with
 |(U,f)=>if f≠0 then(S,f)else(U.bJ e ((U.aJ e).shut (S.aJ e).toEntC),0)
def tS (G:Gn S) {e:Int} (x:Ix S e 0):oH S (jY S e):=by
 have h:=G.toStOk;unfold jY;split
 .exact oH.bad G ⟨by simp,by simp⟩
 .rename_i m
  obtain⟨i,e1⟩:=sG S.weights.length 0 S G ⟨x.e0,x.e1⟩ (by omega);generalize kL e S.weights.length 0 S=r at *;obtain⟨T,f⟩:=r;dsimp only at *;split
  .exact oH.bad G e1
  .obtain⟨k,e2⟩:=Lz i.gn (i.ix x)
   generalize qL T e=r at *;obtain⟨U,f⟩:=r;dsimp only at *;split
   .exact oH.bad G e2
   .have a:=i.trans (k.sv i.gn)
    clear i k e1 e2;have E:=a.gn.toStOk.zN (a.ix x)
    have l:=h.zN x;have hs:=a.gn.toStOk.bJ (e:=e) (x:=(U.aJ e).shut (S.aJ e).toEntC) x.e0 ⟨E.pl,E.ok,E.bl,E.bb,E.rl,E.rr,E.pr,E.prb,E.dl,E.db,E.now⟩ (fun y d=>by
     rw[show((U.aJ e).shut (S.aJ e).toEntC).ahead=[(S.aJ e).toEntC]from rfl,a07]at d;subst d;rw[a.wt,a.me];exact l)
    have g:(U.bJ e ((U.aJ e).shut (S.aJ e).toEntC)).aD.length=U.aD.length:=(by simp[bK.bJ]);have c:=a.gn;have j:=a.now e;refine⟨⟨hs,c.NU,c.OL,c.yP,by rw[g];exact c.II,by rw[g];exact c.C8,by rw[g];exact c.OA,c.d0,?_,?_⟩,⟨by simp,by simp⟩,fun h=>absurd rfl h,by rw[g,a.le],a.wt,a.pe,a.en,a.me,a.dn⟩
    .intro y d
     rcases a05 d with d|rfl
     .exact c.al y d
     .refine⟨rfl,fun y d=>?_⟩
      rw[show((U.aJ e).shut (S.aJ e).toEntC).sh.2.2=[(S.aJ e).toEntC]from rfl,a07]at d;subst d;exact⟨j.symm,by simp_all⟩
    .intro s hs
     have p:=c.pb s hs;have b:=(c.C8 s hs).1;show s.period<=((U.aD.set e.toNat ((U.aJ e).shut (S.aJ e).toEntC)).getD s.aU.toNat dL.nil).now;rw[a0k,a0r];split
     .rename_i n
      have e2:s.aU=e:=by have:=x.e0;omega
      rw[if_pos (by omega)];rw[e2]at p;exact p
     simp_all[bK.aJ]
end
section
open Mc
section
variable {S:bK} {e:Int}
def aki (G:Gn S) (x:Ix S e 0) (j:(S.aJ e).now<12):Gn (S.bJ e (IM S e)):=by
 have h:=G.toStOk;have E:=h.zN x;have g:NT S.weights.length (S.methods.getD e.toNat []) (IM S e).toEntC:=by
  refine⟨E.pl,E.ok,E.bl,E.bb,by simp[IM],?_,E.pr,E.prb,E.dl,E.db,?_⟩
  .intro r f
   obtain⟨i,k,rfl⟩:=a0l.1 f;refine⟨rfl,fun v d=>?_⟩
   simp only[lZ,a0c,a0b,or_false]at d;have z:qC 0:=⟨by simp,by simp⟩;rcases d with rfl|rfl|rfl|rfl|rfl|rfl|rfl|rfl|rfl|rfl|rfl
   .exact Ls _
   all_goals exact z
  .have:=E.now
   show 1<=1+(S.aJ e).now/\1+(S.aJ e).now<=12;omega
 have hs:=h.bJ x.e0 g (fun y a=>by cases a);have c:(S.bJ e (IM S e)).aD.length=S.aD.length:=by simp[bK.bJ]
 refine⟨hs,G.NU,G.OL,G.yP,by rw[c];exact G.II,by rw[c];exact G.C8,by rw[c];exact G.OA,G.d0,?_,?_⟩
 .intro y a
  rcases a05 a with a|rfl
  .exact G.al y a
  .exact⟨rfl,fun y a=>by cases a⟩
 .intro s hs
  have p:=G.pb s hs;have b:=(G.C8 s hs).1;show s.period<=((S.aD.set e.toNat (IM S e)).getD s.aU.toNat dL.nil).now;rw[a0k,a0r];split
  .rename_i l
   have e2:s.aU=e:=by have:=x.e0;omega
   rw[if_pos (by have:=x.e0;have:=x.e1;omega)];rw[e2]at p;show s.period<=1+(S.aJ e).now;omega
  .unfold bK.aJ at p
   rw[a0k]at p;exact p
def aeG (G:Gn S) (x:Ix S e 0) {y:EntC} (a:(S.aJ e).ahead=[y]):Gn { S.bQ (S.aD.set e.toNat ⟨y,[]⟩)with aN:=S.aN.map (jE e y.now) }:=by
 have h:=G.toStOk;have i:=h.at_ x;have t:=a0a i;have w:=h.ahead _ t _ i y (by rw[a];simp);obtain⟨H,a2⟩:=G.al _ t;obtain⟨v,u⟩:=a2 y (by show y∈(S.aJ e).ahead;rw[a];simp);have hs:=h.bJ (x:=⟨y,[]⟩) x.e0 w (fun y a=>by cases a);have g:(S.aD.set e.toNat ⟨y,[]⟩).length=S.aD.length:=by simp
 have n:∀s:kU,(jE e y.now s).aU=s.aU/\(jE e y.now s).item=s.item/\(jE e y.now s).loc=s.loc/\(jE e y.now s).eU=s.eU/\(jE e y.now s).back=s.back/\(jE e y.now s).period=s.period/\((jE e y.now s).cost=s.cost\/(jE e y.now s).cost=0)/\((jE e y.now s).bY=s.bY\/(jE e y.now s).bY=0):=by
  intro s;unfold jE;split<;>simp
 refine⟨⟨hs.hn,hs.hw,hs.M7,hs.Fg,hs.wY,hs.mE,hs.mb,hs.cb,hs.aJ,hs.ahead⟩,G.NU,by show(S.aN.map _).length<=40;simp;exact G.OL,G.yP,by show ∀x∈_,afI (S.aD.set _ _).length _ x;rw[g];exact G.II,?_,by show ∀x∈_,afH (S.aD.set _ _).length _ x;rw[g];exact G.OA,G.d0,?_,?_⟩
 .show ∀x∈_,acw (S.aD.set _ _).length _ x
  rw[g];intro s hs;obtain⟨s,f,rfl⟩:=a0l.1 hs;clear hs;have hs:=f;obtain⟨b1,b2,b3,E,D,C,B,A⟩:=G.C8 s hs;obtain⟨l,r,q,k,o,j,d,c⟩:=n s;have z:qC 0:=⟨by simp,by simp⟩;refine⟨by rw[l];exact b1,by rw[r];exact b2,by rw[q];exact b3,by rw[k];exact E,by rw[o,k];exact D,?_,?_,by rw[j];exact A⟩
  .rcases d with d|d<;>rw[d]
   .exact C
   .exact z
  .rcases c with c|c<;>rw[c]
   .exact B
   .exact z
 .intro z m
  rcases a05 m with m|rfl
  .exact G.al z m
  .refine⟨?_,fun y a=>by cases a⟩
   show(0:Nat)=if y.closed then 1 else 0
   rw[u];rfl
 .intro s hs
  obtain⟨s,f,rfl⟩:=a0l.1 hs;clear hs;have hs:=f;obtain⟨l,r,q,k,o,j,d,c⟩:=n s;have p:=G.pb s hs;have b:=(G.C8 s hs).1;rw[j,l];show s.period<=((S.aD.set e.toNat ⟨y,[]⟩).getD s.aU.toNat dL.nil).now;rw[a0k,a0r];split
  .rename_i F
   have e2:s.aU=e:=by have:=x.e0;omega
   rw[if_pos (by have:=x.e0;have:=x.e1;omega)];rw[e2]at p;show s.period<=y.now;rw[v];exact p
  .unfold bK.aJ at p
   rw[a0k]at p;exact p
end
end
section
open Mc
def Tl (a:Option Addr) (cap:Nat) (ws:List Int) (t:Int) (w:World) (h:Row w 1 a ws.length cap ws) (q:ws.length<=1000000) (o:fW t) (c:rU t ws=false) (b:dW ws=0) :
  Calls Tryz.prog 90 #[.int .i64 t,.slice a ws.length cap] w fun e w'=>∃g nA,e=.returned (.tuple #[.slice (some ⟨g,0,none⟩) ws.length nA,.int .i64 0])/\ws.length<=nA/\nA<=maxLen/\g<w'.heap.size/\w.heap.size<=g/\cK w' g 0 (fG t ws).1/\(∀i,w'.frozen? ⟨g,i,none⟩=false)/\Below w.heap.size w w':=by
 have p:=Ly (key:=vL (iY t (dJ ws) ws)) (List.range ws.length);refine(OP a cap ws (N8 (vL (iY t (dJ ws) ws)) (List.range ws.length)) t w h q o (fun _ _=>p)).mono ?_;rintro e w' ⟨k,r⟩;rw[if_neg (by rw[c];simp),if_neg (by rw[b];simp)]at k;obtain⟨g,nA,rfl,n,m,l,j,f,d⟩:=k;refine⟨g,nA,rfl,n,m,l,j,?_,d,r⟩;unfold fG;rw[if_neg (by rw[c];simp),if_neg (by rw[b];simp)];exact f
def Og (A:List Int) (k:Nat):List Int:=(A.take k).map (fun x=>-x)++A.drop k
def TP (A:List Int) (k:Nat) (h:k<=A.length):(Og A k).length=A.length:=by simp[Og];omega
def ahM (A:List Int) (k:Nat) (h:k<A.length):(Og A k).getD k 0=A.getD k 0:=by
 unfold Og;rw[a0k,a0k,a1u (by simp;omega)];simp only[a0z,a2f];rw[show k-min k A.length=0 by omega,a26];rfl
def ahL (A:List Int) (k:Nat) (h:k<A.length):(Og A k).set k (-(A.getD k 0))=Og A (k+1):=by
 unfold Og;have a:A.getD k 0=A[k]:=by rw[a0k,a0d h];rfl
 rw[a4u _ _ (by simp;omega)];simp only[a0z,a2f];rw[show k-min k A.length=0 by omega,a3x h,a4v,a0n,a0d h,a];show(A.take k).map _++(-A[k]::A.drop (k+1))=(A.take k++[A[k]]).map _++_;rw[a09,a3t];rfl
def Mw (a:Option Addr) (cap:Nat) (ws:List Int) (v:Int) (w:World) (h:Row w 1 a ws.length cap ws) (O:ws.length<=1000) (Y:v<0) (T:-288230376151711744<=v) (m:rU (-v) ws=false) (C:dW ws=0) :
  Calls Tryz.prog 181 #[.int .i64 v,.slice a ws.length cap] w fun e w'=>∃g nA,e=.returned (.tuple #[.slice (some ⟨g,0,none⟩) ws.length nA,.int .i64 0])/\ws.length<=nA/\nA<=maxLen/\g<w'.heap.size/\w.heap.size<=g/\cK w' g 0 ((fG (-v) ws).1.map (fun x=>-x))/\Below w.heap.size w w':=by
 have s:=Tl a cap ws (-v) w h (by omega) ⟨by omega,by omega⟩ m C;obtain⟨A,E⟩:∃A,(fG (-v) ws).1=A:=⟨_,rfl⟩
 have b:A.length=ws.length/\∀x∈A,0<=x/\x<=288230376151711744:=by
  rcases vW (t:=-v) (ws:=ws)with⟨_,_,_,l,o,_⟩|⟨l,_⟩
  .rw[E]at l o
   exact⟨l,fun x q=>by have:=o x q;omega⟩
  .exfalso
   unfold fG at l;rw[if_neg (by rw[m];simp),if_neg (by rw[C];simp)]at l;simp at l
 rw[E]at s |-;obtain⟨n,I⟩:∃n,ws.length=n:=⟨_,rfl⟩;rw[I]at s b O |-;have S:IntKind.i64.wrap (-v)=-v:=IntWalk.i64_in _ (by omega);have G:=Lib.hid b;have H:=Lib.hid s;clear h m C E I b s;go_enter Tryz.func181,Tryz.ntmps181;go_wp2_with (go_at_call 90;refine H.out.mono ?_;rintro e X ⟨g,nA,rfl,l,o,N,M,z,L,Q⟩;unfold maxLen at o);go_loopw [8] (fun i wr=>∃k:Nat,k<=n/\i=.int .i64 (k:Int)/\cK wr g 0 (Og A k)/\(∀i,wr.frozen? ⟨g,i,none⟩=false)/\g<wr.heap.size/\Below w.heap.size w wr) (fun i _=>n-(intOf i).toNat)
 case atStart=>exact⟨0,by omega,rfl,z,L,N,Q⟩
 case round =>
  obtain⟨k,Z,rfl,c,J,lt,m⟩:=hrel;obtain⟨F,b⟩:=G.out;by_cases U:k<n
  .have P:(k:Int)<(n:Int):=by omega
   have V:(0:Int)<=(k:Int):=(by omega);have K:=c k (by rw[TP _ _ (by omega)];omega);rw[a00,ahM _ _ (by omega)]at K;have f:=cK.put c (j:=k) (by rw[TP _ _ (by omega)];omega) (-(A.getD k 0));rw[a00,ahL _ _ (by omega)]at f;have q:=b _ (dR (d:=0) (show k<A.length by omega));obtain⟨x,u⟩:∃x,A.getD k 0=x:=⟨_,rfl⟩;rw[u]at K f q;have f0:=J k;have W:IntKind.i64.wrap (-x)=-x:=IntWalk.i64_in _ (by omega);have y:∀i,(wr.setCell ⟨g,k,none⟩ (.int .i64 (-x))).frozen? ⟨g,i,none⟩=false:=fun i=>by rw[World.frozen?_setCell];exact J i
   have D:Below w.heap.size w (wr.setCell ⟨g,k,none⟩ (.int .i64 (-x))):=m.setCell (p:=⟨g,k,none⟩) (by simp only;omega) _;have r:=Lib.hid f;have B:=Lib.hid y;clear F b u f y q c z;go_wp2_with fail
   case' roundEnd =>
    refine⟨⟨k+1,by omega,by go_num,r.out,B.out,by simpa[World.setCell]using lt,D⟩,?_⟩;simp[intOf];omega
  .obtain rfl:k=n:=by omega
   have hg:¬ (k:Int)<(k:Int):=(by omega);have e:Og A k=A.map (fun x=>-x):=by unfold Og;rw[a1l (by omega),a4m (by omega),a1i]
   rw[e]at c;have R:=Lib.hid c;clear e F b c z;go_wp2_with fail;go_ret2;exact⟨g,nA,rfl,l,by unfold maxLen;exact o,lt,M,R.out,m⟩
def EV {v:Int} {ws:List Int} (d:qC v) (b:∀k∈ws,0<=k/\k<=1073741824) (r:ws.length<=40) (hs:∃k∈ws,0<k):Ck 181 [.i v,.lit 1 (aA ws)] (.bG [.lit 1 (aA (iN v ws).1),.i 0]):=by
 have u:eW ws:=fun k H=>by have:=b k H;exact⟨by omega,by omega⟩
 by_cases m:0<=v
 .have s:=IY (t:=v) (ws:=ws) ⟨by omega,by omega⟩ u (by omega)
  obtain⟨g1,g2,g3⟩:=sM (t:=v) (w:=ws) ⟨m,d.2⟩ b r hs;rw[g1]at s;have e:(iN v ws).1=(fG v ws).1:=by unfold iN;rw[if_pos m]
  rw[e];generalize (fG v ws).1=C at *;have L:=d.2;exact cw _ (ev1 { vars:=[Kfs],bR:=[(90,[.v 0,.q 1 0],(.bG [.q 1 1,.i 0]))] } [v] [] [aA ws,aA C] .nil) [.v 0,.q 1 0] (.bG [.q 1 1,.i 0]) (kc s kn)
 .obtain⟨K,g1,g2⟩:rU (-v) ws=false/\dW ws=0/\(fG (-v) ws).1.length=ws.length:=by
   have M:=d.1;obtain⟨h,z,P⟩:=sM (t:=-v) (w:=ws) ⟨by omega,by omega⟩ b r hs;refine⟨?_,(CY (by have:=aab 1073741824 ws b;omega)).1,z⟩;cases l:rU (-v) ws with
   |false=>rfl
   |true=>unfold fG at h;rw[if_pos l]at h;cases h
  have e:(iN v ws).1=(fG (-v) ws).1.map (fun x=>-x):=by unfold iN;rw[if_neg m]
  rw[e];refine⟨bN (.c _) (bN (kX _).lit fY),.bG _ (bN (kX _).lit (bN (.c _) fY)),?_⟩;intro A w vs I Q p f;have o:=SO p;have y:=f 0 _ rfl;generalize vs.getD 0 Go.undef=O at *;have J:=f 1 _ rfl;generalize vs.getD 1 Go.undef=N at *;subst o;cases y;obtain⟨a,cap,rfl,R⟩:=LG J u;refine(Mw a cap ws v w R (by omega) (by omega) d.1 K g1).mono ?_;rintro e w' ⟨g,nA,rfl,n,G,F,E,D,l⟩;refine⟨_,rfl,mI ?_ qJ,l⟩;have j:((fG (-v) ws).1.map (fun x=>-x)).length=ws.length:=by rw[a0z];exact g2
  generalize (fG (-v) ws).1.map (fun x=>-x)=B at *;rw[<-j]at n |-;exact Xb I n G (.inr ⟨g,0,rfl,E,F,D⟩)
def amR (b:Bk) (fi:List AV) (bi:List Mc.dC) (i:Nat) (ids:qB) (fo:List AV) (bo:List Mc.dC):Bool :=
 (fi.all (sI b bi.length)&&bi.all (bI b bi.length))&&match fi[i]? with
 |some x=>(match vR (eB bi) 16 x with
  |some (y,a)=>LL (AO ids) (fi.set i y) fo&&XV ids (gE (eB bi) (a.map fun id=>(id,dC.dead))) ids bo&&ndC ids&&(fo.all (sO bo.length)&&bo.all (bO bo.length))
  |none=>false)
 |none=>false
def ajp (b:Bk) (fi:List AV) (bi:List Mc.dC) (i:Nat) (ids:qB) (fo:List AV) (bo:List Mc.dC):Prop:=amR b fi bi i ids fo bo=true
section
variable {b:Bk} {ev:@Ev b} {A:Nat->Prop} {w0:World} {a0:Act} {mm:Nat->St} {w:World} {a:Act} {fi fo fc fd:List AV} {bi bo bc bd:List Mc.dC} {ids:qB} {i:Nat}
def dZ.T6 [Bk] [Ev] {m:Nat->St} {f:List AV} {h:AH} (g:dZ A w0 a0 m w a f h) {x y:AV} {c:List Nat} (l:f[i]?=some x) (j:vR h 16 x=some (y,c)) :
  dZ A w0 a0 (oC m c) w a (f.set i y) (gE h (c.map fun id=>(id,dC.dead))):=by
 obtain⟨E,H,F,N⟩:=g;obtain⟨o,e⟩:=H.T6 c;refine⟨E.trans e,o,?_,N⟩;have d:=F.ext e;refine⟨by rw[a1m];exact d.size,?_,d.defers⟩;intro k z b;rw[a0r]at b;split at b
 .rename_i n
  subst n;split at b
  .cases b
   exact .pure _ _ (F7 H c j (fun id h=>h) (F.rd _ _ l))
  .cases b
 .exact d.rd k z b
def ajp.go (s:ajp b fi bi i ids fo bo) (ev:@Ev b) (f:@dZ dK dN A w0 a0 mm w a fc (eB bc))
  (q:fi.map (@lH b ev)=fc:=by rfl) (eb:bi.map (@vN b ev)=bc:=by rfl) (p:fo.map (@lH b ev)=fd:=by rfl) (o:bo.map (@vN b ev)=bd:=by rfl) (g:b.mS=[]:=by rfl):∃mm,@dZ dK dN A w0 a0 mm w a fd (eB bd):=by
 unfold ajp amR at s;rw[a0e]at s;obtain⟨h,c⟩:=s;obtain⟨k,f⟩:=uP b ev f q eb h g;split at c
 .rename_i x n
  split at c
  .rename_i y l m
   simp only[a0e]at c;have e:=@dZ.T6 A w0 a0 w a i b ev k fi (eB bi) f x y l n m;obtain⟨j,d⟩:=Tt b ev (dZ.to (ids:=ids) e (Fy c.1.1.1) (Nx e.rel.scs c.1.1.2) (ahN c.1.2) g) (by rw[a0e];exact c.2);rw[p,o]at d;exact⟨j,d⟩
  .cases c
 .cases c
end
end
section
open Mc
section
variable {S:bK} {e item loc:Int}
def XI (G:Gn S) (X:Ix S e item) (D:-2<=loc) (C:loc<=3) {g:kU} (z:g∈S.aN):Ck 180 [S.av,.agg g.row,.i e,.i item,.i loc] (.c (.bool (dH S e item loc g))):=by
 have h:=G.toStOk;have E:=h.zN X;have:=h.hn;have:=h.hw;have:=X.e0;have:=X.e1;have:=X.i0;have:=X.i1;obtain⟨b1,b2,b3,L,K,J,H,F⟩:=G.C8 g z;have a:=h.at_ X;obtain⟨x,r⟩:∃x,x=S.aJ e:=⟨_,rfl⟩;have a:S.aD[e.toNat]?=some ⟨⟨x.now,x.closed,x.bH,x.cU,x.aM,x.aZ,x.down⟩,x.ahead⟩:=by rw[r];exact a
 have y:=E.now;rw[<-r]at y;have fin:∀b,dH S e item loc g=b->Ck 180 [S.av,.agg g.row,.i e,.i item,.i loc] (.c (.bool b))->Ck 180 [S.av,.agg g.row,.i e,.i item,.i loc] (.c (.bool (dH S e item loc g))):=fun b A h=>by rw[A];exact h
 unfold dH at fin |-;rw[<-r]at fin |-;obtain⟨k,j,f,m,q,p,n,l,B⟩:=g;dsimp only at *;cases B with
 |false=>exact fin false rfl (cw _ (ev1 { vars:=WQ,facts:=KdX,lens:=KgN,gI:=Vx } [(S.aD.length:Int),e,item,loc,x.now,k,j,f,l] (vT S [.I x.now,.bool x.closed,.I m,.I q,.I p,.I n]) (sT S [bP x.bH,aA x.cU,bM x.aM,aA x.aZ,aA x.down,bW x.ahead]) (.d (aE a) .nil)) [KfT,(.agg [.v 5,.v 6,.v 7,.o 5,.o 6,.o 7,.o 8,.v 8,Kgb]),.v 1,.v 2,.v 3] Kgb kn)
 |true =>
  rcases(by omega:k<e\/e<k\/k=e)with w|w|w
  .exact fin false (by simp;omega) (cw _ (ev1 { vars:=WQ,facts:=[Kew,([([1],-1),([5],1)],-200,-1)],lens:=KgN,gI:=Vx } [(S.aD.length:Int),e,item,loc,x.now,k,j,f,l] (vT S [.I x.now,.bool x.closed,.I m,.I q,.I p,.I n]) (sT S [bP x.bH,aA x.cU,bM x.aM,aA x.aZ,aA x.down,bW x.ahead]) (.d (aE a) .nil)) Zj Kgb kn)
  .exact fin false (by simp;omega) (cw _ (ev1 { vars:=WQ,facts:=[Kew,([([1],-1),([5],1)],1,200)],lens:=KgN,gI:=Vx } [(S.aD.length:Int),e,item,loc,x.now,k,j,f,l] (vT S [.I x.now,.bool x.closed,.I m,.I q,.I p,.I n]) (sT S [bP x.bH,aA x.cU,bM x.aM,aA x.aZ,aA x.down,bW x.ahead]) (.d (aE a) .nil)) Zj Kgb kn)
  rcases(by omega:j<item\/item<j\/j=item)with u|u|u
  .exact fin false (by simp;omega) (cw _ (ev1 { vars:=WQ,facts:=[Kew,KeC,([([2],-1),([6],1)],-200,-1)],lens:=KgN,gI:=Vx } [(S.aD.length:Int),e,item,loc,x.now,k,j,f,l] (vT S [.I x.now,.bool x.closed,.I m,.I q,.I p,.I n]) (sT S [bP x.bH,aA x.cU,bM x.aM,aA x.aZ,aA x.down,bW x.ahead]) (.d (aE a) .nil)) Zj Kgb kn)
  .exact fin false (by simp;omega) (cw _ (ev1 { vars:=WQ,facts:=[Kew,KeC,([([2],-1),([6],1)],1,200)],lens:=KgN,gI:=Vx } [(S.aD.length:Int),e,item,loc,x.now,k,j,f,l] (vT S [.I x.now,.bool x.closed,.I m,.I q,.I p,.I n]) (sT S [bP x.bH,aA x.cU,bM x.aM,aA x.aZ,aA x.down,bW x.ahead]) (.d (aE a) .nil)) Zj Kgb kn)
  rcases(by omega:f<loc\/loc<f\/f=loc)with t|t|t
  .exact fin false (by simp;omega) (cw _ (ev1 { vars:=WQ,facts:=[Kew,KeC,KeD,(Kgj,-200,-1)],lens:=KgN,gI:=Vx } [(S.aD.length:Int),e,item,loc,x.now,k,j,f,l] (vT S [.I x.now,.bool x.closed,.I m,.I q,.I p,.I n]) (sT S [bP x.bH,aA x.cU,bM x.aM,aA x.aZ,aA x.down,bW x.ahead]) (.d (aE a) .nil)) Zj Kgb kn)
  .exact fin false (by simp;omega) (cw _ (ev1 { vars:=WQ,facts:=[Kew,KeC,KeD,(Kgj,1,200)],lens:=KgN,gI:=Vx } [(S.aD.length:Int),e,item,loc,x.now,k,j,f,l] (vT S [.I x.now,.bool x.closed,.I m,.I q,.I p,.I n]) (sT S [bP x.bH,aA x.cU,bM x.aM,aA x.aZ,aA x.down,bW x.ahead]) (.d (aE a) .nil)) Zj Kgb kn)
  rcases(by omega:l<x.now\/x.now<l\/l=x.now)with s|s|s
  .exact fin false (by simp;omega) (cw _ (ev1 { vars:=WQ,facts:=[Kew,KeC,KeD,KeA,([([4],-1),([8],1)],-200,-1)],lens:=KgN,gI:=Vx } [(S.aD.length:Int),e,item,loc,x.now,k,j,f,l] (vT S [.I x.now,.bool x.closed,.I m,.I q,.I p,.I n]) (sT S [bP x.bH,aA x.cU,bM x.aM,aA x.aZ,aA x.down,bW x.ahead]) (.d (aE a) .nil)) Zj Kgb kn)
  .exact fin false (by simp;omega) (cw _ (ev1 { vars:=WQ,facts:=[Kew,KeC,KeD,KeA,([([4],-1),([8],1)],1,200)],lens:=KgN,gI:=Vx } [(S.aD.length:Int),e,item,loc,x.now,k,j,f,l] (vT S [.I x.now,.bool x.closed,.I m,.I q,.I p,.I n]) (sT S [bP x.bH,aA x.cU,bM x.aM,aA x.aZ,aA x.down,bW x.ahead]) (.d (aE a) .nil)) Zj Kgb kn)
  .exact fin true (by simp[w,u,t,s]) (cw _ (ev1 { vars:=WQ,facts:=[Kew,KeC,KeD,KeA,([([4],-1),([8],1)],0,0)],lens:=KgN,gI:=Vx } [(S.aD.length:Int),e,item,loc,x.now,k,j,f,l] (vT S [.I x.now,.bool x.closed,.I m,.I q,.I p,.I n]) (sT S [bP x.bH,aA x.cU,bM x.aM,aA x.aZ,aA x.down,bW x.ahead]) (.d (aE a) .nil)) Zj Kgm kn)
end
def Sl {L:List bV} {p0 p1 p2:Int} (h:LR L) (N:0<=p0/\p0<=288230376151711744) (h1:0<=p1/\p1<=288230376151711744) (B:0<=p2/\p2<=288230376151711744) :
  Ck 122 [dI.av ⟨L,p0,p1,p2⟩] (.bG [dI.av ⟨(qF L ⟨p0,p1,p2⟩).1,0,0,0⟩,.agg [.i (qF L ⟨p0,p1,p2⟩).2.1.q,.i (qF L ⟨p0,p1,p2⟩).2.1.v,.i (qF L ⟨p0,p1,p2⟩).2.1.p,.i (qF L ⟨p0,p1,p2⟩).2.2.1.q,.i (qF L ⟨p0,p1,p2⟩).2.2.1.v,.i (qF L ⟨p0,p1,p2⟩).2.2.1.p,.i (qF L ⟨p0,p1,p2⟩).2.2.2.q,.i (qF L ⟨p0,p1,p2⟩).2.2.2.v,.i (qF L ⟨p0,p1,p2⟩).2.2.2.p]]):=by
 obtain⟨m,J,H⟩:∃M X,iX L p0=(M,X):=⟨_,_,rfl⟩;obtain⟨l,F,e1⟩:∃M X,iX m p1=(M,X):=⟨_,_,rfl⟩;obtain⟨y,x,e2⟩:∃M X,iX l p2=(M,X):=⟨_,_,rfl⟩;have hs:qF L ⟨p0,p1,p2⟩=(y,J,F,x):=by simp only[qF,H,e1,e2]
 rw[hs];dsimp only
 have st:∀(M:List bV) (n:Int) (z:List bV) (X:bV),LR M->0<=n/\n<=288230376151711744->iX M n=(z,X)->(n=0/\M=z/\X=.zero)\/(0<n/\LR z/\∃f,Ck 215 [.lit 3 (aO M),.i n] (.bG [.lit 3 (aO z),X.av,.i f])):=by
  intro M n z X G O A;unfold iX at A;split at A
  .cases A
   exact .inr ⟨‹_›,nL G,_,Px G ⟨by omega,by omega⟩⟩
  .cases A
   exact .inl ⟨by omega,rfl,rfl⟩
 clear hs;rcases st L p0 _ _ h N H with⟨rfl,rfl,rfl⟩|⟨q0,D,C,t⟩
 .rcases st L p1 _ _ h h1 e1 with⟨rfl,rfl,rfl⟩|⟨K,w,f1,k⟩
  .rcases st L p2 _ _ h B e2 with⟨rfl,rfl,rfl⟩|⟨E,u,f2,d⟩
   .exact cw _ (ev1 {  } [] [] [aO L] .nil) [(.agg [.q 3 0,.i 0,.i 0,.i 0])] (.bG [(.agg [.q 3 0,.i 0,.i 0,.i 0]),(.agg [.i 0,.i 0,.i 0,.i 0,.i 0,.i 0,.i 0,.i 0,.i 0])]) kn
   .obtain⟨b,a,c⟩:=x
    exact cw _ (ev1 { vars:=KeE,bR:=Wg } [p2] [.I b,.I a,.I c,.I f2] [aO L,aO y] .nil) [(.agg [.q 3 0,.i 0,.i 0,.v 0])] (.bG [Kc0,(.agg [.i 0,.i 0,.i 0,.i 0,.i 0,.i 0,.o 0,.o 1,.o 2])]) (kc d kn)
  .obtain⟨g,e,j⟩:=F
   rcases st l p2 _ _ w B e2 with⟨rfl,rfl,rfl⟩|⟨E,u,f2,d⟩
   .exact cw _ (ev1 { vars:=KeE,bR:=Wg } [p1] [.I g,.I e,.I j,.I f1] [aO L,aO l] .nil) [(.agg [.q 3 0,.i 0,.v 0,.i 0])] (.bG [Kc0,(.agg [.i 0,.i 0,.i 0,.o 0,.o 1,.o 2,.i 0,.i 0,.i 0])]) (kc k kn)
   .obtain⟨b,a,c⟩:=x
    exact cw _ (ev1 { vars:=Dz,bR:=J9 } [p1,p2] [.I g,.I e,.I j,.I f1,.I b,.I a,.I c,.I f2] [aO L,aO l,aO y] .nil) [(.agg [.q 3 0,.i 0,.v 0,.v 1])] (.bG [Kc1,(.agg [.i 0,.i 0,.i 0,.o 0,.o 1,.o 2,.o 4,.o 5,.o 6])]) (kc k (kc d kn))
 .obtain⟨r,p,s⟩:=J
  rcases st m p1 _ _ D h1 e1 with⟨rfl,rfl,rfl⟩|⟨K,w,f1,k⟩
  .rcases st m p2 _ _ D B e2 with⟨rfl,rfl,rfl⟩|⟨E,u,f2,d⟩
   .exact cw _ (ev1 { vars:=KeE,bR:=Wg } [p0] [.I r,.I p,.I s,.I C] [aO L,aO m] .nil) [(.agg [.q 3 0,.v 0,.i 0,.i 0])] (.bG [Kc0,(.agg [.o 0,.o 1,.o 2,.i 0,.i 0,.i 0,.i 0,.i 0,.i 0])]) (kc t kn)
   .obtain⟨b,a,c⟩:=x
    exact cw _ (ev1 { vars:=Dz,bR:=J9 } [p0,p2] [.I r,.I p,.I s,.I C,.I b,.I a,.I c,.I f2] [aO L,aO m,aO y] .nil) [(.agg [.q 3 0,.v 0,.i 0,.v 1])] (.bG [Kc1,(.agg [.o 0,.o 1,.o 2,.i 0,.i 0,.i 0,.o 4,.o 5,.o 6])]) (kc t (kc d kn))
  .obtain⟨g,e,j⟩:=F
   rcases st l p2 _ _ w B e2 with⟨rfl,rfl,rfl⟩|⟨E,u,f2,d⟩
   .exact cw _ (ev1 { vars:=Dz,bR:=J9 } [p0,p1] [.I r,.I p,.I s,.I C,.I g,.I e,.I j,.I f1] [aO L,aO m,aO l] .nil) [(.agg [.q 3 0,.v 0,.v 1,.i 0])] (.bG [Kc1,(.agg [.o 0,.o 1,.o 2,.o 4,.o 5,.o 6,.i 0,.i 0,.i 0])]) (kc t (kc k kn))
   .obtain⟨b,a,c⟩:=x
    exact cw _ (ev1 { vars:=[Kfr,Kfr,Kfr],bR:=[Wz,WA,(215,[.q 3 2,.v 2],(.bG [.q 3 3,Ket,.o 11]))] } [p0,p1,p2] [.I r,.I p,.I s,.I C,.I g,.I e,.I j,.I f1,.I b,.I a,.I c,.I f2] [aO L,aO m,aO l,aO y] .nil) [(.agg [.q 3 0,.v 0,.v 1,.v 2])] (.bG [(.agg [.q 3 3,.i 0,.i 0,.i 0]),(.agg [.o 0,.o 1,.o 2,.o 4,.o 5,.o 6,.o 8,.o 9,.o 10])]) (kc t (kc k (kc d kn)))
namespace CO
abbrev cF (e item loc a w b i:AV):List AV:=fr 122 [(1,e),(2,item),(3,loc),(5,.ptr 10 0 0 0),(9,.ptr 3 1 0 0),(10,.ptr 10 2 0 0),(11,.i 0),(12,a),(13,w),(14,b),(15,i)]
abbrev gF (a c p l i:AV):List AV:=fr 122 [(5,.ptr 10 0 0 0),(10,.ptr 10 2 0 0),(11,.i 0),(12,a),(17,c),(19,p),(21,l),(22,i)]
abbrev oI (k n:Nat):AV:=.own 3 1 k 0 n
abbrev oX (n:Nat):AV:=.own 137 9 4 0 n
abbrev NX (l:List Int):Mc.dC:=.cells 3 1 (aA l)
abbrev cB (S:bK) (xq xv xp:Int):List Mc.dC:=[.cells 31 10 [[.i S.bU,.i S.bT,.lit 1 (aA S.weights),.lit 1 (bF S.methods),.lit 1 (bF S.cI),.lit 8 (bD S.aD),.lit 8 (hH S.bB),.lit 9 (dX S.aN),.lit 6 (fM S.aH),.i S.done]],.cells 101 3 [[.i xq,.i xv,.i xp]],.cells 31 10 H4]
noncomputable def body:Code:=(Tryz.f125).body.getD .skip
abbrev amG (c:Code) (r:Option (RT Out)):Prop:=nV { vars:=[(0,40)],lens:=[Khq] } c (WR++List.replicate 117 .undef) [] [some 0,some 1,some 2,none,none] (cF (.o 3) (.o 4) (.o 5) Kgz KgC Kgb (.i 0)) [YH,Kca,V3,KgO,KgO] r
noncomputable def acS:Option (RT Out):=uL { vars:=[(0,40)],lens:=[Khq] } body (WR++List.replicate 117 .undef:List AV).length (WR++List.replicate 117 .undef) [] 0
def aoT:amG body acS:=⟨rfl,by decide +kernel,by decide +kernel⟩
abbrev amC (c:Code):Prop:=dD { vars:=Gt,facts:=[Kd9,Kem],lens:=Bs,gI:=V5,bR:=[(180,ZG,Kgb)] } c (cF (.o 3) (.o 4) (.o 5) Ke2 Ke3 (.o 16) (.v 1)) KN 0 [some 0,some 1,some 2,some 3,some 4] (cF (.o 3) (.o 4) (.o 5) Ke2 Ke3 (.o 16) Kfz) KN
abbrev amB (c:Code):Prop:=dD { vars:=Gt,facts:=[Kd9,Kem,(Kgi,0,2147483648)],lens:=Bs,gI:=V5,bR:=Ql } c (cF (.o 3) (.o 4) (.o 5) Ke2 Ke3 Kgm (.v 1)) KN 0 [some 0,some 1,some 2,some 7,some 9] (cF (.o 3) (.o 4) (.o 5) Kc2 Kc3 Kgm Kfz) KD
abbrev ahj (c:Code):Prop:=dD { vars:=Gt,facts:=[Kd9,Kem,(Kgi,1,2147483648)],lens:=Bs,gI:=V5,bR:=Ql } c (cF (.o 3) (.o 4) (.o 5) Ke2 Ke3 Kgb (.v 1)) KN 0 [some 0,some 1,some 2,some 7,some 9] (cF (.o 3) (.o 4) (.o 5) Kc2 Kc3 Kgm Kfz) KD
abbrev ahk (c:Code):Prop:=dD { vars:=Gt,facts:=[Kd9,Kem,(Kgi,0,0)],lens:=Bs,gI:=V5,bR:=Ql } c (cF (.o 3) (.o 4) (.o 5) Ke2 Ke3 Kgb (.v 1)) KN 0 [some 0,some 1,some 2,some 7,some 9] (cF (.o 3) (.o 4) (.o 5) Kc2 Kc3 Kgb Kfz) [YH,Kca,V3,Kag,(.sc 3 1 8 [] [[.i 0]] KgF)]
abbrev amE (c:Code):Prop:=dD { vars:=Kg0,lens:=Bt } c (cF (.o 3) (.o 4) (.o 5) KeX Kfn (.o 9) (.v 0)) KO 2 [some 0,some 1,some 2,some 3,some 4] (cF (.o 3) (.o 4) (.o 5) KeX Kfn (.o 9) (.v 0)) KO
def aoS:ajp { vars:=Kg0,lens:=Bt } (cF (.o 3) (.o 4) (.o 5) KeX Kfn Kgm (.v 0)) KO 13 [some 0,some 1,some 2,some 3] (cF (.o 3) (.o 4) (.o 5) KeX (.q 1 8) Kgm (.v 0)) K6:=by unfold ajp;decide +kernel
abbrev ahl (o:Option (RT Out)) (r:Option (RT Out)):Prop:=pJ { vars:=Kg0,lens:=Bt,bR:=YC } o 0 (cF (.o 3) (.o 4) (.o 5) KeX (.q 1 8) Kgm (.v 0)) K6 [some 0,some 1,some 2,some 3,some 4] (gF KeX (.q 1 9) (.q 1 10) Ken (.i 0)) [YH,Kca,V3,KdN,(.sc 137 9 5 [] [] [([0],1)])] r
noncomputable def agi:Option (RT Out):=IF { vars:=Kg0,lens:=Bt,bR:=YC } acS 0 (cF (.o 3) (.o 4) (.o 5) KeX (.q 1 8) Kgm (.v 0):List AV).length (cF (.o 3) (.o 4) (.o 5) KeX (.q 1 8) Kgm (.v 0)) K6 4
def ano:ahl acS agi:=⟨rfl,by decide +kernel,by decide +kernel⟩
abbrev amF (c:Code):Prop:=dD { vars:=[(0,40),(0,40),(0,39),(0,39)],facts:=[(Kgf,1,40),Kei],lens:=VE,gI:=[(7,[([2],1)],[.v 3]),(8,[([2],1)],[.o 6]),(9,[([2],1)],[.o 7]),(10,[([3],1)],[.o 8,.o 9,.o 10,.o 11,.o 12,.o 13,.o 14,.o 15,.o 16])] } c (gF KeX (.q 1 8) (.q 1 9) Ken (.v 2)) KL 0 [some 0,some 1,some 2,some 3,some 4] (gF KeX (.q 1 8) (.q 1 9) Ken KfF) [YH,Kb4,V3,KdN,(.sc 137 9 10 [([([3],1)],[.o 8,.o 9,.o 10,.o 11,.o 12,.o 6,.o 7,.o 15,.o 16])] [] [([0],1)])]
abbrev amD (c:Code):Prop:=dD { vars:=Kg0,lens:=VE } c (gF KeX (.q 1 8) (.q 1 9) Ken (.v 1)) KL 4 [some 0,some 1,some 2,some 3,some 4] (gF KeX (.q 1 8) (.q 1 9) Ken (.v 1)) KL
noncomputable abbrev fC:Func:=Tryz.f125
section
variable {S:bK} {e item loc xq xv xp:Int} {A:Nat->Prop} {w0:World} {a0:Act} {R:AV}
def T3 (oA:Option (RT Out)) (T:amC (aW oA)) (Q:amB (aW oA)) (H:ahj (aW oA)) (J:ahk (aW oA)) (P:amE (aW oA)) (G:Gn S) (X:Ix S e item) (l0:0<=loc) (Z:loc<=1)
  {mm:Nat->St} {w:World} {aa:Act} (f:@dZ dK dN A w0 a0 mm w aa (cF (.i e) (.i item) (.i loc) (oI 3 0) (oI 4 0) Kgb (.i 0)) (eB (cB S xq xv xp++[NX [],NX []])))
  (K:∀mm w aa,@dZ dK dN A w0 a0 mm w aa (cF (.i e) (.i item) (.i loc) (oI 3 (AA (dH S e item loc) S.aN S.aN.length).length) (oI 4 (AA (dH S e item loc) S.aN S.aN.length).length) (.c (.bool (smN (dH S e item loc) S.aN S.aN.length))) (.i (S.aN.length:Int))) (eB (cB S xq xv xp++[NX (AA (dH S e item loc) S.aN S.aN.length),NX (I8 (dH S e item loc) S.aN S.aN.length)]))->KS Tryz.prog (oK oA) (Fin Tryz.prog fC A w0 a0 R) (AX.exit 0).to aa w) :
  (Code.loop (aW oA)).wpIn (fw none) 9 Tryz.prog (KS Tryz.prog (oK oA) (Fin Tryz.prog fC A w0 a0 R)) aa w:=by
 have Y:=G.OL;refine cN (fun n W w=>∃(j:Nat),n=S.aN.length-j/\j<=S.aN.length/\∃mm,@dZ dK dN A w0 a0 mm w W (cF (.i e) (.i item) (.i loc) (oI 3 (AA (dH S e item loc) S.aN j).length) (oI 4 (AA (dH S e item loc) S.aN j).length) (.c (.bool (smN (dH S e item loc) S.aN j))) (.i (j:Int))) (eB (cB S xq xv xp++[NX (AA (dH S e item loc) S.aN j),NX (I8 (dH S e item loc) S.aN j)]))) ?_ (n:=S.aN.length) ⟨0,rfl,a0j _,_,f⟩;rintro n aa w ⟨j,rfl,hj,mm,f⟩;have z:=Sq (dH S e item loc) S.aN j;have y:=EY (dH S e item loc) S.aN j;rcases(by omega:j=S.aN.length\/j<S.aN.length)with rfl|L
 .generalize AA (dH S e item loc) S.aN S.aN.length=h at *
  generalize I8 (dH S e item loc) S.aN S.aN.length=k at *;generalize smN (dH S e item loc) S.aN S.aN.length=p at *;obtain⟨m,r⟩:∃m:Nat,h.length=m:=⟨_,rfl⟩;rw[r]at f z y K;refine P.go (ev1 _ [(S.aN.length:Int),(m:Int)] (vT S [.I e,.I item,.I loc,.I xq,.I xv,.I xp,.bool p]) (sT S [aA h,aA k]) .nil) (xK kn) f ?_;exact K
 .obtain⟨g,s⟩:∃g,S.aN[j]?=some g:=⟨_,a0d L⟩
  have B:=a0a s;have x:S.aN[(j:Int).toNat]?=some ⟨g.aU,g.item,g.loc,g.eU,g.back,g.cost,g.bY,g.period,g.waits⟩:=by simpa using s
  have M:S.aN.getD j .nil=g:=by rw[a0k,s];rfl
  obtain⟨b1,b2,b3,b4,b5,b6,b7,b8⟩:=G.C8 g B;have u:=XI G X (by omega) (by omega) B (loc:=loc)
  have nx:∀(t F:List Int) (C:Bool),t=AA (dH S e item loc) S.aN (j+1)->F=I8 (dH S e item loc) S.aN (j+1)->C=smN (dH S e item loc) S.aN (j+1)->∀mm w a,@dZ dK dN A w0 a0 mm w a (cF (.i e) (.i item) (.i loc) (oI 3 t.length) (oI 4 t.length) (.c (.bool C)) (.i (1+(j:Int)))) (eB (cB S xq xv xp++[NX t,NX F]))->∃n',n'<S.aN.length-j/\∃(o:Nat),n'=S.aN.length-o/\o<=S.aN.length/\∃mm,@dZ dK dN A w0 a0 mm w a (cF (.i e) (.i item) (.i loc) (oI 3 (AA (dH S e item loc) S.aN o).length) (oI 4 (AA (dH S e item loc) S.aN o).length) (.c (.bool (smN (dH S e item loc) S.aN o))) (.i (o:Int))) (eB (cB S xq xv xp++[NX (AA (dH S e item loc) S.aN o),NX (I8 (dH S e item loc) S.aN o)])):=by
   rintro t F C rfl rfl rfl mm w a f;rw[show(1+(j:Int))=((j+1:Nat):Int)by omega]at f;exact⟨_,by omega,j+1,rfl,by omega,mm,f⟩
  simp only[AA,I8,smN,M]at nx;generalize dH S e item loc g=b at *;generalize O:AA (dH S e item loc) S.aN j=h at *;generalize N:I8 (dH S e item loc) S.aN j=k at *;generalize smN (dH S e item loc) S.aN j=p at *;clear O N;obtain⟨m,r⟩:∃m:Nat,h.length=m:=⟨_,rfl⟩;rw[r]at f z y;have q:∀(l:List Int) (v:Int),aA (l++[v])=aA l++[[.i v]]:=fun l v=>by simp[aA]
  have V:∀(v:Int),(h++[v]).length=m+1:=fun v=>by simp[r]
  have D:(1+(m:Int)).toNat=m+1:=by omega
  cases b with
  |false =>
   refine T.go (ev1 _ [(S.aN.length:Int),(j:Int),(m:Int),g.eU,g.back] (vT S [.I e,.I item,.I loc,.I xq,.I xv,.I xp,.I g.aU,.I g.item,.I g.loc,.I g.cost,.I g.bY,.I g.period,.bool g.waits,.bool p]) (sT S [aA h,aA k]) (.d (aV x) .nil)) (xK (kc u kn)) f (fd:=cF (.i e) (.i item) (.i loc) (oI 3 m) (oI 4 m) (.c (.bool p)) (.i (1+(j:Int)))) (bd:=cB S xq xv xp++[NX h,NX k]) ?_;intro mm w a f;rw[<-r]at f;exact nx h k p (by simp) (by simp) (by simp) mm w a f
  |true =>
   rw[if_pos rfl]at nx;have nx:=nx (h++[(j:Int)]) (k++[g.eU-g.back]);simp only[V]at nx;cases p with
   |true =>
    refine Q.go (ev1 _ [(S.aN.length:Int),(j:Int),(m:Int),g.eU,g.back] (vT S [.I e,.I item,.I loc,.I xq,.I xv,.I xp,.I g.aU,.I g.item,.I g.loc,.I g.cost,.I g.bY,.I g.period,.bool g.waits]) (sT S [aA h,aA k]) (.d (aV x) .nil)) (xK (kc u kn)) f (fd:=cF (.i e) (.i item) (.i loc) (oI 3 (1+(m:Int)).toNat) (oI 4 (1+(m:Int)).toNat) Kgm (.i (1+(j:Int)))) (bd:=cB S xq xv xp++[.cells 3 1 (aA h++[[.i (j:Int)]]),.cells 3 1 (aA k++[[.i (g.eU-g.back)]])]) ?_;intro mm w a f;rw[D,<-q,<-q]at f;exact nx true (by simp) (by simp) (by simp) mm w a f
   |false =>
    rcases(by omega:g.back<g.eU\/g.back=g.eU)with E|E
    .refine H.go (ev1 _ [(S.aN.length:Int),(j:Int),(m:Int),g.eU,g.back] (vT S [.I e,.I item,.I loc,.I xq,.I xv,.I xp,.I g.aU,.I g.item,.I g.loc,.I g.cost,.I g.bY,.I g.period,.bool g.waits]) (sT S [aA h,aA k]) (.d (aV x) .nil)) (xK (kc u kn)) f (fd:=cF (.i e) (.i item) (.i loc) (oI 3 (1+(m:Int)).toNat) (oI 4 (1+(m:Int)).toNat) Kgm (.i (1+(j:Int)))) (bd:=cB S xq xv xp++[.cells 3 1 (aA h++[[.i (j:Int)]]),.cells 3 1 (aA k++[[.i (g.eU-g.back)]])]) ?_
     intro mm w a f;rw[D,<-q,<-q]at f;exact nx true (by simp) (by simp) (by simp[E]) mm w a f
    .have U:g.eU-g.back=0:=by omega
     rw[U]at nx;refine J.go (ev1 _ [(S.aN.length:Int),(j:Int),(m:Int),g.eU,g.back] (vT S [.I e,.I item,.I loc,.I xq,.I xv,.I xp,.I g.aU,.I g.item,.I g.loc,.I g.cost,.I g.bY,.I g.period,.bool g.waits]) (sT S [aA h,aA k]) (.d (aV x) .nil)) (xK (kc u kn)) f (fd:=cF (.i e) (.i item) (.i loc) (oI 3 (1+(m:Int)).toNat) (oI 4 (1+(m:Int)).toNat) Kgb (.i (1+(j:Int)))) (bd:=cB S xq xv xp++[.cells 3 1 (aA h++[[.i (j:Int)]]),.cells 3 1 (aA k++[[.i 0]])]) ?_;intro mm w a f;rw[D,<-q,<-q]at f;exact nx false (by simp) (by simp) (by simp[E]) mm w a f
def TZ (h:Option (RT Out)) (t:amF (aW h)) (s:amD (aW h)) (G:Gn S) {b C P:List Int} {m:Nat} (L:b.length=m) (hC:C.length=m) (K:P.length=m) (H:m<=40) (r:∀k∈b,0<=k/\k<S.aN.length)
  {mm:Nat->St} {w:World} {aa:Act} (e:@dZ dK dN A w0 a0 mm w aa (gF (oI 3 m) (.lit 1 (aA C)) (.lit 1 (aA P)) (oX S.aN.length) (.i 0)) (eB (cB S xq xv xp++[NX b,.cells 137 9 (dX S.aN)])))
  (u:∀mm w aa,@dZ dK dN A w0 a0 mm w aa (gF (oI 3 m) (.lit 1 (aA C)) (.lit 1 (aA P)) (oX S.aN.length) (.i (m:Int))) (eB (cB S xq xv xp++[NX b,.cells 137 9 (dX (mY b C P S.aN m))]))->KS Tryz.prog (oK h) (Fin Tryz.prog fC A w0 a0 R) (AX.exit 2).to aa w) :
  (Code.loop (aW h)).wpIn (fw none) 9 Tryz.prog (KS Tryz.prog (oK h) (Fin Tryz.prog fC A w0 a0 R)) aa w:=by
 have D:=G.OL;refine cN (fun n B w=>∃(j:Nat),n=m-j/\j<=m/\∃mm,@dZ dK dN A w0 a0 mm w B (gF (oI 3 m) (.lit 1 (aA C)) (.lit 1 (aA P)) (oX S.aN.length) (.i (j:Int))) (eB (cB S xq xv xp++[NX b,.cells 137 9 (dX (mY b C P S.aN j))]))) ?_ (n:=m) ⟨0,rfl,a0j _,_,e⟩;rintro n aa w ⟨j,rfl,J,mm,e⟩;have x:=yX b C P S.aN j;rcases(by omega:m=j\/j<m)with rfl|E
 .generalize mY b C P S.aN m=f at *
  refine s.go (ev1 _ [(S.aN.length:Int),(m:Int)] (vT S [.I xq,.I xv,.I xp]) (sT S [aA b,aA C,aA P,dX f]) .nil) (xK kn) e ?_;exact u
 .have y:b[(j:Int).toNat]?=some (b.getD j 0):=getD_some (by omega)
  have z:C[(j:Int).toNat]?=some (C.getD j 0):=getD_some (by omega);have v:P[(j:Int).toNat]?=some (P.getD j 0):=getD_some (by omega);have F:=r _ (dR (d:=0) (k:=j) (l:=b) (by omega))
  have nx:dX (mY b C P S.aN (j+1))=(dX (mY b C P S.aN j)).set (b.getD j 0).toNat (({ (mY b C P S.aN j).getD (b.getD j 0).toNat .nil with cost:=C.getD j 0,bY:=P.getD j 0 }:kU).row):=by
   simp only[mY,dX,a06]
  have fin:∀mm w a,@dZ dK dN A w0 a0 mm w a (gF (oI 3 m) (.lit 1 (aA C)) (.lit 1 (aA P)) (oX S.aN.length) (.i (1+(j:Int)))) (eB (cB S xq xv xp++[NX b,.cells 137 9 (dX (mY b C P S.aN (j+1)))]))->∃n',n'<m-j/\∃(o:Nat),n'=m-o/\o<=m/\∃mm,@dZ dK dN A w0 a0 mm w a (gF (oI 3 m) (.lit 1 (aA C)) (.lit 1 (aA P)) (oX S.aN.length) (.i (o:Int))) (eB (cB S xq xv xp++[NX b,.cells 137 9 (dX (mY b C P S.aN o))])):=by
   intro mm w a e;rw[show(1+(j:Int))=((j+1:Nat):Int)by omega]at e;exact⟨_,by omega,j+1,rfl,by omega,mm,e⟩
  rw[nx]at fin;clear nx;have q:(mY b C P S.aN j)[(b.getD j 0).toNat]?=some ((mY b C P S.aN j).getD (b.getD j 0).toNat .nil):=getD_some (by omega);generalize b.getD j 0=k at *;generalize C.getD j 0=c at *;generalize P.getD j 0=p at *;generalize mY b C P S.aN j=f at *;generalize f.getD k.toNat .nil=g at *;have q:f[k.toNat]?=some ⟨g.aU,g.item,g.loc,g.eU,g.back,g.cost,g.bY,g.period,g.waits⟩:=q;refine t.go (ev1 _ [(S.aN.length:Int),(m:Int),(j:Int),k] (vT S [.I xq,.I xv,.I xp,.I c,.I p,.I g.aU,.I g.item,.I g.loc,.I g.eU,.I g.back,.I g.cost,.I g.bY,.I g.period,.bool g.waits]) (sT S [aA b,aA C,aA P,dX f]) (.d (aI y) (.d (aI z) (.d (aI v) (.d (aV q) .nil))))) (xK kn) e (fd:=gF (oI 3 m) (.lit 1 (aA C)) (.lit 1 (aA P)) (oX S.aN.length) (.i (1+(j:Int)))) (bd:=cB S xq xv xp++[NX b,.cells 137 9 ((dX f).set k.toNat [.i g.aU,.i g.item,.i g.loc,.i g.eU,.i g.back,.i c,.i p,.i g.period,.c (.bool g.waits)])]) ?_;intro mm w a e;exact fin mm w a e
def walk (oA h:Option (RT Out)) (H:amG body oA) (F:amC (aW oA)) (D:amB (aW oA)) (l:ahj (aW oA)) (n:ahk (aW oA)) (B:amE (aW oA)) (r0:iU { vars:=Kg0,lens:=Bt } Tryz.f125 oA 0 (cF (.o 3) (.o 4) (.o 5) KeX Kfn Kgb (.v 0)) KO (KbO)) (r1:ahl oA h) (E:amF (aW h)) (z:amD (aW h)) (y:iU { vars:=Kg0,lens:=VE } Tryz.f125 h 2 (gF KeX (.q 1 8) (.q 1 9) Ken (.v 1)) KL ((.bG [(.agg [.o 0,.o 1,.q 1 1,.q 1 2,.q 1 3,.q 8 0,.q 8 4,.q 9 10,.q 6 6,.o 2]),.i 0])))
  (G:Gn S) (X:Ix S e item) (K:0<=loc) (J:loc<=1) (U:0<=xv/\xv<=288230376151711744) (k:qC xp) :
  Ck 125 [S.av,.i e,.i item,.i loc,bV.av ⟨xq,xv,xp⟩] (.bG [(kH S e item loc ⟨xq,xv,xp⟩).av,.i 0]):=by
 have Q:=G.OL;refine CK.fP Tryz.func125 (c:=body) (by kernel_rfl) (yO.out) (uD.out) fun A w0 a0=>?_
 generalize g:AV.bG [(kH S e item loc ⟨xq,xv,xp⟩).av,.i 0]=R;intro mm w aa a;rw[Tryz.ntmps125]at a;refine H.go (ev1 _ [(S.aN.length:Int)] (vT S [.I e,.I item,.I loc,.I xq,.I xv,.I xp]) (sT S []) .nil) (xK kn) a (fd:=cF (.i e) (.i item) (.i loc) (oI 3 0) (oI 4 0) Kgb (.i 0)) (bd:=cB S xq xv xp++[NX [],NX []]) ?_;intro mm w aa a;refine T3 oA F D l n B G X K J a ?_;intro mm w aa a;unfold kH at g;have j:=aav (dH S e item loc) S.aN S.aN.length (fun x L=>by obtain⟨_,_,_,W,V,_⟩:=G.C8 x L;omega) (a0h _);have s:=Sq (dH S e item loc) S.aN S.aN.length;have r:=EY (dH S e item loc) S.aN S.aN.length;have t:=acj (dH S e item loc) S.aN S.aN.length;have d:=Mb (dH S e item loc) S.aN S.aN.length;generalize AA (dH S e item loc) S.aN S.aN.length=f at *;generalize I8 (dH S e item loc) S.aN S.aN.length=b at *;generalize smN (dH S e item loc) S.aN S.aN.length=u at *;obtain⟨m,p⟩:∃m:Nat,f.length=m:=⟨_,rfl⟩;rw[p]at a s r g;cases u with
 |false =>
  rw[if_pos rfl]at g;subst g;exact r0.go (ev1 _ [(S.aN.length:Int),(m:Int)] (vT S [.I e,.I item,.I loc,.I xq,.I xv,.I xp]) (sT S [aA f,aA b]) .nil) (xK kn) a
 |true =>
  rw[if_neg (by simp)]at g;obtain⟨mm,a⟩:=aoS.go (ev1 _ [(S.aN.length:Int),(m:Int)] (vT S [.I e,.I item,.I loc,.I xq,.I xv,.I xp]) (sT S [aA f,aA b]) .nil) a (fd:=cF (.i e) (.i item) (.i loc) (oI 3 m) (.lit 1 (aA b)) Kgm (.i (S.aN.length:Int))) (bd:=cB S xq xv xp++[NX f]);have d:=d rfl;have N:=EV (v:=xv) (ws:=b) ⟨by omega,by omega⟩ j (by omega) d;have k:=EV (v:=xp) (ws:=b) k j (by omega) d;obtain⟨-,T,-⟩:=uJ (v:=xv) (w:=b) ⟨by omega,by omega⟩ j (by omega) d;obtain⟨-,lp,-⟩:=uJ (v:=xp) (w:=b) ‹qC xp› j (by omega) d;dsimp only at g;generalize (iN xv b).1=C at *;generalize (iN xp b).1=P at *;refine r1.go (ev1 _ [(S.aN.length:Int),(m:Int)] (vT S [.I e,.I item,.I loc,.I xq,.I xv,.I xp]) (sT S [aA f,aA b,aA C,aA P]) .nil) (xK (kc N (kc k kn))) a (fd:=gF (oI 3 m) (.lit 1 (aA C)) (.lit 1 (aA P)) (oX S.aN.length) (.i 0)) (bd:=cB S xq xv xp++[NX f,.cells 137 9 (dX S.aN)]) ?_;intro mm w aa a;refine TZ h E z G p (by omega) (by omega) (by omega) t a ?_;intro mm w aa a;subst g;have M:=yX f C P S.aN m;generalize mY f C P S.aN m=O at *;exact y.go (ev1 _ [(S.aN.length:Int),(m:Int)] (vT S [.I xq,.I xv,.I xp]) (sT S [aA f,aA C,aA P,dX O]) .nil) (xK kn) a
end
end CO
section
variable {S:bK} {e item loc:Int}
def Si {xq xv xp:Int} (G:Gn S) (X:Ix S e item) (b:0<=loc) (a:loc<=1) (c:0<=xv/\xv<=288230376151711744) (d:qC xp) :
  Ck 125 [S.av,.i e,.i item,.i loc,bV.av ⟨xq,xv,xp⟩] (.bG [(kH S e item loc ⟨xq,xv,xp⟩).av,.i 0]) :=
 CO.walk CO.acS CO.agi CO.aoT .of .of .of .of .of .of CO.ano .of .of .of G X b a c d
end
end
section
open Mc
def afO {v q p:Int} (i:¬ v<0) (j:¬ q<0) (k:¬ p<0) (iv:fW v) (c:fW q) (d:fW p) :
  vC v q p=(if lA q p > 0\/kZ q p ≥ IntKind.u64.wrap v then 0 else v-kZ q p)/\(¬ lA q p > 0->¬ kZ q p ≥ IntKind.u64.wrap v->0<=kZ q p/\kZ q p<v):=by
 have o:=SI (a:=q) (b:=p) (by omega) c.hi (by omega) d.hi;have n:=Fm q p;have m:=Ab q p;have e:IntKind.u64.wrap v=v:=wrap_small (by omega) (by have:=iv.hi;omega);rw[e];unfold vC;rw[if_neg (by omega)];have f:=iv.hi;generalize lA q p=l at *;generalize kZ q p=h at *;generalize q*p=g at *;refine⟨?_,fun a b=>⟨by omega,by omega⟩⟩;split
 .rw[if_pos];omega
 .rw[if_neg (by omega)];omega
def Re (v q p:Int) (w:World) (iv:fW v) (i:fW q) (j:fW p) :
  Calls Tryz.prog 126 #[.int .i64 v,.int .i64 q,.int .i64 p] w fun e w'=>e=.returned (.int .i64 (vC v q p))/\Below w.heap.size w w':=by
 by_cases c:v<0
 .have e:vC v q p=0:=by simp[vC,c]
  rw[e];go_enter Tryz.func126,Tryz.ntmps126;go_wp2_with fail;go_ret;exact⟨rfl,blw⟩
 by_cases d:q<0
 .have e:vC v q p=0:=by simp[vC,d]
  rw[e];go_enter Tryz.func126,Tryz.ntmps126;go_wp2_with fail;go_ret;exact⟨rfl,blw⟩
 by_cases f:p<0
 .have e:vC v q p=0:=by simp[vC,f]
  rw[e];go_enter Tryz.func126,Tryz.ntmps126;go_wp2_with fail;go_ret;exact⟨rfl,blw⟩
 obtain⟨a,b⟩:=afO c d f iv i j;have l:=Ab q p;have m:=Fm q p;have k:=iv.hi;have e1:IntKind.u64.wrap v=v:=wrap_small (by omega) (by omega);rw[e1]at a b;by_cases h:lA q p > 0
 .have e:vC v q p=0:=by rw[a,if_pos (.inl h)]
  rw[e];clear a b;go_enter Tryz.func126,Tryz.ntmps126;go_wp2_with (go_at_call 182;refine(yV _ _ _).mono ?_;rintro e w' ⟨rfl,rfl⟩);go_ret;exact⟨rfl,blw⟩
 by_cases g:kZ q p ≥ v
 .have e:vC v q p=0:=by rw[a,if_pos (.inr g)]
  rw[e];clear a b;go_enter Tryz.func126,Tryz.ntmps126;go_wp2_with (go_at_call 182;refine(yV _ _ _).mono ?_;rintro e w' ⟨rfl,rfl⟩);go_ret;exact⟨rfl,blw⟩
 .have e:vC v q p=v-kZ q p:=by rw[a,if_neg (by omega)]
  obtain⟨b1,b2⟩:=b h g;rw[e];clear a;go_enter Tryz.func126,Tryz.ntmps126;go_wp2_with (go_at_call 182;refine(yV _ _ _).mono ?_;rintro e w' ⟨rfl,rfl⟩);go_ret;exact⟨rfl,blw⟩
def Sk {v q p:Int} (a:fW v) (b:fW q) (d:fW p):Ck 126 [.i v,.i q,.i p] (.i (vC v q p)) :=
 ⟨bN (.c _) (bN (.c _) (bN (.c _) fY)),.c _,@anK dK dN _ [.int .i64 v,.int .i64 q,.int .i64 p] _ fun w=>(Re v q p w a b d).mono fun e w' h=>⟨h.1,h.2⟩⟩
end
end Go.Proofs.YtnepgggkgnckcaaGreat
