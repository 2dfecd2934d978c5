/-
 Texts joined and made small by wip/small.sh.
-/
import Derived.Test.YtnepgggkgnckcaaGreatJ1
import Derived.Laws.Cover3
set_option linter.all false
namespace Go.Proofs.YtnepgggkgnckcaaGreat
open Go.RowKit
namespace Mc
variable {m:Nat->St} {A:Nat->Prop} {id off:Nat} {u:Value} {x:Operand}
section
variable {P:Program} {o:Oper} {f:List AV} {h:AH}
section
variable [Bk] [Ev]
def Rd.Ly {w:World} {sz base:Nat} {bZ:List (Poly×List AV)} {tail:List (List AV)} {v:Value} (h:Rd m A w (.seq sz base bZ tail) v) :
  (∀q∈bZ,InB base q.1)/\Rd m A w (.lit sz (rowsOf base bZ tail)) v:=by
 cases h with|pure _ _ h=>cases h with|seq _ _ _ _ _ a b h=>exact⟨a,.pure _ _ h⟩
def Rd.Fc {w:World} {T sz b:Nat} {n:Poly} (h:Rd m A w (.dD T sz id n) u) (g:m id=.at b) :
  ∃len cap:Nat,cI Ev.eW n=len/\u=.slice (some ⟨b,0,none⟩) len cap/\len<=cap/\cap<=maxLen/\cap*sz=gW w b:=by
 cases h with
 |pure _ _ h=>cases h
 |dD _ _ _ _ j len cap a i e d f c=>grind
 |uP _ _ _ _ _ a=>simp_all
 |uQ _ _ _ _ _ _ _ a=>simp_all
def Rd.wC {w:World} {T sz:Nat} {n:Poly} (h:Rd m A w (.dD T sz id n) u) (g:m id=.uK):∃a,u=.slice a 0 0/\cI Ev.eW n=0:=by
 cases h with
 |pure _ _ h=>cases h
 |dD _ _ _ _ j len cap b i e c f d=>simp_all
 |uP _ _ _ _ a b c=>simp_all
 |uQ _ _ _ _ _ _ _ b=>simp_all
def Rd.adT {w:World} {sz b:Nat} {p:Poly} (h:Rd m A w (.nP sz id p off) u) (g:m id=.at b):u=.pointer (some ⟨b,(cI Ev.eW p).toNat*sz+off,none⟩):=by
 cases h with
 |pure _ _ h=>cases h
 |nP _ _ _ _ d a c=>simp_all
 |A6 _ _ _ _ u a=>simp_all
def dU.Ta {w:World} (H:dU m A h w) {T sz base i:Nat} {bZ:List (Poly×List AV)} {tail:List (List AV)} {n:Poly} {e:List AV} (a:h id=.sc T sz base bZ tail n) (c:(rowsOf base bZ tail)[i]?=some e) :
  ∃b cs,m id=.at b/\w.heap[b]?=some (.cells cs T (0,0))/\(rowsOf base bZ tail).length*sz<=cs.size/\(∀e∈rowsOf base bZ tail,e.length=sz)/\∀(i j:Nat) (x:AV),iE (rowsOf base bZ tail) i j=some x->x.one=true/\Rd m A w x (cs.getD (i*sz+j) Go.undef):=by
 obtain⟨-,d⟩|h:=H.wV id T sz (rowsOf base bZ tail) (by rw[a];rfl)<;>simp_all
def dU.IL {w:World} (H:dU m A h w) {T sz base:Nat} {bZ:List (Poly×List AV)} {tail:List (List AV)} {n:Poly} (a:h id=.sc T sz base bZ tail n) :
  cI Ev.eW n=((rowsOf base bZ tail).length:Int)/\∀q∈bZ,InB base q.1:=by
 have:=H.scs id;rw[a]at this;exact this
def nO [Bk] (h:AH):AV->Option Poly
 | .seq _ base _ tail=>(lenOf base Bk.lens).map fun n=>wJ n (zM tail.length)
 | .dD T b id n=>match h id with
  | .sc c a _ _ _ n'=>if c=T/\a=b/\n'=n then some n else none
  |_=>none
 |_=>none
def Lq:AV->List Nat
 | .dD _ _ id _=>[id]
 | .nP _ id _ _=>[id]
 |_=>[]
def OT {w:World} (H:dU m A h w) {x:AV} {n:Poly} {v:Value} (c:nO h x=some n) (d:Rd m A w x v):∃a len cap,v=.slice a len cap/\(len:Int)=cI Ev.eW n:=by
 unfold nO at c;split at c
 .rename_i i base bZ tail
  rw[a1c]at c;obtain⟨g,p,rfl⟩:=c;have r:=Au p;have u:=iU base bZ tail;have t:cI Ev.eW (wJ g (zM tail.length))=((rowsOf base bZ tail).length:Int):=by simp_all[qE,tS]
  obtain⟨-,o⟩:=d.Ly;obtain⟨y,a,cap,rfl⟩|⟨b,off,cap,vs,rfl,-⟩:=o.pW<;>grind
 .rename_i T i id g
  split at c
  .rename_i s f base bZ tail n' k
   split at c
   .rename_i l
    obtain⟨rfl,rfl,rfl⟩:=l;cases c;rcases H.wV id s f (rowsOf base bZ tail) (by rw[k];rfl)with⟨j,r⟩|⟨b,cs,q,-⟩
    .obtain⟨a,rfl,e⟩:=d.wC j
     simp_all
    .obtain⟨len,cap,e,rfl,-⟩:=d.Fc q
     grind
   simp_all
  simp_all
 simp_all
def abp {t:TypeId} {e:TypeId} {n:Poly} {xC:List Nat} (d:o.op=.call { callee:=.builtin .len,args:=#[x],argTypes:=#[t] }) (c:P.underlying t=some (.slice e)) (g:nO h (eF f x)=some n):dX P o f h ⟨C9 n,[],xC⟩:=by
 refine cK fun m A w a H F=>?_;obtain⟨j,len,cap,b,i⟩:=OT H g (F.eval x);refine⟨_,?_,.pure _ _ (yL _ w n)⟩;simp[execOp,d,resolve,invoke,builtin,b,Builtin.len_,run_underlying c,goInt,i]
def ahT [Bk] (p n:Poly):Bool:=TU p==some false&&TU (rK p n)==some true
def ado {p n:Poly} (h:ahT p n=true):0<=cI Ev.eW p/\cI Ev.eW p<cI Ev.eW n:=by
 unfold ahT at h;rw[a0e,beq_iff_eq,beq_iff_eq]at h;have b:=of_decide_eq_false (pO h.1).symm;have a:=of_decide_eq_true (pO h.2).symm
 grind[iA]
def FZ {t e:TypeId} {ix:Operand} {sz base:Nat} {bZ:List (Poly×List AV)} {tail:List (List AV)} {p n:Poly} (y:o.op=.indexAddr t x ix) (s:eF f x=.seq sz base bZ tail) (B:toP (eF f ix)=some p) (u:P.underlying t=some (.slice e)) (hs:(P.info? e).map (·.size)=some sz)
  (z:nO h (.seq sz base bZ tail)=some n) (v:ahT p n=true):dX P o f h ⟨.vH sz base bZ tail p 0,[],[]⟩:=by
 refine cK fun m A w a H F=>?_;have g:=F.eval x;rw[s]at g;have e2:=toP_ok B (F.eval ix);obtain⟨p0,p1⟩:=ado v;obtain⟨M,len,cap,I,J⟩:=OT H z g;obtain⟨k,E⟩:=g.Ly;cases d:P.info? e with
 |none=>simp_all
 |some G =>
  simp only[d,a0s,a0i]at hs;obtain⟨K,N,mX,c⟩|⟨b,off,mX,vs,c,D,C,L,i,r,l,q⟩:=E.pW
  .grind
  .have j:cI Ev.eW p<((rowsOf base bZ tail).length:Int):=by simp_all
   refine⟨.pointer (some ⟨b,off+((cI Ev.eW p).toNat*sz+0),none⟩),?_,.pure _ _ (.vH sz base bZ tail p 0 _ k rfl p0 (.iY sz _ _ 0 b off vs D C i r l q))⟩;simp[execOp,y,c,e2,Instr.indexAt,asIntOf,run_underlying u,p0,j,sizeOf,typeInfo,d,hs,iM]
def EF {t e:TypeId} {ix:Operand} {T sz:Nat} {p n:Poly} (u:o.op=.indexAddr t x ix) (q:eF f x=.dD T sz id n) (v:toP (eF f ix)=some p) (r:P.underlying t=some (.slice e)) (hs:(P.info? e).map (·.size)=some sz)
  (i:nO h (.dD T sz id n)=some n) (s:ahT p n=true):dX P o f h ⟨.nP sz id p 0,[],[id]⟩:=by
 refine cK fun m A w a H F=>?_;have j:=F.eval x;rw[q]at j;have e2:=toP_ok v (F.eval ix);obtain⟨p0,p1⟩:=ado s;cases d:P.info? e with
 |none=>simp_all
 |some C =>
  simp only[d,a0s,a0i]at hs;simp only[nO]at i;split at i
  .rename_i B c base bZ tail n' y
   split at i
   .rename_i z
    obtain⟨rfl,rfl,rfl⟩:=z;rcases H.wV id B c (rowsOf base bZ tail) (by rw[y];rfl)with⟨g,D⟩|⟨b,cs,k,-⟩
    .obtain⟨a,-,e⟩:=j.wC g
     omega
    .obtain⟨len,cap,e,g,-⟩:=j.Fc k
     have l:cI Ev.eW p<(len:Int):=(by omega);refine⟨.pointer (some ⟨b,(cI Ev.eW p).toNat*c+0,none⟩),?_,.nP c id p 0 b k (H.lt k)⟩;simp[execOp,u,g,e2,Instr.indexAt,asIntOf,run_underlying r,p0,l,sizeOf,typeInfo,d,hs,iM]
   simp_all
  simp_all
def CG [Bk] (h:AH):AV->Option (Nat×Nat×List AV)
 | .vH a base bZ tail p off=>(rowAt base bZ tail p).map fun r=>(a,off,r)
 | .nP a id p off=>match h id with
  | .sc _ b base bZ tail _=>if b=a/\TU p=some false then(rowAt base bZ tail p).map fun r=>(a,off,r)else none
  |_=>none
 |_=>none
def Mn (k:Nat):AV->AV
 | .vH a base bZ tail p off=>.vH a base bZ tail p (off+k)
 | .nP a id p off=>.nP a id p (off+k)
 |x=>x
def Lz {w:World} (H:dU m A h w) {x:AV} {sz:Nat} {r:List AV} {v:Value} (a:CG h x=some (sz,off,r)) (e:Rd m A w x v) :
  ∃b d,∃vs:Nat->Value,v=.pointer (some ⟨b,d+off,none⟩)/\(∀j y,r[j]?=some y->y.one=true/\w.cell? ⟨b,d+j,none⟩=some (vs j)/\Rd m A w y (vs j))/\∀k,Rd m A w (Mn k x) (.pointer (some ⟨b,d+(off+k),none⟩)):=by
 unfold CG at a;split at a
 .rename_i B base bZ tail p q
  rw[a1c]at a;obtain⟨r',f,u⟩:=a;cases u;cases e with
  |pure _ _ e =>
   cases e with
   |vH _ _ _ _ _ _ _ c R g e =>
    obtain⟨r0,D,s⟩:=Mx c g f;cases e with
    |iY _ _ _ _ b d vs L K E o G C =>
     refine⟨b,d+(cI Ev.eW p).toNat*sz,vs (cI Ev.eW p).toNat,by simp_all,?_,?_⟩
     .intro j y t
      obtain⟨x,a,i⟩:=s.2 j y t;have l:iE (rowsOf base bZ tail) (cI Ev.eW p).toNat j=some x:=(by simp_all[iE]);refine⟨by rw[<-i.one];grind,?_,.pure _ _ (i.rdL (C _ _ _ l))⟩
      grind
     .intro k
      refine .pure _ _ (.vH sz base bZ tail p (off+k) _ c rfl g ?_);have:=eC.iY (A:=Av m A) (w:=w) sz (rowsOf base bZ tail) (cI Ev.eW p).toNat (off+k) b d vs L K E o G C
      grind
 .rename_i B id p q
  split at a
  .rename_i T O base bZ tail n F
   split at a
   .rename_i J
    obtain⟨rfl,g⟩:=J;have g:=of_decide_eq_false (pO g).symm;rw[a1c]at a;obtain⟨r',f,u⟩:=a;cases u;obtain⟨Q,c⟩:=H.IL F;obtain⟨r0,D,s⟩:=Mx c (by omega) f;obtain⟨b,cs,z,U,S,N,M⟩:=H.Ta F D;refine⟨b,(cI Ev.eW p).toNat*sz,fun j=>cs.getD ((cI Ev.eW p).toNat*sz+j) Go.undef,e.adT z,?_,?_⟩
    .intro j y t
     obtain⟨x,a,i⟩:=s.2 j y t;have l:iE (rowsOf base bZ tail) (cI Ev.eW p).toNat j=some x:=(by simp_all[iE]);obtain⟨o,I⟩:=M _ _ _ l;refine⟨by rw[<-i.one];exact o,?_,i.rd I⟩;have:=(kG l N).2.2;have P:(cI Ev.eW p).toNat*sz+j<cs.size:=by omega
     simp_all[World.cell?]
    .intro k
     exact .nP sz id p (off+k) b z (H.lt z)
   simp_all
  simp_all
 simp_all
def aeD {t:TypeId} {sz:Nat} {r:List AV} {v:AV} {xC:List Nat} (j:o.op=.load t x) (e:CG h (eF f x)=some (sz,off,r)) (g:mM P t r off=some v):dX P o f h ⟨v,[],xC⟩:=by
 refine cK fun m A w a H F=>?_;obtain⟨b,c,vs,i,d,-⟩:=Lz H e (F.eval x);obtain⟨u,r1,r2⟩:=xZ (P:=P) (m:=m) (A:=A) (w:=w) (b:=b) (o0:=c) (vs:=vs) g d
 simp_all[execOp,Instr.loadAt,Instr.sureAddr]
def Oj {sz:Nat} {r:List AV} {xC:List Nat} (j:o.op=.nilCheck x) (c:CG h (eF f x)=some (sz,off,r)):dX P o f h ⟨eF f x,[],xC⟩:=by
 refine cK fun m A w a H F=>?_;have d:=F.eval x;obtain⟨b,e,vs,i,g,-⟩:=Lz H c d;simp_all[execOp]
def MX {t:TypeId} {k d c n sz:Nat} {r:List AV} {xC:List Nat} (j:o.op=.fieldAddr t x k) (g:CG h (eF f x)=some (sz,off,r)) (p:nM P t k=some (d,c,n)) (l:n≠0):dX P o f h ⟨Mn c (eF f x),[],xC⟩:=by
 refine cK fun m A w a H F=>?_;obtain⟨b,q,vs,i,-,e⟩:=Lz H g (F.eval x);refine⟨_,?_,e c⟩;rw[<-a2r];simp[execOp,j,i,zV p l]
def MW {t e:TypeId} {ix:Operand} {sz len s:Nat} {r:List AV} {k:IntKind} {n:Int} {xC:List Nat} (u:o.op=.indexAddr t x ix) (l:CG h (eF f x)=some (sz,off,r)) (v:eF f ix=.c (.int k n)) (q:P.underlying t=some (.array len e)) (hs:(P.info? e).map (·.size)=some s) (y:0<=n) (C:n.toNat<len) :
  dX P o f h ⟨Mn (n.toNat*s) (eF f x),[],xC⟩:=by
 refine cK fun m A w a H F=>?_;have i:=F.eval ix;rw[v]at i;have e2:=i.fK;obtain⟨b,B,vs,p,-,j⟩:=Lz H l (F.eval x);cases d:P.info? e with
 |none=>simp_all
 |some z =>
  simp only[d,a0s,a0i]at hs;have g:n<(len:Int):=by omega
  refine⟨_,?_,j (n.toNat*s)⟩;simp[execOp,u,p,e2,Instr.indexAt,asIntOf,run_underlying q,y,g,sizeOf,typeInfo,d,hs,iM,Instr.sureAddr,a2r]
def aeg {w:World} (H:dU m A h w) {T sz i b:Nat} {bG:List (List AV)} {e J xs:List AV} {us:Array Value} {B:dI} (N:(h id).bG=some (T,sz,bG)) (C:m id=.at b) (O:bG[i]?=some J) (g:PN J e) (o:CR (Rd m A w) xs us) (hl:off+xs.length<=sz)
  (S:B.bG=some (T,sz,bG.set i (nN e off xs))) (R:rW B) :
  ∃w',(storeCells ⟨b,i*sz+off,none⟩ us.toList).run P w=.ok () w'/\dU m A (gO h id B) w'/\Ext m w m w':=by
 obtain⟨s,-⟩|⟨b',cs,I,r,g3,W,V⟩:=H.wV id T sz bG N
 .simp_all
 rw[C]at I;cases I;have G:i<bG.length:=(a0y.1 O).1;have Z:e.length=sz:=by rw[<-g.1];grind
 have p:(i+1)*sz<=bG.length*sz:=a1q _ G;rw[a2h]at p;have t:us.toList.length=xs.length:=by simpa using o.1
 have q:i*sz+off+0+us.toList.length<=cs.size:=by omega
 have U:∀v∈us.toList,v.oneCell'=true:=by
  intro v s;obtain⟨k,F,rfl⟩:=a3u s;have E:k<xs.length:=by omega
  have:=o.2 k xs[k] (by simp[E]);have:=this.2.one this.1
  simp_all
 have z:=run_storeCells_at P b (i*sz+off) T us.toList 0 cs w r q U;refine⟨_,z,?_⟩;have u:(cs.toList.take (i*sz+off+0)++us.toList++cs.toList.drop (i*sz+off+0+us.toList.length)).toArray.size=cs.size:=by grind
 have c:∀k,(cs.toList.take (i*sz+off+0)++us.toList++cs.toList.drop (i*sz+off+0+us.toList.length)).toArray.getD k Go.undef=if i*sz+off<=k/\k<i*sz+off+xs.length then us.getD (k-(i*sz+off)) Go.undef else cs.getD k Go.undef:=by
  intro k;have:=sU (cs:=cs.toList) (off:=i*sz+off) (xs:=us.toList) (by omega) k;unfold nN at this;have e1:∀(l:List Value),l.toArray.getD k Go.undef=(l[k]?).getD Go.undef:=by simp_all
  rw[e1,a2q,this,t];split<;>simp_all
 refine H.afz S R C (setRow_heap w b cs _ T _ r) r u (fun k F=>setRow_other w b k _ F) rfl rfl rfl (by simp) ?_ ?_ ?_
 .simp_all
 .grind[xM]
 .intro d j x a
  unfold iE at a;rw[a0o]at a;split at a
  .rename_i n
   subst n;simp only[G,if_true,a1p]at a;rw[sU (by omega)]at a;rw[c];split at a
   .rename_i M
    rw[if_pos (by omega)];have:=o.2 _ _ a;refine⟨this.1,?_⟩;rw[show i*sz+j-(i*sz+off)=j-off by omega];simp_all
   .rename_i M
    obtain⟨y,hy,f⟩:=g.2 j x a;obtain⟨L,K⟩:=V i j y (by simp_all[iE]);have X:j<sz:=(by grind);rw[if_neg (by omega)];exact⟨by rw[<-f.one];exact L,f.rd K⟩
  .rename_i n
   have Q:iE bG d j=some x:=a;have hb:=kG Q W;rw[c,if_neg]
   .grind
   .rintro⟨k1,k2⟩
    rcases a0z d i with D|Y
    .have:(d+1)*sz<=i*sz:=a1q _ D
     grind
    .have:(i+1)*sz<=d*sz:=a1q _ (by omega)
     grind
def xJ [Bk] (h:AH) (x:AV) (xs:List AV):Option (Nat×dI):=match x with
 | .nP a id p off=>match h id with
  | .sc T b base bZ tail n=>if b=a/\off+xs.length<=a/\TU p=some false then match rowAt base bZ tail p with
    |some e=>match aaL base bZ tail p (nN e off xs)with
     |some q=>some (id,.sc T a base q.1 q.2 n)
     |none=>none
    |none=>none
   else none
  |_=>none
 |_=>none
def abn {t:TypeId} {y:Operand} {xs:List AV} {q:Nat×dI} {xC:List Nat} (V:o.op=.store t x y) (G:jF (eF f y)=some xs) (K:(P.info? t).map (·.size)=some xs.length) (c:xJ h (eF f x) xs=some q):dX P o f h ⟨.undef,[q],xC⟩:=by
 intro m A w a H F;unfold xJ at c;split at c
 .rename_i R id p off I
  split at c
  .rename_i T j base bZ tail n i
   split at c
   .rename_i O
    obtain⟨rfl,L,l⟩:=O;have l:=of_decide_eq_false (pO l).symm;split at c
    .rename_i e N
     split at c
     .rename_i u J
      cases c;obtain⟨z,v⟩:=u;obtain⟨W,d⟩:=H.IL i;obtain⟨r0,k,E⟩:=Mx d (by omega) N;obtain⟨S,C,-⟩:=aem d J;obtain⟨b,cs,s,-⟩:=H.Ta i k;have r:=F.eval x;rw[I]at r;have U:=r.adT s;have g:=pE (F.eval y) G;obtain⟨w',r1,r2,D⟩:=aeg (P:=P) H (B:=.sc T j base z v n) (by rw[i];rfl) s k E g L (by simp_all[dI.bG]) ⟨by simp_all,C⟩;cases M:P.info? t with
      |none=>simp_all
      |some Q =>
       simp only[M,a0s,a0i]at K;refine⟨Go.undef,w',m,.inr ⟨?_,rfl⟩,r2,.pure _ _ .undef,D⟩;have hs:(a.eval y).cells.size=xs.length:=g.1
       simp_all[execOp,Instr.storeAt,Instr.sureAddr,storeVar,sizeOf,typeInfo]
     simp_all
    simp_all
   simp_all
  simp_all
 simp_all
end
end
end Mc
namespace Mc
variable {k:List (Nat×dI)} {nx:Nat} {h':AH} {x:AV} {ρ:Operand->AV}
section
variable {P:Program} {o:Oper} {f:List AV} {h:AH}
def yO [Bk] [Ev] (h:AH) (x:AV) (e sz:Nat) (bG:List (List AV)) (k:List (Nat×dI)):Prop :=
 ∀m A w v,dU m A h w->Rd m A w x v->(k=[]/\bG=[]/\∃a0,v=.slice a0 0 0) \/
  ∃id,k=[(id,.dead)]/\(h id).bG=some (e,sz,bG)/\((m id=.uK/\∃a0,v=.slice a0 0 0)\/∃b cap,m id=.at b/\v=.slice (some ⟨b,0,none⟩) bG.length cap/\bG.length<=cap/\cap<=maxLen/\cap*sz=gW w b)
def Fk [Bk] [Ev] (h:AH) (y:AV) (sz:Nat) (ys:List (List AV)):Prop :=
 ∀m A w v,dU m A h w->Rd m A w y v->(∀q∈ys,q.length=sz)/\∃a cap,v=.slice a ys.length cap/\ys.length<=cap/\(a=none->ys=[])/\∃b:List Value,b.length=ys.length*sz/\(∀c,a=some c->∀j u,b[j]?=some u->w.cell? (c.add j)=some u)/\(∀u∈b,u.oneCell'=true) /\
   ∀(i j:Nat) (y:AV),iE ys i j=some y->y.one=true/\Rd m A w y (b.getD (i*sz+j) Go.undef)
theorem Fk.bG [Bk] [Ev] {y:AV} {sz:Nat} {ys:List (List AV)} (c:jX h y=some ys) (a:∀q∈ys,q.length=sz) (b:∀T s id j n,y=.own T s id j n->s=sz):Fk h y sz ys :=
 fun m A w v H d=>⟨a,aaC H d c a b⟩
theorem Fk.seq [Bk] [Ev] {sz base:Nat} {bZ:List (Poly×List AV)} {tail:List (List AV)}:Fk h (.seq sz base bZ tail) sz (rowsOf base bZ tail):=by
 intro m A w v H d;obtain⟨e,c⟩:=d.Ly;have a:∀q∈rowsOf base bZ tail,q.length=sz:=by
  obtain⟨f,-⟩|⟨b,off,cap,vs,-,-,-,-,a,-⟩:=c.pW<;>simp_all
 exact⟨a,aaC (bG:=rowsOf base bZ tail) H c rfl a (by simp_all)⟩
def Fk.dD [Bk] [Ev] {T sz id base:Nat} {n n':Poly} {bZ:List (Poly×List AV)} {tail:List (List AV)} (p:h id=.sc T sz base bZ tail n') (d:n'=n):Fk h (.dD T sz id n) sz (rowsOf base bZ tail):=by
 subst d;intro m A w v H l;obtain⟨o,G⟩:=H.IL p;rcases H.wV id T sz (rowsOf base bZ tail) (by rw[p];rfl)with⟨x,M⟩|⟨b,cs,F,L,K,g,E⟩
 .obtain⟨a,rfl,e⟩:=l.wC x
  simp_all[iE]
 .obtain⟨len,cap,e,rfl,d,-,B⟩:=l.Fc F
  have f:len=(rowsOf base bZ tail).length:=by omega
  subst f;have s:cap*sz=cs.size:=by simp_all[gW]
  have o:(cs.toList.take ((rowsOf base bZ tail).length*sz)).length=(rowsOf base bZ tail).length*sz:=by simp_all
  have q:∀(i j:Nat) (y:AV),iE (rowsOf base bZ tail) i j=some y->y.one=true/\Rd m A w y ((cs.toList.take ((rowsOf base bZ tail).length*sz)).getD (i*sz+j) Go.undef):=by
   intro i j y c;have C:=kG c g;obtain⟨t,I⟩:=E _ _ _ c;refine⟨t,?_⟩
   have:(cs.toList.take ((rowsOf base bZ tail).length*sz)).getD (i*sz+j) Go.undef=cs.getD (i*sz+j) Go.undef:=by
    rw[List.getD,a19,if_pos C.2.2];simp
   simp_all
  refine⟨g,some ⟨b,0,none⟩,cap,rfl,d,(fun h=>by cases h),_,o,?_,?_,q⟩
  .grind[iM,World.cell?]
  .intro u z
   obtain⟨k,J,rfl⟩:=a3u z;obtain⟨y,c⟩:=flat_get g (k:=k) (by omega);obtain⟨D,r⟩:=q _ _ _ c;have e1:k/sz*sz+k%sz=k:=by rw[a2z];exact a3v k sz
   rw[e1]at r;have:=r.one D
   grind
section
variable [Bk] [Ev]
def yO.emp {e sz:Nat}:yO h .emp e sz [] []:=by
 intro m A w v H a;cases a with|pure _ _ a=>cases a<;>simp_all
def yO.own [Bk] [Ev] {T s id n:Nat} {bG:List (List AV)} (e:h id=.cells T s bG) (i:n=bG.length):yO h (.own T s id 0 n) T s bG [(id,.dead)]:=by
 subst i;intro m A w v H c;refine .inr ⟨id,rfl,by rw[e];rfl,?_⟩;rcases H.cells id _ _ _ e with⟨f,rfl⟩|⟨b,cs,j,t,r,q,p⟩
 .refine .inl ⟨f,?_⟩
  cases c with
  |pure _ _ h=>cases h
  |own _ _ _ _ _ b _ d=>simp_all
  |vN _ _ _ _ a d=>simp_all
  |wK _ _ _ _ _ _ _ _ d=>simp_all
 .obtain⟨cap,k,l,o,g⟩:=c.vU j
  simp_all
def yO.dD [Bk] [Ev] {T s id base:Nat} {n n':Poly} {bZ:List (Poly×List AV)} {tail:List (List AV)} (c:h id=.sc T s base bZ tail n') (f:n'=n):yO h (.dD T s id n) T s (rowsOf base bZ tail) [(id,.dead)]:=by
 subst f;intro m A w v H d;obtain⟨p,l⟩:=H.IL c;refine .inr ⟨id,rfl,by rw[c];rfl,?_⟩;rcases H.wV id T s (rowsOf base bZ tail) (by rw[c];rfl)with⟨g,x⟩|⟨b,cs,k,u,t,r,q⟩
 .obtain⟨a,rfl,e⟩:=d.wC g
  simp_all
 .obtain⟨len,cap,e,rfl,f,o,i⟩:=d.Fc k
  have j:len=(rowsOf base bZ tail).length:=by omega
  simp_all
def uW {t e:TypeId} {x y:Operand} {bG ys:List (List AV)} {xC:List Nat} {i:TypeInfo} {z:Value} {B:dI} {n:Poly} (ho:o.op=.call { callee:=.builtin .append,args:=#[x,y],argTypes:=#[t,t] }) (Z:P.underlying t=some (.slice e)) (hi:P.info? e=some i) (hz:i.zero=some z) (af:z.cells.size=i.size) (av:0<i.size)
  (hx:yO h (eF f x) e i.size bG k) (hy:Fk h (eF f y) i.size ys) (hb:(bG.length+ys.length)*i.bytes<=140737488355328) (hm:bG.length+ys.length<=1099511627776) (aj:h nx=.no)
  (hB:B.bG=some (e,i.size,bG++ys)) (aD:∀m A w v u,dU m A h w->Rd m A w (eF f x) v->Rd m A w (eF f y) u->rW B/\cI Ev.eW n=((bG.length+ys.length:Nat):Int)) :
  dX P o f h ⟨.dD e i.size nx n,k++[(nx,B)],xC⟩:=by
 intro m A w a H F;have gx:=F.eval x;have gy:=F.eval y;obtain⟨hS,hn⟩:=aD m A w _ _ H gx gy;obtain⟨ag,X,W,ah,aK,ay,c,hl,J,ap,ai⟩:=hy m A w _ H gy;have d:∀v w',(Builtin.append_ #[t,t] o.type #[a.eval x,a.eval y]).run P w=.ok v w'->(execOp a.eval o).run P w=.ok (.value v) w':=by
  intro v w' s;simp[execOp,ho,resolve,invoke,builtin,s]
 have ae:∀(m1:Nat->St) (h1:AH) (hk:fZ h (k++[(nx,B)])=gO h1 nx B) (H1:dU m1 A h1 w) (E1:Ext m w m1 w) (G:h1 nx=.no) (a0:Option Addr) (r:a.eval x=.slice a0 0 0) (he:bG=[]),
   ∃C w' E,((execOp a.eval o).run P w=.ok (.value C) w'\/((execOp a.eval o).run P w=.ok .skip w'/\C=Go.undef))/\dU E A (fZ h (k++[(nx,B)])) w'/\Rd E A w' (.dD e i.size nx n) C/\Ext m w E w':=by
  intro m1 h1 hk H1 E1 G a0 r he;subst he;rw[hk];rw[r,ah]at d;simp only[a20,a02,a35]at hm hb hn hB |-;by_cases N:ys=[]
  .subst N
   have s:=nK (P:=P) (.slice a0 0 0) a0 X 0 0 W t o.type e i Z hi w (a0g _) (fun _=>rfl);obtain⟨M,L⟩:=H1.LZ G hB hS;refine⟨_,w,_,.inl (d _ _ s),M,?_,E1.trans L⟩;exact .uP e i.size nx n a0 (by simp[sset]) (by omega)
  .have an:0<ys.length:=a3d.2 N
   obtain⟨I,rfl⟩:∃I,X=some I:=by
    cases X<;>simp_all
   have s:=zH (P:=P) a0 t o.type e i z Z hi hz w I ys.length W c hl (fun j v hv=>J I rfl j v hv) an (by omega) hb
   have S:ys.length<=grownCap w ys.length 0 e/\grownCap w ys.length 0 e<=maxLen:=by
    unfold grownCap Question.cut;have:=a3c (w.tape w.drawn (.appendCap ys.length 0 e)) (show 0<2 ^ 63-ys.length by omega)
    grind[maxLen]
   have aa:(c.toArray++Builtin.zeroCells z.cells (grownCap w ys.length 0 e-ys.length)).size=grownCap w ys.length 0 e*i.size:=by
    simp only[Array.size_append,List.size_toArray,hl,Builtin.zeroCells,Array.size_map,Array.size_range,af];rw[<-a2y];simp_all
   obtain⟨d1,d2⟩:=H1.drew;obtain⟨M,L⟩:=d1.aiR (id:=nx) (T:=e) (sz:=i.size) (bG:=ys) (cs:=c.toArray++Builtin.zeroCells z.cells (grownCap w ys.length 0 e-ys.length)) hB hS G (by grind) ag (by
    intro p j y l;obtain⟨r1,r2⟩:=ai p j y l;have U:=kG l ag;have e1:(c.toArray++Builtin.zeroCells z.cells (grownCap w ys.length 0 e-ys.length)).getD (p*i.size+j) Go.undef=c.getD (p*i.size+j) Go.undef:=by
     simp_all[a1z]
    rw[e1];exact⟨r1,(r2.ext E1).ext d2⟩)
   refine⟨_,_,_,.inl (d _ _ s),M,?_,(E1.trans d2).trans L⟩
   exact .dD e i.size nx n w.heap.size ys.length (grownCap w ys.length 0 e) (by simp[sset]) (by simp) hn S.1 S.2 (by
    rw[<-aa];have:(w.drew.alloc (.cells (c.toArray++Builtin.zeroCells z.cells (grownCap w ys.length 0 e-ys.length)) e)).heap[w.heap.size]?=some (.cells (c.toArray++Builtin.zeroCells z.cells (grownCap w ys.length 0 e-ys.length)) e (0,0)):=by
     show(w.heap.push _)[w.heap.size]?=_;simp
    simp_all[gW])
 obtain⟨rfl,he,a0,r⟩|⟨id,rfl,az,K⟩:=hx m A w _ H gx
 .exact ae m h (by simp[fZ]) H (Ext.refl _ _) aj a0 r he
 .have aI:nx≠id:=by grind[dI.bG]
  rcases H.wV id _ _ _ az with⟨hv,e0⟩|⟨b,cs,g1,g2,g3,g4,g5⟩
  .obtain⟨-,a0,r⟩|⟨b,cap,O,-⟩:=K
   .obtain⟨M,L⟩:=H.kill hv
    grind[fZ,lQ]
   simp_all
  .obtain⟨aJ,-⟩|⟨b',cap,O,r,ak,aC,aE⟩:=K
   .simp_all
   rw[g1]at O;cases O;have ab:cap*i.size=cs.size:=(by simp_all[gW])
   have ao:w.ownsRow 0 e i.size (.slice (some ⟨b,0,none⟩) bG.length cap) bG.length (cs.toList.take (bG.length*i.size)):=by
    refine⟨by grind,.inr ⟨b,cap,cs,rfl,a0n _,g2,ak,aC,ab.symm,rfl⟩⟩
   rw[r,ah]at d;have au:(cs.toList.take (bG.length*i.size)).length=bG.length*i.size:=by grind
   have am:∀(p j:Nat) (y:AV),iE bG p j=some y->y.one=true/\Rd m A w y ((cs.toList.take (bG.length*i.size)).getD (p*i.size+j) Go.undef):=by
    intro p j y l;have U:=kG l g4;have:=g5 p j y l;rw[List.getD,a19,if_pos U.2.2];simpa using this
   have ac:=OW (R:=Rd m A w) (ys:=ys) g4 (us:=cs.toList.take (bG.length*i.size)) (vs:=c) au am ai
   have V:∀q∈bG++ys,q.length=i.size:=by
    grind
   have fin:∀(D:Value) (w':World),(Builtin.append_ #[t,t] o.type #[.slice (some ⟨b,0,none⟩) bG.length cap,.slice X ys.length W]).run P w=.ok D w'->w'.ownsRow 0 e i.size D (bG.length+ys.length) (cs.toList.take (bG.length*i.size)++c)->w.grownBy w' (some b) ->
     (D.ownBlock=some b\/D.ownBlock=some w.heap.size) ->
     ∃C w' E,((execOp a.eval o).run P w=.ok (.value C) w'\/((execOp a.eval o).run P w=.ok .skip w'/\C=Go.undef))/\dU E A (fZ h ([(id,.dead)]++[(nx,B)])) w'/\Rd E A w' (.dD e i.size nx n) C/\Ext m w E w':=by
    intro D w' s aw aA aF;obtain⟨aH,aG|⟨g,mX,al,rfl,-,hg,ax,ar,CU,Y⟩⟩:=aw
    .grind[Value.ownBlock]
    .have aB:g=b\/w.heap.size<=g:=by
      grind[Value.ownBlock]
     have Q:g<w'.heap.size:=by
      grind
     obtain⟨M,L⟩:=H.agh (id:=id) (nx:=nx) (g:=g) (cs':=al) hB hS g1 aj aA aB Q hg (by rw[a1o,CU];grind) V (by
      intro p j y l;have U:=kG l V;obtain⟨r1,r2⟩:=ac p j y l;refine⟨r1,?_⟩
      have:(cs.toList.take (bG.length*i.size)++c).getD (p*i.size+j) Go.undef=al.getD (p*i.size+j) Go.undef:=by
       rw[<-Y,List.getD,a19,if_pos (by grind)];simp
      grind)
     refine⟨_,w',_,.inl (d _ _ s),by simpa[fZ]using M,?_,L⟩;exact .dD e i.size nx n g (bG.length+ys.length) mX (by simp[sset]) Q hn ax ar (by grind[gW])
   cases X with
   |none =>
    have:=ay rfl;subst this;have s:=nK (P:=P) (.slice (some ⟨b,0,none⟩) bG.length cap) (some ⟨b,0,none⟩) none bG.length cap W t o.type e i Z hi w ak (by grind);have aq:c=[]:=(by simpa using hl);subst aq;refine fin _ _ s ?_ ⟨rfl,rfl,rfl,a0g _,fun _ _ _=>rfl⟩ (.inl rfl)
    grind
   |some I =>
    obtain⟨D,w',r1,r2,r3,r4,r5⟩:=run_append_own_at (P:=P) w 0 t o.type e i z i.size i.bytes Z hi hz rfl rfl af av (.slice (some ⟨b,0,none⟩) bG.length cap) bG.length _ ao I ys.length W c hl (fun j u hu=>J I rfl j u hu) ap (by grind[maxLen]) hb (a0n _);exact fin D w' r1 r2 r3 (by simpa[Value.ownBlock]using r5)
def nA [Bk] (h:AH):AV->Option (Nat×Nat×List (Poly×List AV)×List (List AV)×Poly)
 | .seq a base bZ tail=>(lenOf base Bk.lens).map fun n=>(a,base,bZ,tail,wJ n (zM tail.length))
 | .dD T a id n=>match h id with
  | .sc c b base bZ tail n'=>if c=T/\b=a/\n'=n then some (a,base,bZ,tail,n)else none
  |_=>none
 |_=>none
def Lv [Bk] {h:AH} (e:∀id∈Lq x,h' id=h id):nA h' x=nA h x:=by
 cases x<;>simp only[nA]
 simp_all[Lq]
def Ah {h:AH} {sz base:Nat} {bZ:List (Poly×List AV)} {tail:List (List AV)} {n:Poly} (a:nA h x=some (sz,base,bZ,tail,n)):Fk h x sz (rowsOf base bZ tail):=by
 unfold nA at a;split at a
 .rw[a1c]at a
  obtain⟨e,f,c⟩:=a;cases c;exact .seq
 .split at a
  .rename_i b
   split at a
   .rename_i d
    obtain⟨rfl,rfl,rfl⟩:=d;cases a;exact .dD b rfl
   simp_all
  simp_all
 simp_all
def L9 {h:AH} {sz base:Nat} {bZ:List (Poly×List AV)} {tail:List (List AV)} {n:Poly} (a:nA h x=some (sz,base,bZ,tail,n)) {m:Nat->St} {A:Nat->Prop} {w:World} {v:Value} (H:dU m A h w) (b:Rd m A w x v) :
  (∀q∈bZ,InB base q.1)/\cI Ev.eW n=((rowsOf base bZ tail).length:Int):=by
 unfold nA at a;split at a
 .rw[a1c]at a
  obtain⟨g,f,d⟩:=a;cases d;have l:=Au f;have i:=iU base bZ tail;exact⟨b.Ly.1,by simp_all[qE,tS]⟩
 .split at a
  .rename_i c
   split at a
   .rename_i e
    obtain⟨rfl,rfl,rfl⟩:=e;cases a;obtain⟨k,j⟩:=H.IL c;grind
   simp_all
  simp_all
 simp_all
def Xi [Bk] (n:Poly) (bytes:Nat):Bool:=decide ((bnd n).2*bytes<=140737488355328)&&decide ((bnd n).2<=1099511627776)
def LO {n:Poly} {bytes len:Nat} (h:Xi n bytes=true) (a:cI Ev.eW n=(len:Int)):len*bytes<=140737488355328/\len<=1099511627776:=by
 unfold Xi at h;rw[a0e,decide_eq_true_eq,decide_eq_true_eq]at h;have k:=(It n).2;have:(len:Int)*bytes<=(bnd n).2*bytes:=a2k (by omega) (a4h _);omega
def RH (h:AH) (e sz:Nat):AV->Option (List (Nat×dI)×List Nat)
 | .emp=>some ([],[])
 | .own T s id 0 0=>match h id with
  | .cells b a []=>if b=T/\a=s/\T=e/\s=sz then some ([(id,.dead)],[id])else none
  |_=>none
 |_=>none
def aj1 {h:AH} {e sz:Nat} {rd:List Nat} (a:RH h e sz x=some (k,rd)):yO h x e sz [] k:=by
 unfold RH at a;split at a
 .cases a;exact .emp
 .split at a
  .rename_i b
   split at a
   .rename_i c
    obtain⟨rfl,rfl,rfl,rfl⟩:=c;cases a;exact .own b rfl
   simp_all
  simp_all
 simp_all
def vB [Bk] (P:Program) (t:TypeId) (x y:AV) (h:AH) (nx:Nat):Option AR :=
 match P.underlying t with
 |some (.slice e)=>match P.info? e with
  |some i=>match i.zero with
   |some z=>if z.cells.size=i.size/\0<i.size/\lN h nx=true then match nA h y with
     |some (j,base,bZ,tail,n)=>match RH h e i.size x with
      |some (k,rd)=>if j=i.size/\Xi n i.bytes=true then some ⟨.dD e i.size nx n,k++[(nx,.sc e i.size base bZ tail n)],nx::rd++Lq y⟩else none
      |none=>match x with
       | .dD T s id a=>match h id with
        | .sc g d c [] [] f=>match Bk.ae5.find? fun t=>t.1==c&&t.2.1==base with
         |some q=>if bZ.isEmpty=true/\tail.isEmpty=true/\g=T/\d=s/\f=a/\T=e/\s=i.size/\j=i.size/\Xi (wJ a n) i.bytes=true then
           some ⟨.dD e i.size nx (wJ a n),[(id,.dead)]++[(nx,.sc e i.size q.2.2 [] [] (wJ a n))],nx::id::Lq y⟩else none
         |none=>none
        |_=>none
       |_=>none
     |none=>match x with
      | .dD T s id a=>match h id with
       | .sc g d base bZ tail f=>match jX h y with
        |some b=>if g=T/\d=s/\f=a/\T=e/\s=i.size/\(b.all fun q=>q.length==i.size)=true/\MS y i.size=true/\Xi (wJ a (zM b.length)) i.bytes=true then
          some ⟨.dD e i.size nx (wJ a (zM b.length)),[(id,.dead)]++[(nx,.sc e i.size base bZ (tail++b) (wJ a (zM b.length)))],nx::id::uM y⟩else none
        |none=>none
       |_=>none
      |_=>none
    else none
   |none=>none
  |none=>none
 |_=>none
def aci {t:TypeId} {x y:Operand} {r:AR} (S:o.op=.call { callee:=.builtin .append,args:=#[x,y],argTypes:=#[t,t] }) (b:vB P t (eF f x) (eF f y) h nx=some r):dX P o f h r:=by
 unfold vB at b;split at b
 .rename_i e W
  split at b
  .rename_i i V
   split at b
   .rename_i z O
    split at b
    .rename_i K
     obtain⟨c1,Z,Y⟩:=K;split at b
     .rename_i sz base bZ tail n I
      split at b
      .rename_i k rd hx
       split at b
       .rename_i G
        obtain⟨rfl,d2⟩:=G;cases b;have key:∀m A w u,dU m A h w->Rd m A w (eF f y) u->rW (.sc e i.size base bZ tail n)/\cI Ev.eW n=((rowsOf base bZ tail).length:Int):=fun m A w u H J=>by
         obtain⟨N,C⟩:=L9 I H J;exact⟨⟨C,N⟩,C⟩
        intro m A w a H F;have l:=LO d2 (key m A w _ H (F.eval y)).2
        exact uW S W V O c1 Z (aj1 hx) (Ah I) (by simp_all) (by simp_all) (lU Y) (B:=.sc e i.size base bZ tail n) rfl
         (fun m A w v u H hv J=>by grind) m A w a H F
       simp_all
      .split at b
       .rename_i T s id n0 E
        split at b
        .rename_i T' s' c p D
         split at b
         .rename_i q Q
          split at b
          .rename_i G
           obtain⟨M,L,rfl,rfl,rfl,rfl,rfl,rfl,X⟩:=G;have M:=a3q.1 M;have L:=a3q.1 L;subst M L;cases b;have R:=List.find?_some Q;have K:=Ev.cat q (List.mem_of_find?_eq_some Q);rw[a0e]at R;rw[show q.1=c from eq_of_beq R.1,show q.2.1=base from eq_of_beq R.2]at K;have g:∀k,rowsOf k [] []=Ev.seq k:=fun k=>by simp_all[rowsOf]
           have ac:rowsOf c [] []++rowsOf base [] []=rowsOf q.2.2 [] []:=by rw[g,g,g];exact K.symm
           intro m A w a H F;obtain⟨N,C⟩:=H.IL D;obtain⟨g1,g2⟩:=L9 I H (F.eval y);have e1:cI Ev.eW (wJ p n)=(((rowsOf c [] []).length+(rowsOf base [] []).length:Nat):Int):=(by simp_all[qE])
           have l:=LO X e1;refine uW S W V O c1 Z (by rw[E];exact .dD D rfl) (Ah I) l.1 l.2 (lU Y) (B:=.sc T' i.size q.2.2 [] [] (wJ p n)) (by simp_all[dI.bG])
            (fun m A w v u H hv J=>⟨⟨by grind,fun t ht=>absurd ht a0b⟩,e1⟩) m A w a H F
          simp_all
         simp_all
        simp_all
       simp_all
     .split at b
      .rename_i T s id n0 E
       split at b
       .rename_i T' s' base bZ tail p D
        split at b
        .rename_i d aa
         split at b
         .rename_i G
          obtain⟨rfl,rfl,rfl,rfl,rfl,d3,d4,X⟩:=G;cases b;have U:∀q∈d,q.length=i.size:=fun q Q=>by simp_all
          have ac:rowsOf base bZ tail++d=rowsOf base bZ (tail++d):=(by simp_all[rowsOf]);intro m A w a H F;obtain⟨N,C⟩:=H.IL D;have e1:cI Ev.eW (wJ p (zM d.length))=(((rowsOf base bZ tail).length+d.length:Nat):Int):=by simp_all[qE,tS]
          have l:=LO X e1;refine uW S W V O c1 Z (by rw[E];exact .dD D rfl) (.bG aa U ?_) l.1 l.2 (lU Y) (B:=.sc T' i.size base bZ (tail++d) (wJ p (zM d.length))) (by simp_all[dI.bG])
           (fun m A w v u H hv J=>⟨⟨by grind,C⟩,e1⟩) m A w a H F
          intro T s id j n' ab;rw[ab]at d4;simpa[MS]using d4
         simp_all
        simp_all
       simp_all
      simp_all
    simp_all
   simp_all
  simp_all
 simp_all
def iC [Bk] (P:Program) (op:Op) (ρ:Operand->AV) (h:AH) (nx:Nat):Option AR :=
 match op with
 | .load t x=>match CG h (ρ x)with
  |some q=>match mM P t q.2.2 q.2.1 with
   |some v=>some ⟨v,[],Lq (ρ x)⟩
   |none=>none
  |none=>none
 | .nilCheck x=>match CG h (ρ x)with
  |some _=>some ⟨ρ x,[],Lq (ρ x)⟩
  |none=>none
 | .fieldAddr t x k=>match nM P t k with
  |some (_,g,n)=>if n≠0 then match CG h (ρ x)with
    |some _=>some ⟨Mn g (ρ x),[],Lq (ρ x)⟩
    |none=>none
   else none
  |none=>none
 | .indexAddr t x ix=>match P.underlying t with
  |some (.slice e)=>match toP (ρ ix)with
   |some p=>match nO h (ρ x)with
    |some n=>if ahT p n=true then match ρ x with
      | .seq a base bZ tail=>if eK P e=some a then some ⟨.vH a base bZ tail p 0,[],[]⟩else none
      | .dD T a id n'=>if eK P e=some a/\n'=n then some ⟨.nP a id p 0,[],[id]⟩else none
      |_=>none
     else none
    |none=>none
   |none=>none
  |some (.array len e)=>match eK P e,ρ ix with
   |some s,.c (.int _ n)=>if 0<=n/\n.toNat<len then match CG h (ρ x)with
     |some _=>some ⟨Mn (n.toNat*s) (ρ x),[],Lq (ρ x)⟩
     |none=>none
    else none
   |_,_=>none
  |_=>none
 | .store t x y=>match jF (ρ y)with
  |some d=>if eK P t=some d.length then match xJ h (ρ x) d with
    |some q=>some ⟨.undef,[q],Lq (ρ x)⟩
    |none=>none
   else none
  |none=>none
 | .call { callee:=.builtin b,args,argTypes }=>match b with
  | .len=>match args.toList,argTypes.toList with
   |[x],[t]=>match P.underlying t with
    |some (.slice _)=>match nO h (ρ x)with
     |some n=>some ⟨C9 n,[],Lq (ρ x)⟩
     |none=>none
    |_=>none
   |_,_=>none
  | .append=>match args.toList,argTypes.toList with
   |[x,y],[t,f]=>if f=t then vB P t (ρ x) (ρ y) h nx else none
   |_,_=>none
  |_=>none
 |_=>none
def ala {r:AR} (a:iC P o.op (eF f) h nx=some r):dX P o f h r:=by
 obtain⟨dst,op,J,L,H,guard⟩:=o;cases op with
 |load t x =>
  simp only[iC]at a;split at a
  .rename_i q d
   split at a
   .rename_i v m;cases a;exact aeD rfl d m
   simp_all
  simp_all
 |nilCheck x =>
  simp only[iC]at a;split at a
  .rename_i q d;cases a;exact Oj rfl d
  simp_all
 |fieldAddr t x k =>
  simp only[iC]at a;split at a
  .rename_i G M n F
   split at a
   .rename_i g
    split at a
    .rename_i q d;cases a;exact MX rfl d F g
    simp_all
   simp_all
  simp_all
 |indexAddr t x ix =>
  simp only[iC]at a;split at a
  .rename_i e i
   split at a
   .rename_i p m
    split at a
    .rename_i n g
     split at a
     .rename_i u
      split at a
      .rename_i B base bZ tail d
       split at a
       .rename_i hs
        cases a;rw[d]at g;exact FZ rfl d m i hs g u
       simp_all
      .rename_i T B id n' d
       split at a
       .rename_i hs
        obtain⟨hs,rfl⟩:=hs;cases a;rw[d]at g;exact EF rfl d m i hs g u
       simp_all
      simp_all
     simp_all
    simp_all
   simp_all
  .rename_i len e i
   split at a
   .rename_i s k n hs E
    split at a
    .rename_i A
     split at a
     .rename_i q d;cases a;exact MW rfl d E i hs A.1 A.2
     simp_all
    simp_all
   simp_all
  simp_all
 |store t x y =>
  simp only[iC]at a;split at a
  .rename_i I C
   split at a
   .rename_i j
    split at a
    .rename_i q D;cases a;exact abn rfl C j D
    simp_all
   simp_all
  simp_all
 |call c =>
  obtain⟨l,args,z⟩:=c;cases l with
  |builtin b =>
   cases b with
   |len =>
    simp only[iC]at a;split at a
    .rename_i x t w j
     rw[ach w,ach j];split at a
     .rename_i e i
      split at a
      .rename_i n g;cases a;exact abp rfl i g
      simp_all
     simp_all
    simp_all
   |append =>
    simp only[iC]at a;split at a
    .rename_i x y t K w j
     rw[Sr w,Sr j];split at a
     .rename_i e
      subst e;exact aci rfl a
     simp_all
    simp_all
   |_=>simp[iC]at a
  |_=>simp_all[iC]
 |_=>simp[iC]at a
end
def anQ [Bk] {op:Op} {a:Operand->AV} {h:AH} (g:∀x∈op.operands.toList,a x=ρ x):iC P op a h nx=iC P op ρ h nx:=by
 cases op with
 |call c =>
  obtain⟨d,args,f⟩:=c;cases d with
  |builtin b =>
   have e:∀x∈args.toList,a x=ρ x:=fun x i=>g x (by simp_all[Op.operands,Call.operands]);cases b<;>simp only[iC]<;>grind
  |_=>simp[iC]
 |store t x y =>
  simp_all[Op.operands,iC]
 |indexAddr t x y =>
  simp_all[Op.operands,iC]
 |load t x=>simp_all[Op.operands,iC]
 |nilCheck x=>simp_all[Op.operands,iC]
 |fieldAddr t x k=>simp_all[Op.operands,iC]
 |_=>simp[iC]
theorem S9 [Bk] {h:AH} (e:∀id∈Lq x,h' id=h id):nO h' x=nO h x:=by
 cases x<;>simp only[nO]
 simp_all[Lq]
theorem Rc [Bk] {h:AH} (e:∀id∈Lq x,h' id=h id):CG h' x=CG h x:=by
 cases x<;>simp only[CG]
 simp_all[Lq]
theorem afN [Bk] {h:AH} {xs:List AV} (e:∀id∈Lq x,h' id=h id):xJ h' x xs=xJ h x xs:=by
 cases x<;>simp only[xJ]
 simp_all[Lq]
def aeh [Bk] {h:AH} {xs:List AV} {q:Nat×dI} (a:xJ h x xs=some q):q.1∈Lq x:=by
 unfold xJ at a;grind[Lq]
def am8 [Bk] {h:AH} {e sz:Nat} {rd:List Nat} (a:RH h e sz x=some (k,rd)) (b:∀id∈rd,h' id=h id):RH h' e sz x=some (k,rd):=by
 unfold RH at a |-;grind
def aj0 [Bk] {h:AH} {e sz:Nat} {rd:List Nat} (a:RH h e sz x=some (k,rd)):k.map (·.1)=rd:=by
 unfold RH at a;grind
def afl [Bk] [Ev] {t:TypeId} {y:AV} {h:AH} {r:AR} (a:vB P t x y h nx=some r) (b:∀id∈r.xC,h' id=h id):vB P t x y h' nx=some r:=by
 unfold vB at a |-;split at a
 .rename_i e G
  split at a
  .rename_i i F
   split at a
   .rename_i z D
    split at a
    .rename_i H
     split at a
     .rename_i C base bZ tail n p
      split at a
      .rename_i k rd u
       split at a
       .rename_i j
        cases a;have g:lN h' nx=lN h nx:=qQ (b nx (by simp));have e1:=am8 u (h':=h') fun id c=>b id (by simp[c]);have e2:nA h' y=nA h y:=Lv fun id c=>b id (by simp[c])
        simp_all
       simp_all
      .split at a
       .rename_i T s id f _
        split at a
        .rename_i A m l o v
         split at a
         .rename_i q E
          split at a
          .rename_i j
           cases a;have g:lN h' nx=lN h nx:=qQ (b nx (by simp));have e1:h' id=h id:=b id (by simp);have e2:nA h' y=nA h y:=Lv fun id c=>b id (by simp[c]);have w:RH h' e i.size (.dD T s id f)=none:=rfl
           simp_all
          simp_all
         simp_all
        simp_all
       simp_all
     .rename_i p
      split at a
      .rename_i T s id f
       split at a
       .rename_i A m base bZ tail o v
        split at a
        .rename_i B d
         split at a
         .rename_i j
          cases a;have g:lN h' nx=lN h nx:=qQ (b nx (by simp));have e1:h' id=h id:=b id (by simp);have e2:jX h' y=jX h y:=Ip fun id c=>b id (by simp[c])
          have w:nA h' y=none:=by
           unfold jX at d;split at d<;>first|rfl|cases d
          simp_all
         simp_all
        simp_all
       simp_all
      simp_all
    simp_all
   omega
  omega
 omega
def anP [Bk] [Ev] {op:Op} {h:AH} {r:AR} (a:iC P op ρ h nx=some r) (g:∀id∈r.xC,h' id=h id):iC P op ρ h' nx=some r:=by
 cases op with
 |load t x =>
  grind[iC,Rc]
 |nilCheck x =>
  grind[iC,Rc]
 |fieldAddr t x k =>
  grind[iC,Rc]
 |indexAddr t x ix =>
  simp only[iC]at a |-;split at a
  .rename_i e u
   split at a
   .rename_i p w
    split at a
    .rename_i n f
     split at a
     .rename_i q
      split at a
      .rename_i i base bZ tail j
       split at a
       .rename_i hs
        cases a;rw[j]at f;have e1:nO h' (.seq i base bZ tail)=some n:=f
        simp_all
       simp_all
      .rename_i T i id n' j
       split at a
       .rename_i hs
        cases a;rw[j]at f;have e1:nO h' (.dD T i id n')=some n:=by rw[S9 (h:=h)];exact f;intro m o;exact g m (by simpa[Lq]using o)
        simp_all
       simp_all
      simp_all
     simp_all
    simp_all
   omega
  .grind[Rc]
  omega
 |store t x y =>
  grind[iC,afN]
 |call c =>
  obtain⟨d,args,l⟩:=c;cases d with
  |builtin b =>
   cases b with
   |len =>
    grind[iC,S9]
   |append =>
    simp only[iC]at a |-;split at a
    .rename_i x y t s z v
     split at a
     .rename_i e
      rw[if_pos e];exact afl a g
     simp_all
    omega
   |_=>simp[iC]at a
  |_=>simp_all[iC]
 |_=>simp[iC]at a
def aiQ [Bk] [Ev] {op:Op} {h:AH} {r:AR} (a:iC P op ρ h nx=some r):∀id∈r.bZ.map (·.1),id∈r.xC:=by
 cases op with
 |store t x y =>
  simp only[iC]at a;split at a
  .split at a
   .split at a
    .rename_i q i
     cases a;intro id e;simp only[a0r,a1x,a05]at e;subst e;exact aeh i
    simp_all
   simp_all
  simp_all
 |call c =>
  obtain⟨d,args,f⟩:=c;cases d with
  |builtin b =>
   cases b with
   |append =>
    simp only[iC]at a;split at a
    .split at a
     .unfold vB at a
      repeat' split at a
      all_goals (first|cases a|skip)
      .rename_i g _
       have:=aj0 g
       grind
      all_goals simp_all
     simp_all
    simp_all
   |_ =>
    simp only[iC]at a;try (repeat' split at a)
    all_goals (first|cases a|skip)
    all_goals simp
  |_=>simp_all[iC]
 |_ =>
  simp only[iC]at a;try (repeat' split at a)
  all_goals (first|cases a|skip)
  all_goals simp
theorem PH [Bk] {op:Op} {h:AH} {nx':Nat} {r:AR} (a:iC P op ρ h nx=some r):jJ P op ρ h' nx'=none:=by
 have row:∀{x:AV} {q},CG h x=some q->(∃d base bZ tail p off,x=.vH d base bZ tail p off)\/∃d id p off,x=.nP d id p off:=by
  intro x q f;unfold CG at f;grind
 have w:∀{x:AV} {n},nO h x=some n->(∃d base bZ tail,x=.seq d base bZ tail)\/∃T d id n,x=.dD T d id n:=by
  intro x q f;unfold nO at f;grind
 cases op with
 |load t x =>
  grind[iC,jJ]
 |nilCheck x =>
  grind[iC,jJ]
 |fieldAddr t x k =>
  grind[iC,jJ]
 |indexAddr t x ix =>
  simp only[iC]at a;split at a
  .grind[jJ]
  .rename_i len e l
   split at a
   .rename_i s k n hs o
    split at a
    .rename_i z
     split at a
     .rename_i q f
      rcases row f with⟨d,base,bZ,tail,p,off,e⟩|⟨d,id,p,off,e⟩<;>simp only[jJ,e,l,o,hs]<;>split<;>rfl
     simp_all
    simp_all
   simp_all
  simp_all
 |store t x y =>
  grind[iC,xJ,jJ]
 |call c =>
  obtain⟨g,args,i⟩:=c;cases g with
  |builtin b =>
   cases b with
   |len =>
    grind[iC,jJ,jX]
   |append =>
    simp only[iC]at a;split at a
    .rename_i x y t v u m
     split at a
     .rename_i e
      subst e;have f:jX h' (ρ y)=none\/∀e d,vA h' e d (ρ x)=none:=by
       unfold vB at a;split at a
       .split at a
        .split at a
         .split at a
          .split at a
           .rename_i j
            refine .inl ?_;unfold nA at j;split at j
            .rename_i e;rw[e];rfl
            .rename_i e;rw[e];rfl
            simp_all
           .split at a
            .rename_i e;exact .inr fun _ _=>by rw[e];rfl
            simp_all
          simp_all
         simp_all
        simp_all
       simp_all
      simp only[jJ,u,m,if_true];grind[vC]
     simp_all
    simp_all
   |_=>simp[iC]at a
  |_=>simp_all[iC]
 |_=>simp[iC]at a
def CY [Bk] (P:Program) (op:Op) (ρ:Operand->AV) (h:AH) (nx:Nat):Option AR :=
 match jJ P op ρ h nx with
 |some r=>some r
 |none=>iC P op ρ h nx
def ak8 [Bk] [Ev] {r:AR} (a:CY P o.op (eF f) h nx=some r):dX P o f h r:=by
 unfold CY at a;split at a
 .rename_i r' b;cases a;exact anM b
 .exact ala a
theorem anO [Bk] [Ev] {op:Op} {a:Operand->AV} {h:AH} (b:∀x∈op.operands.toList,a x=ρ x):CY P op a h nx=CY P op ρ h nx:=by
 simp_all[CY,aoV,anQ]
def anN [Bk] [Ev] {op:Op} {h:AH} {r:AR} (a:CY P op ρ h nx=some r) (b:∀id∈r.xC,h' id=h id):CY P op ρ h' nx=some r:=by
 unfold CY at a |-;split at a
 .grind[aoU]
 .rw[PH (h':=h') (nx':=nx) a];exact anP a b
def aiN [Bk] [Ev] {op:Op} {h:AH} {r:AR} (a:CY P op ρ h nx=some r):∀id∈r.bZ.map (·.1),id∈r.xC:=by
 unfold CY at a;split at a
 .rename_i r' b;cases a;exact ak7 b
 .exact aiQ a
end
end Mc
namespace Mc
section
variable {P:Program} {h:AH}
def ad2 [Bk] [Ev] (P:Program) (id:Nat) (args:List AV) (h:AH) (R:AV->AH->Prop):Prop :=
 ∀r m A w u (vs:Array Value),dU m A h w->Rd m A w (.yld id) u->vs.size=args.length->(∀(i:Nat) (x:AV),args[i]?=some x->Rd m A w x (vs.getD i Go.undef)) ->
  ∃b fn a as bd,u=.func (.yield b) #[] #[]/\(Instr.yield b vs).run P w=.ok (.round b fn a as bd) w /\
   RoundIn (fw r) 8 P b fn a as bd w fun e w'=>∃v u c h',e=.returned v/\R u h'/\dU c A h' w'/\Rd c A w' u v/\Ext m w c w'
def pG (ρ:Operand->AV):Op->Option (Nat×List AV)
 | .call { callee:=.value g,args,.. }=>match ρ g with
  | .yld id=>some (id,args.toList.map ρ)
  |_=>none
 |_=>none
def nS.amD [Bk] [Ev] {o:Oper} {f:List AV} {id:Nat} {args:List AV} {R:AV->AH->Prop} (d:pG (eF f) o.op=some (id,args)) (p:ad2 P id args h R):nS P o f h R:=by
 intro r' m A w a H F K Q u;unfold pG at d;split at d
 .rename_i g c r t
  split at d
  .rename_i s n
   simp only[a0i,a13]at d;obtain⟨rfl,rfl⟩:=d;have k:=F.eval g;rw[n]at k;obtain⟨b,fn,j,as,bd,e1,e2,q⟩:=p r' m A w _ (c.map a.eval) H k (by simp) (fun i x l=>EN F c i x l)
   have e:(execOp a.eval o).run P w=.ok (.round b fn j as bd) w:=by
    simp_all[execOp,resolve,Deferred.ofValue,invoke]
   refine aat e (q.mono ?_)
   grind
  simp_all
 simp_all
end
end Mc
namespace Mc
variable {α β:Type} {o:Oper} {ops:Array Oper}
structure Rs (α:Type) where
 a:α
 h:AH
 n:Nat
 rd:List Nat
 wr:List Nat
abbrev M (α:Type):=AH->Nat->Option (Rs α)
def mV:M α:=fun _ _=>none
def mpure (a:α):M α:=fun h n=>some ⟨a,h,n,[],[]⟩
def oN (x:M α) (k:α->M β):M β:=fun h n =>
 match x h n with
 |none=>none
 |some r=>match k r.a r.h r.n with
  |none=>none
  |some s=>some ⟨s.a,s.h,s.n,r.rd++s.rd,r.wr++s.wr⟩
structure Loc {α:Type} (x:M α) (h:AH) (n:Nat) (r:Rs α):Prop where
 le:n<=r.n
 frame:∀id,id ∉ r.wr->¬ (n<=id/\id<r.n)->r.h id=h id
 sub:∀id∈r.wr,id∈r.rd
 again:∀h2:AH,(∀id∈r.rd,h2 id=h id)->(∀id,n<=id->id<r.n->h2 id=h id)->∃r2,x h2 n=some r2/\r2.a=r.a/\r2.n=r.n/\r2.rd=r.rd/\r2.wr=r.wr /\
  (∀id,(id∈r.wr\/(n<=id/\id<r.n))->r2.h id=r.h id)/\∀id,id ∉ r.wr->¬ (n<=id/\id<r.n)->r2.h id=h2 id
def Local (x:M α):Prop:=∀h n r,x h n=some r->Loc x h n r
def gJ [Bk] [Ev]:Local (mV:M α):=fun h n r a=>by cases a
def gI [Bk] [Ev] (a:α):Local (mpure a):=fun h n r b=>by
 cases b;exact⟨a0g _,fun _ _ _=>rfl,fun _ h=>h,fun d _ _=>⟨_,rfl,rfl,rfl,rfl,rfl,fun id c=>by simp_all,fun _ _ _=>rfl⟩⟩
def kK [Bk] [Ev] {x:M α} {k:α->M β} (q:Local x) (u:∀a,Local (k a)):Local (oN x k):=by
 intro h n t i;unfold oN at i;cases o:x h n with
 |none=>simp_all
 |some r =>
  rw[o]at i;simp only at i;cases m:k r.a r.h r.n with
  |none=>simp_all
  |some s =>
   rw[m]at i;cases i;have L1:=q h n r o;have e:=u r.a r.h r.n s m;have l1:=L1.le;have l2:=e.le;refine⟨a1k L1.le e.le,?_,?_,?_⟩
   .intro id c A
    simp only[a0m,not_or]at c;rw[e.frame id c.2 (by grind),L1.frame id c.1 (by grind)]
   .intro id c
    simp only[a0m]at c |-;exact c.imp (L1.sub id) (e.sub id)
   .intro g l j
    simp only[a0m]at l;simp only at j;obtain⟨r2,e1,e2,E,D,C,B,v⟩:=L1.again g (fun id c=>l id (.inl c)) (fun id a b=>j id a (by omega))
    have p:∀id,(id∈s.rd\/(r.n<=id/\id<s.n))->r2.h id=r.h id:=by
     intro id c;by_cases d:id∈r.wr\/(n<=id/\id<r.n)
     .simp_all
     .simp only[not_or]at d
      rw[v id d.1 d.2,L1.frame id d.1 d.2];grind
    obtain⟨f,I,z,y,H,G,F,w⟩:=e.again r2.h (fun id c=>p id (.inl c)) (fun id a b=>p id (.inr ⟨a,b⟩));refine⟨⟨f.a,f.h,f.n,r2.rd++f.rd,r2.wr++f.wr⟩,?_,z,y,by simp_all,by simp_all,?_,?_⟩
    .simp_all[oN]
    .intro id c
     simp only[a0m]at c;simp only at c |-;by_cases d:id∈s.wr\/(r.n<=id/\id<s.n)
     .simp_all
     .simp only[not_or]at d
      rw[w id d.1 d.2,e.frame id d.1 d.2];grind
    grind
section
variable {P:Program}
def OB [Bk] (P:Program) (op:Op) (f:List AV):M AV:=fun h n =>
 match CY P op (eF f) h n with
 |none=>none
 |some r=>some ⟨r.v,fZ h r.bZ,if(r.bZ.map (·.1)).contains n then n+1 else n,r.xC,r.bZ.map (·.1)⟩
def aeI [Bk] [Ev] (op:Op) (f:List AV):Local (OB P op f):=by
 intro h n t c;unfold OB at c;cases d:CY P op (eF f) h n with
 |none=>simp_all
 |some r =>
  rw[d]at c;simp only[a0i]at c;subst c;have b:∀id,n<=id->id<(if(r.bZ.map (·.1)).contains n then n+1 else n)->id∈r.bZ.map (·.1):=by
   grind
  refine⟨by grind,fun id a _=>kE a,aiN d,?_⟩;intro g e _;have i:=anN d e;refine⟨⟨r.v,fZ g r.bZ,_,r.xC,r.bZ.map (·.1)⟩,by grind[OB],rfl,rfl,rfl,rfl,?_,fun id a _=>kE a⟩
  intro id a;rcases a with a|a
  .exact xE a
  .exact xE (b id a.1 a.2)
def wU [Bk] (P:Program) (call:Fn->List AV->M AV) (o:Oper) (f:List AV):M AV :=
 match mI P (eF f) o.op with
 |some (k,args)=>call (.func k) args
 |none=>match pG (eF f) o.op with
  |some (id,args)=>call (.yield id) args
  |none=>OB P o.op f
def Sq [Bk] (P:Program) (call:Fn->List AV->M AV) (ops:Array Oper):List Nat->List AV->M (List AV)
 |[],f=>mpure f
 |i::l,f=>match ops[i]? with
  |none=>mV
  |some o=>match mD ops o f with
   |some true=>oN (wU P call o f) fun v=>Sq P call ops l (qS f o.dst v)
   |some false=>Sq P call ops l (qS f o.dst .undef)
   |none=>mV
def abw (x:M AV):M (AV×xA):=fun h n =>
 match x h n with
 |none=>none
 |some r=>some ⟨(r.a,⟨r.a,(r.wr++List.range' n (r.n-n)).map fun id=>(id,r.h id),r.rd,n,r.n,false⟩),r.h,r.n,r.rd,r.wr⟩
def aeH [Bk] [Ev] {x:M AV} (j:Local x):Local (abw x):=by
 intro h n t c;unfold abw at c;cases d:x h n with
 |none=>simp_all
 |some r =>
  rw[d]at c;simp only[a0i]at c;subst c;have L:=j h n r d;refine⟨L.le,L.frame,L.sub,?_⟩;intro g a b;obtain⟨r2,e1,e2,i,f,e,l,k⟩:=L.again g a b;refine⟨⟨(r2.a,⟨r2.a,(r2.wr++List.range' n (r2.n-n)).map fun id=>(id,r2.h id),r2.rd,n,r2.n,false⟩),r2.h,r2.n,r2.rd,r2.wr⟩,by simp_all[abw],?_,i,f,e,l,k⟩;simp only;rw[e2,i,f,e];congr 2;refine a01 fun id m=>?_
  grind
def yI [Bk] (P:Program) (call:Fn->List AV->M AV) (ops:Array Oper):List Nat->List AV->M (List AV×List xA)
 |[],f=>mpure (f,[])
 |i::l,f=>match ops[i]? with
  |none=>mV
  |some o=>match mD ops o f with
   |some true=>oN (abw (wU P call o f)) fun v=>oN (yI P call ops l (qS f o.dst v.1)) fun q=>mpure (q.1,v.2::q.2)
   |some false=>oN (yI P call ops l (qS f o.dst .undef)) fun q=>mpure (q.1,⟨.undef,[],[],0,0,true⟩::q.2)
   |none=>mV
def NI [Bk] (P:Program) (call:Fn->List AV->M AV) (ops:Array Oper) (f:List AV):M (List AV) :=
 if P.follows .mixedOrders then oN (yI P call ops (List.range ops.size) f) fun q=>if Pq ops q.2 then mpure q.1 else mV else mV
def EK (x:M α):M α:=fun h n =>
 match x h n with
 |none=>none
 |some r=>some ⟨r.a,r.h,r.n,(r.rd.filter fun id=>!(decide (n<=id)&&decide (id<r.n))).eraseDups,(r.wr.filter fun id=>!(decide (n<=id)&&decide (id<r.n))).eraseDups⟩
def abE [Bk] [Ev] {x:M α} (j:Local x):Local (EK x):=by
 intro h n t d;unfold EK at d;cases i:x h n with
 |none=>simp_all
 |some r =>
  rw[i]at d;simp only[a0i]at d;subst d;have L:=j h n r i;have e:∀(l:List Nat) id,id∈(l.filter fun id=>!(decide (n<=id)&&decide (id<r.n))).eraseDups↔id∈l/\¬ (n<=id/\id<r.n):=by
   grind[List.mem_eraseDups]
  refine⟨L.le,?_,?_,?_⟩
  .intro id c f
   simp only[e]at c;exact L.frame id (fun k=>c ⟨k,f⟩) f
  .intro id c
   simp only[e]at c |-;exact⟨L.sub id c.1,c.2⟩
  .intro g a b
   simp only[e]at a;obtain⟨r2,e1,e2,m,s,q,p,o⟩:=L.again g (fun id c=>by
    grind) b
   refine⟨⟨r2.a,r2.h,r2.n,(r2.rd.filter fun id=>!(decide (n<=id)&&decide (id<r2.n))).eraseDups,(r2.wr.filter fun id=>!(decide (n<=id)&&decide (id<r2.n))).eraseDups⟩,by simp_all[EK],e2,m,?_,?_,?_,?_⟩
   .simp_all
   .simp_all
   .grind
   grind
inductive AX where
 |normal|exit (id:Nat)|ret
def AX.to:AX->Exit
 | .normal=>.normal
 | .exit id=>.exit id
 | .ret=>.ret
def gP [Bk] (P:Program) (call:Fn->List AV->M AV) (tp:Bool):Nat->Code->List AV->M (AX×List AV)
 |0,_,_=>mV
 |n+1,.skip,f=>mpure (.normal,f)
 |n+1,.region _ ops draw,f=>oN (if draw then NI P call ops f else Sq P call ops (List.range ops.size) f) fun d=>mpure (.normal,d)
 |n+1,.seq x y,f=>oN (gP P call tp n x f) fun q=>match q.1 with
  | .normal=>gP P call tp n y q.2
  |_=>mpure q
 |n+1,.cond c x y,f=>match eF f c with
  | .c (.bool b)=>gP P call tp n (if b then x else y) f
  |_=>mV
 |n+1,.block id c,f=>oN (gP P call tp n c f) fun q=>match q.1 with
  | .exit a=>if a=id then mpure (.normal,q.2)else mpure q
  |_=>mpure q
 |n+1,.loop c,f=>oN (gP P call tp n c f) fun q=>match q.1 with
  | .normal=>gP P call tp n (.loop c) q.2
  |_=>mpure q
 |n+1,.scope c,f=>gP P call tp n c f
 |n+1,.label _,f=>mpure (.normal,f)
 |n+1,.exit id,f=>mpure (.exit id,f)
 |n+1,.ret,f=>mpure (.ret,f)
 |n+1,_,_=>mV
def aa0:AV->List Nat
 | .ptr _ id _ _=>[id]
 |_=>[]
def Rf (f:List AV):ResultVar->List Nat
 | .tmp _=>[]
 | .cell t _=>aa0 (f.getD t .undef)
def MA (f:List AV) (l:List ResultVar):List Nat:=l.flatMap (Rf f)
def Ob (P:Program) (fn:Func) (f:List AV):M AV:=fun h n =>
 match fF P fn f h with
 |none=>none
 |some v=>some ⟨v,h,n,MA f fn.results.toList,[]⟩
def aaR [Bk] [Ev] {fn:Func} {f:List AV} {h h':AH} (a:∀id∈MA f fn.results.toList,h' id=h id):fF P fn f h'=fF P fn f h:=by
 unfold fF;congr 1
 have:∀r∈fn.results.toList,AN P f h' r=AN P f h r:=by
  intro r d;cases r with
  |tmp t=>rfl
  |cell t b =>
   simp only[AN];cases e:f.getD t .undef with
   |ptr c id i off =>
    grind[MA,Rf,aa0,adN]
   |_=>rfl
 revert this;generalize fn.results.toList=l;intro this;induction l<;>simp_all
def aeG [Bk] [Ev] (fn:Func) (f:List AV):Local (Ob P fn f):=by
 intro h n t c;unfold Ob at c;cases d:fF P fn f h with
 |none=>simp_all
 |some v =>
  rw[d]at c;simp only[a0i]at c;subst c;refine⟨a0g _,fun _ _ _=>rfl,fun _ h=>by simp at h,fun g a b=>⟨⟨v,g,n,_,[]⟩,by simp_all[Ob,aaR],rfl,rfl,rfl,rfl,fun id e=>by simp_all,fun _ _ _=>rfl⟩⟩
structure pS [Bk] [Ev] (P:Program) (call:Fn->List AV->M AV):Prop where
 loc:∀k args,Local (call k args)
 ok : ∀ k args h n r, call (.func k) args h n = some r -> ∃ fn c, P.funcs[k]? = some fn /\ fn.body = some c /\ (fn.name == "runtime.NumGoroutine") = false /\ jA P k args h (fun v h' => v = r.a /\ h' = r.h)
 yl:∀id args h n r,call (.yield id) args h n=some r->ad2 P id args h (fun v h'=>v=r.a/\h'=r.h)
variable {call:Fn->List AV->M AV}
section
variable [Bk] [Ev]
def xY (a:pS P call) (o:Oper) (f:List AV):Local (wU P call o f):=by
 unfold wU;split
 .exact a.loc _ _
 .split
  .exact a.loc _ _
  .exact aeI _ _
def Ia (a:pS P call) (ops:Array Oper):∀(l:List Nat) (f:List AV),Local (Sq P call ops l f)
 |[],f=>gI f
 |i::l,f=>by
  simp only[Sq];split
  .exact gJ
  .split
   .exact kK (xY a _ _) fun v=>Ia a ops l _
   .exact Ia a ops l _
   .exact gJ
def zP (a:pS P call) (ops:Array Oper):∀(l:List Nat) (f:List AV),Local (yI P call ops l f)
 |[],f=>gI _
 |i::l,f=>by
  simp only[yI];split
  .exact gJ
  .split
   .exact kK (aeH (xY a _ _)) fun v=>kK (zP a ops l _) fun q=>gI _
   .exact kK (zP a ops l _) fun q=>gI _
   .exact gJ
def abD (a:pS P call) (ops:Array Oper) (f:List AV):Local (NI P call ops f):=by
 unfold NI;split
 .refine kK (zP a ops _ _) fun q=>?_
  split
  .exact gI _
  .exact gJ
 .exact gJ
def mN (a:pS P call) {tp:Bool}:∀(n:Nat) (c:Code) (f:List AV),Local (gP P call tp n c f)
 |0,c,f=>by simp only[gP];exact gJ
 |n+1,c,f=>by
  cases c with
  |skip=>exact gI _
  |region id ops draw =>
   simp only[gP];refine kK ?_ fun _=>gI _
   split
   .exact abD a _ _
   .exact Ia a _ _ _
  |seq x y =>
   simp only[gP];refine kK (mN a n x f) fun q=>?_
   split
   .exact mN a n y _
   .exact gI _
  |cond c x y =>
   simp only[gP];split
   .exact mN a n _ _
   .exact gJ
  |block id c =>
   simp only[gP];refine kK (mN a n c f) fun q=>?_
   split
   .split<;>exact gI _
   .exact gI _
  |loop c =>
   simp only[gP];refine kK (mN a n c f) fun q=>?_
   split
   .exact mN a n _ _
   .exact gI _
  |scope c=>simp only[gP];exact mN a n c f
  |label l=>exact gI _
  |exit id=>exact gI _
  |ret=>exact gI _
  |_=>simp only[gP];exact gJ
def nI {x:M α} {k:α->M β} {h:AH} {n:Nat} {t:Rs β} (b:oN x k h n=some t):∃r s,x h n=some r/\k r.a r.h r.n=some s/\t.a=s.a/\t.h=s.h/\t.n=s.n:=by
 grind[oN]
def XY (i:pS P call) {f:List AV} {h:AH} {n:Nat} {r:Rs AV} (b:wU P call o f h n=some r):nS P o f h (fun v h'=>v=r.a/\h'=r.h):=by
 unfold wU at b;cases g:mI P (eF f) o.op with
 |some p =>
  obtain⟨k,args⟩:=p;simp only[g]at b;obtain⟨fn,c,d,m,l,j⟩:=i.ok k args h n r b;exact nS.call g d m l j
 |none =>
  simp only[g]at b;cases e:pG (eF f) o.op with
  |some p =>
   obtain⟨id,args⟩:=p;simp only[e]at b;exact nS.amD e (i.yl id args h n r b)
  |none =>
   simp only[e]at b;unfold OB at b;cases d:CY P o.op (eF f) h n with
   |none=>simp_all
   |some q =>
    rw[d]at b;simp only[a0i]at b;subst b;exact(ak8 d).step
def Sp (j:pS P call) {ops:Array Oper} {Q:Exit->List AV->AH->Prop}:∀(l:List Nat) (f:List AV) (h:AH) (n:Nat) (r:Rs (List AV)),Sq P call ops l f h n=some r->Q .normal r.a r.h->jZ P ops Q l f h
 |[],f,h,n,r,c,g=>by cases c;exact jZ.nil g
 |i::l,f,h,n,r,c,g=>by
  simp only[Sq]at c;cases d:ops[i]? with
  |none=>simp only[d]at c;cases c
  |some o =>
   simp only[d]at c;cases e:mD ops o f with
   |none=>simp only[e]at c;cases c
   |some b =>
    simp only[e]at c;cases b with
    |true =>
     simp only at c;obtain⟨r1,s,m,k,e1,e2,p⟩:=nI c;refine jZ.cons d e (XY j m) ?_;rintro v h' ⟨rfl,rfl⟩;exact Sp j l _ _ _ s k (by simp_all)
    |false =>
     simp only at c;exact jZ.pass d e (Sp j l _ _ _ r c g)
def alc {f f':List AV} (b:∀t∈yQ ops o,f'[t]?=f[t]?):∀x∈o.op.operands.toList,eF f' x=eF f x:=by
 intro x a;cases x<;>grind[yQ,tmpsOf,eF]
end
theorem Xe [Bk] [Ev] {f f':List AV} (a:∀t∈yQ ops o,f'[t]?=f[t]?):mD ops o f'=mD ops o f:=by
 grind[mD,yQ,Xd]
section
variable [Bk] [Ev]
def ae6 {op:Op} {f f':List AV} (a:∀x∈op.operands.toList,eF f' x=eF f x):mI P (eF f') op=mI P (eF f) op:=by
 unfold mI;split
 .rename_i g args b
  have h:eF f' g=eF f g:=a g (by simp[Op.operands,Call.operands]);have e:args.toList.map (eF f')=args.toList.map (eF f):=a01 fun x d=>a x (by simp_all[Op.operands,Call.operands])
  grind
 .rename_i g c args b
  have h:eF f' g=eF f g:=a g (by simp[Op.operands,Call.operands]);have e:args.toList.map (eF f')=args.toList.map (eF f):=a01 fun x d=>a x (by simp_all[Op.operands,Call.operands])
  grind
 .rfl
def afw {op:Op} {f f':List AV} (a:∀x∈op.operands.toList,eF f' x=eF f x):pG (eF f') op=pG (eF f) op:=by
 unfold pG;split
 .rename_i g args b
  have e:eF f' g=eF f g:=a g (by simp[Op.operands,Call.operands]);have d:args.toList.map (eF f')=args.toList.map (eF f):=a01 fun x c=>a x (by simp_all[Op.operands,Call.operands])
  grind
 .rfl
def ak5 {f f':List AV} (a:∀x∈o.op.operands.toList,eF f' x=eF f x):wU P call o f'=wU P call o f:=by
 unfold wU;rw[ae6 a,afw a];have:OB P o.op f'=OB P o.op f:=by grind[OB,anO]
 rw[this]
def L6 (g:AH):∀(l:List Nat) (h:AH) (id:Nat),fZ h (l.map fun id=>(id,g id)) id=if id∈l then g id else h id
 |[],h,id=>by simp[fZ]
 |i::l,h,id=>by
  simp only[a0r,fZ];rw[L6 g l];grind[gO]
def aeT (d:pS P call) {f:List AV} {h:AH} {n:Nat} {r:Rs AV} (l:mD ops o f=some true) (g:wU P call o f h n=some r) :
  aao P ops o ⟨r.a,(r.wr++List.range' n (r.n-n)).map fun id=>(id,r.h id),r.rd,n,r.n,false⟩ f h:=by
 intro i h' k e c b;simp only[a2i,if_false];refine⟨by grind[Xe],?_⟩;have L:=xY d o f h n r g;obtain⟨r2,e1,e2,t,s,q,p,m⟩:=L.again h' c b;rw[<-ak5 (f':=i) (alc e)]at e1;refine(XY d e1).mono ?_;rintro v j ⟨rfl,rfl⟩;refine⟨e2,?_⟩;funext id;rw[L6 r.h];grind
def IA (g:pS P call) {ops:Array Oper}:∀(l:List Nat) (f:List AV) (h:AH) (n:Nat) (r:Rs (List AV×List xA)),yI P call ops l f h n=some r ->
  r.a.2.length=l.length/\Li P ops ((l.zip r.a.2).map fun p=>(ops.getD p.1 default,p.2)) (f,h)/\fin ((l.zip r.a.2).map fun p=>(ops.getD p.1 default,p.2)) (f,h)=(r.a.1,r.h)
 |[],f,h,n,r,c=>by cases c;exact⟨rfl,trivial,rfl⟩
 |i::l,f,h,n,r,c=>by
  simp only[yI]at c;cases m:ops[i]? with
  |none=>simp only[m]at c;cases c
  |some o =>
   simp only[m]at c;have e:ops.getD i default=o:=by simp[m]
   cases t:mD ops o f with
   |none=>simp only[t]at c;cases c
   |some b =>
    simp only[t]at c;cases b with
    |true =>
     simp only at c;obtain⟨r1,s,d,v,e1,e2,B⟩:=nI c;obtain⟨r2,G,A,z,D,C,M⟩:=nI v;cases z;unfold abw at d;cases u:wU P call o f h n with
     |none=>simp_all
     |some q =>
      rw[u]at d;simp only[a0i]at d;subst d;obtain⟨k,x,w⟩:=IA g l _ _ _ r2 A;have J:=aeT g t u;have L:=xY g o f h n q u;have y:app (o,⟨q.a,(q.wr++List.range' n (q.n-n)).map fun id=>(id,q.h id),q.rd,n,q.n,false⟩) (f,h)=(qS f o.dst q.a,q.h):=by
       simp only[app,a13,true_and];funext id;rw[L6 q.h];split
       .rfl
       .rename_i j
        rw[a0m,List.mem_range'_1,not_or]at j;have:=L.le;exact(L.frame id j.1 (by omega)).symm
      rw[e1,D,e2,C];refine⟨by simp[k],?_,?_⟩
      .simp_all[Li]
      .simp only[a3g,a0r,e]
       show fin _ (app _ _)=_
       simp_all
    |false =>
     simp only at c;obtain⟨r1,s,d,v,e1,e2,B⟩:=nI c;cases v;obtain⟨k,x,w⟩:=IA g l _ _ _ r1 d;rw[e1,e2];refine⟨by simp[k],?_,?_⟩
     .simp only[a3g,a0r,Li,e]
      refine⟨?_,x⟩;intro K h' I H F E;grind[Xe]
     .simp only[a3g,a0r,e]
      exact w
def aiT (m:pS P call) {tp:Bool} {id:Nat} {Q:Exit->List AV->AH->Prop} {f:List AV} {h:AH} {n:Nat} {r:Rs (List AV)} (b:NI P call ops f h n=some r) (k:Q .normal r.a r.h):kT P tp (.region id ops true) Q f h:=by
 unfold NI at b;by_cases d:P.follows .mixedOrders=true
 .rw[if_pos d]at b
  obtain⟨r1,s,o,c,e1,e2,q⟩:=nI b;by_cases e:Pq ops r1.a.2=true
  .rw[if_pos e]at c
   cases c;obtain⟨j,i,g⟩:=IA m _ _ _ _ r1 o;rw[a4m]at j;have l:((List.range ops.size).zip r1.a.2).map (fun p=>(ops.getD p.1 default,p.2))=(List.range ops.size).map (jQ ops r1.a.2):=by
    apply a3h
    grind[jQ]
   rw[l]at i g;rw[e1,e2]at k;exact kT.draw d r1.a.2 j e i g k
  .rw[if_neg e]at c;cases c
 .rw[if_neg d]at b;cases b
def qK (o:pS P call) {tp:Bool}:∀(k:Nat) (c:Code) (Q:Exit->List AV->AH->Prop) (f:List AV) (h:AH) (n:Nat) (r:Rs (AX×List AV)),gP P call tp k c f h n=some r->Q r.a.1.to r.a.2 r.h->kT P tp c Q f h
 |0,c,Q,f,h,n,r,d,e=>by simp only[gP]at d;cases d
 |k+1,c,Q,f,h,n,r,d,e=>by
  cases c with
  |skip=>cases d;exact kT.skip e
  |region id ops draw =>
   simp only[gP]at d;obtain⟨r1,s,j,g,e1,e2,A⟩:=nI d;cases g;rw[e1,e2]at e;cases draw with
   |true =>
    simp only[if_true]at j;exact aiT o j e
   |false =>
    simp only[a2i,if_false]at j;exact kT.region (Sp o _ _ _ _ _ j e)
  |seq x y =>
   simp only[gP]at d;obtain⟨r1,s,j,g,e1,e2,A⟩:=nI d;refine kT.seq (qK o k x _ f h n r1 j ?_);cases i:r1.a.1 with
   |normal =>
    simp only[i]at g;exact qK o k y Q _ _ _ s g (by simp_all)
   |_ =>
    simp only[i]at g;cases g;rw[e1,e2,i]at e;exact e
  |cond c x y =>
   simp only[gP]at d;cases q:eF f c with
   |c v =>
    cases v with
    |bool b=>simp only[q]at d;exact kT.cond q (qK o k _ Q f h n r d e)
    |_=>simp only[q]at d;cases d
   |_=>simp only[q]at d;cases d
  |block id c =>
   simp only[gP]at d;obtain⟨r1,s,j,g,e1,e2,A⟩:=nI d;refine kT.block (qK o k c _ f h n r1 j ?_);cases i:r1.a.1 with
   |exit B =>
    simp only[i]at g;simp only[AX.to,Nb];by_cases z:B=id
    .rw[if_pos z]at g |-
     cases g;rw[e1,e2]at e;exact e
    .rw[if_neg z]at g |-
     cases g;rw[e1,e2,i]at e;exact e
   |_ =>
    simp only[i]at g;cases g;rw[e1,e2,i]at e;exact e
  |scope c =>
   simp only[gP]at d;have E:∀l,r.a.1.to≠.goto l:=by intro l;cases r.a.1<;>simp[AX.to]
   exact kT.scope (qK o k c _ f h n r d ⟨E,e⟩)
  |label l=>cases d;exact kT.label e
  |loop c =>
   have key:∀(k:Nat) (f:List AV) (h:AH) (n:Nat) (r:Rs (AX×List AV)),gP P call tp k (.loop c) f h n=some r->Q r.a.1.to r.a.2 r.h->(∀k' u Q f h n r,k'<k->gP P call tp k' u f h n=some r->Q r.a.1.to r.a.2 r.h->kT P tp u Q f h)->kT P tp (.loop c) Q f h:=by
    intro k f h n r d e D;refine kT.loop (fun m f h=>∃n r,gP P call tp m (.loop c) f h n=some r/\Q r.a.1.to r.a.2 r.h/\m<=k) k ⟨n,r,d,e,a0g _⟩ ?_;rintro m G j ⟨C,r1,p,w,H⟩;cases m with
    |zero=>simp only[gP]at p;cases p
    |succ m =>
     simp only[gP]at p;obtain⟨r2,s,F,t,e1,e2,A⟩:=nI p;refine D m c _ G j C r2 (by omega) F ?_;cases i:r2.a.1 with
     |normal =>
      simp only[i]at t;exact⟨m,by omega,_,s,t,by simp_all,by omega⟩
     |_ =>
      simp only[i]at t;cases t;rw[e1,e2,i]at w;exact w
   exact key (k+1) f h n r d e fun k' u Q f h n r I=>qK o k' u Q f h n r
  |exit id=>cases d;exact kT.exit e
  |ret=>cases d;exact kT.ret e
  |_=>simp only[gP]at d;cases d
 termination_by k=>k
 decreasing_by all_goals omega
end
end
end Mc
namespace Mc
variable {m:Nat->St} {A:Nat->Prop} {o:Oper} {nx:Nat} {k:FuncId} {fn:Func} {x:AV}
section
variable {P:Program}
def dU.alq [Bk] [Ev] {h:AH} {w:World} (H:dU m A h w) {id:Nat} (o:h id=.no) :
  dU (sset m id .dead) A (gO h id .dead) w/\Ext m w (sset m id .dead) w:=by
 have r:=H.no id o;have C:∀{k:Nat} {s:St},m k=s->s≠.no->k≠id:=by grind
 have E:Ext m w (sset m id .dead) w:=by
  refine⟨rfl,rfl,rfl,a0g _,?_,?_,?_,?_,fun _ _ _ _=>rfl⟩<;>grind[sset]
 refine⟨⟨?_,H.old,?_,?_,?_,?_,H.mT.ext H.out E,H.nW E fun z B a D=>?_,rW.set H.scs trivial⟩,E⟩
 .intro k b f
  unfold sset at f;split at f
  .cases f
  .exact H.out k b f
 .intro k a
  unfold gO at a;unfold sset;split at a
  .cases a
  .rename_i c;rw[if_neg c];exact H.no k a
 .intro k a
  unfold gO at a;unfold sset;split at a
  .simp_all
  .rename_i c;rw[if_neg c];exact H.dead k a
 .intro k y l g a
  unfold gO at a;split at a
  .simp_all[dI.bG]
  .rename_i c
   obtain⟨v,q⟩|⟨b,cs,v,q,u,t,p⟩:=H.wV k y l g a
   .simp_all[sset]
   .exact .inr ⟨b,cs,by simp_all[sset],q,u,t,fun i j x n=>⟨(p i j x n).1,(p i j x n).2.ext E⟩⟩
 .intro i j b e d
  unfold sset at e d;split at e
  .cases e
  .split at d
   .cases d
   .exact H.inj i j b e d
 grind[gO,dI.other,sset]
def Mh [Bk] [Ev] {f:List AV} {h:AH} {t e C:TypeId} {x:Operand} {bG:List (List AV)} (N:o.op=.binOp .eql t x (.const (.slice none 0 0)) C) (D:P.underlying t=some (.slice e)) (d:jX h (eF f x)=some bG) :
  nS P o f h (fun v h'=>h'=h/\(v=.c (.bool true)/\bG=[]\/v=.c (.bool false))):=by
 intro r' m A w a H F K Q B;have j:=F.eval x;have l:∃g cap,a.eval x=.slice g bG.length cap/\(g=none->bG=[]):=by
  generalize eF f x=y at j d;generalize a.eval x=v at j;cases y with
  |emp =>
   simp only[jX,a0i]at d;subst d;cases j with|pure _ _ E=>cases E<;>simp_all
  |lit s J =>
   simp only[jX,a0i]at d;subst d;obtain⟨rfl,a,cap,rfl⟩|⟨b,off,cap,vs,rfl,-⟩:=j.pW<;>simp_all
  |own T s id i n =>
   simp only[jX]at d;split at d
   .rename_i V L r G
    split at d
    .rename_i z
     obtain⟨rfl,rfl,M⟩:=z;cases d;have q:((r.drop i).take n).length=n:=(by grind);rw[q];rcases H.cells id _ _ _ G with⟨l,rfl⟩|⟨b,cs,I,U,S,R,O⟩
     .cases j with
      |pure _ _ h=>cases h
      |own _ _ _ _ _ b _ u=>simp_all
      |vN _ _ _ _ a u=>simp_all
      |wK _ _ _ _ _ _ _ _ u=>simp_all
     .obtain⟨cap,rfl,-⟩:=j.vU I
      simp_all
    simp_all
   simp_all
  |_=>simp[jX]at d
 obtain⟨g,cap,l,p⟩:=l;have k:(execOp a.eval o).run P w=.ok (.value (.bool g.isNone)) w:=by
  have:(Op.equal t (.slice g bG.length cap) (.slice none 0 0)).run P w=.ok g.isNone w:=run_equal_slice_nil w t e g bG.length cap D;have z:a.eval (.const (.slice none 0 0))=.slice none 0 0:=rfl
  simp_all[execOp,eqGuard,binOp]
 refine Fx k ?_;cases g with
 |none=>exact B (.c (.bool true)) h (.bool true) w m ⟨rfl,.inl ⟨rfl,p rfl⟩⟩ H (.pure _ _ (.c _)) (Ext.refl _ _)
 |some g=>exact B (.c (.bool false)) h (.bool false) w m ⟨rfl,.inr rfl⟩ H (.pure _ _ (.c _)) (Ext.refl _ _)
def zO [Bk] [Ev] {f:List AV} {h:AH} {t e:TypeId} {i:TypeInfo} (k:o.op=.buildSlice t 0 #[]) (j:P.underlying t=some (.slice e)) (l:P.info? e=some i) (b:h nx=.no) :
  dX P o f h ⟨.own e i.size nx 0 0,[(nx,.cells e i.size [])],[nx]⟩:=by
 intro m A w a H F;obtain⟨g,d,c⟩:=Rt H (T:=e) (sz:=i.size) (n:=0) (cap:=0) (bG:=[]) (cs:=#[]) b rfl (a0g _) (a0n _) (by simp) (by simp) (by simp_all[iE]);refine⟨_,_,_,.inl ?_,by simpa[fZ]using g,c,d⟩;simp[execOp,k,Instr.buildSlice,run_underlying j,sizeOf,typeInfo,l,Instr.fill,newRow]
 grind
structure acu (fn:Func) (t:TypeId):Prop where
 body:∃(i0 i1 i2 i3:Nat) (o0 o1 o2 o3 o4 o5 o6 o7:Oper),fn.body=some (.seq (.region i0 #[o0] false) (.seq (.seq (.region i1 #[o1,o2] false) (.cond (.tmp 4) (.seq (.region i2 #[o3] false) .ret) .skip)) (.seq (.region i3 #[o4,o5,o6,o7] false) .ret))) /\
  o0.dst=some 2/\o0.op=.assign (.const (.slice none 0 0))/\o1.dst=some 3/\o1.op=.move (.tmp 0)/\o2.dst=some 4/\(∃ty,o2.op=.binOp .eql t (.tmp 3) (.const (.slice none 0 0)) ty) /\
  o3.dst=some 2/\o3.op=.assign (.const (.slice none 0 0))/\o4.dst=some 5/\o4.op=.buildSlice t 0 #[]/\o5.dst=some 6/\o5.op=.move (.tmp 0)/\o6.dst=some 7/\o6.op=.call { callee:=.builtin .append,args:=#[.tmp 5,.tmp 6],argTypes:=#[t,t] }/\o7.dst=some 2/\o7.op=.assign (.tmp 7) /\
  o0.guard=none/\o1.guard=none/\o2.guard=none/\o3.guard=none/\o4.guard=none/\o5.guard=none/\o6.guard=none/\o7.guard=none
 tmps:fn.ntmps=8
 res:fn.results=#[.tmp 2]
 name : (fn.name == "runtime.NumGoroutine") = false
section
variable [Bk] [Ev]
def fV {ops:Array Oper} {f:List AV} (h:o.guard=none):mD ops o f=some true:=by simp_all[mD]
def aiA {t e:TypeId} {i:TypeInfo} {z:Value} {h:AH} {bG:List (List AV)} (hk:P.funcs[k]?=some fn) (B:acu fn t) (p:P.underlying t=some (.slice e)) (M:P.info? e=some i) (hz:i.zero=some z) (D:z.cells.size=i.size) (L:0<i.size)
  (I:jX h x=some bG) (N:∀q∈bG,q.length=i.size) (F:∀T s id j n,x=.own T s id j n->s=i.size) (hb:bG.length*i.bytes<=140737488355328) (hm:bG.length<=1099511627776) (l:h nx=.no) (aa:h (nx+1)=.no) (ac:nx ∉ uM x) :
  jA P k [x] h (fun v h'=>v=.own e i.size (nx+1) 0 bG.length/\h'=fZ h [(nx,.dead),(nx+1,.cells e i.size bG)]):=by
 obtain⟨i0,i1,i2,i3,o0,o1,o2,o3,Z,Y,C,X,g,d0,p0,d1,p1,Q,⟨ty,p2⟩,d3,W,d4,V,d5,U,d6,S,d7,R,g0,g1,g2,g3,g4,g5,g6,g7⟩:=B.body
 have d:∀(f:List AV) (h:AH),fF P fn f h=some (f.getD 2 .undef):=by
  intro f h;simp[fF,B.res,AN,Ee]
 have key:jA P k [x] h (fun v h'=>(v=.emp/\h'=h/\bG=[])\/(v=.own e i.size (nx+1) 0 bG.length/\h'=fZ h [(nx,.dead),(nx+1,.cells e i.size bG)])):=by
  refine jA.hY hk g ?_;rw[B.tmps];show kT P _ _ _ [x,.undef,.undef,.undef,.undef,.undef,.undef,.undef] _;refine kT.seq (kT.region ?_);refine jZ.cons (o:=o0) rfl (fV g0) (pN p0).step ?_;rintro v h' ⟨rfl,rfl⟩;refine jZ.nil ?_;rw[d0];show kT P _ _ _ [x,.undef,.emp,.undef,.undef,.undef,.undef,.undef] _;refine kT.seq (kT.seq (kT.region ?_));refine jZ.cons (o:=o1) rfl (fV g1) (ED p1).step ?_;rintro v h' ⟨K,rfl⟩;rw[d1,show v=x from K];show jZ P _ _ [1] [x,.undef,.emp,x,.undef,.undef,.undef,.undef] _;refine jZ.cons (o:=o2) rfl (fV g2) (Mh p2 p I) ?_;rintro v h' ⟨rfl,⟨rfl,y⟩|rfl⟩
  .rw[Q]
   refine jZ.nil ?_;show kT P _ _ _ [x,.undef,.emp,x,.c (.bool true),.undef,.undef,.undef] _;refine kT.cond (b:=true) rfl ?_;refine kT.seq (kT.region ?_);refine jZ.cons (o:=o3) rfl (fV g3) (pN W).step ?_;rintro v a ⟨rfl,rfl⟩;rw[d3];refine jZ.nil ?_;show kT P _ _ _ [x,.undef,.emp,x,.c (.bool true),.undef,.undef,.undef] _;refine kT.ret ?_;exact⟨.emp,by rw[d];rfl,.inl ⟨rfl,rfl,y⟩⟩
  .rw[Q]
   refine jZ.nil ?_;show kT P _ _ _ [x,.undef,.emp,x,.c (.bool false),.undef,.undef,.undef] _;refine kT.cond (b:=false) rfl ?_;refine kT.skip ?_;show kT P _ _ _ _ _;refine kT.seq (kT.region ?_);refine jZ.cons (o:=Z) rfl (fV g4) (zO V p M l).step ?_;rintro v a ⟨rfl,rfl⟩;rw[d4];show jZ P _ _ [1,2,3] [x,.undef,.emp,x,.c (.bool false),.own e i.size nx 0 0,.undef,.undef] _;refine jZ.cons (o:=Y) rfl (fV g5) (ED U).step ?_;rintro v a ⟨J,rfl⟩;rw[d5,show v=x from J];show jZ P _ _ [2,3] [x,.undef,.emp,x,.c (.bool false),.own e i.size nx 0 0,x,.undef] _
   have G:jX (fZ h' [(nx,.cells e i.size [])]) x=some bG:=by
    rw[Ip (x:=x) (h:=h')]
    .exact I
    .intro id ab
     simp only[fZ];exact lQ _ _ (by grind)
   have O:=Pb (P:=P) (o:=C) (f:=[x,.undef,.emp,x,.c (.bool false),.own e i.size nx 0 0,x,.undef]) (h:=fZ h' [(nx,.cells e i.size [])]) (bG:=[]) (ys:=bG) (k:=[(nx,.dead)]) (rd:=[nx]) (nx:=nx+1) S p M hz D L
    (by simp[eF,vA,fZ,gO]) G N F (by grind) (by grind) (by simp only[fZ,a1r];grind[lQ])
   refine jZ.cons (o:=C) rfl (fV g6) O.step ?_;rintro v a ⟨rfl,rfl⟩;rw[d6];refine jZ.cons (o:=X) rfl (fV g7) (pN R).step ?_;rintro v a ⟨rfl,rfl⟩;rw[d7];refine jZ.nil ?_;refine kT.ret ?_;refine⟨_,d _ _,.inr ⟨?_,?_⟩⟩
   .simp[qS,eF]
   .simp only[a35,fZ,a2a,a1r]
    grind[gO]
 intro m A w vs H hl hv;refine(key m A w vs H hl hv).mono ?_;rintro ed w' ⟨v,u,m',h',rfl,hR,H',r,E⟩;rcases hR with⟨rfl,rfl,rfl⟩|⟨rfl,rfl⟩
 .obtain⟨H1,E1⟩:=H'.alq l
  obtain⟨H2,E2⟩:=H1.acv (id:=nx+1) (by grind[lQ]) e i.size
  obtain⟨a0,rfl⟩:∃a0,v=.slice a0 0 0:=by
   cases r with|pure _ _ r=>cases r<;>grind
  exact⟨_,_,_,_,rfl,⟨rfl,rfl⟩,H2,.vN e i.size (nx+1) 0 a0 (by simp[sset]),(E.trans E1).trans E2⟩
 grind
def FG {f:List AV} {h:AH} {t e j:TypeId} {x:Operand} {sz:Nat} {bG:List (List AV)} (p:o.op=.binOp .eql t x (.const (.slice none 0 0)) j) (k:P.underlying t=some (.slice e)) (l:Fk h (eF f x) sz bG) :
  nS P o f h (fun v h'=>h'=h/\(v=.c (.bool true)/\bG=[]\/v=.c (.bool false))):=by
 intro r' m A w a H F K Q i;obtain⟨-,b,cap,n,-,g,-⟩:=l m A w _ H (F.eval x)
 have d:(execOp a.eval o).run P w=.ok (.value (.bool b.isNone)) w:=by
  have:(Op.equal t (.slice b bG.length cap) (.slice none 0 0)).run P w=.ok b.isNone w:=run_equal_slice_nil w t e b bG.length cap k;have q:a.eval (.const (.slice none 0 0))=.slice none 0 0:=rfl
  simp_all[execOp,eqGuard,binOp]
 refine Fx d ?_;cases b with
 |none=>exact i (.c (.bool true)) h (.bool true) w m ⟨rfl,.inl ⟨rfl,g rfl⟩⟩ H (.pure _ _ (.c _)) (Ext.refl _ _)
 |some b=>exact i (.c (.bool false)) h (.bool false) w m ⟨rfl,.inr rfl⟩ H (.pure _ _ (.c _)) (Ext.refl _ _)
def abT {t e:TypeId} {i:TypeInfo} {z:Value} {h:AH} {base:Nat} {bZ:List (Poly×List AV)} {tail:List (List AV)} {n:Poly} (hk:P.funcs[k]?=some fn) (D:acu fn t) (p:P.underlying t=some (.slice e)) (N:P.info? e=some i) (hz:i.zero=some z) (G:z.cells.size=i.size) (M:0<i.size)
  (l:nA h x=some (i.size,base,bZ,tail,n)) (C:Xi n i.bytes=true) (j:h nx=.no) (aa:h (nx+1)=.no) (ac:nx ∉ Lq x) :
  jA P k [x] h (fun v h'=>v=.dD e i.size (nx+1) n/\h'=fZ h [(nx,.dead),(nx+1,.sc e i.size base bZ tail n)]):=by
 obtain⟨i0,i1,i2,i3,o0,o1,o2,o3,Z,Y,F,X,g,d0,p0,d1,p1,Q,⟨ty,p2⟩,d3,W,d4,V,d5,U,d6,S,d7,R,g0,g1,g2,g3,g4,g5,g6,g7⟩:=D.body
 have r:∀(f:List AV) (h:AH),fF P fn f h=some (f.getD 2 .undef):=by
  intro f h;simp[fF,D.res,AN,Ee]
 intro m A w vs H hl L;have a:(∀q∈bZ,InB base q.1)/\cI Ev.eW n=((rowsOf base bZ tail).length:Int):=L9 l H (L 0 x rfl)
 have key:jA P k [x] h (fun v h'=>(v=.emp/\h'=h/\rowsOf base bZ tail=[])\/(v=.dD e i.size (nx+1) n/\h'=fZ h [(nx,.dead),(nx+1,.sc e i.size base bZ tail n)])):=by
  refine jA.hY hk g ?_;rw[D.tmps];show kT P _ _ _ [x,.undef,.undef,.undef,.undef,.undef,.undef,.undef] _;refine kT.seq (kT.region ?_);refine jZ.cons (o:=o0) rfl (fV g0) (pN p0).step ?_;rintro v h' ⟨rfl,rfl⟩;refine jZ.nil ?_;rw[d0];show kT P _ _ _ [x,.undef,.emp,.undef,.undef,.undef,.undef,.undef] _;refine kT.seq (kT.seq (kT.region ?_));refine jZ.cons (o:=o1) rfl (fV g1) (ED p1).step ?_;rintro v h' ⟨K,rfl⟩;rw[d1,show v=x from K];show jZ P _ _ [1] [x,.undef,.emp,x,.undef,.undef,.undef,.undef] _;refine jZ.cons (o:=o2) rfl (fV g2) (FG p2 p (Ah l)) ?_;rintro v h' ⟨rfl,⟨rfl,y⟩|rfl⟩
  .rw[Q]
   refine jZ.nil ?_;show kT P _ _ _ [x,.undef,.emp,x,.c (.bool true),.undef,.undef,.undef] _;refine kT.cond (b:=true) rfl ?_;refine kT.seq (kT.region ?_);refine jZ.cons (o:=o3) rfl (fV g3) (pN W).step ?_;rintro v d ⟨rfl,rfl⟩;rw[d3];refine jZ.nil ?_;show kT P _ _ _ [x,.undef,.emp,x,.c (.bool true),.undef,.undef,.undef] _;refine kT.ret ?_;exact⟨.emp,by simp_all,.inl ⟨rfl,rfl,y⟩⟩
  .rw[Q]
   refine jZ.nil ?_;show kT P _ _ _ [x,.undef,.emp,x,.c (.bool false),.undef,.undef,.undef] _;refine kT.cond (b:=false) rfl ?_;refine kT.skip ?_;show kT P _ _ _ _ _;refine kT.seq (kT.region ?_);refine jZ.cons (o:=Z) rfl (fV g4) (zO V p N j).step ?_;rintro v d ⟨rfl,rfl⟩;rw[d4];show jZ P _ _ [1,2,3] [x,.undef,.emp,x,.c (.bool false),.own e i.size nx 0 0,.undef,.undef] _;refine jZ.cons (o:=Y) rfl (fV g5) (ED U).step ?_;rintro v d ⟨J,rfl⟩;rw[d5,show v=x from J];show jZ P _ _ [2,3] [x,.undef,.emp,x,.c (.bool false),.own e i.size nx 0 0,x,.undef] _
   have I:nA (fZ h' [(nx,.cells e i.size [])]) x=some (i.size,base,bZ,tail,n):=by
    rw[Lv (x:=x) (h:=h')]
    .exact l
    .intro id ab
     simp only[fZ];exact lQ _ _ (by grind)
   have hb:=LO C a.2;have O:=uW (P:=P) (o:=F) (f:=[x,.undef,.emp,x,.c (.bool false),.own e i.size nx 0 0,x,.undef]) (h:=fZ h' [(nx,.cells e i.size [])]) (bG:=[]) (ys:=rowsOf base bZ tail) (k:=[(nx,.dead)]) (xC:=[]) (nx:=nx+1) (B:=.sc e i.size base bZ tail n) (n:=n) S p N hz G M
    (yO.own (by simp[fZ,gO]) rfl) (Ah I) (by simp_all) (by simp_all) (by simp_all[fZ,lQ]) rfl (fun _ _ _ _ _ _ _ _=>⟨⟨a.2,a.1⟩,by simp_all⟩)
   refine jZ.cons (o:=F) rfl (fV g6) O.step ?_;rintro v d ⟨rfl,rfl⟩;rw[d6];refine jZ.cons (o:=X) rfl (fV g7) (pN R).step ?_;rintro v d ⟨rfl,rfl⟩;rw[d7];refine jZ.nil ?_;refine kT.ret ?_;refine⟨_,r _ _,.inr ⟨?_,?_⟩⟩
   .simp[qS,eF]
   .simp only[a35,fZ,a2a,a1r]
    grind[gO]
 refine(key m A w vs H hl L).mono ?_;rintro ed w' ⟨v,u,m',h',rfl,hR,H',s,E⟩;rcases hR with⟨rfl,rfl,h0⟩|⟨rfl,rfl⟩
 .obtain⟨H1,E1⟩:=H'.alq j
  obtain⟨H2,E2⟩:=H1.LZ (id:=nx+1) (by simp_all[lQ]) (B:=.sc e i.size base bZ tail n) (T:=e) (sz:=i.size) (by simp_all[dI.bG]) ⟨a.2,a.1⟩
  obtain⟨a0,rfl⟩:∃a0,v=.slice a0 0 0:=by
   cases s with|pure _ _ s=>cases s<;>simp_all
  exact⟨_,_,_,_,rfl,⟨rfl,rfl⟩,H2,.uP e i.size (nx+1) n a0 (by simp[sset]) (by simp_all),(E.trans E1).trans E2⟩
 grind
def rL (fn:Func):Option TypeId :=
 if fn.ntmps=8 then match fn.results.toList with
  | [.tmp 2] => if fn.name == "runtime.NumGoroutine" then none else match fn.body with
   |some (.seq (.region _ q0 false) (.seq (.seq (.region _ e false) (.cond (.tmp 4) (.seq (.region _ d false) .ret) .skip)) (.seq (.region _ c false) .ret))) =>
    match q0.toList,e.toList,d.toList,c.toList with
    |[⟨some 2,.assign (.const (.slice none 0 0)),_,_,_,none⟩],[⟨some 3,.move (.tmp 0),_,_,_,none⟩,⟨some 4,.binOp .eql t (.tmp 3) (.const (.slice none 0 0)) _,_,_,_,none⟩],[⟨some 2,.assign (.const (.slice none 0 0)),_,_,_,none⟩],
     [⟨some 5,.buildSlice t1 0 ps,_,_,_,none⟩,⟨some 6,.move (.tmp 0),_,_,_,none⟩,⟨some 7,.call ⟨.builtin .append,as,ts⟩,_,_,_,none⟩,⟨some 2,.assign (.tmp 7),_,_,_,none⟩] =>
     match ps.toList,as.toList,ts.toList with
     |[],[.tmp 5,.tmp 6],[b,a]=>if t1=t/\b=t/\a=t then some t else none
     |_,_,_=>none
    |_,_,_,_=>none
   |_=>none
  |_=>none
 else none
def apb {α:Type} {l:Array α} (h:l.toList=[]):l=#[]:=by simp_all
def ao9 {α:Type} {l:Array α} {x y z u:α} (h:l.toList=[x,y,z,u]):l=#[x,y,z,u]:=by grind
def abJ {t:TypeId} (h:rL fn=some t):acu fn t:=by
 unfold rL at h;split at h
 .rename_i g
  split at h
  .rename_i f
   split at h
   .cases h
   .rename_i a
    split at h
    .rename_i e q0 d r c q b p j
     split at h
     .rename_i o e1 e2 n
      split at h
      .rename_i m l k
       split at h
       .rename_i i
        obtain⟨rfl,rfl,rfl⟩:=i;cases h;have:=ach o;have:=Sr e1;have:=ach e2;have:=ao9 n;have:=apb m;have:=Sr l;have:=Sr k
        subst_vars
        exact⟨⟨e,d,c,b,_,_,_,_,_,_,_,_,j,rfl,rfl,rfl,rfl,rfl,⟨_,rfl⟩,rfl,rfl,rfl,rfl,rfl,rfl,rfl,rfl,rfl,rfl,rfl,rfl,rfl,rfl,rfl,rfl,rfl,rfl⟩,g,ach f,by simp_all⟩
       .cases h
      .cases h
     .cases h
    .cases h
  .cases h
 .cases h
def yC (P:Program) (t:TypeId) (x:AV):M AV:=fun h n =>
 match P.underlying t with
 |some (.slice e)=>match P.info? e with
  |some i=>match i.zero,jX h x with
   |some z,some bG=>if z.cells.size=i.size/\0<i.size/\(bG.all fun q=>q.length==i.size)=true/\MS x i.size=true/\bG.length*i.bytes<=140737488355328/\bG.length<=1099511627776/\lN h n=true/\lN h (n+1)=true/\(uM x).contains n=false then
     some ⟨.own e i.size (n+1) 0 bG.length,fZ h [(n,.dead),(n+1,.cells e i.size bG)],n+2,n::(n+1)::uM x,[n,n+1]⟩else none
   |_,_=>none
  |none=>none
 |_=>none
def TX (t:TypeId) (x:AV):Local (yC P t x):=by
 intro h n r b;have f:=b;unfold yC at b;split at b
 .rename_i e m
  split at b
  .rename_i i l
   split at b
   .rename_i z bG j k
    split at b
    .rename_i o
     cases b;refine⟨by simp,fun id a _=>kE (by simp_all),fun id a=>by grind,?_⟩
     intro g c d;have e1:jX g x=jX h x:=Ip fun id a=>c id (by simp[a]);have e2:lN g n=lN h n:=qQ (c n (by simp));have p:lN g (n+1)=lN h (n+1):=qQ (c (n+1) (by simp));refine⟨⟨.own e i.size (n+1) 0 bG.length,fZ g [(n,.dead),(n+1,.cells e i.size bG)],n+2,n::(n+1)::uM x,[n,n+1]⟩,?_,rfl,rfl,rfl,rfl,?_,fun id a _=>kE (by simp_all)⟩
     .simp_all[yC]
     .intro id a
      refine xE ?_
      grind
    simp_all
   simp_all
  simp_all
 simp_all
end
def yB [Bk] (P:Program) (t:TypeId) (x:AV):M AV:=fun h n =>
 match P.underlying t with
 |some (.slice e)=>match P.info? e with
  |some i=>match i.zero,nA h x with
   |some z,some (a,base,bZ,tail,N)=>if z.cells.size=i.size/\0<i.size/\a=i.size/\Xi N i.bytes=true/\lN h n=true/\lN h (n+1)=true/\(Lq x).contains n=false then
     some ⟨.dD e i.size (n+1) N,fZ h [(n,.dead),(n+1,.sc e i.size base bZ tail N)],n+2,n::(n+1)::Lq x,[n,n+1]⟩else none
   |_,_=>none
  |none=>none
 |_=>none
def uB [Bk] (P:Program) (t:TypeId) (x:AV):M AV:=fun h n =>
 match yC P t x h n with
 |some r=>some r
 |none=>yB P t x h n
theorem IZ [Bk] {t:TypeId} {h h':AH} {n n':Nat} {r:Rs AV} (a:yB P t x h n=some r):yC P t x h' n'=none:=by
 have:jX h' x=none:=by
  unfold yB at a;split at a
  .split at a
   .split at a
    .rename_i b
     unfold nA at b;split at b
     .rfl
     .rfl
     simp_all
    simp_all
   simp_all
  simp_all
 grind[yC]
def RM [Bk] [Ev] (t:TypeId) (x:AV):Local (yB P t x):=by
 intro h n r b;have f:=b;unfold yB at b;split at b
 .rename_i e o
  split at b
  .rename_i i m
   split at b
   .rename_i z j base bZ tail N k l
    split at b
    .rename_i p
     cases b;refine⟨by simp,fun id a _=>kE (by simp_all),fun id a=>by grind,?_⟩
     intro g c d;have e1:nA g x=nA h x:=Lv fun id a=>c id (by simp[a]);have e2:lN g n=lN h n:=qQ (c n (by simp));have q:lN g (n+1)=lN h (n+1):=qQ (c (n+1) (by simp));refine⟨⟨.dD e i.size (n+1) N,fZ g [(n,.dead),(n+1,.sc e i.size base bZ tail N)],n+2,n::(n+1)::Lq x,[n,n+1]⟩,?_,rfl,rfl,rfl,rfl,?_,fun id a _=>kE (by simp_all)⟩
     .simp_all[yB]
     .intro id a
      refine xE ?_
      grind
    simp_all
   simp_all
  simp_all
 simp_all
def RL [Bk] [Ev] (t:TypeId) (x:AV):Local (uB P t x):=by
 intro h n r c;unfold uB at c;split at c
 .rename_i r' d
  cases c;have L:=TX t x h n r d;refine⟨L.le,L.frame,L.sub,fun g a b=>?_⟩
  obtain⟨r2,e1,e2⟩:=L.again g a b;simp_all[uB]
 .have L:=RM t x h n r c
  refine⟨L.le,L.frame,L.sub,fun g a b=>?_⟩;obtain⟨r2,e1,e2⟩:=L.again g a b;grind[uB,IZ]
def toPs:List AV->Option (List Poly)
 |[]=>some []
 |x::l=>match toP x,toPs l with
  |some p,some q=>some (p::q)
  |_,_=>none
def ady (k:Nat) (ps:List Poly):List (Nat×List Poly×List Poly)->Option (List Poly)
 |[]=>none
 |t::l=>if t.1=k/\t.2.1=ps then some t.2.2 else ady k ps l
def Xk {k:Nat} {ps rs:List Poly}:∀{l:List (Nat×List Poly×List Poly)},ady k ps l=some rs->(k,ps,rs)∈l
 |[],h=>by cases h
 |t::l,h=>by
  unfold ady at h;split at h
  .grind
  .exact a06 _ (Xk h)
def AS (r:AV->Option (AV×List Nat)):List AV->Option (List AV×List Nat)
 |[]=>some ([],[])
 |x::l=>match r x with
  |none=>none
  |some (y,i)=>match AS r l with
   |none=>none
   |some (m,j)=>some (y::m,i++j)
def R3 (r:AV->Option (AV×List Nat)):List (List AV)->Option (List (List AV)×List Nat)
 |[]=>some ([],[])
 |e::l=>match AS r e with
  |none=>none
  |some (y,i)=>match R3 r l with
   |none=>none
   |some (m,j)=>some (y::m,i++j)
def wA (h:AH):Nat->AV->Option (AV×List Nat)
 |0,_=>none
 |k+1,x=>match x with
  | .agg cs=>match AS (wA h k) cs with
   |some (m,i)=>some (.agg m,i)
   |none=>none
  | .bE cs=>match AS (wA h k) cs with
   |some (m,i)=>some (.bE m,i)
   |none=>none
  | .own _ a id i n=>match h id with
   | .cells _ s bG=>if s=a/\i+n<=bG.length then match R3 (wA h k) ((bG.drop i).take n)with
     |some (m,b)=>some (.lit a m,id::b)
     |none=>none
    else none
   |_=>none
  | .c v=>some (.c v,[])
  | .undef=>some (.undef,[])
  | .emp=>some (.emp,[])
  | .lit a bG=>some (.lit a bG,[])
  | .e p=>some (.e p,[])
  | .row n d=>some (.row n d,[])
  | .o i=>some (.o i,[])
  | .any=>some (.any,[])
  | .ptr _ _ _ _=>some (.any,[])
  | .fn (.func q) [] []=>some (.c (.func (.func q) #[] #[]),[])
  | .seq a base bZ tail=>some (.seq a base bZ tail,[])
  | .dD _ a id n=>match h id with
   | .sc _ s base bZ tail n'=>if s=a/\n'=n then match R3 (wA h k) (bZ.map (·.2)),R3 (wA h k) tail with
     |some (u,b),some (m,f)=>some (.seq a base ((bZ.map (·.1)).zip u) m,id::(b++f))
     |_,_=>none
    else none
   |_=>none
  |_=>none
def oR {r:AV->Option (AV×List Nat)}:∀{cs m:List AV} {a:List Nat},AS r cs=some (m,a)->m.length=cs.length/\∀(i:Nat) (y:AV),m[i]?=some y->∃x is,cs[i]?=some x/\r x=some (y,is)/\∀id∈is,id∈a
 |[],m,a,h=>by cases h;simp_all
 |x::l,m,a,h=>by
  unfold AS at h;split at h
  .cases h
  .rename_i y i d
   split at h
   .cases h
   .rename_i c j b
    cases h;obtain⟨f,e⟩:=oR b;grind
def EW {r:AV->Option (AV×List Nat)}:∀{cs m:List (List AV)} {a:List Nat},R3 r cs=some (m,a)->m.length=cs.length/\∀(i:Nat) (y:List AV),m[i]?=some y->∃x is,cs[i]?=some x/\AS r x=some (y,is)/\∀id∈is,id∈a
 |[],m,a,h=>by cases h;simp_all
 |x::l,m,a,h=>by
  unfold R3 at h;split at h
  .cases h
  .rename_i y i d
   split at h
   .cases h
   .rename_i c j b
    cases h;obtain⟨f,e⟩:=EW b;grind
theorem Ni {r r':AV->Option (AV×List Nat)}:∀{cs m:List AV} {a:List Nat},AS r cs=some (m,a)->(∀x y is,r x=some (y,is)->(∀id∈is,id∈a)->r' x=some (y,is))->AS r' cs=some (m,a)
 |[],m,a,h,_=>by cases h;rfl
 |x::l,m,a,h,d=>by
  unfold AS at h |-;split at h
  .cases h
  .rename_i y i c
   split at h
   .cases h
   .rename_i f j e
    cases h;rw[d x y i c fun id b=>a36 _ b,Ni e fun x y is c hs=>d x y is c fun id b=>a4n _ (hs id b)]
theorem R0 {r r':AV->Option (AV×List Nat)}:∀{cs m:List (List AV)} {a:List Nat},R3 r cs=some (m,a)->(∀x y is,r x=some (y,is)->(∀id∈is,id∈a)->r' x=some (y,is))->R3 r' cs=some (m,a)
 |[],m,a,h,_=>by cases h;rfl
 |x::l,m,a,h,d=>by
  unfold R3 at h |-;split at h
  .cases h
  .rename_i y i b
   split at h
   .cases h
   .rename_i f j e
    cases h;rw[Ni b fun x y is b hs=>d x y is b fun id c=>a36 _ (hs id c),R0 e fun x y is b hs=>d x y is b fun id c=>a4n _ (hs id c)]
def amv {h h':AH}:∀{k:Nat} {x y:AV} {e:List Nat},wA h k x=some (y,e)->(∀id∈e,h' id=h id)->wA h' k x=some (y,e)
 |0,x,y,e,c,_=>by cases c
 |k+1,x,y,e,c,l=>by
  have j:∀x y is,wA h k x=some (y,is)->(∀id∈is,id∈e)->wA h' k x=some (y,is):=fun x y is g hs=>amv g fun id d=>l id (hs id d);cases x with
  |agg cs =>
   grind[wA,Ni]
  |bE cs =>
   grind[wA,Ni]
  |own T o id i n =>
   simp only[wA]at c |-;split at c<;>grind[R0]
  |dD T o id n =>
   simp only[wA]at c |-;split at c
   .rename_i w s base bZ tail n' r
    split at c
    .rename_i t
     split at c
     .rename_i u is m v p q
      cases c;rw[l id a1b,r];simp only;rw[if_pos t,R0 p fun x y is g hs=>j x y is g fun id d=>a06 _ (a36 _ (hs id d)),R0 q fun x y is g hs=>j x y is g fun id d=>a06 _ (a4n _ (hs id d))]
     simp_all
    simp_all
   simp_all
  |ptr=>exact c
  |iY=>cases c
  |fn f a b=>cases f<;>cases a<;>cases b<;>first|exact c|cases c
  |qZ=>cases c
  |_=>exact c
def RZ {h:AH} {k:Nat} {y:AV} {g:List Nat} (d:wA h k x=some (y,g)) (h1:x.one=true):y.one=true:=by
 cases k with
 |zero=>cases d
 |succ k =>
  cases x with
  |agg cs=>simp_all[AV.one]
  |bE cs=>simp_all[AV.one]
  |own T e id i n =>
   simp only[wA]at d;split at d
   .split at d
    .split at d
     .cases d;rfl
     simp_all
    simp_all
   simp_all
  |c v=>cases d;exact h1
  |undef=>simp_all[AV.one]
  |ptr=>cases d;rfl
  |iY=>cases d
  |fn f a b=>cases f<;>cases a<;>cases b<;>first|(cases d;rfl)|cases d
  |qZ=>cases d
  |yld=>cases d
  |mpv=>cases d
  |view=>cases d
  |vH=>cases d
  |dD T e id n =>
   simp only[wA]at d;split at d
   .split at d
    .split at d
     .cases d;rfl
     simp_all
    simp_all
   simp_all
  |nP=>cases d
  |pP=>cases d
  |_=>cases d;rfl
def Xh [Bk] [Ev] {R:List AV->List AV->Prop}:∀(bZ:List (Poly×List AV)) (u:List (List AV)) (l l':List (List AV)),u.length=bZ.length->(∀(i:Nat) (q:Poly×List AV) (e:List AV),bZ[i]?=some q->u[i]?=some e->R q.2 e)->l'.length=l.length->(∀(i:Nat) (e':List AV),l'[i]?=some e'->∃e,l[i]?=some e/\R e e') ->
  ∀(i:Nat) (e':List AV),(((bZ.map (·.1)).zip u).foldl (fun l q=>l.set (cI Ev.eW q.1).toNat q.2) l')[i]?=some e'->∃e,(bZ.foldl (fun l q=>l.set (cI Ev.eW q.1).toNat q.2) l)[i]?=some e/\R e e'
 |[],u,l,l',_,_,_,d,i,e',h=>by
  simp_all
 |q::bZ,[],l,l',c,_,_,_,i,e',h=>by simp at c
 |q::bZ,g::u,l,l',c,b,f,d,i,e',h=>by
  simp only[a0r,a3g,a2l]at h |-;refine Xh bZ u _ _ (by simp_all) (fun i q e j n=>b (i+1) q e (by simp_all) (by simp_all)) (by simp[f]) ?_ i e' h;intro i e1 a;rw[a0o]at a;split at a
  .rename_i m
   split at a
   .rename_i k
    cases a;refine⟨q.2,?_,b 0 q g rfl rfl⟩
    simp_all
   simp_all
  simp_all
def nX (m:Nat->St) (K:List Nat):Nat->St:=fun id=>if id∈K then .dead else m id
def wN {K:List Nat} {id b:Nat} (h:nX m K id=.at b):id ∉ K/\m id=.at b:=by
 grind[nX]
def aoy {K:List Nat} {b:Nat} (h:Av (nX m K) A b):Av m A b:=by
 rcases h with h|⟨id,h⟩
 .exact .inl h
 .exact .inr ⟨id,(wN h).2⟩
def Ij [Bk] [Ev] {m:Nat->St} {A:Nat->Prop} {h:AH} {w:World} (H:dU m A h w) (K:List Nat):∀{k:Nat} {x y:AV} {S:List Nat} {v:Value},wA h k x=some (y,S)->(∀id∈S,id∈K)->Rd m A w x v->eC (Av (nX m K) A) w y v
 |0,x,y,S,v,d,_,_=>by cases d
 |k+1,x,y,S,v,d,hK,z=>by
  have ih:∀{x y:AV} {is:List Nat} {v:Value},wA h k x=some (y,is)->(∀id∈is,id∈S)->Rd m A w x v->eC (Av (nX m K) A) w y v:=fun U hs hv=>Ij H K U (fun id ae=>hK id (hs id ae)) hv;have base:∀{x:AV} {v:Value},eC (Av m A) w x v->eC (Av (nX m K) A) w x v:=fun U=>U.mono (a0g _) fun b _ hb=>⟨fun h=>hb (aoy h),rfl⟩;cases x with
  |agg cs =>
   simp only[wA]at d;split at d
   .rename_i D i N
    cases d;obtain⟨h1,h2⟩:=oR N;obtain⟨vs,rfl,hl,hc⟩:=z.pY;refine .agg _ vs (by omega) ?_ ?_
    .intro i y t
     obtain⟨x,is,L,g2,g3⟩:=h2 i y t;exact RZ g2 (hc i x L).1
    grind
   simp_all
  |bE cs =>
   simp only[wA]at d;split at d
   .rename_i D i N
    cases d;obtain⟨h1,h2⟩:=oR N;obtain⟨vs,rfl,hl,hc⟩:=z.acA;refine .bE _ vs (by omega) ?_
    grind
   simp_all
  |own T sz id i n =>
   simp only[wA]at d;split at d
   .rename_i T' s bG he
    split at d
    .rename_i ab
     obtain⟨rfl,ag⟩:=ab;split at d
     .rename_i D ks N
      cases d;obtain⟨h1,h2⟩:=EW N;have W:((bG.drop i).take n).length=n:=by grind
      rw[W]at h1;rcases H.cells id _ _ _ he with⟨hv,rfl⟩|⟨b,cs,L,g2,g3,g4,g5⟩
      .have hn:n=0:=by simp_all
       subst hn;have e:D=[]:=a1f.1 h1;subst e;cases z with
       |pure _ _ h=>cases h
       |own _ _ _ _ _ b _ N=>simp_all
       |vN _ _ _ _ a N=>exact .nQ _ a 0 (a0n _)
       |wK _ _ _ _ _ _ _ _ N=>simp_all
      .obtain⟨cap,rfl,aa,Z,-⟩:=z.vU L
       have M:∀(g r:Nat) (y:AV),iE D g r=some y->∃x is,iE bG (i+g) r=some x/\wA h k x=some (y,is)/\(∀id∈is,id∈ks)/\g<n:=by
        intro g r y t;unfold iE at t;cases O:D[g]? with
        |none=>simp_all
        |some B =>
         rw[O]at t;simp only[a1p]at t;obtain⟨e,is,G,E,F⟩:=h2 g B O;obtain⟨-,l2⟩:=oR E;grind[iE]
       rw[<-h1];refine .lit s D b (i*s) cap (fun g r=>cs.getD ((i+g)*s+r) Go.undef) ?_ (H.lt L) ⟨by omega,Z⟩ ?_ ?_ ?_ ?_
       .rintro(h|⟨I,h⟩)
        .exact H.out id b L h
        .obtain⟨h3,h4⟩:=wN h
         have:=H.inj id I b L h4
         simp_all
       .intro B J
        obtain⟨g,Y⟩:=a1s.1 J;obtain⟨e,is,G,E,F⟩:=h2 g B Y;obtain⟨l1,-⟩:=oR E;grind
       .intro g r y t
        obtain⟨x,is,G,E,F,-⟩:=M g r y t;exact RZ E (g5 _ _ _ G).1
       .intro g r y t
        obtain⟨x,is,G,E,F,-⟩:=M g r y t;have ac:=(kG G g4).2.2;have e:i*s+(g*s+r)=(i+g)*s+r:=(by grind);rw[e];have V:(i+g)*s+r<cs.size:=by omega
        simp_all[World.cell?]
       grind
     simp_all
    simp_all
   simp_all
  |ptr=>cases d;cases z with
   |pure _ _ h=>cases h
   |_=>exact .any _ rfl
  |iY=>cases d
  |fn f a b =>
   have:∃q,f=.func q/\a=[]/\b=[]/\y=.c (.func (.func q) #[] #[]):=by
    cases f<;>cases a<;>cases b<;>first|(cases d;exact⟨_,rfl,rfl,rfl,rfl⟩)|cases d
   obtain⟨q,rfl,rfl,rfl,rfl⟩:=this;obtain rfl:v=.func (.func q) #[] #[]:=by
    cases z with
    |pure _ _ h=>cases h<;>simp_all
    |fn _ _ _ vs us hl hk=>simp_all
   exact .c _
  |qZ=>cases d
  |c v=>cases d;cases z<;>simp_all
  |undef=>cases d;cases z<;>simp_all
  |emp=>cases d;cases z<;>simp_all
  |lit sz bG=>cases d;cases z<;>simp_all
  |e p=>cases d;cases z<;>simp_all
  |row n xs=>cases d;cases z<;>simp_all
  |o i=>cases d;cases z<;>simp_all
  |yld id=>cases d
  |mpv id=>cases d
  |view=>cases d
  |any=>cases d;cases z<;>simp_all
  |seq=>cases d;cases z<;>simp_all
  |vH=>cases d
  |dD T sz id n =>
   simp only[wA]at d;split at d
   .rename_i T' s bs bZ tail n' he
    split at d
    .rename_i hc
     obtain⟨rfl,rfl⟩:=hc;split at d
     .rename_i u is D ks hu N
      cases d;obtain⟨u1,u2⟩:=EW hu;obtain⟨m1,m2⟩:=EW N;simp only[a0w]at u1;obtain⟨hn,ah⟩:=H.IL he;have X:∀q∈(bZ.map (·.1)).zip u,InB bs q.1:=by
       intro q hq;obtain⟨q',af,e1⟩:=a0j.1 (List.of_mem_zip hq).1
       grind
      have W:(rowsOf bs ((bZ.map (·.1)).zip u) D).length=(rowsOf bs bZ tail).length:=(by simp_all[iU]);let R:List AV->List AV->Prop:=fun e B=>(∃C,AS (wA h k) e=some (B,C)/\∀I∈C,I∈is++ks)\/(B=e/\∀x∈e,Cl x)
      have Q:∀(i:Nat) (B:List AV),(rowsOf bs ((bZ.map (·.1)).zip u) D)[i]?=some B->∃e,(rowsOf bs bZ tail)[i]?=some e/\R e B:=by
       intro i B J;have ai:∀P:List (Poly×List AV),(P.foldl (fun l q=>l.set (cI Ev.eW q.1).toNat q.2) (Ev.seq bs)).length=(Ev.seq bs).length:=by
        intro P;have:=iU bs P []
        simp_all[rowsOf]
       unfold rowsOf at J |-;rcases a0z i (Ev.seq bs).length with hi|hi
       .rw[a12 (by simp_all)]at J |-
        refine Xh (R:=R) bZ u (Ev.seq bs) (Ev.seq bs) u1 ?_ rfl ?_ i B J
        .grind
        .intro j e hj
         exact⟨e,hj,.inr ⟨rfl,Ev.vI bs e (a0a hj)⟩⟩
       grind
      rcases H.wV id T' s (rowsOf bs bZ tail) (by rw[he];rfl)with⟨hv,e0⟩|⟨b,cs,L,g2,g3,g4,g5⟩
      .obtain⟨a,rfl,-⟩:=z.wC hv
       refine .seq _ _ _ _ _ X rfl ?_;have:rowsOf bs ((bZ.map (·.1)).zip u) D=[]:=a1f.1 (by simp_all);rw[this];exact .nQ _ a 0 (a0n _)
      .obtain⟨len,cap,e,rfl,aa,Z,-⟩:=z.Fc L
       refine .seq _ _ _ _ _ X rfl ?_;have ad:len=(rowsOf bs ((bZ.map (·.1)).zip u) D).length:=(by omega)
       subst ad;have M:∀(g r:Nat) (y:AV),iE (rowsOf bs ((bZ.map (·.1)).zip u) D) g r=some y->∃x,iE (rowsOf bs bZ tail) g r=some x/\((∃C,wA h k x=some (y,C)/\∀I∈C,I∈is++ks)\/(y=x/\Cl x)):=by
        intro g r y t;unfold iE at t;cases O:(rowsOf bs ((bZ.map (·.1)).zip u) D)[g]? with
        |none=>simp_all
        |some B =>
         rw[O]at t;simp only[a1p]at t;obtain⟨e,G,⟨C,E,F⟩|⟨rfl,F⟩⟩:=Q g B O
         .obtain⟨-,l2⟩:=oR E
          grind[iE]
         grind[iE]
       have aj:∀(g r:Nat) (x:AV),iE (rowsOf bs bZ tail) g r=some x->w.cell? ⟨b,0+(g*s+r),none⟩=some (cs.getD (g*s+r) Go.undef):=by
        intro g r x U;have ac:=(kG U g4).2.2;rw[a02];have V:g*s+r<cs.size:=by omega
        simp[World.cell?,g2,V]
       refine .lit s _ b 0 cap (fun g r=>cs.getD (g*s+r) Go.undef) ?_ (H.lt L) ⟨aa,Z⟩ ?_ ?_ ?_ ?_
       .rintro(h|⟨I,h⟩)
        .exact H.out id b L h
        .obtain⟨h3,h4⟩:=wN h
         have:=H.inj id I b L h4
         simp_all
       .intro B J
        obtain⟨g,Y⟩:=a1s.1 J;obtain⟨e,G,⟨C,E,F⟩|⟨rfl,F⟩⟩:=Q g B Y
        .obtain⟨l1,-⟩:=oR E
         grind
        grind
       .intro g r y t
        obtain⟨x,G,⟨C,E,F⟩|⟨rfl,F⟩⟩:=M g r y t
        .exact RZ E (g5 _ _ _ G).1
        grind
       .grind
       .intro g r y t
        obtain⟨x,G,⟨C,E,F⟩|⟨rfl,F⟩⟩:=M g r y t
        .grind
        .exact base ((g5 _ _ _ G).2.cl F)
     simp_all
    simp_all
   simp_all
  |nP=>cases d
  |pP=>cases d
theorem sE (h:AH):∀(K:List Nat) (id:Nat),fZ h (K.map fun id=>(id,dI.dead)) id=if id∈K then .dead else h id
 |[],id=>by simp[fZ]
 |i::l,id=>by
  have:=sE (gO h i .dead) l id;simp only[a0r,fZ];grind[gO]
def dU.TZ [Bk] [Ev] {m:Nat->St} {A:Nat->Prop} {h:AH} {w:World} (H:dU m A h w) (K:List Nat) :
  dU (nX m K) A (fZ h (K.map fun id=>(id,dI.dead))) w/\Ext m w (nX m K) w:=by
 have E:Ext m w (nX m K) w:=by
  refine⟨rfl,rfl,rfl,a0g _,?_,?_,?_,?_,fun _ _ _ _=>rfl⟩<;>grind[nX]
 refine⟨⟨fun id b o=>H.out id b (wN o).2,H.old,?_,?_,?_,fun i j b n l=>H.inj i j b (wN n).2 (wN l).2,H.mT.ext H.out E,H.nW E fun id B a t=>?_,fun id=>?_⟩,E⟩
 .intro id a
  rw[sE]at a;split at a
  .cases a
  .rename_i c;unfold nX;rw[if_neg c];exact H.no id a
 .intro id a
  rw[sE]at a;split at a
  .simp_all[nX]
  .rename_i c;unfold nX;rw[if_neg c];exact H.dead id a
 .intro id T k bG a
  rw[sE]at a;split at a
  .simp_all[dI.bG]
  .rename_i c
   have e:nX m K id=m id:=(by simp_all[nX]);rw[e];obtain g|⟨b,cs,s,r,q,p,f⟩:=H.wV id T k bG a
   .simp_all
   .exact .inr ⟨b,cs,s,r,q,p,fun i j x d=>⟨(f i j x d).1,(f i j x d).2.ext E⟩⟩
 .grind[sE,dI.other,nX]
 .rw[sE]
  split
  .trivial
  .exact H.scs id
def vEq:Value->Value->Bool
 | .int k a,.int k' b=>decide (k=k')&&decide (a=b)
 | .bool a,.bool b=>a==b
 | .string a,.string b=>decide (a.data.toList=b.data.toList)
 | .pointer none,.pointer none=>true
 | .nilIface,.nilIface=>true
 | .func (.func k) x y,.func (.func k') d c=>decide (k=k')&&(decide (x.size=0)&&decide (y.size=0))&&(decide (d.size=0)&&decide (c.size=0))
 |_,_=>false
theorem aav {a b:Value} (h:vEq a b=true):a=b:=by
 unfold vEq at h;split at h
 .simp_all
 .simp_all
 .rw[decide_eq_true_eq]at h;have:=Array.ext' h;grind[ByteArray.ext]
 .rfl
 .rfl
 .simp_all
 .cases h
def LQ (r:AV->AV->Bool):List AV->List AV->Bool
 |[],[]=>true
 |x::l,y::m=>r x y&&LQ r l m
 |_,_=>false
def Im (r:AV->AV->Bool):List (List AV)->List (List AV)->Bool
 |[],[]=>true
 |x::l,y::m=>LQ r x y&&Im r l m
 |_,_=>false
def AY:Nat->AV->AV->Bool
 |0,_,_=>false
 |k+1,x,y=>match x,y with
  | .c v,.c u=>vEq v u
  | .undef,.undef=>true
  | .emp,.emp=>true
  | .agg a,.agg b=>LQ (AY k) a b
  | .bE a,.bE b=>LQ (AY k) a b
  | .lit s a,.lit d b=>decide (s=d)&&Im (AY k) a b
  | .e p,.e q=>decide (p=q)
  | .row n a,.row n' b=>decide (n=n')&&decide (a=b)
  | .o i,.o j=>decide (i=j)
  | .any,.any=>true
  | .seq s b u t,.seq d h f g=>decide (s=d)&&(decide (b=h)&&(decide (u.map (·.1)=f.map (·.1))&&(Im (AY k) (u.map (·.2)) (f.map (·.2))&&Im (AY k) t g)))
  |_,_=>false
theorem Nn {r:AV->AV->Bool} (c:∀x y,r x y=true->x=y):∀{a b:List AV},LQ r a b=true->a=b
 |[],[],_=>rfl
 |[],_::_,h=>by cases h
 |_::_,[],h=>by cases h
 |x::l,y::m,h=>by
  unfold LQ at h;rw[a0e]at h;rw[c x y h.1,Nn c h.2]
theorem LP {r:AV->AV->Bool} (c:∀x y,r x y=true->x=y):∀{a b:List (List AV)},Im r a b=true->a=b
 |[],[],_=>rfl
 |[],_::_,h=>by cases h
 |_::_,[],h=>by cases h
 |x::l,y::m,h=>by
  unfold Im at h;rw[a0e]at h;rw[Nn c h.1,LP c h.2]
theorem yE:∀{k:Nat} {x y:AV},AY k x y=true->x=y
 |0,x,y,h=>by cases h
 |k+1,x,y,h=>by
  have a:∀x y,AY k x y=true->x=y:=fun x y=>yE;unfold AY at h;split at h
  .rw[aav h]
  .rfl
  .rfl
  .grind[Nn]
  .grind[Nn]
  .grind[LP]
  .simp_all
  .simp_all
  .simp_all
  .rfl
  .rename_i s b u t i m f g
   simp only[a0e,decide_eq_true_eq]at h;obtain⟨rfl,rfl,j,d,c⟩:=h;have d:=LP a d;have c:=LP a c;have e:∀l:List (Poly×List AV),l=(l.map (·.1)).zip (l.map (·.2)):=by
    intro l;induction l<;>grind
   grind
  .cases h
def afi:Nat->AV->List Poly
 |0,_=>[]
 |k+1,x=>match x with
  | .e p=>[p]
  | .agg l=>l.flatMap (afi k)
  | .lit _ l=>l.flatMap fun e=>e.flatMap (afi k)
  | .seq _ b u _=>zM b::u.map (·.1)
  |_=>[]
def Xl (k:Nat) (as:List AV):List (Nat×List AV×AV)->Option AV
 |[]=>none
 |t::l=>bif Nat.beq t.1 k&&(decide (t.2.1.map (afi 16)=as.map (afi 16))&&LQ (AY 16) t.2.1 as)then some t.2.2 else Xl k as l
def Nk {k:Nat} {as:List AV} {r:AV}:∀{l:List (Nat×List AV×AV)},Xl k as l=some r->(k,as,r)∈l
 |[],h=>by cases h
 |t::l,h=>by
  unfold Xl at h;cases a:(Nat.beq t.1 k&&(decide (t.2.1.map (afi 16)=as.map (afi 16))&&LQ (AY 16) t.2.1 as))with
  |true =>
   rw[a]at h;cases h;rw[a0e,a0e]at a;have e1:t.1=k:=Nat.eq_of_beq_eq_true a.1;have e2:=Nn (fun x y=>yE) a.2.2
   grind
  |false =>
   rw[a]at h;exact a06 _ (Nk h)
def knB [Bk] (P:Program) (k:FuncId):Bool :=
 Bk.bQ.any (fun t => Nat.beq t.1 k) && (match P.funcs[k]? with | some fn => (match fn.body with | some _ => !(fn.name == "runtime.NumGoroutine") | none => false) | none => false)
def IK:Nat->AV->Bool
 |0,_=>false
 |k+1,x=>match x with
  | .c _ | .undef | .e _ | .o _ | .any=>true
  | .agg l=>l.all (IK k)
  | .bE l=>l.all (IK k)
  |_=>false
section
variable [Bk] [Ev]
def eC.amW {g:Nat->Prop} {w w':World}:∀{k:Nat} {x:AV} {v:Value},IK k x=true->eC A w x v->eC g w' x v
 |0,x,v,h,_=>by cases h
 |k+1,x,v,h,b=>by
  cases b with
  |c v=>exact .c v
  |undef=>exact .undef
  |e p=>exact .e p
  |o i=>exact .o i
  |any v f=>exact .any v f
  |agg cs vs d f b=>exact .agg cs vs d f fun i x a=>eC.amW (a0k.1 h x (a0a a)) (b i x a)
  |bE cs vs d b=>exact .bE cs vs d fun i x a=>eC.amW (a0k.1 h x (a0a a)) (b i x a)
  |_=>cases h
def knM [Bk] (k:FuncId) (args:List AV):M AV:=fun h n =>
 match AS (wA h 16) args with
 |some (as,ids)=>match Xl k as Bk.bQ with
  |some r=>bif IK 8 r then some ⟨r,h,n,ids,[]⟩else some ⟨r,fZ h (ids.map fun id=>(id,dI.dead)),n,ids,ids⟩
  |none=>none
 |none=>none
def ahD (k:FuncId) (args:List AV):Local (knM k args):=by
 intro h n r b;unfold knM at b;split at b
 .rename_i as ids e
  split at b
  .rename_i v j
   have i:∀g:AH,(∀id∈ids,g id=h id)->AS (wA g 16) args=some (as,ids):=fun g c=>Ni e fun x y is d hs=>amv d fun id a=>c id (hs id a);cases hs:IK 8 v with
   |true =>
    rw[hs]at b;cases b;refine⟨a0g _,fun id a _=>rfl,fun _ a=>absurd a a0b,?_⟩
    simp_all[knM]
   |false =>
   rw[hs]at b;cases b;refine⟨a0g _,fun id a _=>kE (by simp_all),fun _ a=>a,?_⟩
   intro g c f;refine⟨⟨v,fZ g (ids.map fun id=>(id,dI.dead)),n,ids,ids⟩,?_,rfl,rfl,rfl,rfl,?_,fun id a _=>kE (by simp_all)⟩
   .simp_all[knM]
   .intro id a
    rcases a with a|a
    .exact xE (by simp_all)
    grind
  simp_all
 simp_all
def NV [Bk] [Ev] (P:Program) (k:FuncId) (as:List AV) (r:AV):Prop :=
 ∀(A:Nat->Prop) (w:World) (vs:Array Value),(∀b,A b->b<w.heap.size)->GOk A w->vs.size=as.length->(∀(i:Nat) (x:AV),as[i]?=some x->eC A w x (vs.getD i Go.undef)) ->
  Calls P k vs w fun e w'=>∃v,e=.returned v/\eC A w' r v/\Below w.heap.size w w'
def ahL {P:Program} {args as:List AV} {ids:List Nat} {r:AV} {h:AH} (n:AS (wA h 16) args=some (as,ids)) (l:NV P k as r):jA P k args h (fun v h'=>v=r/\h'=fZ h (ids.map fun id=>(id,dI.dead))):=by
 intro m A w vs H z g;obtain⟨c,u⟩:=H.TZ ids;obtain⟨B,o⟩:=oR n;refine(l (Av (nX m ids) A) w vs ?_ (fun t d=>⟨.inl (H.mT t d).1,(H.mT t d).2⟩) (by omega) ?_).mono ?_
 .rintro b (a|⟨id,a⟩)
  .exact H.old b a
  .exact c.lt a
 .intro i y f
  obtain⟨x,is,s,q,p⟩:=o i y f;exact Ij H ids q p (g i x s)
 .rintro e w' ⟨v,rfl,j,a⟩
  exact⟨v,r,nX m ids,_,rfl,⟨rfl,rfl⟩,c.below a,.pure _ _ j,u.trans (Ext.EI c a)⟩
def aeK {P:Program} {args as:List AV} {ids:List Nat} {r:AV} {h:AH} (l:AS (wA h 16) args=some (as,ids)) (hs:IK 8 r=true) (j:NV P k as r):jA P k args h (fun v h'=>v=r/\h'=h):=by
 intro m A w vs H u f;obtain⟨s,B⟩:=H.TZ ids;obtain⟨z,n⟩:=oR l;refine(j (Av (nX m ids) A) w vs ?_ (fun t c=>⟨.inl (H.mT t c).1,(H.mT t c).2⟩) (by omega) ?_).mono ?_
 .rintro b (a|⟨id,a⟩)
  .exact H.old b a
  .exact s.lt a
 .intro i y d
  obtain⟨x,is,q,p,o⟩:=n i y d;exact Ij H ids p o (f i x q)
 .rintro e w' ⟨v,rfl,g,a⟩
  exact⟨v,r,m,_,rfl,⟨rfl,rfl⟩,H.below a,.pure _ _ (eC.amW hs g),Ext.EI H a⟩
def ai8 [Bk] (P:Program) (k:FuncId) (args:List AV):Bool :=
 Bk.yes.contains k && (args.isEmpty && (match P.funcs[k]? with | some fn => (match fn.body with | some _ => !(fn.name == "runtime.NumGoroutine") | none => false) | none => false))
def Xn [Bk] (P:Program) (k:FuncId) (args:List AV):Option AV :=
 if ai8 P k args=true then some (.c (.bool true))else match Bk.ext with
 |[]=>none
 |l=>match P.funcs[k]? with
  |some fn=>match fn.body with
   | some _ => if fn.name == "runtime.NumGoroutine" then none else match toPs args with
    |some ps=>match ady k ps l with
     |some rs=>some (Ee (rs.map C9))
     |none=>none
    |none=>none
   |none=>none
  |none=>none
def lL [Bk] [Ev] (P:Program):Prop:=(∀k ps rs,(k,ps,rs)∈Bk.ext->∀args h,toPs args=some ps->jA P k args h (fun v h'=>v=Ee (rs.map C9)/\h'=h)) /\
 (∀k,k∈Bk.yes->∀h,jA P k [] h (fun v h'=>v=.c (.bool true)/\h'=h))/\∀k as r,(k,as,r)∈Bk.bQ->NV P k as r
def ai7 (i:lL P) {args:List AV} (a:ai8 P k args=true) (h:AH) :
  ∃ fn c, P.funcs[k]? = some fn /\ fn.body = some c /\ (fn.name == "runtime.NumGoroutine") = false /\ jA P k args h (fun d h' => d = .c (.bool true) /\ h' = h) := by
 unfold ai8 at a;rw[a0e,a0e]at a;obtain⟨l,j,b⟩:=a;split at b
 .rename_i fn e
  split at b
  .rename_i c f
   have g:args=[]:=(by simp_all);subst g;exact⟨fn,c,e,f,by simp_all,i.2.1 k (by simp_all) h⟩
  simp_all
 simp_all
def aku (d:lL P) {args:List AV} {v:AV} (a:Xn P k args=some v) (h:AH) :
  ∃ fn c, P.funcs[k]? = some fn /\ fn.body = some c /\ (fn.name == "runtime.NumGoroutine") = false /\ jA P k args h (fun e h' => e = v /\ h' = h) := by
 unfold Xn at a;by_cases b:ai8 P k args=true
 .rw[if_pos b]at a
  cases a;exact ai7 d b h
 rw[if_neg b]at a;split at a
 .cases a
 .split at a
  .rename_i fn i
   split at a
   .rename_i c j
    split at a
    .cases a
    .rename_i l
     split at a
     .rename_i ps g
      split at a
      .rename_i rs f
       cases a;exact⟨fn,c,i,j,by simp_all,d.1 k ps rs (Xk f) args h g⟩
      simp_all
     simp_all
   simp_all
  simp_all
def C5 [Bk] (P:Program) (L:Nat) (call:Fn->List AV->M AV) (k:FuncId) (args:List AV):M AV :=
 match P.funcs[k]? with
  |none=>mV
  |some fn=>match rL fn,args with
   |some t,[x]=>uB P t x
   |_,_=>match fn.body with
    |none=>mV
    | some c => if fn.name == "runtime.NumGoroutine" then mV else
     EK (oN (gP P call true L c (args++List.replicate (fn.ntmps-args.length) .undef)) fun q=>match q.1 with
      | .exit _=>mV
      |_=>Ob P fn q.2)
def yJ [Bk] (P:Program) (L:Nat):Nat->Fn->List AV->M AV
 |0,_,_=>mV
 |d+1,.func k,args=>match Xn P k args with
  |some v=>mpure v
  |none=>if knB P k=true then knM k args else C5 P L (yJ P L d) k args
 |_+1,_,_=>mV
def OC (L : Nat) {call : Fn -> List AV -> M AV} (K : pS P call) : (∀ k args, Local (C5 P L call k args)) /\ ∀ k args h n r, C5 P L call k args h n = some r -> ∃ fn c, P.funcs[k]? = some fn /\ fn.body = some c /\ (fn.name == "runtime.NumGoroutine") = false /\ jA P k args h (fun v h' => v = r.a /\ h' = r.h) := by
  refine⟨?_,?_⟩
  .intro k args
   simp only[C5];split
   .exact gJ
   .split
    .exact RL _ _
    .split
     .exact gJ
     .split
      .exact gJ
      .refine abE (kK (mN K _ _ _) fun q=>?_)
       split
       .exact gJ
       .exact aeG _ _
  .intro k args h n r b
   simp only[C5]at b;cases m:P.funcs[k]? with
   |none=>simp only[m]at b;cases b
   |some fn =>
    simp only[m]at b;have plain:(match fn.body with
     |none=>mV
     | some c => if fn.name == "runtime.NumGoroutine" then mV else
      EK (oN (gP P call true L c (args++List.replicate (fn.ntmps-args.length) .undef)) fun q=>match q.1 with
       | .exit _=>mV
       | _ => Ob P fn q.2) : M AV) h n = some r -> ∃ fn c, P.funcs[k]? = some fn /\ fn.body = some c /\ (fn.name == "runtime.NumGoroutine") = false /\ jA P k args h (fun v h' => v = r.a /\ h' = r.h) := by
     intro b;cases w:fn.body with
     |none=>simp only[w]at b;cases b
     |some c =>
      simp only[w]at b;by_cases Q : (fn.name == "runtime.NumGoroutine") = true
      .rw[if_pos Q]at b;cases b
      .rw[if_neg Q]at b
       refine⟨fn,c,m,w,by simp_all,?_⟩;unfold EK at b;split at b
       .cases b
       .rename_i t S
        cases b;obtain⟨r1,s,V,o,e1,e2,e3⟩:=nI S;refine jA.hY m w (qK K L c _ _ h n r1 V ?_)
        have fin:∀q,Ob P fn r1.a.2 r1.h r1.n=some q->q.a=t.a->q.h=t.h->∃x,fF P fn r1.a.2 r1.h=some x/\(x=t.a/\r1.h=t.h):=by
         grind[Ob]
        cases g:r1.a.1 with
        |exit id=>simp only[g]at o;cases o
        |normal=>simp only[g]at o;exact fin s o e1.symm e2.symm
        |ret=>simp only[g]at o;exact fin s o e1.symm e2.symm
    have R : ∀ t x, rL fn = some t -> args = [x] -> uB P t x h n = some r -> ∃ fn c, P.funcs[k]? = some fn /\ fn.body = some c /\ (fn.name == "runtime.NumGoroutine") = false /\ jA P k args h (fun v h' => v = r.a /\ h' = r.h) := by
     intro t x B U d;clear b plain;subst U;have p:=abJ B;obtain⟨i0,i1,i2,i3,o0,o1,o2,o3,o4,o5,o6,o7,u,-⟩:=p.body;refine⟨fn,_,m,u,p.name,?_⟩;unfold uB at d;split at d
     .rename_i r' f
      cases d;unfold yC at f;split at f
      .rename_i e E
       split at f
       .rename_i i D
        split at f
        .rename_i z bG C g
         split at f
         .rename_i F
          cases f;obtain⟨J,I,c3,A,Y,X,H,G,W⟩:=F;refine aiA m p E D C J I g (fun q d=>by simp_all) ?_ Y X (lU H) (lU G) (by simp_all);intro T s id j n' O;rw[O]at A;simpa[MS]using A
         simp_all
        simp_all
       simp_all
      simp_all
     unfold yB at d;split at d
     .rename_i e E
      split at d
      .rename_i i D
       split at d
       .rename_i z sz base bZ tail N C g
        split at d
        .rename_i F
         cases d;obtain⟨J,I,rfl,A,H,G,W⟩:=F;exact abT m p E D C J I g A (lU H) (lU G) (by simp_all)
        simp_all
       simp_all
      simp_all
     simp_all
    cases B:rL fn with
    |none=>simp_all
    |some t =>
     cases args with
     |nil=>simp_all
     |cons x l =>
      cases l with
      |nil =>
       have Z:uB P t x h n=some r:=by
        simp only[B]at b;exact b
       grind
      |cons y l=>simp_all
def ang (g:lL P) {args:List AV} {h:AH} {n:Nat} {r:Rs AV} (e:knB P k=true) (b:knM k args h n=some r) :
  ∃ fn c, P.funcs[k]? = some fn /\ fn.body = some c /\ (fn.name == "runtime.NumGoroutine") = false /\ jA P k args h (fun v h' => v = r.a /\ h' = r.h) := by
 unfold knB at e;rw[a0e]at e;obtain⟨-,i⟩:=e;split at i
 .rename_i fn j
  split at i
  .rename_i c l
   refine⟨fn,c,j,l,by simp_all,?_⟩;unfold knM at b;split at b
   .rename_i as ids d
    split at b
    .rename_i v f
     cases hs:IK 8 v with
     |true=>rw[hs]at b;cases b;exact aeK d hs (g.2.2 k as v (Nk f))
     |false=>rw[hs]at b;cases b;exact ahL d (g.2.2 k as v (Nk f))
    simp_all
   simp_all
  simp_all
 simp_all
def vV (c:lL P) (L:Nat):∀d,pS P (yJ P L d)
 |0=>⟨fun k args=>gJ,fun k args h n r a=>(by cases a),fun k args h n r a=>(by cases a)⟩
 |d+1=>by
  have e:=vV c L d;have g:=OC L e;refine⟨fun k args=>?_,fun k args h n r a=>?_,fun id args h n r a=>?_⟩
  .cases k with
   |func k =>
    simp only[yJ];split
    .exact gI _
    .split
     .exact ahD _ _
     simp_all
   |_=>exact gJ
  .cases b:Xn P k args with
   |some v =>
    simp only[yJ,b]at a;cases a;exact aku c b h
   |none =>
    simp only[yJ,b]at a;by_cases f:knB P k=true
    .rw[if_pos f]at a
     exact ang c f a
    grind
  .simp only[yJ]at a;cases a
def afp (c:lL P) {L d:Nat} {args:List AV} {h:AH} {n:Nat} {r:Rs AV} (b:yJ P L d (.func k) args h n=some r):jA P k args h (fun v h'=>v=r.a/\h'=r.h) :=
 ((vV c L d).ok k args h n r b).elim fun _ h=>h.elim fun _ h=>h.2.2.2
end
end
end Mc
end Go.Proofs.YtnepgggkgnckcaaGreat
