/-
 Texts joined and made small by wip/small.sh.
-/
import Derived.Test.YtnepgggkgnckcaaGreatJ1
import Derived.Laws.Cover3
set_option linter.all false
namespace Go.Proofs.YtnepgggkgnckcaaGreat
open Go.RowKit
namespace Mc
variable {m:Nat->St} {A:Nat->Prop} {id off:Nat} {u:Value} {x:Operand}
section
variable {P:Program} {o:Oper} {f:List AV} {h:AH}
section
variable [Bk] [Ev]
def Rd.Lt {w:World} {sz base:Nat} {cJ:List (Poly×List AV)} {tail:List (List AV)} {v:Value} (h:Rd m A w (.seq sz base cJ tail) v) :
  (∀q∈cJ,InB base q.1)/\Rd m A w (.lit sz (rowsOf base cJ tail)) v:=by
 cases h with|pure _ _ h=>cases h with|seq _ _ _ _ _ a b h=>exact⟨a,.pure _ _ h⟩
def Rd.EX {w:World} {T sz b:Nat} {n:Poly} (h:Rd m A w (.cZ T sz id n) u) (g:m id=.at b) :
  ∃len cap:Nat,cQ Ev.eZ n=len/\u=.slice (some ⟨b,0,none⟩) len cap/\len<=cap/\cap<=maxLen/\cap*sz=gW w b:=by
 cases h with
 |pure _ _ h=>cases h
 |cZ _ _ _ _ j len cap a i e d f c=>grind
 |uH _ _ _ _ _ a=>simp_all
 |uI _ _ _ _ _ _ _ a=>simp_all
def Rd.vS {w:World} {T sz:Nat} {n:Poly} (h:Rd m A w (.cZ T sz id n) u) (g:m id=.uB):∃a,u=.slice a 0 0/\cQ Ev.eZ n=0:=by
 cases h with
 |pure _ _ h=>cases h
 |cZ _ _ _ _ j len cap b i e c f d=>simp_all
 |uH _ _ _ _ a b c=>simp_all
 |uI _ _ _ _ _ _ _ b=>simp_all
def Rd.aea {w:World} {sz b:Nat} {p:Poly} (h:Rd m A w (.nP sz id p off) u) (g:m id=.at b):u=.pointer (some ⟨b,(cQ Ev.eZ p).toNat*sz+off,none⟩):=by
 cases h with
 |pure _ _ h=>cases h
 |nP _ _ _ _ d a c=>simp_all
 |AT _ _ _ _ u a=>simp_all
def dV.Ta {w:World} (H:dV m A h w) {T sz base i:Nat} {cJ:List (Poly×List AV)} {tail:List (List AV)} {n:Poly} {e:List AV} (a:h id=.sc T sz base cJ tail n) (c:(rowsOf base cJ tail)[i]?=some e) :
  ∃b cs,m id=.at b/\w.heap[b]?=some (.cells cs T (0,0))/\(rowsOf base cJ tail).length*sz<=cs.size/\(∀e∈rowsOf base cJ tail,e.length=sz)/\∀(i j:Nat) (x:AV),iE (rowsOf base cJ tail) i j=some x->x.one=true/\Rd m A w x (cs.getD (i*sz+j) Go.undef):=by
 obtain⟨-,d⟩|h:=H.wQ id T sz (rowsOf base cJ tail) (by rw[a];rfl)<;>simp_all
def dV.IE {w:World} (H:dV m A h w) {T sz base:Nat} {cJ:List (Poly×List AV)} {tail:List (List AV)} {n:Poly} (a:h id=.sc T sz base cJ tail n) :
  cQ Ev.eZ n=((rowsOf base cJ tail).length:Int)/\∀q∈cJ,InB base q.1:=by
 have:=H.scs id;rw[a]at this;exact this
def nO [Bk] (h:AH):AV->Option Poly
 | .seq _ base _ tail=>(lenOf base Bk.lens).map fun n=>wA n (yZ tail.length)
 | .cZ T b id n=>match h id with
  | .sc c a _ _ _ n'=>if c=T/\a=b/\n'=n then some n else none
  |_=>none
 |_=>none
def Lj:AV->List Nat
 | .cZ _ _ id _=>[id]
 | .nP _ id _ _=>[id]
 |_=>[]
def OJ {w:World} (H:dV m A h w) {x:AV} {n:Poly} {v:Value} (c:nO h x=some n) (d:Rd m A w x v):∃a len cap,v=.slice a len cap/\(len:Int)=cQ Ev.eZ n:=by
 unfold nO at c;split at c
 .rename_i i base cJ tail
  rw[a1b]at c;obtain⟨g,p,rfl⟩:=c;have q:=Ao p;have t:=kM base cJ tail;have s:cQ Ev.eZ (wA g (yZ tail.length))=((rowsOf base cJ tail).length:Int):=by simp_all[qK,sY]
  obtain⟨-,o⟩:=d.Lt;obtain⟨u,a,cap,rfl⟩|⟨b,off,cap,vs,rfl,-⟩:=o.pY<;>grind
 .rename_i T i id g
  split at c
  .rename_i r f base cJ tail n' k
   split at c
   .rename_i l
    obtain⟨rfl,rfl,rfl⟩:=l;cases c;rcases H.wQ id r f (rowsOf base cJ tail) (by rw[k];rfl)with⟨j,q⟩|⟨b,cs,g1,-⟩
    .obtain⟨a,rfl,e⟩:=d.vS j
     simp_all
    .obtain⟨len,cap,e,rfl,-⟩:=d.EX g1
     grind
   simp_all
  simp_all
 simp_all
def aby {t:TypeId} {e:TypeId} {n:Poly} {wX:List Nat} (d:o.op=.call { callee:=.builtin .len,args:=#[x],argTypes:=#[t] }) (c:P.underlying t=some (.slice e)) (g:nO h (eJ f x)=some n):eA P o f h ⟨CM n,[],wX⟩:=by
 refine cY fun m A w a H F=>?_;obtain⟨j,len,cap,b,i⟩:=OJ H g (F.eval x);refine⟨_,?_,.pure _ _ (yE _ w n)⟩;simp[execOp,d,resolve,invoke,builtin,b,Builtin.len_,run_underlying c,goInt,i]
def aif [Bk] (p n:Poly):Bool:=TW p==some false&&TW (rM p n)==some true
def adC {p n:Poly} (h:aif p n=true):0<=cQ Ev.eZ p/\cQ Ev.eZ p<cQ Ev.eZ n:=by
 unfold aif at h;rw[a0e,beq_iff_eq,beq_iff_eq]at h;have b:=of_decide_eq_false (pS h.1).symm;have a:=of_decide_eq_true (pS h.2).symm
 grind[iA]
def FM {t e:TypeId} {ix:Operand} {sz base:Nat} {cJ:List (Poly×List AV)} {tail:List (List AV)} {p n:Poly} (y:o.op=.indexAddr t x ix) (s:eJ f x=.seq sz base cJ tail) (B:toP (eJ f ix)=some p) (u:P.underlying t=some (.slice e)) (hs:(P.info? e).map (·.size)=some sz)
  (z:nO h (.seq sz base cJ tail)=some n) (v:aif p n=true):eA P o f h ⟨.vD sz base cJ tail p 0,[],[]⟩:=by
 refine cY fun m A w a H F=>?_;have g:=F.eval x;rw[s]at g;have e2:=toP_ok B (F.eval ix);obtain⟨p0,p1⟩:=adC v;obtain⟨M,len,cap,I,J⟩:=OJ H z g;obtain⟨k,E⟩:=g.Lt;cases d:P.info? e with
 |none=>simp_all
 |some G =>
  simp only[d,a0q,a0g]at hs;obtain⟨K,N,nA,c⟩|⟨b,off,nA,vs,c,D,C,L,i,r,l,q⟩:=E.pY
  .grind
  .have j:cQ Ev.eZ p<((rowsOf base cJ tail).length:Int):=by simp_all
   refine⟨.pointer (some ⟨b,off+((cQ Ev.eZ p).toNat*sz+0),none⟩),?_,.pure _ _ (.vD sz base cJ tail p 0 _ k rfl p0 (.iZ sz _ _ 0 b off vs D C i r l q))⟩;simp[execOp,y,c,e2,Instr.indexAt,asIntOf,run_underlying u,p0,j,sizeOf,typeInfo,d,hs,iS]
def Er {t e:TypeId} {ix:Operand} {T sz:Nat} {p n:Poly} (s:o.op=.indexAddr t x ix) (l:eJ f x=.cZ T sz id n) (u:toP (eJ f ix)=some p) (q:P.underlying t=some (.slice e)) (hs:(P.info? e).map (·.size)=some sz)
  (i:nO h (.cZ T sz id n)=some n) (r:aif p n=true):eA P o f h ⟨.nP sz id p 0,[],[id]⟩:=by
 refine cY fun m A w a H F=>?_;have j:=F.eval x;rw[l]at j;have e2:=toP_ok u (F.eval ix);obtain⟨p0,p1⟩:=adC r;cases d:P.info? e with
 |none=>simp_all
 |some B =>
  simp only[d,a0q,a0g]at hs;simp only[nO]at i;split at i
  .rename_i z c base cJ tail n' v
   split at i
   .rename_i y
    obtain⟨rfl,rfl,rfl⟩:=y;rcases H.wQ id z c (rowsOf base cJ tail) (by rw[v];rfl)with⟨g,C⟩|⟨b,cs,g1,-⟩
    .obtain⟨a,-,e⟩:=j.vS g
     omega
    .obtain⟨len,cap,e,g,-⟩:=j.EX g1
     have k:cQ Ev.eZ p<(len:Int):=(by omega);refine⟨.pointer (some ⟨b,(cQ Ev.eZ p).toNat*c+0,none⟩),?_,.nP c id p 0 b g1 (H.lt g1)⟩;simp[execOp,s,g,e2,Instr.indexAt,asIntOf,run_underlying q,p0,k,sizeOf,typeInfo,d,hs,iS]
   simp_all
  simp_all
def Ce [Bk] (h:AH):AV->Option (Nat×Nat×List AV)
 | .vD a base cJ tail p off=>(rowAt base cJ tail p).map fun r=>(a,off,r)
 | .nP a id p off=>match h id with
  | .sc _ b base cJ tail _=>if b=a/\TW p=some false then(rowAt base cJ tail p).map fun r=>(a,off,r)else none
  |_=>none
 |_=>none
def Mh (k:Nat):AV->AV
 | .vD a base cJ tail p off=>.vD a base cJ tail p (off+k)
 | .nP a id p off=>.nP a id p (off+k)
 |x=>x
def Lu {w:World} (H:dV m A h w) {x:AV} {sz:Nat} {r:List AV} {v:Value} (a:Ce h x=some (sz,off,r)) (e:Rd m A w x v) :
  ∃b d,∃vs:Nat->Value,v=.pointer (some ⟨b,d+off,none⟩)/\(∀j y,r[j]?=some y->y.one=true/\w.cell? ⟨b,d+j,none⟩=some (vs j)/\Rd m A w y (vs j))/\∀k,Rd m A w (Mh k x) (.pointer (some ⟨b,d+(off+k),none⟩)):=by
 unfold Ce at a;split at a
 .rename_i z base cJ tail p q
  rw[a1b]at a;obtain⟨r',f,u⟩:=a;cases u;cases e with
  |pure _ _ e =>
   cases e with
   |vD _ _ _ _ _ _ _ c Q g e =>
    obtain⟨r0,C,s⟩:=Mr c g f;cases e with
    |iZ _ _ _ _ b d vs K J D o F B =>
     refine⟨b,d+(cQ Ev.eZ p).toNat*sz,vs (cQ Ev.eZ p).toNat,by simp_all,?_,?_⟩
     .intro j y t
      obtain⟨x,a,i⟩:=s.2 j y t;have l:iE (rowsOf base cJ tail) (cQ Ev.eZ p).toNat j=some x:=(by simp_all[iE]);refine⟨by rw[<-i.one];grind,?_,.pure _ _ (i.rdL (B _ _ _ l))⟩
      grind
     .intro k
      refine .pure _ _ (.vD sz base cJ tail p (off+k) _ c rfl g ?_);have:=eE.iZ (A:=Av m A) (w:=w) sz (rowsOf base cJ tail) (cQ Ev.eZ p).toNat (off+k) b d vs K J D o F B
      grind
 .rename_i z id p q
  split at a
  .rename_i T N base cJ tail n E
   split at a
   .rename_i I
    obtain⟨rfl,g⟩:=I;have g:=of_decide_eq_false (pS g).symm;rw[a1b]at a;obtain⟨r',f,u⟩:=a;cases u;obtain⟨P,c⟩:=H.IE E;obtain⟨r0,C,s⟩:=Mr c (by omega) f;obtain⟨b,cs,g1,g2,g3,M,L⟩:=H.Ta E C;refine⟨b,(cQ Ev.eZ p).toNat*sz,fun j=>cs.getD ((cQ Ev.eZ p).toNat*sz+j) Go.undef,e.aea g1,?_,?_⟩
    .intro j y t
     obtain⟨x,a,i⟩:=s.2 j y t;have l:iE (rowsOf base cJ tail) (cQ Ev.eZ p).toNat j=some x:=(by simp_all[iE]);obtain⟨o,G⟩:=L _ _ _ l;refine⟨by rw[<-i.one];exact o,?_,i.rd G⟩;have:=(kJ l M).2.2;have O:(cQ Ev.eZ p).toNat*sz+j<cs.size:=by omega
     simp_all[World.cell?]
    .intro k
     exact .nP sz id p (off+k) b g1 (H.lt g1)
   simp_all
  simp_all
 simp_all
def aeT {t:TypeId} {sz:Nat} {r:List AV} {v:AV} {wX:List Nat} (j:o.op=.load t x) (e:Ce h (eJ f x)=some (sz,off,r)) (g:mJ P t r off=some v):eA P o f h ⟨v,[],wX⟩:=by
 refine cY fun m A w a H F=>?_;obtain⟨b,c,vs,i,d,-⟩:=Lu H e (F.eval x);obtain⟨u,r1,r2⟩:=xS (P:=P) (m:=m) (A:=A) (w:=w) (b:=b) (o0:=c) (vs:=vs) g d
 simp_all[execOp,Instr.loadAt,Instr.sureAddr]
def Oc {sz:Nat} {r:List AV} {wX:List Nat} (j:o.op=.nilCheck x) (c:Ce h (eJ f x)=some (sz,off,r)):eA P o f h ⟨eJ f x,[],wX⟩:=by
 refine cY fun m A w a H F=>?_;have d:=F.eval x;obtain⟨b,e,vs,i,g,-⟩:=Lu H c d;simp_all[execOp]
def MQ {t:TypeId} {k d c n sz:Nat} {r:List AV} {wX:List Nat} (j:o.op=.fieldAddr t x k) (g:Ce h (eJ f x)=some (sz,off,r)) (p:nM P t k=some (d,c,n)) (l:n≠0):eA P o f h ⟨Mh c (eJ f x),[],wX⟩:=by
 refine cY fun m A w a H F=>?_;obtain⟨b,q,vs,i,-,e⟩:=Lu H g (F.eval x);refine⟨_,?_,e c⟩;rw[<-a2p];simp[execOp,j,i,zM p l]
def MP {t e:TypeId} {ix:Operand} {sz len s:Nat} {r:List AV} {k:IntKind} {n:Int} {wX:List Nat} (u:o.op=.indexAddr t x ix) (l:Ce h (eJ f x)=some (sz,off,r)) (v:eJ f ix=.c (.int k n)) (q:P.underlying t=some (.array len e)) (hs:(P.info? e).map (·.size)=some s) (y:0<=n) (C:n.toNat<len) :
  eA P o f h ⟨Mh (n.toNat*s) (eJ f x),[],wX⟩:=by
 refine cY fun m A w a H F=>?_;have i:=F.eval ix;rw[v]at i;have e2:=i.fN;obtain⟨b,B,vs,p,-,j⟩:=Lu H l (F.eval x);cases d:P.info? e with
 |none=>simp_all
 |some z =>
  simp only[d,a0q,a0g]at hs;have g:n<(len:Int):=by omega
  refine⟨_,?_,j (n.toNat*s)⟩;simp[execOp,u,p,e2,Instr.indexAt,asIntOf,run_underlying q,y,g,sizeOf,typeInfo,d,hs,iS,Instr.sureAddr,a2p]
def aew {w:World} (H:dV m A h w) {T sz i b:Nat} {bL:List (List AV)} {e G xs:List AV} {us:Array Value} {B:dC} (L:(h id).bL=some (T,sz,bL)) (z:m id=.at b) (M:bL[i]?=some G) (g:PI G e) (o:CR (Rd m A w) xs us) (hl:off+xs.length<=sz)
  (Q:B.bL=some (T,sz,bL.set i (nN e off xs))) (O:sA B) :
  ∃w',(storeCells ⟨b,i*sz+off,none⟩ us.toList).run P w=.ok () w'/\dV m A (gO h id B) w'/\Ext m w m w':=by
 obtain⟨r,-⟩|⟨b',cs,g1,g2,g3,U,S⟩:=H.wQ id T sz bL L
 .simp_all
 rw[z]at g1;cases g1;have F:i<bL.length:=(a0y.1 M).1;have X:e.length=sz:=by rw[<-g.1];grind
 have p:(i+1)*sz<=bL.length*sz:=a1a _ F;rw[a19]at p;have s:us.toList.length=xs.length:=by simpa using o.1
 have q:i*sz+off+0+us.toList.length<=cs.size:=by omega
 have R:∀v∈us.toList,v.oneCell'=true:=by
  intro v r;obtain⟨k,E,rfl⟩:=a3m r;have D:k<xs.length:=by omega
  have:=o.2 k xs[k] (by simp[D]);have:=this.2.one this.1
  simp_all
 have u:=run_storeCells_at P b (i*sz+off) T us.toList 0 cs w g2 q R;refine⟨_,u,?_⟩;have t:(cs.toList.take (i*sz+off+0)++us.toList++cs.toList.drop (i*sz+off+0+us.toList.length)).toArray.size=cs.size:=by grind
 have c:∀k,(cs.toList.take (i*sz+off+0)++us.toList++cs.toList.drop (i*sz+off+0+us.toList.length)).toArray.getD k Go.undef=if i*sz+off<=k/\k<i*sz+off+xs.length then us.getD (k-(i*sz+off)) Go.undef else cs.getD k Go.undef:=by
  intro k;have:=sP (cs:=cs.toList) (off:=i*sz+off) (xs:=us.toList) (by omega) k;unfold nN at this;have e1:∀(l:List Value),l.toArray.getD k Go.undef=(l[k]?).getD Go.undef:=by simp_all
  rw[e1,a2o,this,s];split<;>simp_all
 refine H.afL Q O z (setRow_heap w b cs _ T _ g2) g2 t (fun k E=>setRow_other w b k _ E) rfl rfl rfl (by simp) ?_ ?_ ?_
 .simp_all
 .grind[xG]
 .intro d j x a
  unfold iE at a;rw[a0r]at a;split at a
  .rename_i n
   subst n;simp only[F,if_true,a1f]at a;rw[sP (by omega)]at a;rw[c];split at a
   .rename_i K
    rw[if_pos (by omega)];have:=o.2 _ _ a;refine⟨this.1,?_⟩;rw[show i*sz+j-(i*sz+off)=j-off by omega];simp_all
   .rename_i K
    obtain⟨y,hy,f⟩:=g.2 j x a;obtain⟨J,I⟩:=S i j y (by simp_all[iE]);have V:j<sz:=(by grind);rw[if_neg (by omega)];exact⟨by rw[<-f.one];exact J,f.rd I⟩
  .rename_i n
   have N:iE bL d j=some x:=a;have hb:=kJ N U;rw[c,if_neg]
   .grind
   .rintro⟨Z,Y⟩
    rcases a0u d i with C|W
    .have:(d+1)*sz<=i*sz:=a1a _ C
     grind
    .have:(i+1)*sz<=d*sz:=a1a _ (by omega)
     grind
def xE [Bk] (h:AH) (x:AV) (xs:List AV):Option (Nat×dC):=match x with
 | .nP a id p off=>match h id with
  | .sc T b base cJ tail n=>if b=a/\off+xs.length<=a/\TW p=some false then match rowAt base cJ tail p with
    |some e=>match aaQ base cJ tail p (nN e off xs)with
     |some q=>some (id,.sc T a base q.1 q.2 n)
     |none=>none
    |none=>none
   else none
  |_=>none
 |_=>none
def abw {t:TypeId} {y:Operand} {xs:List AV} {q:Nat×dC} {wX:List Nat} (U:o.op=.store t x y) (E:jD (eJ f y)=some xs) (J:(P.info? t).map (·.size)=some xs.length) (c:xE h (eJ f x) xs=some q):eA P o f h ⟨.undef,[q],wX⟩:=by
 intro m A w a H F;unfold xE at c;split at c
 .rename_i Q id p off G
  split at c
  .rename_i T j base cJ tail n i
   split at c
   .rename_i N
    obtain⟨rfl,K,l⟩:=N;have l:=of_decide_eq_false (pS l).symm;split at c
    .rename_i e M
     split at c
     .rename_i u I
      cases c;obtain⟨v,s⟩:=u;obtain⟨V,d⟩:=H.IE i;obtain⟨r0,k,D⟩:=Mr d (by omega) M;obtain⟨R,z,-⟩:=aeE d I;obtain⟨b,cs,g1,-⟩:=H.Ta i k;have r:=F.eval x;rw[G]at r;have S:=r.aea g1;have g:=pG (F.eval y) E;obtain⟨w',r1,r2,C⟩:=aew (P:=P) H (B:=.sc T j base v s n) (by rw[i];rfl) g1 k D g K (by simp_all[dC.bL]) ⟨by simp_all,z⟩;cases L:P.info? t with
      |none=>simp_all
      |some O =>
       simp only[L,a0q,a0g]at J;refine⟨Go.undef,w',m,.inr ⟨?_,rfl⟩,r2,.pure _ _ .undef,C⟩;have hs:(a.eval y).cells.size=xs.length:=g.1
       simp_all[execOp,Instr.storeAt,Instr.sureAddr,storeVar,sizeOf,typeInfo]
     simp_all
    simp_all
   simp_all
  simp_all
 simp_all
end
end
end Mc
namespace Mc
variable {k:List (Nat×dC)} {nx:Nat} {h':AH} {x:AV} {ρ:Operand->AV}
section
variable {P:Program} {o:Oper} {f:List AV} {h:AH}
def yH [Bk] [Ev] (h:AH) (x:AV) (e sz:Nat) (bL:List (List AV)) (k:List (Nat×dC)):Prop :=
 ∀m A w v,dV m A h w->Rd m A w x v->(k=[]/\bL=[]/\∃a0,v=.slice a0 0 0) \/
  ∃id,k=[(id,.dead)]/\(h id).bL=some (e,sz,bL)/\((m id=.uB/\∃a0,v=.slice a0 0 0)\/∃b cap,m id=.at b/\v=.slice (some ⟨b,0,none⟩) bL.length cap/\bL.length<=cap/\cap<=maxLen/\cap*sz=gW w b)
def E9 [Bk] [Ev] (h:AH) (y:AV) (sz:Nat) (ys:List (List AV)):Prop :=
 ∀m A w v,dV m A h w->Rd m A w y v->(∀q∈ys,q.length=sz)/\∃a cap,v=.slice a ys.length cap/\ys.length<=cap/\(a=none->ys=[])/\∃b:List Value,b.length=ys.length*sz/\(∀c,a=some c->∀j u,b[j]?=some u->w.cell? (c.add j)=some u)/\(∀u∈b,u.oneCell'=true) /\
   ∀(i j:Nat) (y:AV),iE ys i j=some y->y.one=true/\Rd m A w y (b.getD (i*sz+j) Go.undef)
theorem E9.bL [Bk] [Ev] {y:AV} {sz:Nat} {ys:List (List AV)} (c:jX h y=some ys) (a:∀q∈ys,q.length=sz) (b:∀T s id j n,y=.own T s id j n->s=sz):E9 h y sz ys :=
 fun m A w v H d=>⟨a,aaG H d c a b⟩
section
variable [Bk] [Ev]
theorem E9.seq {sz base:Nat} {cJ:List (Poly×List AV)} {tail:List (List AV)}:E9 h (.seq sz base cJ tail) sz (rowsOf base cJ tail):=by
 intro m A w v H d;obtain⟨e,c⟩:=d.Lt;have a:∀q∈rowsOf base cJ tail,q.length=sz:=by
  obtain⟨f,-⟩|⟨b,off,cap,vs,-,-,-,-,a,-⟩:=c.pY<;>simp_all
 exact⟨a,aaG (bL:=rowsOf base cJ tail) H c rfl a (by simp_all)⟩
def E9.cZ [Bk] [Ev] {T sz id base:Nat} {n n':Poly} {cJ:List (Poly×List AV)} {tail:List (List AV)} (p:h id=.sc T sz base cJ tail n') (d:n'=n):E9 h (.cZ T sz id n) sz (rowsOf base cJ tail):=by
 subst d;intro m A w v H l;obtain⟨o,F⟩:=H.IE p;rcases H.wQ id T sz (rowsOf base cJ tail) (by rw[p];rfl)with⟨x,J⟩|⟨b,cs,g1,g2,g3,g,E⟩
 .obtain⟨a,rfl,e⟩:=l.vS x
  simp_all[iE]
 .obtain⟨len,cap,e,rfl,d,-,B⟩:=l.EX g1
  have f:len=(rowsOf base cJ tail).length:=by omega
  subst f;have s:cap*sz=cs.size:=by simp_all[gW]
  have o:(cs.toList.take ((rowsOf base cJ tail).length*sz)).length=(rowsOf base cJ tail).length*sz:=by simp_all
  have q:∀(i j:Nat) (y:AV),iE (rowsOf base cJ tail) i j=some y->y.one=true/\Rd m A w y ((cs.toList.take ((rowsOf base cJ tail).length*sz)).getD (i*sz+j) Go.undef):=by
   intro i j y c;have C:=kJ c g;obtain⟨t,G⟩:=E _ _ _ c;refine⟨t,?_⟩
   have:(cs.toList.take ((rowsOf base cJ tail).length*sz)).getD (i*sz+j) Go.undef=cs.getD (i*sz+j) Go.undef:=by
    rw[List.getD,a11,if_pos C.2.2];simp
   simp_all
  refine⟨g,some ⟨b,0,none⟩,cap,rfl,d,(fun h=>by cases h),_,o,?_,?_,q⟩
  .grind[iS,World.cell?]
  .intro u z
   obtain⟨k,I,rfl⟩:=a3m z;obtain⟨y,c⟩:=flat_get g (k:=k) (by omega);obtain⟨D,r⟩:=q _ _ _ c;have e1:k/sz*sz+k%sz=k:=by rw[a2v];exact a3o k sz
   rw[e1]at r;have:=r.one D
   grind
def yH.emp {e sz:Nat}:yH h .emp e sz [] []:=by
 intro m A w v H a;cases a with|pure _ _ a=>cases a<;>simp_all
def yH.own [Bk] [Ev] {T s id n:Nat} {bL:List (List AV)} (e:h id=.cells T s bL) (i:n=bL.length):yH h (.own T s id 0 n) T s bL [(id,.dead)]:=by
 subst i;intro m A w v H c;refine .inr ⟨id,rfl,by rw[e];rfl,?_⟩;rcases H.cells id _ _ _ e with⟨f,rfl⟩|⟨b,cs,g1,g2,g3,p,o⟩
 .refine .inl ⟨f,?_⟩
  cases c with
  |pure _ _ h=>cases h
  |own _ _ _ _ _ b _ d=>simp_all
  |vJ _ _ _ _ a d=>simp_all
  |wC _ _ _ _ _ _ _ _ d=>simp_all
 .obtain⟨cap,j,k,l,g⟩:=c.vO g1
  simp_all
def yH.cZ [Bk] [Ev] {T s id base:Nat} {n n':Poly} {cJ:List (Poly×List AV)} {tail:List (List AV)} (c:h id=.sc T s base cJ tail n') (f:n'=n):yH h (.cZ T s id n) T s (rowsOf base cJ tail) [(id,.dead)]:=by
 subst f;intro m A w v H d;obtain⟨o,k⟩:=H.IE c;refine .inr ⟨id,rfl,by rw[c];rfl,?_⟩;rcases H.wQ id T s (rowsOf base cJ tail) (by rw[c];rfl)with⟨g,r⟩|⟨b,cs,g1,g2,g3,q,p⟩
 .obtain⟨a,rfl,e⟩:=d.vS g
  simp_all
 .obtain⟨len,cap,e,rfl,f,l,i⟩:=d.EX g1
  have j:len=(rowsOf base cJ tail).length:=by omega
  simp_all
def uR {t e:TypeId} {x y:Operand} {bL ys:List (List AV)} {wX:List Nat} {i:TypeInfo} {z:Value} {B:dC} {n:Poly} (ho:o.op=.call { callee:=.builtin .append,args:=#[x,y],argTypes:=#[t,t] }) (Z:P.underlying t=some (.slice e)) (hi:P.info? e=some i) (hz:i.zero=some z) (af:z.cells.size=i.size) (av:0<i.size)
  (hx:yH h (eJ f x) e i.size bL k) (hy:E9 h (eJ f y) i.size ys) (hb:(bL.length+ys.length)*i.bytes<=140737488355328) (hm:bL.length+ys.length<=1099511627776) (aj:h nx=.no)
  (hB:B.bL=some (e,i.size,bL++ys)) (aD:∀m A w v u,dV m A h w->Rd m A w (eJ f x) v->Rd m A w (eJ f y) u->sA B/\cQ Ev.eZ n=((bL.length+ys.length:Nat):Int)) :
  eA P o f h ⟨.cZ e i.size nx n,k++[(nx,B)],wX⟩:=by
 intro m A w a H F;have gx:=F.eval x;have gy:=F.eval y;obtain⟨hS,hn⟩:=aD m A w _ _ H gx gy;obtain⟨ag,X,W,ah,aK,ay,c,hl,J,ap,ai⟩:=hy m A w _ H gy;have d:∀v w',(Builtin.append_ #[t,t] o.type #[a.eval x,a.eval y]).run P w=.ok v w'->(execOp a.eval o).run P w=.ok (.value v) w':=by
  intro v w' s;simp[execOp,ho,resolve,invoke,builtin,s]
 have ae:∀(m1:Nat->St) (h1:AH) (hk:gE h (k++[(nx,B)])=gO h1 nx B) (H1:dV m1 A h1 w) (E1:Ext m w m1 w) (G:h1 nx=.no) (a0:Option Addr) (r:a.eval x=.slice a0 0 0) (he:bL=[]),
   ∃C w' E,((execOp a.eval o).run P w=.ok (.value C) w'\/((execOp a.eval o).run P w=.ok .skip w'/\C=Go.undef))/\dV E A (gE h (k++[(nx,B)])) w'/\Rd E A w' (.cZ e i.size nx n) C/\Ext m w E w':=by
  intro m1 h1 hk H1 E1 G a0 r he;subst he;rw[hk];rw[r,ah]at d;simp only[a2w,a00,a3v]at hm hb hn hB |-;by_cases N:ys=[]
  .subst N
   have s:=nK (P:=P) (.slice a0 0 0) a0 X 0 0 W t o.type e i Z hi w (a0h _) (fun _=>rfl);obtain⟨M,L⟩:=H1.LQ G hB hS;refine⟨_,w,_,.inl (d _ _ s),M,?_,E1.trans L⟩;exact .uH e i.size nx n a0 (by simp[sset]) (by omega)
  .have an:0<ys.length:=a28.2 N
   obtain⟨I,rfl⟩:∃I,X=some I:=by
    cases X<;>simp_all
   have s:=yT (P:=P) a0 t o.type e i z Z hi hz w I ys.length W c hl (fun j v hv=>J I rfl j v hv) an (by omega) hb
   have S:ys.length<=grownCap w ys.length 0 e/\grownCap w ys.length 0 e<=maxLen:=by
    unfold grownCap Question.cut;have:=a27 (w.tape w.drawn (.appendCap ys.length 0 e)) (show 0<2 ^ 63-ys.length by omega)
    grind[maxLen]
   have aa:(c.toArray++Builtin.zeroCells z.cells (grownCap w ys.length 0 e-ys.length)).size=grownCap w ys.length 0 e*i.size:=by
    simp only[Array.size_append,List.size_toArray,hl,Builtin.zeroCells,Array.size_map,Array.size_range,af];rw[<-a3n];simp_all
   obtain⟨d1,d2⟩:=H1.drew;obtain⟨M,L⟩:=d1.ajd (id:=nx) (T:=e) (sz:=i.size) (bL:=ys) (cs:=c.toArray++Builtin.zeroCells z.cells (grownCap w ys.length 0 e-ys.length)) hB hS G (by grind) ag (by
    intro p j y l;obtain⟨r1,r2⟩:=ai p j y l;have U:=kJ l ag;have e1:(c.toArray++Builtin.zeroCells z.cells (grownCap w ys.length 0 e-ys.length)).getD (p*i.size+j) Go.undef=c.getD (p*i.size+j) Go.undef:=by
     simp_all[a1p]
    rw[e1];exact⟨r1,(r2.ext E1).ext d2⟩)
   refine⟨_,_,_,.inl (d _ _ s),M,?_,(E1.trans d2).trans L⟩
   exact .cZ e i.size nx n w.heap.size ys.length (grownCap w ys.length 0 e) (by simp[sset]) (by simp) hn S.1 S.2 (by
    rw[<-aa];have:(w.drew.alloc (.cells (c.toArray++Builtin.zeroCells z.cells (grownCap w ys.length 0 e-ys.length)) e)).heap[w.heap.size]?=some (.cells (c.toArray++Builtin.zeroCells z.cells (grownCap w ys.length 0 e-ys.length)) e (0,0)):=by
     show(w.heap.push _)[w.heap.size]?=_;simp
    simp_all[gW])
 obtain⟨rfl,he,a0,r⟩|⟨id,rfl,az,K⟩:=hx m A w _ H gx
 .exact ae m h (by simp[gE]) H (Ext.refl _ _) aj a0 r he
 .have aI:nx≠id:=by grind[dC.bL]
  rcases H.wQ id _ _ _ az with⟨hv,e0⟩|⟨b,cs,g1,g2,g3,g4,g5⟩
  .obtain⟨-,a0,r⟩|⟨b,cap,O,-⟩:=K
   .obtain⟨M,L⟩:=H.kill hv
    grind[gE,lP]
   simp_all
  .obtain⟨aJ,-⟩|⟨b',cap,O,r,ak,aC,aE⟩:=K
   .simp_all
   rw[g1]at O;cases O;have ab:cap*i.size=cs.size:=(by simp_all[gW])
   have ao:w.ownsRow 0 e i.size (.slice (some ⟨b,0,none⟩) bL.length cap) bL.length (cs.toList.take (bL.length*i.size)):=by
    refine⟨by grind,.inr ⟨b,cap,cs,rfl,a0j _,g2,ak,aC,ab.symm,rfl⟩⟩
   rw[r,ah]at d;have au:(cs.toList.take (bL.length*i.size)).length=bL.length*i.size:=by grind
   have am:∀(p j:Nat) (y:AV),iE bL p j=some y->y.one=true/\Rd m A w y ((cs.toList.take (bL.length*i.size)).getD (p*i.size+j) Go.undef):=by
    intro p j y l;have U:=kJ l g4;have:=g5 p j y l;rw[List.getD,a11,if_pos U.2.2];simpa using this
   have ac:=OM (R:=Rd m A w) (ys:=ys) g4 (us:=cs.toList.take (bL.length*i.size)) (vs:=c) au am ai
   have V:∀q∈bL++ys,q.length=i.size:=by
    grind
   have fin:∀(D:Value) (w':World),(Builtin.append_ #[t,t] o.type #[.slice (some ⟨b,0,none⟩) bL.length cap,.slice X ys.length W]).run P w=.ok D w'->w'.ownsRow 0 e i.size D (bL.length+ys.length) (cs.toList.take (bL.length*i.size)++c)->w.grownBy w' (some b) ->
     (D.ownBlock=some b\/D.ownBlock=some w.heap.size) ->
     ∃C w' E,((execOp a.eval o).run P w=.ok (.value C) w'\/((execOp a.eval o).run P w=.ok .skip w'/\C=Go.undef))/\dV E A (gE h ([(id,.dead)]++[(nx,B)])) w'/\Rd E A w' (.cZ e i.size nx n) C/\Ext m w E w':=by
    intro D w' s aw aA aF;obtain⟨aH,aG|⟨g,nA,al,rfl,-,hg,ax,ar,Cz,Y⟩⟩:=aw
    .grind[Value.ownBlock]
    .have aB:g=b\/w.heap.size<=g:=by
      grind[Value.ownBlock]
     have Q:g<w'.heap.size:=by
      grind
     obtain⟨M,L⟩:=H.ags (id:=id) (nx:=nx) (g:=g) (cs':=al) hB hS g1 aj aA aB Q hg (by rw[a1r,Cz];grind) V (by
      intro p j y l;have U:=kJ l V;obtain⟨r1,r2⟩:=ac p j y l;refine⟨r1,?_⟩
      have:(cs.toList.take (bL.length*i.size)++c).getD (p*i.size+j) Go.undef=al.getD (p*i.size+j) Go.undef:=by
       rw[<-Y,List.getD,a11,if_pos (by grind)];simp
      grind)
     refine⟨_,w',_,.inl (d _ _ s),by simpa[gE]using M,?_,L⟩;exact .cZ e i.size nx n g (bL.length+ys.length) nA (by simp[sset]) Q hn ax ar (by grind[gW])
   cases X with
   |none =>
    have:=ay rfl;subst this;have s:=nK (P:=P) (.slice (some ⟨b,0,none⟩) bL.length cap) (some ⟨b,0,none⟩) none bL.length cap W t o.type e i Z hi w ak (by grind);have aq:c=[]:=(by simpa using hl);subst aq;refine fin _ _ s ?_ ⟨rfl,rfl,rfl,a0h _,fun _ _ _=>rfl⟩ (.inl rfl)
    grind
   |some I =>
    obtain⟨D,w',r1,r2,r3,r4,r5⟩:=run_append_own_at (P:=P) w 0 t o.type e i z i.size i.bytes Z hi hz rfl rfl af av (.slice (some ⟨b,0,none⟩) bL.length cap) bL.length _ ao I ys.length W c hl (fun j u hu=>J I rfl j u hu) ap (by grind[maxLen]) hb (a0j _);exact fin D w' r1 r2 r3 (by simpa[Value.ownBlock]using r5)
def nC [Bk] (h:AH):AV->Option (Nat×Nat×List (Poly×List AV)×List (List AV)×Poly)
 | .seq a base cJ tail=>(lenOf base Bk.lens).map fun n=>(a,base,cJ,tail,wA n (yZ tail.length))
 | .cZ T a id n=>match h id with
  | .sc c b base cJ tail n'=>if c=T/\b=a/\n'=n then some (a,base,cJ,tail,n)else none
  |_=>none
 |_=>none
def Lr [Bk] {h:AH} (e:∀id∈Lj x,h' id=h id):nC h' x=nC h x:=by
 cases x<;>simp only[nC]
 simp_all[Lj]
def Ac {h:AH} {sz base:Nat} {cJ:List (Poly×List AV)} {tail:List (List AV)} {n:Poly} (a:nC h x=some (sz,base,cJ,tail,n)):E9 h x sz (rowsOf base cJ tail):=by
 unfold nC at a;split at a
 .rw[a1b]at a
  obtain⟨e,f,c⟩:=a;cases c;exact .seq
 .split at a
  .rename_i b
   split at a
   .rename_i d
    obtain⟨rfl,rfl,rfl⟩:=d;cases a;exact .cZ b rfl
   simp_all
  simp_all
 simp_all
def LZ {h:AH} {sz base:Nat} {cJ:List (Poly×List AV)} {tail:List (List AV)} {n:Poly} (a:nC h x=some (sz,base,cJ,tail,n)) {m:Nat->St} {A:Nat->Prop} {w:World} {v:Value} (H:dV m A h w) (b:Rd m A w x v) :
  (∀q∈cJ,InB base q.1)/\cQ Ev.eZ n=((rowsOf base cJ tail).length:Int):=by
 unfold nC at a;split at a
 .rw[a1b]at a
  obtain⟨g,f,d⟩:=a;cases d;have l:=Ao f;have i:=kM base cJ tail;exact⟨b.Lt.1,by simp_all[qK,sY]⟩
 .split at a
  .rename_i c
   split at a
   .rename_i e
    obtain⟨rfl,rfl,rfl⟩:=e;cases a;obtain⟨k,j⟩:=H.IE c;grind
   simp_all
  simp_all
 simp_all
def Xn [Bk] (n:Poly) (bytes:Nat):Bool:=decide ((bnd n).2*bytes<=140737488355328)&&decide ((bnd n).2<=1099511627776)
def LJ {n:Poly} {bytes len:Nat} (h:Xn n bytes=true) (a:cQ Ev.eZ n=(len:Int)):len*bytes<=140737488355328/\len<=1099511627776:=by
 unfold Xn at h;rw[a0e,decide_eq_true_eq,decide_eq_true_eq]at h;have k:=(Ii n).2;have:(len:Int)*bytes<=(bnd n).2*bytes:=a2g (by omega) (a33 _);omega
def RG (h:AH) (e sz:Nat):AV->Option (List (Nat×dC)×List Nat)
 | .emp=>some ([],[])
 | .own T s id 0 0=>match h id with
  | .cells b a []=>if b=T/\a=s/\T=e/\s=sz then some ([(id,.dead)],[id])else none
  |_=>none
 |_=>none
def akg {h:AH} {e sz:Nat} {rd:List Nat} (a:RG h e sz x=some (k,rd)):yH h x e sz [] k:=by
 unfold RG at a;split at a
 .cases a;exact .emp
 .split at a
  .rename_i b
   split at a
   .rename_i c
    obtain⟨rfl,rfl,rfl,rfl⟩:=c;cases a;exact .own b rfl
   simp_all
  simp_all
 simp_all
def uZ [Bk] (P:Program) (t:TypeId) (x y:AV) (h:AH) (nx:Nat):Option AR :=
 match P.underlying t with
 |some (.slice e)=>match P.info? e with
  |some i=>match i.zero with
   |some z=>if z.cells.size=i.size/\0<i.size/\lN h nx=true then match nC h y with
     |some (j,base,cJ,tail,n)=>match RG h e i.size x with
      |some (k,rd)=>if j=i.size/\Xn n i.bytes=true then some ⟨.cZ e i.size nx n,k++[(nx,.sc e i.size base cJ tail n)],nx::rd++Lj y⟩else none
      |none=>match x with
       | .cZ T s id a=>match h id with
        | .sc g d c [] [] f=>match Bk.afj.find? fun t=>t.1==c&&t.2.1==base with
         |some q=>if cJ.isEmpty=true/\tail.isEmpty=true/\g=T/\d=s/\f=a/\T=e/\s=i.size/\j=i.size/\Xn (wA a n) i.bytes=true then
           some ⟨.cZ e i.size nx (wA a n),[(id,.dead)]++[(nx,.sc e i.size q.2.2 [] [] (wA a n))],nx::id::Lj y⟩else none
         |none=>none
        |_=>none
       |_=>none
     |none=>match x with
      | .cZ T s id a=>match h id with
       | .sc g d base cJ tail f=>match jX h y with
        |some b=>if g=T/\d=s/\f=a/\T=e/\s=i.size/\(b.all fun q=>q.length==i.size)=true/\MM y i.size=true/\Xn (wA a (yZ b.length)) i.bytes=true then
          some ⟨.cZ e i.size nx (wA a (yZ b.length)),[(id,.dead)]++[(nx,.sc e i.size base cJ (tail++b) (wA a (yZ b.length)))],nx::id::uC y⟩else none
        |none=>none
       |_=>none
      |_=>none
    else none
   |none=>none
  |none=>none
 |_=>none
def acr {t:TypeId} {x y:Operand} {r:AR} (S:o.op=.call { callee:=.builtin .append,args:=#[x,y],argTypes:=#[t,t] }) (b:uZ P t (eJ f x) (eJ f y) h nx=some r):eA P o f h r:=by
 unfold uZ at b;split at b
 .rename_i e W
  split at b
  .rename_i i V
   split at b
   .rename_i z O
    split at b
    .rename_i K
     obtain⟨c1,Z,Y⟩:=K;split at b
     .rename_i sz base cJ tail n I
      split at b
      .rename_i k rd hx
       split at b
       .rename_i G
        obtain⟨rfl,d2⟩:=G;cases b;have key:∀m A w u,dV m A h w->Rd m A w (eJ f y) u->sA (.sc e i.size base cJ tail n)/\cQ Ev.eZ n=((rowsOf base cJ tail).length:Int):=fun m A w u H J=>by
         obtain⟨N,C⟩:=LZ I H J;exact⟨⟨C,N⟩,C⟩
        intro m A w a H F;have l:=LJ d2 (key m A w _ H (F.eval y)).2
        exact uR S W V O c1 Z (akg hx) (Ac I) (by simp_all) (by simp_all) (lS Y) (B:=.sc e i.size base cJ tail n) rfl
         (fun m A w v u H hv J=>by grind) m A w a H F
       simp_all
      .split at b
       .rename_i T s id n0 E
        split at b
        .rename_i T' s' c p D
         split at b
         .rename_i q Q
          split at b
          .rename_i G
           obtain⟨M,L,rfl,rfl,rfl,rfl,rfl,rfl,X⟩:=G;have M:=a3k.1 M;have L:=a3k.1 L;subst M L;cases b;have R:=List.find?_some Q;have K:=Ev.cat q (List.mem_of_find?_eq_some Q);rw[a0e]at R;rw[show q.1=c from eq_of_beq R.1,show q.2.1=base from eq_of_beq R.2]at K;have g:∀k,rowsOf k [] []=Ev.seq k:=fun k=>by simp_all[rowsOf]
           have ac:rowsOf c [] []++rowsOf base [] []=rowsOf q.2.2 [] []:=by rw[g,g,g];exact K.symm
           intro m A w a H F;obtain⟨N,C⟩:=H.IE D;obtain⟨g1,g2⟩:=LZ I H (F.eval y);have e1:cQ Ev.eZ (wA p n)=(((rowsOf c [] []).length+(rowsOf base [] []).length:Nat):Int):=(by simp_all[qK])
           have l:=LJ X e1;refine uR S W V O c1 Z (by rw[E];exact .cZ D rfl) (Ac I) l.1 l.2 (lS Y) (B:=.sc T' i.size q.2.2 [] [] (wA p n)) (by simp_all[dC.bL])
            (fun m A w v u H hv J=>⟨⟨by grind,fun t ht=>absurd ht a0b⟩,e1⟩) m A w a H F
          simp_all
         simp_all
        simp_all
       simp_all
     .split at b
      .rename_i T s id n0 E
       split at b
       .rename_i T' s' base cJ tail p D
        split at b
        .rename_i d aa
         split at b
         .rename_i G
          obtain⟨rfl,rfl,rfl,rfl,rfl,d3,d4,X⟩:=G;cases b;have U:∀q∈d,q.length=i.size:=fun q Q=>by simp_all
          have ac:rowsOf base cJ tail++d=rowsOf base cJ (tail++d):=(by simp_all[rowsOf]);intro m A w a H F;obtain⟨N,C⟩:=H.IE D;have e1:cQ Ev.eZ (wA p (yZ d.length))=(((rowsOf base cJ tail).length+d.length:Nat):Int):=by simp_all[qK,sY]
          have l:=LJ X e1;refine uR S W V O c1 Z (by rw[E];exact .cZ D rfl) (.bL aa U ?_) l.1 l.2 (lS Y) (B:=.sc T' i.size base cJ (tail++d) (wA p (yZ d.length))) (by simp_all[dC.bL])
           (fun m A w v u H hv J=>⟨⟨by grind,C⟩,e1⟩) m A w a H F
          intro T s id j n' ab;rw[ab]at d4;simpa[MM]using d4
         simp_all
        simp_all
       simp_all
      simp_all
    simp_all
   simp_all
  simp_all
 simp_all
def iC [Bk] (P:Program) (op:Op) (ρ:Operand->AV) (h:AH) (nx:Nat):Option AR :=
 match op with
 | .load t x=>match Ce h (ρ x)with
  |some q=>match mJ P t q.2.2 q.2.1 with
   |some v=>some ⟨v,[],Lj (ρ x)⟩
   |none=>none
  |none=>none
 | .nilCheck x=>match Ce h (ρ x)with
  |some _=>some ⟨ρ x,[],Lj (ρ x)⟩
  |none=>none
 | .fieldAddr t x k=>match nM P t k with
  |some (_,g,n)=>if n≠0 then match Ce h (ρ x)with
    |some _=>some ⟨Mh g (ρ x),[],Lj (ρ x)⟩
    |none=>none
   else none
  |none=>none
 | .indexAddr t x ix=>match P.underlying t with
  |some (.slice e)=>match toP (ρ ix)with
   |some p=>match nO h (ρ x)with
    |some n=>if aif p n=true then match ρ x with
      | .seq a base cJ tail=>if eO P e=some a then some ⟨.vD a base cJ tail p 0,[],[]⟩else none
      | .cZ T a id n'=>if eO P e=some a/\n'=n then some ⟨.nP a id p 0,[],[id]⟩else none
      |_=>none
     else none
    |none=>none
   |none=>none
  |some (.array len e)=>match eO P e,ρ ix with
   |some s,.c (.int _ n)=>if 0<=n/\n.toNat<len then match Ce h (ρ x)with
     |some _=>some ⟨Mh (n.toNat*s) (ρ x),[],Lj (ρ x)⟩
     |none=>none
    else none
   |_,_=>none
  |_=>none
 | .store t x y=>match jD (ρ y)with
  |some d=>if eO P t=some d.length then match xE h (ρ x) d with
    |some q=>some ⟨.undef,[q],Lj (ρ x)⟩
    |none=>none
   else none
  |none=>none
 | .call { callee:=.builtin b,args,argTypes }=>match b with
  | .len=>match args.toList,argTypes.toList with
   |[x],[t]=>match P.underlying t with
    |some (.slice _)=>match nO h (ρ x)with
     |some n=>some ⟨CM n,[],Lj (ρ x)⟩
     |none=>none
    |_=>none
   |_,_=>none
  | .append=>match args.toList,argTypes.toList with
   |[x,y],[t,f]=>if f=t then uZ P t (ρ x) (ρ y) h nx else none
   |_,_=>none
  |_=>none
 |_=>none
def alh {r:AR} (a:iC P o.op (eJ f) h nx=some r):eA P o f h r:=by
 obtain⟨dst,op,J,L,H,guard⟩:=o;cases op with
 |load t x =>
  simp only[iC]at a;split at a
  .rename_i q d
   split at a
   .rename_i v m;cases a;exact aeT rfl d m
   simp_all
  simp_all
 |nilCheck x =>
  simp only[iC]at a;split at a
  .rename_i q d;cases a;exact Oc rfl d
  simp_all
 |fieldAddr t x k =>
  simp only[iC]at a;split at a
  .rename_i G M n F
   split at a
   .rename_i g
    split at a
    .rename_i q d;cases a;exact MQ rfl d F g
    simp_all
   simp_all
  simp_all
 |indexAddr t x ix =>
  simp only[iC]at a;split at a
  .rename_i e i
   split at a
   .rename_i p m
    split at a
    .rename_i n g
     split at a
     .rename_i u
      split at a
      .rename_i B base cJ tail d
       split at a
       .rename_i hs
        cases a;rw[d]at g;exact FM rfl d m i hs g u
       simp_all
      .rename_i T B id n' d
       split at a
       .rename_i hs
        obtain⟨hs,rfl⟩:=hs;cases a;rw[d]at g;exact Er rfl d m i hs g u
       simp_all
      simp_all
     simp_all
    simp_all
   simp_all
  .rename_i len e i
   split at a
   .rename_i s k n hs E
    split at a
    .rename_i A
     split at a
     .rename_i q d;cases a;exact MP rfl d E i hs A.1 A.2
     simp_all
    simp_all
   simp_all
  simp_all
 |store t x y =>
  simp only[iC]at a;split at a
  .rename_i I C
   split at a
   .rename_i j
    split at a
    .rename_i q D;cases a;exact abw rfl C j D
    simp_all
   simp_all
  simp_all
 |call c =>
  obtain⟨l,args,z⟩:=c;cases l with
  |builtin b =>
   cases b with
   |len =>
    simp only[iC]at a;split at a
    .rename_i x t w j
     rw[acq w,acq j];split at a
     .rename_i e i
      split at a
      .rename_i n g;cases a;exact aby rfl i g
      simp_all
     simp_all
    simp_all
   |append =>
    simp only[iC]at a;split at a
    .rename_i x y t K w j
     rw[Su w,Su j];split at a
     .rename_i e
      subst e;exact acr rfl a
     simp_all
    simp_all
   |_=>simp[iC]at a
  |_=>simp_all[iC]
 |_=>simp[iC]at a
end
def aoi [Bk] {op:Op} {a:Operand->AV} {h:AH} (g:∀x∈op.operands.toList,a x=ρ x):iC P op a h nx=iC P op ρ h nx:=by
 cases op with
 |call c =>
  obtain⟨d,args,f⟩:=c;cases d with
  |builtin b =>
   have e:∀x∈args.toList,a x=ρ x:=fun x i=>g x (by simp_all[Op.operands,Call.operands]);cases b<;>simp only[iC]<;>grind
  |_=>simp[iC]
 |store t x y =>
  simp_all[Op.operands,iC]
 |indexAddr t x y =>
  simp_all[Op.operands,iC]
 |load t x=>simp_all[Op.operands,iC]
 |nilCheck x=>simp_all[Op.operands,iC]
 |fieldAddr t x k=>simp_all[Op.operands,iC]
 |_=>simp[iC]
theorem S9 [Bk] {h:AH} (e:∀id∈Lj x,h' id=h id):nO h' x=nO h x:=by
 cases x<;>simp only[nO]
 simp_all[Lj]
theorem P9 [Bk] {h:AH} (e:∀id∈Lj x,h' id=h id):Ce h' x=Ce h x:=by
 cases x<;>simp only[Ce]
 simp_all[Lj]
theorem afX [Bk] {h:AH} {xs:List AV} (e:∀id∈Lj x,h' id=h id):xE h' x xs=xE h x xs:=by
 cases x<;>simp only[xE]
 simp_all[Lj]
def aex [Bk] {h:AH} {xs:List AV} {q:Nat×dC} (a:xE h x xs=some q):q.1∈Lj x:=by
 unfold xE at a;grind[Lj]
def anF [Bk] {h:AH} {e sz:Nat} {rd:List Nat} (a:RG h e sz x=some (k,rd)) (b:∀id∈rd,h' id=h id):RG h' e sz x=some (k,rd):=by
 unfold RG at a |-;grind
def akf [Bk] {h:AH} {e sz:Nat} {rd:List Nat} (a:RG h e sz x=some (k,rd)):k.map (·.1)=rd:=by
 unfold RG at a;grind
def afy [Bk] [Ev] {t:TypeId} {y:AV} {h:AH} {r:AR} (a:uZ P t x y h nx=some r) (b:∀id∈r.wX,h' id=h id):uZ P t x y h' nx=some r:=by
 unfold uZ at a |-;split at a
 .rename_i e G
  split at a
  .rename_i i F
   split at a
   .rename_i z D
    split at a
    .rename_i H
     split at a
     .rename_i C base cJ tail n p
      split at a
      .rename_i k rd u
       split at a
       .rename_i j
        cases a;have g:lN h' nx=lN h nx:=qW (b nx (by simp));have e1:=anF u (h':=h') fun id c=>b id (by simp[c]);have e2:nC h' y=nC h y:=Lr fun id c=>b id (by simp[c])
        simp_all
       simp_all
      .split at a
       .rename_i T s id f _
        split at a
        .rename_i A m l o v
         split at a
         .rename_i q E
          split at a
          .rename_i j
           cases a;have g:lN h' nx=lN h nx:=qW (b nx (by simp));have e1:h' id=h id:=b id (by simp);have e2:nC h' y=nC h y:=Lr fun id c=>b id (by simp[c]);have w:RG h' e i.size (.cZ T s id f)=none:=rfl
           simp_all
          simp_all
         simp_all
        simp_all
       simp_all
     .rename_i p
      split at a
      .rename_i T s id f
       split at a
       .rename_i A m base cJ tail o v
        split at a
        .rename_i B d
         split at a
         .rename_i j
          cases a;have g:lN h' nx=lN h nx:=qW (b nx (by simp));have e1:h' id=h id:=b id (by simp);have e2:jX h' y=jX h y:=Ic fun id c=>b id (by simp[c])
          have w:nC h' y=none:=by
           unfold jX at d;split at d<;>first|rfl|cases d
          simp_all
         simp_all
        simp_all
       simp_all
      simp_all
    simp_all
   omega
  omega
 omega
def aoh [Bk] [Ev] {op:Op} {h:AH} {r:AR} (a:iC P op ρ h nx=some r) (g:∀id∈r.wX,h' id=h id):iC P op ρ h' nx=some r:=by
 cases op with
 |load t x =>
  grind[iC,P9]
 |nilCheck x =>
  grind[iC,P9]
 |fieldAddr t x k =>
  grind[iC,P9]
 |indexAddr t x ix =>
  simp only[iC]at a |-;split at a
  .rename_i e u
   split at a
   .rename_i p w
    split at a
    .rename_i n f
     split at a
     .rename_i q
      split at a
      .rename_i i base cJ tail j
       split at a
       .rename_i hs
        cases a;rw[j]at f;have e1:nO h' (.seq i base cJ tail)=some n:=f
        simp_all
       simp_all
      .rename_i T i id n' j
       split at a
       .rename_i hs
        cases a;rw[j]at f;have e1:nO h' (.cZ T i id n')=some n:=by rw[S9 (h:=h)];exact f;intro m o;exact g m (by simpa[Lj]using o)
        simp_all
       simp_all
      simp_all
     simp_all
    simp_all
   omega
  .grind[P9]
  omega
 |store t x y =>
  grind[iC,afX]
 |call c =>
  obtain⟨d,args,l⟩:=c;cases d with
  |builtin b =>
   cases b with
   |len =>
    grind[iC,S9]
   |append =>
    simp only[iC]at a |-;split at a
    .rename_i x y t s z v
     split at a
     .rename_i e
      rw[if_pos e];exact afy a g
     simp_all
    omega
   |_=>simp[iC]at a
  |_=>simp_all[iC]
 |_=>simp[iC]at a
def ajc [Bk] [Ev] {op:Op} {h:AH} {r:AR} (a:iC P op ρ h nx=some r):∀id∈r.cJ.map (·.1),id∈r.wX:=by
 cases op with
 |store t x y =>
  simp only[iC]at a;split at a
  .split at a
   .split at a
    .rename_i q i
     cases a;intro id e;simp only[a01,a1x,a07]at e;subst e;exact aex i
    simp_all
   simp_all
  simp_all
 |call c =>
  obtain⟨d,args,f⟩:=c;cases d with
  |builtin b =>
   cases b with
   |append =>
    simp only[iC]at a;split at a
    .split at a
     .unfold uZ at a
      repeat' split at a
      all_goals (first|cases a|skip)
      .rename_i g _
       have:=akf g
       grind
      all_goals simp_all
     simp_all
    simp_all
   |_ =>
    simp only[iC]at a;try (repeat' split at a)
    all_goals (first|cases a|skip)
    all_goals simp
  |_=>simp_all[iC]
 |_ =>
  simp only[iC]at a;try (repeat' split at a)
  all_goals (first|cases a|skip)
  all_goals simp
theorem PC [Bk] {op:Op} {h:AH} {nx':Nat} {r:AR} (a:iC P op ρ h nx=some r):jI P op ρ h' nx'=none:=by
 have row:∀{x:AV} {q},Ce h x=some q->(∃d base cJ tail p off,x=.vD d base cJ tail p off)\/∃d id p off,x=.nP d id p off:=by
  intro x q f;unfold Ce at f;grind
 have w:∀{x:AV} {n},nO h x=some n->(∃d base cJ tail,x=.seq d base cJ tail)\/∃T d id n,x=.cZ T d id n:=by
  intro x q f;unfold nO at f;grind
 cases op with
 |load t x =>
  grind[iC,jI]
 |nilCheck x =>
  grind[iC,jI]
 |fieldAddr t x k =>
  grind[iC,jI]
 |indexAddr t x ix =>
  simp only[iC]at a;split at a
  .grind[jI]
  .rename_i len e l
   split at a
   .rename_i s k n hs o
    split at a
    .rename_i z
     split at a
     .rename_i q f
      rcases row f with⟨d,base,cJ,tail,p,off,e⟩|⟨d,id,p,off,e⟩<;>simp only[jI,e,l,o,hs]<;>split<;>rfl
     simp_all
    simp_all
   simp_all
  simp_all
 |store t x y =>
  grind[iC,xE,jI]
 |call c =>
  obtain⟨g,args,i⟩:=c;cases g with
  |builtin b =>
   cases b with
   |len =>
    grind[iC,jI,jX]
   |append =>
    simp only[iC]at a;split at a
    .rename_i x y t v u m
     split at a
     .rename_i e
      subst e;have f:jX h' (ρ y)=none\/∀e d,wO h' e d (ρ x)=none:=by
       unfold uZ at a;split at a
       .split at a
        .split at a
         .split at a
          .split at a
           .rename_i j
            refine .inl ?_;unfold nC at j;split at j
            .rename_i e;rw[e];rfl
            .rename_i e;rw[e];rfl
            simp_all
           .split at a
            .rename_i e;exact .inr fun _ _=>by rw[e];rfl
            simp_all
          simp_all
         simp_all
        simp_all
       simp_all
      simp only[jI,u,m,if_true];grind[vA]
     simp_all
    simp_all
   |_=>simp[iC]at a
  |_=>simp_all[iC]
 |_=>simp[iC]at a
def CE [Bk] (P:Program) (op:Op) (ρ:Operand->AV) (h:AH) (nx:Nat):Option AR :=
 match jI P op ρ h nx with
 |some r=>some r
 |none=>iC P op ρ h nx
section
variable [Bk] [Ev]
def alf {r:AR} (a:CE P o.op (eJ f) h nx=some r):eA P o f h r:=by
 unfold CE at a;split at a
 .rename_i r' b;cases a;exact aoe b
 .exact alh a
theorem aog {op:Op} {a:Operand->AV} {h:AH} (b:∀x∈op.operands.toList,a x=ρ x):CE P op a h nx=CE P op ρ h nx:=by
 simp_all[CE,apA,aoi]
def aof {op:Op} {h:AH} {r:AR} (a:CE P op ρ h nx=some r) (b:∀id∈r.wX,h' id=h id):CE P op ρ h' nx=some r:=by
 unfold CE at a |-;split at a
 .grind[apz]
 .rw[PC (h':=h') (nx':=nx) a];exact aoh a b
def ai9 {op:Op} {h:AH} {r:AR} (a:CE P op ρ h nx=some r):∀id∈r.cJ.map (·.1),id∈r.wX:=by
 unfold CE at a;split at a
 .rename_i r' b;cases a;exact ale b
 .exact ajc a
end
end
end Mc
namespace Mc
section
variable {P:Program} {h:AH}
def aej [Bk] [Ev] (P:Program) (id:Nat) (args:List AV) (h:AH) (R:AV->AH->Prop):Prop :=
 ∀r m A w u (vs:Array Value),dV m A h w->Rd m A w (.yld id) u->vs.size=args.length->(∀(i:Nat) (x:AV),args[i]?=some x->Rd m A w x (vs.getD i Go.undef)) ->
  ∃b fn a as bd,u=.func (.yield b) #[] #[]/\(Instr.yield b vs).run P w=.ok (.round b fn a as bd) w /\
   RoundIn (fw r) 8 P b fn a as bd w fun e w'=>∃v u c h',e=.returned v/\R u h'/\dV c A h' w'/\Rd c A w' u v/\Ext m w c w'
def pK (ρ:Operand->AV):Op->Option (Nat×List AV)
 | .call { callee:=.value g,args,.. }=>match ρ g with
  | .yld id=>some (id,args.toList.map ρ)
  |_=>none
 |_=>none
def nU.am2 [Bk] [Ev] {o:Oper} {f:List AV} {id:Nat} {args:List AV} {R:AV->AH->Prop} (d:pK (eJ f) o.op=some (id,args)) (p:aej P id args h R):nU P o f h R:=by
 intro r' m A w a H F K Q u;unfold pK at d;split at d
 .rename_i g c r t
  split at d
  .rename_i s n
   simp only[a0g,a1t]at d;obtain⟨rfl,rfl⟩:=d;have k:=F.eval g;rw[n]at k;obtain⟨b,fn,j,as,bd,e1,e2,q⟩:=p r' m A w _ (c.map a.eval) H k (by simp) (fun i x l=>Ez F c i x l)
   have e:(execOp a.eval o).run P w=.ok (.round b fn j as bd) w:=by
    simp_all[execOp,resolve,Deferred.ofValue,invoke]
   refine aaw e (q.mono ?_)
   grind
  simp_all
 simp_all
end
end Mc
namespace Mc
variable {α β:Type} {o:Oper} {ops:Array Oper}
structure Rs (α:Type) where
 a:α
 h:AH
 n:Nat
 rd:List Nat
 wr:List Nat
abbrev M (α:Type):=AH->Nat->Option (Rs α)
def mX:M α:=fun _ _=>none
def mpure (a:α):M α:=fun h n=>some ⟨a,h,n,[],[]⟩
def oP (x:M α) (k:α->M β):M β:=fun h n =>
 match x h n with
 |none=>none
 |some r=>match k r.a r.h r.n with
  |none=>none
  |some s=>some ⟨s.a,s.h,s.n,r.rd++s.rd,r.wr++s.wr⟩
structure Loc {α:Type} (x:M α) (h:AH) (n:Nat) (r:Rs α):Prop where
 le:n<=r.n
 frame:∀id,id ∉ r.wr->¬ (n<=id/\id<r.n)->r.h id=h id
 sub:∀id∈r.wr,id∈r.rd
 again:∀h2:AH,(∀id∈r.rd,h2 id=h id)->(∀id,n<=id->id<r.n->h2 id=h id)->∃r2,x h2 n=some r2/\r2.a=r.a/\r2.n=r.n/\r2.rd=r.rd/\r2.wr=r.wr /\
  (∀id,(id∈r.wr\/(n<=id/\id<r.n))->r2.h id=r.h id)/\∀id,id ∉ r.wr->¬ (n<=id/\id<r.n)->r2.h id=h2 id
def Local (x:M α):Prop:=∀h n r,x h n=some r->Loc x h n r
def gK [Bk] [Ev]:Local (mX:M α):=fun h n r a=>by cases a
def gJ [Bk] [Ev] (a:α):Local (mpure a):=fun h n r b=>by
 cases b;exact⟨a0h _,fun _ _ _=>rfl,fun _ h=>h,fun d _ _=>⟨_,rfl,rfl,rfl,rfl,rfl,fun id c=>by simp_all,fun _ _ _=>rfl⟩⟩
def kN [Bk] [Ev] {x:M α} {k:α->M β} (q:Local x) (u:∀a,Local (k a)):Local (oP x k):=by
 intro h n t i;unfold oP at i;cases o:x h n with
 |none=>simp_all
 |some r =>
  rw[o]at i;simp only at i;cases m:k r.a r.h r.n with
  |none=>simp_all
  |some s =>
   rw[m]at i;cases i;have L1:=q h n r o;have e:=u r.a r.h r.n s m;have B:=L1.le;have A:=e.le;refine⟨a1e L1.le e.le,?_,?_,?_⟩
   .intro id c C
    simp only[a0m,not_or]at c;rw[e.frame id c.2 (by grind),L1.frame id c.1 (by grind)]
   .intro id c
    simp only[a0m]at c |-;exact c.imp (L1.sub id) (e.sub id)
   .intro g l j
    simp only[a0m]at l;simp only at j;obtain⟨r2,e1,e2,G,F,E,D,v⟩:=L1.again g (fun id c=>l id (.inl c)) (fun id a b=>j id a (by omega))
    have p:∀id,(id∈s.rd\/(r.n<=id/\id<s.n))->r2.h id=r.h id:=by
     intro id c;by_cases d:id∈r.wr\/(n<=id/\id<r.n)
     .simp_all
     .simp only[not_or]at d
      rw[v id d.1 d.2,L1.frame id d.1 d.2];grind
    obtain⟨f,K,z,y,J,I,H,w⟩:=e.again r2.h (fun id c=>p id (.inl c)) (fun id a b=>p id (.inr ⟨a,b⟩));refine⟨⟨f.a,f.h,f.n,r2.rd++f.rd,r2.wr++f.wr⟩,?_,z,y,by simp_all,by simp_all,?_,?_⟩
    .simp_all[oP]
    .intro id c
     simp only[a0m]at c;simp only at c |-;by_cases d:id∈s.wr\/(r.n<=id/\id<s.n)
     .simp_all
     .simp only[not_or]at d
      rw[w id d.1 d.2,e.frame id d.1 d.2];grind
    grind
section
variable {P:Program}
def Ov [Bk] (P:Program) (op:Op) (f:List AV):M AV:=fun h n =>
 match CE P op (eJ f) h n with
 |none=>none
 |some r=>some ⟨r.v,gE h r.cJ,if(r.cJ.map (·.1)).contains n then n+1 else n,r.wX,r.cJ.map (·.1)⟩
def aeY [Bk] [Ev] (op:Op) (f:List AV):Local (Ov P op f):=by
 intro h n t c;unfold Ov at c;cases d:CE P op (eJ f) h n with
 |none=>simp_all
 |some r =>
  rw[d]at c;simp only[a0g]at c;subst c;have b:∀id,n<=id->id<(if(r.cJ.map (·.1)).contains n then n+1 else n)->id∈r.cJ.map (·.1):=by
   grind
  refine⟨by grind,fun id a _=>kD a,ai9 d,?_⟩;intro g e _;have i:=aof d e;refine⟨⟨r.v,gE g r.cJ,_,r.wX,r.cJ.map (·.1)⟩,by grind[Ov],rfl,rfl,rfl,rfl,?_,fun id a _=>kD a⟩
  intro id a;rcases a with a|a
  .exact wZ a
  .exact wZ (b id a.1 a.2)
def wP [Bk] (P:Program) (call:Fn->List AV->M AV) (o:Oper) (f:List AV):M AV :=
 match mC P (eJ f) o.op with
 |some (k,args)=>call (.func k) args
 |none=>match pK (eJ f) o.op with
  |some (id,args)=>call (.yield id) args
  |none=>Ov P o.op f
def Ss [Bk] (P:Program) (call:Fn->List AV->M AV) (ops:Array Oper):List Nat->List AV->M (List AV)
 |[],f=>mpure f
 |i::l,f=>match ops[i]? with
  |none=>mX
  |some o=>match lY ops o f with
   |some true=>oP (wP P call o f) fun v=>Ss P call ops l (qY f o.dst v)
   |some false=>Ss P call ops l (qY f o.dst .undef)
   |none=>mX
def abE (x:M AV):M (AV×wV):=fun h n =>
 match x h n with
 |none=>none
 |some r=>some ⟨(r.a,⟨r.a,(r.wr++List.range' n (r.n-n)).map fun id=>(id,r.h id),r.rd,n,r.n,false⟩),r.h,r.n,r.rd,r.wr⟩
def aeX [Bk] [Ev] {x:M AV} (j:Local x):Local (abE x):=by
 intro h n t c;unfold abE at c;cases d:x h n with
 |none=>simp_all
 |some r =>
  rw[d]at c;simp only[a0g]at c;subst c;have L:=j h n r d;refine⟨L.le,L.frame,L.sub,?_⟩;intro g a b;obtain⟨r2,e1,e2,i,f,e,l,k⟩:=L.again g a b;refine⟨⟨(r2.a,⟨r2.a,(r2.wr++List.range' n (r2.n-n)).map fun id=>(id,r2.h id),r2.rd,n,r2.n,false⟩),r2.h,r2.n,r2.rd,r2.wr⟩,by simp_all[abE],?_,i,f,e,l,k⟩;simp only;rw[e2,i,f,e];congr 2;refine a1c fun id m=>?_
  grind
def yC [Bk] (P:Program) (call:Fn->List AV->M AV) (ops:Array Oper):List Nat->List AV->M (List AV×List wV)
 |[],f=>mpure (f,[])
 |i::l,f=>match ops[i]? with
  |none=>mX
  |some o=>match lY ops o f with
   |some true=>oP (abE (wP P call o f)) fun v=>oP (yC P call ops l (qY f o.dst v.1)) fun q=>mpure (q.1,v.2::q.2)
   |some false=>oP (yC P call ops l (qY f o.dst .undef)) fun q=>mpure (q.1,⟨.undef,[],[],0,0,true⟩::q.2)
   |none=>mX
def NB [Bk] (P:Program) (call:Fn->List AV->M AV) (ops:Array Oper) (f:List AV):M (List AV) :=
 if P.follows .mixedOrders then oP (yC P call ops (List.range ops.size) f) fun q=>if Pk ops q.2 then mpure q.1 else mX else mX
def Ey (x:M α):M α:=fun h n =>
 match x h n with
 |none=>none
 |some r=>some ⟨r.a,r.h,r.n,(r.rd.filter fun id=>!(decide (n<=id)&&decide (id<r.n))).eraseDups,(r.wr.filter fun id=>!(decide (n<=id)&&decide (id<r.n))).eraseDups⟩
def abM [Bk] [Ev] {x:M α} (j:Local x):Local (Ey x):=by
 intro h n t d;unfold Ey at d;cases i:x h n with
 |none=>simp_all
 |some r =>
  rw[i]at d;simp only[a0g]at d;subst d;have L:=j h n r i;have e:∀(l:List Nat) id,id∈(l.filter fun id=>!(decide (n<=id)&&decide (id<r.n))).eraseDups↔id∈l/\¬ (n<=id/\id<r.n):=by
   grind[List.mem_eraseDups]
  refine⟨L.le,?_,?_,?_⟩
  .intro id c f
   simp only[e]at c;exact L.frame id (fun k=>c ⟨k,f⟩) f
  .intro id c
   simp only[e]at c |-;exact⟨L.sub id c.1,c.2⟩
  .intro g a b
   simp only[e]at a;obtain⟨r2,e1,e2,m,s,q,p,o⟩:=L.again g (fun id c=>by
    grind) b
   refine⟨⟨r2.a,r2.h,r2.n,(r2.rd.filter fun id=>!(decide (n<=id)&&decide (id<r2.n))).eraseDups,(r2.wr.filter fun id=>!(decide (n<=id)&&decide (id<r2.n))).eraseDups⟩,by simp_all[Ey],e2,m,?_,?_,?_,?_⟩
   .simp_all
   .simp_all
   .grind
   grind
inductive AX where
 |normal|exit (id:Nat)|ret
def AX.to:AX->Exit
 | .normal=>.normal
 | .exit id=>.exit id
 | .ret=>.ret
def gP [Bk] (P:Program) (call:Fn->List AV->M AV) (tp:Bool):Nat->Code->List AV->M (AX×List AV)
 |0,_,_=>mX
 |n+1,.skip,f=>mpure (.normal,f)
 |n+1,.region _ ops draw,f=>oP (if draw then NB P call ops f else Ss P call ops (List.range ops.size) f) fun d=>mpure (.normal,d)
 |n+1,.seq x y,f=>oP (gP P call tp n x f) fun q=>match q.1 with
  | .normal=>gP P call tp n y q.2
  |_=>mpure q
 |n+1,.cond c x y,f=>match eJ f c with
  | .c (.bool b)=>gP P call tp n (if b then x else y) f
  |_=>mX
 |n+1,.block id c,f=>oP (gP P call tp n c f) fun q=>match q.1 with
  | .exit a=>if a=id then mpure (.normal,q.2)else mpure q
  |_=>mpure q
 |n+1,.loop c,f=>oP (gP P call tp n c f) fun q=>match q.1 with
  | .normal=>gP P call tp n (.loop c) q.2
  |_=>mpure q
 |n+1,.scope c,f=>gP P call tp n c f
 |n+1,.label _,f=>mpure (.normal,f)
 |n+1,.exit id,f=>mpure (.exit id,f)
 |n+1,.ret,f=>mpure (.ret,f)
 |n+1,_,_=>mX
def aa3:AV->List Nat
 | .ptr _ id _ _=>[id]
 |_=>[]
def Rb (f:List AV):ResultVar->List Nat
 | .tmp _=>[]
 | .cell t _=>aa3 (f.getD t .undef)
def Mu (f:List AV) (l:List ResultVar):List Nat:=l.flatMap (Rb f)
def N5 (P:Program) (fn:Func) (f:List AV):M AV:=fun h n =>
 match fJ P fn f h with
 |none=>none
 |some v=>some ⟨v,h,n,Mu f fn.results.toList,[]⟩
def aaV [Bk] [Ev] {fn:Func} {f:List AV} {h h':AH} (a:∀id∈Mu f fn.results.toList,h' id=h id):fJ P fn f h'=fJ P fn f h:=by
 unfold fJ;congr 1
 have:∀r∈fn.results.toList,AJ P f h' r=AJ P f h r:=by
  intro r d;cases r with
  |tmp t=>rfl
  |cell t b =>
   simp only[AJ];cases e:f.getD t .undef with
   |ptr c id i off =>
    grind[Mu,Rb,aa3,ad3]
   |_=>rfl
 revert this;generalize fn.results.toList=l;intro this;induction l<;>simp_all
def aeW [Bk] [Ev] (fn:Func) (f:List AV):Local (N5 P fn f):=by
 intro h n t c;unfold N5 at c;cases d:fJ P fn f h with
 |none=>simp_all
 |some v =>
  rw[d]at c;simp only[a0g]at c;subst c;refine⟨a0h _,fun _ _ _=>rfl,fun _ h=>by simp at h,fun g a b=>⟨⟨v,g,n,_,[]⟩,by simp_all[N5,aaV],rfl,rfl,rfl,rfl,fun id e=>by simp_all,fun _ _ _=>rfl⟩⟩
structure pX [Bk] [Ev] (P:Program) (call:Fn->List AV->M AV):Prop where
 loc:∀k args,Local (call k args)
 ok : ∀ k args h n r, call (.func k) args h n = some r -> ∃ fn c, P.funcs[k]? = some fn /\ fn.body = some c /\ (fn.name == "runtime.NumGoroutine") = false /\ jA P k args h (fun v h' => v = r.a /\ h' = r.h)
 yl:∀id args h n r,call (.yield id) args h n=some r->aej P id args h (fun v h'=>v=r.a/\h'=r.h)
variable {call:Fn->List AV->M AV}
section
variable [Bk] [Ev]
def xR (a:pX P call) (o:Oper) (f:List AV):Local (wP P call o f):=by
 unfold wP;split
 .exact a.loc _ _
 .split
  .exact a.loc _ _
  .exact aeY _ _
def FY (a:pX P call) (ops:Array Oper):∀(l:List Nat) (f:List AV),Local (Ss P call ops l f)
 |[],f=>gJ f
 |i::l,f=>by
  simp only[Ss];split
  .exact gK
  .split
   .exact kN (xR a _ _) fun v=>FY a ops l _
   .exact FY a ops l _
   .exact gK
def zF (a:pX P call) (ops:Array Oper):∀(l:List Nat) (f:List AV),Local (yC P call ops l f)
 |[],f=>gJ _
 |i::l,f=>by
  simp only[yC];split
  .exact gK
  .split
   .exact kN (aeX (xR a _ _)) fun v=>kN (zF a ops l _) fun q=>gJ _
   .exact kN (zF a ops l _) fun q=>gJ _
   .exact gK
def abL (a:pX P call) (ops:Array Oper) (f:List AV):Local (NB P call ops f):=by
 unfold NB;split
 .refine kN (zF a ops _ _) fun q=>?_
  split
  .exact gJ _
  .exact gK
 .exact gK
def mK (a:pX P call) {tp:Bool}:∀(n:Nat) (c:Code) (f:List AV),Local (gP P call tp n c f)
 |0,c,f=>by simp only[gP];exact gK
 |n+1,c,f=>by
  cases c with
  |skip=>exact gJ _
  |region id ops draw =>
   simp only[gP];refine kN ?_ fun _=>gJ _
   split
   .exact abL a _ _
   .exact FY a _ _ _
  |seq x y =>
   simp only[gP];refine kN (mK a n x f) fun q=>?_
   split
   .exact mK a n y _
   .exact gJ _
  |cond c x y =>
   simp only[gP];split
   .exact mK a n _ _
   .exact gK
  |block id c =>
   simp only[gP];refine kN (mK a n c f) fun q=>?_
   split
   .split<;>exact gJ _
   .exact gJ _
  |loop c =>
   simp only[gP];refine kN (mK a n c f) fun q=>?_
   split
   .exact mK a n _ _
   .exact gJ _
  |scope c=>simp only[gP];exact mK a n c f
  |label l=>exact gJ _
  |exit id=>exact gJ _
  |ret=>exact gJ _
  |_=>simp only[gP];exact gK
def nH {x:M α} {k:α->M β} {h:AH} {n:Nat} {t:Rs β} (b:oP x k h n=some t):∃r s,x h n=some r/\k r.a r.h r.n=some s/\t.a=s.a/\t.h=s.h/\t.n=s.n:=by
 grind[oP]
def X3 (i:pX P call) {f:List AV} {h:AH} {n:Nat} {r:Rs AV} (b:wP P call o f h n=some r):nU P o f h (fun v h'=>v=r.a/\h'=r.h):=by
 unfold wP at b;cases g:mC P (eJ f) o.op with
 |some p =>
  obtain⟨k,args⟩:=p;simp only[g]at b;obtain⟨fn,c,d,m,l,j⟩:=i.ok k args h n r b;exact nU.call g d m l j
 |none =>
  simp only[g]at b;cases e:pK (eJ f) o.op with
  |some p =>
   obtain⟨id,args⟩:=p;simp only[e]at b;exact nU.am2 e (i.yl id args h n r b)
  |none =>
   simp only[e]at b;unfold Ov at b;cases d:CE P o.op (eJ f) h n with
   |none=>simp_all
   |some q =>
    rw[d]at b;simp only[a0g]at b;subst b;exact(alf d).step
def Sr (j:pX P call) {ops:Array Oper} {Q:Exit->List AV->AH->Prop}:∀(l:List Nat) (f:List AV) (h:AH) (n:Nat) (r:Rs (List AV)),Ss P call ops l f h n=some r->Q .normal r.a r.h->kA P ops Q l f h
 |[],f,h,n,r,c,g=>by cases c;exact kA.nil g
 |i::l,f,h,n,r,c,g=>by
  simp only[Ss]at c;cases d:ops[i]? with
  |none=>simp only[d]at c;cases c
  |some o =>
   simp only[d]at c;cases e:lY ops o f with
   |none=>simp only[e]at c;cases c
   |some b =>
    simp only[e]at c;cases b with
    |true =>
     simp only at c;obtain⟨r1,s,m,k,e1,e2,p⟩:=nH c;refine kA.cons d e (X3 j m) ?_;rintro v h' ⟨rfl,rfl⟩;exact Sr j l _ _ _ s k (by simp_all)
    |false =>
     simp only at c;exact kA.pass d e (Sr j l _ _ _ r c g)
def alj {f f':List AV} (b:∀t∈yK ops o,f'[t]?=f[t]?):∀x∈o.op.operands.toList,eJ f' x=eJ f x:=by
 intro x a;cases x<;>grind[yK,tmpsOf,eJ]
theorem Xi {f f':List AV} (a:∀t∈yK ops o,f'[t]?=f[t]?):lY ops o f'=lY ops o f:=by
 grind[lY,yK,Xh]
def afk {op:Op} {f f':List AV} (a:∀x∈op.operands.toList,eJ f' x=eJ f x):mC P (eJ f') op=mC P (eJ f) op:=by
 unfold mC;split
 .rename_i g args b
  have h:eJ f' g=eJ f g:=a g (by simp[Op.operands,Call.operands]);have e:args.toList.map (eJ f')=args.toList.map (eJ f):=a1c fun x d=>a x (by simp_all[Op.operands,Call.operands])
  grind
 .rename_i g c args b
  have h:eJ f' g=eJ f g:=a g (by simp[Op.operands,Call.operands]);have e:args.toList.map (eJ f')=args.toList.map (eJ f):=a1c fun x d=>a x (by simp_all[Op.operands,Call.operands])
  grind
 .rfl
def afJ {op:Op} {f f':List AV} (a:∀x∈op.operands.toList,eJ f' x=eJ f x):pK (eJ f') op=pK (eJ f) op:=by
 unfold pK;split
 .rename_i g args b
  have e:eJ f' g=eJ f g:=a g (by simp[Op.operands,Call.operands]);have d:args.toList.map (eJ f')=args.toList.map (eJ f):=a1c fun x c=>a x (by simp_all[Op.operands,Call.operands])
  grind
 .rfl
def alc {f f':List AV} (a:∀x∈o.op.operands.toList,eJ f' x=eJ f x):wP P call o f'=wP P call o f:=by
 unfold wP;rw[afk a,afJ a];have:Ov P o.op f'=Ov P o.op f:=by grind[Ov,aog]
 rw[this]
def LX (g:AH):∀(l:List Nat) (h:AH) (id:Nat),gE h (l.map fun id=>(id,g id)) id=if id∈l then g id else h id
 |[],h,id=>by simp[gE]
 |i::l,h,id=>by
  simp only[a01,gE];rw[LX g l];grind[gO]
def ae7 (d:pX P call) {f:List AV} {h:AH} {n:Nat} {r:Rs AV} (l:lY ops o f=some true) (g:wP P call o f h n=some r) :
  aar P ops o ⟨r.a,(r.wr++List.range' n (r.n-n)).map fun id=>(id,r.h id),r.rd,n,r.n,false⟩ f h:=by
 intro i h' k e c b;simp only[a2b,if_false];refine⟨by grind[Xi],?_⟩;have L:=xR d o f h n r g;obtain⟨r2,e1,e2,t,s,q,p,m⟩:=L.again h' c b;rw[<-alc (f':=i) (alj e)]at e1;refine(X3 d e1).mono ?_;rintro v j ⟨rfl,rfl⟩;refine⟨e2,?_⟩;funext id;rw[LX r.h];grind
def Ip (g:pX P call) {ops:Array Oper}:∀(l:List Nat) (f:List AV) (h:AH) (n:Nat) (r:Rs (List AV×List wV)),yC P call ops l f h n=some r ->
  r.a.2.length=l.length/\I7 P ops ((l.zip r.a.2).map fun p=>(ops.getD p.1 default,p.2)) (f,h)/\fin ((l.zip r.a.2).map fun p=>(ops.getD p.1 default,p.2)) (f,h)=(r.a.1,r.h)
 |[],f,h,n,r,c=>by cases c;exact⟨rfl,trivial,rfl⟩
 |i::l,f,h,n,r,c=>by
  simp only[yC]at c;cases m:ops[i]? with
  |none=>simp only[m]at c;cases c
  |some o =>
   simp only[m]at c;have e:ops.getD i default=o:=by simp[m]
   cases t:lY ops o f with
   |none=>simp only[t]at c;cases c
   |some b =>
    simp only[t]at c;cases b with
    |true =>
     simp only at c;obtain⟨r1,s,d,v,e1,e2,B⟩:=nH c;obtain⟨r2,G,A,z,D,C,M⟩:=nH v;cases z;unfold abE at d;cases u:wP P call o f h n with
     |none=>simp_all
     |some q =>
      rw[u]at d;simp only[a0g]at d;subst d;obtain⟨k,x,w⟩:=Ip g l _ _ _ r2 A;have J:=ae7 g t u;have L:=xR g o f h n q u;have y:app (o,⟨q.a,(q.wr++List.range' n (q.n-n)).map fun id=>(id,q.h id),q.rd,n,q.n,false⟩) (f,h)=(qY f o.dst q.a,q.h):=by
       simp only[app,a1t,true_and];funext id;rw[LX q.h];split
       .rfl
       .rename_i j
        rw[a0m,List.mem_range'_1,not_or]at j;have:=L.le;exact(L.frame id j.1 (by omega)).symm
      rw[e1,D,e2,C];refine⟨by simp[k],?_,?_⟩
      .simp_all[I7]
      .simp only[a3a,a01,e]
       show fin _ (app _ _)=_
       simp_all
    |false =>
     simp only at c;obtain⟨r1,s,d,v,e1,e2,B⟩:=nH c;cases v;obtain⟨k,x,w⟩:=Ip g l _ _ _ r1 d;rw[e1,e2];refine⟨by simp[k],?_,?_⟩
     .simp only[a3a,a01,I7,e]
      refine⟨?_,x⟩;intro K h' I H F E;grind[Xi]
     .simp only[a3a,a01,e]
      exact w
def ajf (m:pX P call) {tp:Bool} {id:Nat} {Q:Exit->List AV->AH->Prop} {f:List AV} {h:AH} {n:Nat} {r:Rs (List AV)} (b:NB P call ops f h n=some r) (k:Q .normal r.a r.h):kV P tp (.region id ops true) Q f h:=by
 unfold NB at b;by_cases d:P.follows .mixedOrders=true
 .rw[if_pos d]at b
  obtain⟨r1,s,o,c,e1,e2,q⟩:=nH b;by_cases e:Pk ops r1.a.2=true
  .rw[if_pos e]at c
   cases c;obtain⟨j,i,g⟩:=Ip m _ _ _ _ r1 o;rw[a4e]at j;have l:((List.range ops.size).zip r1.a.2).map (fun p=>(ops.getD p.1 default,p.2))=(List.range ops.size).map (jP ops r1.a.2):=by
    apply a3w
    grind[jP]
   rw[l]at i g;rw[e1,e2]at k;exact kV.draw d r1.a.2 j e i g k
  .rw[if_neg e]at c;cases c
 .rw[if_neg d]at b;cases b
def qQ (o:pX P call) {tp:Bool}:∀(k:Nat) (c:Code) (Q:Exit->List AV->AH->Prop) (f:List AV) (h:AH) (n:Nat) (r:Rs (AX×List AV)),gP P call tp k c f h n=some r->Q r.a.1.to r.a.2 r.h->kV P tp c Q f h
 |0,c,Q,f,h,n,r,d,e=>by simp only[gP]at d;cases d
 |k+1,c,Q,f,h,n,r,d,e=>by
  cases c with
  |skip=>cases d;exact kV.skip e
  |region id ops draw =>
   simp only[gP]at d;obtain⟨r1,s,j,g,e1,e2,z⟩:=nH d;cases g;rw[e1,e2]at e;cases draw with
   |true =>
    simp only[if_true]at j;exact ajf o j e
   |false =>
    simp only[a2b,if_false]at j;exact kV.region (Sr o _ _ _ _ _ j e)
  |seq x y =>
   simp only[gP]at d;obtain⟨r1,s,j,g,e1,e2,z⟩:=nH d;refine kV.seq (qQ o k x _ f h n r1 j ?_);cases i:r1.a.1 with
   |normal =>
    simp only[i]at g;exact qQ o k y Q _ _ _ s g (by simp_all)
   |_ =>
    simp only[i]at g;cases g;rw[e1,e2,i]at e;exact e
  |cond c x y =>
   simp only[gP]at d;cases q:eJ f c with
   |c v =>
    cases v with
    |bool b=>simp only[q]at d;exact kV.cond q (qQ o k _ Q f h n r d e)
    |_=>simp only[q]at d;cases d
   |_=>simp only[q]at d;cases d
  |block id c =>
   simp only[gP]at d;obtain⟨r1,s,j,g,e1,e2,z⟩:=nH d;refine kV.block (qQ o k c _ f h n r1 j ?_);cases i:r1.a.1 with
   |exit A =>
    simp only[i]at g;simp only[AX.to,M5];by_cases w:A=id
    .rw[if_pos w]at g |-
     cases g;rw[e1,e2]at e;exact e
    .rw[if_neg w]at g |-
     cases g;rw[e1,e2,i]at e;exact e
   |_ =>
    simp only[i]at g;cases g;rw[e1,e2,i]at e;exact e
  |scope c =>
   simp only[gP]at d;have D:∀l,r.a.1.to≠.goto l:=by intro l;cases r.a.1<;>simp[AX.to]
   exact kV.scope (qQ o k c _ f h n r d ⟨D,e⟩)
  |label l=>cases d;exact kV.label e
  |loop c =>
   have key:∀(k:Nat) (f:List AV) (h:AH) (n:Nat) (r:Rs (AX×List AV)),gP P call tp k (.loop c) f h n=some r->Q r.a.1.to r.a.2 r.h->(∀k' t Q f h n r,k'<k->gP P call tp k' t f h n=some r->Q r.a.1.to r.a.2 r.h->kV P tp t Q f h)->kV P tp (.loop c) Q f h:=by
    intro k f h n r d e C;refine kV.loop (fun m f h=>∃n r,gP P call tp m (.loop c) f h n=some r/\Q r.a.1.to r.a.2 r.h/\m<=k) k ⟨n,r,d,e,a0h _⟩ ?_;rintro m f1 j ⟨B,r1,p,u,E⟩;cases m with
    |zero=>simp only[gP]at p;cases p
    |succ m =>
     simp only[gP]at p;obtain⟨r2,s,g1,g2,e1,e2,z⟩:=nH p;refine C m c _ f1 j B r2 (by omega) g1 ?_;cases i:r2.a.1 with
     |normal =>
      simp only[i]at g2;exact⟨m,by omega,_,s,g2,by simp_all,by omega⟩
     |_ =>
      simp only[i]at g2;cases g2;rw[e1,e2,i]at u;exact u
   exact key (k+1) f h n r d e fun k' t Q f h n r F=>qQ o k' t Q f h n r
  |exit id=>cases d;exact kV.exit e
  |ret=>cases d;exact kV.ret e
  |_=>simp only[gP]at d;cases d
 termination_by k=>k
 decreasing_by all_goals omega
end
end
end Mc
namespace Mc
variable {m:Nat->St} {A:Nat->Prop} {o:Oper} {nx:Nat} {k:FuncId} {fn:Func} {x:AV}
section
variable {P:Program}
def dV.alz [Bk] [Ev] {h:AH} {w:World} (H:dV m A h w) {id:Nat} (o:h id=.no) :
  dV (sset m id .dead) A (gO h id .dead) w/\Ext m w (sset m id .dead) w:=by
 have q:=H.no id o;have v:∀{k:Nat} {s:St},m k=s->s≠.no->k≠id:=by grind
 have E:Ext m w (sset m id .dead) w:=by
  refine⟨rfl,rfl,rfl,a0h _,?_,?_,?_,?_,fun _ _ _ _=>rfl⟩<;>grind[sset]
 refine⟨⟨?_,H.old,?_,?_,?_,?_,H.mS.ext H.out E,H.nZ E fun u B a y=>?_,sA.set H.scs trivial⟩,E⟩
 .intro k b f
  unfold sset at f;split at f
  .cases f
  .exact H.out k b f
 .intro k a
  unfold gO at a;unfold sset;split at a
  .cases a
  .rename_i c;rw[if_neg c];exact H.no k a
 .intro k a
  unfold gO at a;unfold sset;split at a
  .simp_all
  .rename_i c;rw[if_neg c];exact H.dead k a
 .intro k t l g a
  unfold gO at a;split at a
  .simp_all[dC.bL]
  .rename_i c
   obtain⟨g1,g2⟩|⟨b,cs,g1,g2,g3,r,p⟩:=H.wQ k t l g a
   .simp_all[sset]
   .exact .inr ⟨b,cs,by simp_all[sset],g2,g3,r,fun i j x n=>⟨(p i j x n).1,(p i j x n).2.ext E⟩⟩
 .intro i j b e d
  unfold sset at e d;split at e
  .cases e
  .split at d
   .cases d
   .exact H.inj i j b e d
 grind[gO,dC.other,sset]
def Ma [Bk] [Ev] {f:List AV} {h:AH} {t e C:TypeId} {x:Operand} {bL:List (List AV)} (M:o.op=.binOp .eql t x (.const (.slice none 0 0)) C) (D:P.underlying t=some (.slice e)) (d:jX h (eJ f x)=some bL) :
  nU P o f h (fun v h'=>h'=h/\(v=.c (.bool true)/\bL=[]\/v=.c (.bool false))):=by
 intro r' m A w a H F K Q B;have j:=F.eval x;have l:∃g cap,a.eval x=.slice g bL.length cap/\(g=none->bL=[]):=by
  generalize eJ f x=y at j d;generalize a.eval x=v at j;cases y with
  |emp =>
   simp only[jX,a0g]at d;subst d;cases j with|pure _ _ E=>cases E<;>simp_all
  |lit s I =>
   simp only[jX,a0g]at d;subst d;obtain⟨rfl,a,cap,rfl⟩|⟨b,off,cap,vs,rfl,-⟩:=j.pY<;>simp_all
  |own T s id i n =>
   simp only[jX]at d;split at d
   .rename_i R J r G
    split at d
    .rename_i z
     obtain⟨rfl,rfl,L⟩:=z;cases d;have q:((r.drop i).take n).length=n:=(by grind);rw[q];rcases H.cells id _ _ _ G with⟨l,rfl⟩|⟨b,cs,g1,g2,g3,O,N⟩
     .cases j with
      |pure _ _ h=>cases h
      |own _ _ _ _ _ b _ u=>simp_all
      |vJ _ _ _ _ a u=>simp_all
      |wC _ _ _ _ _ _ _ _ u=>simp_all
     .obtain⟨cap,rfl,-⟩:=j.vO g1
      simp_all
    simp_all
   simp_all
  |_=>simp[jX]at d
 obtain⟨g,cap,l,p⟩:=l;have k:(execOp a.eval o).run P w=.ok (.value (.bool g.isNone)) w:=by
  have:(Op.equal t (.slice g bL.length cap) (.slice none 0 0)).run P w=.ok g.isNone w:=run_equal_slice_nil w t e g bL.length cap D;have z:a.eval (.const (.slice none 0 0))=.slice none 0 0:=rfl
  simp_all[execOp,eqGuard,binOp]
 refine Fk k ?_;cases g with
 |none=>exact B (.c (.bool true)) h (.bool true) w m ⟨rfl,.inl ⟨rfl,p rfl⟩⟩ H (.pure _ _ (.c _)) (Ext.refl _ _)
 |some g=>exact B (.c (.bool false)) h (.bool false) w m ⟨rfl,.inr rfl⟩ H (.pure _ _ (.c _)) (Ext.refl _ _)
def zD [Bk] [Ev] {f:List AV} {h:AH} {t e:TypeId} {i:TypeInfo} (k:o.op=.buildSlice t 0 #[]) (j:P.underlying t=some (.slice e)) (l:P.info? e=some i) (b:h nx=.no) :
  eA P o f h ⟨.own e i.size nx 0 0,[(nx,.cells e i.size [])],[nx]⟩:=by
 intro m A w a H F;obtain⟨g,d,c⟩:=Rr H (T:=e) (sz:=i.size) (n:=0) (cap:=0) (bL:=[]) (cs:=#[]) b rfl (a0h _) (a0j _) (by simp) (by simp) (by simp_all[iE]);refine⟨_,_,_,.inl ?_,by simpa[gE]using g,c,d⟩;simp[execOp,k,Instr.buildSlice,run_underlying j,sizeOf,typeInfo,l,Instr.fill,newRow]
 grind
structure acB (fn:Func) (t:TypeId):Prop where
 body:∃(i0 i1 i2 i3:Nat) (o0 o1 o2 o3 o4 o5 o6 o7:Oper),fn.body=some (.seq (.region i0 #[o0] false) (.seq (.seq (.region i1 #[o1,o2] false) (.cond (.tmp 4) (.seq (.region i2 #[o3] false) .ret) .skip)) (.seq (.region i3 #[o4,o5,o6,o7] false) .ret))) /\
  o0.dst=some 2/\o0.op=.assign (.const (.slice none 0 0))/\o1.dst=some 3/\o1.op=.move (.tmp 0)/\o2.dst=some 4/\(∃ty,o2.op=.binOp .eql t (.tmp 3) (.const (.slice none 0 0)) ty) /\
  o3.dst=some 2/\o3.op=.assign (.const (.slice none 0 0))/\o4.dst=some 5/\o4.op=.buildSlice t 0 #[]/\o5.dst=some 6/\o5.op=.move (.tmp 0)/\o6.dst=some 7/\o6.op=.call { callee:=.builtin .append,args:=#[.tmp 5,.tmp 6],argTypes:=#[t,t] }/\o7.dst=some 2/\o7.op=.assign (.tmp 7) /\
  o0.guard=none/\o1.guard=none/\o2.guard=none/\o3.guard=none/\o4.guard=none/\o5.guard=none/\o6.guard=none/\o7.guard=none
 tmps:fn.ntmps=8
 res:fn.results=#[.tmp 2]
 name : (fn.name == "runtime.NumGoroutine") = false
section
variable [Bk] [Ev]
def fX {ops:Array Oper} {f:List AV} (h:o.guard=none):lY ops o f=some true:=by simp_all[lY]
def aiS {t e:TypeId} {i:TypeInfo} {z:Value} {h:AH} {bL:List (List AV)} (hk:P.funcs[k]?=some fn) (B:acB fn t) (p:P.underlying t=some (.slice e)) (M:P.info? e=some i) (hz:i.zero=some z) (D:z.cells.size=i.size) (L:0<i.size)
  (I:jX h x=some bL) (N:∀q∈bL,q.length=i.size) (F:∀T s id j n,x=.own T s id j n->s=i.size) (hb:bL.length*i.bytes<=140737488355328) (hm:bL.length<=1099511627776) (l:h nx=.no) (aa:h (nx+1)=.no) (ac:nx ∉ uC x) :
  jA P k [x] h (fun v h'=>v=.own e i.size (nx+1) 0 bL.length/\h'=gE h [(nx,.dead),(nx+1,.cells e i.size bL)]):=by
 obtain⟨i0,i1,i2,i3,o0,o1,o2,o3,Z,Y,C,X,g,d0,p0,d1,p1,Q,⟨ty,p2⟩,d3,W,d4,V,d5,U,d6,S,d7,R,g0,g1,g2,g3,g4,g5,g6,g7⟩:=B.body
 have d:∀(f:List AV) (h:AH),fJ P fn f h=some (f.getD 2 .undef):=by
  intro f h;simp[fJ,B.res,AJ,CW]
 have key:jA P k [x] h (fun v h'=>(v=.emp/\h'=h/\bL=[])\/(v=.own e i.size (nx+1) 0 bL.length/\h'=gE h [(nx,.dead),(nx+1,.cells e i.size bL)])):=by
  refine jA.fP hk g ?_;rw[B.tmps];show kV P _ _ _ [x,.undef,.undef,.undef,.undef,.undef,.undef,.undef] _;refine kV.seq (kV.region ?_);refine kA.cons (o:=o0) rfl (fX g0) (pR p0).step ?_;rintro v h' ⟨rfl,rfl⟩;refine kA.nil ?_;rw[d0];show kV P _ _ _ [x,.undef,.emp,.undef,.undef,.undef,.undef,.undef] _;refine kV.seq (kV.seq (kV.region ?_));refine kA.cons (o:=o1) rfl (fX g1) (Eo p1).step ?_;rintro v h' ⟨K,rfl⟩;rw[d1,show v=x from K];show kA P _ _ [1] [x,.undef,.emp,x,.undef,.undef,.undef,.undef] _;refine kA.cons (o:=o2) rfl (fX g2) (Ma p2 p I) ?_;rintro v h' ⟨rfl,⟨rfl,y⟩|rfl⟩
  .rw[Q]
   refine kA.nil ?_;show kV P _ _ _ [x,.undef,.emp,x,.c (.bool true),.undef,.undef,.undef] _;refine kV.cond (b:=true) rfl ?_;refine kV.seq (kV.region ?_);refine kA.cons (o:=o3) rfl (fX g3) (pR W).step ?_;rintro v a ⟨rfl,rfl⟩;rw[d3];refine kA.nil ?_;show kV P _ _ _ [x,.undef,.emp,x,.c (.bool true),.undef,.undef,.undef] _;refine kV.ret ?_;exact⟨.emp,by rw[d];rfl,.inl ⟨rfl,rfl,y⟩⟩
  .rw[Q]
   refine kA.nil ?_;show kV P _ _ _ [x,.undef,.emp,x,.c (.bool false),.undef,.undef,.undef] _;refine kV.cond (b:=false) rfl ?_;refine kV.skip ?_;show kV P _ _ _ _ _;refine kV.seq (kV.region ?_);refine kA.cons (o:=Z) rfl (fX g4) (zD V p M l).step ?_;rintro v a ⟨rfl,rfl⟩;rw[d4];show kA P _ _ [1,2,3] [x,.undef,.emp,x,.c (.bool false),.own e i.size nx 0 0,.undef,.undef] _;refine kA.cons (o:=Y) rfl (fX g5) (Eo U).step ?_;rintro v a ⟨J,rfl⟩;rw[d5,show v=x from J];show kA P _ _ [2,3] [x,.undef,.emp,x,.c (.bool false),.own e i.size nx 0 0,x,.undef] _
   have G:jX (gE h' [(nx,.cells e i.size [])]) x=some bL:=by
    rw[Ic (x:=x) (h:=h')]
    .exact I
    .intro id ab
     simp only[gE];exact lP _ _ (by grind)
   have O:=O3 (P:=P) (o:=C) (f:=[x,.undef,.emp,x,.c (.bool false),.own e i.size nx 0 0,x,.undef]) (h:=gE h' [(nx,.cells e i.size [])]) (bL:=[]) (ys:=bL) (k:=[(nx,.dead)]) (rd:=[nx]) (nx:=nx+1) S p M hz D L
    (by simp[eJ,wO,gE,gO]) G N F (by grind) (by grind) (by simp only[gE,a1i];grind[lP])
   refine kA.cons (o:=C) rfl (fX g6) O.step ?_;rintro v a ⟨rfl,rfl⟩;rw[d6];refine kA.cons (o:=X) rfl (fX g7) (pR R).step ?_;rintro v a ⟨rfl,rfl⟩;rw[d7];refine kA.nil ?_;refine kV.ret ?_;refine⟨_,d _ _,.inr ⟨?_,?_⟩⟩
   .simp[qY,eJ]
   .simp only[a3v,gE,a2a,a1i]
    grind[gO]
 intro m A w vs H hl hv;refine(key m A w vs H hl hv).mono ?_;rintro ed w' ⟨v,u,m',h',rfl,hR,H',r,E⟩;rcases hR with⟨rfl,rfl,rfl⟩|⟨rfl,rfl⟩
 .obtain⟨H1,E1⟩:=H'.alz l
  obtain⟨H2,E2⟩:=H1.acD (id:=nx+1) (by grind[lP]) e i.size
  obtain⟨a0,rfl⟩:∃a0,v=.slice a0 0 0:=by
   cases r with|pure _ _ r=>cases r<;>grind
  exact⟨_,_,_,_,rfl,⟨rfl,rfl⟩,H2,.vJ e i.size (nx+1) 0 a0 (by simp[sset]),(E.trans E1).trans E2⟩
 grind
def Fx {f:List AV} {h:AH} {t e j:TypeId} {x:Operand} {sz:Nat} {bL:List (List AV)} (p:o.op=.binOp .eql t x (.const (.slice none 0 0)) j) (k:P.underlying t=some (.slice e)) (l:E9 h (eJ f x) sz bL) :
  nU P o f h (fun v h'=>h'=h/\(v=.c (.bool true)/\bL=[]\/v=.c (.bool false))):=by
 intro r' m A w a H F K Q i;obtain⟨-,b,cap,n,-,g,-⟩:=l m A w _ H (F.eval x)
 have d:(execOp a.eval o).run P w=.ok (.value (.bool b.isNone)) w:=by
  have:(Op.equal t (.slice b bL.length cap) (.slice none 0 0)).run P w=.ok b.isNone w:=run_equal_slice_nil w t e b bL.length cap k;have q:a.eval (.const (.slice none 0 0))=.slice none 0 0:=rfl
  simp_all[execOp,eqGuard,binOp]
 refine Fk d ?_;cases b with
 |none=>exact i (.c (.bool true)) h (.bool true) w m ⟨rfl,.inl ⟨rfl,g rfl⟩⟩ H (.pure _ _ (.c _)) (Ext.refl _ _)
 |some b=>exact i (.c (.bool false)) h (.bool false) w m ⟨rfl,.inr rfl⟩ H (.pure _ _ (.c _)) (Ext.refl _ _)
def ab0 {t e:TypeId} {i:TypeInfo} {z:Value} {h:AH} {base:Nat} {cJ:List (Poly×List AV)} {tail:List (List AV)} {n:Poly} (hk:P.funcs[k]?=some fn) (D:acB fn t) (p:P.underlying t=some (.slice e)) (N:P.info? e=some i) (hz:i.zero=some z) (G:z.cells.size=i.size) (M:0<i.size)
  (l:nC h x=some (i.size,base,cJ,tail,n)) (C:Xn n i.bytes=true) (j:h nx=.no) (aa:h (nx+1)=.no) (ac:nx ∉ Lj x) :
  jA P k [x] h (fun v h'=>v=.cZ e i.size (nx+1) n/\h'=gE h [(nx,.dead),(nx+1,.sc e i.size base cJ tail n)]):=by
 obtain⟨i0,i1,i2,i3,o0,o1,o2,o3,Z,Y,F,X,g,d0,p0,d1,p1,Q,⟨ty,p2⟩,d3,W,d4,V,d5,U,d6,S,d7,R,g0,g1,g2,g3,g4,g5,g6,g7⟩:=D.body
 have r:∀(f:List AV) (h:AH),fJ P fn f h=some (f.getD 2 .undef):=by
  intro f h;simp[fJ,D.res,AJ,CW]
 intro m A w vs H hl L;have a:(∀q∈cJ,InB base q.1)/\cQ Ev.eZ n=((rowsOf base cJ tail).length:Int):=LZ l H (L 0 x rfl)
 have key:jA P k [x] h (fun v h'=>(v=.emp/\h'=h/\rowsOf base cJ tail=[])\/(v=.cZ e i.size (nx+1) n/\h'=gE h [(nx,.dead),(nx+1,.sc e i.size base cJ tail n)])):=by
  refine jA.fP hk g ?_;rw[D.tmps];show kV P _ _ _ [x,.undef,.undef,.undef,.undef,.undef,.undef,.undef] _;refine kV.seq (kV.region ?_);refine kA.cons (o:=o0) rfl (fX g0) (pR p0).step ?_;rintro v h' ⟨rfl,rfl⟩;refine kA.nil ?_;rw[d0];show kV P _ _ _ [x,.undef,.emp,.undef,.undef,.undef,.undef,.undef] _;refine kV.seq (kV.seq (kV.region ?_));refine kA.cons (o:=o1) rfl (fX g1) (Eo p1).step ?_;rintro v h' ⟨K,rfl⟩;rw[d1,show v=x from K];show kA P _ _ [1] [x,.undef,.emp,x,.undef,.undef,.undef,.undef] _;refine kA.cons (o:=o2) rfl (fX g2) (Fx p2 p (Ac l)) ?_;rintro v h' ⟨rfl,⟨rfl,y⟩|rfl⟩
  .rw[Q]
   refine kA.nil ?_;show kV P _ _ _ [x,.undef,.emp,x,.c (.bool true),.undef,.undef,.undef] _;refine kV.cond (b:=true) rfl ?_;refine kV.seq (kV.region ?_);refine kA.cons (o:=o3) rfl (fX g3) (pR W).step ?_;rintro v d ⟨rfl,rfl⟩;rw[d3];refine kA.nil ?_;show kV P _ _ _ [x,.undef,.emp,x,.c (.bool true),.undef,.undef,.undef] _;refine kV.ret ?_;exact⟨.emp,by simp_all,.inl ⟨rfl,rfl,y⟩⟩
  .rw[Q]
   refine kA.nil ?_;show kV P _ _ _ [x,.undef,.emp,x,.c (.bool false),.undef,.undef,.undef] _;refine kV.cond (b:=false) rfl ?_;refine kV.skip ?_;show kV P _ _ _ _ _;refine kV.seq (kV.region ?_);refine kA.cons (o:=Z) rfl (fX g4) (zD V p N j).step ?_;rintro v d ⟨rfl,rfl⟩;rw[d4];show kA P _ _ [1,2,3] [x,.undef,.emp,x,.c (.bool false),.own e i.size nx 0 0,.undef,.undef] _;refine kA.cons (o:=Y) rfl (fX g5) (Eo U).step ?_;rintro v d ⟨J,rfl⟩;rw[d5,show v=x from J];show kA P _ _ [2,3] [x,.undef,.emp,x,.c (.bool false),.own e i.size nx 0 0,x,.undef] _
   have I:nC (gE h' [(nx,.cells e i.size [])]) x=some (i.size,base,cJ,tail,n):=by
    rw[Lr (x:=x) (h:=h')]
    .exact l
    .intro id ab
     simp only[gE];exact lP _ _ (by grind)
   have hb:=LJ C a.2;have O:=uR (P:=P) (o:=F) (f:=[x,.undef,.emp,x,.c (.bool false),.own e i.size nx 0 0,x,.undef]) (h:=gE h' [(nx,.cells e i.size [])]) (bL:=[]) (ys:=rowsOf base cJ tail) (k:=[(nx,.dead)]) (wX:=[]) (nx:=nx+1) (B:=.sc e i.size base cJ tail n) (n:=n) S p N hz G M
    (yH.own (by simp[gE,gO]) rfl) (Ac I) (by simp_all) (by simp_all) (by simp_all[gE,lP]) rfl (fun _ _ _ _ _ _ _ _=>⟨⟨a.2,a.1⟩,by simp_all⟩)
   refine kA.cons (o:=F) rfl (fX g6) O.step ?_;rintro v d ⟨rfl,rfl⟩;rw[d6];refine kA.cons (o:=X) rfl (fX g7) (pR R).step ?_;rintro v d ⟨rfl,rfl⟩;rw[d7];refine kA.nil ?_;refine kV.ret ?_;refine⟨_,r _ _,.inr ⟨?_,?_⟩⟩
   .simp[qY,eJ]
   .simp only[a3v,gE,a2a,a1i]
    grind[gO]
 refine(key m A w vs H hl L).mono ?_;rintro ed w' ⟨v,u,m',h',rfl,hR,H',s,E⟩;rcases hR with⟨rfl,rfl,h0⟩|⟨rfl,rfl⟩
 .obtain⟨H1,E1⟩:=H'.alz j
  obtain⟨H2,E2⟩:=H1.LQ (id:=nx+1) (by simp_all[lP]) (B:=.sc e i.size base cJ tail n) (T:=e) (sz:=i.size) (by simp_all[dC.bL]) ⟨a.2,a.1⟩
  obtain⟨a0,rfl⟩:∃a0,v=.slice a0 0 0:=by
   cases s with|pure _ _ s=>cases s<;>simp_all
  exact⟨_,_,_,_,rfl,⟨rfl,rfl⟩,H2,.uH e i.size (nx+1) n a0 (by simp[sset]) (by simp_all),(E.trans E1).trans E2⟩
 grind
def rQ (fn:Func):Option TypeId :=
 if fn.ntmps=8 then match fn.results.toList with
  | [.tmp 2] => if fn.name == "runtime.NumGoroutine" then none else match fn.body with
   |some (.seq (.region _ q0 false) (.seq (.seq (.region _ e false) (.cond (.tmp 4) (.seq (.region _ d false) .ret) .skip)) (.seq (.region _ c false) .ret))) =>
    match q0.toList,e.toList,d.toList,c.toList with
    |[⟨some 2,.assign (.const (.slice none 0 0)),_,_,_,none⟩],[⟨some 3,.move (.tmp 0),_,_,_,none⟩,⟨some 4,.binOp .eql t (.tmp 3) (.const (.slice none 0 0)) _,_,_,_,none⟩],[⟨some 2,.assign (.const (.slice none 0 0)),_,_,_,none⟩],
     [⟨some 5,.buildSlice t1 0 ps,_,_,_,none⟩,⟨some 6,.move (.tmp 0),_,_,_,none⟩,⟨some 7,.call ⟨.builtin .append,as,ts⟩,_,_,_,none⟩,⟨some 2,.assign (.tmp 7),_,_,_,none⟩] =>
     match ps.toList,as.toList,ts.toList with
     |[],[.tmp 5,.tmp 6],[b,a]=>if t1=t/\b=t/\a=t then some t else none
     |_,_,_=>none
    |_,_,_,_=>none
   |_=>none
  |_=>none
 else none
def apQ {α:Type} {l:Array α} (h:l.toList=[]):l=#[]:=by simp_all
def apO {α:Type} {l:Array α} {x y z u:α} (h:l.toList=[x,y,z,u]):l=#[x,y,z,u]:=by grind
def abQ {t:TypeId} (h:rQ fn=some t):acB fn t:=by
 unfold rQ at h;split at h
 .rename_i g
  split at h
  .rename_i f
   split at h
   .cases h
   .rename_i a
    split at h
    .rename_i e q0 d r c q b p j
     split at h
     .rename_i o e1 e2 n
      split at h
      .rename_i m l k
       split at h
       .rename_i i
        obtain⟨rfl,rfl,rfl⟩:=i;cases h;have:=acq o;have:=Su e1;have:=acq e2;have:=apO n;have:=apQ m;have:=Su l;have:=Su k
        subst_vars
        exact⟨⟨e,d,c,b,_,_,_,_,_,_,_,_,j,rfl,rfl,rfl,rfl,rfl,⟨_,rfl⟩,rfl,rfl,rfl,rfl,rfl,rfl,rfl,rfl,rfl,rfl,rfl,rfl,rfl,rfl,rfl,rfl,rfl,rfl⟩,g,acq f,by simp_all⟩
       .cases h
      .cases h
     .cases h
    .cases h
  .cases h
 .cases h
def xY (P:Program) (t:TypeId) (x:AV):M AV:=fun h n =>
 match P.underlying t with
 |some (.slice e)=>match P.info? e with
  |some i=>match i.zero,jX h x with
   |some z,some bL=>if z.cells.size=i.size/\0<i.size/\(bL.all fun q=>q.length==i.size)=true/\MM x i.size=true/\bL.length*i.bytes<=140737488355328/\bL.length<=1099511627776/\lN h n=true/\lN h (n+1)=true/\(uC x).contains n=false then
     some ⟨.own e i.size (n+1) 0 bL.length,gE h [(n,.dead),(n+1,.cells e i.size bL)],n+2,n::(n+1)::uC x,[n,n+1]⟩else none
   |_,_=>none
  |none=>none
 |_=>none
def T4 (t:TypeId) (x:AV):Local (xY P t x):=by
 intro h n r b;have f:=b;unfold xY at b;split at b
 .rename_i e m
  split at b
  .rename_i i l
   split at b
   .rename_i z bL j k
    split at b
    .rename_i o
     cases b;refine⟨by simp,fun id a _=>kD (by simp_all),fun id a=>by grind,?_⟩
     intro g c d;have e1:jX g x=jX h x:=Ic fun id a=>c id (by simp[a]);have e2:lN g n=lN h n:=qW (c n (by simp));have p:lN g (n+1)=lN h (n+1):=qW (c (n+1) (by simp));refine⟨⟨.own e i.size (n+1) 0 bL.length,gE g [(n,.dead),(n+1,.cells e i.size bL)],n+2,n::(n+1)::uC x,[n,n+1]⟩,?_,rfl,rfl,rfl,rfl,?_,fun id a _=>kD (by simp_all)⟩
     .simp_all[xY]
     .intro id a
      refine wZ ?_
      grind
    simp_all
   simp_all
  simp_all
 simp_all
end
def xX [Bk] (P:Program) (t:TypeId) (x:AV):M AV:=fun h n =>
 match P.underlying t with
 |some (.slice e)=>match P.info? e with
  |some i=>match i.zero,nC h x with
   |some z,some (a,base,cJ,tail,N)=>if z.cells.size=i.size/\0<i.size/\a=i.size/\Xn N i.bytes=true/\lN h n=true/\lN h (n+1)=true/\(Lj x).contains n=false then
     some ⟨.cZ e i.size (n+1) N,gE h [(n,.dead),(n+1,.sc e i.size base cJ tail N)],n+2,n::(n+1)::Lj x,[n,n+1]⟩else none
   |_,_=>none
  |none=>none
 |_=>none
def tT [Bk] (P:Program) (t:TypeId) (x:AV):M AV:=fun h n =>
 match xY P t x h n with
 |some r=>some r
 |none=>xX P t x h n
theorem IU [Bk] {t:TypeId} {h h':AH} {n n':Nat} {r:Rs AV} (a:xX P t x h n=some r):xY P t x h' n'=none:=by
 have:jX h' x=none:=by
  unfold xX at a;split at a
  .split at a
   .split at a
    .rename_i b
     unfold nC at b;split at b
     .rfl
     .rfl
     simp_all
    simp_all
   simp_all
  simp_all
 grind[xY]
def RM [Bk] [Ev] (t:TypeId) (x:AV):Local (xX P t x):=by
 intro h n r b;have f:=b;unfold xX at b;split at b
 .rename_i e o
  split at b
  .rename_i i m
   split at b
   .rename_i z j base cJ tail N k l
    split at b
    .rename_i p
     cases b;refine⟨by simp,fun id a _=>kD (by simp_all),fun id a=>by grind,?_⟩
     intro g c d;have e1:nC g x=nC h x:=Lr fun id a=>c id (by simp[a]);have e2:lN g n=lN h n:=qW (c n (by simp));have q:lN g (n+1)=lN h (n+1):=qW (c (n+1) (by simp));refine⟨⟨.cZ e i.size (n+1) N,gE g [(n,.dead),(n+1,.sc e i.size base cJ tail N)],n+2,n::(n+1)::Lj x,[n,n+1]⟩,?_,rfl,rfl,rfl,rfl,?_,fun id a _=>kD (by simp_all)⟩
     .simp_all[xX]
     .intro id a
      refine wZ ?_
      grind
    simp_all
   simp_all
  simp_all
 simp_all
def RL [Bk] [Ev] (t:TypeId) (x:AV):Local (tT P t x):=by
 intro h n r c;unfold tT at c;split at c
 .rename_i r' d
  cases c;have L:=T4 t x h n r d;refine⟨L.le,L.frame,L.sub,fun g a b=>?_⟩
  obtain⟨r2,e1,e2⟩:=L.again g a b;simp_all[tT]
 .have L:=RM t x h n r c
  refine⟨L.le,L.frame,L.sub,fun g a b=>?_⟩;obtain⟨r2,e1,e2⟩:=L.again g a b;grind[tT,IU]
def toPs:List AV->Option (List Poly)
 |[]=>some []
 |x::l=>match toP x,toPs l with
  |some p,some q=>some (p::q)
  |_,_=>none
def adN (k:Nat) (ps:List Poly):List (Nat×List Poly×List Poly)->Option (List Poly)
 |[]=>none
 |t::l=>if t.1=k/\t.2.1=ps then some t.2.2 else adN k ps l
def Xo {k:Nat} {ps rs:List Poly}:∀{l:List (Nat×List Poly×List Poly)},adN k ps l=some rs->(k,ps,rs)∈l
 |[],h=>by cases h
 |t::l,h=>by
  unfold adN at h;split at h
  .grind
  .exact a03 _ (Xo h)
def AL (r:AV->Option (AV×List Nat)):List AV->Option (List AV×List Nat)
 |[]=>some ([],[])
 |x::l=>match r x with
  |none=>none
  |some (y,i)=>match AL r l with
   |none=>none
   |some (m,j)=>some (y::m,i++j)
def R4 (r:AV->Option (AV×List Nat)):List (List AV)->Option (List (List AV)×List Nat)
 |[]=>some ([],[])
 |e::l=>match AL r e with
  |none=>none
  |some (y,i)=>match R4 r l with
   |none=>none
   |some (m,j)=>some (y::m,i++j)
def vR (h:AH):Nat->AV->Option (AV×List Nat)
 |0,_=>none
 |k+1,x=>match x with
  | .agg cs=>match AL (vR h k) cs with
   |some (m,i)=>some (.agg m,i)
   |none=>none
  | .bG cs=>match AL (vR h k) cs with
   |some (m,i)=>some (.bG m,i)
   |none=>none
  | .own _ a id i n=>match h id with
   | .cells _ s bL=>if s=a/\i+n<=bL.length then match R4 (vR h k) ((bL.drop i).take n)with
     |some (m,b)=>some (.lit a m,id::b)
     |none=>none
    else none
   |_=>none
  | .c v=>some (.c v,[])
  | .undef=>some (.undef,[])
  | .emp=>some (.emp,[])
  | .lit a bL=>some (.lit a bL,[])
  | .e p=>some (.e p,[])
  | .row n d=>some (.row n d,[])
  | .o i=>some (.o i,[])
  | .any=>some (.any,[])
  | .ptr _ _ _ _=>some (.any,[])
  | .fn (.func q) [] []=>some (.c (.func (.func q) #[] #[]),[])
  | .seq a base cJ tail=>some (.seq a base cJ tail,[])
  | .cZ _ a id n=>match h id with
   | .sc _ s base cJ tail n'=>if s=a/\n'=n then match R4 (vR h k) (cJ.map (·.2)),R4 (vR h k) tail with
     |some (u,b),some (m,f)=>some (.seq a base ((cJ.map (·.1)).zip u) m,id::(b++f))
     |_,_=>none
    else none
   |_=>none
  |_=>none
def oR {r:AV->Option (AV×List Nat)}:∀{cs m:List AV} {a:List Nat},AL r cs=some (m,a)->m.length=cs.length/\∀(i:Nat) (y:AV),m[i]?=some y->∃x is,cs[i]?=some x/\r x=some (y,is)/\∀id∈is,id∈a
 |[],m,a,h=>by cases h;simp_all
 |x::l,m,a,h=>by
  unfold AL at h;split at h
  .cases h
  .rename_i y i d
   split at h
   .cases h
   .rename_i c j b
    cases h;obtain⟨f,e⟩:=oR b;grind
def EJ {r:AV->Option (AV×List Nat)}:∀{cs m:List (List AV)} {a:List Nat},R4 r cs=some (m,a)->m.length=cs.length/\∀(i:Nat) (y:List AV),m[i]?=some y->∃x is,cs[i]?=some x/\AL r x=some (y,is)/\∀id∈is,id∈a
 |[],m,a,h=>by cases h;simp_all
 |x::l,m,a,h=>by
  unfold R4 at h;split at h
  .cases h
  .rename_i y i d
   split at h
   .cases h
   .rename_i c j b
    cases h;obtain⟨f,e⟩:=EJ b;grind
theorem Na {r r':AV->Option (AV×List Nat)}:∀{cs m:List AV} {a:List Nat},AL r cs=some (m,a)->(∀x y is,r x=some (y,is)->(∀id∈is,id∈a)->r' x=some (y,is))->AL r' cs=some (m,a)
 |[],m,a,h,_=>by cases h;rfl
 |x::l,m,a,h,d=>by
  unfold AL at h |-;split at h
  .cases h
  .rename_i y i c
   split at h
   .cases h
   .rename_i f j e
    cases h;rw[d x y i c fun id b=>a4f _ b,Na e fun x y is c hs=>d x y is c fun id b=>a4g _ (hs id b)]
theorem R3 {r r':AV->Option (AV×List Nat)}:∀{cs m:List (List AV)} {a:List Nat},R4 r cs=some (m,a)->(∀x y is,r x=some (y,is)->(∀id∈is,id∈a)->r' x=some (y,is))->R4 r' cs=some (m,a)
 |[],m,a,h,_=>by cases h;rfl
 |x::l,m,a,h,d=>by
  unfold R4 at h |-;split at h
  .cases h
  .rename_i y i b
   split at h
   .cases h
   .rename_i f j e
    cases h;rw[Na b fun x y is b hs=>d x y is b fun id c=>a4f _ (hs id c),R3 e fun x y is b hs=>d x y is b fun id c=>a4g _ (hs id c)]
def amT {h h':AH}:∀{k:Nat} {x y:AV} {e:List Nat},vR h k x=some (y,e)->(∀id∈e,h' id=h id)->vR h' k x=some (y,e)
 |0,x,y,e,c,_=>by cases c
 |k+1,x,y,e,c,l=>by
  have j:∀x y is,vR h k x=some (y,is)->(∀id∈is,id∈e)->vR h' k x=some (y,is):=fun x y is g hs=>amT g fun id d=>l id (hs id d);cases x with
  |agg cs =>
   grind[vR,Na]
  |bG cs =>
   grind[vR,Na]
  |own T o id i n =>
   simp only[vR]at c |-;split at c<;>grind[R3]
  |cZ T o id n =>
   simp only[vR]at c |-;split at c
   .rename_i w s base cJ tail n' r
    split at c
    .rename_i t
     split at c
     .rename_i u is m v p q
      cases c;rw[l id a1d,r];simp only;rw[if_pos t,R3 p fun x y is g hs=>j x y is g fun id d=>a03 _ (a4f _ (hs id d)),R3 q fun x y is g hs=>j x y is g fun id d=>a03 _ (a4g _ (hs id d))]
     simp_all
    simp_all
   simp_all
  |ptr=>exact c
  |iZ=>cases c
  |fn f a b=>cases f<;>cases a<;>cases b<;>first|exact c|cases c
  |rG=>cases c
  |_=>exact c
def R0 {h:AH} {k:Nat} {y:AV} {g:List Nat} (d:vR h k x=some (y,g)) (h1:x.one=true):y.one=true:=by
 cases k with
 |zero=>cases d
 |succ k =>
  cases x with
  |agg cs=>simp_all[AV.one]
  |bG cs=>simp_all[AV.one]
  |own T e id i n =>
   simp only[vR]at d;split at d
   .split at d
    .split at d
     .cases d;rfl
     simp_all
    simp_all
   simp_all
  |c v=>cases d;exact h1
  |undef=>simp_all[AV.one]
  |ptr=>cases d;rfl
  |iZ=>cases d
  |fn f a b=>cases f<;>cases a<;>cases b<;>first|(cases d;rfl)|cases d
  |rG=>cases d
  |yld=>cases d
  |mpv=>cases d
  |view=>cases d
  |vD=>cases d
  |cZ T e id n =>
   simp only[vR]at d;split at d
   .split at d
    .split at d
     .cases d;rfl
     simp_all
    simp_all
   simp_all
  |nP=>cases d
  |pT=>cases d
  |_=>cases d;rfl
def Xm [Bk] [Ev] {R:List AV->List AV->Prop}:∀(cJ:List (Poly×List AV)) (u:List (List AV)) (l l':List (List AV)),u.length=cJ.length->(∀(i:Nat) (q:Poly×List AV) (e:List AV),cJ[i]?=some q->u[i]?=some e->R q.2 e)->l'.length=l.length->(∀(i:Nat) (e':List AV),l'[i]?=some e'->∃e,l[i]?=some e/\R e e') ->
  ∀(i:Nat) (e':List AV),(((cJ.map (·.1)).zip u).foldl (fun l q=>l.set (cQ Ev.eZ q.1).toNat q.2) l')[i]?=some e'->∃e,(cJ.foldl (fun l q=>l.set (cQ Ev.eZ q.1).toNat q.2) l)[i]?=some e/\R e e'
 |[],u,l,l',_,_,_,d,i,e',h=>by
  simp_all
 |q::cJ,[],l,l',c,_,_,_,i,e',h=>by simp at c
 |q::cJ,g::u,l,l',c,b,f,d,i,e',h=>by
  simp only[a01,a3a,a25]at h |-;refine Xm cJ u _ _ (by simp_all) (fun i q e j n=>b (i+1) q e (by simp_all) (by simp_all)) (by simp[f]) ?_ i e' h;intro i e1 a;rw[a0r]at a;split at a
  .rename_i m
   split at a
   .rename_i k
    cases a;refine⟨q.2,?_,b 0 q g rfl rfl⟩
    simp_all
   simp_all
  simp_all
def oC (m:Nat->St) (K:List Nat):Nat->St:=fun id=>if id∈K then .dead else m id
def wH {K:List Nat} {id b:Nat} (h:oC m K id=.at b):id ∉ K/\m id=.at b:=by
 grind[oC]
def apb {K:List Nat} {b:Nat} (h:Av (oC m K) A b):Av m A b:=by
 rcases h with h|⟨id,h⟩
 .exact .inl h
 .exact .inr ⟨id,(wH h).2⟩
def F7 [Bk] [Ev] {m:Nat->St} {A:Nat->Prop} {h:AH} {w:World} (H:dV m A h w) (K:List Nat):∀{k:Nat} {x y:AV} {Q:List Nat} {v:Value},vR h k x=some (y,Q)->(∀id∈Q,id∈K)->Rd m A w x v->eE (Av (oC m K) A) w y v
 |0,x,y,Q,v,d,_,_=>by cases d
 |k+1,x,y,Q,v,d,hK,z=>by
  have ih:∀{x y:AV} {is:List Nat} {v:Value},vR h k x=some (y,is)->(∀id∈is,id∈Q)->Rd m A w x v->eE (Av (oC m K) A) w y v:=fun S hs hv=>F7 H K S (fun id ad=>hK id (hs id ad)) hv;have base:∀{x:AV} {v:Value},eE (Av m A) w x v->eE (Av (oC m K) A) w x v:=fun S=>S.mono (a0h _) fun b _ hb=>⟨fun h=>hb (apb h),rfl⟩;cases x with
  |agg cs =>
   simp only[vR]at d;split at d
   .rename_i D i M
    cases d;obtain⟨h1,h2⟩:=oR M;obtain⟨vs,rfl,hl,hc⟩:=z.qA;refine .agg _ vs (by omega) ?_ ?_
    .intro i y t
     obtain⟨x,is,g1,g2,g3⟩:=h2 i y t;exact R0 g2 (hc i x g1).1
    grind
   simp_all
  |bG cs =>
   simp only[vR]at d;split at d
   .rename_i D i M
    cases d;obtain⟨h1,h2⟩:=oR M;obtain⟨vs,rfl,hl,hc⟩:=z.acJ;refine .bG _ vs (by omega) ?_
    grind
   simp_all
  |own T sz id i n =>
   simp only[vR]at d;split at d
   .rename_i T' s bL he
    split at d
    .rename_i aa
     obtain⟨rfl,af⟩:=aa;split at d
     .rename_i D ks M
      cases d;obtain⟨h1,h2⟩:=EJ M;have V:((bL.drop i).take n).length=n:=by grind
      rw[V]at h1;rcases H.cells id _ _ _ he with⟨hv,rfl⟩|⟨b,cs,g1,g2,g3,g4,g5⟩
      .have hn:n=0:=by simp_all
       subst hn;have e:D=[]:=a14.1 h1;subst e;cases z with
       |pure _ _ h=>cases h
       |own _ _ _ _ _ b _ M=>simp_all
       |vJ _ _ _ _ a M=>exact .nR _ a 0 (a0j _)
       |wC _ _ _ _ _ _ _ _ M=>simp_all
      .obtain⟨cap,rfl,Z,Y,-⟩:=z.vO g1
       have L:∀(g r:Nat) (y:AV),iE D g r=some y->∃x is,iE bL (i+g) r=some x/\vR h k x=some (y,is)/\(∀id∈is,id∈ks)/\g<n:=by
        intro g r y t;unfold iE at t;cases N:D[g]? with
        |none=>simp_all
        |some B =>
         rw[N]at t;simp only[a1f]at t;obtain⟨e,is,G,E,F⟩:=h2 g B N;obtain⟨-,l2⟩:=oR E;grind[iE]
       rw[<-h1];refine .lit s D b (i*s) cap (fun g r=>cs.getD ((i+g)*s+r) Go.undef) ?_ (H.lt g1) ⟨by omega,Y⟩ ?_ ?_ ?_ ?_
       .rintro(h|⟨I,h⟩)
        .exact H.out id b g1 h
        .obtain⟨h3,h4⟩:=wH h
         have:=H.inj id I b g1 h4
         simp_all
       .intro B J
        obtain⟨g,X⟩:=a1j.1 J;obtain⟨e,is,G,E,F⟩:=h2 g B X;obtain⟨l1,-⟩:=oR E;grind
       .intro g r y t
        obtain⟨x,is,G,E,F,-⟩:=L g r y t;exact R0 E (g5 _ _ _ G).1
       .intro g r y t
        obtain⟨x,is,G,E,F,-⟩:=L g r y t;have ab:=(kJ G g4).2.2;have e:i*s+(g*s+r)=(i+g)*s+r:=(by grind);rw[e];have U:(i+g)*s+r<cs.size:=by omega
        simp_all[World.cell?]
       grind
     simp_all
    simp_all
   simp_all
  |ptr=>cases d;cases z with
   |pure _ _ h=>cases h
   |_=>exact .any _ rfl
  |iZ=>cases d
  |fn f a b =>
   have:∃q,f=.func q/\a=[]/\b=[]/\y=.c (.func (.func q) #[] #[]):=by
    cases f<;>cases a<;>cases b<;>first|(cases d;exact⟨_,rfl,rfl,rfl,rfl⟩)|cases d
   obtain⟨q,rfl,rfl,rfl,rfl⟩:=this;obtain rfl:v=.func (.func q) #[] #[]:=by
    cases z with
    |pure _ _ h=>cases h<;>simp_all
    |fn _ _ _ vs us hl hk=>simp_all
   exact .c _
  |rG=>cases d
  |c v=>cases d;cases z<;>simp_all
  |undef=>cases d;cases z<;>simp_all
  |emp=>cases d;cases z<;>simp_all
  |lit sz bL=>cases d;cases z<;>simp_all
  |e p=>cases d;cases z<;>simp_all
  |row n xs=>cases d;cases z<;>simp_all
  |o i=>cases d;cases z<;>simp_all
  |yld id=>cases d
  |mpv id=>cases d
  |view=>cases d
  |any=>cases d;cases z<;>simp_all
  |seq=>cases d;cases z<;>simp_all
  |vD=>cases d
  |cZ T sz id n =>
   simp only[vR]at d;split at d
   .rename_i T' s bs cJ tail n' he
    split at d
    .rename_i hc
     obtain⟨rfl,rfl⟩:=hc;split at d
     .rename_i u is D ks hu M
      cases d;obtain⟨u1,u2⟩:=EJ hu;obtain⟨m1,m2⟩:=EJ M;simp only[a0z]at u1;obtain⟨hn,ag⟩:=H.IE he;have W:∀q∈(cJ.map (·.1)).zip u,InB bs q.1:=by
       intro q hq;obtain⟨q',ae,e1⟩:=a0l.1 (List.of_mem_zip hq).1
       grind
      have V:(rowsOf bs ((cJ.map (·.1)).zip u) D).length=(rowsOf bs cJ tail).length:=(by simp_all[kM]);let R:List AV->List AV->Prop:=fun e B=>(∃C,AL (vR h k) e=some (B,C)/\∀I∈C,I∈is++ks)\/(B=e/\∀x∈e,Cl x)
      have P:∀(i:Nat) (B:List AV),(rowsOf bs ((cJ.map (·.1)).zip u) D)[i]?=some B->∃e,(rowsOf bs cJ tail)[i]?=some e/\R e B:=by
       intro i B J;have ah:∀O:List (Poly×List AV),(O.foldl (fun l q=>l.set (cQ Ev.eZ q.1).toNat q.2) (Ev.seq bs)).length=(Ev.seq bs).length:=by
        intro O;have:=kM bs O []
        simp_all[rowsOf]
       unfold rowsOf at J |-;rcases a0u i (Ev.seq bs).length with hi|hi
       .rw[a18 (by simp_all)]at J |-
        refine Xm (R:=R) cJ u (Ev.seq bs) (Ev.seq bs) u1 ?_ rfl ?_ i B J
        .grind
        .intro j e hj
         exact⟨e,hj,.inr ⟨rfl,Ev.vF bs e (a0a hj)⟩⟩
       grind
      rcases H.wQ id T' s (rowsOf bs cJ tail) (by rw[he];rfl)with⟨hv,e0⟩|⟨b,cs,g1,g2,g3,g4,g5⟩
      .obtain⟨a,rfl,-⟩:=z.vS hv
       refine .seq _ _ _ _ _ W rfl ?_;have:rowsOf bs ((cJ.map (·.1)).zip u) D=[]:=a14.1 (by simp_all);rw[this];exact .nR _ a 0 (a0j _)
      .obtain⟨len,cap,e,rfl,Z,Y,-⟩:=z.EX g1
       refine .seq _ _ _ _ _ W rfl ?_;have ac:len=(rowsOf bs ((cJ.map (·.1)).zip u) D).length:=(by omega)
       subst ac;have L:∀(g r:Nat) (y:AV),iE (rowsOf bs ((cJ.map (·.1)).zip u) D) g r=some y->∃x,iE (rowsOf bs cJ tail) g r=some x/\((∃C,vR h k x=some (y,C)/\∀I∈C,I∈is++ks)\/(y=x/\Cl x)):=by
        intro g r y t;unfold iE at t;cases N:(rowsOf bs ((cJ.map (·.1)).zip u) D)[g]? with
        |none=>simp_all
        |some B =>
         rw[N]at t;simp only[a1f]at t;obtain⟨e,G,⟨C,E,F⟩|⟨rfl,F⟩⟩:=P g B N
         .obtain⟨-,l2⟩:=oR E
          grind[iE]
         grind[iE]
       have ai:∀(g r:Nat) (x:AV),iE (rowsOf bs cJ tail) g r=some x->w.cell? ⟨b,0+(g*s+r),none⟩=some (cs.getD (g*s+r) Go.undef):=by
        intro g r x S;have ab:=(kJ S g4).2.2;rw[a00];have U:g*s+r<cs.size:=by omega
        simp[World.cell?,g2,U]
       refine .lit s _ b 0 cap (fun g r=>cs.getD (g*s+r) Go.undef) ?_ (H.lt g1) ⟨Z,Y⟩ ?_ ?_ ?_ ?_
       .rintro(h|⟨I,h⟩)
        .exact H.out id b g1 h
        .obtain⟨h3,h4⟩:=wH h
         have:=H.inj id I b g1 h4
         simp_all
       .intro B J
        obtain⟨g,X⟩:=a1j.1 J;obtain⟨e,G,⟨C,E,F⟩|⟨rfl,F⟩⟩:=P g B X
        .obtain⟨l1,-⟩:=oR E
         grind
        grind
       .intro g r y t
        obtain⟨x,G,⟨C,E,F⟩|⟨rfl,F⟩⟩:=L g r y t
        .exact R0 E (g5 _ _ _ G).1
        grind
       .grind
       .intro g r y t
        obtain⟨x,G,⟨C,E,F⟩|⟨rfl,F⟩⟩:=L g r y t
        .grind
        .exact base ((g5 _ _ _ G).2.cl F)
     simp_all
    simp_all
   simp_all
  |nP=>cases d
  |pT=>cases d
theorem sE (h:AH):∀(K:List Nat) (id:Nat),gE h (K.map fun id=>(id,dC.dead)) id=if id∈K then .dead else h id
 |[],id=>by simp[gE]
 |i::l,id=>by
  have:=sE (gO h i .dead) l id;simp only[a01,gE];grind[gO]
def dV.T6 [Bk] [Ev] {m:Nat->St} {A:Nat->Prop} {h:AH} {w:World} (H:dV m A h w) (K:List Nat) :
  dV (oC m K) A (gE h (K.map fun id=>(id,dC.dead))) w/\Ext m w (oC m K) w:=by
 have E:Ext m w (oC m K) w:=by
  refine⟨rfl,rfl,rfl,a0h _,?_,?_,?_,?_,fun _ _ _ _=>rfl⟩<;>grind[oC]
 refine⟨⟨fun id b o=>H.out id b (wH o).2,H.old,?_,?_,?_,fun i j b n l=>H.inj i j b (wH n).2 (wH l).2,H.mS.ext H.out E,H.nZ E fun id B a q=>?_,fun id=>?_⟩,E⟩
 .intro id a
  rw[sE]at a;split at a
  .cases a
  .rename_i c;unfold oC;rw[if_neg c];exact H.no id a
 .intro id a
  rw[sE]at a;split at a
  .simp_all[oC]
  .rename_i c;unfold oC;rw[if_neg c];exact H.dead id a
 .intro id T k bL a
  rw[sE]at a;split at a
  .simp_all[dC.bL]
  .rename_i c
   have e:oC m K id=m id:=(by simp_all[oC]);rw[e];obtain g|⟨b,cs,g1,g2,g3,p,f⟩:=H.wQ id T k bL a
   .simp_all
   .exact .inr ⟨b,cs,g1,g2,g3,p,fun i j x d=>⟨(f i j x d).1,(f i j x d).2.ext E⟩⟩
 .grind[sE,dC.other,oC]
 .rw[sE]
  split
  .trivial
  .exact H.scs id
def vEq:Value->Value->Bool
 | .int k a,.int k' b=>decide (k=k')&&decide (a=b)
 | .bool a,.bool b=>a==b
 | .string a,.string b=>decide (a.data.toList=b.data.toList)
 | .pointer none,.pointer none=>true
 | .nilIface,.nilIface=>true
 | .func (.func k) x y,.func (.func k') d c=>decide (k=k')&&(decide (x.size=0)&&decide (y.size=0))&&(decide (d.size=0)&&decide (c.size=0))
 |_,_=>false
theorem aaz {a b:Value} (h:vEq a b=true):a=b:=by
 unfold vEq at h;split at h
 .simp_all
 .simp_all
 .rw[decide_eq_true_eq]at h;have:=Array.ext' h;grind[ByteArray.ext]
 .rfl
 .rfl
 .simp_all
 .cases h
def LL (r:AV->AV->Bool):List AV->List AV->Bool
 |[],[]=>true
 |x::l,y::m=>r x y&&LL r l m
 |_,_=>false
def Ia (r:AV->AV->Bool):List (List AV)->List (List AV)->Bool
 |[],[]=>true
 |x::l,y::m=>LL r x y&&Ia r l m
 |_,_=>false
def AN:Nat->AV->AV->Bool
 |0,_,_=>false
 |k+1,x,y=>match x,y with
  | .c v,.c u=>vEq v u
  | .undef,.undef=>true
  | .emp,.emp=>true
  | .agg a,.agg b=>LL (AN k) a b
  | .bG a,.bG b=>LL (AN k) a b
  | .lit s a,.lit d b=>decide (s=d)&&Ia (AN k) a b
  | .e p,.e q=>decide (p=q)
  | .row n a,.row n' b=>decide (n=n')&&decide (a=b)
  | .o i,.o j=>decide (i=j)
  | .any,.any=>true
  | .seq s b u t,.seq d h f g=>decide (s=d)&&(decide (b=h)&&(decide (u.map (·.1)=f.map (·.1))&&(Ia (AN k) (u.map (·.2)) (f.map (·.2))&&Ia (AN k) t g)))
  |_,_=>false
theorem Ng {r:AV->AV->Bool} (c:∀x y,r x y=true->x=y):∀{a b:List AV},LL r a b=true->a=b
 |[],[],_=>rfl
 |[],_::_,h=>by cases h
 |_::_,[],h=>by cases h
 |x::l,y::m,h=>by
  unfold LL at h;rw[a0e]at h;rw[c x y h.1,Ng c h.2]
theorem LK {r:AV->AV->Bool} (c:∀x y,r x y=true->x=y):∀{a b:List (List AV)},Ia r a b=true->a=b
 |[],[],_=>rfl
 |[],_::_,h=>by cases h
 |_::_,[],h=>by cases h
 |x::l,y::m,h=>by
  unfold Ia at h;rw[a0e]at h;rw[Ng c h.1,LK c h.2]
theorem yA:∀{k:Nat} {x y:AV},AN k x y=true->x=y
 |0,x,y,h=>by cases h
 |k+1,x,y,h=>by
  have a:∀x y,AN k x y=true->x=y:=fun x y=>yA;unfold AN at h;split at h
  .rw[aaz h]
  .rfl
  .rfl
  .grind[Ng]
  .grind[Ng]
  .grind[LK]
  .simp_all
  .simp_all
  .simp_all
  .rfl
  .rename_i s b u t i m f g
   simp only[a0e,decide_eq_true_eq]at h;obtain⟨rfl,rfl,j,d,c⟩:=h;have d:=LK a d;have c:=LK a c;have e:∀l:List (Poly×List AV),l=(l.map (·.1)).zip (l.map (·.2)):=by
    intro l;induction l<;>grind
   grind
  .cases h
def afw:Nat->AV->List Poly
 |0,_=>[]
 |k+1,x=>match x with
  | .e p=>[p]
  | .agg l=>l.flatMap (afw k)
  | .lit _ l=>l.flatMap fun e=>e.flatMap (afw k)
  | .seq _ b u _=>yZ b::u.map (·.1)
  |_=>[]
def Xp (k:Nat) (as:List AV):List (Nat×List AV×AV)->Option AV
 |[]=>none
 |t::l=>bif Nat.beq t.1 k&&(decide (t.2.1.map (afw 16)=as.map (afw 16))&&LL (AN 16) t.2.1 as)then some t.2.2 else Xp k as l
def Nc {k:Nat} {as:List AV} {r:AV}:∀{l:List (Nat×List AV×AV)},Xp k as l=some r->(k,as,r)∈l
 |[],h=>by cases h
 |t::l,h=>by
  unfold Xp at h;cases a:(Nat.beq t.1 k&&(decide (t.2.1.map (afw 16)=as.map (afw 16))&&LL (AN 16) t.2.1 as))with
  |true =>
   rw[a]at h;cases h;rw[a0e,a0e]at a;have e1:t.1=k:=Nat.eq_of_beq_eq_true a.1;have e2:=Ng (fun x y=>yA) a.2.2
   grind
  |false =>
   rw[a]at h;exact a03 _ (Nc h)
def knB [Bk] (P:Program) (k:FuncId):Bool :=
 Bk.bR.any (fun t => Nat.beq t.1 k) && (match P.funcs[k]? with | some fn => (match fn.body with | some _ => !(fn.name == "runtime.NumGoroutine") | none => false) | none => false)
def ID:Nat->AV->Bool
 |0,_=>false
 |k+1,x=>match x with
  | .c _ | .undef | .e _ | .o _ | .any=>true
  | .agg l=>l.all (ID k)
  | .bG l=>l.all (ID k)
  |_=>false
section
variable [Bk] [Ev]
def eE.anr {g:Nat->Prop} {w w':World}:∀{k:Nat} {x:AV} {v:Value},ID k x=true->eE A w x v->eE g w' x v
 |0,x,v,h,_=>by cases h
 |k+1,x,v,h,b=>by
  cases b with
  |c v=>exact .c v
  |undef=>exact .undef
  |e p=>exact .e p
  |o i=>exact .o i
  |any v f=>exact .any v f
  |agg cs vs d f b=>exact .agg cs vs d f fun i x a=>eE.anr (a0i.1 h x (a0a a)) (b i x a)
  |bG cs vs d b=>exact .bG cs vs d fun i x a=>eE.anr (a0i.1 h x (a0a a)) (b i x a)
  |_=>cases h
def knM [Bk] (k:FuncId) (args:List AV):M AV:=fun h n =>
 match AL (vR h 16) args with
 |some (as,ids)=>match Xp k as Bk.bR with
  |some r=>bif ID 8 r then some ⟨r,h,n,ids,[]⟩else some ⟨r,gE h (ids.map fun id=>(id,dC.dead)),n,ids,ids⟩
  |none=>none
 |none=>none
def ahZ (k:FuncId) (args:List AV):Local (knM k args):=by
 intro h n r b;unfold knM at b;split at b
 .rename_i as ids e
  split at b
  .rename_i v j
   have i:∀g:AH,(∀id∈ids,g id=h id)->AL (vR g 16) args=some (as,ids):=fun g c=>Na e fun x y is d hs=>amT d fun id a=>c id (hs id a);cases hs:ID 8 v with
   |true =>
    rw[hs]at b;cases b;refine⟨a0h _,fun id a _=>rfl,fun _ a=>absurd a a0b,?_⟩
    simp_all[knM]
   |false =>
   rw[hs]at b;cases b;refine⟨a0h _,fun id a _=>kD (by simp_all),fun _ a=>a,?_⟩
   intro g c f;refine⟨⟨v,gE g (ids.map fun id=>(id,dC.dead)),n,ids,ids⟩,?_,rfl,rfl,rfl,rfl,?_,fun id a _=>kD (by simp_all)⟩
   .simp_all[knM]
   .intro id a
    rcases a with a|a
    .exact wZ (by simp_all)
    grind
  simp_all
 simp_all
def NR [Bk] [Ev] (P:Program) (k:FuncId) (as:List AV) (r:AV):Prop :=
 ∀(A:Nat->Prop) (w:World) (vs:Array Value),(∀b,A b->b<w.heap.size)->GOk A w->vs.size=as.length->(∀(i:Nat) (x:AV),as[i]?=some x->eE A w x (vs.getD i Go.undef)) ->
  Calls P k vs w fun e w'=>∃v,e=.returned v/\eE A w' r v/\Below w.heap.size w w'
def ah8 {P:Program} {args as:List AV} {ids:List Nat} {r:AV} {h:AH} (n:AL (vR h 16) args=some (as,ids)) (l:NR P k as r):jA P k args h (fun v h'=>v=r/\h'=gE h (ids.map fun id=>(id,dC.dead))):=by
 intro m A w vs H q g;obtain⟨c,p⟩:=H.T6 ids;obtain⟨s,o⟩:=oR n;refine(l (Av (oC m ids) A) w vs ?_ (fun t d=>⟨.inl (H.mS t d).1,(H.mS t d).2⟩) (by omega) ?_).mono ?_
 .rintro b (a|⟨id,a⟩)
  .exact H.old b a
  .exact c.lt a
 .intro i y f
  obtain⟨x,is,g1,g2,g3⟩:=o i y f;exact F7 H ids g2 g3 (g i x g1)
 .rintro e w' ⟨v,rfl,j,a⟩
  exact⟨v,r,oC m ids,_,rfl,⟨rfl,rfl⟩,c.below a,.pure _ _ j,p.trans (Ext.Ew c a)⟩
def ae0 {P:Program} {args as:List AV} {ids:List Nat} {r:AV} {h:AH} (l:AL (vR h 16) args=some (as,ids)) (hs:ID 8 r=true) (j:NR P k as r):jA P k args h (fun v h'=>v=r/\h'=h):=by
 intro m A w vs H p f;obtain⟨o,s⟩:=H.T6 ids;obtain⟨q,n⟩:=oR l;refine(j (Av (oC m ids) A) w vs ?_ (fun t c=>⟨.inl (H.mS t c).1,(H.mS t c).2⟩) (by omega) ?_).mono ?_
 .rintro b (a|⟨id,a⟩)
  .exact H.old b a
  .exact o.lt a
 .intro i y d
  obtain⟨x,is,g1,g2,g3⟩:=n i y d;exact F7 H ids g2 g3 (f i x g1)
 .rintro e w' ⟨v,rfl,g,a⟩
  exact⟨v,r,m,_,rfl,⟨rfl,rfl⟩,H.below a,.pure _ _ (eE.anr hs g),Ext.Ew H a⟩
def ajv [Bk] (P:Program) (k:FuncId) (args:List AV):Bool :=
 Bk.yes.contains k && (args.isEmpty && (match P.funcs[k]? with | some fn => (match fn.body with | some _ => !(fn.name == "runtime.NumGoroutine") | none => false) | none => false))
def Xr [Bk] (P:Program) (k:FuncId) (args:List AV):Option AV :=
 if ajv P k args=true then some (.c (.bool true))else match Bk.ext with
 |[]=>none
 |l=>match P.funcs[k]? with
  |some fn=>match fn.body with
   | some _ => if fn.name == "runtime.NumGoroutine" then none else match toPs args with
    |some ps=>match adN k ps l with
     |some rs=>some (CW (rs.map CM))
     |none=>none
    |none=>none
   |none=>none
  |none=>none
def lL [Bk] [Ev] (P:Program):Prop:=(∀k ps rs,(k,ps,rs)∈Bk.ext->∀args h,toPs args=some ps->jA P k args h (fun v h'=>v=CW (rs.map CM)/\h'=h)) /\
 (∀k,k∈Bk.yes->∀h,jA P k [] h (fun v h'=>v=.c (.bool true)/\h'=h))/\∀k as r,(k,as,r)∈Bk.bR->NR P k as r
def aju (i:lL P) {args:List AV} (a:ajv P k args=true) (h:AH) :
  ∃ fn c, P.funcs[k]? = some fn /\ fn.body = some c /\ (fn.name == "runtime.NumGoroutine") = false /\ jA P k args h (fun d h' => d = .c (.bool true) /\ h' = h) := by
 unfold ajv at a;rw[a0e,a0e]at a;obtain⟨l,j,b⟩:=a;split at b
 .rename_i fn e
  split at b
  .rename_i c f
   have g:args=[]:=(by simp_all);subst g;exact⟨fn,c,e,f,by simp_all,i.2.1 k (by simp_all) h⟩
  simp_all
 simp_all
def akC (d:lL P) {args:List AV} {v:AV} (a:Xr P k args=some v) (h:AH) :
  ∃ fn c, P.funcs[k]? = some fn /\ fn.body = some c /\ (fn.name == "runtime.NumGoroutine") = false /\ jA P k args h (fun e h' => e = v /\ h' = h) := by
 unfold Xr at a;by_cases b:ajv P k args=true
 .rw[if_pos b]at a
  cases a;exact aju d b h
 rw[if_neg b]at a;split at a
 .cases a
 .split at a
  .rename_i fn i
   split at a
   .rename_i c j
    split at a
    .cases a
    .rename_i l
     split at a
     .rename_i ps g
      split at a
      .rename_i rs f
       cases a;exact⟨fn,c,i,j,by simp_all,d.1 k ps rs (Xo f) args h g⟩
      simp_all
     simp_all
   simp_all
  simp_all
def CI [Bk] (P:Program) (L:Nat) (call:Fn->List AV->M AV) (k:FuncId) (args:List AV):M AV :=
 match P.funcs[k]? with
  |none=>mX
  |some fn=>match rQ fn,args with
   |some t,[x]=>tT P t x
   |_,_=>match fn.body with
    |none=>mX
    | some c => if fn.name == "runtime.NumGoroutine" then mX else
     Ey (oP (gP P call true L c (args++List.replicate (fn.ntmps-args.length) .undef)) fun q=>match q.1 with
      | .exit _=>mX
      |_=>N5 P fn q.2)
def yD [Bk] (P:Program) (L:Nat):Nat->Fn->List AV->M AV
 |0,_,_=>mX
 |d+1,.func k,args=>match Xr P k args with
  |some v=>mpure v
  |none=>if knB P k=true then knM k args else CI P L (yD P L d) k args
 |_+1,_,_=>mX
def Ow (L : Nat) {call : Fn -> List AV -> M AV} (K : pX P call) : (∀ k args, Local (CI P L call k args)) /\ ∀ k args h n r, CI P L call k args h n = some r -> ∃ fn c, P.funcs[k]? = some fn /\ fn.body = some c /\ (fn.name == "runtime.NumGoroutine") = false /\ jA P k args h (fun v h' => v = r.a /\ h' = r.h) := by
  refine⟨?_,?_⟩
  .intro k args
   simp only[CI];split
   .exact gK
   .split
    .exact RL _ _
    .split
     .exact gK
     .split
      .exact gK
      .refine abM (kN (mK K _ _ _) fun q=>?_)
       split
       .exact gK
       .exact aeW _ _
  .intro k args h n r b
   simp only[CI]at b;cases m:P.funcs[k]? with
   |none=>simp only[m]at b;cases b
   |some fn =>
    simp only[m]at b;have plain:(match fn.body with
     |none=>mX
     | some c => if fn.name == "runtime.NumGoroutine" then mX else
      Ey (oP (gP P call true L c (args++List.replicate (fn.ntmps-args.length) .undef)) fun q=>match q.1 with
       | .exit _=>mX
       | _ => N5 P fn q.2) : M AV) h n = some r -> ∃ fn c, P.funcs[k]? = some fn /\ fn.body = some c /\ (fn.name == "runtime.NumGoroutine") = false /\ jA P k args h (fun v h' => v = r.a /\ h' = r.h) := by
     intro b;cases w:fn.body with
     |none=>simp only[w]at b;cases b
     |some c =>
      simp only[w]at b;by_cases Q : (fn.name == "runtime.NumGoroutine") = true
      .rw[if_pos Q]at b;cases b
      .rw[if_neg Q]at b
       refine⟨fn,c,m,w,by simp_all,?_⟩;unfold Ey at b;split at b
       .cases b
       .rename_i t S
        cases b;obtain⟨r1,s,V,o,e1,e2,e3⟩:=nH S;refine jA.fP m w (qQ K L c _ _ h n r1 V ?_)
        have fin:∀q,N5 P fn r1.a.2 r1.h r1.n=some q->q.a=t.a->q.h=t.h->∃x,fJ P fn r1.a.2 r1.h=some x/\(x=t.a/\r1.h=t.h):=by
         grind[N5]
        cases g:r1.a.1 with
        |exit id=>simp only[g]at o;cases o
        |normal=>simp only[g]at o;exact fin s o e1.symm e2.symm
        |ret=>simp only[g]at o;exact fin s o e1.symm e2.symm
    have R : ∀ t x, rQ fn = some t -> args = [x] -> tT P t x h n = some r -> ∃ fn c, P.funcs[k]? = some fn /\ fn.body = some c /\ (fn.name == "runtime.NumGoroutine") = false /\ jA P k args h (fun v h' => v = r.a /\ h' = r.h) := by
     intro t x B U d;clear b plain;subst U;have p:=abQ B;obtain⟨i0,i1,i2,i3,o0,o1,o2,o3,o4,o5,o6,o7,u,-⟩:=p.body;refine⟨fn,_,m,u,p.name,?_⟩;unfold tT at d;split at d
     .rename_i r' f
      cases d;unfold xY at f;split at f
      .rename_i e E
       split at f
       .rename_i i D
        split at f
        .rename_i z bL C g
         split at f
         .rename_i F
          cases f;obtain⟨J,I,c3,A,Y,X,H,G,W⟩:=F;refine aiS m p E D C J I g (fun q d=>by simp_all) ?_ Y X (lS H) (lS G) (by simp_all);intro T s id j n' O;rw[O]at A;simpa[MM]using A
         simp_all
        simp_all
       simp_all
      simp_all
     unfold xX at d;split at d
     .rename_i e E
      split at d
      .rename_i i D
       split at d
       .rename_i z sz base cJ tail N C g
        split at d
        .rename_i F
         cases d;obtain⟨J,I,rfl,A,H,G,W⟩:=F;exact ab0 m p E D C J I g A (lS H) (lS G) (by simp_all)
        simp_all
       simp_all
      simp_all
     simp_all
    cases B:rQ fn with
    |none=>simp_all
    |some t =>
     cases args with
     |nil=>simp_all
     |cons x l =>
      cases l with
      |nil =>
       have Z:tT P t x h n=some r:=by
        simp only[B]at b;exact b
       grind
      |cons y l=>simp_all
def anL (g:lL P) {args:List AV} {h:AH} {n:Nat} {r:Rs AV} (e:knB P k=true) (b:knM k args h n=some r) :
  ∃ fn c, P.funcs[k]? = some fn /\ fn.body = some c /\ (fn.name == "runtime.NumGoroutine") = false /\ jA P k args h (fun v h' => v = r.a /\ h' = r.h) := by
 unfold knB at e;rw[a0e]at e;obtain⟨-,i⟩:=e;split at i
 .rename_i fn j
  split at i
  .rename_i c l
   refine⟨fn,c,j,l,by simp_all,?_⟩;unfold knM at b;split at b
   .rename_i as ids d
    split at b
    .rename_i v f
     cases hs:ID 8 v with
     |true=>rw[hs]at b;cases b;exact ae0 d hs (g.2.2 k as v (Nc f))
     |false=>rw[hs]at b;cases b;exact ah8 d (g.2.2 k as v (Nc f))
    simp_all
   simp_all
  simp_all
 simp_all
def vP (c:lL P) (L:Nat):∀d,pX P (yD P L d)
 |0=>⟨fun k args=>gK,fun k args h n r a=>(by cases a),fun k args h n r a=>(by cases a)⟩
 |d+1=>by
  have e:=vP c L d;have g:=Ow L e;refine⟨fun k args=>?_,fun k args h n r a=>?_,fun id args h n r a=>?_⟩
  .cases k with
   |func k =>
    simp only[yD];split
    .exact gJ _
    .split
     .exact ahZ _ _
     simp_all
   |_=>exact gK
  .cases b:Xr P k args with
   |some v =>
    simp only[yD,b]at a;cases a;exact akC c b h
   |none =>
    simp only[yD,b]at a;by_cases f:knB P k=true
    .rw[if_pos f]at a
     exact anL c f a
    grind
  .simp only[yD]at a;cases a
def afC (c:lL P) {L d:Nat} {args:List AV} {h:AH} {n:Nat} {r:Rs AV} (b:yD P L d (.func k) args h n=some r):jA P k args h (fun v h'=>v=r.a/\h'=r.h) :=
 ((vP c L d).ok k args h n r b).elim fun _ h=>h.elim fun _ h=>h.2.2.2
end
end
end Mc
end Go.Proofs.YtnepgggkgnckcaaGreat
