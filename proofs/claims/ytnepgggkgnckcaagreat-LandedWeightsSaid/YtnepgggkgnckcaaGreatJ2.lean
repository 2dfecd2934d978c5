/-
 Texts joined and made small by wip/small.sh.
-/
import Derived.Test.YtnepgggkgnckcaaGreatJ1
import Derived.Laws.Cover3
set_option linter.unusedVariables false
set_option linter.unusedSimpArgs false
namespace Go.Proofs.YtnepgggkgnckcaaGreat
open Go.RowKit
namespace Mc
section
variable {P:Program} {o:Oper} {f:List AV} {h:AH}
theorem Rd.FK [Bk] [Ev] {m:Nat→St} {A:Nat→Prop} {w:World} {sz base:Nat} {bP:List (Poly×List AV)} {tail:List (List AV)} {v:Value} (h:Rd m A w (.seq sz base bP tail) v) :
  (∀q∈bP,InB base q.1)∧Rd m A w (.lit sz (rowsOf base bP tail)) v:=by
 cases h with|pure _ _ h=>cases h with|seq _ _ _ _ _ hin h1 h=>exact⟨hin,.pure _ _ h⟩
theorem Rd.Co [Bk] [Ev] {m:Nat→St} {A:Nat→Prop} {w:World} {T sz id b:Nat} {n:Poly} {u:Value} (h:Rd m A w (.cQ T sz id n) u) (g:m id=.at b) :
  ∃len cap:Nat,bR Ev.cX n=len∧u=.slice (some ⟨b,0,none⟩) len cap∧len≤cap∧cap≤maxLen∧cap*sz=dS w b:=by
 cases h with
 |pure _ _ h=>cases h
 |cQ _ _ _ _ b' len cap hm hb hl hn hc hr=>rw[g]at hm;cases hm;exact⟨len,cap,hl,rfl,hn,hc,hr⟩
 |rU _ _ _ _ _ hm=>rw[g]at hm;cases hm
 |rV _ _ _ _ _ _ _ hm=>rw[g]at hm;cases hm
theorem Rd.tR [Bk] [Ev] {m:Nat→St} {A:Nat→Prop} {w:World} {T sz id:Nat} {n:Poly} {u:Value} (h:Rd m A w (.cQ T sz id n) u) (g:m id=.pF):∃a,u=.slice a 0 0∧bR Ev.cX n=0:=by
 cases h with
 |pure _ _ h=>cases h
 |cQ _ _ _ _ b' len cap hm hb hl hn hc hr=>rw[g]at hm;cases hm
 |rU _ _ _ _ a hm hn=>exact⟨a,rfl,hn⟩
 |rV _ _ _ _ _ _ _ hm=>rw[g]at hm;cases hm
theorem Rd.abG [Bk] [Ev] {m:Nat→St} {A:Nat→Prop} {w:World} {sz id off b:Nat} {p:Poly} {u:Value} (h:Rd m A w (.lV sz id p off) u) (g:m id=.at b):u=.pointer (some ⟨b,(bR Ev.cX p).toNat*sz+off,none⟩):=by
 cases h with
 |pure _ _ h=>cases h
 |lV _ _ _ _ b' hm hb=>rw[g]at hm;cases hm;rfl
 |yP _ _ _ _ u hm=>rw[g]at hm;cases hm
theorem bW.Ra [Bk] [Ev] {m:Nat→St} {A:Nat→Prop} {w:World} (H:bW m A h w) {id T sz base i:Nat} {bP:List (Poly×List AV)} {tail:List (List AV)} {n:Poly} {e:List AV} (hh:h id=.sc T sz base bP tail n) (he:(rowsOf base bP tail)[i]?=some e) :
  ∃b cs,m id=.at b∧w.heap[b]?=some (.cells cs T (0,0))∧(rowsOf base bP tail).length*sz≤cs.size∧(∀e∈rowsOf base bP tail,e.length=sz)∧∀(i j:Nat) (x:AV),fD (rowsOf base bP tail) i j=some x→x.one=true∧Rd m A w x (cs.getD (i*sz+j) Go.undef):=by
 obtain⟨-,e0⟩|h:=H.qT id T sz (rowsOf base bP tail) (by rw[hh];rfl)
 ·rw[e0]at he;simp at he
 ·exact h
theorem bW.EL [Bk] [Ev] {m:Nat→St} {A:Nat→Prop} {w:World} (H:bW m A h w) {id T sz base:Nat} {bP:List (Poly×List AV)} {tail:List (List AV)} {n:Poly} (hh:h id=.sc T sz base bP tail n) :
  bR Ev.cX n=((rowsOf base bP tail).length:Int)∧∀q∈bP,InB base q.1:=by
 have:=H.PD id
 rw[hh]at this;exact this
def lU [Bk] (h:AH):AV→Option Poly
 | .seq _ base _ tail=>(lenOf base Bk.lens).map fun n=>tZ n (qI tail.length)
 | .cQ T sz id n=>match h id with
  | .sc T' sz' _ _ _ n'=>if T'=T∧sz'=sz∧n'=n then some n else none
  |_=>none
 |_=>none
def Fo:AV→List Nat
 | .cQ _ _ id _=>[id]
 | .lV _ id _ _=>[id]
 |_=>[]
theorem MX [Bk] [Ev] {m:Nat→St} {A:Nat→Prop} {w:World} (H:bW m A h w) {x:AV} {n:Poly} {v:Value} (hn:lU h x=some n) (hr:Rd m A w x v):∃a len cap,v=.slice a len cap∧(len:Int)=bR Ev.cX n:=by
 unfold lU at hn;split at hn
 ·rename_i sz base bP tail
  rw[Option.map_eq_some_iff]at hn;obtain⟨n0,h0,rfl⟩:=hn;have e0:=xU h0;have hl:=fP base bP tail;have hp:bR Ev.cX (tZ n0 (qI tail.length))=((rowsOf base bP tail).length:Int):=by rw[mO,oE];omega
  obtain⟨-,h2⟩:=hr.FK;obtain⟨he,a,cap,rfl⟩|⟨b,off,cap,vs,rfl,-⟩:=h2.mP
  ·rw[he]at hp;exact⟨a,0,cap,rfl,by rw[hp];rfl⟩
  ·exact⟨_,_,cap,rfl,hp.symm⟩
 ·rename_i T sz id n0
  split at hn
  ·rename_i T' sz' base bP tail n' hh
   split at hn
   ·rename_i hc
    obtain⟨rfl,rfl,rfl⟩:=hc;cases hn;rcases H.qT id T' sz' (rowsOf base bP tail) (by rw[hh];rfl)with⟨hv,e0⟩|⟨b,cs,g1,-⟩
    ·obtain⟨a,rfl,e⟩:=hr.tR hv
     exact⟨a,0,0,rfl,by rw[e];rfl⟩
    ·obtain⟨len,cap,e,rfl,-⟩:=hr.Co g1
     exact⟨_,len,cap,rfl,e.symm⟩
   ·cases hn
  ·cases hn
 ·cases hn
theorem Xv [Bk] [Ev] {t:TypeId} {x:Operand} {e:TypeId} {n:Poly} {uJ:List Nat} (ho:o.op=.call { callee:=.builtin .len,args:=#[x],argTypes:=#[t] }) (hu:P.underlying t=some (.slice e)) (hn:lU h (cV f x)=some n):cL P o f h ⟨wP n,[],uJ⟩:=by
 refine bV fun m A w a H F=>?_
 obtain⟨ad,len,cap,hv,hl⟩:=MX H hn (F.eval x)
 refine⟨_,?_,.pure _ _ (sQ _ w n)⟩
 simp[execOp,ho,resolve,invoke,builtin,hv,Builtin.len_,run_underlying hu,goInt,hl]
def afr [Bk] (p n:Poly):Bool:=R3 p==some false&&R3 (pG p n)==some true
theorem abf [Bk] [Ev] {p n:Poly} (h:afr p n=true):0≤bR Ev.cX p∧bR Ev.cX p<bR Ev.cX n:=by
 unfold afr at h;rw[Bool.and_eq_true,beq_iff_eq,beq_iff_eq]at h;have c1:=of_decide_eq_false (nO h.1).symm
 have c2:=of_decide_eq_true (nO h.2).symm
 rw[eX]at c2;omega
theorem C7 [Bk] [Ev] {t e:TypeId} {x ix:Operand} {sz base:Nat} {bP:List (Poly×List AV)} {tail:List (List AV)} {p n:Poly} (ho:o.op=.indexAddr t x ix) (hx:cV f x=.seq sz base bP tail) (hi:toP (cV f ix)=some p) (hu:P.underlying t=some (.slice e)) (hs:(P.info? e).map (·.size)=some sz)
  (hn:lU h (.seq sz base bP tail)=some n) (hp:afr p n=true):cL P o f h ⟨.sR sz base bP tail p 0,[],[]⟩:=by
 refine bV fun m A w a H F=>?_
 have h1:=F.eval x;rw[hx]at h1;have e2:=toP_ok hi (F.eval ix)
 obtain⟨p0,p1⟩:=abf hp;obtain⟨ad,len,cap,hv,hl⟩:=MX H hn h1;obtain⟨hin,h2⟩:=h1.FK;cases hpi:P.info? e with
 |none=>simp[hpi]at hs
 |some ti =>
  simp only[hpi,Option.map_some,Option.some.injEq]at hs;obtain⟨he,a',cap',hv'⟩|⟨b,off,cap',vs,hv',hA,hb,hc,hsz,k1,kv,kr⟩:=h2.mP
  ·rw[hv']at hv;cases hv;omega
  ·have hlt:bR Ev.cX p<((rowsOf base bP tail).length:Int):=by rw[hv']at hv;cases hv;omega
   refine⟨.pointer (some ⟨b,off+((bR Ev.cX p).toNat*sz+0),none⟩),?_,.pure _ _ (.sR sz base bP tail p 0 _ hin rfl p0 (.gI sz _ _ 0 b off vs hA hb hsz k1 kv kr))⟩
   simp[execOp,ho,hv',e2,Instr.indexAt,asIntOf,run_underlying hu,p0,hlt,sizeOf,typeInfo,hpi,hs,fL]
theorem AI [Bk] [Ev] {t e:TypeId} {x ix:Operand} {T sz id:Nat} {p n:Poly} (ho:o.op=.indexAddr t x ix) (hx:cV f x=.cQ T sz id n) (hi:toP (cV f ix)=some p) (hu:P.underlying t=some (.slice e)) (hs:(P.info? e).map (·.size)=some sz)
  (hn:lU h (.cQ T sz id n)=some n) (hp:afr p n=true):cL P o f h ⟨.lV sz id p 0,[],[id]⟩:=by
 refine bV fun m A w a H F=>?_
 have h1:=F.eval x;rw[hx]at h1;have e2:=toP_ok hi (F.eval ix)
 obtain⟨p0,p1⟩:=abf hp;cases hpi:P.info? e with
 |none=>simp[hpi]at hs
 |some ti =>
  simp only[hpi,Option.map_some,Option.some.injEq]at hs;simp only[lU]at hn;split at hn
  ·rename_i T' sz' base bP tail n' hh
   split at hn
   ·rename_i hc
    obtain⟨rfl,rfl,rfl⟩:=hc;rcases H.qT id T' sz' (rowsOf base bP tail) (by rw[hh];rfl)with⟨hv,e0⟩|⟨b,cs,g1,-⟩
    ·obtain⟨a,-,e⟩:=h1.tR hv
     omega
    ·obtain⟨len,cap,e,hv,-⟩:=h1.Co g1
     have hlt:bR Ev.cX p<(len:Int):=by omega
     refine⟨.pointer (some ⟨b,(bR Ev.cX p).toNat*sz'+0,none⟩),?_,.lV sz' id p 0 b g1 (H.lt g1)⟩
     simp[execOp,ho,hv,e2,Instr.indexAt,asIntOf,run_underlying hu,p0,hlt,sizeOf,typeInfo,hpi,hs,fL]
   ·cases hn
  ·cases hn
def zJ [Bk] (h:AH):AV→Option (Nat×Nat×List AV)
 | .sR sz base bP tail p off=>(rowAt base bP tail p).map fun r=>(sz,off,r)
 | .lV sz id p off=>match h id with
  | .sc _ sz' base bP tail _=>if sz'=sz∧R3 p=some false then(rowAt base bP tail p).map fun r=>(sz,off,r)else none
  |_=>none
 |_=>none
def Ir (k:Nat):AV→AV
 | .sR sz base bP tail p off=>.sR sz base bP tail p (off+k)
 | .lV sz id p off=>.lV sz id p (off+k)
 |x=>x
theorem FL [Bk] [Ev] {m:Nat→St} {A:Nat→Prop} {w:World} (H:bW m A h w) {x:AV} {sz off:Nat} {r:List AV} {v:Value} (hx:zJ h x=some (sz,off,r)) (hr:Rd m A w x v) :
  ∃b o0,∃vs:Nat→Value,v=.pointer (some ⟨b,o0+off,none⟩)∧(∀j y,r[j]?=some y→y.one=true∧w.cell? ⟨b,o0+j,none⟩=some (vs j)∧Rd m A w y (vs j))∧∀k,Rd m A w (Ir k x) (.pointer (some ⟨b,o0+(off+k),none⟩)):=by
 unfold zJ at hx;split at hx
 ·rename_i sz' base bP tail p off'
  rw[Option.map_eq_some_iff]at hx;obtain⟨r',hra,he⟩:=hx;cases he;cases hr with
  |pure _ _ hr =>
   cases hr with
   |sR _ _ _ _ _ _ _ hin h1 hp hr =>
    obtain⟨r0,k1,k2⟩:=IG hin hp hra;cases hr with
    |gI _ _ _ _ b o0 vs hA hb hsz q1 qv qr =>
     refine⟨b,o0+(bR Ev.cX p).toNat*sz,vs (bR Ev.cX p).toNat,by rw[Nat.add_assoc],?_,?_⟩
     ·intro j y hy
      obtain⟨x,hx,hl⟩:=k2.2 j y hy;have ha:fD (rowsOf base bP tail) (bR Ev.cX p).toNat j=some x:=by simp[fD,k1,hx]
      refine⟨by rw[←hl.one];exact q1 _ _ _ ha,?_,.pure _ _ (hl.rdL (qr _ _ _ ha))⟩
      have:=qv _ _ _ ha
      rw[←this];congr 2;omega
     ·intro k
      refine .pure _ _ (.sR sz base bP tail p (off+k) _ hin rfl hp ?_)
      have:=cO.gI (A:=Av m A) (w:=w) sz (rowsOf base bP tail) (bR Ev.cX p).toNat (off+k) b o0 vs hA hb hsz q1 qv qr
      rw[show o0+(bR Ev.cX p).toNat*sz+(off+k)=o0+((bR Ev.cX p).toNat*sz+(off+k))by omega]
      exact this
 ·rename_i sz' id p off'
  split at hx
  ·rename_i T sz2 base bP tail n hh
   split at hx
   ·rename_i hc
    obtain⟨rfl,hp⟩:=hc;have hp:=of_decide_eq_false (nO hp).symm
    rw[Option.map_eq_some_iff]at hx;obtain⟨r',hra,he⟩:=hx;cases he;obtain⟨hn,hin⟩:=H.EL hh;obtain⟨r0,k1,k2⟩:=IG hin (by omega) hra
    obtain⟨b,cs,g1,g2,g3,g4,g5⟩:=H.Ra hh k1;refine⟨b,(bR Ev.cX p).toNat*sz,fun j=>cs.getD ((bR Ev.cX p).toNat*sz+j) Go.undef,hr.abG g1,?_,?_⟩
    ·intro j y hy
     obtain⟨x,hx,hl⟩:=k2.2 j y hy;have ha:fD (rowsOf base bP tail) (bR Ev.cX p).toNat j=some x:=by simp[fD,k1,hx]
     obtain⟨q1,q2⟩:=g5 _ _ _ ha;refine⟨by rw[←hl.one];exact q1,?_,hl.rd q2⟩
     have:=(gK ha g4).2.2
     have hlt:(bR Ev.cX p).toNat*sz+j<cs.size:=by omega
     simp[World.cell?,g2,hlt]
    ·intro k
     exact .lV sz id p (off+k) b g1 (H.lt g1)
   ·cases hx
  ·cases hx
 ·cases hx
theorem acw [Bk] [Ev] {t:TypeId} {x:Operand} {sz off:Nat} {r:List AV} {v:AV} {uJ:List Nat} (ho:o.op=.load t x) (hx:zJ h (cV f x)=some (sz,off,r)) (hp:kR P t r off=some v):cL P o f h ⟨v,[],uJ⟩:=by
 refine bV fun m A w a H F=>?_
 obtain⟨b,o0,vs,hv,k1,-⟩:=FL H hx (F.eval x)
 obtain⟨u,r1,r2⟩:=uX (P:=P) (m:=m) (A:=A) (w:=w) (b:=b) (o0:=o0) (vs:=vs) hp k1
 exact⟨u,by simp[execOp,ho,hv,Instr.loadAt,Instr.sureAddr,r1],r2⟩
theorem My [Bk] [Ev] {x:Operand} {sz off:Nat} {r:List AV} {uJ:List Nat} (ho:o.op=.nilCheck x) (hx:zJ h (cV f x)=some (sz,off,r)):cL P o f h ⟨cV f x,[],uJ⟩:=by
 refine bV fun m A w a H F=>?_
 have h1:=F.eval x;obtain⟨b,o0,vs,hv,k1,-⟩:=FL H hx h1;refine⟨a.eval x,?_,h1⟩
 rw[hv];simp[execOp,ho,hv]
theorem I8 [Bk] [Ev] {t:TypeId} {x:Operand} {k ty o' n sz off:Nat} {r:List AV} {uJ:List Nat} (ho:o.op=.fieldAddr t x k) (hx:zJ h (cV f x)=some (sz,off,r)) (hf:lS P t k=some (ty,o',n)) (hn:n≠0):cL P o f h ⟨Ir o' (cV f x),[],uJ⟩:=by
 refine bV fun m A w a H F=>?_
 obtain⟨b,o0,vs,hv,-,k2⟩:=FL H hx (F.eval x)
 refine⟨_,?_,k2 o'⟩
 rw[←Nat.add_assoc];simp[execOp,ho,hv,wZ hf hn]
theorem I7 [Bk] [Ev] {t e:TypeId} {x ix:Operand} {sz off len s:Nat} {r:List AV} {k:IntKind} {n:Int} {uJ:List Nat} (ho:o.op=.indexAddr t x ix) (hx:zJ h (cV f x)=some (sz,off,r)) (hi:cV f ix=.c (.int k n)) (hu:P.underlying t=some (.array len e)) (hs:(P.info? e).map (·.size)=some s) (h0:0≤n) (hn:n.toNat<len) :
  cL P o f h ⟨Ir (n.toNat*s) (cV f x),[],uJ⟩:=by
 refine bV fun m A w a H F=>?_
 have h2:=F.eval ix;rw[hi]at h2;have e2:=h2.eA;obtain⟨b,o0,vs,hv,-,k2⟩:=FL H hx (F.eval x)
 cases hp:P.info? e with
 |none=>simp[hp]at hs
 |some ti =>
  simp only[hp,Option.map_some,Option.some.injEq]at hs;have hlt:n<(len:Int):=by omega
  refine⟨_,?_,k2 (n.toNat*s)⟩
  simp[execOp,ho,hv,e2,Instr.indexAt,asIntOf,run_underlying hu,h0,hlt,sizeOf,typeInfo,hp,hs,fL,Instr.sureAddr,Nat.add_assoc]
theorem ab0 [Bk] [Ev] {m:Nat→St} {A:Nat→Prop} {w:World} (H:bW m A h w) {T sz id i off b:Nat} {aW:List (List AV)} {e e0 xs:List AV} {us:Array Value} {B:bX} (hh:(h id).aW=some (T,sz,aW)) (hm:m id=.at b) (he:aW[i]?=some e0) (hlk:NV e0 e) (hx:CR (Rd m A w) xs us) (hl:off+xs.length≤sz)
  (hB:B.aW=some (T,sz,aW.set i (iM e off xs))) (hS:lM B) :
  ∃w',(storeCells ⟨b,i*sz+off,none⟩ us.toList).run P w=.ok () w'∧bW m A (cH h id B) w'∧Ext m w m w':=by
 obtain⟨hv,-⟩|⟨b',cs,g1,g2,g3,g4,g5⟩:=H.qT id T sz aW hh
 ·rw[hm]at hv;cases hv
 rw[hm]at g1;cases g1
 have hi:i<aW.length:=(List.getElem?_eq_some_iff.1 he).1
 have hel:e.length=sz:=by rw[←hlk.1];exact g4 e0 (List.mem_of_getElem? he)
 have hmul:(i+1)*sz≤aW.length*sz:=Nat.mul_le_mul_right _ hi
 rw[Nat.succ_mul]at hmul;have hul:us.toList.length=xs.length:=by simpa using hx.1
 have hfit:i*sz+off+0+us.toList.length≤cs.size:=by rw[hul];omega
 have h1:∀v∈us.toList,v.oneCell'=true:=by
  intro v hv;obtain⟨k,hk,rfl⟩:=List.getElem_of_mem hv;have hk':k<xs.length:=by omega
  have:=hx.2 k xs[k] (by simp[hk'])
  have:=this.2.one this.1
  simpa[show k<us.size by simpa using hk]using this
 have hst:=run_storeCells_at P b (i*sz+off) T us.toList 0 cs w g2 hfit h1
 refine⟨_,hst,?_⟩
 have hsz:(cs.toList.take (i*sz+off+0)++us.toList++cs.toList.drop (i*sz+off+0+us.toList.length)).toArray.size=cs.size:=by simp only[List.size_toArray,List.length_append,List.length_take,List.length_drop,hul,Array.length_toList];rw[hul]at hfit;omega
 have hget:∀k,(cs.toList.take (i*sz+off+0)++us.toList++cs.toList.drop (i*sz+off+0+us.toList.length)).toArray.getD k Go.undef=if i*sz+off≤k∧k<i*sz+off+xs.length then us.getD (k-(i*sz+off)) Go.undef else cs.getD k Go.undef:=by
  intro k;have:=lT (cs:=cs.toList) (off:=i*sz+off) (xs:=us.toList) (by simpa using hfit) k
  unfold iM at this;have e1:∀(l:List Value),l.toArray.getD k Go.undef=(l[k]?).getD Go.undef:=by intro l;simp
  rw[e1,Nat.add_zero,this,hul];split
  ·simp
  ·simp
 refine H.adn hB hS hm (setRow_heap w b cs _ T _ g2) g2 hsz (fun k hk=>setRow_other w b k _ hk) rfl rfl rfl (by simp) ?_ ?_ ?_
 ·rw[hsz,List.length_set];exact g3
 ·intro e' he'
  rcases List.mem_or_eq_of_mem_set he' with h|h
  ·exact g4 _ h
  ·subst h;rw[qB (by omega)];exact hel
 ·intro i' j x hx'
  unfold fD at hx';rw[List.getElem?_set]at hx';split at hx'
  ·rename_i hii
   subst hii;simp only[hi,if_true,Option.bind_some]at hx';rw[lT (by omega)]at hx'
   rw[hget];split at hx'
   ·rename_i hj
    rw[if_pos (by omega)]
    have:=hx.2 _ _ hx'
    refine⟨this.1,?_⟩
    rw[show i*sz+j-(i*sz+off)=j-off by omega];exact this.2
   ·rename_i hj
    obtain⟨y,hy,hly⟩:=hlk.2 j x hx';obtain⟨q1,q2⟩:=g5 i j y (by simp[fD,he,hy])
    have hj':j<sz:=by rw[←hel];exact(List.getElem?_eq_some_iff.1 hx').1
    rw[if_neg (by omega)]
    exact⟨by rw[←hly.one];exact q1,hly.rd q2⟩
  ·rename_i hii
   have ha:fD aW i' j=some x:=hx'
   have hb:=gK ha g4;rw[hget,if_neg]
   ·exact g5 i' j x ha
   ·rintro⟨k1,k2⟩
    rcases Nat.lt_or_ge i' i with hlt|hge
    ·have:(i'+1)*sz≤i*sz:=Nat.mul_le_mul_right _ hlt
     rw[Nat.succ_mul]at this;omega
    ·have:(i+1)*sz≤i'*sz:=Nat.mul_le_mul_right _ (by omega)
     rw[Nat.succ_mul]at this;omega
def uN [Bk] (h:AH) (x:AV) (xs:List AV):Option (Nat×bX):=match x with
 | .lV sz id p off=>match h id with
  | .sc T sz' base bP tail n=>if sz'=sz∧off+xs.length≤sz∧R3 p=some false then match rowAt base bP tail p with
    |some e=>match TV base bP tail p (iM e off xs)with
     |some q=>some (id,.sc T sz base q.1 q.2 n)
     |none=>none
    |none=>none
   else none
  |_=>none
 |_=>none
theorem Xt [Bk] [Ev] {t:TypeId} {x y:Operand} {xs:List AV} {q:Nat×bX} {uJ:List Nat} (ho:o.op=.store t x y) (hy:fG (cV f y)=some xs) (ht:(P.info? t).map (·.size)=some xs.length) (hq:uN h (cV f x) xs=some q):cL P o f h ⟨.undef,[q],uJ⟩:=by
 intro m A w a H F;unfold uN at hq;split at hq
 ·rename_i sz id p off hx
  split at hq
  ·rename_i T sz' base bP tail n hh
   split at hq
   ·rename_i hc
    obtain⟨rfl,hl,hp⟩:=hc;have hp:=of_decide_eq_false (nO hp).symm
    split at hq
    ·rename_i e he
     split at hq
     ·rename_i u hu
      cases hq;obtain⟨u1,u2⟩:=u;obtain⟨hn,hin⟩:=H.EL hh;obtain⟨r0,k1,k2⟩:=IG hin (by omega) he
      obtain⟨s1,s2,-⟩:=aca hin hu;obtain⟨b,cs,g1,-⟩:=H.Ra hh k1;have h1:=F.eval x;rw[hx]at h1;have hv:=h1.abG g1;have hcr:=lQ (F.eval y) hy
      obtain⟨w',r1,r2,r3⟩:=ab0 (P:=P) H (B:=.sc T sz' base u1 u2 n) (by rw[hh];rfl) g1 k1 k2 hcr hl (by simp only[bX.aW];rw[s1]) ⟨by rw[s1,List.length_set];exact hn,s2⟩
      cases hi:P.info? t with
      |none=>simp[hi]at ht
      |some ti =>
       simp only[hi,Option.map_some,Option.some.injEq]at ht;refine⟨Go.undef,w',m,.inr ⟨?_,rfl⟩,r2,.pure _ _ .undef,r3⟩
       have hs:(a.eval y).cells.size=xs.length:=hcr.1
       simp[execOp,ho,hv,Instr.storeAt,Instr.sureAddr,storeVar,sizeOf,typeInfo,hi,ht,hs,r1]
     ·cases hq
    ·cases hq
   ·cases hq
  ·cases hq
 ·cases hq
end
end Mc
namespace Mc
section
variable {P:Program} {o:Oper} {f:List AV} {h:AH}
def vI [Bk] [Ev] (h:AH) (x:AV) (e sz:Nat) (aW:List (List AV)) (k:List (Nat×bX)):Prop :=
 ∀m A w v,bW m A h w→Rd m A w x v→(k=[]∧aW=[]∧∃a0,v=.slice a0 0 0) ∨
  ∃id,k=[(id,.dead)]∧(h id).aW=some (e,sz,aW)∧((m id=.pF∧∃a0,v=.slice a0 0 0)∨∃b cap,m id=.at b∧v=.slice (some ⟨b,0,none⟩) aW.length cap∧aW.length≤cap∧cap≤maxLen∧cap*sz=dS w b)
def CE [Bk] [Ev] (h:AH) (y:AV) (sz:Nat) (ys:List (List AV)):Prop :=
 ∀m A w v,bW m A h w→Rd m A w y v→(∀q∈ys,q.length=sz)∧∃a cap,v=.slice a ys.length cap∧ys.length≤cap∧(a=none→ys=[])∧∃news:List Value,news.length=ys.length*sz∧(∀ad,a=some ad→∀j u,news[j]?=some u→w.cell? (ad.add j)=some u)∧(∀u∈news,u.oneCell'=true) ∧
   ∀(i j:Nat) (y:AV),fD ys i j=some y→y.one=true∧Rd m A w y (news.getD (i*sz+j) Go.undef)
theorem CE.aW [Bk] [Ev] {y:AV} {sz:Nat} {ys:List (List AV)} (hy:gB h y=some ys) (hys:∀q∈ys,q.length=sz) (hyo:∀T s id j n,y=.own T s id j n→s=sz):CE h y sz ys :=
 fun m A w v H hr=>⟨hys,TN H hr hy hys hyo⟩
theorem CE.seq [Bk] [Ev] {sz base:Nat} {bP:List (Poly×List AV)} {tail:List (List AV)}:CE h (.seq sz base bP tail) sz (rowsOf base bP tail):=by
 intro m A w v H hr;obtain⟨hin,h2⟩:=hr.FK;have hsz:∀q∈rowsOf base bP tail,q.length=sz:=by
  obtain⟨he,-⟩|⟨b,off,cap,vs,-,-,-,-,hsz,-⟩:=h2.mP
  ·rw[he];intro q hq;exact absurd hq List.not_mem_nil
  ·exact hsz
 exact⟨hsz,TN (aW:=rowsOf base bP tail) H h2 rfl hsz (by intro T s id i n hx;cases hx)⟩
theorem CE.cQ [Bk] [Ev] {T sz id base:Nat} {n n':Poly} {bP:List (Poly×List AV)} {tail:List (List AV)} (hh:h id=.sc T sz base bP tail n') (hn:n'=n):CE h (.cQ T sz id n) sz (rowsOf base bP tail):=by
 subst hn;intro m A w v H hr;obtain⟨hl,hin⟩:=H.EL hh;rcases H.qT id T sz (rowsOf base bP tail) (by rw[hh];rfl)with⟨hv,e0⟩|⟨b,cs,g1,g2,g3,g4,g5⟩
 ·obtain⟨a,rfl,e⟩:=hr.tR hv
  rw[e0];refine⟨fun q hq=>absurd hq List.not_mem_nil,a,0,rfl,Nat.le_refl _,fun _=>rfl,[],by simp,?_,?_,?_⟩
  ·intro ad _ j u hu;simp at hu
  ·intro u hu;simp at hu
  ·intro i j y hy;simp[fD]at hy
 ·obtain⟨len,cap,e,rfl,hn,-,hrow⟩:=hr.Co g1
  have hlen:len=(rowsOf base bP tail).length:=by omega
  subst hlen;have hrow':cap*sz=cs.size:=by rw[hrow];simp[dS,g2]
  have hl:(cs.toList.take ((rowsOf base bP tail).length*sz)).length=(rowsOf base bP tail).length*sz:=by simp;omega
  have hg:∀(i j:Nat) (y:AV),fD (rowsOf base bP tail) i j=some y→y.one=true∧Rd m A w y ((cs.toList.take ((rowsOf base bP tail).length*sz)).getD (i*sz+j) Go.undef):=by
   intro i j y hy;have hb:=gK hy g4;obtain⟨q1,q2⟩:=g5 _ _ _ hy;refine⟨q1,?_⟩
   have:(cs.toList.take ((rowsOf base bP tail).length*sz)).getD (i*sz+j) Go.undef=cs.getD (i*sz+j) Go.undef:=by
    rw[List.getD,List.getElem?_take,if_pos hb.2.2];simp
   rw[this];exact q2
  refine⟨g4,some ⟨b,0,none⟩,cap,rfl,hn,(fun h=>by cases h),_,hl,?_,?_,hg⟩
  ·intro ad had j u hu
   cases had;rw[fL];rw[List.getElem?_take]at hu;split at hu
   ·simp only[World.cell?,g2]
    simpa using hu
   ·cases hu
  ·intro u hu
   obtain⟨k,hk,rfl⟩:=List.getElem_of_mem hu;obtain⟨y,hy⟩:=flat_get g4 (k:=k) (by omega)
   obtain⟨h1,h2⟩:=hg _ _ _ hy;have e1:k/sz*sz+k%sz=k:=by rw[Nat.mul_comm];exact Nat.div_add_mod k sz
   rw[e1]at h2;have:=h2.one h1
   rw[List.getD,List.getElem?_eq_getElem hk]at this;exact this
theorem vI.emp [Bk] [Ev] {e sz:Nat}:vI h .emp e sz [] []:=by
 intro m A w v H hr;cases hr with|pure _ _ hr=>cases hr with|emp a0=>exact .inl ⟨rfl,rfl,a0,rfl⟩
theorem vI.own [Bk] [Ev] {T s id n:Nat} {aW:List (List AV)} (hh:h id=.cells T s aW) (hn:n=aW.length):vI h (.own T s id 0 n) T s aW [(id,.dead)]:=by
 subst hn;intro m A w v H hr;refine .inr ⟨id,rfl,by rw[hh];rfl,?_⟩
 rcases H.cells id _ _ _ hh with⟨hv,rfl⟩|⟨b,cs,g1,g2,g3,g4,g5⟩
 ·refine .inl ⟨hv,?_⟩
  cases hr with
  |pure _ _ h=>cases h
  |own _ _ _ _ _ b _ hm=>rw[hv]at hm;cases hm
  |rG _ _ _ _ a hm=>exact⟨a,rfl⟩
  |sW _ _ _ _ _ _ _ _ hm=>rw[hv]at hm;cases hm
 ·obtain⟨cap,hv0,hn0,hcm,hrow⟩:=hr.pA g1
  exact .inr ⟨b,cap,g1,by rw[hv0];simp,hn0,hcm,by simpa using hrow⟩
theorem vI.cQ [Bk] [Ev] {T s id base:Nat} {n n':Poly} {bP:List (Poly×List AV)} {tail:List (List AV)} (hh:h id=.sc T s base bP tail n') (hn:n'=n):vI h (.cQ T s id n) T s (rowsOf base bP tail) [(id,.dead)]:=by
 subst hn;intro m A w v H hr;obtain⟨hl,hin⟩:=H.EL hh;refine .inr ⟨id,rfl,by rw[hh];rfl,?_⟩
 rcases H.qT id T s (rowsOf base bP tail) (by rw[hh];rfl)with⟨hv,e0⟩|⟨b,cs,g1,g2,g3,g4,g5⟩
 ·obtain⟨a,rfl,e⟩:=hr.tR hv
  exact .inl ⟨hv,a,rfl⟩
 ·obtain⟨len,cap,e,rfl,hn,hcm,hrow⟩:=hr.Co g1
  have hlen:len=(rowsOf base bP tail).length:=by omega
  subst hlen;exact .inr ⟨b,cap,g1,rfl,hn,hcm,hrow⟩
theorem sA [Bk] [Ev] {t e:TypeId} {x y:Operand} {aW ys:List (List AV)} {k:List (Nat×bX)} {uJ:List Nat} {i:TypeInfo} {z:Value} {nx:Nat} {B:bX} {n:Poly} (ho:o.op=.call { callee:=.builtin .append,args:=#[x,y],argTypes:=#[t,t] }) (ht:P.underlying t=some (.slice e)) (hi:P.info? e=some i) (hz:i.zero=some z) (hzs:z.cells.size=i.size) (hs0:0<i.size)
  (hx:vI h (cV f x) e i.size aW k) (hy:CE h (cV f y) i.size ys) (hb:(aW.length+ys.length)*i.bytes≤140737488355328) (hm:aW.length+ys.length≤1099511627776) (hnx:h nx=.no)
  (hB:B.aW=some (e,i.size,aW++ys)) (hSn:∀m A w v u,bW m A h w→Rd m A w (cV f x) v→Rd m A w (cV f y) u→lM B∧bR Ev.cX n=((aW.length+ys.length:Nat):Int)) :
  cL P o f h ⟨.cQ e i.size nx n,k++[(nx,B)],uJ⟩:=by
 intro m A w a H F;have gx:=F.eval x;have gy:=F.eval y;obtain⟨hS,hn⟩:=hSn m A w _ _ H gx gy;obtain⟨hys,a1,c1,hv1,hc1,hn1,news,hl,hnews,hone,hrd⟩:=hy m A w _ H gy;have hexec:∀v w',(Builtin.append_ #[t,t] o.type #[a.eval x,a.eval y]).run P w=.ok v w'→(execOp a.eval o).run P w=.ok (.value v) w':=by
  intro v w' hr;simp[execOp,ho,resolve,invoke,builtin,hr]
 have fresh:∀(m1:Nat→St) (h1:AH) (hk:dW h (k++[(nx,B)])=cH h1 nx B) (H1:bW m1 A h1 w) (E1:Ext m w m1 w) (hnx1:h1 nx=.no) (a0:Option Addr) (hv0:a.eval x=.slice a0 0 0) (he:aW=[]),
   ∃x' w' m',((execOp a.eval o).run P w=.ok (.value x') w'∨((execOp a.eval o).run P w=.ok .skip w'∧x'=Go.undef))∧bW m' A (dW h (k++[(nx,B)])) w'∧Rd m' A w' (.cQ e i.size nx n) x'∧Ext m w m' w':=by
  intro m1 h1 hk H1 E1 hnx1 a0 hv0 he;subst he;rw[hk];rw[hv0,hv1]at hexec;simp only[List.length_nil,Nat.zero_add,List.nil_append]at hm hb hn hB ⊢;by_cases hys0:ys=[]
  ·subst hys0
   have hr:=lR (P:=P) (.slice a0 0 0) a0 a1 0 0 c1 t o.type e i ht hi w (Nat.le_refl _) (fun _=>rfl)
   obtain⟨q1,q2⟩:=H1.Ie hnx1 hB hS;refine⟨_,w,_,.inl (hexec _ _ hr),q1,?_,E1.trans q2⟩
   exact .rU e i.size nx n a0 (by simp[sset]) (by simpa using hn)
  ·have hpos:0<ys.length:=List.length_pos_iff.2 hys0
   obtain⟨ad,rfl⟩:∃ad,a1=some ad:=by
    cases a1 with
    |none=>exact absurd (hn1 rfl) hys0
    |some ad=>exact⟨ad,rfl⟩
   have hr:=wA (P:=P) a0 t o.type e i z ht hi hz w ad ys.length c1 news hl (fun j v hv=>hnews ad rfl j v hv) hpos (by omega) hb
   have hcap:ys.length≤grownCap w ys.length 0 e∧grownCap w ys.length 0 e≤maxLen:=by
    unfold grownCap Question.cut;have:=Nat.mod_lt (w.tape w.drawn (.appendCap ys.length 0 e)) (show 0<2 ^ 63-ys.length by omega)
    simp only[maxLen];omega
   have hsize:(news.toArray++Builtin.zeroCells z.cells (grownCap w ys.length 0 e-ys.length)).size=grownCap w ys.length 0 e*i.size:=by
    simp only[Array.size_append,List.size_toArray,hl,Builtin.zeroCells,Array.size_map,Array.size_range,hzs];rw[←Nat.add_mul];congr 1;omega
   obtain⟨d1,d2⟩:=H1.drew;obtain⟨q1,q2⟩:=d1.age (id:=nx) (T:=e) (sz:=i.size) (aW:=ys) (cs:=news.toArray++Builtin.zeroCells z.cells (grownCap w ys.length 0 e-ys.length)) hB hS hnx1 (by rw[hsize];exact Nat.mul_le_mul_right _ hcap.1) hys (by
    intro i' j y hy';obtain⟨r1,r2⟩:=hrd i' j y hy';have hb2:=gK hy' hys;have e1:(news.toArray++Builtin.zeroCells z.cells (grownCap w ys.length 0 e-ys.length)).getD (i'*i.size+j) Go.undef=news.getD (i'*i.size+j) Go.undef:=by
     have hlt:i'*i.size+j<news.length:=by omega
     simp[Array.getElem?_append,hlt,List.getD]
    rw[e1];exact⟨r1,(r2.ext E1).ext d2⟩)
   refine⟨_,_,_,.inl (hexec _ _ hr),q1,?_,(E1.trans d2).trans q2⟩
   exact .cQ e i.size nx n w.heap.size ys.length (grownCap w ys.length 0 e) (by simp[sset]) (by simp) hn hcap.1 hcap.2 (by
    rw[←hsize];have:(w.drew.alloc (.cells (news.toArray++Builtin.zeroCells z.cells (grownCap w ys.length 0 e-ys.length)) e)).heap[w.heap.size]?=some (.cells (news.toArray++Builtin.zeroCells z.cells (grownCap w ys.length 0 e-ys.length)) e (0,0)):=by
     show(w.heap.push _)[w.heap.size]?=_
     simp
    unfold dS;rw[this])
 obtain⟨rfl,he,a0,hv0⟩|⟨id,rfl,hid,hcase⟩:=hx m A w _ H gx
 ·exact fresh m h (by simp[dW]) H (Ext.refl _ _) hnx a0 hv0 he
 ·have hne:nx≠id:=by rintro rfl;rw[hnx]at hid;simp[bX.aW]at hid
  rcases H.qT id _ _ _ hid with⟨hv,e0⟩|⟨b,cs,g1,g2,g3,g4,g5⟩
  ·obtain⟨-,a0,hv0⟩|⟨b,cap,hmb,-⟩:=hcase
   ·obtain⟨q1,q2⟩:=H.kill hv
    exact fresh _ (cH h id .dead) (by simp[dW]) q1 q2 (by rw[eZ h _ hne];exact hnx) a0 hv0 e0
   ·rw[hv]at hmb;cases hmb
  ·obtain⟨hmv,-⟩|⟨b',cap,hmb,hv0,hn0,hcm,hrow⟩:=hcase
   ·rw[g1]at hmv;cases hmv
   rw[g1]at hmb;cases hmb
   have hrow':cap*i.size=cs.size:=by rw[hrow];simp[dS,g2]
   have hown:w.ownsRow 0 e i.size (.slice (some ⟨b,0,none⟩) aW.length cap) aW.length (cs.toList.take (aW.length*i.size)):=by
    refine⟨by simp;omega,.inr ⟨b,cap,cs,rfl,Nat.zero_le _,g2,hn0,hcm,hrow'.symm,rfl⟩⟩
   rw[hv0,hv1]at hexec;have hus:(cs.toList.take (aW.length*i.size)).length=aW.length*i.size:=by simp;omega
   have hrd0:∀(i' j:Nat) (y:AV),fD aW i' j=some y→y.one=true∧Rd m A w y ((cs.toList.take (aW.length*i.size)).getD (i'*i.size+j) Go.undef):=by
    intro i' j y hy';have hb2:=gK hy' g4;have:=g5 i' j y hy'
    rw[List.getD,List.getElem?_take,if_pos hb2.2.2];simpa using this
   have hjoin:=M5 (R:=Rd m A w) (ys:=ys) g4 (us:=cs.toList.take (aW.length*i.size)) (vs:=news) hus hrd0 hrd
   have hall:∀q∈aW++ys,q.length=i.size:=by
    intro q hq;rcases List.mem_append.1 hq with h|h
    ·exact g4 q h
    ·exact hys q h
   have fin:∀(v':Value) (w':World),(Builtin.append_ #[t,t] o.type #[.slice (some ⟨b,0,none⟩) aW.length cap,.slice a1 ys.length c1]).run P w=.ok v' w'→w'.ownsRow 0 e i.size v' (aW.length+ys.length) (cs.toList.take (aW.length*i.size)++news)→w.grownBy w' (some b) →
     (v'.ownBlock=some b∨v'.ownBlock=some w.heap.size) →
     ∃x' w' m',((execOp a.eval o).run P w=.ok (.value x') w'∨((execOp a.eval o).run P w=.ok .skip w'∧x'=Go.undef))∧bW m' A (dW h ([(id,.dead)]++[(nx,B)])) w'∧Rd m' A w' (.cQ e i.size nx n) x'∧Ext m w m' w':=by
    intro v' w' hr ho' hgr hblk;obtain⟨ho1,ho2|⟨g,cap',cur,rfl,-,hg,hnc,hcm',CI,htake⟩⟩:=ho'
    ·obtain⟨rfl,-⟩:=ho2
     simp[Value.ownBlock]at hblk
    ·have hgg:g=b∨w.heap.size≤g:=by
      simp[Value.ownBlock]at hblk
      omega
     have hglt:g<w'.heap.size:=by
      rcases Nat.lt_or_ge g w'.heap.size with h|h
      ·exact h
      ·simp[Array.getElem?_eq_none h]at hg
     obtain⟨q1,q2⟩:=H.adY (id:=id) (nx:=nx) (g:=g) (cs':=cur) hB hS g1 hnx hgr hgg hglt hg (by rw[List.length_append,CI];exact Nat.mul_le_mul_right _ hnc) hall (by
      intro i' j y hy';have hb2:=gK hy' hall;obtain⟨r1,r2⟩:=hjoin i' j y hy';refine⟨r1,?_⟩
      have:(cs.toList.take (aW.length*i.size)++news).getD (i'*i.size+j) Go.undef=cur.getD (i'*i.size+j) Go.undef:=by
       rw[←htake,List.getD,List.getElem?_take,if_pos (by rw[←List.length_append];exact hb2.2.2)]
       simp
      rw[←this];exact r2)
     refine⟨_,w',_,.inl (hexec _ _ hr),by simpa[dW]using q1,?_,q2⟩
     exact .cQ e i.size nx n g (aW.length+ys.length) cap' (by simp[sset]) hglt hn hnc hcm' (by rw[←CI];simp[dS,hg])
   cases a1 with
   |none =>
    have:=hn1 rfl
    subst this;have hr:=lR (P:=P) (.slice (some ⟨b,0,none⟩) aW.length cap) (some ⟨b,0,none⟩) none aW.length cap c1 t o.type e i ht hi w hn0 (by intro h;cases h)
    have hnil:news=[]:=by simpa using hl
    subst hnil;refine fin _ _ hr ?_ ⟨rfl,rfl,rfl,Nat.le_refl _,fun _ _ _=>rfl⟩ (.inl rfl)
    simpa using hown
   |some ad =>
    obtain⟨v',w',r1,r2,r3,r4,r5⟩:=run_append_own_at (P:=P) w 0 t o.type e i z i.size i.bytes ht hi hz rfl rfl hzs hs0 (.slice (some ⟨b,0,none⟩) aW.length cap) aW.length _ hown ad ys.length c1 news hl (fun j u hu=>hnews ad rfl j u hu) hone (by simp only[maxLen];omega) hb (Nat.zero_le _)
    exact fin v' w' r1 r2 r3 (by simpa[Value.ownBlock]using r5)
def lG [Bk] (h:AH):AV→Option (Nat×Nat×List (Poly×List AV)×List (List AV)×Poly)
 | .seq sz base bP tail=>(lenOf base Bk.lens).map fun n=>(sz,base,bP,tail,tZ n (qI tail.length))
 | .cQ T sz id n=>match h id with
  | .sc T' sz' base bP tail n'=>if T'=T∧sz'=sz∧n'=n then some (sz,base,bP,tail,n)else none
  |_=>none
 |_=>none
theorem FG [Bk] {h h':AH} {x:AV} (e:∀id∈Fo x,h' id=h id):lG h' x=lG h x:=by
 cases x<;>simp only[lG]
 rename_i T sz id n;rw[e id (by simp[Fo])]
theorem xH [Bk] [Ev] {h:AH} {x:AV} {sz base:Nat} {bP:List (Poly×List AV)} {tail:List (List AV)} {n:Poly} (hx:lG h x=some (sz,base,bP,tail,n)):CE h x sz (rowsOf base bP tail):=by
 unfold lG at hx;split at hx
 ·rw[Option.map_eq_some_iff]at hx
  obtain⟨n0,h0,he⟩:=hx;cases he;exact .seq
 ·split at hx
  ·rename_i hh
   split at hx
   ·rename_i hc
    obtain⟨rfl,rfl,rfl⟩:=hc;cases hx;exact .cQ hh rfl
   ·cases hx
  ·cases hx
 ·cases hx
theorem Ij [Bk] [Ev] {h:AH} {x:AV} {sz base:Nat} {bP:List (Poly×List AV)} {tail:List (List AV)} {n:Poly} (hx:lG h x=some (sz,base,bP,tail,n)) {m:Nat→St} {A:Nat→Prop} {w:World} {v:Value} (H:bW m A h w) (hr:Rd m A w x v) :
  (∀q∈bP,InB base q.1)∧bR Ev.cX n=((rowsOf base bP tail).length:Int):=by
 unfold lG at hx;split at hx
 ·rw[Option.map_eq_some_iff]at hx
  obtain⟨n0,h0,he⟩:=hx;cases he;have e0:=xU h0;have hl:=fP base bP tail;exact⟨hr.FK.1,by rw[mO,oE];omega⟩
 ·split at hx
  ·rename_i hh
   split at hx
   ·rename_i hc
    obtain⟨rfl,rfl,rfl⟩:=hc;cases hx;obtain⟨h1,h2⟩:=H.EL hh;exact⟨h2,h1⟩
   ·cases hx
  ·cases hx
 ·cases hx
def Su [Bk] (n:Poly) (bytes:Nat):Bool:=decide ((bnd n).2*bytes≤140737488355328)&&decide ((bnd n).2≤1099511627776)
theorem FY [Bk] [Ev] {n:Poly} {bytes len:Nat} (h:Su n bytes=true) (hn:bR Ev.cX n=(len:Int)):len*bytes≤140737488355328∧len≤1099511627776:=by
 unfold Su at h;rw[Bool.and_eq_true,decide_eq_true_eq,decide_eq_true_eq]at h;have k:=(Ew n).2
 have:(len:Int)*bytes≤(bnd n).2*bytes:=Int.mul_le_mul_of_nonneg_right (by omega) (Int.natCast_nonneg _)
 have e:((len*bytes:Nat):Int)=(len:Int)*bytes:=by simp
 omega
def OP (h:AH) (e sz:Nat):AV→Option (List (Nat×bX)×List Nat)
 | .emp=>some ([],[])
 | .own T s id 0 0=>match h id with
  | .cells T' s' []=>if T'=T∧s'=s∧T=e∧s=sz then some ([(id,.dead)],[id])else none
  |_=>none
 |_=>none
theorem aht [Bk] [Ev] {h:AH} {e sz:Nat} {x:AV} {k:List (Nat×bX)} {rd:List Nat} (hx:OP h e sz x=some (k,rd)):vI h x e sz [] k:=by
 unfold OP at hx;split at hx
 ·cases hx;exact .emp
 ·split at hx
  ·rename_i hh
   split at hx
   ·rename_i hc
    obtain⟨rfl,rfl,rfl,rfl⟩:=hc;cases hx;exact .own hh rfl
   ·cases hx
  ·cases hx
 ·cases hx
def sM [Bk] (P:Program) (t:TypeId) (x y:AV) (h:AH) (nx:Nat):Option AR :=
 match P.underlying t with
 |some (.slice e)=>match P.info? e with
  |some i=>match i.zero with
   |some z=>if z.cells.size=i.size∧0<i.size∧jS h nx=true then match lG h y with
     |some (sz,base,bP,tail,n)=>match OP h e i.size x with
      |some (k,rd)=>if sz=i.size∧Su n i.bytes=true then some ⟨.cQ e i.size nx n,k++[(nx,.sc e i.size base bP tail n)],nx::rd++Fo y⟩else none
      |none=>match x with
       | .cQ T s id n0=>match h id with
        | .sc T' s' base' [] [] n1=>match Bk.SU.find? fun t=>t.1==base'&&t.2.1==base with
         |some q=>if bP.isEmpty=true∧tail.isEmpty=true∧T'=T∧s'=s∧n1=n0∧T=e∧s=i.size∧sz=i.size∧Su (tZ n0 n) i.bytes=true then
           some ⟨.cQ e i.size nx (tZ n0 n),[(id,.dead)]++[(nx,.sc e i.size q.2.2 [] [] (tZ n0 n))],nx::id::Fo y⟩else none
         |none=>none
        |_=>none
       |_=>none
     |none=>match x with
      | .cQ T s id n0=>match h id with
       | .sc T' s' base bP tail n1=>match gB h y with
        |some ys=>if T'=T∧s'=s∧n1=n0∧T=e∧s=i.size∧(ys.all fun q=>q.length==i.size)=true∧I2 y i.size=true∧Su (tZ n0 (qI ys.length)) i.bytes=true then
          some ⟨.cQ e i.size nx (tZ n0 (qI ys.length)),[(id,.dead)]++[(nx,.sc e i.size base bP (tail++ys) (tZ n0 (qI ys.length)))],nx::id::oU y⟩else none
        |none=>none
       |_=>none
      |_=>none
    else none
   |none=>none
  |none=>none
 |_=>none
theorem aaj [Bk] [Ev] {t:TypeId} {x y:Operand} {nx:Nat} {r:AR} (ho:o.op=.call { callee:=.builtin .append,args:=#[x,y],argTypes:=#[t,t] }) (hr:sM P t (cV f x) (cV f y) h nx=some r):cL P o f h r:=by
 unfold sM at hr;split at hr
 ·rename_i e he
  split at hr
  ·rename_i i hi
   split at hr
   ·rename_i z hz
    split at hr
    ·rename_i hc
     obtain⟨c1,c2,c3⟩:=hc;split at hr
     ·rename_i sz base bP tail n hy
      split at hr
      ·rename_i k rd hx
       split at hr
       ·rename_i Aa
        obtain⟨rfl,d2⟩:=Aa;cases hr;have key:∀m A w u,bW m A h w→Rd m A w (cV f y) u→lM (.sc e i.size base bP tail n)∧bR Ev.cX n=((rowsOf base bP tail).length:Int):=fun m A w u H hu=>by
         obtain⟨k1,k2⟩:=Ij hy H hu;exact⟨⟨k2,k1⟩,k2⟩
        intro m A w a H F;have hb:=FY d2 (key m A w _ H (F.eval y)).2
        exact sA ho he hi hz c1 c2 (aht hx) (xH hy) (by simpa using hb.1) (by simpa using hb.2) (kB c3) (B:=.sc e i.size base bP tail n) rfl
         (fun m A w v u H hv hu=>by simpa using key m A w u H hu) m A w a H F
       ·cases hr
      ·split at hr
       ·rename_i T s id n0 hax
        split at hr
        ·rename_i T' s' base' n1 hh
         split at hr
         ·rename_i q hq
          split at hr
          ·rename_i Aa
           obtain⟨u1,u2,rfl,rfl,rfl,rfl,rfl,rfl,d5⟩:=Aa;have u1:=List.isEmpty_iff.1 u1;have u2:=List.isEmpty_iff.1 u2;subst u1 u2;cases hr;have hp:=List.find?_some hq
           have hc:=Ev.cat q (List.mem_of_find?_eq_some hq)
           rw[Bool.and_eq_true]at hp;rw[show q.1=base' from eq_of_beq hp.1,show q.2.1=base from eq_of_beq hp.2]at hc
           have hrow:∀k,rowsOf k [] []=Ev.seq k:=fun k=>by unfold rowsOf;rw[List.append_nil];rfl
           have hap:rowsOf base' [] []++rowsOf base [] []=rowsOf q.2.2 [] []:=by rw[hrow,hrow,hrow];exact hc.symm
           intro m A w a H F;obtain⟨k1,k2⟩:=H.EL hh;obtain⟨g1,g2⟩:=Ij hy H (F.eval y)
           have e1:bR Ev.cX (tZ n1 n)=(((rowsOf base' [] []).length+(rowsOf base [] []).length:Nat):Int):=by rw[mO,k1,g2];simp
           have hb:=FY d5 e1;refine sA ho he hi hz c1 c2 (by rw[hax];exact .cQ hh rfl) (xH hy) hb.1 hb.2 (kB c3) (B:=.sc T' i.size q.2.2 [] [] (tZ n1 n)) (by simp only[bX.aW];rw[hap])
            (fun m A w v u H hv hu=>⟨⟨by rw[e1,←hap];simp,fun t ht=>absurd ht List.not_mem_nil⟩,e1⟩) m A w a H F
          ·cases hr
         ·cases hr
        ·cases hr
       ·cases hr
     ·split at hr
      ·rename_i T s id n0 hax
       split at hr
       ·rename_i T' s' base bP tail n1 hh
        split at hr
        ·rename_i ys hys
         split at hr
         ·rename_i Aa
          obtain⟨rfl,rfl,rfl,rfl,rfl,d3,d4,d5⟩:=Aa;cases hr;have hlen:∀q∈ys,q.length=i.size:=fun q hq=>by simpa using List.all_eq_true.1 d3 q hq
          have hap:rowsOf base bP tail++ys=rowsOf base bP (tail++ys):=by unfold rowsOf;rw[List.append_assoc]
          intro m A w a H F;obtain⟨k1,k2⟩:=H.EL hh;have e1:bR Ev.cX (tZ n1 (qI ys.length))=(((rowsOf base bP tail).length+ys.length:Nat):Int):=by rw[mO,oE,k1];simp
          have hb:=FY d5 e1;refine sA ho he hi hz c1 c2 (by rw[hax];exact .cQ hh rfl) (.aW hys hlen ?_) hb.1 hb.2 (kB c3) (B:=.sc T' i.size base bP (tail++ys) (tZ n1 (qI ys.length))) (by simp only[bX.aW];rw[hap])
           (fun m A w v u H hv hu=>⟨⟨by rw[e1,←hap];simp,k2⟩,e1⟩) m A w a H F
          intro T s id j n' hx';rw[hx']at d4;simpa[I2]using d4
         ·cases hr
        ·cases hr
       ·cases hr
      ·cases hr
    ·cases hr
   ·cases hr
  ·cases hr
 ·cases hr
def fK [Bk] (P:Program) (op:Op) (ρ:Operand→AV) (h:AH) (nx:Nat):Option AR :=
 match op with
 | .load t x=>match zJ h (ρ x)with
  |some q=>match kR P t q.2.2 q.2.1 with
   |some v=>some ⟨v,[],Fo (ρ x)⟩
   |none=>none
  |none=>none
 | .nilCheck x=>match zJ h (ρ x)with
  |some _=>some ⟨ρ x,[],Fo (ρ x)⟩
  |none=>none
 | .fieldAddr t x k=>match lS P t k with
  |some (_,o',n)=>if n≠0 then match zJ h (ρ x)with
    |some _=>some ⟨Ir o' (ρ x),[],Fo (ρ x)⟩
    |none=>none
   else none
  |none=>none
 | .indexAddr t x ix=>match P.underlying t with
  |some (.slice e)=>match toP (ρ ix)with
   |some p=>match lU h (ρ x)with
    |some n=>if afr p n=true then match ρ x with
      | .seq sz base bP tail=>if dB P e=some sz then some ⟨.sR sz base bP tail p 0,[],[]⟩else none
      | .cQ T sz id n'=>if dB P e=some sz∧n'=n then some ⟨.lV sz id p 0,[],[id]⟩else none
      |_=>none
     else none
    |none=>none
   |none=>none
  |some (.array len e)=>match dB P e,ρ ix with
   |some s,.c (.int _ n)=>if 0≤n∧n.toNat<len then match zJ h (ρ x)with
     |some _=>some ⟨Ir (n.toNat*s) (ρ x),[],Fo (ρ x)⟩
     |none=>none
    else none
   |_,_=>none
  |_=>none
 | .store t x y=>match fG (ρ y)with
  |some xs=>if dB P t=some xs.length then match uN h (ρ x) xs with
    |some q=>some ⟨.undef,[q],Fo (ρ x)⟩
    |none=>none
   else none
  |none=>none
 | .call { callee:=.builtin b,args,argTypes }=>match b with
  | .len=>match args.toList,argTypes.toList with
   |[x],[t]=>match P.underlying t with
    |some (.slice _)=>match lU h (ρ x)with
     |some n=>some ⟨wP n,[],Fo (ρ x)⟩
     |none=>none
    |_=>none
   |_,_=>none
  | .append=>match args.toList,argTypes.toList with
   |[x,y],[t,t']=>if t'=t then sM P t (ρ x) (ρ y) h nx else none
   |_,_=>none
  |_=>none
 |_=>none
theorem aio [Bk] [Ev] {nx:Nat} {r:AR} (hr:fK P o.op (cV f) h nx=some r):cL P o f h r:=by
 obtain⟨dst,op,ty,rk,pos,guard⟩:=o;cases op with
 |load t x =>
  simp only[fK]at hr;split at hr
  ·rename_i q hx
   split at hr
   ·rename_i v hp;cases hr;exact acw rfl hx hp
   ·cases hr
  ·cases hr
 |nilCheck x =>
  simp only[fK]at hr;split at hr
  ·rename_i q hx;cases hr;exact My rfl hx
  ·cases hr
 |fieldAddr t x k =>
  simp only[fK]at hr;split at hr
  ·rename_i ty' o' n hf
   split at hr
   ·rename_i hn
    split at hr
    ·rename_i q hx;cases hr;exact I8 rfl hx hf hn
    ·cases hr
   ·cases hr
  ·cases hr
 |indexAddr t x ix =>
  simp only[fK]at hr;split at hr
  ·rename_i e hu
   split at hr
   ·rename_i p hp
    split at hr
    ·rename_i n hn
     split at hr
     ·rename_i hin
      split at hr
      ·rename_i sz base bP tail hx
       split at hr
       ·rename_i hs
        cases hr;rw[hx]at hn;exact C7 rfl hx hp hu hs hn hin
       ·cases hr
      ·rename_i T sz id n' hx
       split at hr
       ·rename_i hs
        obtain⟨hs,rfl⟩:=hs;cases hr;rw[hx]at hn;exact AI rfl hx hp hu hs hn hin
       ·cases hr
      ·cases hr
     ·cases hr
    ·cases hr
   ·cases hr
  ·rename_i len e hu
   split at hr
   ·rename_i s k n hs hi
    split at hr
    ·rename_i hc
     split at hr
     ·rename_i q hx;cases hr;exact I7 rfl hx hi hu hs hc.1 hc.2
     ·cases hr
    ·cases hr
   ·cases hr
  ·cases hr
 |store t x y =>
  simp only[fK]at hr;split at hr
  ·rename_i xs hy
   split at hr
   ·rename_i ht
    split at hr
    ·rename_i q hq;cases hr;exact Xt rfl hy ht hq
    ·cases hr
   ·cases hr
  ·cases hr
 |call c =>
  obtain⟨callee,args,argTypes⟩:=c;cases callee with
  |builtin b =>
   cases b with
   |len =>
    simp only[fK]at hr;split at hr
    ·rename_i x t ha ht
     rw[Pw ha,Pw ht];split at hr
     ·rename_i e hu
      split at hr
      ·rename_i n hn;cases hr;exact Xv rfl hu hn
      ·cases hr
     ·cases hr
    ·cases hr
   |append =>
    simp only[fK]at hr;split at hr
    ·rename_i x y t t' ha ht
     rw[Pv ha,Pv ht];split at hr
     ·rename_i e
      subst e;exact aaj rfl hr
     ·cases hr
    ·cases hr
   |_=>simp[fK]at hr
  |_=>simp[fK]at hr
 |_=>simp[fK]at hr
theorem akU [Bk] {op:Op} {ρ ρ':Operand→AV} {h:AH} {nx:Nat} (ha:∀x∈op.operands.toList,ρ' x=ρ x):fK P op ρ' h nx=fK P op ρ h nx:=by
 cases op with
 |call c =>
  obtain⟨callee,args,argTypes⟩:=c;cases callee with
  |builtin b =>
   have e:∀x∈args.toList,ρ' x=ρ x:=fun x hx=>ha x (by simp[Op.operands,Call.operands];simpa using hx)
   cases b<;>simp only[fK]
   all_goals (rcases hargs:args.toList with _|⟨x,_|⟨y,_|⟨z,r⟩⟩⟩<;>rw[hargs]at e<;>simp only[List.mem_cons,List.not_mem_nil,or_false,forall_eq_or_imp,forall_eq,implies_true,false_implies]at e<;>(try simp only[e])<;>(rcases argTypes.toList with _|⟨t1,_|⟨t2,_|⟨t3,q⟩⟩⟩<;>(try simp only[e])))
  |_=>simp[fK]
 |store t x y =>
  have h1:=ha x (by simp[Op.operands]);have h2:=ha y (by simp[Op.operands])
  simp only[fK,h1,h2]
 |indexAddr t x y =>
  have h1:=ha x (by simp[Op.operands]);have h2:=ha y (by simp[Op.operands])
  simp only[fK,h1,h2]
 |load t x=>have h1:=ha x (by simp[Op.operands]);simp only[fK,h1]
 |nilCheck x=>have h1:=ha x (by simp[Op.operands]);simp only[fK,h1]
 |fieldAddr t x k=>have h1:=ha x (by simp[Op.operands]);simp only[fK,h1]
 |_=>simp[fK]
theorem P6 [Bk] {h h':AH} {x:AV} (e:∀id∈Fo x,h' id=h id):lU h' x=lU h x:=by
 cases x<;>simp only[lU]
 rename_i T sz id n;rw[e id (by simp[Fo])]
theorem Of [Bk] {h h':AH} {x:AV} (e:∀id∈Fo x,h' id=h id):zJ h' x=zJ h x:=by
 cases x<;>simp only[zJ]
 rename_i sz id p off;rw[e id (by simp[Fo])]
theorem adD [Bk] {h h':AH} {x:AV} {xs:List AV} (e:∀id∈Fo x,h' id=h id):uN h' x xs=uN h x xs:=by
 cases x<;>simp only[uN]
 rename_i sz id p off;rw[e id (by simp[Fo])]
theorem ab1 [Bk] {h:AH} {x:AV} {xs:List AV} {q:Nat×bX} (hq:uN h x xs=some q):q.1∈Fo x:=by
 unfold uN at hq;split at hq
 ·split at hq
  ·split at hq
   ·split at hq
    ·split at hq
     ·cases hq;simp[Fo]
     ·cases hq
    ·cases hq
   ·cases hq
  ·cases hq
 ·cases hq
theorem akg [Bk] {h h':AH} {e sz:Nat} {x:AV} {k:List (Nat×bX)} {rd:List Nat} (hx:OP h e sz x=some (k,rd)) (hh:∀id∈rd,h' id=h id):OP h' e sz x=some (k,rd):=by
 unfold OP at hx ⊢;split at hx
 ·exact hx
 ·rename_i T s id
  split at hx
  ·rename_i h0
   split at hx
   ·rename_i hc
    cases hx;rw[hh id (by simp),h0]
    simp only
    rw[if_pos hc]
   ·cases hx
  ·cases hx
 ·cases hx
theorem ahs [Bk] {h:AH} {e sz:Nat} {x:AV} {k:List (Nat×bX)} {rd:List Nat} (hx:OP h e sz x=some (k,rd)):k.map (·.1)=rd:=by
 unfold OP at hx;split at hx
 ·cases hx;rfl
 ·split at hx
  ·split at hx
   ·cases hx;rfl
   ·cases hx
  ·cases hx
 ·cases hx
theorem ac8 [Bk] [Ev] {t:TypeId} {x y:AV} {h h':AH} {nx:Nat} {r:AR} (hr:sM P t x y h nx=some r) (hag:∀id∈r.uJ,h' id=h id):sM P t x y h' nx=some r:=by
 unfold sM at hr ⊢;split at hr
 ·rename_i e he
  split at hr
  ·rename_i i hi
   split at hr
   ·rename_i z hz
    split at hr
    ·rename_i hc
     split at hr
     ·rename_i sz base bP tail n hy
      split at hr
      ·rename_i k rd hx
       split at hr
       ·rename_i Aa
        cases hr;have e0:jS h' nx=jS h nx:=oR (hag nx (by simp))
        have e1:=akg hx (h':=h') fun id hid=>hag id (by simp[hid])
        have e2:lG h' y=lG h y:=FG fun id hid=>hag id (by simp[hid])
        simp only[hi,hz,e0,e1,e2,hy];rw[if_pos hc,if_pos Aa]
       ·cases hr
      ·split at hr
       ·rename_i T s id n0 _
        split at hr
        ·rename_i T' s' base' n1 hh
         split at hr
         ·rename_i q hq
          split at hr
          ·rename_i Aa
           cases hr;have e0:jS h' nx=jS h nx:=oR (hag nx (by simp))
           have e1:h' id=h id:=hag id (by simp)
           have e2:lG h' y=lG h y:=FG fun id hid=>hag id (by simp[hid])
           have e3:OP h' e i.size (.cQ T s id n0)=none:=rfl
           simp only[hi,hz,e0,e1,hh,e2,hy,e3,hq];rw[if_pos hc,if_pos Aa]
          ·cases hr
         ·cases hr
        ·cases hr
       ·cases hr
     ·rename_i hy
      split at hr
      ·rename_i T s id n0
       split at hr
       ·rename_i T' s' base bP tail n1 hh
        split at hr
        ·rename_i ys hys
         split at hr
         ·rename_i Aa
          cases hr;have e0:jS h' nx=jS h nx:=oR (hag nx (by simp))
          have e1:h' id=h id:=hag id (by simp)
          have e2:gB h' y=gB h y:=zR fun id hid=>hag id (by simp[hid])
          have e3:lG h' y=none:=by
           unfold gB at hys;split at hys<;>first|rfl|cases hys
          simp only[hi,hz,e0,e1,hh,e2,hys,e3];rw[if_pos hc,if_pos Aa]
         ·cases hr
        ·cases hr
       ·cases hr
      ·cases hr
    ·cases hr
   ·cases hr
  ·cases hr
 ·cases hr
theorem akT [Bk] [Ev] {op:Op} {ρ:Operand→AV} {h h':AH} {nx:Nat} {r:AR} (hr:fK P op ρ h nx=some r) (hag:∀id∈r.uJ,h' id=h id):fK P op ρ h' nx=some r:=by
 cases op with
 |load t x =>
  simp only[fK]at hr ⊢;split at hr
  ·rename_i q hx
   split at hr
   ·rename_i v hp;cases hr;rw[Of (x:=ρ x) hag,hx];simp only[hp]
   ·cases hr
  ·cases hr
 |nilCheck x =>
  simp only[fK]at hr ⊢;split at hr
  ·rename_i q hx;cases hr;rw[Of (x:=ρ x) hag,hx]
  ·cases hr
 |fieldAddr t x k =>
  simp only[fK]at hr ⊢;split at hr
  ·rename_i ty' o' n hf
   split at hr
   ·rename_i hn
    split at hr
    ·rename_i q hx;cases hr;simp only[Of (x:=ρ x) hag,hx];rw[if_pos hn]
    ·cases hr
   ·cases hr
  ·cases hr
 |indexAddr t x ix =>
  simp only[fK]at hr ⊢;split at hr
  ·rename_i e hu
   split at hr
   ·rename_i p hp
    split at hr
    ·rename_i n hn
     split at hr
     ·rename_i hin
      split at hr
      ·rename_i sz base bP tail hx
       split at hr
       ·rename_i hs
        cases hr;rw[hx]at hn;have e1:lU h' (.seq sz base bP tail)=some n:=hn
        simp only[hx,e1];rw[if_pos hin,if_pos hs]
       ·cases hr
      ·rename_i T sz id n' hx
       split at hr
       ·rename_i hs
        cases hr;rw[hx]at hn;have e1:lU h' (.cQ T sz id n')=some n:=by rw[P6 (h:=h)];exact hn;intro id' hid;exact hag id' (by simpa[Fo]using hid)
        simp only[hx,e1];rw[if_pos hin,if_pos hs]
       ·cases hr
      ·cases hr
     ·cases hr
    ·cases hr
   ·cases hr
  ·rename_i len e hu
   split at hr
   ·rename_i s k n hs hi
    split at hr
    ·rename_i hc
     split at hr
     ·rename_i q hx
      cases hr;simp only[Of (x:=ρ x) hag,hx];rw[if_pos hc]
     ·cases hr
    ·cases hr
   ·cases hr
  ·cases hr
 |store t x y =>
  simp only[fK]at hr ⊢;split at hr
  ·rename_i xs hy
   split at hr
   ·rename_i ht
    split at hr
    ·rename_i q hq
     cases hr;simp only[adD (x:=ρ x) hag,hq];rw[if_pos ht]
    ·cases hr
   ·cases hr
  ·cases hr
 |call c =>
  obtain⟨callee,args,argTypes⟩:=c;cases callee with
  |builtin b =>
   cases b with
   |len =>
    simp only[fK]at hr ⊢;split at hr
    ·rename_i x t ha ht
     split at hr
     ·rename_i e hu
      split at hr
      ·rename_i n hn
       cases hr;simp only[P6 (x:=ρ x) hag,hn]
      ·cases hr
     ·cases hr
    ·cases hr
   |append =>
    simp only[fK]at hr ⊢;split at hr
    ·rename_i x y t t' ha ht
     split at hr
     ·rename_i e
      rw[if_pos e];exact ac8 hr hag
     ·cases hr
    ·cases hr
   |_=>simp[fK]at hr
  |_=>simp[fK]at hr
 |_=>simp[fK]at hr
theorem agd [Bk] [Ev] {op:Op} {ρ:Operand→AV} {h:AH} {nx:Nat} {r:AR} (hr:fK P op ρ h nx=some r):∀id∈r.bP.map (·.1),id∈r.uJ:=by
 cases op with
 |store t x y =>
  simp only[fK]at hr;split at hr
  ·split at hr
   ·split at hr
    ·rename_i q hq
     cases hr;intro id hid;simp only[List.map_cons,List.map_nil,List.mem_singleton]at hid;subst hid;exact ab1 hq
    ·cases hr
   ·cases hr
  ·cases hr
 |call c =>
  obtain⟨callee,args,argTypes⟩:=c;cases callee with
  |builtin b =>
   cases b with
   |append =>
    simp only[fK]at hr;split at hr
    ·split at hr
     ·unfold sM at hr
      repeat' split at hr
      all_goals (first|cases hr|skip)
      ·rename_i hx _
       have:=ahs hx
       intro id hid;simp only[List.map_append,List.mem_append,this,List.map_cons,List.map_nil,List.mem_singleton]at hid;rcases hid with h|h
       ·simp[h]
       ·simp[h]
      all_goals (intro id hid;simp at hid ⊢;rcases hid with h|h<;>simp[h])
     ·cases hr
    ·cases hr
   |_ =>
    simp only[fK]at hr;try (repeat' split at hr)
    all_goals (first|cases hr|skip)
    all_goals simp
  |_=>simp[fK]at hr
 |_ =>
  simp only[fK]at hr;try (repeat' split at hr)
  all_goals (first|cases hr|skip)
  all_goals simp
theorem NN [Bk] {op:Op} {ρ:Operand→AV} {h h':AH} {nx nx':Nat} {r:AR} (hr:fK P op ρ h nx=some r):hZ P op ρ h' nx'=none:=by
 have row:∀{x:AV} {q},zJ h x=some q→(∃sz base bP tail p off,x=.sR sz base bP tail p off)∨∃sz id p off,x=.lV sz id p off:=by
  intro x q hx;unfold zJ at hx;split at hx
  ·exact .inl ⟨_,_,_,_,_,_,rfl⟩
  ·exact .inr ⟨_,_,_,_,rfl⟩
  ·cases hx
 have sq:∀{x:AV} {n},lU h x=some n→(∃sz base bP tail,x=.seq sz base bP tail)∨∃T sz id n,x=.cQ T sz id n:=by
  intro x q hx;unfold lU at hx;split at hx
  ·exact .inl ⟨_,_,_,_,rfl⟩
  ·exact .inr ⟨_,_,_,_,rfl⟩
  ·cases hx
 cases op with
 |load t x =>
  simp only[fK]at hr;split at hr
  ·rename_i q hx
   rcases row hx with⟨sz,base,bP,tail,p,off,e⟩|⟨sz,id,p,off,e⟩<;>simp only[hZ,e]
  ·cases hr
 |nilCheck x =>
  simp only[fK]at hr;split at hr
  ·rename_i q hx
   rcases row hx with⟨sz,base,bP,tail,p,off,e⟩|⟨sz,id,p,off,e⟩<;>simp only[hZ,e]
  ·cases hr
 |fieldAddr t x k =>
  simp only[fK]at hr;split at hr
  ·rename_i ty' o' n hf
   split at hr
   ·rename_i hn
    split at hr
    ·rename_i q hx
     rcases row hx with⟨sz,base,bP,tail,p,off,e⟩|⟨sz,id,p,off,e⟩<;>simp only[hZ,e,hf]<;>split<;>rfl
    ·cases hr
   ·cases hr
  ·cases hr
 |indexAddr t x ix =>
  simp only[fK]at hr;split at hr
  ·rename_i e hu
   split at hr
   ·rename_i p hp
    split at hr
    ·rename_i n hn
     rcases sq hn with⟨sz,base,bP,tail,e⟩|⟨T,sz,id,n,e⟩<;>simp only[hZ,e,hu]<;>split<;>rfl
    ·cases hr
   ·cases hr
  ·rename_i len e hu
   split at hr
   ·rename_i s k n hs hi
    split at hr
    ·rename_i hc
     split at hr
     ·rename_i q hx
      rcases row hx with⟨sz,base,bP,tail,p,off,e⟩|⟨sz,id,p,off,e⟩<;>simp only[hZ,e,hu,hi,hs]<;>split<;>rfl
     ·cases hr
    ·cases hr
   ·cases hr
  ·cases hr
 |store t x y =>
  simp only[fK]at hr;split at hr
  ·split at hr
   ·split at hr
    ·rename_i q hq
     unfold uN at hq;split at hq
     ·rename_i sz id p off hx
      simp only[hZ,hx]
     ·cases hq
    ·cases hr
   ·cases hr
  ·cases hr
 |call c =>
  obtain⟨callee,args,argTypes⟩:=c;cases callee with
  |builtin b =>
   cases b with
   |len =>
    simp only[fK]at hr;split at hr
    ·rename_i x t ha ht
     split at hr
     ·rename_i e hu
      split at hr
      ·rename_i n hn
       rcases sq hn with⟨sz,base,bP,tail,e⟩|⟨T,sz,id,n,e⟩<;>simp only[hZ,ha,ht,e,hu,gB]
      ·cases hr
     ·cases hr
    ·cases hr
   |append =>
    simp only[fK]at hr;split at hr
    ·rename_i x y t t' ha ht
     split at hr
     ·rename_i e
      subst e;have hx:gB h' (ρ y)=none∨∀e sz,sL h' e sz (ρ x)=none:=by
       unfold sM at hr;split at hr
       ·split at hr
        ·split at hr
         ·split at hr
          ·split at hr
           ·rename_i hy
            refine .inl ?_
            unfold lG at hy;split at hy
            ·rename_i e;rw[e];rfl
            ·rename_i e;rw[e];rfl
            ·cases hy
           ·split at hr
            ·rename_i e;exact .inr fun _ _=>by rw[e];rfl
            ·cases hr
          ·cases hr
         ·cases hr
        ·cases hr
       ·cases hr
      simp only[hZ,ha,ht,if_true];unfold sP;split
      ·split
       ·split
        ·split
         ·rename_i h1 h2
          rcases hx with hx|hx
          ·rw[hx]at h2;cases h2
          ·rw[hx]at h1;cases h1
         ·rfl
        ·rfl
       ·rfl
      ·rfl
     ·cases hr
    ·cases hr
   |_=>simp[fK]at hr
  |_=>simp[fK]at hr
 |_=>simp[fK]at hr
def yI [Bk] (P:Program) (op:Op) (ρ:Operand→AV) (h:AH) (nx:Nat):Option AR :=
 match hZ P op ρ h nx with
 |some r=>some r
 |none=>fK P op ρ h nx
theorem aim [Bk] [Ev] {nx:Nat} {r:AR} (hr:yI P o.op (cV f) h nx=some r):cL P o f h r:=by
 unfold yI at hr;split at hr
 ·rename_i r' h1;cases hr;exact LY h1
 ·exact aio hr
theorem akS [Bk] [Ev] {op:Op} {ρ ρ':Operand→AV} {h:AH} {nx:Nat} (ha:∀x∈op.operands.toList,ρ' x=ρ x):yI P op ρ' h nx=yI P op ρ h nx:=by
 unfold yI;rw[amj ha,akU ha]
theorem akR [Bk] [Ev] {op:Op} {ρ:Operand→AV} {h h':AH} {nx:Nat} {r:AR} (hr:yI P op ρ h nx=some r) (hag:∀id∈r.uJ,h' id=h id):yI P op ρ h' nx=some r:=by
 unfold yI at hr ⊢;split at hr
 ·rename_i r' h1;cases hr;rw[ami h1 hag]
 ·rw[NN (h':=h') (nx':=nx) hr];exact akT hr hag
theorem aga [Bk] [Ev] {op:Op} {ρ:Operand→AV} {h:AH} {nx:Nat} {r:AR} (hr:yI P op ρ h nx=some r):∀id∈r.bP.map (·.1),id∈r.uJ:=by
 unfold yI at hr;split at hr
 ·rename_i r' h1;cases hr;exact ail h1
 ·exact agd hr
end
end Mc
namespace Mc
section
variable {P:Program} {h:AH}
theorem bW.R6 [Bk] [Ev] {m:Nat→St} {A:Nat→Prop} {w:World} (H:bW m A h w) {id b:Nat} {st st':LS} {f:List AV} {ps:Array Tmp} {as bd:Code} {L L':Loop} (hh:h id=.lp st f ps as bd) (hb:m id=.at b) (hL:w.heap[b]?=some (.loop L)) (h1:L'.state=st'.st) (h2:L'.pending=st'.pe) (h3:L'.params=L.params) (h4:L'.assign=L.assign) (h5:L'.body=L.body) (h6:L'.tmps=L.tmps) :
  bW m A (cH h id (.lp st' f ps as bd)) (w.putObj b (.loop L'))∧Ext m w m (w.putObj b (.loop L')):=by
 have hsame:(w.putObj b (.loop L')).heap[b]?=some (.loop L'):=World.putObj_heap_same (Array.getElem?_eq_some_iff.1 hL).1
 obtain⟨b',hb',L0,k1,k2,k3,k4,k5,k6,k7,k8⟩:=H.loops id st f ps as bd hh;rw[hb]at hb';cases hb';rw[hL]at k1;cases k1;exact H.acs hh rfl rfl hb hL (by simp[dS,hsame,hL]) fun E=>⟨L',hsame,h1,h2,h3.trans k4,h4.trans k5,h5.trans k6,by rw[h6];exact k7,fun i x hx=>by rw[h6];exact(k8 i x hx).ext E⟩
theorem bW.afa [Bk] [Ev] {m:Nat→St} {A:Nat→Prop} {w:World} (H:bW m A h w) {id:Nat} {f:List AV} {L:Loop} (hid:h id=.no) (h1:L.state=.ready) (h2:L.pending=none) (h3:L.tmps.size=f.length) (h4:∀(i:Nat) (x:AV),f[i]?=some x→Rd m A w x (L.tmps.getD i Go.undef)) :
  bW (sset m id (.at w.heap.size)) A (cH h id (.lp .ready f L.params L.assign L.body)) (w.alloc (.loop L))∧Ext m w (sset m id (.at w.heap.size)) (w.alloc (.loop L)) :=
 H.acu hid rfl fun E=>⟨L,World.alloc_heap_new w _,h1,h2,rfl,rfl,rfl,h3,fun i x hx=>(h4 i x hx).ext E⟩
theorem bW.acC [Bk] [Ev] {m:Nat→St} {A:Nat→Prop} {w:World} (H:bW m A h w) {id b:Nat} {st:LS} {f:List AV} {ps:Array Tmp} {as bd:Code} {L:Loop} (hh:h id=.lp st f ps as bd) (hb:m id=.at b) (hL:w.heap[b]?=some (.loop L)) (o:Obj) :
  bW (sset m id .dead) A (cH h id .dead) (w.putObj b o)∧Ext m w (sset m id .dead) (w.putObj b o):=by
 have hsz:(w.putObj b o).heap.size=w.heap.size:=World.putObj_size
 have hot:∀k,k≠b→(w.putObj b o).heap[k]?=w.heap[k]?:=fun k e=>World.putObj_heap_other e
 have sat:∀k b',sset m id .dead k=.at b'→k≠id∧m k=.at b':=by
  intro k b' hk;unfold sset at hk;split at hk
  ·cases hk
  ·rename_i hne;exact⟨hne,hk⟩
 have nb:∀k b',k≠id→m k=.at b'→b'≠b:=by
  rintro k b' hne hk rfl
  exact hne (H.inj k id b' hk hb)
 have E:Ext m w (sset m id .dead) (w.putObj b o):=by
  refine⟨rfl,rfl,rfl,by rw[hsz];exact Nat.le_refl _,?_,?_,?_,?_,?_⟩
  ·intro k b' hk
   unfold sset;split
   ·exact .inr rfl
   ·exact .inl hk
  ·intro k hk
   unfold sset;split
   ·rfl
   ·exact hk
  ·intro k hk
   unfold sset;split
   ·exact .inr rfl
   ·exact .inl hk
  ·intro k hk hu
   exact⟨fun id' h1=>hu id' (sat id' k h1).2,hot k (by rintro rfl;exact hu id hb)⟩
  ·intro id' k h1 h2
   obtain⟨h3,h4⟩:=sat id' k h2;simp[dS,hot k (nb id' k h3 h4)]
 refine⟨⟨fun k b' hk=>H.out k b' (sat k b' hk).2,fun k hk=>by rw[hsz];exact H.FO k hk,?_,?_,?_,fun i j b' hi hj=>H.inj i j b' (sat i b' hi).2 (sat j b' hj).2,H.jF.ext H.out E,H.lA E fun k B hk hB=>?_,lM.set H.PD trivial⟩,E⟩
 ·intro k hk
  unfold cH at hk;unfold sset;split at hk
  ·cases hk
  ·rename_i hne;rw[if_neg hne];exact H.no k hk
 ·intro k hk
  unfold cH at hk;unfold sset;split at hk
  ·rename_i he;rw[if_pos he]
  ·rename_i hne;rw[if_neg hne];exact H.dead k hk
 ·intro k T sz aW hk
  unfold cH at hk;split at hk
  ·simp[bX.aW]at hk
  ·rename_i hne
   obtain⟨g1,g2⟩|⟨b',cs,g1,g2,g3,g4,g5⟩:=H.qT k T sz aW hk
   ·exact .inl ⟨by simp[sset,hne,g1],g2⟩
   ·exact .inr ⟨b',cs,by simp[sset,hne,g1],(hot b' (nb k b' hne g1)).trans g2,g3,g4,fun i j x hx=>⟨(g5 i j x hx).1,(g5 i j x hx).2.ext E⟩⟩
 ·unfold cH at hk;split at hk
  ·subst hk;exact absurd hB (by simp[bX.other])
  ·rename_i hne
   exact⟨hk,fun b' hb'=>⟨by simp[sset,hne,hb'],hot b' (nb k b' hne hb')⟩⟩
def Nb (f:List AV) (ps:Array Tmp) (args:List AV):List AV:=(ps.toList.zip args).foldl (fun f q=>f.set q.1 q.2) f
theorem Ro [Bk] [Ev] {m:Nat→St} {A:Nat→Prop} {w:World}:∀(ps:List Tmp) (args:List AV) (vs:List Value) (f:List AV) (ts:Array Value),ts.size=f.length→(∀(i:Nat) (x:AV),f[i]?=some x→Rd m A w x (ts.getD i Go.undef))→vs.length=args.length→(∀(i:Nat) (x:AV),args[i]?=some x→Rd m A w x (vs.getD i Go.undef)) →
  ((ps.zip vs).foldl (fun t q=>t.setIfInBounds q.1 q.2) ts).size=((ps.zip args).foldl (fun f q=>f.set q.1 q.2) f).length ∧
  ∀(i:Nat) (x:AV),((ps.zip args).foldl (fun f q=>f.set q.1 q.2) f)[i]?=some x→Rd m A w x (((ps.zip vs).foldl (fun t q=>t.setIfInBounds q.1 q.2) ts).getD i Go.undef)
 |[],_,_,f,ts,h1,h2,_,_=>⟨h1,h2⟩
 |p::ps,[],[],f,ts,h1,h2,_,_=>⟨h1,h2⟩
 |p::ps,[],v::vs,f,ts,_,_,h3,_=>by simp at h3
 |p::ps,x::xs,[],f,ts,_,_,h3,_=>by simp at h3
 |p::ps,x::xs,v::vs,f,ts,h1,h2,h3,h4=>by
  have hx:=h4 0 x rfl;simp only[List.zip_cons_cons,List.foldl_cons];refine Ro ps xs vs (f.set p x) (ts.setIfInBounds p v) (by simp[h1]) ?_ (by simpa using h3) (fun i y hy=>h4 (i+1) y (by simpa using hy))
  intro i y hy;rw[List.getElem?_set]at hy;split at hy
  ·rename_i e
   subst e;split at hy
   ·rename_i hl
    cases hy;have:p<ts.size:=by rw[h1];exact hl
    simp[this]
    simpa using hx
   ·cases hy
  ·rename_i e
   have:(ts.setIfInBounds p v).getD i Go.undef=ts.getD i Go.undef:=by
    simp[Array.getElem?_setIfInBounds_ne e]
   rw[this];exact h2 i y hy
theorem abO {ps:Array Tmp} {vs:Array Value} {ts:Array Value}:(ps.zip vs).foldl (fun t (p,v)=>t.setIfInBounds p v) ts=(ps.toList.zip vs.toList).foldl (fun t q=>t.setIfInBounds q.1 q.2) ts:=by
 rw[←Array.foldl_toList,Array.toList_zip]
def pQ [Bk] [Ev] (P:Program) (id:Nat) (args:List AV) (h:AH) (R:AV→AH→Prop):Prop :=
 ∀r m A w u (vs:Array Value),bW m A h w→Rd m A w (.rN id) u→vs.size=args.length→(∀(i:Nat) (x:AV),args[i]?=some x→Rd m A w x (vs.getD i Go.undef)) →
  ∃b fn tmps as bd,u=.func (.yield b) #[] #[]∧(Instr.yield b vs).run P w=.ok (.round b fn tmps as bd) w ∧
   RoundIn (fw r) 8 P b fn tmps as bd w fun e w'=>∃v u m' h',e=.returned v∧R u h'∧bW m' A h' w'∧Rd m' A w' u v∧Ext m w m' w'
theorem pQ.mono [Bk] [Ev] {id:Nat} {args:List AV} {R R':AV→AH→Prop} (k:pQ P id args h R) (hr:∀v h,R v h→R' v h):pQ P id args h R':=by
 intro r m A w u vs H hu hl hv;obtain⟨b,fn,tmps,as,bd,h1,h2,h3⟩:=k r m A w u vs H hu hl hv;exact⟨b,fn,tmps,as,bd,h1,h2,h3.mono fun e w' ⟨v,u,m',h',h1,h2,h3⟩=>⟨v,u,m',h',h1,hr _ _ h2,h3⟩⟩
theorem Rd.akQ [Bk] [Ev] {m:Nat→St} {A:Nat→Prop} {w:World} {id b:Nat} {u:Value} (h:Rd m A w (.rN id) u) (g:m id=.at b):u=.func (.yield b) #[] #[]:=by
 cases h with
 |pure _ _ h=>cases h
 |rN _ b' hm=>rw[g]at hm;cases hm;rfl
 |Ml _ _ hm=>rw[g]at hm;cases hm
def aax (R:AV→AH→Prop) (id:Nat):Exit→List AV→AH→Prop
 | .normal,_,h=>∃f ps as bd,h id=.lp .busy f ps as bd∧R (.c (.bool true)) (cH h id (.lp .ready f ps as bd))
 | .ret,_,h=>∃f ps as bd,h id=.lp .busy f ps as bd∧R (.c (.bool false)) (cH h id (.lp (.done .ret) f ps as bd))
 | .exit i,_,h=>∃f ps as bd,h id=.lp .busy f ps as bd∧R (.c (.bool false)) (cH h id (.lp (.done (.exit i)) f ps as bd))
 |_,_,_=>False
theorem pQ.gY [Bk] [Ev] {id:Nat} {args:List AV} {f:List AV} {ps:Array Tmp} {as bd:Code} {R:AV→AH→Prop} (hh:h id=.lp .ready f ps as bd) (hl:args.length=ps.size)
  (k:fT P false as (fun e f1 h1=>e=.normal∧∃f' ps' as' bd',h1 id=.lp .ready f' ps' as' bd'∧fT P false bd (aax R id) f1 (cH h1 id (.lp .busy f' ps' as' bd'))) (Nb f ps args) h):pQ P id args h R:=by
 intro r m A w u vs H hu hvl hv;obtain⟨b,hb,L,k1,k2,k3,k4,k5,k6,k7,k8⟩:=H.loops id _ f ps as bd hh;have hps:vs.size=L.params.size:=by rw[k4,hvl,hl]
 refine⟨b,L.fn,_,L.assign,L.body,hu.akQ hb,run_yield k1 hps,?_⟩
 have hfin:RoundIn (fw r) 9 P b L.fn ((L.params.zip vs).foldl (fun t (p,v)=>t.setIfInBounds p v) L.tmps) L.assign L.body w fun e w'=>∃v u m' h',e=.returned v∧R u h'∧bW m' A h' w'∧Rd m' A w' u v∧Ext m w m' w':=by
  refine roundIn_of_wpIn trivial ?_
  rw[k4,k5,k6,abO];obtain⟨q1,q2⟩:=Ro (m:=m) (A:=A) (w:=w) ps.toList args vs.toList f L.tmps k7 k8 (by simpa using hvl) (fun i x hx=>by
   have:=hv i x hx
   simpa[List.getD,Array.getD_eq_getD_getElem?]using this)
  refine wpIn_mono (k (some b) m A w _ (fun e=>by cases e) H ⟨q1,q2,Marks.nil _ _⟩) ?_
  rintro e a1 w1 ⟨m1,f1,h1,⟨rfl,f',ps',as',bd',hh1,kb⟩,H1,F1,E1,N1⟩
  obtain⟨b1,hb1,L1,j1,j2,j3,j4,j5,j6,j7,j8⟩:=H1.loops id _ f' ps' as' bd' hh1;have eb:b1=b:=by
   rcases E1.at_ id b hb with h2|h2
   ·rw[h2]at hb1;cases hb1;rfl
   ·rw[h2]at hb1;cases hb1
  subst eb;show ∃w₂,_
  refine⟨_,run_beginRound j1 j2,?_⟩
  obtain⟨H2,E2⟩:=H1.R6 (st':=.busy) hh1 hb1 j1 (L':={ L1 with state:=.busy }) rfl j3 rfl rfl rfl rfl
  refine wpIn_mono (kb (some b1) m1 A _ a1 (fun e=>by cases e) H2 (F1.ext E2)) ?_
  have E12:=E1.trans E2;have go:∀(f:List AV) (ps:Array Tmp) (as bd:Code) (jump:Option Code) (st:LS) (w3:World) (m3:Nat→St) (h3:AH),st.st=(if jump.isNone then .ready else .done)→st.pe=jump→h3 id=.lp .busy f ps as bd→bW m3 A h3 w3→Ext m1 (w1.putObj b1 (.loop { L1 with state:=.busy })) m3 w3→R (.c (.bool jump.isNone)) (cH h3 id (.lp st f ps as bd)) →
    ∃v w',(Instr.endRound b1 jump).run P w3=.ok v w'∧∃v_1 u m' h',Ending.returned v=.returned v_1∧R u h'∧bW m' A h' w'∧Rd m' A w' u v_1∧Ext m w m' w':=by
   intro f ps as bd jump st w3 m3 h3 e1 e2 hh3 H3 E3 hR;obtain⟨b3,hb3,L3,i1,i2,i3,i4,i5,i6,i7,i8⟩:=H3.loops id _ f ps as bd hh3;have eb:b3=b1:=by
    rcases E3.at_ id b1 hb1 with h2|h2
    ·rw[h2]at hb3;cases hb3;rfl
    ·rw[h2]at hb3;cases hb3
   subst eb;obtain⟨H4,E4⟩:=H3.R6 (st':=st) hh3 hb3 i1 (L':={ L3 with state:=if jump.isNone then .ready else .done,pending:=jump }) e1.symm e2.symm rfl rfl rfl rfl
   exact⟨_,_,run_endRound jump i1,_,_,m3,_,rfl,hR,H4,.pure _ _ (.c _),(E12.trans E3).trans E4⟩
  rintro e a3 w3 ⟨m3,f3,h3,q,H3,F3,E3,N3⟩
  cases e with
  |normal=>obtain⟨f,ps,as,bd,q1,q2⟩:=q;exact go f ps as bd none .ready w3 m3 h3 rfl rfl q1 H3 E3 q2
  |ret=>obtain⟨f,ps,as,bd,q1,q2⟩:=q;exact go f ps as bd (some .ret) (.done .ret) w3 m3 h3 rfl rfl q1 H3 E3 q2
  |exit i=>obtain⟨f,ps,as,bd,q1,q2⟩:=q;exact go f ps as bd (some (.exit i)) (.done (.exit i)) w3 m3 h3 rfl rfl q1 H3 E3 q2
  |_=>exact q.elim
 exact⟨trivial,fun c cs _=>hfin.2 c cs (fun d hd=>by cases hd)⟩
def mL (ρ:Operand→AV):Op→Option (Nat×List AV)
 | .call { callee:=.value g,args,.. }=>match ρ g with
  | .rN id=>some (id,args.toList.map ρ)
  |_=>none
 |_=>none
theorem lW.ajj [Bk] [Ev] {o:Oper} {f:List AV} {id:Nat} {args:List AV} {R:AV→AH→Prop} (hc:mL (cV f) o.op=some (id,args)) (hR:pQ P id args h R):lW P o f h R:=by
 intro r' m A w a H F K Q hK;unfold mL at hc;split at hc
 ·rename_i g cargs ctys ho
  split at hc
  ·rename_i id' hg
   simp only[Option.some.injEq,Prod.mk.injEq]at hc;obtain⟨rfl,rfl⟩:=hc;have h1:=F.eval g;rw[hg]at h1;obtain⟨b,fn,tmps,as,bd,e1,e2,e3⟩:=hR r' m A w _ (cargs.map a.eval) H h1 (by simp) (fun i x hx=>AM F cargs i x hx)
   have hexec:(execOp a.eval o).run P w=.ok (.round b fn tmps as bd) w:=by
    simp only[execOp,ho,resolve,Sem.run_bind];simp only[e1,Deferred.ofValue];simp[invoke,e2]
   refine TB hexec (e3.mono ?_)
   rintro e w' ⟨v,u,m',h',rfl,hRu,H',hx,E⟩
   exact⟨v,rfl,hK u h' v w' m' hRu H' hx E⟩
  ·cases hc
 ·cases hc
def aeF (Q:Exit→List AV→AH→Prop) (f:List AV) (id:Nat) (h:AH):Prop :=
 match h id with
 | .lp .ready _ _ _ _=>Q .normal f (cH h id .dead)
 | .lp (.done .ret) _ _ _ _=>Q .ret f (cH h id .dead)
 | .lp (.done (.exit i)) _ _ _ _=>Q (.exit i) f (cH h id .dead)
 |_=>False
theorem fT.rangeFunc [Bk] [Ev] {Q : Exit → List AV → AH → Prop} {f : List AV} {g : Operand} {ps : Array Tmp} {as bd : Code} {captured : List AV} {k : FuncId} {fn : Func} {c : Code} {id : Nat} (hg : cV f g = .fn (.func k) [] captured) (hk : P.funcs[k]? = some fn) (hb : fn.body = some c) (hn : (fn.name == "runtime.NumGoroutine") = false) (hid : h id = .no)
  (hc:dL P k (.rN id::captured) (cH h id (.lp .ready f ps as bd)) (fun _ h'=>aeF Q f id h')):fT P true (.rangeFunc g ps as bd) Q f h:=by
 intro r m A w a hr H F;obtain rfl:=hr rfl
 have h1:=F.eval g;rw[hg]at h1;obtain⟨us,hv,hl2,r2⟩:∃us,a.eval g=.func (.func k) #[] us∧us.size=captured.length∧(∀(i:Nat) (x:AV),captured[i]?=some x→Rd m A w x (us.getD i Go.undef)):=by
  generalize a.eval g=u at h1
  cases h1 with
  |pure _ _ h=>cases h with|fn _ _ _ vs us hl hk' h g=>exact⟨us,by rw[Array.eq_empty_of_size_eq_zero hl],hk',fun i x hx=>.pure _ _ (g i x hx)⟩
  |fn _ _ _ vs us hl hk' h g=>exact⟨us,by rw[Array.eq_empty_of_size_eq_zero hl],hk',g⟩
 refine wpIn_rangeFunc ?_
 intro fn' _;have b1:Below w.heap.size w (w.alloc (.deferred (some []))):=(Below.refl _ _).alloc (Nat.le_refl _) _
 have H1:=H.below b1;have E1:=Ext.qK H b1;have F1:=F.ext E1;obtain⟨H2,E2⟩:=H1.afa (id:=id) (f:=f) (L:={ state:=.ready,pending:=none,fn:=fn',tmps:=a.tmps,params:=ps,assign:=as,body:=bd,defers:=w.heap.size }) hid rfl rfl F1.size F1.rd
 have hsz:(w.alloc (.deferred (some []))).heap.size=w.heap.size+1:=World.size_alloc _ _
 have E12:=E1.trans E2;rw[hsz]at H2 E2 E12;have hDW:((w.alloc (.deferred (some []))).alloc (.loop { state:=.ready,pending:=none,fn:=fn',tmps:=a.tmps,params:=ps,assign:=as,body:=bd,defers:=w.heap.size })).heap[w.heap.size]?=some (.deferred (some [])) :=
  (Below.heap_alloc _ _ _ (by simp)).trans (World.alloc_heap_new w _)
 have hrun:=run_enterLoop_outer (P:=P) (w:=w) fn' a.tmps ps as bd
 have hsz1:w.heap.size<((w.alloc (.deferred (some []))).alloc (.loop { state:=.ready,pending:=none,fn:=fn',tmps:=a.tmps,params:=ps,assign:=as,body:=bd,defers:=w.heap.size })).heap.size:=by simp;omega
 generalize (w.alloc (.deferred (some []))).alloc (.loop { state:=.ready,pending:=none,fn:=fn',tmps:=a.tmps,params:=ps,assign:=as,body:=bd,defers:=w.heap.size })=W1 at H2 E2 E12 hDW hrun hsz1
 have hres:(resolve a.eval (rangeCall g (w.heap.size+1)) 0).run P W1=.ok { target:=.fn (.func k) us,args:=#[.func (.yield (w.heap.size+1)) #[] #[]] } W1:=by
  simp only[resolve,hv];simp[go_sem]
 have hinv:(invoke (.fn (.func k) us) #[.func (.yield (w.heap.size+1)) #[] #[]]).run P W1=.ok (.enter k (#[.func (.yield (w.heap.size+1)) #[] #[]]++us)) W1:=by
  simp[invoke,qS hk hb hn]
 have hcall:=hc _ A _ (#[.func (.yield (w.heap.size+1)) #[] #[]]++us) H2 (by simp[hl2];omega) (by
  intro i x hx;cases i with
  |zero =>
   simp at hx
   subst hx;have:=Rd.rN (m:=sset m id (.at (w.heap.size+1))) (A:=A) (w:=W1) id (w.heap.size+1) (by simp[sset])
   have e:(#[Value.func (.yield (w.heap.size+1)) #[] #[]]++us).getD 0 Go.undef=Value.func (.yield (w.heap.size+1)) #[] #[]:=by simp[Array.getElem?_append]
   rw[e];exact this
  |succ i =>
   have:=(r2 i x (by simpa using hx)).ext E12
   have e:(#[Value.func (.yield (w.heap.size+1)) #[] #[]]++us).getD (i+1) Go.undef=us.getD i Go.undef:=by simp[Array.getElem?_append]
   rw[e];exact this)
 refine⟨w.heap.size+1,[mark w.heap.size],W1,_,W1,k,_,W1,hrun,hres,fun _ _=>trivial,hinv,fun h=>(by cases h),A3.2 (hcall.mono ?_)⟩
 ·rintro e w3 ⟨v,u,m',h',rfl,hq,H',hx,E'⟩
  have hat:sset m id (.at (w.heap.size+1)) id=.at (w.heap.size+1):=by simp[sset]
  have hDu:∀id',sset m id (.at (w.heap.size+1)) id'≠.at w.heap.size:=by
   intro id' hid';unfold sset at hid';split at hid'
   ·injection hid' with e;omega
   ·have:=H.lt hid';omega
  have pH:∀(st:LS) (f0:List AV) (ps0:Array Tmp) (as0 bd0:Code),h' id=.lp st f0 ps0 as0 bd0→st.st≠.busy→∃w4,(Instr.endLoop (w.heap.size+1)).run P w3=.ok st.pe w4∧∀e,Q e f (cH h' id .dead)→Tw Q m A w a e { a with defers:=[mark w.heap.size]++a.defers } w4:=by
   intro st f0 ps0 as0 bd0 hl hst;obtain⟨b,hb',L,i1,i2,i3,i4,i5,i6,i7,i8⟩:=H'.loops id _ _ _ _ _ hl;have eb:b=w.heap.size+1:=by
    rcases E'.at_ id _ hat with h2|h2
    ·rw[h2]at hb';cases hb';rfl
    ·rw[h2]at hb';cases hb'
   subst eb;obtain⟨H4,E4⟩:=bW.acC H' hl hb' i1 (.loop { L with state:=.exhausted })
   have E0:=(E12.trans E').trans E4
   refine⟨_,by rw[←i3];exact run_endLoop i1 (by rw[i2];exact hst),?_⟩
   intro e hQ;refine⟨_,f,_,hQ,H4,⟨F.size,fun i x hx=>(F.rd i x hx).ext E0,?_⟩,E0,?_⟩
   ·obtain⟨d1,d2⟩:=(E'.trans E4).un w.heap.size hsz1 hDu
    refine(F.defers.ext E0).push (d2.trans hDW) d1 ?_
    intro d hd he;obtain⟨Ds,g1,g2,g3⟩:=F.defers;rw[g1]at hd;obtain⟨D',hD',rfl⟩:=List.mem_map.1 hd;have hlt:D'<w.heap.size:=(Array.getElem?_eq_some_iff.1 (g3 D' hD').1).1
    simp only[mark,Deferred.mk.injEq,Target.collected.injEq]at he;omega
   ·intro d hd
    rcases List.mem_append.1 hd with h2|h2
    ·simp only[List.mem_singleton]at h2
     subst h2;exact .inr ⟨w.heap.size,rfl,Nat.le_refl _⟩
    ·exact .inl h2
  show ∃jump w₄,_
  unfold aeF at hq;split at hq
  ·rename_i f0 ps0 as0 bd0 hl
   obtain⟨w4,s1,s2⟩:=pH .ready f0 ps0 as0 bd0 hl (by simp[LS.st])
   exact⟨none,w4,s1,s2 _ hq⟩
  ·rename_i f0 ps0 as0 bd0 hl
   obtain⟨w4,s1,s2⟩:=pH (.done .ret) f0 ps0 as0 bd0 hl (by simp[LS.st])
   exact⟨some .ret,w4,s1,wpIn_ret (s2 _ hq)⟩
  ·rename_i i f0 ps0 as0 bd0 hl
   obtain⟨w4,s1,s2⟩:=pH (.done (.exit i)) f0 ps0 as0 bd0 hl (by simp[LS.st])
   exact⟨some (.exit i),w4,s1,wpIn_exit (s2 _ hq)⟩
  ·exact hq.elim
end
end Mc
namespace Mc
structure Rs (α:Type) where
 a:α
 h:AH
 n:Nat
 rd:List Nat
 wr:List Nat
abbrev M (α:Type):=AH→Nat→Option (Rs α)
def jL {α:Type}:M α:=fun _ _=>none
def mpure {α:Type} (a:α):M α:=fun h n=>some ⟨a,h,n,[],[]⟩
def jM {α β:Type} (x:M α) (k:α→M β):M β:=fun h n =>
 match x h n with
 |none=>none
 |some r=>match k r.a r.h r.n with
  |none=>none
  |some s=>some ⟨s.a,s.h,s.n,r.rd++s.rd,r.wr++s.wr⟩
structure Loc {α:Type} (x:M α) (h:AH) (n:Nat) (r:Rs α):Prop where
 le:n≤r.n
 frame:∀id,id ∉ r.wr→¬ (n≤id∧id<r.n)→r.h id=h id
 sub:∀id∈r.wr,id∈r.rd
 again:∀h2:AH,(∀id∈r.rd,h2 id=h id)→(∀id,n≤id→id<r.n→h2 id=h id)→∃r2,x h2 n=some r2∧r2.a=r.a∧r2.n=r.n∧r2.rd=r.rd∧r2.wr=r.wr ∧
  (∀id,(id∈r.wr∨(n≤id∧id<r.n))→r2.h id=r.h id)∧∀id,id ∉ r.wr→¬ (n≤id∧id<r.n)→r2.h id=h2 id
def Local {α:Type} (x:M α):Prop:=∀h n r,x h n=some r→Loc x h n r
theorem dP [Bk] [Ev] {α:Type}:Local (jL:M α):=fun h n r hr=>by cases hr
theorem eM [Bk] [Ev] {α:Type} (a:α):Local (mpure a):=fun h n r hr=>by
 cases hr;exact⟨Nat.le_refl _,fun _ _ _=>rfl,fun _ h=>h,fun h2 _ _=>⟨_,rfl,rfl,rfl,rfl,rfl,fun id hid=>by rcases hid with hid|hid;simp at hid;simp only at hid;omega,fun _ _ _=>rfl⟩⟩
theorem eE [Bk] [Ev] {α β:Type} {x:M α} {k:α→M β} (hx:Local x) (hk:∀a,Local (k a)):Local (jM x k):=by
 intro h n t ht;unfold jM at ht;cases h1:x h n with
 |none=>rw[h1]at ht;cases ht
 |some r =>
  rw[h1]at ht;simp only at ht
  cases h2:k r.a r.h r.n with
  |none=>rw[h2]at ht;cases ht
  |some s =>
   rw[h2]at ht;cases ht;have L1:=hx h n r h1;have L2:=hk r.a r.h r.n s h2;have l1:=L1.le;have l2:=L2.le;refine⟨Nat.le_trans L1.le L2.le,?_,?_,?_⟩
   ·intro id hid hr
    simp only[List.mem_append,not_or]at hid;rw[L2.frame id hid.2 (by simp only at hr;omega),L1.frame id hid.1 (by simp only at hr;omega)]
   ·intro id hid
    simp only[List.mem_append]at hid ⊢;exact hid.imp (L1.sub id) (L2.sub id)
   ·intro g hrd hrg
    simp only[List.mem_append]at hrd;simp only at hrg
    obtain⟨r2,e1,e2,e3,e4,e5,e6,e7⟩:=L1.again g (fun id hid=>hrd id (.inl hid)) (fun id a b=>hrg id a (by omega))
    have ag:∀id,(id∈s.rd∨(r.n≤id∧id<s.n))→r2.h id=r.h id:=by
     intro id hid;by_cases hw:id∈r.wr∨(n≤id∧id<r.n)
     ·exact e6 id hw
     ·simp only[not_or]at hw
      rw[e7 id hw.1 hw.2,L1.frame id hw.1 hw.2];rcases hid with hid|hid
      ·exact hrd id (.inr hid)
      ·exact hrg id (by omega) hid.2
    obtain⟨s2,d1,d2,d3,d4,d5,d6,d7⟩:=L2.again r2.h (fun id hid=>ag id (.inl hid)) (fun id a b=>ag id (.inr ⟨a,b⟩))
    refine⟨⟨s2.a,s2.h,s2.n,r2.rd++s2.rd,r2.wr++s2.wr⟩,?_,d2,d3,by rw[e4,d4],by rw[e5,d5],?_,?_⟩
    ·unfold jM
     rw[e1];simp only
     rw[e2,e3,d1]
    ·intro id hid
     simp only[List.mem_append]at hid;simp only at hid ⊢
     by_cases hw:id∈s.wr∨(r.n≤id∧id<s.n)
     ·exact d6 id hw
     ·simp only[not_or]at hw
      rw[d7 id hw.1 hw.2,L2.frame id hw.1 hw.2];refine e6 id ?_
      rcases hid with(hid|hid)|hid
      ·exact .inl hid
      ·exact absurd hid hw.1
      ·exact .inr ⟨hid.1,by omega⟩
    ·intro id hid hr
     simp only[List.mem_append,not_or]at hid;simp only at hr ⊢
     rw[d7 id hid.2 (by omega),e7 id hid.1 (by omega)]
section
variable {P:Program}
def ML [Bk] (P:Program) (op:Op) (f:List AV):M AV:=fun h n =>
 match yI P op (cV f) h n with
 |none=>none
 |some r=>some ⟨r.v,dW h r.bP,if(r.bP.map (·.1)).contains n then n+1 else n,r.uJ,r.bP.map (·.1)⟩
theorem acG [Bk] [Ev] (op:Op) (f:List AV):Local (ML P op f):=by
 intro h n t ht;unfold ML at ht;cases h1:yI P op (cV f) h n with
 |none=>rw[h1]at ht;cases ht
 |some r =>
  rw[h1]at ht;simp only[Option.some.injEq]at ht;subst ht;have hrange:∀id,n≤id→id<(if(r.bP.map (·.1)).contains n then n+1 else n)→id∈r.bP.map (·.1):=by
   intro id a b;split at b
   ·rename_i hc
    have:id=n:=by omega
    subst this;simpa using hc
   ·omega
  refine⟨by simp only;split<;>omega,fun id hid _=>fH hid,aga h1,?_⟩
  intro g hrd _;have h2:=akR h1 hrd;refine⟨⟨r.v,dW g r.bP,_,r.uJ,r.bP.map (·.1)⟩,by unfold ML;rw[h2],rfl,rfl,rfl,rfl,?_,fun id hid _=>fH hid⟩
  intro id hid;rcases hid with hid|hid
  ·exact uK hid
  ·exact uK (hrange id hid.1 hid.2)
def uE [Bk] (P:Program) (call:Fn→List AV→M AV) (o:Oper) (f:List AV):M AV :=
 match iY P (cV f) o.op with
 |some (k,args)=>call (.func k) args
 |none=>match mL (cV f) o.op with
  |some (id,args)=>call (.yield id) args
  |none=>ML P o.op f
def Pu [Bk] (P:Program) (call:Fn→List AV→M AV) (ops:Array Oper):List Nat→List AV→M (List AV)
 |[],f=>mpure f
 |i::l,f=>match ops[i]? with
  |none=>jL
  |some o=>match kI ops o f with
   |some true=>jM (uE P call o f) fun v=>Pu P call ops l (oY f o.dst v)
   |some false=>Pu P call ops l (oY f o.dst .undef)
   |none=>jL
def XC (x:M AV):M (AV×uI):=fun h n =>
 match x h n with
 |none=>none
 |some r=>some ⟨(r.a,⟨r.a,(r.wr++List.range' n (r.n-n)).map fun id=>(id,r.h id),r.rd,n,r.n,false⟩),r.h,r.n,r.rd,r.wr⟩
theorem acF [Bk] [Ev] {x:M AV} (hx:Local x):Local (XC x):=by
 intro h n t ht;unfold XC at ht;cases h1:x h n with
 |none=>rw[h1]at ht;cases ht
 |some r =>
  rw[h1]at ht;simp only[Option.some.injEq]at ht;subst ht;have L:=hx h n r h1;refine⟨L.le,L.frame,L.sub,?_⟩
  intro g a b;obtain⟨r2,e1,e2,e3,e4,e5,e6,e7⟩:=L.again g a b;refine⟨⟨(r2.a,⟨r2.a,(r2.wr++List.range' n (r2.n-n)).map fun id=>(id,r2.h id),r2.rd,n,r2.n,false⟩),r2.h,r2.n,r2.rd,r2.wr⟩,by unfold XC;rw[e1],?_,e3,e4,e5,e6,e7⟩
  simp only
  rw[e2,e3,e4,e5];congr 2
  refine List.map_congr_left fun id hid=>?_
  rw[e6 id];rw[List.mem_append,List.mem_range'_1]at hid;rcases hid with hid|hid
  ·exact .inl hid
  ·exact .inr ⟨hid.1,by have:=L.le;omega⟩
def vG [Bk] (P:Program) (call:Fn→List AV→M AV) (ops:Array Oper):List Nat→List AV→M (List AV×List uI)
 |[],f=>mpure (f,[])
 |i::l,f=>match ops[i]? with
  |none=>jL
  |some o=>match kI ops o f with
   |some true=>jM (XC (uE P call o f)) fun v=>jM (vG P call ops l (oY f o.dst v.1)) fun q=>mpure (q.1,v.2::q.2)
   |some false=>jM (vG P call ops l (oY f o.dst .undef)) fun q=>mpure (q.1,⟨.undef,[],[],0,0,true⟩::q.2)
   |none=>jL
def LZ [Bk] (P:Program) (call:Fn→List AV→M AV) (ops:Array Oper) (f:List AV):M (List AV) :=
 if P.follows .mixedOrders then jM (vG P call ops (List.range ops.size) f) fun q=>if NC ops q.2 then mpure q.1 else jL else jL
def wS {α:Type} (x:M α):M α:=fun h n =>
 match x h n with
 |none=>none
 |some r=>some ⟨r.a,r.h,r.n,(r.rd.filter fun id=>!(decide (n≤id)&&decide (id<r.n))).eraseDups,(r.wr.filter fun id=>!(decide (n≤id)&&decide (id<r.n))).eraseDups⟩
theorem Ll [Bk] [Ev] {α:Type} {x:M α} (hx:Local x):Local (wS x):=by
 intro h n t ht;unfold wS at ht;cases h1:x h n with
 |none=>rw[h1]at ht;cases ht
 |some r =>
  rw[h1]at ht;simp only[Option.some.injEq]at ht;subst ht;have L:=hx h n r h1;have hm:∀(l:List Nat) id,id∈(l.filter fun id=>!(decide (n≤id)&&decide (id<r.n))).eraseDups↔id∈l∧¬ (n≤id∧id<r.n):=by
   intro l id;rw[List.mem_eraseDups,List.mem_filter];constructor<;>rintro⟨a,b⟩<;>refine⟨a,?_⟩<;>simp at b ⊢<;>omega
  refine⟨L.le,?_,?_,?_⟩
  ·intro id hid hr
   simp only[hm]at hid;exact L.frame id (fun hw=>hid ⟨hw,hr⟩) hr
  ·intro id hid
   simp only[hm]at hid ⊢;exact⟨L.sub id hid.1,hid.2⟩
  ·intro g a b
   simp only[hm]at a;obtain⟨r2,e1,e2,e3,e4,e5,e6,e7⟩:=L.again g (fun id hid=>by
    by_cases hr:n≤id∧id<r.n
    ·exact b id hr.1 hr.2
    ·exact a id ⟨hid,hr⟩) b
   refine⟨⟨r2.a,r2.h,r2.n,(r2.rd.filter fun id=>!(decide (n≤id)&&decide (id<r2.n))).eraseDups,(r2.wr.filter fun id=>!(decide (n≤id)&&decide (id<r2.n))).eraseDups⟩,by unfold wS;rw[e1],e2,e3,?_,?_,?_,?_⟩
   ·simp only;rw[e4,e3]
   ·simp only;rw[e5,e3]
   ·intro id hid
    simp only[hm]at hid;exact e6 id (hid.imp And.left _root_.id)
   ·intro id hid hr
    simp only[hm]at hid;exact e7 id (fun hw=>hid ⟨hw,hr⟩) hr
inductive AX where
 |normal|exit (id:Nat)|ret
def AX.to:AX→Exit
 | .normal=>.normal
 | .exit id=>.exit id
 | .ret=>.ret
def atL {α:Type} (id:Nat) (g:bX→Option (α×bX)):M α:=fun h n =>
 match g (h id)with
 |none=>none
 |some (a,b)=>some ⟨a,cH h id b,n,[id],[id]⟩
theorem AO [Bk] [Ev] {α:Type} (id:Nat) (g:bX→Option (α×bX)):Local (atL id g):=by
 intro h n r hr;unfold atL at hr;cases hg:g (h id)with
 |none=>rw[hg]at hr;cases hr
 |some p =>
  obtain⟨a,b⟩:=p;rw[hg]at hr;cases hr;refine⟨Nat.le_refl _,fun k hk _=>eZ _ _ (by simpa using hk),fun k hk=>hk,?_⟩
  intro g2 h1 _;have e:g2 id=h id:=h1 id (by simp)
  refine⟨⟨a,cH g2 id b,n,[id],[id]⟩,by unfold atL;rw[e,hg],rfl,rfl,rfl,rfl,?_,fun k hk _=>eZ _ _ (by simpa using hk)⟩
  intro k hk;rcases hk with hk|hk
  ·simp only[List.mem_singleton]at hk
   subst hk;simp[mE]
  ·simp only at hk;omega
def Xy (f:List AV) (ps:Array Tmp) (as bd:Code):M Nat:=fun h n =>
 match h n with
 | .no=>some ⟨n,cH h n (.lp .ready f ps as bd),n+1,[n],[n]⟩
 |_=>none
theorem acE [Bk] [Ev] (f:List AV) (ps:Array Tmp) (as bd:Code):Local (Xy f ps as bd):=by
 intro h n r hr;unfold Xy at hr;split at hr
 ·rename_i hn
  cases hr;refine⟨by simp,fun k hk _=>eZ _ _ (by simpa using hk),fun k hk=>hk,?_⟩
  intro g2 h1 _;have e:g2 n=.no:=(h1 n (by simp)).trans hn
  refine⟨⟨n,cH g2 n (.lp .ready f ps as bd),n+1,[n],[n]⟩,by unfold Xy;rw[e],rfl,rfl,rfl,rfl,?_,fun k hk _=>eZ _ _ (by simpa using hk)⟩
  intro k hk;have:k=n:=by
   rcases hk with hk|hk
   ·simpa using hk
   ·simp only at hk;omega
  subst this;simp[mE]
 ·cases hr
def acL:bX→Option ((List AV×Array Tmp×Code×Code)×bX)
 | .lp .ready f ps as bd=>some ((f,ps,as,bd),.lp .ready f ps as bd)
 |_=>none
def NK:bX→Option (Unit×bX)
 | .lp .ready f ps as bd=>some ((),.lp .busy f ps as bd)
 |_=>none
def MO (x:AX):bX→Option (AV×bX)
 | .lp .busy f ps as bd=>match x with
  | .normal=>some (.c (.bool true),.lp .ready f ps as bd)
  | .ret=>some (.c (.bool false),.lp (.done .ret) f ps as bd)
  | .exit i=>some (.c (.bool false),.lp (.done (.exit i)) f ps as bd)
 |_=>none
def wM:bX→Option (AX×bX)
 | .lp .ready _ _ _ _=>some (.normal,.dead)
 | .lp (.done .ret) _ _ _ _=>some (.ret,.dead)
 | .lp (.done (.exit i)) _ _ _ _=>some (.exit i,.dead)
 |_=>none
def eK [Bk] (P:Program) (call:Fn→List AV→M AV) (tp:Bool):Nat→Code→List AV→M (AX×List AV)
 |0,_,_=>jL
 |n+1,.skip,f=>mpure (.normal,f)
 |n+1,.region _ ops draw,f=>jM (if draw then LZ P call ops f else Pu P call ops (List.range ops.size) f) fun f'=>mpure (.normal,f')
 |n+1,.seq x y,f=>jM (eK P call tp n x f) fun q=>match q.1 with
  | .normal=>eK P call tp n y q.2
  |_=>mpure q
 |n+1,.cond c x y,f=>match cV f c with
  | .c (.bool b)=>eK P call tp n (if b then x else y) f
  |_=>jL
 |n+1,.block id c,f=>jM (eK P call tp n c f) fun q=>match q.1 with
  | .exit id'=>if id'=id then mpure (.normal,q.2)else mpure q
  |_=>mpure q
 |n+1,.loop c,f=>jM (eK P call tp n c f) fun q=>match q.1 with
  | .normal=>eK P call tp n (.loop c) q.2
  |_=>mpure q
 |n+1,.rangeFunc g ps as bd,f=>if tp then match cV f g with
   | .fn (.func k) [] captured=>jM (Xy f ps as bd) fun id=>jM (call (.func k) (.rN id::captured)) fun _=>jM (atL id wM) fun x=>mpure (x,f)
   |_=>jL
  else jL
 |n+1,.scope c,f=>eK P call tp n c f
 |n+1,.label _,f=>mpure (.normal,f)
 |n+1,.exit id,f=>mpure (.exit id,f)
 |n+1,.ret,f=>mpure (.ret,f)
 |n+1,_,_=>jL
def zT [Bk] (P:Program) (L:Nat) (call:Fn→List AV→M AV) (id:Nat) (args:List AV):M AV :=
 jM (atL id acL) fun q=>if args.length=q.2.1.size then
  jM (eK P call false L q.2.2.1 (Nb q.1 q.2.1 args)) fun r=>match r.1 with
   | .normal=>jM (atL id NK) fun _=>jM (eK P call false L q.2.2.2 r.2) fun s=>atL id (MO s.1)
   |_=>jL
 else jL
def T8:AV→List Nat
 | .ptr _ id _ _=>[id]
 |_=>[]
def Oi (f:List AV):ResultVar→List Nat
 | .tmp _=>[]
 | .cell t _=>T8 (f.getD t .undef)
def II (f:List AV) (l:List ResultVar):List Nat:=l.flatMap (Oi f)
def Mt (P:Program) (fn:Func) (f:List AV):M AV:=fun h n =>
 match dX P fn f h with
 |none=>none
 |some v=>some ⟨v,h,n,II f fn.results.toList,[]⟩
theorem TY [Bk] [Ev] {fn:Func} {f:List AV} {h h':AH} (hag:∀id∈II f fn.results.toList,h' id=h id):dX P fn f h'=dX P fn f h:=by
 unfold dX;congr 1
 have:∀r∈fn.results.toList,yD P f h' r=yD P f h r:=by
  intro r hr;cases r with
  |tmp t=>rfl
  |cell t ty =>
   simp only[yD];cases hf:f.getD t .undef with
   |ptr sz id i off =>
    have:h' id=h id:=by
     refine hag id ?_
     unfold II;rw[List.mem_flatMap];refine⟨_,hr,?_⟩
     simp only[Oi,hf,T8];simp
    simp only[aby,this]
   |_=>rfl
 revert this
 generalize fn.results.toList=l;intro this;induction l with
 |nil=>rfl
 |cons r l ih =>
  rw[List.mapM_cons,List.mapM_cons,this r (by simp),ih (fun r hr=>this r (by simp[hr]))]
theorem acD [Bk] [Ev] (fn:Func) (f:List AV):Local (Mt P fn f):=by
 intro h n t ht;unfold Mt at ht;cases h1:dX P fn f h with
 |none=>rw[h1]at ht;cases ht
 |some v =>
  rw[h1]at ht;simp only[Option.some.injEq]at ht;subst ht;refine⟨Nat.le_refl _,fun _ _ _=>rfl,fun _ h=>by simp at h,fun g a b=>⟨⟨v,g,n,_,[]⟩,by unfold Mt;rw[TY a,h1],rfl,rfl,rfl,rfl,fun id hid=>by rcases hid with hid|hid;simp at hid;simp only at hid;omega,fun _ _ _=>rfl⟩⟩
structure lX [Bk] [Ev] (P:Program) (call:Fn→List AV→M AV):Prop where
 loc:∀k args,Local (call k args)
 ok : ∀ k args h n r, call (.func k) args h n = some r → ∃ fn c, P.funcs[k]? = some fn ∧ fn.body = some c ∧ (fn.name == "runtime.NumGoroutine") = false ∧ dL P k args h (fun v h' => v = r.a ∧ h' = r.h)
 yl:∀id args h n r,call (.yield id) args h n=some r→pQ P id args h (fun v h'=>v=r.a∧h'=r.h)
variable {call:Fn→List AV→M AV}
theorem uW [Bk] [Ev] (hc:lX P call) (o:Oper) (f:List AV):Local (uE P call o f):=by
 unfold uE;split
 ·exact hc.loc _ _
 ·split
  ·exact hc.loc _ _
  ·exact acG _ _
theorem Eg [Bk] [Ev] (hc:lX P call) (ops:Array Oper):∀(l:List Nat) (f:List AV),Local (Pu P call ops l f)
 |[],f=>eM f
 |i::l,f=>by
  simp only[Pu];split
  ·exact dP
  ·split
   ·exact eE (uW hc _ _) fun v=>Eg hc ops l _
   ·exact Eg hc ops l _
   ·exact dP
theorem wT [Bk] [Ev] (hc:lX P call) (ops:Array Oper):∀(l:List Nat) (f:List AV),Local (vG P call ops l f)
 |[],f=>eM _
 |i::l,f=>by
  simp only[vG];split
  ·exact dP
  ·split
   ·exact eE (acF (uW hc _ _)) fun v=>eE (wT hc ops l _) fun q=>eM _
   ·exact eE (wT hc ops l _) fun q=>eM _
   ·exact dP
theorem XG [Bk] [Ev] (hc:lX P call) (ops:Array Oper) (f:List AV):Local (LZ P call ops f):=by
 unfold LZ;split
 ·refine eE (wT hc ops _ _) fun q=>?_
  split
  ·exact eM _
  ·exact dP
 ·exact dP
theorem iT [Bk] [Ev] (hc:lX P call) {tp:Bool}:∀(n:Nat) (c:Code) (f:List AV),Local (eK P call tp n c f)
 |0,c,f=>by simp only[eK];exact dP
 |n+1,c,f=>by
  cases c with
  |skip=>exact eM _
  |region id ops draw =>
   simp only[eK];refine eE ?_ fun _=>eM _
   split
   ·exact XG hc _ _
   ·exact Eg hc _ _ _
  |seq x y =>
   simp only[eK];refine eE (iT hc n x f) fun q=>?_
   split
   ·exact iT hc n y _
   ·exact eM _
  |cond c x y =>
   simp only[eK];split
   ·exact iT hc n _ _
   ·exact dP
  |block id c =>
   simp only[eK];refine eE (iT hc n c f) fun q=>?_
   split
   ·split<;>exact eM _
   ·exact eM _
  |loop c =>
   simp only[eK];refine eE (iT hc n c f) fun q=>?_
   split
   ·exact iT hc n _ _
   ·exact eM _
  |rangeFunc g ps as bd =>
   simp only[eK];split
   ·split
    ·exact eE (acE _ _ _ _) fun id=>eE (hc.loc _ _) fun _=>eE (AO _ _) fun x=>eM _
    ·exact dP
   ·exact dP
  |scope c=>simp only[eK];exact iT hc n c f
  |label l=>exact eM _
  |exit id=>exact eM _
  |ret=>exact eM _
  |_=>simp only[eK];exact dP
theorem R7 [Bk] [Ev] (hc:lX P call) (L id:Nat) (args:List AV):Local (zT P L call id args):=by
 unfold zT;refine eE (AO _ _) fun q=>?_
 split
 ·refine eE (iT hc _ _ _) fun r=>?_
  split
  ·exact eE (AO _ _) fun _=>eE (iT hc _ _ _) fun s=>AO _ _
  ·exact dP
 ·exact dP
theorem gD [Bk] [Ev] {α β:Type} {x:M α} {k:α→M β} {h:AH} {n:Nat} {t:Rs β} (ht:jM x k h n=some t):∃r s,x h n=some r∧k r.a r.h r.n=some s∧t.a=s.a∧t.h=s.h∧t.n=s.n:=by
 unfold jM at ht;cases h1:x h n with
 |none=>rw[h1]at ht;cases ht
 |some r =>
  rw[h1]at ht;simp only at ht
  cases h2:k r.a r.h r.n with
  |none=>rw[h2]at ht;cases ht
  |some s =>
   rw[h2]at ht;cases ht;exact⟨r,s,rfl,h2,rfl,rfl,rfl⟩
theorem S9 [Bk] [Ev] (hc:lX P call) {o:Oper} {f:List AV} {h:AH} {n:Nat} {r:Rs AV} (hr:uE P call o f h n=some r):lW P o f h (fun v h'=>v=r.a∧h'=r.h):=by
 unfold uE at hr;cases hk:iY P (cV f) o.op with
 |some p =>
  obtain⟨k,args⟩:=p;simp only[hk]at hr;obtain⟨fn,c,h1,h2,h3,h4⟩:=hc.ok k args h n r hr;exact lW.call hk h1 h2 h3 h4
 |none =>
  simp only[hk]at hr;cases hy:mL (cV f) o.op with
  |some p =>
   obtain⟨id,args⟩:=p;simp only[hy]at hr;exact lW.ajj hy (hc.yl id args h n r hr)
  |none =>
   simp only[hy]at hr;unfold ML at hr;cases h1:yI P o.op (cV f) h n with
   |none=>rw[h1]at hr;cases hr
   |some q =>
    rw[h1]at hr;simp only[Option.some.injEq]at hr;subst hr;exact(aim h1).step
theorem Pt [Bk] [Ev] (hc:lX P call) {ops:Array Oper} {Q:Exit→List AV→AH→Prop}:∀(l:List Nat) (f:List AV) (h:AH) (n:Nat) (r:Rs (List AV)),Pu P call ops l f h n=some r→Q .normal r.a r.h→gO P ops Q l f h
 |[],f,h,n,r,hr,hq=>by cases hr;exact gO.nil hq
 |i::l,f,h,n,r,hr,hq=>by
  simp only[Pu]at hr;cases ho:ops[i]? with
  |none=>simp only[ho]at hr;cases hr
  |some o =>
   simp only[ho]at hr;cases hg:kI ops o f with
   |none=>simp only[hg]at hr;cases hr
   |some b =>
    simp only[hg]at hr;cases b with
    |true =>
     simp only at hr
     obtain⟨r1,s,h1,h2,e1,e2,e3⟩:=gD hr;refine gO.cons ho hg (S9 hc h1) ?_
     rintro v h' ⟨rfl,rfl⟩
     exact Pt hc l _ _ _ s h2 (by rw[←e1,←e2];exact hq)
    |false =>
     simp only at hr
     exact gO.pass ho hg (Pt hc l _ _ _ r hr hq)
theorem aiq [Bk] [Ev] {ops:Array Oper} {o:Oper} {f f':List AV} (ht:∀t∈sH ops o,f'[t]?=f[t]?):∀x∈o.op.operands.toList,cV f' x=cV f x:=by
 intro x hx;cases x with
 |tmp t =>
  have:t∈sH ops o:=by
   unfold sH tmpsOf;rw[List.mem_append,List.mem_filterMap];exact .inl ⟨_,hx,rfl⟩
  simp only[cV,List.getD,ht t this]
 |_=>rfl
theorem So [Bk] [Ev] {ops:Array Oper} {o:Oper} {f f':List AV} (ht:∀t∈sH ops o,f'[t]?=f[t]?):kI ops o f'=kI ops o f:=by
 unfold kI;cases hg:o.guard with
 |none=>rfl
 |some p =>
  obtain⟨j,want⟩:=p;simp only
  cases hd:(ops[j]?).bind (·.dst)with
  |none=>rfl
  |some d =>
   have:d∈sH ops o:=by
    unfold sH Sn;rw[List.mem_append,hg];simp[hd]
   simp only[ht d this]
theorem ac2 [Bk] [Ev] {op:Op} {f f':List AV} (ha:∀x∈op.operands.toList,cV f' x=cV f x):iY P (cV f') op=iY P (cV f) op:=by
 unfold iY;split
 ·rename_i g args tys
  have h1:cV f' g=cV f g:=ha g (by simp[Op.operands,Call.operands])
  have h2:args.toList.map (cV f')=args.toList.map (cV f):=List.map_congr_left fun x hx=>ha x (by simp[Op.operands,Call.operands];right;simpa using hx)
  rw[h1,h2]
 ·rename_i g name args tys
  have h1:cV f' g=cV f g:=ha g (by simp[Op.operands,Call.operands])
  have h2:args.toList.map (cV f')=args.toList.map (cV f):=List.map_congr_left fun x hx=>ha x (by simp[Op.operands,Call.operands];right;simpa using hx)
  rw[h1,h2]
 ·rfl
theorem adk [Bk] [Ev] {op:Op} {f f':List AV} (ha:∀x∈op.operands.toList,cV f' x=cV f x):mL (cV f') op=mL (cV f) op:=by
 unfold mL;split
 ·rename_i g args tys
  have h1:cV f' g=cV f g:=ha g (by simp[Op.operands,Call.operands])
  have h2:args.toList.map (cV f')=args.toList.map (cV f):=List.map_congr_left fun x hx=>ha x (by simp[Op.operands,Call.operands];right;simpa using hx)
  rw[h1,h2]
 ·rfl
theorem aik [Bk] [Ev] {o:Oper} {f f':List AV} (ha:∀x∈o.op.operands.toList,cV f' x=cV f x):uE P call o f'=uE P call o f:=by
 unfold uE;rw[ac2 ha,adk ha];have:ML P o.op f'=ML P o.op f:=by funext h n;unfold ML;rw[akS (ρ:=cV f) (ρ':=cV f') ha]
 rw[this]
theorem Ih [Bk] [Ev] (g:AH):∀(l:List Nat) (h:AH) (id:Nat),dW h (l.map fun id=>(id,g id)) id=if id∈l then g id else h id
 |[],h,id=>by simp[dW]
 |i::l,h,id=>by
  simp only[List.map_cons,dW];rw[Ih g l];by_cases h1:id∈l
  ·simp[h1]
  ·by_cases h2:id=i
   ·subst h2;simp[h1,cH]
   ·simp[h1,h2,cH]
theorem acR [Bk] [Ev] (hc:lX P call) {ops:Array Oper} {o:Oper} {f:List AV} {h:AH} {n:Nat} {r:Rs AV} (hg:kI ops o f=some true) (hr:uE P call o f h n=some r) :
  Tx P ops o ⟨r.a,(r.wr++List.range' n (r.n-n)).map fun id=>(id,r.h id),r.rd,n,r.n,false⟩ f h:=by
 intro f' h' hl ht hrd hrg;simp only[Bool.false_eq_true,if_false];refine⟨by rw[So ht];exact hg,?_⟩
 have L:=uW hc o f h n r hr;obtain⟨r2,e1,e2,e3,e4,e5,e6,e7⟩:=L.again h' hrd hrg;rw[←aik (f':=f') (aiq ht)]at e1;refine(S9 hc e1).mono ?_
 rintro v h'' ⟨rfl,rfl⟩
 refine⟨e2,?_⟩
 funext id
 rw[Ih r.h];have hm:id∈r.wr++List.range' n (r.n-n)↔(id∈r.wr∨(n≤id∧id<r.n)):=by
  rw[List.mem_append,List.mem_range'_1];have:=L.le;constructor
  ·rintro(h|h)
   ·exact .inl h
   ·exact .inr ⟨h.1,by omega⟩
  ·rintro(h|h)
   ·exact .inl h
   ·exact .inr ⟨h.1,by omega⟩
 by_cases hid:id∈r.wr∨(n≤id∧id<r.n)
 ·rw[if_pos (hm.2 hid)];exact e6 id hid
 ·rw[if_neg (fun h=>hid (hm.1 h))]
  simp only[not_or]at hid;exact e7 id hid.1 hid.2
theorem EC [Bk] [Ev] (hc:lX P call) {ops:Array Oper}:∀(l:List Nat) (f:List AV) (h:AH) (n:Nat) (r:Rs (List AV×List uI)),vG P call ops l f h n=some r →
  r.a.2.length=l.length∧EE P ops ((l.zip r.a.2).map fun p=>(ops.getD p.1 default,p.2)) (f,h)∧fin ((l.zip r.a.2).map fun p=>(ops.getD p.1 default,p.2)) (f,h)=(r.a.1,r.h)
 |[],f,h,n,r,hr=>by cases hr;exact⟨rfl,trivial,rfl⟩
 |i::l,f,h,n,r,hr=>by
  simp only[vG]at hr;cases ho:ops[i]? with
  |none=>simp only[ho]at hr;cases hr
  |some o =>
   simp only[ho]at hr;have hoi:ops.getD i default=o:=by simp[ho]
   cases hg:kI ops o f with
   |none=>simp only[hg]at hr;cases hr
   |some b =>
    simp only[hg]at hr;cases b with
    |true =>
     simp only at hr
     obtain⟨r1,s,h1,h2,e1,e2,e3⟩:=gD hr;obtain⟨r2,s2,h3,h4,d1,d2,d3⟩:=gD h2;cases h4;unfold XC at h1;cases h5:uE P call o f h n with
     |none=>rw[h5]at h1;cases h1
     |some q =>
      rw[h5]at h1;simp only[Option.some.injEq]at h1;subst h1;obtain⟨k1,k2,k3⟩:=EC hc l _ _ _ r2 h3;have hd:=acR hc hg h5;have L:=uW hc o f h n q h5;have happ:app (o,⟨q.a,(q.wr++List.range' n (q.n-n)).map fun id=>(id,q.h id),q.rd,n,q.n,false⟩) (f,h)=(oY f o.dst q.a,q.h):=by
       simp only[app,Prod.mk.injEq,true_and];funext id
       rw[Ih q.h];split
       ·rfl
       ·rename_i hid
        rw[List.mem_append,List.mem_range'_1,not_or]at hid;have:=L.le;exact(L.frame id hid.1 (by omega)).symm
      rw[e1,d1,e2,d2];refine⟨by simp[k1],?_,?_⟩
      ·simp only[List.zip_cons_cons,List.map_cons,EE,hoi]
       exact⟨hd,by rw[happ];exact k2⟩
      ·simp only[List.zip_cons_cons,List.map_cons,hoi]
       show fin _ (app _ _)=_
       rw[happ];exact k3
    |false =>
     simp only at hr
     obtain⟨r1,s,h1,h2,e1,e2,e3⟩:=gD hr;cases h2;obtain⟨k1,k2,k3⟩:=EC hc l _ _ _ r1 h1;rw[e1,e2];refine⟨by simp[k1],?_,?_⟩
     ·simp only[List.zip_cons_cons,List.map_cons,EE,hoi]
      refine⟨?_,k2⟩
      intro f' h' hl ht hrd hrg;simp only[if_true];exact⟨by rw[So ht];exact hg,trivial,trivial⟩
     ·simp only[List.zip_cons_cons,List.map_cons,hoi]
      exact k3
theorem agi [Bk] [Ev] (hc:lX P call) {tp:Bool} {id:Nat} {ops:Array Oper} {Q:Exit→List AV→AH→Prop} {f:List AV} {h:AH} {n:Nat} {r:Rs (List AV)} (hr:LZ P call ops f h n=some r) (hq:Q .normal r.a r.h):fT P tp (.region id ops true) Q f h:=by
 unfold LZ at hr;by_cases hm:P.follows .mixedOrders=true
 ·rw[if_pos hm]at hr
  obtain⟨r1,s,h1,h2,e1,e2,e3⟩:=gD hr;by_cases hb:NC ops r1.a.2=true
  ·rw[if_pos hb]at h2
   cases h2;obtain⟨k1,k2,k3⟩:=EC hc _ _ _ _ r1 h1;rw[List.length_range]at k1;have hz:((List.range ops.size).zip r1.a.2).map (fun p=>(ops.getD p.1 default,p.2))=(List.range ops.size).map (fZ ops r1.a.2):=by
    apply List.ext_getElem?
    intro j;rw[List.getElem?_map,List.getElem?_map];by_cases hj:j<ops.size
    ·have h1:(List.range ops.size)[j]?=some j:=by simp[hj]
     have h2:r1.a.2[j]?=some r1.a.2[j]:=by simp[List.getElem?_eq_getElem (show j<r1.a.2.length by omega)]
     rw[(List.getElem?_zip_eq_some (z:=(j,r1.a.2[j]))).2 ⟨h1,h2⟩,h1]
     simp[fZ,List.getD,h2]
    ·have h1:(List.range ops.size)[j]?=none:=by simp;omega
     have h2:((List.range ops.size).zip r1.a.2)[j]?=none:=by
      rw[List.getElem?_eq_none];simp;omega
     rw[h1,h2];rfl
   rw[hz]at k2 k3;rw[e1,e2]at hq;exact fT.draw hm r1.a.2 k1 hb k2 k3 hq
  ·rw[if_neg hb]at h2;cases h2
 ·rw[if_neg hm]at hr;cases hr
theorem kX [Bk] [Ev] (hc:lX P call) {tp:Bool}:∀(k:Nat) (c:Code) (Q:Exit→List AV→AH→Prop) (f:List AV) (h:AH) (n:Nat) (r:Rs (AX×List AV)),eK P call tp k c f h n=some r→Q r.a.1.to r.a.2 r.h→fT P tp c Q f h
 |0,c,Q,f,h,n,r,hr,hq=>by simp only[eK]at hr;cases hr
 |k+1,c,Q,f,h,n,r,hr,hq=>by
  cases c with
  |skip=>cases hr;exact fT.skip hq
  |region id ops draw =>
   simp only[eK]at hr;obtain⟨r1,s,h1,h2,e1,e2,e3⟩:=gD hr;cases h2;rw[e1,e2]at hq;cases draw with
   |true =>
    simp only[if_true]at h1;exact agi hc h1 hq
   |false =>
    simp only[Bool.false_eq_true,if_false]at h1;exact fT.region (Pt hc _ _ _ _ _ h1 hq)
  |seq x y =>
   simp only[eK]at hr;obtain⟨r1,s,h1,h2,e1,e2,e3⟩:=gD hr;refine fT.seq (kX hc k x _ f h n r1 h1 ?_)
   cases hx:r1.a.1 with
   |normal =>
    simp only[hx]at h2;exact kX hc k y Q _ _ _ s h2 (by rw[←e1,←e2];exact hq)
   |_ =>
    simp only[hx]at h2;cases h2;rw[e1,e2,hx]at hq;exact hq
  |cond c x y =>
   simp only[eK]at hr;cases hv:cV f c with
   |c v =>
    cases v with
    |bool b=>simp only[hv]at hr;exact fT.cond hv (kX hc k _ Q f h n r hr hq)
    |_=>simp only[hv]at hr;cases hr
   |_=>simp only[hv]at hr;cases hr
  |block id c =>
   simp only[eK]at hr;obtain⟨r1,s,h1,h2,e1,e2,e3⟩:=gD hr;refine fT.block (kX hc k c _ f h n r1 h1 ?_)
   cases hx:r1.a.1 with
   |exit id' =>
    simp only[hx]at h2;simp only[AX.to,wV];by_cases hid:id'=id
    ·rw[if_pos hid]at h2 ⊢
     cases h2;rw[e1,e2]at hq;exact hq
    ·rw[if_neg hid]at h2 ⊢
     cases h2;rw[e1,e2,hx]at hq;exact hq
   |_ =>
    simp only[hx]at h2;cases h2;rw[e1,e2,hx]at hq;exact hq
  |scope c =>
   simp only[eK]at hr;have hg:∀l,r.a.1.to≠.goto l:=by intro l;cases r.a.1<;>simp[AX.to]
   exact fT.scope (kX hc k c _ f h n r hr ⟨hg,hq⟩)
  |label l=>cases hr;exact fT.label hq
  |loop c =>
   have key:∀(k:Nat) (f:List AV) (h:AH) (n:Nat) (r:Rs (AX×List AV)),eK P call tp k (.loop c) f h n=some r→Q r.a.1.to r.a.2 r.h→(∀k' c' Q f h n r,k'<k→eK P call tp k' c' f h n=some r→Q r.a.1.to r.a.2 r.h→fT P tp c' Q f h)→fT P tp (.loop c) Q f h:=by
    intro k f h n r hr hq ih;refine fT.loop (fun m f h=>∃n r,eK P call tp m (.loop c) f h n=some r∧Q r.a.1.to r.a.2 r.h∧m≤k) k ⟨n,r,hr,hq,Nat.le_refl _⟩ ?_
    rintro m f1 h1 ⟨n1,r1,hr1,hq1,hm⟩
    cases m with
    |zero=>simp only[eK]at hr1;cases hr1
    |succ m =>
     simp only[eK]at hr1;obtain⟨r2,s,g1,g2,e1,e2,e3⟩:=gD hr1;refine ih m c _ f1 h1 n1 r2 (by omega) g1 ?_
     cases hx:r2.a.1 with
     |normal =>
      simp only[hx]at g2;exact⟨m,by omega,_,s,g2,by rw[←e1,←e2];exact hq1,by omega⟩
     |_ =>
      simp only[hx]at g2;cases g2;rw[e1,e2,hx]at hq1;exact hq1
   exact key (k+1) f h n r hr hq fun k' c' Q f h n r hk=>kX hc k' c' Q f h n r
  |rangeFunc g ps as bd =>
   simp only[eK]at hr;cases tp with
   |false=>simp only[Bool.false_eq_true,if_false]at hr;cases hr
   |true =>
    simp only[if_true]at hr;cases hv:cV f g with
    |fn F first captured =>
     cases F with
     |func kk =>
      cases first with
      |nil =>
       simp only[hv]at hr;obtain⟨r1,s1,g1,g2,e1,e2,e3⟩:=gD hr;obtain⟨r2,s2,g3,g4,d1,d2,d3⟩:=gD g2;obtain⟨r3,s3,g5,g6,c1,c2,c3⟩:=gD g4;cases g6;unfold Xy at g1;split at g1
       ·rename_i hn
        cases g1;obtain⟨fn,c,h1,h2,h3,h4⟩:=hc.ok _ _ _ _ r2 g3;refine fT.rangeFunc hv h1 h2 h3 hn (h4.mono ?_)
        rintro v h' ⟨rfl,rfl⟩
        unfold atL at g5;rw[e1,d1,c1,e2,d2,c2]at hq;unfold aeF;cases hb:r2.h n with
        |lp st f0 ps0 as0 bd0 =>
         rw[hb]at g5;cases st with
         |ready=>simp only[wM]at g5;cases g5;exact hq
         |busy=>simp only[wM]at g5;cases g5
         |done c0 =>
          cases c0 with
          |ret=>simp only[wM]at g5;cases g5;exact hq
          |exit i=>simp only[wM]at g5;cases g5;exact hq
          |_=>simp only[wM]at g5;cases g5
        |_=>rw[hb]at g5;simp only[wM]at g5;cases g5
       ·cases g1
      |cons _ _=>simp only[hv]at hr;cases hr
     |_=>simp only[hv]at hr;cases hr
    |_=>simp only[hv]at hr;cases hr
  |exit id=>cases hr;exact fT.exit hq
  |ret=>cases hr;exact fT.ret hq
  |_=>simp only[eK]at hr;cases hr
 termination_by k=>k
 decreasing_by all_goals omega
theorem aad {α:Type} {id:Nat} {g:bX→Option (α×bX)} {h:AH} {n:Nat} {r:Rs α} (hr:atL id g h n=some r):∃b,g (h id)=some (r.a,b)∧r.h=cH h id b:=by
 unfold atL at hr;cases hg:g (h id)with
 |none=>rw[hg]at hr;cases hr
 |some p =>
  obtain⟨a,b⟩:=p;rw[hg]at hr;cases hr;exact⟨b,rfl,rfl⟩
theorem ac6 [Bk] [Ev] (hc:lX P call) {L id:Nat} {args:List AV} {h:AH} {n:Nat} {r:Rs AV} (hr:zT P L call id args h n=some r):pQ P id args h (fun v h'=>v=r.a∧h'=r.h):=by
 unfold zT at hr;obtain⟨r1,s1,g1,g2,e1,e2,-⟩:=gD hr;obtain⟨b1,q1,q2⟩:=aad g1;cases hb:h id with
 |lp st f ps as bd =>
  rw[hb]at q1;cases st with
  |ready =>
   simp only[acL,Option.some.injEq,Prod.mk.injEq]at q1;obtain⟨q1,rfl⟩:=q1;have hsame:cH h id (.lp .ready f ps as bd)=h:=by
    funext k
    by_cases e:k=id
    ·subst e;rw[mE,hb]
    ·rw[eZ _ _ e]
   rw[hsame]at q2;rw[←q1]at g2;simp only at g2
   by_cases hl:args.length=ps.size
   ·rw[if_pos hl]at g2
    obtain⟨r2,s2,g3,g4,d1,d2,-⟩:=gD g2;rw[q2]at g3;refine pQ.gY hb hl (kX hc L as _ _ h _ r2 g3 ?_)
    cases hx:r2.a.1 with
    |normal =>
     simp only[hx]at g4;obtain⟨r3,s3,g5,g6,c1,c2,-⟩:=gD g4;obtain⟨b3,k1,k2⟩:=aad g5;obtain⟨r4,s4,g7,g8,i1,i2,-⟩:=gD g6;obtain⟨b4,k3,k4⟩:=aad g8;cases hb2:r2.h id with
     |lp st' f' ps' as' bd' =>
      rw[hb2]at k1;cases st' with
      |ready =>
       simp only[NK,Option.some.injEq,Prod.mk.injEq]at k1;obtain⟨-,rfl⟩:=k1;rw[k2]at g7;refine⟨rfl,f',ps',as',bd',rfl,kX hc L bd _ _ _ _ r4 g7 ?_⟩
       cases hb3:r4.h id with
       |lp st3 f3 ps3 as3 bd3 =>
        rw[hb3]at k3;cases st3 with
        |busy =>
         have fin:s4.a=r.a∧s4.h=r.h:=⟨by rw[e1,d1,c1,i1],by rw[e2,d2,c2,i2]⟩
         cases hx4:r4.a.1<;>(rw[hx4]at k3;simp only[MO,Option.some.injEq,Prod.mk.injEq]at k3;obtain⟨k3,rfl⟩:=k3;exact⟨f3,ps3,as3,bd3,hb3,k3.trans fin.1,k4.symm.trans fin.2⟩)
        |_=>simp[MO]at k3
       |_=>rw[hb3]at k3;simp[MO]at k3
      |_=>simp[NK]at k1
     |_=>rw[hb2]at k1;simp[NK]at k1
    |_=>simp only[hx]at g4;cases g4
   ·rw[if_neg hl]at g2;cases g2
  |_=>simp[acL]at q1
 |_=>rw[hb]at q1;simp[acL]at q1
end
end Mc
namespace Mc
section
variable {P:Program}
theorem bW.aiv [Bk] [Ev] {h:AH} {m:Nat→St} {A:Nat→Prop} {w:World} (H:bW m A h w) {id:Nat} (hid:h id=.no) :
  bW (sset m id .dead) A (cH h id .dead) w∧Ext m w (sset m id .dead) w:=by
 have hmid:=H.no id hid;have ne:∀{k:Nat} {s:St},m k=s→s≠.no→k≠id:=by rintro k s h1 h2 rfl;rw[hmid]at h1;exact h2 h1.symm
 have E:Ext m w (sset m id .dead) w:=by
  refine⟨rfl,rfl,rfl,Nat.le_refl _,?_,?_,?_,?_,fun _ _ _ _=>rfl⟩
  ·intro k b hb;exact .inl (by rw[sset,if_neg (ne hb (by simp))];exact hb)
  ·intro k hk
   unfold sset;split
   ·rfl
   ·exact hk
  ·intro k hk;exact .inl (by rw[sset,if_neg (ne hk (by simp))];exact hk)
  ·intro b hb hu
   refine⟨?_,rfl⟩
   intro k;unfold sset;split
   ·intro e;cases e
   ·exact hu k
 refine⟨⟨?_,H.FO,?_,?_,?_,?_,H.jF.ext H.out E,H.lA E fun id' B hk hB=>?_,lM.set H.PD trivial⟩,E⟩
 ·intro k b hb
  unfold sset at hb;split at hb
  ·cases hb
  ·exact H.out k b hb
 ·intro k hk
  unfold cH at hk;unfold sset;split at hk
  ·cases hk
  ·rename_i hne;rw[if_neg hne];exact H.no k hk
 ·intro k hk
  unfold cH at hk;unfold sset;split at hk
  ·rename_i he;rw[if_pos he]
  ·rename_i hne;rw[if_neg hne];exact H.dead k hk
 ·intro k T' sz' els' hk
  unfold cH at hk;split at hk
  ·simp[bX.aW]at hk
  ·rename_i hne
   obtain⟨g1,g2⟩|⟨b,cs,g1,g2,g3,g4,g5⟩:=H.qT k T' sz' els' hk
   ·exact .inl ⟨by simp[sset,hne,g1],g2⟩
   ·exact .inr ⟨b,cs,by simp[sset,hne,g1],g2,g3,g4,fun i j x hx=>⟨(g5 i j x hx).1,(g5 i j x hx).2.ext E⟩⟩
 ·intro i j b hi hj
  unfold sset at hi hj;split at hi
  ·cases hi
  ·split at hj
   ·cases hj
   ·exact H.inj i j b hi hj
 ·unfold cH at hk;split at hk
  ·subst hk;exact absurd hB (by simp[bX.other])
  ·rename_i hne
   exact⟨hk,fun b hb=>⟨by simp[sset,hne,hb],rfl⟩⟩
theorem Ip [Bk] [Ev] {o:Oper} {f:List AV} {h:AH} {t e ty:TypeId} {x:Operand} {aW:List (List AV)} (ho:o.op=.binOp .eql t x (.const (.slice none 0 0)) ty) (ht:P.underlying t=some (.slice e)) (he:gB h (cV f x)=some aW) :
  lW P o f h (fun v h'=>h'=h∧(v=.c (.bool true)∧aW=[]∨v=.c (.bool false))):=by
 intro r' m A w a H F K Q hK;have h1:=F.eval x;have hv:∃ad cap,a.eval x=.slice ad aW.length cap∧(ad=none→aW=[]):=by
  generalize cV f x=y at h1 he
  generalize a.eval x=v at h1
  cases y with
  |emp =>
   simp only[gB,Option.some.injEq]at he;subst he
   cases h1 with|pure _ _ hr=>cases hr with|emp a=>exact⟨a,0,rfl,fun _=>rfl⟩
  |lit s els' =>
   simp only[gB,Option.some.injEq]at he;subst he
   obtain⟨rfl,a,cap,rfl⟩|⟨b,off,cap,vs,rfl,-⟩:=h1.mP
   ·exact⟨a,cap,rfl,fun _=>rfl⟩
   ·exact⟨_,cap,rfl,fun h=>by cases h⟩
  |own T s id i n =>
   simp only[gB]at he;split at he
   ·rename_i T' sz' els0 hh
    split at he
    ·rename_i hc
     obtain⟨rfl,rfl,hle⟩:=hc;cases he;have hlen:((els0.drop i).take n).length=n:=by simp;omega
     rw[hlen];rcases H.cells id _ _ _ hh with⟨hv,rfl⟩|⟨b,cs,g1,g2,g3,g4,g5⟩
     ·cases h1 with
      |pure _ _ h=>cases h
      |own _ _ _ _ _ b _ hm=>rw[hv]at hm;cases hm
      |rG _ _ _ _ a hm=>exact⟨a,0,rfl,fun _=>by simp⟩
      |sW _ _ _ _ _ _ _ _ hm=>rw[hv]at hm;cases hm
     ·obtain⟨cap,rfl,-⟩:=h1.pA g1
      exact⟨_,cap,rfl,fun h=>by cases h⟩
    ·cases he
   ·cases he
  |_=>simp[gB]at he
 obtain⟨ad,cap,hv,hnil⟩:=hv;have hexec:(execOp a.eval o).run P w=.ok (.value (.bool ad.isNone)) w:=by
  have:(Op.equal t (.slice ad aW.length cap) (.slice none 0 0)).run P w=.ok ad.isNone w:=run_equal_slice_nil w t e ad aW.length cap ht
  have hc:a.eval (.const (.slice none 0 0))=.slice none 0 0:=rfl
  simp[execOp,ho,hv,hc,eqGuard,binOp,this]
 refine CM hexec ?_
 cases ad with
 |none=>exact hK (.c (.bool true)) h (.bool true) w m ⟨rfl,.inl ⟨rfl,hnil rfl⟩⟩ H (.pure _ _ (.c _)) (Ext.refl _ _)
 |some ad=>exact hK (.c (.bool false)) h (.bool false) w m ⟨rfl,.inr rfl⟩ H (.pure _ _ (.c _)) (Ext.refl _ _)
theorem wO [Bk] [Ev] {o:Oper} {f:List AV} {h:AH} {t e:TypeId} {i:TypeInfo} {nx:Nat} (ho:o.op=.buildSlice t 0 #[]) (ht:P.underlying t=some (.slice e)) (hi:P.info? e=some i) (hnx:h nx=.no) :
  cL P o f h ⟨.own e i.size nx 0 0,[(nx,.cells e i.size [])],[nx]⟩:=by
 intro m A w a H F;obtain⟨q1,q2,q3⟩:=OC H (T:=e) (sz:=i.size) (n:=0) (cap:=0) (aW:=[]) (cs:=#[]) hnx rfl (Nat.le_refl _) (Nat.zero_le _) (by simp) (by simp) (by intro i j x hx;simp[fD]at hx)
 refine⟨_,_,_,.inl ?_,by simpa[dW]using q1,q3,q2⟩
 simp[execOp,ho,Instr.buildSlice,run_underlying ht,sizeOf,typeInfo,hi,Instr.fill,newRow]
 rw[show(Array.map (fun _:Nat=>(default:Value)) (Array.range 0))=#[]from by apply Array.ext';simp]
structure aaq (fn:Func) (t:TypeId):Prop where
 body:∃(i0 i1 i2 i3:Nat) (o0 o1 o2 o3 o4 o5 o6 o7:Oper),fn.body=some (.seq (.region i0 #[o0] false) (.seq (.seq (.region i1 #[o1,o2] false) (.cond (.tmp 4) (.seq (.region i2 #[o3] false) .ret) .skip)) (.seq (.region i3 #[o4,o5,o6,o7] false) .ret))) ∧
  o0.dst=some 2∧o0.op=.assign (.const (.slice none 0 0))∧o1.dst=some 3∧o1.op=.move (.tmp 0)∧o2.dst=some 4∧(∃ty,o2.op=.binOp .eql t (.tmp 3) (.const (.slice none 0 0)) ty) ∧
  o3.dst=some 2∧o3.op=.assign (.const (.slice none 0 0))∧o4.dst=some 5∧o4.op=.buildSlice t 0 #[]∧o5.dst=some 6∧o5.op=.move (.tmp 0)∧o6.dst=some 7∧o6.op=.call { callee:=.builtin .append,args:=#[.tmp 5,.tmp 6],argTypes:=#[t,t] }∧o7.dst=some 2∧o7.op=.assign (.tmp 7) ∧
  o0.guard=none∧o1.guard=none∧o2.guard=none∧o3.guard=none∧o4.guard=none∧o5.guard=none∧o6.guard=none∧o7.guard=none
 tmps:fn.ntmps=8
 res:fn.results=#[.tmp 2]
 name : (fn.name == "runtime.NumGoroutine") = false
theorem eN [Bk] [Ev] {ops:Array Oper} {o:Oper} {f:List AV} (h:o.guard=none):kI ops o f=some true:=by unfold kI;rw[h]
theorem afT [Bk] [Ev] {k:FuncId} {fn:Func} {t e:TypeId} {i:TypeInfo} {z:Value} {x:AV} {h:AH} {aW:List (List AV)} {nx:Nat} (hk:P.funcs[k]?=some fn) (hf:aaq fn t) (ht:P.underlying t=some (.slice e)) (hi:P.info? e=some i) (hz:i.zero=some z) (hzs:z.cells.size=i.size) (hs0:0<i.size)
  (hx:gB h x=some aW) (hes:∀q∈aW,q.length=i.size) (hyo:∀T s id j n,x=.own T s id j n→s=i.size) (hb:aW.length*i.bytes≤140737488355328) (hm:aW.length≤1099511627776) (hnx:h nx=.no) (hnx1:h (nx+1)=.no) (hid:nx ∉ oU x) :
  dL P k [x] h (fun v h'=>v=.own e i.size (nx+1) 0 aW.length∧h'=dW h [(nx,.dead),(nx+1,.cells e i.size aW)]):=by
 obtain⟨i0,i1,i2,i3,o0,o1,o2,o3,o4,o5,o6,o7,hbody,d0,p0,d1,p1,d2,⟨ty,p2⟩,d3,p3,d4,p4,d5,p5,d6,p6,d7,p7,g0,g1,g2,g3,g4,g5,g6,g7⟩:=hf.body
 have hres:∀(f:List AV) (h:AH),dX P fn f h=some (f.getD 2 .undef):=by
  intro f h;simp[dX,hf.res,yD,vJ]
 have key:dL P k [x] h (fun v h'=>(v=.emp∧h'=h∧aW=[])∨(v=.own e i.size (nx+1) 0 aW.length∧h'=dW h [(nx,.dead),(nx+1,.cells e i.size aW)])):=by
  refine dL.gY hk hbody ?_
  rw[hf.tmps];show fT P _ _ _ [x,.undef,.undef,.undef,.undef,.undef,.undef,.undef] _
  refine fT.seq (fT.region ?_)
  refine gO.cons (o:=o0) rfl (eN g0) (nM p0).step ?_
  rintro v h' ⟨rfl,rfl⟩
  refine gO.nil ?_
  rw[d0];show fT P _ _ _ [x,.undef,.emp,.undef,.undef,.undef,.undef,.undef] _
  refine fT.seq (fT.seq (fT.region ?_))
  refine gO.cons (o:=o1) rfl (eN g1) (AE p1).step ?_
  rintro v h' ⟨hv1,rfl⟩
  rw[d1,show v=x from hv1]
  show gO P _ _ [1] [x,.undef,.emp,x,.undef,.undef,.undef,.undef] _
  refine gO.cons (o:=o2) rfl (eN g2) (Ip p2 ht hx) ?_
  rintro v h' ⟨rfl,⟨rfl,hnil⟩|rfl⟩
  ·rw[d2]
   refine gO.nil ?_
   show fT P _ _ _ [x,.undef,.emp,x,.c (.bool true),.undef,.undef,.undef] _
   refine fT.cond (b:=true) rfl ?_
   refine fT.seq (fT.region ?_)
   refine gO.cons (o:=o3) rfl (eN g3) (nM p3).step ?_
   rintro v h'' ⟨rfl,rfl⟩
   rw[d3];refine gO.nil ?_
   show fT P _ _ _ [x,.undef,.emp,x,.c (.bool true),.undef,.undef,.undef] _
   refine fT.ret ?_
   exact⟨.emp,by rw[hres];rfl,.inl ⟨rfl,rfl,hnil⟩⟩
  ·rw[d2]
   refine gO.nil ?_
   show fT P _ _ _ [x,.undef,.emp,x,.c (.bool false),.undef,.undef,.undef] _
   refine fT.cond (b:=false) rfl ?_
   refine fT.skip ?_
   show fT P _ _ _ _ _
   refine fT.seq (fT.region ?_)
   refine gO.cons (o:=o4) rfl (eN g4) (wO p4 ht hi hnx).step ?_
   rintro v h'' ⟨rfl,rfl⟩
   rw[d4];show gO P _ _ [1,2,3] [x,.undef,.emp,x,.c (.bool false),.own e i.size nx 0 0,.undef,.undef] _
   refine gO.cons (o:=o5) rfl (eN g5) (AE p5).step ?_
   rintro v h'' ⟨hv5,rfl⟩
   rw[d5,show v=x from hv5]
   show gO P _ _ [2,3] [x,.undef,.emp,x,.c (.bool false),.own e i.size nx 0 0,x,.undef] _
   have hx':gB (dW h' [(nx,.cells e i.size [])]) x=some aW:=by
    rw[zR (x:=x) (h:=h')]
    ·exact hx
    ·intro id hid'
     simp only[dW];exact eZ _ _ (by rintro rfl;exact hid hid')
   have hap:=Nm (P:=P) (o:=o6) (f:=[x,.undef,.emp,x,.c (.bool false),.own e i.size nx 0 0,x,.undef]) (h:=dW h' [(nx,.cells e i.size [])]) (aW:=[]) (ys:=aW) (k:=[(nx,.dead)]) (rd:=[nx]) (nx:=nx+1) p6 ht hi hz hzs hs0
    (by simp[cV,sL,dW,cH]) hx' hes hyo (by simpa using hb) (by simpa using hm) (by simp only[dW,List.append_nil];rw[eZ _ _ (by omega)];exact hnx1)
   refine gO.cons (o:=o6) rfl (eN g6) hap.step ?_
   rintro v h'' ⟨rfl,rfl⟩
   rw[d6];refine gO.cons (o:=o7) rfl (eN g7) (nM p7).step ?_
   rintro v h'' ⟨rfl,rfl⟩
   rw[d7];refine gO.nil ?_
   refine fT.ret ?_
   refine⟨_,hres _ _,.inr ⟨?_,?_⟩⟩
   ·simp[oY,cV]
   ·simp only[List.nil_append,dW,List.cons_append,List.append_nil]
    funext id
    by_cases h1:id=nx+1
    ·simp[cH,h1]
    ·by_cases h2:id=nx
     ·simp[cH,h2]
     ·simp[cH,h1,h2]
 intro m A w vs H hl hv;refine(key m A w vs H hl hv).mono ?_
 rintro ed w' ⟨v,u,m',h',rfl,hR,H',hr,E⟩
 rcases hR with⟨rfl,rfl,rfl⟩|⟨rfl,rfl⟩
 ·obtain⟨H1,E1⟩:=H'.aiv hnx
  obtain⟨H2,E2⟩:=H1.aas (id:=nx+1) (by rw[eZ _ _ (by omega)];exact hnx1) e i.size
  obtain⟨a0,rfl⟩:∃a0,v=.slice a0 0 0:=by
   cases hr with|pure _ _ hr=>cases hr with|emp a0=>exact⟨a0,rfl⟩
  exact⟨_,_,_,_,rfl,⟨rfl,rfl⟩,H2,.rG e i.size (nx+1) 0 a0 (by simp[sset]),(E.trans E1).trans E2⟩
 ·exact⟨v,_,m',_,rfl,⟨rfl,rfl⟩,H',hr,E⟩
theorem CV [Bk] [Ev] {o:Oper} {f:List AV} {h:AH} {t e ty:TypeId} {x:Operand} {sz:Nat} {aW:List (List AV)} (ho:o.op=.binOp .eql t x (.const (.slice none 0 0)) ty) (ht:P.underlying t=some (.slice e)) (he:CE h (cV f x) sz aW) :
  lW P o f h (fun v h'=>h'=h∧(v=.c (.bool true)∧aW=[]∨v=.c (.bool false))):=by
 intro r' m A w a H F K Q hK;obtain⟨-,ad,cap,hv,-,hnil,-⟩:=he m A w _ H (F.eval x)
 have hexec:(execOp a.eval o).run P w=.ok (.value (.bool ad.isNone)) w:=by
  have:(Op.equal t (.slice ad aW.length cap) (.slice none 0 0)).run P w=.ok ad.isNone w:=run_equal_slice_nil w t e ad aW.length cap ht
  have hc:a.eval (.const (.slice none 0 0))=.slice none 0 0:=rfl
  simp[execOp,ho,hv,hc,eqGuard,binOp,this]
 refine CM hexec ?_
 cases ad with
 |none=>exact hK (.c (.bool true)) h (.bool true) w m ⟨rfl,.inl ⟨rfl,hnil rfl⟩⟩ H (.pure _ _ (.c _)) (Ext.refl _ _)
 |some ad=>exact hK (.c (.bool false)) h (.bool false) w m ⟨rfl,.inr rfl⟩ H (.pure _ _ (.c _)) (Ext.refl _ _)
theorem XY [Bk] [Ev] {k:FuncId} {fn:Func} {t e:TypeId} {i:TypeInfo} {z:Value} {x:AV} {h:AH} {base:Nat} {bP:List (Poly×List AV)} {tail:List (List AV)} {n:Poly} {nx:Nat} (hk:P.funcs[k]?=some fn) (hf:aaq fn t) (ht:P.underlying t=some (.slice e)) (hi:P.info? e=some i) (hz:i.zero=some z) (hzs:z.cells.size=i.size) (hs0:0<i.size)
  (hx:lG h x=some (i.size,base,bP,tail,n)) (hfit:Su n i.bytes=true) (hnx:h nx=.no) (hnx1:h (nx+1)=.no) (hid:nx ∉ Fo x) :
  dL P k [x] h (fun v h'=>v=.cQ e i.size (nx+1) n∧h'=dW h [(nx,.dead),(nx+1,.sc e i.size base bP tail n)]):=by
 obtain⟨i0,i1,i2,i3,o0,o1,o2,o3,o4,o5,o6,o7,hbody,d0,p0,d1,p1,d2,⟨ty,p2⟩,d3,p3,d4,p4,d5,p5,d6,p6,d7,p7,g0,g1,g2,g3,g4,g5,g6,g7⟩:=hf.body
 have hres:∀(f:List AV) (h:AH),dX P fn f h=some (f.getD 2 .undef):=by
  intro f h;simp[dX,hf.res,yD,vJ]
 intro m A w vs H hl hv;have hS0:(∀q∈bP,InB base q.1)∧bR Ev.cX n=((rowsOf base bP tail).length:Int):=Ij hx H (hv 0 x rfl)
 have key:dL P k [x] h (fun v h'=>(v=.emp∧h'=h∧rowsOf base bP tail=[])∨(v=.cQ e i.size (nx+1) n∧h'=dW h [(nx,.dead),(nx+1,.sc e i.size base bP tail n)])):=by
  refine dL.gY hk hbody ?_
  rw[hf.tmps];show fT P _ _ _ [x,.undef,.undef,.undef,.undef,.undef,.undef,.undef] _
  refine fT.seq (fT.region ?_)
  refine gO.cons (o:=o0) rfl (eN g0) (nM p0).step ?_
  rintro v h' ⟨rfl,rfl⟩
  refine gO.nil ?_
  rw[d0];show fT P _ _ _ [x,.undef,.emp,.undef,.undef,.undef,.undef,.undef] _
  refine fT.seq (fT.seq (fT.region ?_))
  refine gO.cons (o:=o1) rfl (eN g1) (AE p1).step ?_
  rintro v h' ⟨hv1,rfl⟩
  rw[d1,show v=x from hv1]
  show gO P _ _ [1] [x,.undef,.emp,x,.undef,.undef,.undef,.undef] _
  refine gO.cons (o:=o2) rfl (eN g2) (CV p2 ht (xH hx)) ?_
  rintro v h' ⟨rfl,⟨rfl,hnil⟩|rfl⟩
  ·rw[d2]
   refine gO.nil ?_
   show fT P _ _ _ [x,.undef,.emp,x,.c (.bool true),.undef,.undef,.undef] _
   refine fT.cond (b:=true) rfl ?_
   refine fT.seq (fT.region ?_)
   refine gO.cons (o:=o3) rfl (eN g3) (nM p3).step ?_
   rintro v h'' ⟨rfl,rfl⟩
   rw[d3];refine gO.nil ?_
   show fT P _ _ _ [x,.undef,.emp,x,.c (.bool true),.undef,.undef,.undef] _
   refine fT.ret ?_
   exact⟨.emp,by rw[hres];rfl,.inl ⟨rfl,rfl,hnil⟩⟩
  ·rw[d2]
   refine gO.nil ?_
   show fT P _ _ _ [x,.undef,.emp,x,.c (.bool false),.undef,.undef,.undef] _
   refine fT.cond (b:=false) rfl ?_
   refine fT.skip ?_
   show fT P _ _ _ _ _
   refine fT.seq (fT.region ?_)
   refine gO.cons (o:=o4) rfl (eN g4) (wO p4 ht hi hnx).step ?_
   rintro v h'' ⟨rfl,rfl⟩
   rw[d4];show gO P _ _ [1,2,3] [x,.undef,.emp,x,.c (.bool false),.own e i.size nx 0 0,.undef,.undef] _
   refine gO.cons (o:=o5) rfl (eN g5) (AE p5).step ?_
   rintro v h'' ⟨hv5,rfl⟩
   rw[d5,show v=x from hv5]
   show gO P _ _ [2,3] [x,.undef,.emp,x,.c (.bool false),.own e i.size nx 0 0,x,.undef] _
   have hx':lG (dW h' [(nx,.cells e i.size [])]) x=some (i.size,base,bP,tail,n):=by
    rw[FG (x:=x) (h:=h')]
    ·exact hx
    ·intro id hid'
     simp only[dW];exact eZ _ _ (by rintro rfl;exact hid hid')
   have hb:=FY hfit hS0.2;have hap:=sA (P:=P) (o:=o6) (f:=[x,.undef,.emp,x,.c (.bool false),.own e i.size nx 0 0,x,.undef]) (h:=dW h' [(nx,.cells e i.size [])]) (aW:=[]) (ys:=rowsOf base bP tail) (k:=[(nx,.dead)]) (uJ:=[]) (nx:=nx+1) (B:=.sc e i.size base bP tail n) (n:=n) p6 ht hi hz hzs hs0
    (vI.own (by simp[dW,cH]) rfl) (xH hx') (by simpa using hb.1) (by simpa using hb.2) (by simp only[dW];rw[eZ _ _ (by omega)];exact hnx1) rfl (fun _ _ _ _ _ _ _ _=>⟨⟨hS0.2,hS0.1⟩,by simpa using hS0.2⟩)
   refine gO.cons (o:=o6) rfl (eN g6) hap.step ?_
   rintro v h'' ⟨rfl,rfl⟩
   rw[d6];refine gO.cons (o:=o7) rfl (eN g7) (nM p7).step ?_
   rintro v h'' ⟨rfl,rfl⟩
   rw[d7];refine gO.nil ?_
   refine fT.ret ?_
   refine⟨_,hres _ _,.inr ⟨?_,?_⟩⟩
   ·simp[oY,cV]
   ·simp only[List.nil_append,dW,List.cons_append,List.append_nil]
    funext id
    by_cases h1:id=nx+1
    ·simp[cH,h1]
    ·by_cases h2:id=nx
     ·simp[cH,h2]
     ·simp[cH,h1,h2]
 refine(key m A w vs H hl hv).mono ?_
 rintro ed w' ⟨v,u,m',h',rfl,hR,H',hr,E⟩
 rcases hR with⟨rfl,rfl,h0⟩|⟨rfl,rfl⟩
 ·obtain⟨H1,E1⟩:=H'.aiv hnx
  obtain⟨H2,E2⟩:=H1.Ie (id:=nx+1) (by rw[eZ _ _ (by omega)];exact hnx1) (B:=.sc e i.size base bP tail n) (T:=e) (sz:=i.size) (by simp only[bX.aW];rw[h0]) ⟨hS0.2,hS0.1⟩
  obtain⟨a0,rfl⟩:∃a0,v=.slice a0 0 0:=by
   cases hr with|pure _ _ hr=>cases hr with|emp a0=>exact⟨a0,rfl⟩
  exact⟨_,_,_,_,rfl,⟨rfl,rfl⟩,H2,.rU e i.size (nx+1) n a0 (by simp[sset]) (by rw[hS0.2,h0];rfl),(E.trans E1).trans E2⟩
 ·exact⟨v,_,m',_,rfl,⟨rfl,rfl⟩,H',hr,E⟩
def pJ (fn:Func):Option TypeId :=
 if fn.ntmps=8 then match fn.results.toList with
  | [.tmp 2] => if fn.name == "runtime.NumGoroutine" then none else match fn.body with
   |some (.seq (.region _ q0 false) (.seq (.seq (.region _ q1 false) (.cond (.tmp 4) (.seq (.region _ q2 false) .ret) .skip)) (.seq (.region _ q3 false) .ret))) =>
    match q0.toList,q1.toList,q2.toList,q3.toList with
    |[⟨some 2,.assign (.const (.slice none 0 0)),_,_,_,none⟩],[⟨some 3,.move (.tmp 0),_,_,_,none⟩,⟨some 4,.binOp .eql t (.tmp 3) (.const (.slice none 0 0)) _,_,_,_,none⟩],[⟨some 2,.assign (.const (.slice none 0 0)),_,_,_,none⟩],
     [⟨some 5,.buildSlice t1 0 ps,_,_,_,none⟩,⟨some 6,.move (.tmp 0),_,_,_,none⟩,⟨some 7,.call ⟨.builtin .append,as,ts⟩,_,_,_,none⟩,⟨some 2,.assign (.tmp 7),_,_,_,none⟩] =>
     match ps.toList,as.toList,ts.toList with
     |[],[.tmp 5,.tmp 6],[t2,t3]=>if t1=t∧t2=t∧t3=t then some t else none
     |_,_,_=>none
    |_,_,_,_=>none
   |_=>none
  |_=>none
 else none
theorem amJ [Bk] [Ev] {α:Type} {l:Array α} (h:l.toList=[]):l=#[]:=by cases l;simp_all
theorem amH [Bk] [Ev] {α:Type} {l:Array α} {x y z u:α} (h:l.toList=[x,y,z,u]):l=#[x,y,z,u]:=by cases l;simp_all
theorem XL [Bk] [Ev] {fn:Func} {t:TypeId} (h:pJ fn=some t):aaq fn t:=by
 unfold pJ at h;split at h
 ·rename_i hn
  split at h
  ·rename_i hr
   split at h
   ·cases h
   ·rename_i hname
    split at h
    ·rename_i i0 q0 i1 q1 i2 q2 i3 q3 hb
     split at h
     ·rename_i e0 e1 e2 e3
      split at h
      ·rename_i e4 e5 e6
       split at h
       ·rename_i hc
        obtain⟨rfl,rfl,rfl⟩:=hc;cases h;have:=Pw e0;have:=Pv e1;have:=Pw e2;have:=amH e3;have:=amJ e4;have:=Pv e5;have:=Pv e6
        subst_vars
        exact⟨⟨i0,i1,i2,i3,_,_,_,_,_,_,_,_,hb,rfl,rfl,rfl,rfl,rfl,⟨_,rfl⟩,rfl,rfl,rfl,rfl,rfl,rfl,rfl,rfl,rfl,rfl,rfl,rfl,rfl,rfl,rfl,rfl,rfl,rfl⟩,hn,Pw hr,by simpa using hname⟩
       ·cases h
      ·cases h
     ·cases h
    ·cases h
  ·cases h
 ·cases h
def vC (P:Program) (t:TypeId) (x:AV):M AV:=fun h n =>
 match P.underlying t with
 |some (.slice e)=>match P.info? e with
  |some i=>match i.zero,gB h x with
   |some z,some aW=>if z.cells.size=i.size∧0<i.size∧(aW.all fun q=>q.length==i.size)=true∧I2 x i.size=true∧aW.length*i.bytes≤140737488355328∧aW.length≤1099511627776∧jS h n=true∧jS h (n+1)=true∧(oU x).contains n=false then
     some ⟨.own e i.size (n+1) 0 aW.length,dW h [(n,.dead),(n+1,.cells e i.size aW)],n+2,n::(n+1)::oU x,[n,n+1]⟩else none
   |_,_=>none
  |none=>none
 |_=>none
theorem R8 [Bk] [Ev] (t:TypeId) (x:AV):Local (vC P t x):=by
 intro h n r hr;have hr0:=hr;unfold vC at hr;split at hr
 ·rename_i e he
  split at hr
  ·rename_i i hi
   split at hr
   ·rename_i z aW hz hx
    split at hr
    ·rename_i hc
     cases hr;refine⟨by simp,fun id hid _=>fH (by simpa using hid),fun id hid=>by simp at hid ⊢;rcases hid with h|h<;>simp[h],?_⟩
     intro g hrd hrg;have e1:gB g x=gB h x:=zR fun id hid=>hrd id (by simp[hid])
     have e2:jS g n=jS h n:=oR (hrd n (by simp))
     have e3:jS g (n+1)=jS h (n+1):=oR (hrd (n+1) (by simp))
     refine⟨⟨.own e i.size (n+1) 0 aW.length,dW g [(n,.dead),(n+1,.cells e i.size aW)],n+2,n::(n+1)::oU x,[n,n+1]⟩,?_,rfl,rfl,rfl,rfl,?_,fun id hid _=>fH (by simpa using hid)⟩
     ·unfold vC
      simp only[he,hi,hz,e1,hx,e2,e3];rw[if_pos hc]
     ·intro id hid
      refine uK ?_
      rcases hid with hid|hid
      ·simpa using hid
      ·simp only at hid;simp;omega
    ·cases hr
   ·cases hr
  ·cases hr
 ·cases hr
def vB [Bk] (P:Program) (t:TypeId) (x:AV):M AV:=fun h n =>
 match P.underlying t with
 |some (.slice e)=>match P.info? e with
  |some i=>match i.zero,lG h x with
   |some z,some (sz,base,bP,tail,N)=>if z.cells.size=i.size∧0<i.size∧sz=i.size∧Su N i.bytes=true∧jS h n=true∧jS h (n+1)=true∧(Fo x).contains n=false then
     some ⟨.cQ e i.size (n+1) N,dW h [(n,.dead),(n+1,.sc e i.size base bP tail N)],n+2,n::(n+1)::Fo x,[n,n+1]⟩else none
   |_,_=>none
  |none=>none
 |_=>none
def qQ [Bk] (P:Program) (t:TypeId) (x:AV):M AV:=fun h n =>
 match vC P t x h n with
 |some r=>some r
 |none=>vB P t x h n
theorem EW [Bk] {t:TypeId} {x:AV} {h h':AH} {n n':Nat} {r:Rs AV} (hr:vB P t x h n=some r):vC P t x h' n'=none:=by
 have:gB h' x=none:=by
  unfold vB at hr;split at hr
  ·split at hr
   ·split at hr
    ·rename_i hy
     unfold lG at hy;split at hy
     ·rfl
     ·rfl
     ·cases hy
    ·cases hr
   ·cases hr
  ·cases hr
 unfold vC;rw[this];split
 ·split
  ·split
   ·rename_i h1;cases h1
   ·rfl
  ·rfl
 ·rfl
theorem OV [Bk] [Ev] (t:TypeId) (x:AV):Local (vB P t x):=by
 intro h n r hr;have hr0:=hr;unfold vB at hr;split at hr
 ·rename_i e he
  split at hr
  ·rename_i i hi
   split at hr
   ·rename_i z sz base bP tail N hz hx
    split at hr
    ·rename_i hc
     cases hr;refine⟨by simp,fun id hid _=>fH (by simpa using hid),fun id hid=>by simp at hid ⊢;rcases hid with h|h<;>simp[h],?_⟩
     intro g hrd hrg;have e1:lG g x=lG h x:=FG fun id hid=>hrd id (by simp[hid])
     have e2:jS g n=jS h n:=oR (hrd n (by simp))
     have e3:jS g (n+1)=jS h (n+1):=oR (hrd (n+1) (by simp))
     refine⟨⟨.cQ e i.size (n+1) N,dW g [(n,.dead),(n+1,.sc e i.size base bP tail N)],n+2,n::(n+1)::Fo x,[n,n+1]⟩,?_,rfl,rfl,rfl,rfl,?_,fun id hid _=>fH (by simpa using hid)⟩
     ·unfold vB
      simp only[he,hi,hz,e1,hx,e2,e3];rw[if_pos hc]
     ·intro id hid
      refine uK ?_
      rcases hid with hid|hid
      ·simpa using hid
      ·simp only at hid;simp;omega
    ·cases hr
   ·cases hr
  ·cases hr
 ·cases hr
theorem OU [Bk] [Ev] (t:TypeId) (x:AV):Local (qQ P t x):=by
 intro h n r hr;unfold qQ at hr;split at hr
 ·rename_i r' h1
  cases hr;have L:=R8 t x h n r h1;refine⟨L.le,L.frame,L.sub,fun g a b=>?_⟩
  obtain⟨r2,e1,e2⟩:=L.again g a b;exact⟨r2,by unfold qQ;rw[e1],e2⟩
 ·have L:=OV t x h n r hr
  refine⟨L.le,L.frame,L.sub,fun g a b=>?_⟩
  obtain⟨r2,e1,e2⟩:=L.again g a b;exact⟨r2,by unfold qQ;rw[EW (h':=g) (n':=n) hr];exact e1,e2⟩
def toPs:List AV→Option (List Poly)
 |[]=>some []
 |x::l=>match toP x,toPs l with
  |some p,some q=>some (p::q)
  |_,_=>none
def abo (k:Nat) (ps:List Poly):List (Nat×List Poly×List Poly)→Option (List Poly)
 |[]=>none
 |t::l=>if t.1=k∧t.2.1=ps then some t.2.2 else abo k ps l
theorem Sw {k:Nat} {ps rs:List Poly}:∀{l:List (Nat×List Poly×List Poly)},abo k ps l=some rs→(k,ps,rs)∈l
 |[],h=>by cases h
 |t::l,h=>by
  unfold abo at h;split at h
  ·rename_i e
   cases h;obtain⟨rfl,rfl⟩:=e;exact List.mem_cons_self
  ·exact List.mem_cons_of_mem _ (Sw h)
def yF (r:AV→Option (AV×List Nat)):List AV→Option (List AV×List Nat)
 |[]=>some ([],[])
 |x::l=>match r x with
  |none=>none
  |some (y,i)=>match yF r l with
   |none=>none
   |some (m,j)=>some (y::m,i++j)
def Fu (r:AV→Option (AV×List Nat)):List (List AV)→Option (List (List AV)×List Nat)
 |[]=>some ([],[])
 |e::l=>match yF r e with
  |none=>none
  |some (y,i)=>match Fu r l with
   |none=>none
   |some (m,j)=>some (y::m,i++j)
def rK (h:AH):Nat→AV→Option (AV×List Nat)
 |0,_=>none
 |k+1,x=>match x with
  | .agg cs=>match yF (rK h k) cs with
   |some (m,i)=>some (.agg m,i)
   |none=>none
  | .bB cs=>match yF (rK h k) cs with
   |some (m,i)=>some (.bB m,i)
   |none=>none
  | .own _ sz id i n=>match h id with
   | .cells _ s aW=>if s=sz∧i+n≤aW.length then match Fu (rK h k) ((aW.drop i).take n)with
     |some (m,js)=>some (.lit sz m,id::js)
     |none=>none
    else none
   |_=>none
  | .c v=>some (.c v,[])
  | .undef=>some (.undef,[])
  | .emp=>some (.emp,[])
  | .lit sz aW=>some (.lit sz aW,[])
  | .e p=>some (.e p,[])
  | .row n xs=>some (.row n xs,[])
  | .o i=>some (.o i,[])
  | .any=>some (.any,[])
  | .seq sz base bP tail=>some (.seq sz base bP tail,[])
  | .cQ _ sz id n=>match h id with
   | .sc _ s base bP tail n'=>if s=sz∧n'=n then match Fu (rK h k) (bP.map (·.2)),Fu (rK h k) tail with
     |some (u,js),some (m,ks)=>some (.seq sz base ((bP.map (·.1)).zip u) m,id::(js++ks))
     |_,_=>none
    else none
   |_=>none
  |_=>none
theorem mR {r:AV→Option (AV×List Nat)}:∀{cs m:List AV} {js:List Nat},yF r cs=some (m,js)→m.length=cs.length∧∀(i:Nat) (y:AV),m[i]?=some y→∃x is,cs[i]?=some x∧r x=some (y,is)∧∀id∈is,id∈js
 |[],m,js,h=>by cases h;exact⟨rfl,fun i y hy=>by simp at hy⟩
 |x::l,m,js,h=>by
  unfold yF at h;split at h
  ·cases h
  ·rename_i y i hx
   split at h
   ·cases h
   ·rename_i m' j hl
    cases h;obtain⟨h1,h2⟩:=mR hl;refine⟨by simp[h1],?_⟩
    intro k z hz;cases k with
    |zero=>cases hz;exact⟨x,i,rfl,hx,fun id hid=>List.mem_append_left _ hid⟩
    |succ k =>
     obtain⟨x',is,g1,g2,g3⟩:=h2 k z (by simpa using hz)
     exact⟨x',is,by simpa using g1,g2,fun id hid=>List.mem_append_right _ (g3 id hid)⟩
theorem A4 {r:AV→Option (AV×List Nat)}:∀{cs m:List (List AV)} {js:List Nat},Fu r cs=some (m,js)→m.length=cs.length∧∀(i:Nat) (y:List AV),m[i]?=some y→∃x is,cs[i]?=some x∧yF r x=some (y,is)∧∀id∈is,id∈js
 |[],m,js,h=>by cases h;exact⟨rfl,fun i y hy=>by simp at hy⟩
 |x::l,m,js,h=>by
  unfold Fu at h;split at h
  ·cases h
  ·rename_i y i hx
   split at h
   ·cases h
   ·rename_i m' j hl
    cases h;obtain⟨h1,h2⟩:=A4 hl;refine⟨by simp[h1],?_⟩
    intro k z hz;cases k with
    |zero=>cases hz;exact⟨x,i,rfl,hx,fun id hid=>List.mem_append_left _ hid⟩
    |succ k =>
     obtain⟨x',is,g1,g2,g3⟩:=h2 k z (by simpa using hz)
     exact⟨x',is,by simpa using g1,g2,fun id hid=>List.mem_append_right _ (g3 id hid)⟩
theorem Lt {r r':AV→Option (AV×List Nat)}:∀{cs m:List AV} {js:List Nat},yF r cs=some (m,js)→(∀x y is,r x=some (y,is)→(∀id∈is,id∈js)→r' x=some (y,is))→yF r' cs=some (m,js)
 |[],m,js,h,_=>by cases h;rfl
 |x::l,m,js,h,hr=>by
  unfold yF at h ⊢;split at h
  ·cases h
  ·rename_i y i hx
   split at h
   ·cases h
   ·rename_i m' j hl
    cases h;rw[hr x y i hx fun id hid=>List.mem_append_left _ hid,Lt hl fun x y is hx hs=>hr x y is hx fun id hid=>List.mem_append_right _ (hs id hid)]
theorem O4 {r r':AV→Option (AV×List Nat)}:∀{cs m:List (List AV)} {js:List Nat},Fu r cs=some (m,js)→(∀x y is,r x=some (y,is)→(∀id∈is,id∈js)→r' x=some (y,is))→Fu r' cs=some (m,js)
 |[],m,js,h,_=>by cases h;rfl
 |x::l,m,js,h,hr=>by
  unfold Fu at h ⊢;split at h
  ·cases h
  ·rename_i y i hx
   split at h
   ·cases h
   ·rename_i m' j hl
    cases h;rw[Lt hx fun x y is hx hs=>hr x y is hx fun id hid=>List.mem_append_left _ (hs id hid),O4 hl fun x y is hx hs=>hr x y is hx fun id hid=>List.mem_append_right _ (hs id hid)]
theorem ajb {h h':AH}:∀{k:Nat} {x y:AV} {js:List Nat},rK h k x=some (y,js)→(∀id∈js,h' id=h id)→rK h' k x=some (y,js)
 |0,x,y,js,hf,_=>by cases hf
 |k+1,x,y,js,hf,hh=>by
  have ih:∀x y is,rK h k x=some (y,is)→(∀id∈is,id∈js)→rK h' k x=some (y,is):=fun x y is hx hs=>ajb hx fun id hid=>hh id (hs id hid)
  cases x with
  |agg cs =>
   simp only[rK]at hf ⊢;split at hf
   ·rename_i m i hm
    cases hf;rw[Lt hm ih]
   ·cases hf
  |bB cs =>
   simp only[rK]at hf ⊢;split at hf
   ·rename_i m i hm
    cases hf;rw[Lt hm ih]
   ·cases hf
  |own T sz id i n =>
   simp only[rK]at hf ⊢;split at hf
   ·rename_i T' s aW he
    split at hf
    ·rename_i hc
     split at hf
     ·rename_i m ks hm
      cases hf;rw[hh id List.mem_cons_self,he];simp only
      rw[if_pos hc,O4 hm fun x y is hx hs=>ih x y is hx fun id hid=>List.mem_cons_of_mem _ (hs id hid)]
     ·cases hf
    ·cases hf
   ·cases hf
  |cQ T sz id n =>
   simp only[rK]at hf ⊢;split at hf
   ·rename_i T' s base bP tail n' he
    split at hf
    ·rename_i hc
     split at hf
     ·rename_i u is m ks hu hm
      cases hf;rw[hh id List.mem_cons_self,he];simp only
      rw[if_pos hc,O4 hu fun x y is hx hs=>ih x y is hx fun id hid=>List.mem_cons_of_mem _ (List.mem_append_left _ (hs id hid)),O4 hm fun x y is hx hs=>ih x y is hx fun id hid=>List.mem_cons_of_mem _ (List.mem_append_right _ (hs id hid))]
     ·cases hf
    ·cases hf
   ·cases hf
  |ptr=>cases hf
  |gI=>cases hf
  |fn=>cases hf
  |pE=>cases hf
  |_=>exact hf
theorem O3 {h:AH} {k:Nat} {x y:AV} {js:List Nat} (hf:rK h k x=some (y,js)) (h1:x.one=true):y.one=true:=by
 cases k with
 |zero=>cases hf
 |succ k =>
  cases x with
  |agg cs=>simp[AV.one]at h1
  |bB cs=>simp[AV.one]at h1
  |own T sz id i n =>
   simp only[rK]at hf;split at hf
   ·split at hf
    ·split at hf
     ·cases hf;rfl
     ·cases hf
    ·cases hf
   ·cases hf
  |c v=>cases hf;exact h1
  |undef=>simp[AV.one]at h1
  |ptr=>cases hf
  |gI=>cases hf
  |fn=>cases hf
  |pE=>cases hf
  |rN=>cases hf
  |mpv=>cases hf
  |view=>cases hf
  |sR=>cases hf
  |cQ T sz id n =>
   simp only[rK]at hf;split at hf
   ·split at hf
    ·split at hf
     ·cases hf;rfl
     ·cases hf
    ·cases hf
   ·cases hf
  |lV=>cases hf
  |fY=>cases hf
  |_=>cases hf;rfl
theorem Sr [Bk] [Ev] {R:List AV→List AV→Prop}:∀(bP:List (Poly×List AV)) (u:List (List AV)) (l l':List (List AV)),u.length=bP.length→(∀(i:Nat) (q:Poly×List AV) (e:List AV),bP[i]?=some q→u[i]?=some e→R q.2 e)→l'.length=l.length→(∀(i:Nat) (e':List AV),l'[i]?=some e'→∃e,l[i]?=some e∧R e e') →
  ∀(i:Nat) (e':List AV),(((bP.map (·.1)).zip u).foldl (fun l q=>l.set (bR Ev.cX q.1).toNat q.2) l')[i]?=some e'→∃e,(bP.foldl (fun l q=>l.set (bR Ev.cX q.1).toNat q.2) l)[i]?=some e∧R e e'
 |[],u,l,l',_,_,_,h4,i,e',h=>by
  simp only[List.map_nil,List.zip_nil_left,List.foldl_nil]at h ⊢;exact h4 i e' h
 |q::bP,[],l,l',h1,_,_,_,i,e',h=>by simp at h1
 |q::bP,e0::u,l,l',h1,h2,h3,h4,i,e',h=>by
  simp only[List.map_cons,List.zip_cons_cons,List.foldl_cons]at h ⊢;refine Sr bP u _ _ (by simpa using h1) (fun i q e hq he=>h2 (i+1) q e (by simpa using hq) (by simpa using he)) (by simp[h3]) ?_ i e' h
  intro i e1 he1;rw[List.getElem?_set]at he1;split at he1
  ·rename_i hi
   split at he1
   ·rename_i hl
    cases he1;refine⟨q.2,?_,h2 0 q e0 rfl rfl⟩
    rw[←hi,List.getElem?_set_self (by omega)]
   ·cases he1
  ·rename_i hi
   obtain⟨e,k1,k2⟩:=h4 i e1 he1;exact⟨e,by rw[List.getElem?_set_ne hi];exact k1,k2⟩
def lE (m:Nat→St) (K:List Nat):Nat→St:=fun id=>if id∈K then .dead else m id
theorem qN {m:Nat→St} {K:List Nat} {id b:Nat} (h:lE m K id=.at b):id ∉ K∧m id=.at b:=by
 unfold lE at h;split at h
 ·cases h
 ·exact⟨‹_›,h⟩
theorem al5 {m:Nat→St} {K:List Nat} {A:Nat→Prop} {b:Nat} (h:Av (lE m K) A b):Av m A b:=by
 rcases h with h|⟨id,h⟩
 ·exact .inl h
 ·exact .inr ⟨id,(qN h).2⟩
theorem zP [Bk] [Ev] {m:Nat→St} {A:Nat→Prop} {h:AH} {w:World} (H:bW m A h w) (K:List Nat):∀{k:Nat} {x y:AV} {js:List Nat} {v:Value},rK h k x=some (y,js)→(∀id∈js,id∈K)→Rd m A w x v→cO (Av (lE m K) A) w y v
 |0,x,y,js,v,hf,_,_=>by cases hf
 |k+1,x,y,js,v,hf,hK,hr=>by
  have ih:∀{x y:AV} {is:List Nat} {v:Value},rK h k x=some (y,is)→(∀id∈is,id∈js)→Rd m A w x v→cO (Av (lE m K) A) w y v:=fun hx hs hv=>zP H K hx (fun id hid=>hK id (hs id hid)) hv
  have base:∀{x:AV} {v:Value},cO (Av m A) w x v→cO (Av (lE m K) A) w x v:=fun hx=>hx.mono (Nat.le_refl _) fun b _ hb=>⟨fun h=>hb (al5 h),rfl⟩
  cases x with
  |agg cs =>
   simp only[rK]at hf;split at hf
   ·rename_i m' i hm
    cases hf;obtain⟨h1,h2⟩:=mR hm;obtain⟨vs,rfl,hl,hc⟩:=hr.nY;refine .agg _ vs (by rw[hl,h1]) ?_ ?_
    ·intro i y hy
     obtain⟨x,is,g1,g2,g3⟩:=h2 i y hy;exact O3 g2 (hc i x g1).1
    ·intro i y hy
     obtain⟨x,is,g1,g2,g3⟩:=h2 i y hy;exact ih g2 g3 (hc i x g1).2
   ·cases hf
  |bB cs =>
   simp only[rK]at hf;split at hf
   ·rename_i m' i hm
    cases hf;obtain⟨h1,h2⟩:=mR hm;obtain⟨vs,rfl,hl,hc⟩:=hr.aay;refine .bB _ vs (by rw[hl,h1]) ?_
    intro i y hy;obtain⟨x,is,g1,g2,g3⟩:=h2 i y hy;exact ih g2 g3 (hc i x g1)
   ·cases hf
  |own T sz id i n =>
   simp only[rK]at hf;split at hf
   ·rename_i T' s aW he
    split at hf
    ·rename_i hcond
     obtain⟨rfl,hle⟩:=hcond;split at hf
     ·rename_i m' ks hm
      cases hf;obtain⟨h1,h2⟩:=A4 hm;have hlen:((aW.drop i).take n).length=n:=by simp;omega
      rw[hlen]at h1;rcases H.cells id _ _ _ he with⟨hv,rfl⟩|⟨b,cs,g1,g2,g3,g4,g5⟩
      ·have hn:n=0:=by simp at hle;omega
       subst hn;have e:m'=[]:=List.length_eq_zero_iff.1 h1
       subst e;cases hr with
       |pure _ _ h=>cases h
       |own _ _ _ _ _ b _ hm=>rw[hv]at hm;cases hm
       |rG _ _ _ _ a hm=>exact .lJ _ a 0 (Nat.zero_le _)
       |sW _ _ _ _ _ _ _ _ hm=>rw[hv]at hm;cases hm
      ·obtain⟨cap,rfl,hcap,hcm,-⟩:=hr.pA g1
       have find:∀(i' j':Nat) (y:AV),fD m' i' j'=some y→∃x is,fD aW (i+i') j'=some x∧rK h k x=some (y,is)∧(∀id∈is,id∈ks)∧i'<n:=by
        intro i' j' y hy;unfold fD at hy;cases hm':m'[i']? with
        |none=>rw[hm']at hy;cases hy
        |some e' =>
         rw[hm']at hy;simp only[Option.bind_some]at hy;obtain⟨e,is,k1,k2,k3⟩:=h2 i' e' hm';obtain⟨-,l2⟩:=mR k2;obtain⟨x,is',q1,q2,q3⟩:=l2 j' y hy;have hi':i'<n:=by have:=(List.getElem?_eq_some_iff.1 hm').1;omega
         rw[List.getElem?_take,if_pos hi',List.getElem?_drop]at k1;refine⟨x,is',?_,q2,fun id hid=>k3 id (q3 id hid),hi'⟩
         unfold fD;rw[k1];exact q1
       rw[←h1];refine .lit s m' b (i*s) cap (fun i' j'=>cs.getD ((i+i')*s+j') Go.undef) ?_ (H.lt g1) ⟨by omega,hcm⟩ ?_ ?_ ?_ ?_
       ·rintro(h|⟨id',h⟩)
        ·exact H.out id b g1 h
        ·obtain⟨h3,h4⟩:=qN h
         have:=H.inj id id' b g1 h4
         subst this;exact h3 (hK id List.mem_cons_self)
       ·intro e' he'
        obtain⟨i',hi'⟩:=List.mem_iff_getElem?.1 he'
        obtain⟨e,is,k1,k2,k3⟩:=h2 i' e' hi';obtain⟨l1,-⟩:=mR k2;rw[l1];exact g4 e (List.mem_of_mem_drop (List.mem_of_mem_take (List.mem_of_getElem? k1)))
       ·intro i' j' y hy
        obtain⟨x,is,k1,k2,k3,-⟩:=find i' j' y hy;exact O3 k2 (g5 _ _ _ k1).1
       ·intro i' j' y hy
        obtain⟨x,is,k1,k2,k3,-⟩:=find i' j' y hy;have hlt:=(gK k1 g4).2.2
        have e:i*s+(i'*s+j')=(i+i')*s+j':=by rw[Nat.add_mul];omega
        rw[e];have hlt':(i+i')*s+j'<cs.size:=by omega
        simp[World.cell?,g2,hlt']
       ·intro i' j' y hy
        obtain⟨x,is,k1,k2,k3,-⟩:=find i' j' y hy;exact ih k2 (fun id hid=>List.mem_cons_of_mem _ (k3 id hid)) (g5 _ _ _ k1).2
     ·cases hf
    ·cases hf
   ·cases hf
  |ptr=>cases hf
  |gI=>cases hf
  |fn=>cases hf
  |pE=>cases hf
  |c v=>cases hf;cases hr with|pure _ _ h=>exact base h
  |undef=>cases hf;cases hr with|pure _ _ h=>exact base h
  |emp=>cases hf;cases hr with|pure _ _ h=>exact base h
  |lit sz aW=>cases hf;cases hr with|pure _ _ h=>exact base h
  |e p=>cases hf;cases hr with|pure _ _ h=>exact base h
  |row n xs=>cases hf;cases hr with|pure _ _ h=>exact base h
  |o i=>cases hf;cases hr with|pure _ _ h=>exact base h
  |rN id=>cases hf
  |mpv id=>cases hf
  |view=>cases hf
  |any=>cases hf;cases hr with|pure _ _ h=>exact base h
  |seq=>cases hf;cases hr with|pure _ _ h=>exact base h
  |sR=>cases hf
  |cQ T sz id n =>
   simp only[rK]at hf;split at hf
   ·rename_i T' s bs bP tail n' he
    split at hf
    ·rename_i hc
     obtain⟨rfl,rfl⟩:=hc;split at hf
     ·rename_i u is m' ks hu hm
      cases hf;obtain⟨u1,u2⟩:=A4 hu;obtain⟨m1,m2⟩:=A4 hm;simp only[List.length_map]at u1;obtain⟨hn,hin⟩:=H.EL he;have hin':∀q∈(bP.map (·.1)).zip u,InB bs q.1:=by
       intro q hq;obtain⟨q',hq',e1⟩:=List.mem_map.1 (List.of_mem_zip hq).1
       rw[←e1];exact hin q' hq'
      have hlen:(rowsOf bs ((bP.map (·.1)).zip u) m').length=(rowsOf bs bP tail).length:=by rw[fP,fP,m1]
      let R:List AV→List AV→Prop:=fun e e'=>(∃js',yF (rK h k) e=some (e',js')∧∀id'∈js',id'∈is++ks)∨(e'=e∧∀x∈e,Cl x)
      have hrows:∀(i:Nat) (e':List AV),(rowsOf bs ((bP.map (·.1)).zip u) m')[i]?=some e'→∃e,(rowsOf bs bP tail)[i]?=some e∧R e e':=by
       intro i e' he';have hb0:∀ups':List (Poly×List AV),(ups'.foldl (fun l q=>l.set (bR Ev.cX q.1).toNat q.2) (Ev.seq bs)).length=(Ev.seq bs).length:=by
        intro ups';have:=fP bs ups' []
        unfold rowsOf at this;simpa using this
       unfold rowsOf at he' ⊢;rcases Nat.lt_or_ge i (Ev.seq bs).length with hi|hi
       ·rw[List.getElem?_append_left (by rw[hb0];exact hi)]at he' ⊢
        refine Sr (R:=R) bP u (Ev.seq bs) (Ev.seq bs) u1 ?_ rfl ?_ i e' he'
        ·intro j q e hq hje
         obtain⟨x,js',k1,k2,k3⟩:=u2 j e hje;rw[List.getElem?_map,hq]at k1;cases k1;exact .inl ⟨js',k2,fun id' hid=>List.mem_append_left _ (k3 id' hid)⟩
        ·intro j e hj
         exact⟨e,hj,.inr ⟨rfl,Ev.qC bs e (List.mem_of_getElem? hj)⟩⟩
       ·rw[List.getElem?_append_right (by rw[hb0];exact hi),hb0]at he' ⊢
        obtain⟨x,js',k1,k2,k3⟩:=m2 _ e' he';exact⟨x,k1,.inl ⟨js',k2,fun id' hid=>List.mem_append_right _ (k3 id' hid)⟩⟩
      rcases H.qT id T' s (rowsOf bs bP tail) (by rw[he];rfl)with⟨hv,e0⟩|⟨b,cs,g1,g2,g3,g4,g5⟩
      ·obtain⟨a,rfl,-⟩:=hr.tR hv
       refine .seq _ _ _ _ _ hin' rfl ?_
       have:rowsOf bs ((bP.map (·.1)).zip u) m'=[]:=List.length_eq_zero_iff.1 (by rw[hlen,e0];rfl)
       rw[this];exact .lJ _ a 0 (Nat.zero_le _)
      ·obtain⟨len,cap,e,rfl,hcap,hcm,-⟩:=hr.Co g1
       refine .seq _ _ _ _ _ hin' rfl ?_
       have hl':len=(rowsOf bs ((bP.map (·.1)).zip u) m').length:=by omega
       subst hl';have find:∀(i' j':Nat) (y:AV),fD (rowsOf bs ((bP.map (·.1)).zip u) m') i' j'=some y→∃x,fD (rowsOf bs bP tail) i' j'=some x∧((∃js',rK h k x=some (y,js')∧∀id'∈js',id'∈is++ks)∨(y=x∧Cl x)):=by
        intro i' j' y hy;unfold fD at hy;cases hm':(rowsOf bs ((bP.map (·.1)).zip u) m')[i']? with
        |none=>rw[hm']at hy;cases hy
        |some e' =>
         rw[hm']at hy;simp only[Option.bind_some]at hy;obtain⟨e,k1,⟨js',k2,k3⟩|⟨rfl,k3⟩⟩:=hrows i' e' hm'
         ·obtain⟨-,l2⟩:=mR k2
          obtain⟨x,is',q1,q2,q3⟩:=l2 j' y hy;exact⟨x,by unfold fD;rw[k1];exact q1,.inl ⟨is',q2,fun id' hid=>k3 id' (q3 id' hid)⟩⟩
         ·exact⟨y,by unfold fD;rw[k1];exact hy,.inr ⟨rfl,k3 y (List.mem_of_getElem? hy)⟩⟩
       have hb':∀(i' j':Nat) (x:AV),fD (rowsOf bs bP tail) i' j'=some x→w.cell? ⟨b,0+(i'*s+j'),none⟩=some (cs.getD (i'*s+j') Go.undef):=by
        intro i' j' x hx;have hlt:=(gK hx g4).2.2
        rw[Nat.zero_add];have hlt':i'*s+j'<cs.size:=by omega
        simp[World.cell?,g2,hlt']
       refine .lit s _ b 0 cap (fun i' j'=>cs.getD (i'*s+j') Go.undef) ?_ (H.lt g1) ⟨hcap,hcm⟩ ?_ ?_ ?_ ?_
       ·rintro(h|⟨id',h⟩)
        ·exact H.out id b g1 h
        ·obtain⟨h3,h4⟩:=qN h
         have:=H.inj id id' b g1 h4
         subst this;exact h3 (hK id List.mem_cons_self)
       ·intro e' he'
        obtain⟨i',hi'⟩:=List.mem_iff_getElem?.1 he'
        obtain⟨e,k1,⟨js',k2,k3⟩|⟨rfl,k3⟩⟩:=hrows i' e' hi'
        ·obtain⟨l1,-⟩:=mR k2
         rw[l1];exact g4 e (List.mem_of_getElem? k1)
        ·exact g4 _ (List.mem_of_getElem? k1)
       ·intro i' j' y hy
        obtain⟨x,k1,⟨js',k2,k3⟩|⟨rfl,k3⟩⟩:=find i' j' y hy
        ·exact O3 k2 (g5 _ _ _ k1).1
        ·exact(g5 _ _ _ k1).1
       ·intro i' j' y hy
        obtain⟨x,k1,-⟩:=find i' j' y hy;exact hb' _ _ _ k1
       ·intro i' j' y hy
        obtain⟨x,k1,⟨js',k2,k3⟩|⟨rfl,k3⟩⟩:=find i' j' y hy
        ·exact ih k2 (fun id' hid=>List.mem_cons_of_mem _ (k3 id' hid)) (g5 _ _ _ k1).2
        ·exact base ((g5 _ _ _ k1).2.cl k3)
     ·cases hf
    ·cases hf
   ·cases hf
  |lV=>cases hf
  |fY=>cases hf
theorem pR (h:AH):∀(K:List Nat) (id:Nat),dW h (K.map fun id=>(id,bX.dead)) id=if id∈K then .dead else h id
 |[],id=>by simp[dW]
 |i::l,id=>by
  have:=pR (cH h i .dead) l id
  simp only[List.map_cons,dW];rw[this];by_cases h1:id∈l
  ·simp[h1]
  ·by_cases h2:id=i
   ·subst h2;simp[h1,cH]
   ·simp[h1,h2,cH]
theorem bW.Sb [Bk] [Ev] {m:Nat→St} {A:Nat→Prop} {h:AH} {w:World} (H:bW m A h w) (K:List Nat) :
  bW (lE m K) A (dW h (K.map fun id=>(id,bX.dead))) w∧Ext m w (lE m K) w:=by
 have E:Ext m w (lE m K) w:=by
  refine⟨rfl,rfl,rfl,Nat.le_refl _,?_,?_,?_,?_,fun _ _ _ _=>rfl⟩
  ·intro id b hb
   unfold lE;split
   ·exact .inr rfl
   ·exact .inl hb
  ·intro id hb
   unfold lE;split
   ·rfl
   ·exact hb
  ·intro id hb
   unfold lE;split
   ·exact .inr rfl
   ·exact .inl hb
  ·intro b _ hu
   exact⟨fun id hid=>hu id (qN hid).2,rfl⟩
 refine⟨⟨fun id b hb=>H.out id b (qN hb).2,H.FO,?_,?_,?_,fun i j b hi hj=>H.inj i j b (qN hi).2 (qN hj).2,H.jF.ext H.out E,H.lA E fun id B hid hB=>?_,fun id=>?_⟩,E⟩
 ·intro id hid
  rw[pR]at hid;split at hid
  ·cases hid
  ·rename_i hn;unfold lE;rw[if_neg hn];exact H.no id hid
 ·intro id hid
  rw[pR]at hid;split at hid
  ·rename_i hn;unfold lE;rw[if_pos hn]
  ·rename_i hn;unfold lE;rw[if_neg hn];exact H.dead id hid
 ·intro id T sz aW hid
  rw[pR]at hid;split at hid
  ·simp[bX.aW]at hid
  ·rename_i hn
   have e:lE m K id=m id:=by unfold lE;rw[if_neg hn]
   rw[e];obtain g|⟨b,cs,g1,g2,g3,g4,g5⟩:=H.qT id T sz aW hid
   ·exact .inl g
   ·exact .inr ⟨b,cs,g1,g2,g3,g4,fun i j x hx=>⟨(g5 i j x hx).1,(g5 i j x hx).2.ext E⟩⟩
 ·rw[pR]at hid
  split at hid
  ·subst hid;exact absurd hB (by simp[bX.other])
  ·rename_i hn
   exact⟨hid,fun b hb=>⟨by unfold lE;rw[if_neg hn];exact hb,rfl⟩⟩
 ·rw[pR]
  split
  ·trivial
  ·exact H.PD id
def vEq:Value→Value→Bool
 | .int k a,.int k' b=>decide (k=k')&&decide (a=b)
 | .bool a,.bool b=>a==b
 | .string a,.string b=>decide (a.data.toList=b.data.toList)
 | .pointer none,.pointer none=>true
 | .nilIface,.nilIface=>true
 |_,_=>false
theorem TD {a b:Value} (h:vEq a b=true):a=b:=by
 unfold vEq at h;split at h
 ·rw[Bool.and_eq_true,decide_eq_true_eq,decide_eq_true_eq]at h;rw[h.1,h.2]
 ·rw[beq_iff_eq]at h;rw[h]
 ·rw[decide_eq_true_eq]at h;have:=Array.ext' h;rw[show _=_ from ByteArray.ext this]
 ·rfl
 ·rfl
 ·cases h
def yS (r:AV→AV→Bool):List AV→List AV→Bool
 |[],[]=>true
 |x::l,y::m=>r x y&&yS r l m
 |_,_=>false
def En (r:AV→AV→Bool):List (List AV)→List (List AV)→Bool
 |[],[]=>true
 |x::l,y::m=>yS r x y&&En r l m
 |_,_=>false
def yH:Nat→AV→AV→Bool
 |0,_,_=>false
 |k+1,x,y=>match x,y with
  | .c v,.c u=>vEq v u
  | .undef,.undef=>true
  | .emp,.emp=>true
  | .agg a,.agg b=>yS (yH k) a b
  | .bB a,.bB b=>yS (yH k) a b
  | .lit s a,.lit s' b=>decide (s=s')&&En (yH k) a b
  | .e p,.e q=>decide (p=q)
  | .row n a,.row n' b=>decide (n=n')&&decide (a=b)
  | .o i,.o j=>decide (i=j)
  | .any,.any=>true
  | .seq s b u t,.seq s' b' u' t'=>decide (s=s')&&(decide (b=b')&&(decide (u.map (·.1)=u'.map (·.1))&&(En (yH k) (u.map (·.2)) (u'.map (·.2))&&En (yH k) t t')))
  |_,_=>false
theorem Lw {r:AV→AV→Bool} (hr:∀x y,r x y=true→x=y):∀{a b:List AV},yS r a b=true→a=b
 |[],[],_=>rfl
 |[],_::_,h=>by cases h
 |_::_,[],h=>by cases h
 |x::l,y::m,h=>by
  unfold yS at h;rw[Bool.and_eq_true]at h;rw[hr x y h.1,Lw hr h.2]
theorem FZ {r:AV→AV→Bool} (hr:∀x y,r x y=true→x=y):∀{a b:List (List AV)},En r a b=true→a=b
 |[],[],_=>rfl
 |[],_::_,h=>by cases h
 |_::_,[],h=>by cases h
 |x::l,y::m,h=>by
  unfold En at h;rw[Bool.and_eq_true]at h;rw[Lw hr h.1,FZ hr h.2]
theorem vE:∀{k:Nat} {x y:AV},yH k x y=true→x=y
 |0,x,y,h=>by cases h
 |k+1,x,y,h=>by
  have ih:∀x y,yH k x y=true→x=y:=fun x y=>vE
  unfold yH at h;split at h
  ·rw[TD h]
  ·rfl
  ·rfl
  ·rw[Lw ih h]
  ·rw[Lw ih h]
  ·rw[Bool.and_eq_true,decide_eq_true_eq]at h;rw[h.1,FZ ih h.2]
  ·rw[decide_eq_true_eq]at h;rw[h]
  ·rw[Bool.and_eq_true,decide_eq_true_eq,decide_eq_true_eq]at h;rw[h.1,h.2]
  ·rw[decide_eq_true_eq]at h;rw[h]
  ·rfl
  ·rename_i s b u t s' b' u' t'
   simp only[Bool.and_eq_true,decide_eq_true_eq]at h;obtain⟨rfl,rfl,h1,h2,h3⟩:=h;have h2:=FZ ih h2;have h3:=FZ ih h3;have zz:∀l:List (Poly×List AV),l=(l.map (·.1)).zip (l.map (·.2)):=by
    intro l;induction l with
    |nil=>rfl
    |cons a l ih=>rw[List.map_cons,List.map_cons,List.zip_cons_cons,←ih]
   have:u=u':=by rw[zz u,zz u',h1,h2]
   rw[this,h3]
  ·cases h
def ac7:Nat→AV→List Poly
 |0,_=>[]
 |k+1,x=>match x with
  | .e p=>[p]
  | .agg l=>l.flatMap (ac7 k)
  | .lit _ l=>l.flatMap fun e=>e.flatMap (ac7 k)
  | .seq _ b u _=>qI b::u.map (·.1)
  |_=>[]
def Sx (k:Nat) (as:List AV):List (Nat×List AV×AV)→Option AV
 |[]=>none
 |t::l=>bif Nat.beq t.1 k&&(decide (t.2.1.map (ac7 16)=as.map (ac7 16))&&yS (yH 16) t.2.1 as)then some t.2.2 else Sx k as l
theorem Lu {k:Nat} {as:List AV} {r:AV}:∀{l:List (Nat×List AV×AV)},Sx k as l=some r→(k,as,r)∈l
 |[],h=>by cases h
 |t::l,h=>by
  unfold Sx at h;cases hc:(Nat.beq t.1 k&&(decide (t.2.1.map (ac7 16)=as.map (ac7 16))&&yS (yH 16) t.2.1 as))with
  |true =>
   rw[hc]at h;cases h;rw[Bool.and_eq_true,Bool.and_eq_true]at hc;have e1:t.1=k:=Nat.eq_of_beq_eq_true hc.1
   have e2:=Lw (fun x y=>vE) hc.2.2
   subst e1;subst e2
   exact List.mem_cons_self
  |false =>
   rw[hc]at h;exact List.mem_cons_of_mem _ (Lu h)
def knB [Bk] (P:Program) (k:FuncId):Bool :=
 Bk.bN.any (fun t => Nat.beq t.1 k) && (match P.funcs[k]? with | some fn => (match fn.body with | some _ => !(fn.name == "runtime.NumGoroutine") | none => false) | none => false)
def Aj:Nat→AV→Bool
 |0,_=>false
 |k+1,x=>match x with
  | .c _ | .undef | .e _ | .o _ | .any=>true
  | .agg l=>l.all (Aj k)
  | .bB l=>l.all (Aj k)
  |_=>false
theorem cO.aj6 [Bk] [Ev] {A A':Nat→Prop} {w w':World}:∀{k:Nat} {x:AV} {v:Value},Aj k x=true→cO A w x v→cO A' w' x v
 |0,x,v,h,_=>by cases h
 |k+1,x,v,h,hr=>by
  cases hr with
  |c v=>exact .c v
  |undef=>exact .undef
  |e p=>exact .e p
  |o i=>exact .o i
  |any v h1=>exact .any v h1
  |agg cs vs hl h1 hr=>exact .agg cs vs hl h1 fun i x hx=>cO.aj6 (List.all_eq_true.1 h x (List.mem_of_getElem? hx)) (hr i x hx)
  |bB cs vs hl hr=>exact .bB cs vs hl fun i x hx=>cO.aj6 (List.all_eq_true.1 h x (List.mem_of_getElem? hx)) (hr i x hx)
  |_=>cases h
def knM [Bk] (k:FuncId) (args:List AV):M AV:=fun h n =>
 match yF (rK h 16) args with
 |some (as,ids)=>match Sx k as Bk.bN with
  |some r=>bif Aj 8 r then some ⟨r,h,n,ids,[]⟩else some ⟨r,dW h (ids.map fun id=>(id,bX.dead)),n,ids,ids⟩
  |none=>none
 |none=>none
theorem afe [Bk] [Ev] (k:FuncId) (args:List AV):Local (knM k args):=by
 intro h n r hr;unfold knM at hr;split at hr
 ·rename_i as ids hf
  split at hr
  ·rename_i v hv
   have hag:∀g:AH,(∀id∈ids,g id=h id)→yF (rK g 16) args=some (as,ids):=fun g hrd=>Lt hf fun x y is hx hs=>ajb hx fun id hid=>hrd id (hs id hid)
   cases hs:Aj 8 v with
   |true =>
    rw[hs]at hr;cases hr;refine⟨Nat.le_refl _,fun id hid _=>rfl,fun _ hid=>absurd hid List.not_mem_nil,?_⟩
    intro g hrd hrg;refine⟨⟨v,g,n,ids,[]⟩,?_,rfl,rfl,rfl,rfl,?_,fun id hid _=>rfl⟩
    ·unfold knM
     rw[hag g hrd];simp only[hv,hs];rfl
    ·intro id hid
     rcases hid with hid|hid
     ·exact absurd hid List.not_mem_nil
     ·simp only at hid;omega
   |false =>
   rw[hs]at hr;cases hr;refine⟨Nat.le_refl _,fun id hid _=>fH (by simpa using hid),fun _ hid=>hid,?_⟩
   intro g hrd hrg;refine⟨⟨v,dW g (ids.map fun id=>(id,bX.dead)),n,ids,ids⟩,?_,rfl,rfl,rfl,rfl,?_,fun id hid _=>fH (by simpa using hid)⟩
   ·unfold knM
    rw[hag g hrd];simp only[hv,hs];rfl
   ·intro id hid
    rcases hid with hid|hid
    ·exact uK (by simpa using hid)
    ·simp only at hid;omega
  ·cases hr
 ·cases hr
def FC [Bk] [Ev] (P:Program) (k:FuncId) (as:List AV) (r:AV):Prop :=
 ∀(A:Nat→Prop) (w:World) (vs:Array Value),(∀b,A b→b<w.heap.size)→GOk A w→vs.size=as.length→(∀(i:Nat) (x:AV),as[i]?=some x→cO A w x (vs.getD i Go.undef)) →
  Calls P k vs w fun e w'=>∃v,e=.returned v∧cO A w' r v∧Below w.heap.size w w'
theorem afk [Bk] [Ev] {P:Program} {k:FuncId} {args as:List AV} {ids:List Nat} {r:AV} {h:AH} (hf:yF (rK h 16) args=some (as,ids)) (hk:FC P k as r):dL P k args h (fun v h'=>v=r∧h'=dW h (ids.map fun id=>(id,bX.dead))):=by
 intro m A w vs H hl hv;obtain⟨H2,E2⟩:=H.Sb ids;obtain⟨h1,h2⟩:=mR hf;refine(hk (Av (lE m ids) A) w vs ?_ (fun t ht=>⟨.inl (H.jF t ht).1,(H.jF t ht).2⟩) (by rw[hl,h1]) ?_).mono ?_
 ·rintro b (hb|⟨id,hb⟩)
  ·exact H.FO b hb
  ·exact H2.lt hb
 ·intro i y hy
  obtain⟨x,is,g1,g2,g3⟩:=h2 i y hy;exact zP H ids g2 g3 (hv i x g1)
 ·rintro e w' ⟨v,rfl,hr,hb⟩
  exact⟨v,r,lE m ids,_,rfl,⟨rfl,rfl⟩,H2.below hb,.pure _ _ hr,E2.trans (Ext.qK H2 hb)⟩
theorem acJ [Bk] [Ev] {P:Program} {k:FuncId} {args as:List AV} {ids:List Nat} {r:AV} {h:AH} (hf:yF (rK h 16) args=some (as,ids)) (hs:Aj 8 r=true) (hk:FC P k as r):dL P k args h (fun v h'=>v=r∧h'=h):=by
 intro m A w vs H hl hv;obtain⟨H2,E2⟩:=H.Sb ids;obtain⟨h1,h2⟩:=mR hf;refine(hk (Av (lE m ids) A) w vs ?_ (fun t ht=>⟨.inl (H.jF t ht).1,(H.jF t ht).2⟩) (by rw[hl,h1]) ?_).mono ?_
 ·rintro b (hb|⟨id,hb⟩)
  ·exact H.FO b hb
  ·exact H2.lt hb
 ·intro i y hy
  obtain⟨x,is,g1,g2,g3⟩:=h2 i y hy;exact zP H ids g2 g3 (hv i x g1)
 ·rintro e w' ⟨v,rfl,hr,hb⟩
  exact⟨v,r,m,_,rfl,⟨rfl,rfl⟩,H.below hb,.pure _ _ (cO.aj6 hs hr),Ext.qK H hb⟩
def agu [Bk] (P:Program) (k:FuncId) (args:List AV):Bool :=
 Bk.yes.contains k && (args.isEmpty && (match P.funcs[k]? with | some fn => (match fn.body with | some _ => !(fn.name == "runtime.NumGoroutine") | none => false) | none => false))
def Sy [Bk] (P:Program) (k:FuncId) (args:List AV):Option AV :=
 if agu P k args=true then some (.c (.bool true))else match Bk.ext with
 |[]=>none
 |l=>match P.funcs[k]? with
  |some fn=>match fn.body with
   | some _ => if fn.name == "runtime.NumGoroutine" then none else match toPs args with
    |some ps=>match abo k ps l with
     |some rs=>some (vJ (rs.map wP))
     |none=>none
    |none=>none
   |none=>none
  |none=>none
def iJ [Bk] [Ev] (P:Program):Prop:=(∀k ps rs,(k,ps,rs)∈Bk.ext→∀args h,toPs args=some ps→dL P k args h (fun v h'=>v=vJ (rs.map wP)∧h'=h)) ∧
 (∀k,k∈Bk.yes→∀h,dL P k [] h (fun v h'=>v=.c (.bool true)∧h'=h))∧∀k as r,(k,as,r)∈Bk.bN→FC P k as r
theorem agt [Bk] [Ev] (hX:iJ P) {k:FuncId} {args:List AV} (hv:agu P k args=true) (h:AH) :
  ∃ fn c, P.funcs[k]? = some fn ∧ fn.body = some c ∧ (fn.name == "runtime.NumGoroutine") = false ∧ dL P k args h (fun v' h' => v' = .c (.bool true) ∧ h' = h) := by
 unfold agu at hv;rw[Bool.and_eq_true,Bool.and_eq_true]at hv;obtain⟨h1,h2,h3⟩:=hv;split at h3
 ·rename_i fn hf
  split at h3
  ·rename_i c hc
   have ha:args=[]:=by simpa using h2
   subst ha;exact⟨fn,c,hf,hc,by simpa using h3,hX.2.1 k (by simpa using h1) h⟩
  ·cases h3
 ·cases h3
theorem ahM [Bk] [Ev] (hX:iJ P) {k:FuncId} {args:List AV} {v:AV} (hv:Sy P k args=some v) (h:AH) :
  ∃ fn c, P.funcs[k]? = some fn ∧ fn.body = some c ∧ (fn.name == "runtime.NumGoroutine") = false ∧ dL P k args h (fun v' h' => v' = v ∧ h' = h) := by
 unfold Sy at hv;by_cases hy:agu P k args=true
 ·rw[if_pos hy]at hv
  cases hv;exact agt hX hy h
 rw[if_neg hy]at hv;split at hv
 ·cases hv
 ·split at hv
  ·rename_i fn hf
   split at hv
   ·rename_i c hc
    split at hv
    ·cases hv
    ·rename_i hn
     split at hv
     ·rename_i ps hp
      split at hv
      ·rename_i rs hr
       cases hv;exact⟨fn,c,hf,hc,by simpa using hn,hX.1 k ps rs (Sw hr) args h hp⟩
      ·cases hv
     ·cases hv
   ·cases hv
  ·cases hv
def zW [Bk] (P:Program) (L:Nat) (call:Fn→List AV→M AV) (k:FuncId) (args:List AV):M AV :=
 match P.funcs[k]? with
  |none=>jL
  |some fn=>match pJ fn,args with
   |some t,[x]=>qQ P t x
   |_,_=>match fn.body with
    |none=>jL
    | some c => if fn.name == "runtime.NumGoroutine" then jL else
     wS (jM (eK P call true L c (args++List.replicate (fn.ntmps-args.length) .undef)) fun q=>match q.1 with
      | .exit _=>jL
      |_=>Mt P fn q.2)
def sY [Bk] (P:Program) (L:Nat):Nat→Fn→List AV→M AV
 |0,_,_=>jL
 |d+1,.func k,args=>match Sy P k args with
  |some v=>mpure v
  |none=>if knB P k=true then knM k args else zW P L (sY P L d) k args
 |d+1,.yield id,args=>wS (zT P L (sY P L d) id args)
 |_+1,_,_=>jL
theorem MM [Bk] [Ev] (L : Nat) {call : Fn → List AV → M AV} (ih : lX P call) : (∀ k args, Local (zW P L call k args)) ∧ ∀ k args h n r, zW P L call k args h n = some r → ∃ fn c, P.funcs[k]? = some fn ∧ fn.body = some c ∧ (fn.name == "runtime.NumGoroutine") = false ∧ dL P k args h (fun v h' => v = r.a ∧ h' = r.h) := by
  refine⟨?_,?_⟩
  ·intro k args
   simp only[zW];split
   ·exact dP
   ·split
    ·exact OU _ _
    ·split
     ·exact dP
     ·split
      ·exact dP
      ·refine Ll (eE (iT ih _ _ _) fun q=>?_)
       split
       ·exact dP
       ·exact acD _ _
  ·intro k args h n r hr
   simp only[zW]at hr;cases hk:P.funcs[k]? with
   |none=>simp only[hk]at hr;cases hr
   |some fn =>
    simp only[hk]at hr;have plain:(match fn.body with
     |none=>jL
     | some c => if fn.name == "runtime.NumGoroutine" then jL else
      wS (jM (eK P call true L c (args++List.replicate (fn.ntmps-args.length) .undef)) fun q=>match q.1 with
       | .exit _=>jL
       | _ => Mt P fn q.2) : M AV) h n = some r → ∃ fn c, P.funcs[k]? = some fn ∧ fn.body = some c ∧ (fn.name == "runtime.NumGoroutine") = false ∧ dL P k args h (fun v h' => v = r.a ∧ h' = r.h) := by
     intro hr;cases hb:fn.body with
     |none=>simp only[hb]at hr;cases hr
     |some c =>
      simp only[hb]at hr;by_cases hn : (fn.name == "runtime.NumGoroutine") = true
      ·rw[if_pos hn]at hr;cases hr
      ·rw[if_neg hn]at hr
       refine⟨fn,c,hk,hb,by simpa using hn,?_⟩
       unfold wS at hr;split at hr
       ·cases hr
       ·rename_i t ht
        cases hr;obtain⟨r1,s,h1,h2,e1,e2,e3⟩:=gD ht;refine dL.gY hk hb (kX ih L c _ _ h n r1 h1 ?_)
        have fin:∀q,Mt P fn r1.a.2 r1.h r1.n=some q→q.a=t.a→q.h=t.h→∃x,dX P fn r1.a.2 r1.h=some x∧(x=t.a∧r1.h=t.h):=by
         intro q hq ha hh;unfold Mt at hq;cases h3:dX P fn r1.a.2 r1.h with
         |none=>rw[h3]at hq;cases hq
         |some v =>
          rw[h3]at hq;cases hq;exact⟨v,rfl,ha,hh⟩
        cases hx:r1.a.1 with
        |exit id=>simp only[hx]at h2;cases h2
        |normal=>simp only[hx]at h2;exact fin s h2 e1.symm e2.symm
        |ret=>simp only[hx]at h2;exact fin s h2 e1.symm e2.symm
    have clone : ∀ t x, pJ fn = some t → args = [x] → qQ P t x h n = some r → ∃ fn c, P.funcs[k]? = some fn ∧ fn.body = some c ∧ (fn.name == "runtime.NumGoroutine") = false ∧ dL P k args h (fun v h' => v = r.a ∧ h' = r.h) := by
     intro t x nP ha hq;clear hr plain;subst ha;have hf:=XL nP;obtain⟨i0,i1,i2,i3,o0,o1,o2,o3,o4,o5,o6,o7,hbody,-⟩:=hf.body;refine⟨fn,_,hk,hbody,hf.name,?_⟩
     unfold qQ at hq;split at hq
     ·rename_i r' hq'
      cases hq;unfold vC at hq';split at hq'
      ·rename_i e he
       split at hq'
       ·rename_i i hi
        split at hq'
        ·rename_i z aW hz hx
         split at hq'
         ·rename_i hc
          cases hq';obtain⟨c1,c2,c3,c4,c5,c6,c7,c8,c9⟩:=hc;refine afT hk hf he hi hz c1 c2 hx (fun q hq=>by simpa using List.all_eq_true.1 c3 q hq) ?_ c5 c6 (kB c7) (kB c8) (by simpa using c9)
          intro T s id j n' hx';rw[hx']at c4;simpa[I2]using c4
         ·cases hq'
        ·cases hq'
       ·cases hq'
      ·cases hq'
     unfold vB at hq;split at hq
     ·rename_i e he
      split at hq
      ·rename_i i hi
       split at hq
       ·rename_i z sz base bP tail N hz hx
        split at hq
        ·rename_i hc
         cases hq;obtain⟨c1,c2,rfl,c4,c7,c8,c9⟩:=hc;exact XY hk hf he hi hz c1 c2 hx c4 (kB c7) (kB c8) (by simpa using c9)
        ·cases hq
       ·cases hq
      ·cases hq
     ·cases hq
    cases nP:pJ fn with
    |none=>simp only[nP]at hr;exact hk▸plain hr
    |some t =>
     cases args with
     |nil=>simp only[nP]at hr;exact hk▸plain hr
     |cons x l =>
      cases l with
      |nil =>
       have hr':qQ P t x h n=some r:=by
        simp only[nP]at hr;exact hr
       exact hk▸clone t x nP rfl hr'
      |cons y l=>simp only[nP]at hr;exact hk▸plain hr
theorem akm [Bk] [Ev] (hX:iJ P) {k:FuncId} {args:List AV} {h:AH} {n:Nat} {r:Rs AV} (hb:knB P k=true) (hr:knM k args h n=some r) :
  ∃ fn c, P.funcs[k]? = some fn ∧ fn.body = some c ∧ (fn.name == "runtime.NumGoroutine") = false ∧ dL P k args h (fun v h' => v = r.a ∧ h' = r.h) := by
 unfold knB at hb;rw[Bool.and_eq_true]at hb;obtain⟨-,h3⟩:=hb;split at h3
 ·rename_i fn hf
  split at h3
  ·rename_i c hc
   refine⟨fn,c,hf,hc,by simpa using h3,?_⟩
   unfold knM at hr;split at hr
   ·rename_i as ids hfr
    split at hr
    ·rename_i v hv
     cases hs:Aj 8 v with
     |true=>rw[hs]at hr;cases hr;exact acJ hfr hs (hX.2.2 k as v (Lu hv))
     |false=>rw[hs]at hr;cases hr;exact afk hfr (hX.2.2 k as v (Lu hv))
    ·cases hr
   ·cases hr
  ·cases h3
 ·cases h3
theorem nZ [Bk] [Ev] (hX:iJ P) (L:Nat):∀d,lX P (sY P L d)
 |0=>⟨fun k args=>dP,fun k args h n r hr=>(by cases hr),fun k args h n r hr=>(by cases hr)⟩
 |d+1=>by
  have ihX:=nZ hX L d;have ih:=MM L ihX;refine⟨fun k args=>?_,fun k args h n r hr=>?_,fun id args h n r hr=>?_⟩
  ·cases k with
   |func k =>
    simp only[sY];split
    ·exact eM _
    ·split
     ·exact afe _ _
     ·exact ih.1 _ _
   |yield id=>exact Ll (R7 ihX L id args)
   |_=>exact dP
  ·cases hv:Sy P k args with
   |some v =>
    simp only[sY,hv]at hr;cases hr;exact ahM hX hv h
   |none =>
    simp only[sY,hv]at hr;by_cases hb:knB P k=true
    ·rw[if_pos hb]at hr
     exact akm hX hb hr
    ·rw[if_neg hb]at hr
     exact ih.2 k args h n r hr
  ·simp only[sY]at hr
   unfold wS at hr;split at hr
   ·cases hr
   ·rename_i t ht
    cases hr;exact(ac6 ihX ht).mono fun v h' e=>e
theorem ade [Bk] [Ev] (hX:iJ P) {L d:Nat} {k:FuncId} {args:List AV} {h:AH} {n:Nat} {r:Rs AV} (hr:sY P L d (.func k) args h n=some r):dL P k args h (fun v h'=>v=r.a∧h'=r.h) :=
 ((nZ hX L d).ok k args h n r hr).elim fun _ h=>h.elim fun _ h=>h.2.2.2
end
end Mc
end Go.Proofs.YtnepgggkgnckcaaGreat
