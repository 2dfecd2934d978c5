/-
 Texts joined and made small by wip/small.sh.
-/
import Derived.Test.YtnepgggkgnckcaaGreatJ1
import Derived.Laws.Cover3
set_option linter.unusedVariables false
set_option linter.unusedSimpArgs false
namespace Go.Proofs.YtnepgggkgnckcaaGreat
open Go.RowKit
namespace Mc
section
variable {P:Program} {o:Oper} {f:List AV} {h:AH}
theorem Rd.Ef [Bk] [Ev] {m:Nat→St} {A:Nat→Prop} {w:World} {sz base:Nat} {bG:List (Poly×List AV)} {tail:List (List AV)} {v:Value} (h:Rd m A w (.seq sz base bG tail) v) :
  (∀q∈bG,XL base q.1)∧Rd m A w (.lit sz (rowsOf base bG tail)) v:=by
 cases h with|pure _ _ h=>cases h with|seq _ _ _ _ _ hin h1 h=>exact⟨hin,.pure _ _ h⟩
theorem Rd.BW [Bk] [Ev] {m:Nat→St} {A:Nat→Prop} {w:World} {T sz id b:Nat} {n:Poly} {u:Value} (h:Rd m A w (.cE T sz id n) u) (g:m id=.at b) :
  ∃len cap:Nat,bJ Ev.dL n=len∧u=.slice (some ⟨b,0,none⟩) len cap∧len≤cap∧cap≤maxLen∧cap*sz=dV w b:=by
 cases h with
 |pure _ _ h=>cases h
 |cE _ _ _ _ b' len cap hm hb hl hn hc hr=>rw[g]at hm;cases hm;exact⟨len,cap,hl,rfl,hn,hc,hr⟩
 |sG _ _ _ _ _ hm=>rw[g]at hm;cases hm
 |sJ _ _ _ _ _ _ _ hm=>rw[g]at hm;cases hm
theorem Rd.uN [Bk] [Ev] {m:Nat→St} {A:Nat→Prop} {w:World} {T sz id:Nat} {n:Poly} {u:Value} (h:Rd m A w (.cE T sz id n) u) (g:m id=.rW):∃a,u=.slice a 0 0∧bJ Ev.dL n=0:=by
 cases h with
 |pure _ _ h=>cases h
 |cE _ _ _ _ b' len cap hm hb hl hn hc hr=>rw[g]at hm;cases hm
 |sG _ _ _ _ a hm hn=>exact⟨a,rfl,hn⟩
 |sJ _ _ _ _ _ _ _ hm=>rw[g]at hm;cases hm
theorem Rd.XC [Bk] [Ev] {m:Nat→St} {A:Nat→Prop} {w:World} {sz id off b:Nat} {p:Poly} {u:Value} (h:Rd m A w (.mC sz id p off) u) (g:m id=.at b):u=.pointer (some ⟨b,(bJ Ev.dL p).toNat*sz+off,none⟩):=by
 cases h with
 |pure _ _ h=>cases h
 |mC _ _ _ _ b' hm hb=>rw[g]at hm;cases hm;rfl
 |zX _ _ _ _ u hm=>rw[g]at hm;cases hm
theorem bW.Nk [Bk] [Ev] {m:Nat→St} {A:Nat→Prop} {w:World} (H:bW m A h w) {id T sz base i:Nat} {bG:List (Poly×List AV)} {tail:List (List AV)} {n:Poly} {e:List AV} (hh:h id=.sc T sz base bG tail n) (he:(rowsOf base bG tail)[i]?=some e) :
  ∃b cs,m id=.at b∧w.heap[b]?=some (.cells cs T (0,0))∧(rowsOf base bG tail).length*sz≤cs.size∧(∀e∈rowsOf base bG tail,e.length=sz)∧∀(i j:Nat) (x:AV),fW (rowsOf base bG tail) i j=some x→x.one=true∧Rd m A w x (cs.getD (i*sz+j) Go.undef):=by
 obtain⟨-,e0⟩|h:=H.rL id T sz (rowsOf base bG tail) (by rw[hh];rfl)
 ·rw[e0]at he;simp at he
 ·exact h
theorem bW.Dt [Bk] [Ev] {m:Nat→St} {A:Nat→Prop} {w:World} (H:bW m A h w) {id T sz base:Nat} {bG:List (Poly×List AV)} {tail:List (List AV)} {n:Poly} (hh:h id=.sc T sz base bG tail n) :
  bJ Ev.dL n=((rowsOf base bG tail).length:Int)∧∀q∈bG,XL base q.1:=by
 have:=H.PR id
 rw[hh]at this;exact this
def lX [Bk] (h:AH):AV→Option Poly
 | .seq _ base _ tail=>(lenOf base Bk.lens).map fun n=>uQ n (xJ tail.length)
 | .cE T sz id n=>match h id with
  | .sc T' sz' _ _ _ n'=>if T'=T∧sz'=sz∧n'=n then some n else none
  |_=>none
 |_=>none
def D6:AV→List Nat
 | .cE _ _ id _=>[id]
 | .mC _ id _ _=>[id]
 |_=>[]
theorem HC [Bk] [Ev] {m:Nat→St} {A:Nat→Prop} {w:World} (H:bW m A h w) {x:AV} {n:Poly} {v:Value} (hn:lX h x=some n) (hr:Rd m A w x v):∃a len cap,v=.slice a len cap∧(len:Int)=bJ Ev.dL n:=by
 unfold lX at hn;split at hn
 ·rename_i sz base bG tail
  rw[Option.map_eq_some_iff]at hn;obtain⟨n0,h0,rfl⟩:=hn;have e0:=yW h0;have hl:=gE base bG tail;have hp:bJ Ev.dL (uQ n0 (xJ tail.length))=((rowsOf base bG tail).length:Int):=by rw[nC,qS];omega
  obtain⟨-,h2⟩:=hr.Ef;obtain⟨he,a,cap,rfl⟩|⟨b,off,cap,vs,rfl,-⟩:=h2.nE
  ·rw[he]at hp;exact⟨a,0,cap,rfl,by rw[hp];rfl⟩
  ·exact⟨_,_,cap,rfl,hp.symm⟩
 ·rename_i T sz id n0
  split at hn
  ·rename_i T' sz' base bG tail n' hh
   split at hn
   ·rename_i hc
    obtain⟨rfl,rfl,rfl⟩:=hc;cases hn;rcases H.rL id T' sz' (rowsOf base bG tail) (by rw[hh];rfl)with⟨hv,e0⟩|⟨b,cs,g1,-⟩
    ·obtain⟨a,rfl,e⟩:=hr.uN hv
     exact⟨a,0,0,rfl,by rw[e];rfl⟩
    ·obtain⟨len,cap,e,rfl,-⟩:=hr.BW g1
     exact⟨_,len,cap,rfl,e.symm⟩
   ·cases hn
  ·cases hn
 ·cases hn
theorem R8 [Bk] [Ev] {t:TypeId} {x:Operand} {e:TypeId} {n:Poly} {vF:List Nat} (ho:o.op=.call { callee:=.builtin .len,args:=#[x],argTypes:=#[t] }) (hu:P.underlying t=some (.slice e)) (hn:lX h (dE f x)=some n):dX P o f h ⟨AN n,[],vF⟩:=by
 refine bQ fun m A w a H F=>?_
 obtain⟨ad,len,cap,hv,hl⟩:=HC H hn (F.eval x)
 refine⟨_,?_,.pure _ _ (wS _ w n)⟩
 simp[execOp,ho,resolve,invoke,builtin,hv,Builtin.len_,run_underlying hu,goInt,hl]
def adw [Bk] (p n:Poly):Bool:=Oe p==some false&&Oe (pM p n)==some true
theorem Xc [Bk] [Ev] {p n:Poly} (h:adw p n=true):0≤bJ Ev.dL p∧bJ Ev.dL p<bJ Ev.dL n:=by
 unfold adw at h;rw[Bool.and_eq_true,beq_iff_eq,beq_iff_eq]at h;have c1:=of_decide_eq_false (nU h.1).symm
 have c2:=of_decide_eq_true (nU h.2).symm
 rw[fQ]at c2;omega
theorem CG [Bk] [Ev] {t e:TypeId} {x ix:Operand} {sz base:Nat} {bG:List (Poly×List AV)} {tail:List (List AV)} {p n:Poly} (ho:o.op=.indexAddr t x ix) (hx:dE f x=.seq sz base bG tail) (hi:toP (dE f ix)=some p) (hu:P.underlying t=some (.slice e)) (hs:(P.info? e).map (·.size)=some sz)
  (hn:lX h (.seq sz base bG tail)=some n) (hp:adw p n=true):dX P o f h ⟨.tY sz base bG tail p 0,[],[]⟩:=by
 refine bQ fun m A w a H F=>?_
 have h1:=F.eval x;rw[hx]at h1;have e2:=toP_ok hi (F.eval ix)
 obtain⟨p0,p1⟩:=Xc hp;obtain⟨ad,len,cap,hv,hl⟩:=HC H hn h1;obtain⟨hin,h2⟩:=h1.Ef;cases hpi:P.info? e with
 |none=>simp[hpi]at hs
 |some ti =>
  simp only[hpi,Option.map_some,Option.some.injEq]at hs;obtain⟨he,a',cap',hv'⟩|⟨b,off,cap',vs,hv',hA,hb,hc,hsz,k1,kv,kr⟩:=h2.nE
  ·rw[hv']at hv;cases hv;omega
  ·have hlt:bJ Ev.dL p<((rowsOf base bG tail).length:Int):=by rw[hv']at hv;cases hv;omega
   refine⟨.pointer (some ⟨b,off+((bJ Ev.dL p).toNat*sz+0),none⟩),?_,.pure _ _ (.tY sz base bG tail p 0 _ hin rfl p0 (.gT sz _ _ 0 b off vs hA hb hsz k1 kv kr))⟩
   simp[execOp,ho,hv',e2,Instr.indexAt,asIntOf,run_underlying hu,p0,hlt,sizeOf,typeInfo,hpi,hs,gB]
theorem Br [Bk] [Ev] {t e:TypeId} {x ix:Operand} {T sz id:Nat} {p n:Poly} (ho:o.op=.indexAddr t x ix) (hx:dE f x=.cE T sz id n) (hi:toP (dE f ix)=some p) (hu:P.underlying t=some (.slice e)) (hs:(P.info? e).map (·.size)=some sz)
  (hn:lX h (.cE T sz id n)=some n) (hp:adw p n=true):dX P o f h ⟨.mC sz id p 0,[],[id]⟩:=by
 refine bQ fun m A w a H F=>?_
 have h1:=F.eval x;rw[hx]at h1;have e2:=toP_ok hi (F.eval ix)
 obtain⟨p0,p1⟩:=Xc hp;cases hpi:P.info? e with
 |none=>simp[hpi]at hs
 |some ti =>
  simp only[hpi,Option.map_some,Option.some.injEq]at hs;simp only[lX]at hn;split at hn
  ·rename_i T' sz' base bG tail n' hh
   split at hn
   ·rename_i hc
    obtain⟨rfl,rfl,rfl⟩:=hc;rcases H.rL id T' sz' (rowsOf base bG tail) (by rw[hh];rfl)with⟨hv,e0⟩|⟨b,cs,g1,-⟩
    ·obtain⟨a,-,e⟩:=h1.uN hv
     omega
    ·obtain⟨len,cap,e,hv,-⟩:=h1.BW g1
     have hlt:bJ Ev.dL p<(len:Int):=by omega
     refine⟨.pointer (some ⟨b,(bJ Ev.dL p).toNat*sz'+0,none⟩),?_,.mC sz' id p 0 b g1 (H.lt g1)⟩
     simp[execOp,ho,hv,e2,Instr.indexAt,asIntOf,run_underlying hu,p0,hlt,sizeOf,typeInfo,hpi,hs,gB]
   ·cases hn
  ·cases hn
def Am [Bk] (h:AH):AV→Option (Nat×Nat×List AV)
 | .tY sz base bG tail p off=>(rowAt base bG tail p).map fun r=>(sz,off,r)
 | .mC sz id p off=>match h id with
  | .sc _ sz' base bG tail _=>if sz'=sz∧Oe p=some false then(rowAt base bG tail p).map fun r=>(sz,off,r)else none
  |_=>none
 |_=>none
def E7 (k:Nat):AV→AV
 | .tY sz base bG tail p off=>.tY sz base bG tail p (off+k)
 | .mC sz id p off=>.mC sz id p (off+k)
 |x=>x
theorem Eg [Bk] [Ev] {m:Nat→St} {A:Nat→Prop} {w:World} (H:bW m A h w) {x:AV} {sz off:Nat} {r:List AV} {v:Value} (hx:Am h x=some (sz,off,r)) (hr:Rd m A w x v) :
  ∃b o0,∃vs:Nat→Value,v=.pointer (some ⟨b,o0+off,none⟩)∧(∀j y,r[j]?=some y→y.one=true∧w.cell? ⟨b,o0+j,none⟩=some (vs j)∧Rd m A w y (vs j))∧∀k,Rd m A w (E7 k x) (.pointer (some ⟨b,o0+(off+k),none⟩)):=by
 unfold Am at hx;split at hx
 ·rename_i sz' base bG tail p off'
  rw[Option.map_eq_some_iff]at hx;obtain⟨r',hra,he⟩:=hx;cases he;cases hr with
  |pure _ _ hr =>
   cases hr with
   |tY _ _ _ _ _ _ _ hin h1 hp hr =>
    obtain⟨r0,k1,k2⟩:=Ff hin hp hra;cases hr with
    |gT _ _ _ _ b o0 vs hA hb hsz q1 qv qr =>
     refine⟨b,o0+(bJ Ev.dL p).toNat*sz,vs (bJ Ev.dL p).toNat,by rw[Nat.add_assoc],?_,?_⟩
     ·intro j y hy
      obtain⟨x,hx,hl⟩:=k2.2 j y hy;have ha:fW (rowsOf base bG tail) (bJ Ev.dL p).toNat j=some x:=by simp[fW,k1,hx]
      refine⟨by rw[←hl.one];exact q1 _ _ _ ha,?_,.pure _ _ (hl.rdL (qr _ _ _ ha))⟩
      have:=qv _ _ _ ha
      rw[←this];congr 2;omega
     ·intro k
      refine .pure _ _ (.tY sz base bG tail p (off+k) _ hin rfl hp ?_)
      have:=dG.gT (A:=Av m A) (w:=w) sz (rowsOf base bG tail) (bJ Ev.dL p).toNat (off+k) b o0 vs hA hb hsz q1 qv qr
      rw[show o0+(bJ Ev.dL p).toNat*sz+(off+k)=o0+((bJ Ev.dL p).toNat*sz+(off+k))by omega]
      exact this
 ·rename_i sz' id p off'
  split at hx
  ·rename_i T sz2 base bG tail n hh
   split at hx
   ·rename_i hc
    obtain⟨rfl,hp⟩:=hc;have hp:=of_decide_eq_false (nU hp).symm
    rw[Option.map_eq_some_iff]at hx;obtain⟨r',hra,he⟩:=hx;cases he;obtain⟨hn,hin⟩:=H.Dt hh;obtain⟨r0,k1,k2⟩:=Ff hin (by omega) hra
    obtain⟨b,cs,g1,g2,g3,g4,g5⟩:=H.Nk hh k1;refine⟨b,(bJ Ev.dL p).toNat*sz,fun j=>cs.getD ((bJ Ev.dL p).toNat*sz+j) Go.undef,hr.XC g1,?_,?_⟩
    ·intro j y hy
     obtain⟨x,hx,hl⟩:=k2.2 j y hy;have ha:fW (rowsOf base bG tail) (bJ Ev.dL p).toNat j=some x:=by simp[fW,k1,hx]
     obtain⟨q1,q2⟩:=g5 _ _ _ ha;refine⟨by rw[←hl.one];exact q1,?_,hl.rd q2⟩
     have:=(gU ha g4).2.2
     have hlt:(bJ Ev.dL p).toNat*sz+j<cs.size:=by omega
     simp[World.cell?,g2,hlt]
    ·intro k
     exact .mC sz id p (off+k) b g1 (H.lt g1)
   ·cases hx
  ·cases hx
 ·cases hx
theorem aat [Bk] [Ev] {t:TypeId} {x:Operand} {sz off:Nat} {r:List AV} {v:AV} {vF:List Nat} (ho:o.op=.load t x) (hx:Am h (dE f x)=some (sz,off,r)) (hp:kQ P t r off=some v):dX P o f h ⟨v,[],vF⟩:=by
 refine bQ fun m A w a H F=>?_
 obtain⟨b,o0,vs,hv,k1,-⟩:=Eg H hx (F.eval x)
 obtain⟨u,r1,r2⟩:=vZ (P:=P) (m:=m) (A:=A) (w:=w) (b:=b) (o0:=o0) (vs:=vs) hp k1
 exact⟨u,by simp[execOp,ho,hv,Instr.loadAt,Instr.sureAddr,r1],r2⟩
theorem G6 [Bk] [Ev] {x:Operand} {sz off:Nat} {r:List AV} {vF:List Nat} (ho:o.op=.nilCheck x) (hx:Am h (dE f x)=some (sz,off,r)):dX P o f h ⟨dE f x,[],vF⟩:=by
 refine bQ fun m A w a H F=>?_
 have h1:=F.eval x;obtain⟨b,o0,vs,hv,k1,-⟩:=Eg H hx h1;refine⟨a.eval x,?_,h1⟩
 rw[hv];simp[execOp,ho,hv]
theorem FM [Bk] [Ev] {t:TypeId} {x:Operand} {k ty o' n sz off:Nat} {r:List AV} {vF:List Nat} (ho:o.op=.fieldAddr t x k) (hx:Am h (dE f x)=some (sz,off,r)) (hf:lU P t k=some (ty,o',n)) (hn:n≠0):dX P o f h ⟨E7 o' (dE f x),[],vF⟩:=by
 refine bQ fun m A w a H F=>?_
 obtain⟨b,o0,vs,hv,-,k2⟩:=Eg H hx (F.eval x)
 refine⟨_,?_,k2 o'⟩
 rw[←Nat.add_assoc];simp[execOp,ho,hv,xY hf hn]
theorem FL [Bk] [Ev] {t e:TypeId} {x ix:Operand} {sz off len s:Nat} {r:List AV} {k:IntKind} {n:Int} {vF:List Nat} (ho:o.op=.indexAddr t x ix) (hx:Am h (dE f x)=some (sz,off,r)) (hi:dE f ix=.c (.int k n)) (hu:P.underlying t=some (.array len e)) (hs:(P.info? e).map (·.size)=some s) (h0:0≤n) (hn:n.toNat<len) :
  dX P o f h ⟨E7 (n.toNat*s) (dE f x),[],vF⟩:=by
 refine bQ fun m A w a H F=>?_
 have h2:=F.eval ix;rw[hi]at h2;have e2:=h2.dY;obtain⟨b,o0,vs,hv,-,k2⟩:=Eg H hx (F.eval x)
 cases hp:P.info? e with
 |none=>simp[hp]at hs
 |some ti =>
  simp only[hp,Option.map_some,Option.some.injEq]at hs;have hlt:n<(len:Int):=by omega
  refine⟨_,?_,k2 (n.toNat*s)⟩
  simp[execOp,ho,hv,e2,Instr.indexAt,asIntOf,run_underlying hu,h0,hlt,sizeOf,typeInfo,hp,hs,gB,Instr.sureAddr,Nat.add_assoc]
theorem X6 [Bk] [Ev] {m:Nat→St} {A:Nat→Prop} {w:World} (H:bW m A h w) {T sz id i off b:Nat} {aN:List (List AV)} {e e0 xs:List AV} {us:Array Value} {B:bY} (hh:(h id).aN=some (T,sz,aN)) (hm:m id=.at b) (he:aN[i]?=some e0) (hlk:IK e0 e) (hx:CR (Rd m A w) xs us) (hl:off+xs.length≤sz)
  (hB:B.aN=some (T,sz,aN.set i (iO e off xs))) (hS:mK B) :
  ∃w',(storeCells ⟨b,i*sz+off,none⟩ us.toList).run P w=.ok () w'∧bW m A (cJ h id B) w'∧Ext m w m w':=by
 obtain⟨hv,-⟩|⟨b',cs,g1,g2,g3,g4,g5⟩:=H.rL id T sz aN hh
 ·rw[hm]at hv;cases hv
 rw[hm]at g1;cases g1
 have hi:i<aN.length:=(List.getElem?_eq_some_iff.1 he).1
 have hel:e.length=sz:=by rw[←hlk.1];exact g4 e0 (List.mem_of_getElem? he)
 have hmul:(i+1)*sz≤aN.length*sz:=Nat.mul_le_mul_right _ hi
 rw[Nat.succ_mul]at hmul;have hul:us.toList.length=xs.length:=by simpa using hx.1
 have hfit:i*sz+off+0+us.toList.length≤cs.size:=by rw[hul];omega
 have h1:∀v∈us.toList,v.oneCell'=true:=by
  intro v hv;obtain⟨k,hk,rfl⟩:=List.getElem_of_mem hv;have hk':k<xs.length:=by omega
  have:=hx.2 k xs[k] (by simp[hk'])
  have:=this.2.one this.1
  simpa[show k<us.size by simpa using hk]using this
 have hst:=run_storeCells_at P b (i*sz+off) T us.toList 0 cs w g2 hfit h1
 refine⟨_,hst,?_⟩
 have hsz:(cs.toList.take (i*sz+off+0)++us.toList++cs.toList.drop (i*sz+off+0+us.toList.length)).toArray.size=cs.size:=by simp only[List.size_toArray,List.length_append,List.length_take,List.length_drop,hul,Array.length_toList];rw[hul]at hfit;omega
 have hget:∀k,(cs.toList.take (i*sz+off+0)++us.toList++cs.toList.drop (i*sz+off+0+us.toList.length)).toArray.getD k Go.undef=if i*sz+off≤k∧k<i*sz+off+xs.length then us.getD (k-(i*sz+off)) Go.undef else cs.getD k Go.undef:=by
  intro k;have:=lW (cs:=cs.toList) (off:=i*sz+off) (xs:=us.toList) (by simpa using hfit) k
  unfold iO at this;have e1:∀(l:List Value),l.toArray.getD k Go.undef=(l[k]?).getD Go.undef:=by intro l;simp
  rw[e1,Nat.add_zero,this,hul];split
  ·simp
  ·simp
 refine H.abt hB hS hm (setRow_heap w b cs _ T _ g2) g2 hsz (fun k hk=>setRow_other w b k _ hk) rfl rfl rfl (by simp) ?_ ?_ ?_
 ·rw[hsz,List.length_set];exact g3
 ·intro e' he'
  rcases List.mem_or_eq_of_mem_set he' with h|h
  ·exact g4 _ h
  ·subst h;rw[qK (by omega)];exact hel
 ·intro i' j x hx'
  unfold fW at hx';rw[List.getElem?_set]at hx';split at hx'
  ·rename_i hii
   subst hii;simp only[hi,if_true,Option.bind_some]at hx';rw[lW (by omega)]at hx'
   rw[hget];split at hx'
   ·rename_i hj
    rw[if_pos (by omega)]
    have:=hx.2 _ _ hx'
    refine⟨this.1,?_⟩
    rw[show i*sz+j-(i*sz+off)=j-off by omega];exact this.2
   ·rename_i hj
    obtain⟨y,hy,hly⟩:=hlk.2 j x hx';obtain⟨q1,q2⟩:=g5 i j y (by simp[fW,he,hy])
    have hj':j<sz:=by rw[←hel];exact(List.getElem?_eq_some_iff.1 hx').1
    rw[if_neg (by omega)]
    exact⟨by rw[←hly.one];exact q1,hly.rd q2⟩
  ·rename_i hii
   have ha:fW aN i' j=some x:=hx'
   have hb:=gU ha g4;rw[hget,if_neg]
   ·exact g5 i' j x ha
   ·rintro⟨k1,k2⟩
    rcases Nat.lt_or_ge i' i with hlt|hge
    ·have:(i'+1)*sz≤i*sz:=Nat.mul_le_mul_right _ hlt
     rw[Nat.succ_mul]at this;omega
    ·have:(i+1)*sz≤i'*sz:=Nat.mul_le_mul_right _ (by omega)
     rw[Nat.succ_mul]at this;omega
def vN [Bk] (h:AH) (x:AV) (xs:List AV):Option (Nat×bY):=match x with
 | .mC sz id p off=>match h id with
  | .sc T sz' base bG tail n=>if sz'=sz∧off+xs.length≤sz∧Oe p=some false then match rowAt base bG tail p with
    |some e=>match Rh base bG tail p (iO e off xs)with
     |some q=>some (id,.sc T sz base q.1 q.2 n)
     |none=>none
    |none=>none
   else none
  |_=>none
 |_=>none
theorem R6 [Bk] [Ev] {t:TypeId} {x y:Operand} {xs:List AV} {q:Nat×bY} {vF:List Nat} (ho:o.op=.store t x y) (hy:gG (dE f y)=some xs) (ht:(P.info? t).map (·.size)=some xs.length) (hq:vN h (dE f x) xs=some q):dX P o f h ⟨.undef,[q],vF⟩:=by
 intro m A w a H F;unfold vN at hq;split at hq
 ·rename_i sz id p off hx
  split at hq
  ·rename_i T sz' base bG tail n hh
   split at hq
   ·rename_i hc
    obtain⟨rfl,hl,hp⟩:=hc;have hp:=of_decide_eq_false (nU hp).symm
    split at hq
    ·rename_i e he
     split at hq
     ·rename_i u hu
      cases hq;obtain⟨u1,u2⟩:=u;obtain⟨hn,hin⟩:=H.Dt hh;obtain⟨r0,k1,k2⟩:=Ff hin (by omega) he
      obtain⟨s1,s2,-⟩:=aag hin hu;obtain⟨b,cs,g1,-⟩:=H.Nk hh k1;have h1:=F.eval x;rw[hx]at h1;have hv:=h1.XC g1;have hcr:=lP (F.eval y) hy
      obtain⟨w',r1,r2,r3⟩:=X6 (P:=P) H (B:=.sc T sz' base u1 u2 n) (by rw[hh];rfl) g1 k1 k2 hcr hl (by simp only[bY.aN];rw[s1]) ⟨by rw[s1,List.length_set];exact hn,s2⟩
      cases hi:P.info? t with
      |none=>simp[hi]at ht
      |some ti =>
       simp only[hi,Option.map_some,Option.some.injEq]at ht;refine⟨Go.undef,w',m,.inr ⟨?_,rfl⟩,r2,.pure _ _ .undef,r3⟩
       have hs:(a.eval y).cells.size=xs.length:=hcr.1
       simp[execOp,ho,hv,Instr.storeAt,Instr.sureAddr,storeVar,sizeOf,typeInfo,hi,ht,hs,r1]
     ·cases hq
    ·cases hq
   ·cases hq
  ·cases hq
 ·cases hq
end
end Mc
namespace Mc
section
variable {P:Program} {o:Oper} {f:List AV} {h:AH}
def wT [Bk] [Ev] (h:AH) (x:AV) (e sz:Nat) (aN:List (List AV)) (k:List (Nat×bY)):Prop :=
 ∀m A w v,bW m A h w→Rd m A w x v→(k=[]∧aN=[]∧∃a0,v=.slice a0 0 0) ∨
  ∃id,k=[(id,.dead)]∧(h id).aN=some (e,sz,aN)∧((m id=.rW∧∃a0,v=.slice a0 0 0)∨∃b cap,m id=.at b∧v=.slice (some ⟨b,0,none⟩) aN.length cap∧aN.length≤cap∧cap≤maxLen∧cap*sz=dV w b)
def Cb [Bk] [Ev] (h:AH) (y:AV) (sz:Nat) (ys:List (List AV)):Prop :=
 ∀m A w v,bW m A h w→Rd m A w y v→(∀q∈ys,q.length=sz)∧∃a cap,v=.slice a ys.length cap∧ys.length≤cap∧(a=none→ys=[])∧∃news:List Value,news.length=ys.length*sz∧(∀ad,a=some ad→∀j u,news[j]?=some u→w.cell? (ad.add j)=some u)∧(∀u∈news,u.oneCell'=true) ∧
   ∀(i j:Nat) (y:AV),fW ys i j=some y→y.one=true∧Rd m A w y (news.getD (i*sz+j) Go.undef)
theorem Cb.aN [Bk] [Ev] {y:AV} {sz:Nat} {ys:List (List AV)} (hy:gN h y=some ys) (hys:∀q∈ys,q.length=sz) (hyo:∀T s id j n,y=.own T s id j n→s=sz):Cb h y sz ys :=
 fun m A w v H hr=>⟨hys,Rb H hr hy hys hyo⟩
theorem Cb.seq [Bk] [Ev] {sz base:Nat} {bG:List (Poly×List AV)} {tail:List (List AV)}:Cb h (.seq sz base bG tail) sz (rowsOf base bG tail):=by
 intro m A w v H hr;obtain⟨hin,h2⟩:=hr.Ef;have hsz:∀q∈rowsOf base bG tail,q.length=sz:=by
  obtain⟨he,-⟩|⟨b,off,cap,vs,-,-,-,-,hsz,-⟩:=h2.nE
  ·rw[he];intro q hq;exact absurd hq List.not_mem_nil
  ·exact hsz
 exact⟨hsz,Rb (aN:=rowsOf base bG tail) H h2 rfl hsz (by intro T s id i n hx;cases hx)⟩
theorem Cb.cE [Bk] [Ev] {T sz id base:Nat} {n n':Poly} {bG:List (Poly×List AV)} {tail:List (List AV)} (hh:h id=.sc T sz base bG tail n') (hn:n'=n):Cb h (.cE T sz id n) sz (rowsOf base bG tail):=by
 subst hn;intro m A w v H hr;obtain⟨hl,hin⟩:=H.Dt hh;rcases H.rL id T sz (rowsOf base bG tail) (by rw[hh];rfl)with⟨hv,e0⟩|⟨b,cs,g1,g2,g3,g4,g5⟩
 ·obtain⟨a,rfl,e⟩:=hr.uN hv
  rw[e0];refine⟨fun q hq=>absurd hq List.not_mem_nil,a,0,rfl,Nat.le_refl _,fun _=>rfl,[],by simp,?_,?_,?_⟩
  ·intro ad _ j u hu;simp at hu
  ·intro u hu;simp at hu
  ·intro i j y hy;simp[fW]at hy
 ·obtain⟨len,cap,e,rfl,hn,-,hrow⟩:=hr.BW g1
  have hlen:len=(rowsOf base bG tail).length:=by omega
  subst hlen;have hrow':cap*sz=cs.size:=by rw[hrow];simp[dV,g2]
  have hl:(cs.toList.take ((rowsOf base bG tail).length*sz)).length=(rowsOf base bG tail).length*sz:=by simp;omega
  have hg:∀(i j:Nat) (y:AV),fW (rowsOf base bG tail) i j=some y→y.one=true∧Rd m A w y ((cs.toList.take ((rowsOf base bG tail).length*sz)).getD (i*sz+j) Go.undef):=by
   intro i j y hy;have hb:=gU hy g4;obtain⟨q1,q2⟩:=g5 _ _ _ hy;refine⟨q1,?_⟩
   have:(cs.toList.take ((rowsOf base bG tail).length*sz)).getD (i*sz+j) Go.undef=cs.getD (i*sz+j) Go.undef:=by
    rw[List.getD,List.getElem?_take,if_pos hb.2.2];simp
   rw[this];exact q2
  refine⟨g4,some ⟨b,0,none⟩,cap,rfl,hn,(fun h=>by cases h),_,hl,?_,?_,hg⟩
  ·intro ad had j u hu
   cases had;rw[gB];rw[List.getElem?_take]at hu;split at hu
   ·simp only[World.cell?,g2]
    simpa using hu
   ·cases hu
  ·intro u hu
   obtain⟨k,hk,rfl⟩:=List.getElem_of_mem hu;obtain⟨y,hy⟩:=flat_get g4 (k:=k) (by omega)
   obtain⟨h1,h2⟩:=hg _ _ _ hy;have e1:k/sz*sz+k%sz=k:=by rw[Nat.mul_comm];exact Nat.div_add_mod k sz
   rw[e1]at h2;have:=h2.one h1
   rw[List.getD,List.getElem?_eq_getElem hk]at this;exact this
theorem wT.emp [Bk] [Ev] {e sz:Nat}:wT h .emp e sz [] []:=by
 intro m A w v H hr;cases hr with|pure _ _ hr=>cases hr with|emp a0=>exact .inl ⟨rfl,rfl,a0,rfl⟩
theorem wT.own [Bk] [Ev] {T s id n:Nat} {aN:List (List AV)} (hh:h id=.cells T s aN) (hn:n=aN.length):wT h (.own T s id 0 n) T s aN [(id,.dead)]:=by
 subst hn;intro m A w v H hr;refine .inr ⟨id,rfl,by rw[hh];rfl,?_⟩
 rcases H.cells id _ _ _ hh with⟨hv,rfl⟩|⟨b,cs,g1,g2,g3,g4,g5⟩
 ·refine .inl ⟨hv,?_⟩
  cases hr with
  |pure _ _ h=>cases h
  |own _ _ _ _ _ b _ hm=>rw[hv]at hm;cases hm
  |sA _ _ _ _ a hm=>exact⟨a,rfl⟩
  |uD _ _ _ _ _ _ _ _ hm=>rw[hv]at hm;cases hm
 ·obtain⟨cap,hv0,hn0,hcm,hrow⟩:=hr.pF g1
  exact .inr ⟨b,cap,g1,by rw[hv0];simp,hn0,hcm,by simpa using hrow⟩
theorem wT.cE [Bk] [Ev] {T s id base:Nat} {n n':Poly} {bG:List (Poly×List AV)} {tail:List (List AV)} (hh:h id=.sc T s base bG tail n') (hn:n'=n):wT h (.cE T s id n) T s (rowsOf base bG tail) [(id,.dead)]:=by
 subst hn;intro m A w v H hr;obtain⟨hl,hin⟩:=H.Dt hh;refine .inr ⟨id,rfl,by rw[hh];rfl,?_⟩
 rcases H.rL id T s (rowsOf base bG tail) (by rw[hh];rfl)with⟨hv,e0⟩|⟨b,cs,g1,g2,g3,g4,g5⟩
 ·obtain⟨a,rfl,e⟩:=hr.uN hv
  exact .inl ⟨hv,a,rfl⟩
 ·obtain⟨len,cap,e,rfl,hn,hcm,hrow⟩:=hr.BW g1
  have hlen:len=(rowsOf base bG tail).length:=by omega
  subst hlen;exact .inr ⟨b,cap,g1,rfl,hn,hcm,hrow⟩
theorem sU [Bk] [Ev] {t e:TypeId} {x y:Operand} {aN ys:List (List AV)} {k:List (Nat×bY)} {vF:List Nat} {i:TypeInfo} {z:Value} {nx:Nat} {B:bY} {n:Poly} (ho:o.op=.call { callee:=.builtin .append,args:=#[x,y],argTypes:=#[t,t] }) (ht:P.underlying t=some (.slice e)) (hi:P.info? e=some i) (hz:i.zero=some z) (hzs:z.cells.size=i.size) (hs0:0<i.size)
  (hx:wT h (dE f x) e i.size aN k) (hy:Cb h (dE f y) i.size ys) (hb:(aN.length+ys.length)*i.bytes≤140737488355328) (hm:aN.length+ys.length≤1099511627776) (hnx:h nx=.no)
  (hB:B.aN=some (e,i.size,aN++ys)) (hSn:∀m A w v u,bW m A h w→Rd m A w (dE f x) v→Rd m A w (dE f y) u→mK B∧bJ Ev.dL n=((aN.length+ys.length:Nat):Int)) :
  dX P o f h ⟨.cE e i.size nx n,k++[(nx,B)],vF⟩:=by
 intro m A w a H F;have gx:=F.eval x;have gy:=F.eval y;obtain⟨hS,hn⟩:=hSn m A w _ _ H gx gy;obtain⟨hys,a1,c1,hv1,hc1,hn1,news,hl,hnews,hone,hrd⟩:=hy m A w _ H gy;have hexec:∀v w',(Builtin.append_ #[t,t] o.type #[a.eval x,a.eval y]).run P w=.ok v w'→(execOp a.eval o).run P w=.ok (.value v) w':=by
  intro v w' hr;simp[execOp,ho,resolve,invoke,builtin,hr]
 have fresh:∀(m1:Nat→St) (h1:AH) (hk:eW h (k++[(nx,B)])=cJ h1 nx B) (H1:bW m1 A h1 w) (E1:Ext m w m1 w) (hnx1:h1 nx=.no) (a0:Option Addr) (hv0:a.eval x=.slice a0 0 0) (he:aN=[]),
   ∃x' w' m',((execOp a.eval o).run P w=.ok (.value x') w'∨((execOp a.eval o).run P w=.ok .skip w'∧x'=Go.undef))∧bW m' A (eW h (k++[(nx,B)])) w'∧Rd m' A w' (.cE e i.size nx n) x'∧Ext m w m' w':=by
  intro m1 h1 hk H1 E1 hnx1 a0 hv0 he;subst he;rw[hk];rw[hv0,hv1]at hexec;simp only[List.length_nil,Nat.zero_add,List.nil_append]at hm hb hn hB ⊢;by_cases hys0:ys=[]
  ·subst hys0
   have hr:=lR (P:=P) (.slice a0 0 0) a0 a1 0 0 c1 t o.type e i ht hi w (Nat.le_refl _) (fun _=>rfl)
   obtain⟨q1,q2⟩:=H1.EK hnx1 hB hS;refine⟨_,w,_,.inl (hexec _ _ hr),q1,?_,E1.trans q2⟩
   exact .sG e i.size nx n a0 (by simp[sset]) (by simpa using hn)
  ·have hpos:0<ys.length:=List.length_pos_iff.2 hys0
   obtain⟨ad,rfl⟩:∃ad,a1=some ad:=by
    cases a1 with
    |none=>exact absurd (hn1 rfl) hys0
    |some ad=>exact⟨ad,rfl⟩
   have hr:=xF (P:=P) a0 t o.type e i z ht hi hz w ad ys.length c1 news hl (fun j v hv=>hnews ad rfl j v hv) hpos (by omega) hb
   have hcap:ys.length≤grownCap w ys.length 0 e∧grownCap w ys.length 0 e≤maxLen:=by
    unfold grownCap Question.cut;have:=Nat.mod_lt (w.tape w.drawn (.appendCap ys.length 0 e)) (show 0<2 ^ 63-ys.length by omega)
    simp only[maxLen];omega
   have hsize:(news.toArray++Builtin.zeroCells z.cells (grownCap w ys.length 0 e-ys.length)).size=grownCap w ys.length 0 e*i.size:=by
    simp only[Array.size_append,List.size_toArray,hl,Builtin.zeroCells,Array.size_map,Array.size_range,hzs];rw[←Nat.add_mul];congr 1;omega
   obtain⟨d1,d2⟩:=H1.drew;obtain⟨q1,q2⟩:=d1.aed (id:=nx) (T:=e) (sz:=i.size) (aN:=ys) (cs:=news.toArray++Builtin.zeroCells z.cells (grownCap w ys.length 0 e-ys.length)) hB hS hnx1 (by rw[hsize];exact Nat.mul_le_mul_right _ hcap.1) hys (by
    intro i' j y hy';obtain⟨r1,r2⟩:=hrd i' j y hy';have hb2:=gU hy' hys;have e1:(news.toArray++Builtin.zeroCells z.cells (grownCap w ys.length 0 e-ys.length)).getD (i'*i.size+j) Go.undef=news.getD (i'*i.size+j) Go.undef:=by
     have hlt:i'*i.size+j<news.length:=by omega
     simp[Array.getElem?_append,hlt,List.getD]
    rw[e1];exact⟨r1,(r2.ext E1).ext d2⟩)
   refine⟨_,_,_,.inl (hexec _ _ hr),q1,?_,(E1.trans d2).trans q2⟩
   exact .cE e i.size nx n w.heap.size ys.length (grownCap w ys.length 0 e) (by simp[sset]) (by simp) hn hcap.1 hcap.2 (by
    rw[←hsize];have:(w.drew.alloc (.cells (news.toArray++Builtin.zeroCells z.cells (grownCap w ys.length 0 e-ys.length)) e)).heap[w.heap.size]?=some (.cells (news.toArray++Builtin.zeroCells z.cells (grownCap w ys.length 0 e-ys.length)) e (0,0)):=by
     show(w.heap.push _)[w.heap.size]?=_
     simp
    unfold dV;rw[this])
 obtain⟨rfl,he,a0,hv0⟩|⟨id,rfl,hid,hcase⟩:=hx m A w _ H gx
 ·exact fresh m h (by simp[eW]) H (Ext.refl _ _) hnx a0 hv0 he
 ·have hne:nx≠id:=by rintro rfl;rw[hnx]at hid;simp[bY.aN]at hid
  rcases H.rL id _ _ _ hid with⟨hv,e0⟩|⟨b,cs,g1,g2,g3,g4,g5⟩
  ·obtain⟨-,a0,hv0⟩|⟨b,cap,hmb,-⟩:=hcase
   ·obtain⟨q1,q2⟩:=H.kill hv
    exact fresh _ (cJ h id .dead) (by simp[eW]) q1 q2 (by rw[fU h _ hne];exact hnx) a0 hv0 e0
   ·rw[hv]at hmb;cases hmb
  ·obtain⟨hmv,-⟩|⟨b',cap,hmb,hv0,hn0,hcm,hrow⟩:=hcase
   ·rw[g1]at hmv;cases hmv
   rw[g1]at hmb;cases hmb
   have hrow':cap*i.size=cs.size:=by rw[hrow];simp[dV,g2]
   have hown:w.ownsRow 0 e i.size (.slice (some ⟨b,0,none⟩) aN.length cap) aN.length (cs.toList.take (aN.length*i.size)):=by
    refine⟨by simp;omega,.inr ⟨b,cap,cs,rfl,Nat.zero_le _,g2,hn0,hcm,hrow'.symm,rfl⟩⟩
   rw[hv0,hv1]at hexec;have hus:(cs.toList.take (aN.length*i.size)).length=aN.length*i.size:=by simp;omega
   have hrd0:∀(i' j:Nat) (y:AV),fW aN i' j=some y→y.one=true∧Rd m A w y ((cs.toList.take (aN.length*i.size)).getD (i'*i.size+j) Go.undef):=by
    intro i' j y hy';have hb2:=gU hy' g4;have:=g5 i' j y hy'
    rw[List.getD,List.getElem?_take,if_pos hb2.2.2];simpa using this
   have hjoin:=HH (R:=Rd m A w) (ys:=ys) g4 (us:=cs.toList.take (aN.length*i.size)) (vs:=news) hus hrd0 hrd
   have hall:∀q∈aN++ys,q.length=i.size:=by
    intro q hq;rcases List.mem_append.1 hq with h|h
    ·exact g4 q h
    ·exact hys q h
   have fin:∀(v':Value) (w':World),(Builtin.append_ #[t,t] o.type #[.slice (some ⟨b,0,none⟩) aN.length cap,.slice a1 ys.length c1]).run P w=.ok v' w'→w'.ownsRow 0 e i.size v' (aN.length+ys.length) (cs.toList.take (aN.length*i.size)++news)→w.grownBy w' (some b) →
     (v'.ownBlock=some b∨v'.ownBlock=some w.heap.size) →
     ∃x' w' m',((execOp a.eval o).run P w=.ok (.value x') w'∨((execOp a.eval o).run P w=.ok .skip w'∧x'=Go.undef))∧bW m' A (eW h ([(id,.dead)]++[(nx,B)])) w'∧Rd m' A w' (.cE e i.size nx n) x'∧Ext m w m' w':=by
    intro v' w' hr ho' hgr hblk;obtain⟨ho1,ho2|⟨g,cap',cur,rfl,-,hg,hnc,hcm',Ep,htake⟩⟩:=ho'
    ·obtain⟨rfl,-⟩:=ho2
     simp[Value.ownBlock]at hblk
    ·have hgg:g=b∨w.heap.size≤g:=by
      simp[Value.ownBlock]at hblk
      omega
     have hglt:g<w'.heap.size:=by
      rcases Nat.lt_or_ge g w'.heap.size with h|h
      ·exact h
      ·simp[Array.getElem?_eq_none h]at hg
     obtain⟨q1,q2⟩:=H.ab3 (id:=id) (nx:=nx) (g:=g) (cs':=cur) hB hS g1 hnx hgr hgg hglt hg (by rw[List.length_append,Ep];exact Nat.mul_le_mul_right _ hnc) hall (by
      intro i' j y hy';have hb2:=gU hy' hall;obtain⟨r1,r2⟩:=hjoin i' j y hy';refine⟨r1,?_⟩
      have:(cs.toList.take (aN.length*i.size)++news).getD (i'*i.size+j) Go.undef=cur.getD (i'*i.size+j) Go.undef:=by
       rw[←htake,List.getD,List.getElem?_take,if_pos (by rw[←List.length_append];exact hb2.2.2)]
       simp
      rw[←this];exact r2)
     refine⟨_,w',_,.inl (hexec _ _ hr),by simpa[eW]using q1,?_,q2⟩
     exact .cE e i.size nx n g (aN.length+ys.length) cap' (by simp[sset]) hglt hn hnc hcm' (by rw[←Ep];simp[dV,hg])
   cases a1 with
   |none =>
    have:=hn1 rfl
    subst this;have hr:=lR (P:=P) (.slice (some ⟨b,0,none⟩) aN.length cap) (some ⟨b,0,none⟩) none aN.length cap c1 t o.type e i ht hi w hn0 (by intro h;cases h)
    have hnil:news=[]:=by simpa using hl
    subst hnil;refine fin _ _ hr ?_ ⟨rfl,rfl,rfl,Nat.le_refl _,fun _ _ _=>rfl⟩ (.inl rfl)
    simpa using hown
   |some ad =>
    obtain⟨v',w',r1,r2,r3,r4,r5⟩:=run_append_own_at (P:=P) w 0 t o.type e i z i.size i.bytes ht hi hz rfl rfl hzs hs0 (.slice (some ⟨b,0,none⟩) aN.length cap) aN.length _ hown ad ys.length c1 news hl (fun j u hu=>hnews ad rfl j u hu) hone (by simp only[maxLen];omega) hb (Nat.zero_le _)
    exact fin v' w' r1 r2 r3 (by simpa[Value.ownBlock]using r5)
def lH [Bk] (h:AH):AV→Option (Nat×Nat×List (Poly×List AV)×List (List AV)×Poly)
 | .seq sz base bG tail=>(lenOf base Bk.lens).map fun n=>(sz,base,bG,tail,uQ n (xJ tail.length))
 | .cE T sz id n=>match h id with
  | .sc T' sz' base bG tail n'=>if T'=T∧sz'=sz∧n'=n then some (sz,base,bG,tail,n)else none
  |_=>none
 |_=>none
theorem Ec [Bk] {h h':AH} {x:AV} (e:∀id∈D6 x,h' id=h id):lH h' x=lH h x:=by
 cases x<;>simp only[lH]
 rename_i T sz id n;rw[e id (by simp[D6])]
theorem yJ [Bk] [Ev] {h:AH} {x:AV} {sz base:Nat} {bG:List (Poly×List AV)} {tail:List (List AV)} {n:Poly} (hx:lH h x=some (sz,base,bG,tail,n)):Cb h x sz (rowsOf base bG tail):=by
 unfold lH at hx;split at hx
 ·rw[Option.map_eq_some_iff]at hx
  obtain⟨n0,h0,he⟩:=hx;cases he;exact .seq
 ·split at hx
  ·rename_i hh
   split at hx
   ·rename_i hc
    obtain⟨rfl,rfl,rfl⟩:=hc;cases hx;exact .cE hh rfl
   ·cases hx
  ·cases hx
 ·cases hx
theorem EP [Bk] [Ev] {h:AH} {x:AV} {sz base:Nat} {bG:List (Poly×List AV)} {tail:List (List AV)} {n:Poly} (hx:lH h x=some (sz,base,bG,tail,n)) {m:Nat→St} {A:Nat→Prop} {w:World} {v:Value} (H:bW m A h w) (hr:Rd m A w x v) :
  (∀q∈bG,XL base q.1)∧bJ Ev.dL n=((rowsOf base bG tail).length:Int):=by
 unfold lH at hx;split at hx
 ·rw[Option.map_eq_some_iff]at hx
  obtain⟨n0,h0,he⟩:=hx;cases he;have e0:=yW h0;have hl:=gE base bG tail;exact⟨hr.Ef.1,by rw[nC,qS];omega⟩
 ·split at hx
  ·rename_i hh
   split at hx
   ·rename_i hc
    obtain⟨rfl,rfl,rfl⟩:=hc;cases hx;obtain⟨h1,h2⟩:=H.Dt hh;exact⟨h2,h1⟩
   ·cases hx
  ·cases hx
 ·cases hx
def OL [Bk] (n:Poly) (bytes:Nat):Bool:=decide ((bnd n).2*bytes≤140737488355328)&&decide ((bnd n).2≤1099511627776)
theorem Ex [Bk] [Ev] {n:Poly} {bytes len:Nat} (h:OL n bytes=true) (hn:bJ Ev.dL n=(len:Int)):len*bytes≤140737488355328∧len≤1099511627776:=by
 unfold OL at h;rw[Bool.and_eq_true,decide_eq_true_eq,decide_eq_true_eq]at h;have k:=(Db n).2
 have:(len:Int)*bytes≤(bnd n).2*bytes:=Int.mul_le_mul_of_nonneg_right (by omega) (Int.natCast_nonneg _)
 have e:((len*bytes:Nat):Int)=(len:Int)*bytes:=by simp
 omega
def L4 (h:AH) (e sz:Nat):AV→Option (List (Nat×bY)×List Nat)
 | .emp=>some ([],[])
 | .own T s id 0 0=>match h id with
  | .cells T' s' []=>if T'=T∧s'=s∧T=e∧s=sz then some ([(id,.dead)],[id])else none
  |_=>none
 |_=>none
theorem afs [Bk] [Ev] {h:AH} {e sz:Nat} {x:AV} {k:List (Nat×bY)} {rd:List Nat} (hx:L4 h e sz x=some (k,rd)):wT h x e sz [] k:=by
 unfold L4 at hx;split at hx
 ·cases hx;exact .emp
 ·split at hx
  ·rename_i hh
   split at hx
   ·rename_i hc
    obtain⟨rfl,rfl,rfl,rfl⟩:=hc;cases hx;exact .own hh rfl
   ·cases hx
  ·cases hx
 ·cases hx
def tU [Bk] (P:Program) (t:TypeId) (x y:AV) (h:AH) (nx:Nat):Option AR :=
 match P.underlying t with
 |some (.slice e)=>match P.info? e with
  |some i=>match i.zero with
   |some z=>if z.cells.size=i.size∧0<i.size∧jY h nx=true then match lH h y with
     |some (sz,base,bG,tail,n)=>match L4 h e i.size x with
      |some (k,rd)=>if sz=i.size∧OL n i.bytes=true then some ⟨.cE e i.size nx n,k++[(nx,.sc e i.size base bG tail n)],nx::rd++D6 y⟩else none
      |none=>match x with
       | .cE T s id n0=>match h id with
        | .sc T' s' base' [] [] n1=>match Bk.aa3.find? fun t=>t.1==base'&&t.2.1==base with
         |some q=>if bG.isEmpty=true∧tail.isEmpty=true∧T'=T∧s'=s∧n1=n0∧T=e∧s=i.size∧sz=i.size∧OL (uQ n0 n) i.bytes=true then
           some ⟨.cE e i.size nx (uQ n0 n),[(id,.dead)]++[(nx,.sc e i.size q.2.2 [] [] (uQ n0 n))],nx::id::D6 y⟩else none
         |none=>none
        |_=>none
       |_=>none
     |none=>match x with
      | .cE T s id n0=>match h id with
       | .sc T' s' base bG tail n1=>match gN h y with
        |some ys=>if T'=T∧s'=s∧n1=n0∧T=e∧s=i.size∧(ys.all fun q=>q.length==i.size)=true∧FG y i.size=true∧OL (uQ n0 (xJ ys.length)) i.bytes=true then
          some ⟨.cE e i.size nx (uQ n0 (xJ ys.length)),[(id,.dead)]++[(nx,.sc e i.size base bG (tail++ys) (uQ n0 (xJ ys.length)))],nx::id::pC y⟩else none
        |none=>none
       |_=>none
      |_=>none
    else none
   |none=>none
  |none=>none
 |_=>none
theorem S7 [Bk] [Ev] {t:TypeId} {x y:Operand} {nx:Nat} {r:AR} (ho:o.op=.call { callee:=.builtin .append,args:=#[x,y],argTypes:=#[t,t] }) (hr:tU P t (dE f x) (dE f y) h nx=some r):dX P o f h r:=by
 unfold tU at hr;split at hr
 ·rename_i e he
  split at hr
  ·rename_i i hi
   split at hr
   ·rename_i z hz
    split at hr
    ·rename_i hc
     obtain⟨c1,c2,c3⟩:=hc;split at hr
     ·rename_i sz base bG tail n hy
      split at hr
      ·rename_i k rd hx
       split at hr
       ·rename_i DB
        obtain⟨rfl,d2⟩:=DB;cases hr;have key:∀m A w u,bW m A h w→Rd m A w (dE f y) u→mK (.sc e i.size base bG tail n)∧bJ Ev.dL n=((rowsOf base bG tail).length:Int):=fun m A w u H hu=>by
         obtain⟨k1,k2⟩:=EP hy H hu;exact⟨⟨k2,k1⟩,k2⟩
        intro m A w a H F;have hb:=Ex d2 (key m A w _ H (F.eval y)).2
        exact sU ho he hi hz c1 c2 (afs hx) (yJ hy) (by simpa using hb.1) (by simpa using hb.2) (kD c3) (B:=.sc e i.size base bG tail n) rfl
         (fun m A w v u H hv hu=>by simpa using key m A w u H hu) m A w a H F
       ·cases hr
      ·split at hr
       ·rename_i T s id n0 hax
        split at hr
        ·rename_i T' s' base' n1 hh
         split at hr
         ·rename_i q hq
          split at hr
          ·rename_i DB
           obtain⟨u1,u2,rfl,rfl,rfl,rfl,rfl,rfl,d5⟩:=DB;have u1:=List.isEmpty_iff.1 u1;have u2:=List.isEmpty_iff.1 u2;subst u1 u2;cases hr;have hp:=List.find?_some hq
           have hc:=Ev.cat q (List.mem_of_find?_eq_some hq)
           rw[Bool.and_eq_true]at hp;rw[show q.1=base' from eq_of_beq hp.1,show q.2.1=base from eq_of_beq hp.2]at hc
           have hrow:∀k,rowsOf k [] []=Ev.seq k:=fun k=>by unfold rowsOf;rw[List.append_nil];rfl
           have hap:rowsOf base' [] []++rowsOf base [] []=rowsOf q.2.2 [] []:=by rw[hrow,hrow,hrow];exact hc.symm
           intro m A w a H F;obtain⟨k1,k2⟩:=H.Dt hh;obtain⟨g1,g2⟩:=EP hy H (F.eval y)
           have e1:bJ Ev.dL (uQ n1 n)=(((rowsOf base' [] []).length+(rowsOf base [] []).length:Nat):Int):=by rw[nC,k1,g2];simp
           have hb:=Ex d5 e1;refine sU ho he hi hz c1 c2 (by rw[hax];exact .cE hh rfl) (yJ hy) hb.1 hb.2 (kD c3) (B:=.sc T' i.size q.2.2 [] [] (uQ n1 n)) (by simp only[bY.aN];rw[hap])
            (fun m A w v u H hv hu=>⟨⟨by rw[e1,←hap];simp,fun t ht=>absurd ht List.not_mem_nil⟩,e1⟩) m A w a H F
          ·cases hr
         ·cases hr
        ·cases hr
       ·cases hr
     ·split at hr
      ·rename_i T s id n0 hax
       split at hr
       ·rename_i T' s' base bG tail n1 hh
        split at hr
        ·rename_i ys hys
         split at hr
         ·rename_i DB
          obtain⟨rfl,rfl,rfl,rfl,rfl,d3,d4,d5⟩:=DB;cases hr;have hlen:∀q∈ys,q.length=i.size:=fun q hq=>by simpa using List.all_eq_true.1 d3 q hq
          have hap:rowsOf base bG tail++ys=rowsOf base bG (tail++ys):=by unfold rowsOf;rw[List.append_assoc]
          intro m A w a H F;obtain⟨k1,k2⟩:=H.Dt hh;have e1:bJ Ev.dL (uQ n1 (xJ ys.length))=(((rowsOf base bG tail).length+ys.length:Nat):Int):=by rw[nC,qS,k1];simp
          have hb:=Ex d5 e1;refine sU ho he hi hz c1 c2 (by rw[hax];exact .cE hh rfl) (.aN hys hlen ?_) hb.1 hb.2 (kD c3) (B:=.sc T' i.size base bG (tail++ys) (uQ n1 (xJ ys.length))) (by simp only[bY.aN];rw[hap])
           (fun m A w v u H hv hu=>⟨⟨by rw[e1,←hap];simp,k2⟩,e1⟩) m A w a H F
          intro T s id j n' hx';rw[hx']at d4;simpa[FG]using d4
         ·cases hr
        ·cases hr
       ·cases hr
      ·cases hr
    ·cases hr
   ·cases hr
  ·cases hr
 ·cases hr
def fZ [Bk] (P:Program) (op:Op) (ρ:Operand→AV) (h:AH) (nx:Nat):Option AR :=
 match op with
 | .load t x=>match Am h (ρ x)with
  |some q=>match kQ P t q.2.2 q.2.1 with
   |some v=>some ⟨v,[],D6 (ρ x)⟩
   |none=>none
  |none=>none
 | .nilCheck x=>match Am h (ρ x)with
  |some _=>some ⟨ρ x,[],D6 (ρ x)⟩
  |none=>none
 | .fieldAddr t x k=>match lU P t k with
  |some (_,o',n)=>if n≠0 then match Am h (ρ x)with
    |some _=>some ⟨E7 o' (ρ x),[],D6 (ρ x)⟩
    |none=>none
   else none
  |none=>none
 | .indexAddr t x ix=>match P.underlying t with
  |some (.slice e)=>match toP (ρ ix)with
   |some p=>match lX h (ρ x)with
    |some n=>if adw p n=true then match ρ x with
      | .seq sz base bG tail=>if dO P e=some sz then some ⟨.tY sz base bG tail p 0,[],[]⟩else none
      | .cE T sz id n'=>if dO P e=some sz∧n'=n then some ⟨.mC sz id p 0,[],[id]⟩else none
      |_=>none
     else none
    |none=>none
   |none=>none
  |some (.array len e)=>match dO P e,ρ ix with
   |some s,.c (.int _ n)=>if 0≤n∧n.toNat<len then match Am h (ρ x)with
     |some _=>some ⟨E7 (n.toNat*s) (ρ x),[],D6 (ρ x)⟩
     |none=>none
    else none
   |_,_=>none
  |_=>none
 | .store t x y=>match gG (ρ y)with
  |some xs=>if dO P t=some xs.length then match vN h (ρ x) xs with
    |some q=>some ⟨.undef,[q],D6 (ρ x)⟩
    |none=>none
   else none
  |none=>none
 | .call { callee:=.builtin b,args,argTypes }=>match b with
  | .len=>match args.toList,argTypes.toList with
   |[x],[t]=>match P.underlying t with
    |some (.slice _)=>match lX h (ρ x)with
     |some n=>some ⟨AN n,[],D6 (ρ x)⟩
     |none=>none
    |_=>none
   |_,_=>none
  | .append=>match args.toList,argTypes.toList with
   |[x,y],[t,t']=>if t'=t then tU P t (ρ x) (ρ y) h nx else none
   |_,_=>none
  |_=>none
 |_=>none
theorem af8 [Bk] [Ev] {nx:Nat} {r:AR} (hr:fZ P o.op (dE f) h nx=some r):dX P o f h r:=by
 obtain⟨dst,op,ty,rk,pos,guard⟩:=o;cases op with
 |load t x =>
  simp only[fZ]at hr;split at hr
  ·rename_i q hx
   split at hr
   ·rename_i v hp;cases hr;exact aat rfl hx hp
   ·cases hr
  ·cases hr
 |nilCheck x =>
  simp only[fZ]at hr;split at hr
  ·rename_i q hx;cases hr;exact G6 rfl hx
  ·cases hr
 |fieldAddr t x k =>
  simp only[fZ]at hr;split at hr
  ·rename_i ty' o' n hf
   split at hr
   ·rename_i hn
    split at hr
    ·rename_i q hx;cases hr;exact FM rfl hx hf hn
    ·cases hr
   ·cases hr
  ·cases hr
 |indexAddr t x ix =>
  simp only[fZ]at hr;split at hr
  ·rename_i e hu
   split at hr
   ·rename_i p hp
    split at hr
    ·rename_i n hn
     split at hr
     ·rename_i hin
      split at hr
      ·rename_i sz base bG tail hx
       split at hr
       ·rename_i hs
        cases hr;rw[hx]at hn;exact CG rfl hx hp hu hs hn hin
       ·cases hr
      ·rename_i T sz id n' hx
       split at hr
       ·rename_i hs
        obtain⟨hs,rfl⟩:=hs;cases hr;rw[hx]at hn;exact Br rfl hx hp hu hs hn hin
       ·cases hr
      ·cases hr
     ·cases hr
    ·cases hr
   ·cases hr
  ·rename_i len e hu
   split at hr
   ·rename_i s k n hs hi
    split at hr
    ·rename_i hc
     split at hr
     ·rename_i q hx;cases hr;exact FL rfl hx hi hu hs hc.1 hc.2
     ·cases hr
    ·cases hr
   ·cases hr
  ·cases hr
 |store t x y =>
  simp only[fZ]at hr;split at hr
  ·rename_i xs hy
   split at hr
   ·rename_i ht
    split at hr
    ·rename_i q hq;cases hr;exact R6 rfl hy ht hq
    ·cases hr
   ·cases hr
  ·cases hr
 |call c =>
  obtain⟨callee,args,argTypes⟩:=c;cases callee with
  |builtin b =>
   cases b with
   |len =>
    simp only[fZ]at hr;split at hr
    ·rename_i x t ha ht
     rw[MJ ha,MJ ht];split at hr
     ·rename_i e hu
      split at hr
      ·rename_i n hn;cases hr;exact R8 rfl hu hn
      ·cases hr
     ·cases hr
    ·cases hr
   |append =>
    simp only[fZ]at hr;split at hr
    ·rename_i x y t t' ha ht
     rw[MI ha,MI ht];split at hr
     ·rename_i e
      subst e;exact S7 rfl hr
     ·cases hr
    ·cases hr
   |_=>simp[fZ]at hr
  |_=>simp[fZ]at hr
 |_=>simp[fZ]at hr
theorem aiq [Bk] {op:Op} {ρ ρ':Operand→AV} {h:AH} {nx:Nat} (ha:∀x∈op.operands.toList,ρ' x=ρ x):fZ P op ρ' h nx=fZ P op ρ h nx:=by
 cases op with
 |call c =>
  obtain⟨callee,args,argTypes⟩:=c;cases callee with
  |builtin b =>
   have e:∀x∈args.toList,ρ' x=ρ x:=fun x hx=>ha x (by simp[Op.operands,Call.operands];simpa using hx)
   cases b<;>simp only[fZ]
   all_goals (rcases hargs:args.toList with _|⟨x,_|⟨y,_|⟨z,r⟩⟩⟩<;>rw[hargs]at e<;>simp only[List.mem_cons,List.not_mem_nil,or_false,forall_eq_or_imp,forall_eq,implies_true,false_implies]at e<;>(try simp only[e])<;>(rcases argTypes.toList with _|⟨t1,_|⟨t2,_|⟨t3,q⟩⟩⟩<;>(try simp only[e])))
  |_=>simp[fZ]
 |store t x y =>
  have h1:=ha x (by simp[Op.operands]);have h2:=ha y (by simp[Op.operands])
  simp only[fZ,h1,h2]
 |indexAddr t x y =>
  have h1:=ha x (by simp[Op.operands]);have h2:=ha y (by simp[Op.operands])
  simp only[fZ,h1,h2]
 |load t x=>have h1:=ha x (by simp[Op.operands]);simp only[fZ,h1]
 |nilCheck x=>have h1:=ha x (by simp[Op.operands]);simp only[fZ,h1]
 |fieldAddr t x k=>have h1:=ha x (by simp[Op.operands]);simp only[fZ,h1]
 |_=>simp[fZ]
theorem Nj [Bk] {h h':AH} {x:AV} (e:∀id∈D6 x,h' id=h id):lX h' x=lX h x:=by
 cases x<;>simp only[lX]
 rename_i T sz id n;rw[e id (by simp[D6])]
theorem I7 [Bk] {h h':AH} {x:AV} (e:∀id∈D6 x,h' id=h id):Am h' x=Am h x:=by
 cases x<;>simp only[Am]
 rename_i sz id p off;rw[e id (by simp[D6])]
theorem abF [Bk] {h h':AH} {x:AV} {xs:List AV} (e:∀id∈D6 x,h' id=h id):vN h' x xs=vN h x xs:=by
 cases x<;>simp only[vN]
 rename_i sz id p off;rw[e id (by simp[D6])]
theorem X7 [Bk] {h:AH} {x:AV} {xs:List AV} {q:Nat×bY} (hq:vN h x xs=some q):q.1∈D6 x:=by
 unfold vN at hq;split at hq
 ·split at hq
  ·split at hq
   ·split at hq
    ·split at hq
     ·cases hq;simp[D6]
     ·cases hq
    ·cases hq
   ·cases hq
  ·cases hq
 ·cases hq
theorem ahT [Bk] {h h':AH} {e sz:Nat} {x:AV} {k:List (Nat×bY)} {rd:List Nat} (hx:L4 h e sz x=some (k,rd)) (hh:∀id∈rd,h' id=h id):L4 h' e sz x=some (k,rd):=by
 unfold L4 at hx ⊢;split at hx
 ·exact hx
 ·rename_i T s id
  split at hx
  ·rename_i h0
   split at hx
   ·rename_i hc
    cases hx;rw[hh id (by simp),h0]
    simp only
    rw[if_pos hc]
   ·cases hx
  ·cases hx
 ·cases hx
theorem afr [Bk] {h:AH} {e sz:Nat} {x:AV} {k:List (Nat×bY)} {rd:List Nat} (hx:L4 h e sz x=some (k,rd)):k.map (·.1)=rd:=by
 unfold L4 at hx;split at hx
 ·cases hx;rfl
 ·split at hx
  ·split at hx
   ·cases hx;rfl
   ·cases hx
  ·cases hx
 ·cases hx
theorem abh [Bk] [Ev] {t:TypeId} {x y:AV} {h h':AH} {nx:Nat} {r:AR} (hr:tU P t x y h nx=some r) (hag:∀id∈r.vF,h' id=h id):tU P t x y h' nx=some r:=by
 unfold tU at hr ⊢;split at hr
 ·rename_i e he
  split at hr
  ·rename_i i hi
   split at hr
   ·rename_i z hz
    split at hr
    ·rename_i hc
     split at hr
     ·rename_i sz base bG tail n hy
      split at hr
      ·rename_i k rd hx
       split at hr
       ·rename_i DB
        cases hr;have e0:jY h' nx=jY h nx:=pB (hag nx (by simp))
        have e1:=ahT hx (h':=h') fun id hid=>hag id (by simp[hid])
        have e2:lH h' y=lH h y:=Ec fun id hid=>hag id (by simp[hid])
        simp only[hi,hz,e0,e1,e2,hy];rw[if_pos hc,if_pos DB]
       ·cases hr
      ·split at hr
       ·rename_i T s id n0 _
        split at hr
        ·rename_i T' s' base' n1 hh
         split at hr
         ·rename_i q hq
          split at hr
          ·rename_i DB
           cases hr;have e0:jY h' nx=jY h nx:=pB (hag nx (by simp))
           have e1:h' id=h id:=hag id (by simp)
           have e2:lH h' y=lH h y:=Ec fun id hid=>hag id (by simp[hid])
           have e3:L4 h' e i.size (.cE T s id n0)=none:=rfl
           simp only[hi,hz,e0,e1,hh,e2,hy,e3,hq];rw[if_pos hc,if_pos DB]
          ·cases hr
         ·cases hr
        ·cases hr
       ·cases hr
     ·rename_i hy
      split at hr
      ·rename_i T s id n0
       split at hr
       ·rename_i T' s' base bG tail n1 hh
        split at hr
        ·rename_i ys hys
         split at hr
         ·rename_i DB
          cases hr;have e0:jY h' nx=jY h nx:=pB (hag nx (by simp))
          have e1:h' id=h id:=hag id (by simp)
          have e2:gN h' y=gN h y:=AD fun id hid=>hag id (by simp[hid])
          have e3:lH h' y=none:=by
           unfold gN at hys;split at hys<;>first|rfl|cases hys
          simp only[hi,hz,e0,e1,hh,e2,hys,e3];rw[if_pos hc,if_pos DB]
         ·cases hr
        ·cases hr
       ·cases hr
      ·cases hr
    ·cases hr
   ·cases hr
  ·cases hr
 ·cases hr
theorem aip [Bk] [Ev] {op:Op} {ρ:Operand→AV} {h h':AH} {nx:Nat} {r:AR} (hr:fZ P op ρ h nx=some r) (hag:∀id∈r.vF,h' id=h id):fZ P op ρ h' nx=some r:=by
 cases op with
 |load t x =>
  simp only[fZ]at hr ⊢;split at hr
  ·rename_i q hx
   split at hr
   ·rename_i v hp;cases hr;rw[I7 (x:=ρ x) hag,hx];simp only[hp]
   ·cases hr
  ·cases hr
 |nilCheck x =>
  simp only[fZ]at hr ⊢;split at hr
  ·rename_i q hx;cases hr;rw[I7 (x:=ρ x) hag,hx]
  ·cases hr
 |fieldAddr t x k =>
  simp only[fZ]at hr ⊢;split at hr
  ·rename_i ty' o' n hf
   split at hr
   ·rename_i hn
    split at hr
    ·rename_i q hx;cases hr;simp only[I7 (x:=ρ x) hag,hx];rw[if_pos hn]
    ·cases hr
   ·cases hr
  ·cases hr
 |indexAddr t x ix =>
  simp only[fZ]at hr ⊢;split at hr
  ·rename_i e hu
   split at hr
   ·rename_i p hp
    split at hr
    ·rename_i n hn
     split at hr
     ·rename_i hin
      split at hr
      ·rename_i sz base bG tail hx
       split at hr
       ·rename_i hs
        cases hr;rw[hx]at hn;have e1:lX h' (.seq sz base bG tail)=some n:=hn
        simp only[hx,e1];rw[if_pos hin,if_pos hs]
       ·cases hr
      ·rename_i T sz id n' hx
       split at hr
       ·rename_i hs
        cases hr;rw[hx]at hn;have e1:lX h' (.cE T sz id n')=some n:=by rw[Nj (h:=h)];exact hn;intro id' hid;exact hag id' (by simpa[D6]using hid)
        simp only[hx,e1];rw[if_pos hin,if_pos hs]
       ·cases hr
      ·cases hr
     ·cases hr
    ·cases hr
   ·cases hr
  ·rename_i len e hu
   split at hr
   ·rename_i s k n hs hi
    split at hr
    ·rename_i hc
     split at hr
     ·rename_i q hx
      cases hr;simp only[I7 (x:=ρ x) hag,hx];rw[if_pos hc]
     ·cases hr
    ·cases hr
   ·cases hr
  ·cases hr
 |store t x y =>
  simp only[fZ]at hr ⊢;split at hr
  ·rename_i xs hy
   split at hr
   ·rename_i ht
    split at hr
    ·rename_i q hq
     cases hr;simp only[abF (x:=ρ x) hag,hq];rw[if_pos ht]
    ·cases hr
   ·cases hr
  ·cases hr
 |call c =>
  obtain⟨callee,args,argTypes⟩:=c;cases callee with
  |builtin b =>
   cases b with
   |len =>
    simp only[fZ]at hr ⊢;split at hr
    ·rename_i x t ha ht
     split at hr
     ·rename_i e hu
      split at hr
      ·rename_i n hn
       cases hr;simp only[Nj (x:=ρ x) hag,hn]
      ·cases hr
     ·cases hr
    ·cases hr
   |append =>
    simp only[fZ]at hr ⊢;split at hr
    ·rename_i x y t t' ha ht
     split at hr
     ·rename_i e
      rw[if_pos e];exact abh hr hag
     ·cases hr
    ·cases hr
   |_=>simp[fZ]at hr
  |_=>simp[fZ]at hr
 |_=>simp[fZ]at hr
theorem aec [Bk] [Ev] {op:Op} {ρ:Operand→AV} {h:AH} {nx:Nat} {r:AR} (hr:fZ P op ρ h nx=some r):∀id∈r.bG.map (·.1),id∈r.vF:=by
 cases op with
 |store t x y =>
  simp only[fZ]at hr;split at hr
  ·split at hr
   ·split at hr
    ·rename_i q hq
     cases hr;intro id hid;simp only[List.map_cons,List.map_nil,List.mem_singleton]at hid;subst hid;exact X7 hq
    ·cases hr
   ·cases hr
  ·cases hr
 |call c =>
  obtain⟨callee,args,argTypes⟩:=c;cases callee with
  |builtin b =>
   cases b with
   |append =>
    simp only[fZ]at hr;split at hr
    ·split at hr
     ·unfold tU at hr
      repeat' split at hr
      all_goals (first|cases hr|skip)
      ·rename_i hx _
       have:=afr hx
       intro id hid;simp only[List.map_append,List.mem_append,this,List.map_cons,List.map_nil,List.mem_singleton]at hid;rcases hid with h|h
       ·simp[h]
       ·simp[h]
      all_goals (intro id hid;simp at hid ⊢;rcases hid with h|h<;>simp[h])
     ·cases hr
    ·cases hr
   |_ =>
    simp only[fZ]at hr;try (repeat' split at hr)
    all_goals (first|cases hr|skip)
    all_goals simp
  |_=>simp[fZ]at hr
 |_ =>
  simp only[fZ]at hr;try (repeat' split at hr)
  all_goals (first|cases hr|skip)
  all_goals simp
theorem IC [Bk] {op:Op} {ρ:Operand→AV} {h h':AH} {nx nx':Nat} {r:AR} (hr:fZ P op ρ h nx=some r):iH P op ρ h' nx'=none:=by
 have row:∀{x:AV} {q},Am h x=some q→(∃sz base bG tail p off,x=.tY sz base bG tail p off)∨∃sz id p off,x=.mC sz id p off:=by
  intro x q hx;unfold Am at hx;split at hx
  ·exact .inl ⟨_,_,_,_,_,_,rfl⟩
  ·exact .inr ⟨_,_,_,_,rfl⟩
  ·cases hx
 have sq:∀{x:AV} {n},lX h x=some n→(∃sz base bG tail,x=.seq sz base bG tail)∨∃T sz id n,x=.cE T sz id n:=by
  intro x q hx;unfold lX at hx;split at hx
  ·exact .inl ⟨_,_,_,_,rfl⟩
  ·exact .inr ⟨_,_,_,_,rfl⟩
  ·cases hx
 cases op with
 |load t x =>
  simp only[fZ]at hr;split at hr
  ·rename_i q hx
   rcases row hx with⟨sz,base,bG,tail,p,off,e⟩|⟨sz,id,p,off,e⟩<;>simp only[iH,e]
  ·cases hr
 |nilCheck x =>
  simp only[fZ]at hr;split at hr
  ·rename_i q hx
   rcases row hx with⟨sz,base,bG,tail,p,off,e⟩|⟨sz,id,p,off,e⟩<;>simp only[iH,e]
  ·cases hr
 |fieldAddr t x k =>
  simp only[fZ]at hr;split at hr
  ·rename_i ty' o' n hf
   split at hr
   ·rename_i hn
    split at hr
    ·rename_i q hx
     rcases row hx with⟨sz,base,bG,tail,p,off,e⟩|⟨sz,id,p,off,e⟩<;>simp only[iH,e,hf]<;>split<;>rfl
    ·cases hr
   ·cases hr
  ·cases hr
 |indexAddr t x ix =>
  simp only[fZ]at hr;split at hr
  ·rename_i e hu
   split at hr
   ·rename_i p hp
    split at hr
    ·rename_i n hn
     rcases sq hn with⟨sz,base,bG,tail,e⟩|⟨T,sz,id,n,e⟩<;>simp only[iH,e,hu]<;>split<;>rfl
    ·cases hr
   ·cases hr
  ·rename_i len e hu
   split at hr
   ·rename_i s k n hs hi
    split at hr
    ·rename_i hc
     split at hr
     ·rename_i q hx
      rcases row hx with⟨sz,base,bG,tail,p,off,e⟩|⟨sz,id,p,off,e⟩<;>simp only[iH,e,hu,hi,hs]<;>split<;>rfl
     ·cases hr
    ·cases hr
   ·cases hr
  ·cases hr
 |store t x y =>
  simp only[fZ]at hr;split at hr
  ·split at hr
   ·split at hr
    ·rename_i q hq
     unfold vN at hq;split at hq
     ·rename_i sz id p off hx
      simp only[iH,hx]
     ·cases hq
    ·cases hr
   ·cases hr
  ·cases hr
 |call c =>
  obtain⟨callee,args,argTypes⟩:=c;cases callee with
  |builtin b =>
   cases b with
   |len =>
    simp only[fZ]at hr;split at hr
    ·rename_i x t ha ht
     split at hr
     ·rename_i e hu
      split at hr
      ·rename_i n hn
       rcases sq hn with⟨sz,base,bG,tail,e⟩|⟨T,sz,id,n,e⟩<;>simp only[iH,ha,ht,e,hu,gN]
      ·cases hr
     ·cases hr
    ·cases hr
   |append =>
    simp only[fZ]at hr;split at hr
    ·rename_i x y t t' ha ht
     split at hr
     ·rename_i e
      subst e;have hx:gN h' (ρ y)=none∨∀e sz,tS h' e sz (ρ x)=none:=by
       unfold tU at hr;split at hr
       ·split at hr
        ·split at hr
         ·split at hr
          ·split at hr
           ·rename_i hy
            refine .inl ?_
            unfold lH at hy;split at hy
            ·rename_i e;rw[e];rfl
            ·rename_i e;rw[e];rfl
            ·cases hy
           ·split at hr
            ·rename_i e;exact .inr fun _ _=>by rw[e];rfl
            ·cases hr
          ·cases hr
         ·cases hr
        ·cases hr
       ·cases hr
      simp only[iH,ha,ht,if_true];unfold tV;split
      ·split
       ·split
        ·split
         ·rename_i h1 h2
          rcases hx with hx|hx
          ·rw[hx]at h2;cases h2
          ·rw[hx]at h1;cases h1
         ·rfl
        ·rfl
       ·rfl
      ·rfl
     ·cases hr
    ·cases hr
   |_=>simp[fZ]at hr
  |_=>simp[fZ]at hr
 |_=>simp[fZ]at hr
def zR [Bk] (P:Program) (op:Op) (ρ:Operand→AV) (h:AH) (nx:Nat):Option AR :=
 match iH P op ρ h nx with
 |some r=>some r
 |none=>fZ P op ρ h nx
theorem af6 [Bk] [Ev] {nx:Nat} {r:AR} (hr:zR P o.op (dE f) h nx=some r):dX P o f h r:=by
 unfold zR at hr;split at hr
 ·rename_i r' h1;cases hr;exact aim h1
 ·exact af8 hr
theorem aio [Bk] [Ev] {op:Op} {ρ ρ':Operand→AV} {h:AH} {nx:Nat} (ha:∀x∈op.operands.toList,ρ' x=ρ x):zR P op ρ' h nx=zR P op ρ h nx:=by
 unfold zR;rw[ajY ha,aiq ha]
theorem ain [Bk] [Ev] {op:Op} {ρ:Operand→AV} {h h':AH} {nx:Nat} {r:AR} (hr:zR P op ρ h nx=some r) (hag:∀id∈r.vF,h' id=h id):zR P op ρ h' nx=some r:=by
 unfold zR at hr ⊢;split at hr
 ·rename_i r' h1;cases hr;rw[ajX h1 hag]
 ·rw[IC (h':=h') (nx':=nx) hr];exact aip hr hag
theorem ad9 [Bk] [Ev] {op:Op} {ρ:Operand→AV} {h:AH} {nx:Nat} {r:AR} (hr:zR P op ρ h nx=some r):∀id∈r.bG.map (·.1),id∈r.vF:=by
 unfold zR at hr;split at hr
 ·rename_i r' h1;cases hr;exact af5 h1
 ·exact aec hr
end
end Mc
namespace Mc
section
variable {P:Program} {h:AH}
theorem bW.Oh [Bk] [Ev] {m:Nat→St} {A:Nat→Prop} {w:World} (H:bW m A h w) {id b:Nat} {st st':LS} {f:List AV} {ps:Array Tmp} {as bd:Code} {L L':Loop} (hh:h id=.lp st f ps as bd) (hb:m id=.at b) (hL:w.heap[b]?=some (.loop L)) (h1:L'.state=st'.st) (h2:L'.pending=st'.pe) (h3:L'.params=L.params) (h4:L'.assign=L.assign) (h5:L'.body=L.body) (h6:L'.tmps=L.tmps) :
  bW m A (cJ h id (.lp st' f ps as bd)) (w.putObj b (.loop L'))∧Ext m w m (w.putObj b (.loop L')):=by
 have hsame:(w.putObj b (.loop L')).heap[b]?=some (.loop L'):=World.putObj_heap_same (Array.getElem?_eq_some_iff.1 hL).1
 obtain⟨b',hb',L0,k1,k2,k3,k4,k5,k6,k7,k8⟩:=H.loops id st f ps as bd hh;rw[hb]at hb';cases hb';rw[hL]at k1;cases k1;exact H.aaq hh rfl rfl hb hL (by simp[dV,hsame,hL]) fun E=>⟨L',hsame,h1,h2,h3.trans k4,h4.trans k5,h5.trans k6,by rw[h6];exact k7,fun i x hx=>by rw[h6];exact(k8 i x hx).ext E⟩
theorem bW.adk [Bk] [Ev] {m:Nat→St} {A:Nat→Prop} {w:World} (H:bW m A h w) {id:Nat} {f:List AV} {L:Loop} (hid:h id=.no) (h1:L.state=.ready) (h2:L.pending=none) (h3:L.tmps.size=f.length) (h4:∀(i:Nat) (x:AV),f[i]?=some x→Rd m A w x (L.tmps.getD i Go.undef)) :
  bW (sset m id (.at w.heap.size)) A (cJ h id (.lp .ready f L.params L.assign L.body)) (w.alloc (.loop L))∧Ext m w (sset m id (.at w.heap.size)) (w.alloc (.loop L)) :=
 H.aar hid rfl fun E=>⟨L,World.alloc_heap_new w _,h1,h2,rfl,rfl,rfl,h3,fun i x hx=>(h4 i x hx).ext E⟩
theorem bW.aax [Bk] [Ev] {m:Nat→St} {A:Nat→Prop} {w:World} (H:bW m A h w) {id b:Nat} {st:LS} {f:List AV} {ps:Array Tmp} {as bd:Code} {L:Loop} (hh:h id=.lp st f ps as bd) (hb:m id=.at b) (hL:w.heap[b]?=some (.loop L)) (o:Obj) :
  bW (sset m id .dead) A (cJ h id .dead) (w.putObj b o)∧Ext m w (sset m id .dead) (w.putObj b o):=by
 have hsz:(w.putObj b o).heap.size=w.heap.size:=World.putObj_size
 have hot:∀k,k≠b→(w.putObj b o).heap[k]?=w.heap[k]?:=fun k e=>World.putObj_heap_other e
 have sat:∀k b',sset m id .dead k=.at b'→k≠id∧m k=.at b':=by
  intro k b' hk;unfold sset at hk;split at hk
  ·cases hk
  ·rename_i hne;exact⟨hne,hk⟩
 have nb:∀k b',k≠id→m k=.at b'→b'≠b:=by
  rintro k b' hne hk rfl
  exact hne (H.inj k id b' hk hb)
 have E:Ext m w (sset m id .dead) (w.putObj b o):=by
  refine⟨rfl,rfl,rfl,by rw[hsz];exact Nat.le_refl _,?_,?_,?_,?_,?_⟩
  ·intro k b' hk
   unfold sset;split
   ·exact .inr rfl
   ·exact .inl hk
  ·intro k hk
   unfold sset;split
   ·rfl
   ·exact hk
  ·intro k hk
   unfold sset;split
   ·exact .inr rfl
   ·exact .inl hk
  ·intro k hk hu
   exact⟨fun id' h1=>hu id' (sat id' k h1).2,hot k (by rintro rfl;exact hu id hb)⟩
  ·intro id' k h1 h2
   obtain⟨h3,h4⟩:=sat id' k h2;simp[dV,hot k (nb id' k h3 h4)]
 refine⟨⟨fun k b' hk=>H.out k b' (sat k b' hk).2,fun k hk=>by rw[hsz];exact H.El k hk,?_,?_,?_,fun i j b' hi hj=>H.inj i j b' (sat i b' hi).2 (sat j b' hj).2,H.kI.ext H.out E,H.kX E fun k B hk hB=>?_,mK.set H.PR trivial⟩,E⟩
 ·intro k hk
  unfold cJ at hk;unfold sset;split at hk
  ·cases hk
  ·rename_i hne;rw[if_neg hne];exact H.no k hk
 ·intro k hk
  unfold cJ at hk;unfold sset;split at hk
  ·rename_i he;rw[if_pos he]
  ·rename_i hne;rw[if_neg hne];exact H.dead k hk
 ·intro k T sz aN hk
  unfold cJ at hk;split at hk
  ·simp[bY.aN]at hk
  ·rename_i hne
   obtain⟨g1,g2⟩|⟨b',cs,g1,g2,g3,g4,g5⟩:=H.rL k T sz aN hk
   ·exact .inl ⟨by simp[sset,hne,g1],g2⟩
   ·exact .inr ⟨b',cs,by simp[sset,hne,g1],(hot b' (nb k b' hne g1)).trans g2,g3,g4,fun i j x hx=>⟨(g5 i j x hx).1,(g5 i j x hx).2.ext E⟩⟩
 ·unfold cJ at hk;split at hk
  ·subst hk;exact absurd hB (by simp[bY.other])
  ·rename_i hne
   exact⟨hk,fun b' hb'=>⟨by simp[sset,hne,hb'],hot b' (nb k b' hne hb')⟩⟩
def HN (f:List AV) (ps:Array Tmp) (args:List AV):List AV:=(ps.toList.zip args).foldl (fun f q=>f.set q.1 q.2) f
theorem Nw [Bk] [Ev] {m:Nat→St} {A:Nat→Prop} {w:World}:∀(ps:List Tmp) (args:List AV) (vs:List Value) (f:List AV) (ts:Array Value),ts.size=f.length→(∀(i:Nat) (x:AV),f[i]?=some x→Rd m A w x (ts.getD i Go.undef))→vs.length=args.length→(∀(i:Nat) (x:AV),args[i]?=some x→Rd m A w x (vs.getD i Go.undef)) →
  ((ps.zip vs).foldl (fun t q=>t.setIfInBounds q.1 q.2) ts).size=((ps.zip args).foldl (fun f q=>f.set q.1 q.2) f).length ∧
  ∀(i:Nat) (x:AV),((ps.zip args).foldl (fun f q=>f.set q.1 q.2) f)[i]?=some x→Rd m A w x (((ps.zip vs).foldl (fun t q=>t.setIfInBounds q.1 q.2) ts).getD i Go.undef)
 |[],_,_,f,ts,h1,h2,_,_=>⟨h1,h2⟩
 |p::ps,[],[],f,ts,h1,h2,_,_=>⟨h1,h2⟩
 |p::ps,[],v::vs,f,ts,_,_,h3,_=>by simp at h3
 |p::ps,x::xs,[],f,ts,_,_,h3,_=>by simp at h3
 |p::ps,x::xs,v::vs,f,ts,h1,h2,h3,h4=>by
  have hx:=h4 0 x rfl;simp only[List.zip_cons_cons,List.foldl_cons];refine Nw ps xs vs (f.set p x) (ts.setIfInBounds p v) (by simp[h1]) ?_ (by simpa using h3) (fun i y hy=>h4 (i+1) y (by simpa using hy))
  intro i y hy;rw[List.getElem?_set]at hy;split at hy
  ·rename_i e
   subst e;split at hy
   ·rename_i hl
    cases hy;have:p<ts.size:=by rw[h1];exact hl
    simp[this]
    simpa using hx
   ·cases hy
  ·rename_i e
   have:(ts.setIfInBounds p v).getD i Go.undef=ts.getD i Go.undef:=by
    simp[Array.getElem?_setIfInBounds_ne e]
   rw[this];exact h2 i y hy
theorem XM {ps:Array Tmp} {vs:Array Value} {ts:Array Value}:(ps.zip vs).foldl (fun t (p,v)=>t.setIfInBounds p v) ts=(ps.toList.zip vs.toList).foldl (fun t q=>t.setIfInBounds q.1 q.2) ts:=by
 rw[←Array.foldl_toList,Array.toList_zip]
def pX [Bk] [Ev] (P:Program) (id:Nat) (args:List AV) (h:AH) (R:AV→AH→Prop):Prop :=
 ∀r m A w u (vs:Array Value),bW m A h w→Rd m A w (.DW id) u→vs.size=args.length→(∀(i:Nat) (x:AV),args[i]?=some x→Rd m A w x (vs.getD i Go.undef)) →
  ∃b fn tmps as bd,u=.func (.yield b) #[] #[]∧(Instr.yield b vs).run P w=.ok (.round b fn tmps as bd) w ∧
   RoundIn (fw r) 8 P b fn tmps as bd w fun e w'=>∃v u m' h',e=.returned v∧R u h'∧bW m' A h' w'∧Rd m' A w' u v∧Ext m w m' w'
theorem pX.mono [Bk] [Ev] {id:Nat} {args:List AV} {R R':AV→AH→Prop} (k:pX P id args h R) (hr:∀v h,R v h→R' v h):pX P id args h R':=by
 intro r m A w u vs H hu hl hv;obtain⟨b,fn,tmps,as,bd,h1,h2,h3⟩:=k r m A w u vs H hu hl hv;exact⟨b,fn,tmps,as,bd,h1,h2,h3.mono fun e w' ⟨v,u,m',h',h1,h2,h3⟩=>⟨v,u,m',h',h1,hr _ _ h2,h3⟩⟩
theorem Rd.aik [Bk] [Ev] {m:Nat→St} {A:Nat→Prop} {w:World} {id b:Nat} {u:Value} (h:Rd m A w (.DW id) u) (g:m id=.at b):u=.func (.yield b) #[] #[]:=by
 cases h with
 |pure _ _ h=>cases h
 |DW _ b' hm=>rw[g]at hm;cases hm;rfl
 |MS _ _ hm=>rw[g]at hm;cases hm
def aiy (R:AV→AH→Prop) (id:Nat):Exit→List AV→AH→Prop
 | .normal,_,h=>∃f ps as bd,h id=.lp .busy f ps as bd∧R (.c (.bool true)) (cJ h id (.lp .ready f ps as bd))
 | .ret,_,h=>∃f ps as bd,h id=.lp .busy f ps as bd∧R (.c (.bool false)) (cJ h id (.lp (.done .ret) f ps as bd))
 | .exit i,_,h=>∃f ps as bd,h id=.lp .busy f ps as bd∧R (.c (.bool false)) (cJ h id (.lp (.done (.exit i)) f ps as bd))
 |_,_,_=>False
theorem pX.jJ [Bk] [Ev] {id:Nat} {args:List AV} {f:List AV} {ps:Array Tmp} {as bd:Code} {R:AV→AH→Prop} (hh:h id=.lp .ready f ps as bd) (hl:args.length=ps.size)
  (k:iW P false as (fun e f1 h1=>e=.normal∧∃f' ps' as' bd',h1 id=.lp .ready f' ps' as' bd'∧iW P false bd (aiy R id) f1 (cJ h1 id (.lp .busy f' ps' as' bd'))) (HN f ps args) h):pX P id args h R:=by
 intro r m A w u vs H hu hvl hv;obtain⟨b,hb,L,k1,k2,k3,k4,k5,k6,k7,k8⟩:=H.loops id _ f ps as bd hh;have hps:vs.size=L.params.size:=by rw[k4,hvl,hl]
 refine⟨b,L.fn,_,L.assign,L.body,hu.aik hb,run_yield k1 hps,?_⟩
 have hfin:RoundIn (fw r) 9 P b L.fn ((L.params.zip vs).foldl (fun t (p,v)=>t.setIfInBounds p v) L.tmps) L.assign L.body w fun e w'=>∃v u m' h',e=.returned v∧R u h'∧bW m' A h' w'∧Rd m' A w' u v∧Ext m w m' w':=by
  refine roundIn_of_wpIn trivial ?_
  rw[k4,k5,k6,XM];obtain⟨q1,q2⟩:=Nw (m:=m) (A:=A) (w:=w) ps.toList args vs.toList f L.tmps k7 k8 (by simpa using hvl) (fun i x hx=>by
   have:=hv i x hx
   simpa[List.getD,Array.getD_eq_getD_getElem?]using this)
  refine wpIn_mono (k (some b) m A w _ (fun e=>by cases e) H ⟨q1,q2,Marks.nil _ _⟩) ?_
  rintro e a1 w1 ⟨m1,f1,h1,⟨rfl,f',ps',as',bd',hh1,kb⟩,H1,F1,E1,N1⟩
  obtain⟨b1,hb1,L1,j1,j2,j3,j4,j5,j6,j7,j8⟩:=H1.loops id _ f' ps' as' bd' hh1;have eb:b1=b:=by
   rcases E1.at_ id b hb with h2|h2
   ·rw[h2]at hb1;cases hb1;rfl
   ·rw[h2]at hb1;cases hb1
  subst eb;show ∃w₂,_
  refine⟨_,run_beginRound j1 j2,?_⟩
  obtain⟨H2,E2⟩:=H1.Oh (st':=.busy) hh1 hb1 j1 (L':={ L1 with state:=.busy }) rfl j3 rfl rfl rfl rfl
  refine wpIn_mono (kb (some b1) m1 A _ a1 (fun e=>by cases e) H2 (F1.ext E2)) ?_
  have E12:=E1.trans E2;have go:∀(f:List AV) (ps:Array Tmp) (as bd:Code) (jump:Option Code) (st:LS) (w3:World) (m3:Nat→St) (h3:AH),st.st=(if jump.isNone then .ready else .done)→st.pe=jump→h3 id=.lp .busy f ps as bd→bW m3 A h3 w3→Ext m1 (w1.putObj b1 (.loop { L1 with state:=.busy })) m3 w3→R (.c (.bool jump.isNone)) (cJ h3 id (.lp st f ps as bd)) →
    ∃v w',(Instr.endRound b1 jump).run P w3=.ok v w'∧∃v_1 u m' h',Ending.returned v=.returned v_1∧R u h'∧bW m' A h' w'∧Rd m' A w' u v_1∧Ext m w m' w':=by
   intro f ps as bd jump st w3 m3 h3 e1 e2 hh3 H3 E3 hR;obtain⟨b3,hb3,L3,i1,i2,i3,i4,i5,i6,i7,i8⟩:=H3.loops id _ f ps as bd hh3;have eb:b3=b1:=by
    rcases E3.at_ id b1 hb1 with h2|h2
    ·rw[h2]at hb3;cases hb3;rfl
    ·rw[h2]at hb3;cases hb3
   subst eb;obtain⟨H4,E4⟩:=H3.Oh (st':=st) hh3 hb3 i1 (L':={ L3 with state:=if jump.isNone then .ready else .done,pending:=jump }) e1.symm e2.symm rfl rfl rfl rfl
   exact⟨_,_,run_endRound jump i1,_,_,m3,_,rfl,hR,H4,.pure _ _ (.c _),(E12.trans E3).trans E4⟩
  rintro e a3 w3 ⟨m3,f3,h3,q,H3,F3,E3,N3⟩
  cases e with
  |normal=>obtain⟨f,ps,as,bd,q1,q2⟩:=q;exact go f ps as bd none .ready w3 m3 h3 rfl rfl q1 H3 E3 q2
  |ret=>obtain⟨f,ps,as,bd,q1,q2⟩:=q;exact go f ps as bd (some .ret) (.done .ret) w3 m3 h3 rfl rfl q1 H3 E3 q2
  |exit i=>obtain⟨f,ps,as,bd,q1,q2⟩:=q;exact go f ps as bd (some (.exit i)) (.done (.exit i)) w3 m3 h3 rfl rfl q1 H3 E3 q2
  |_=>exact q.elim
 exact⟨trivial,fun c cs _=>hfin.2 c cs (fun d hd=>by cases hd)⟩
def mU (ρ:Operand→AV):Op→Option (Nat×List AV)
 | .call { callee:=.value g,args,.. }=>match ρ g with
  | .DW id=>some (id,args.toList.map ρ)
  |_=>none
 |_=>none
theorem mJ.ag0 [Bk] [Ev] {o:Oper} {f:List AV} {id:Nat} {args:List AV} {R:AV→AH→Prop} (hc:mU (dE f) o.op=some (id,args)) (hR:pX P id args h R):mJ P o f h R:=by
 intro r' m A w a H F K Q hK;unfold mU at hc;split at hc
 ·rename_i g cargs ctys ho
  split at hc
  ·rename_i id' hg
   simp only[Option.some.injEq,Prod.mk.injEq]at hc;obtain⟨rfl,rfl⟩:=hc;have h1:=F.eval g;rw[hg]at h1;obtain⟨b,fn,tmps,as,bd,e1,e2,e3⟩:=hR r' m A w _ (cargs.map a.eval) H h1 (by simp) (fun i x hx=>Bx F cargs i x hx)
   have hexec:(execOp a.eval o).run P w=.ok (.round b fn tmps as bd) w:=by
    simp only[execOp,ho,resolve,Sem.run_bind];simp only[e1,Deferred.ofValue];simp[invoke,e2]
   refine PU hexec (e3.mono ?_)
   rintro e w' ⟨v,u,m',h',rfl,hRu,H',hx,E⟩
   exact⟨v,rfl,hK u h' v w' m' hRu H' hx E⟩
  ·cases hc
 ·cases hc
def acQ (Q:Exit→List AV→AH→Prop) (f:List AV) (id:Nat) (h:AH):Prop :=
 match h id with
 | .lp .ready _ _ _ _=>Q .normal f (cJ h id .dead)
 | .lp (.done .ret) _ _ _ _=>Q .ret f (cJ h id .dead)
 | .lp (.done (.exit i)) _ _ _ _=>Q (.exit i) f (cJ h id .dead)
 |_=>False
theorem iW.rangeFunc [Bk] [Ev] {Q : Exit → List AV → AH → Prop} {f : List AV} {g : Operand} {ps : Array Tmp} {as bd : Code} {captured : List AV} {k : FuncId} {fn : Func} {c : Code} {id : Nat} (hg : dE f g = .fn (.func k) [] captured) (hk : P.funcs[k]? = some fn) (hb : fn.body = some c) (hn : (fn.name == "runtime.NumGoroutine") = false) (hid : h id = .no)
  (hc:eT P k (.DW id::captured) (cJ h id (.lp .ready f ps as bd)) (fun _ h'=>acQ Q f id h')):iW P true (.rangeFunc g ps as bd) Q f h:=by
 intro r m A w a hr H F;obtain rfl:=hr rfl
 have h1:=F.eval g;rw[hg]at h1;obtain⟨us,hv,hl2,r2⟩:∃us,a.eval g=.func (.func k) #[] us∧us.size=captured.length∧(∀(i:Nat) (x:AV),captured[i]?=some x→Rd m A w x (us.getD i Go.undef)):=by
  generalize a.eval g=u at h1
  cases h1 with
  |pure _ _ h=>cases h with|fn _ _ _ vs us hl hk' h g=>exact⟨us,by rw[Array.eq_empty_of_size_eq_zero hl],hk',fun i x hx=>.pure _ _ (g i x hx)⟩
  |fn _ _ _ vs us hl hk' h g=>exact⟨us,by rw[Array.eq_empty_of_size_eq_zero hl],hk',g⟩
 refine wpIn_rangeFunc ?_
 intro fn' _;have b1:Below w.heap.size w (w.alloc (.deferred (some []))):=(Below.refl _ _).alloc (Nat.le_refl _) _
 have H1:=H.below b1;have E1:=Ext.xP H b1;have F1:=F.ext E1;obtain⟨H2,E2⟩:=H1.adk (id:=id) (f:=f) (L:={ state:=.ready,pending:=none,fn:=fn',tmps:=a.tmps,params:=ps,assign:=as,body:=bd,defers:=w.heap.size }) hid rfl rfl F1.size F1.rd
 have hsz:(w.alloc (.deferred (some []))).heap.size=w.heap.size+1:=World.size_alloc _ _
 have E12:=E1.trans E2;rw[hsz]at H2 E2 E12;have hDW:((w.alloc (.deferred (some []))).alloc (.loop { state:=.ready,pending:=none,fn:=fn',tmps:=a.tmps,params:=ps,assign:=as,body:=bd,defers:=w.heap.size })).heap[w.heap.size]?=some (.deferred (some [])) :=
  (Below.heap_alloc _ _ _ (by simp)).trans (World.alloc_heap_new w _)
 have hrun:=run_enterLoop_outer (P:=P) (w:=w) fn' a.tmps ps as bd
 have hsz1:w.heap.size<((w.alloc (.deferred (some []))).alloc (.loop { state:=.ready,pending:=none,fn:=fn',tmps:=a.tmps,params:=ps,assign:=as,body:=bd,defers:=w.heap.size })).heap.size:=by simp;omega
 generalize (w.alloc (.deferred (some []))).alloc (.loop { state:=.ready,pending:=none,fn:=fn',tmps:=a.tmps,params:=ps,assign:=as,body:=bd,defers:=w.heap.size })=W1 at H2 E2 E12 hDW hrun hsz1
 have hres:(resolve a.eval (rangeCall g (w.heap.size+1)) 0).run P W1=.ok { target:=.fn (.func k) us,args:=#[.func (.yield (w.heap.size+1)) #[] #[]] } W1:=by
  simp only[resolve,hv];simp[go_sem]
 have hinv:(invoke (.fn (.func k) us) #[.func (.yield (w.heap.size+1)) #[] #[]]).run P W1=.ok (.enter k (#[.func (.yield (w.heap.size+1)) #[] #[]]++us)) W1:=by
  simp[invoke,rK hk hb hn]
 have hcall:=hc _ A _ (#[.func (.yield (w.heap.size+1)) #[] #[]]++us) H2 (by simp[hl2];omega) (by
  intro i x hx;cases i with
  |zero =>
   simp at hx
   subst hx;have:=Rd.DW (m:=sset m id (.at (w.heap.size+1))) (A:=A) (w:=W1) id (w.heap.size+1) (by simp[sset])
   have e:(#[Value.func (.yield (w.heap.size+1)) #[] #[]]++us).getD 0 Go.undef=Value.func (.yield (w.heap.size+1)) #[] #[]:=by simp[Array.getElem?_append]
   rw[e];exact this
  |succ i =>
   have:=(r2 i x (by simpa using hx)).ext E12
   have e:(#[Value.func (.yield (w.heap.size+1)) #[] #[]]++us).getD (i+1) Go.undef=us.getD i Go.undef:=by simp[Array.getElem?_append]
   rw[e];exact this)
 refine⟨w.heap.size+1,[mark w.heap.size],W1,_,W1,k,_,W1,hrun,hres,fun _ _=>trivial,hinv,fun h=>(by cases h),BG.2 (hcall.mono ?_)⟩
 ·rintro e w3 ⟨v,u,m',h',rfl,hq,H',hx,E'⟩
  have hat:sset m id (.at (w.heap.size+1)) id=.at (w.heap.size+1):=by simp[sset]
  have hDu:∀id',sset m id (.at (w.heap.size+1)) id'≠.at w.heap.size:=by
   intro id' hid';unfold sset at hid';split at hid'
   ·injection hid' with e;omega
   ·have:=H.lt hid';omega
  have qT:∀(st:LS) (f0:List AV) (ps0:Array Tmp) (as0 bd0:Code),h' id=.lp st f0 ps0 as0 bd0→st.st≠.busy→∃w4,(Instr.endLoop (w.heap.size+1)).run P w3=.ok st.pe w4∧∀e,Q e f (cJ h' id .dead)→PK Q m A w a e { a with defers:=[mark w.heap.size]++a.defers } w4:=by
   intro st f0 ps0 as0 bd0 hl hst;obtain⟨b,hb',L,i1,i2,i3,i4,i5,i6,i7,i8⟩:=H'.loops id _ _ _ _ _ hl;have eb:b=w.heap.size+1:=by
    rcases E'.at_ id _ hat with h2|h2
    ·rw[h2]at hb';cases hb';rfl
    ·rw[h2]at hb';cases hb'
   subst eb;obtain⟨H4,E4⟩:=bW.aax H' hl hb' i1 (.loop { L with state:=.exhausted })
   have E0:=(E12.trans E').trans E4
   refine⟨_,by rw[←i3];exact run_endLoop i1 (by rw[i2];exact hst),?_⟩
   intro e hQ;refine⟨_,f,_,hQ,H4,⟨F.size,fun i x hx=>(F.rd i x hx).ext E0,?_⟩,E0,?_⟩
   ·obtain⟨d1,d2⟩:=(E'.trans E4).un w.heap.size hsz1 hDu
    refine(F.defers.ext E0).push (d2.trans hDW) d1 ?_
    intro d hd he;obtain⟨Ds,g1,g2,g3⟩:=F.defers;rw[g1]at hd;obtain⟨D',hD',rfl⟩:=List.mem_map.1 hd;have hlt:D'<w.heap.size:=(Array.getElem?_eq_some_iff.1 (g3 D' hD').1).1
    simp only[mark,Deferred.mk.injEq,Target.collected.injEq]at he;omega
   ·intro d hd
    rcases List.mem_append.1 hd with h2|h2
    ·simp only[List.mem_singleton]at h2
     subst h2;exact .inr ⟨w.heap.size,rfl,Nat.le_refl _⟩
    ·exact .inl h2
  show ∃jump w₄,_
  unfold acQ at hq;split at hq
  ·rename_i f0 ps0 as0 bd0 hl
   obtain⟨w4,s1,s2⟩:=qT .ready f0 ps0 as0 bd0 hl (by simp[LS.st])
   exact⟨none,w4,s1,s2 _ hq⟩
  ·rename_i f0 ps0 as0 bd0 hl
   obtain⟨w4,s1,s2⟩:=qT (.done .ret) f0 ps0 as0 bd0 hl (by simp[LS.st])
   exact⟨some .ret,w4,s1,wpIn_ret (s2 _ hq)⟩
  ·rename_i i f0 ps0 as0 bd0 hl
   obtain⟨w4,s1,s2⟩:=qT (.done (.exit i)) f0 ps0 as0 bd0 hl (by simp[LS.st])
   exact⟨some (.exit i),w4,s1,wpIn_exit (s2 _ hq)⟩
  ·exact hq.elim
end
end Mc
namespace Mc
structure Rs (α:Type) where
 a:α
 h:AH
 n:Nat
 rd:List Nat
 wr:List Nat
abbrev M (α:Type):=AH→Nat→Option (Rs α)
def jT {α:Type}:M α:=fun _ _=>none
def mpure {α:Type} (a:α):M α:=fun h n=>some ⟨a,h,n,[],[]⟩
def jU {α β:Type} (x:M α) (k:α→M β):M β:=fun h n =>
 match x h n with
 |none=>none
 |some r=>match k r.a r.h r.n with
  |none=>none
  |some s=>some ⟨s.a,s.h,s.n,r.rd++s.rd,r.wr++s.wr⟩
structure Loc {α:Type} (x:M α) (h:AH) (n:Nat) (r:Rs α):Prop where
 le:n≤r.n
 frame:∀id,id ∉ r.wr→¬ (n≤id∧id<r.n)→r.h id=h id
 sub:∀id∈r.wr,id∈r.rd
 again:∀h2:AH,(∀id∈r.rd,h2 id=h id)→(∀id,n≤id→id<r.n→h2 id=h id)→∃r2,x h2 n=some r2∧r2.a=r.a∧r2.n=r.n∧r2.rd=r.rd∧r2.wr=r.wr ∧
  (∀id,(id∈r.wr∨(n≤id∧id<r.n))→r2.h id=r.h id)∧∀id,id ∉ r.wr→¬ (n≤id∧id<r.n)→r2.h id=h2 id
def Local {α:Type} (x:M α):Prop:=∀h n r,x h n=some r→Loc x h n r
theorem dU [Bk] [Ev] {α:Type}:Local (jT:M α):=fun h n r hr=>by cases hr
theorem eR [Bk] [Ev] {α:Type} (a:α):Local (mpure a):=fun h n r hr=>by
 cases hr;exact⟨Nat.le_refl _,fun _ _ _=>rfl,fun _ h=>h,fun h2 _ _=>⟨_,rfl,rfl,rfl,rfl,rfl,fun id hid=>by rcases hid with hid|hid;simp at hid;simp only at hid;omega,fun _ _ _=>rfl⟩⟩
theorem eG [Bk] [Ev] {α β:Type} {x:M α} {k:α→M β} (hx:Local x) (hk:∀a,Local (k a)):Local (jU x k):=by
 intro h n t ht;unfold jU at ht;cases h1:x h n with
 |none=>rw[h1]at ht;cases ht
 |some r =>
  rw[h1]at ht;simp only at ht
  cases h2:k r.a r.h r.n with
  |none=>rw[h2]at ht;cases ht
  |some s =>
   rw[h2]at ht;cases ht;have L1:=hx h n r h1;have L2:=hk r.a r.h r.n s h2;have l1:=L1.le;have l2:=L2.le;refine⟨Nat.le_trans L1.le L2.le,?_,?_,?_⟩
   ·intro id hid hr
    simp only[List.mem_append,not_or]at hid;rw[L2.frame id hid.2 (by simp only at hr;omega),L1.frame id hid.1 (by simp only at hr;omega)]
   ·intro id hid
    simp only[List.mem_append]at hid ⊢;exact hid.imp (L1.sub id) (L2.sub id)
   ·intro g hrd hrg
    simp only[List.mem_append]at hrd;simp only at hrg
    obtain⟨r2,e1,e2,e3,e4,e5,e6,e7⟩:=L1.again g (fun id hid=>hrd id (.inl hid)) (fun id a b=>hrg id a (by omega))
    have ag:∀id,(id∈s.rd∨(r.n≤id∧id<s.n))→r2.h id=r.h id:=by
     intro id hid;by_cases hw:id∈r.wr∨(n≤id∧id<r.n)
     ·exact e6 id hw
     ·simp only[not_or]at hw
      rw[e7 id hw.1 hw.2,L1.frame id hw.1 hw.2];rcases hid with hid|hid
      ·exact hrd id (.inr hid)
      ·exact hrg id (by omega) hid.2
    obtain⟨s2,d1,d2,d3,d4,d5,d6,d7⟩:=L2.again r2.h (fun id hid=>ag id (.inl hid)) (fun id a b=>ag id (.inr ⟨a,b⟩))
    refine⟨⟨s2.a,s2.h,s2.n,r2.rd++s2.rd,r2.wr++s2.wr⟩,?_,d2,d3,by rw[e4,d4],by rw[e5,d5],?_,?_⟩
    ·unfold jU
     rw[e1];simp only
     rw[e2,e3,d1]
    ·intro id hid
     simp only[List.mem_append]at hid;simp only at hid ⊢
     by_cases hw:id∈s.wr∨(r.n≤id∧id<s.n)
     ·exact d6 id hw
     ·simp only[not_or]at hw
      rw[d7 id hw.1 hw.2,L2.frame id hw.1 hw.2];refine e6 id ?_
      rcases hid with(hid|hid)|hid
      ·exact .inl hid
      ·exact absurd hid hw.1
      ·exact .inr ⟨hid.1,by omega⟩
    ·intro id hid hr
     simp only[List.mem_append,not_or]at hid;simp only at hr ⊢
     rw[d7 id hid.2 (by omega),e7 id hid.1 (by omega)]
section
variable {P:Program}
def Ho [Bk] (P:Program) (op:Op) (f:List AV):M AV:=fun h n =>
 match zR P op (dE f) h n with
 |none=>none
 |some r=>some ⟨r.v,eW h r.bG,if(r.bG.map (·.1)).contains n then n+1 else n,r.vF,r.bG.map (·.1)⟩
theorem aaB [Bk] [Ev] (op:Op) (f:List AV):Local (Ho P op f):=by
 intro h n t ht;unfold Ho at ht;cases h1:zR P op (dE f) h n with
 |none=>rw[h1]at ht;cases ht
 |some r =>
  rw[h1]at ht;simp only[Option.some.injEq]at ht;subst ht;have hrange:∀id,n≤id→id<(if(r.bG.map (·.1)).contains n then n+1 else n)→id∈r.bG.map (·.1):=by
   intro id a b;split at b
   ·rename_i hc
    have:id=n:=by omega
    subst this;simpa using hc
   ·omega
  refine⟨by simp only;split<;>omega,fun id hid _=>fY hid,ad9 h1,?_⟩
  intro g hrd _;have h2:=ain h1 hrd;refine⟨⟨r.v,eW g r.bG,_,r.vF,r.bG.map (·.1)⟩,by unfold Ho;rw[h2],rfl,rfl,rfl,rfl,?_,fun id hid _=>fY hid⟩
  intro id hid;rcases hid with hid|hid
  ·exact vH hid
  ·exact vH (hrange id hid.1 hid.2)
def uX [Bk] (P:Program) (call:Fn→List AV→M AV) (o:Oper) (f:List AV):M AV :=
 match jK P (dE f) o.op with
 |some (k,args)=>call (.func k) args
 |none=>match mU (dE f) o.op with
  |some (id,args)=>call (.yield id) args
  |none=>Ho P o.op f
def MG [Bk] (P:Program) (call:Fn→List AV→M AV) (ops:Array Oper):List Nat→List AV→M (List AV)
 |[],f=>mpure f
 |i::l,f=>match ops[i]? with
  |none=>jT
  |some o=>match kH ops o f with
   |some true=>jU (uX P call o f) fun v=>MG P call ops l (pE f o.dst v)
   |some false=>MG P call ops l (pE f o.dst .undef)
   |none=>jT
def Sf (x:M AV):M (AV×vC):=fun h n =>
 match x h n with
 |none=>none
 |some r=>some ⟨(r.a,⟨r.a,(r.wr++List.range' n (r.n-n)).map fun id=>(id,r.h id),r.rd,n,r.n,false⟩),r.h,r.n,r.rd,r.wr⟩
theorem aaA [Bk] [Ev] {x:M AV} (hx:Local x):Local (Sf x):=by
 intro h n t ht;unfold Sf at ht;cases h1:x h n with
 |none=>rw[h1]at ht;cases ht
 |some r =>
  rw[h1]at ht;simp only[Option.some.injEq]at ht;subst ht;have L:=hx h n r h1;refine⟨L.le,L.frame,L.sub,?_⟩
  intro g a b;obtain⟨r2,e1,e2,e3,e4,e5,e6,e7⟩:=L.again g a b;refine⟨⟨(r2.a,⟨r2.a,(r2.wr++List.range' n (r2.n-n)).map fun id=>(id,r2.h id),r2.rd,n,r2.n,false⟩),r2.h,r2.n,r2.rd,r2.wr⟩,by unfold Sf;rw[e1],?_,e3,e4,e5,e6,e7⟩
  simp only
  rw[e2,e3,e4,e5];congr 2
  refine List.map_congr_left fun id hid=>?_
  rw[e6 id];rw[List.mem_append,List.mem_range'_1]at hid;rcases hid with hid|hid
  ·exact .inl hid
  ·exact .inr ⟨hid.1,by have:=L.le;omega⟩
def wP [Bk] (P:Program) (call:Fn→List AV→M AV) (ops:Array Oper):List Nat→List AV→M (List AV×List vC)
 |[],f=>mpure (f,[])
 |i::l,f=>match ops[i]? with
  |none=>jT
  |some o=>match kH ops o f with
   |some true=>jU (Sf (uX P call o f)) fun v=>jU (wP P call ops l (pE f o.dst v.1)) fun q=>mpure (q.1,v.2::q.2)
   |some false=>jU (wP P call ops l (pE f o.dst .undef)) fun q=>mpure (q.1,⟨.undef,[],[],0,0,true⟩::q.2)
   |none=>jT
def Gy [Bk] (P:Program) (call:Fn→List AV→M AV) (ops:Array Oper) (f:List AV):M (List AV) :=
 if P.follows .mixedOrders then jU (wP P call ops (List.range ops.size) f) fun q=>if Io ops q.2 then mpure q.1 else jT else jT
def xR {α:Type} (x:M α):M α:=fun h n =>
 match x h n with
 |none=>none
 |some r=>some ⟨r.a,r.h,r.n,(r.rd.filter fun id=>!(decide (n≤id)&&decide (id<r.n))).eraseDups,(r.wr.filter fun id=>!(decide (n≤id)&&decide (id<r.n))).eraseDups⟩
theorem FT [Bk] [Ev] {α:Type} {x:M α} (hx:Local x):Local (xR x):=by
 intro h n t ht;unfold xR at ht;cases h1:x h n with
 |none=>rw[h1]at ht;cases ht
 |some r =>
  rw[h1]at ht;simp only[Option.some.injEq]at ht;subst ht;have L:=hx h n r h1;have hm:∀(l:List Nat) id,id∈(l.filter fun id=>!(decide (n≤id)&&decide (id<r.n))).eraseDups↔id∈l∧¬ (n≤id∧id<r.n):=by
   intro l id;rw[List.mem_eraseDups,List.mem_filter];constructor<;>rintro⟨a,b⟩<;>refine⟨a,?_⟩<;>simp at b ⊢<;>omega
  refine⟨L.le,?_,?_,?_⟩
  ·intro id hid hr
   simp only[hm]at hid;exact L.frame id (fun hw=>hid ⟨hw,hr⟩) hr
  ·intro id hid
   simp only[hm]at hid ⊢;exact⟨L.sub id hid.1,hid.2⟩
  ·intro g a b
   simp only[hm]at a;obtain⟨r2,e1,e2,e3,e4,e5,e6,e7⟩:=L.again g (fun id hid=>by
    by_cases hr:n≤id∧id<r.n
    ·exact b id hr.1 hr.2
    ·exact a id ⟨hid,hr⟩) b
   refine⟨⟨r2.a,r2.h,r2.n,(r2.rd.filter fun id=>!(decide (n≤id)&&decide (id<r2.n))).eraseDups,(r2.wr.filter fun id=>!(decide (n≤id)&&decide (id<r2.n))).eraseDups⟩,by unfold xR;rw[e1],e2,e3,?_,?_,?_,?_⟩
   ·simp only;rw[e4,e3]
   ·simp only;rw[e5,e3]
   ·intro id hid
    simp only[hm]at hid;exact e6 id (hid.imp And.left _root_.id)
   ·intro id hid hr
    simp only[hm]at hid;exact e7 id (fun hw=>hid ⟨hw,hr⟩) hr
inductive AX where
 |normal|exit (id:Nat)|ret
def AX.to:AX→Exit
 | .normal=>.normal
 | .exit id=>.exit id
 | .ret=>.ret
def atL {α:Type} (id:Nat) (g:bY→Option (α×bY)):M α:=fun h n =>
 match g (h id)with
 |none=>none
 |some (a,b)=>some ⟨a,cJ h id b,n,[id],[id]⟩
theorem By [Bk] [Ev] {α:Type} (id:Nat) (g:bY→Option (α×bY)):Local (atL id g):=by
 intro h n r hr;unfold atL at hr;cases hg:g (h id)with
 |none=>rw[hg]at hr;cases hr
 |some p =>
  obtain⟨a,b⟩:=p;rw[hg]at hr;cases hr;refine⟨Nat.le_refl _,fun k hk _=>fU _ _ (by simpa using hk),fun k hk=>hk,?_⟩
  intro g2 h1 _;have e:g2 id=h id:=h1 id (by simp)
  refine⟨⟨a,cJ g2 id b,n,[id],[id]⟩,by unfold atL;rw[e,hg],rfl,rfl,rfl,rfl,?_,fun k hk _=>fU _ _ (by simpa using hk)⟩
  intro k hk;rcases hk with hk|hk
  ·simp only[List.mem_singleton]at hk
   subst hk;simp[mR]
  ·simp only at hk;omega
def Sb (f:List AV) (ps:Array Tmp) (as bd:Code):M Nat:=fun h n =>
 match h n with
 | .no=>some ⟨n,cJ h n (.lp .ready f ps as bd),n+1,[n],[n]⟩
 |_=>none
theorem aaz [Bk] [Ev] (f:List AV) (ps:Array Tmp) (as bd:Code):Local (Sb f ps as bd):=by
 intro h n r hr;unfold Sb at hr;split at hr
 ·rename_i hn
  cases hr;refine⟨by simp,fun k hk _=>fU _ _ (by simpa using hk),fun k hk=>hk,?_⟩
  intro g2 h1 _;have e:g2 n=.no:=(h1 n (by simp)).trans hn
  refine⟨⟨n,cJ g2 n (.lp .ready f ps as bd),n+1,[n],[n]⟩,by unfold Sb;rw[e],rfl,rfl,rfl,rfl,?_,fun k hk _=>fU _ _ (by simpa using hk)⟩
  intro k hk;have:k=n:=by
   rcases hk with hk|hk
   ·simpa using hk
   ·simp only at hk;omega
  subst this;simp[mR]
 ·cases hr
def aaJ:bY→Option ((List AV×Array Tmp×Code×Code)×bY)
 | .lp .ready f ps as bd=>some ((f,ps,as,bd),.lp .ready f ps as bd)
 |_=>none
def Iz:bY→Option (Unit×bY)
 | .lp .ready f ps as bd=>some ((),.lp .busy f ps as bd)
 |_=>none
def Hu (x:AX):bY→Option (AV×bY)
 | .lp .busy f ps as bd=>match x with
  | .normal=>some (.c (.bool true),.lp .ready f ps as bd)
  | .ret=>some (.c (.bool false),.lp (.done .ret) f ps as bd)
  | .exit i=>some (.c (.bool false),.lp (.done (.exit i)) f ps as bd)
 |_=>none
def xN:bY→Option (AX×bY)
 | .lp .ready _ _ _ _=>some (.normal,.dead)
 | .lp (.done .ret) _ _ _ _=>some (.ret,.dead)
 | .lp (.done (.exit i)) _ _ _ _=>some (.exit i,.dead)
 |_=>none
def eI [Bk] (P:Program) (call:Fn→List AV→M AV) (tp:Bool):Nat→Code→List AV→M (AX×List AV)
 |0,_,_=>jT
 |n+1,.skip,f=>mpure (.normal,f)
 |n+1,.region _ ops draw,f=>jU (if draw then Gy P call ops f else MG P call ops (List.range ops.size) f) fun f'=>mpure (.normal,f')
 |n+1,.seq x y,f=>jU (eI P call tp n x f) fun q=>match q.1 with
  | .normal=>eI P call tp n y q.2
  |_=>mpure q
 |n+1,.cond c x y,f=>match dE f c with
  | .c (.bool b)=>eI P call tp n (if b then x else y) f
  |_=>jT
 |n+1,.block id c,f=>jU (eI P call tp n c f) fun q=>match q.1 with
  | .exit id'=>if id'=id then mpure (.normal,q.2)else mpure q
  |_=>mpure q
 |n+1,.loop c,f=>jU (eI P call tp n c f) fun q=>match q.1 with
  | .normal=>eI P call tp n (.loop c) q.2
  |_=>mpure q
 |n+1,.rangeFunc g ps as bd,f=>if tp then match dE f g with
   | .fn (.func k) [] captured=>jU (Sb f ps as bd) fun id=>jU (call (.func k) (.DW id::captured)) fun _=>jU (atL id xN) fun x=>mpure (x,f)
   |_=>jT
  else jT
 |n+1,.scope c,f=>eI P call tp n c f
 |n+1,.label _,f=>mpure (.normal,f)
 |n+1,.exit id,f=>mpure (.exit id,f)
 |n+1,.ret,f=>mpure (.ret,f)
 |n+1,_,_=>jT
def AG [Bk] (P:Program) (L:Nat) (call:Fn→List AV→M AV) (id:Nat) (args:List AV):M AV :=
 jU (atL id aaJ) fun q=>if args.length=q.2.1.size then
  jU (eI P call false L q.2.2.1 (HN q.1 q.2.1 args)) fun r=>match r.1 with
   | .normal=>jU (atL id Iz) fun _=>jU (eI P call false L q.2.2.2 r.2) fun s=>atL id (Hu s.1)
   |_=>jT
 else jT
def Rt:AV→List Nat
 | .ptr _ id _ _=>[id]
 |_=>[]
def Ld (f:List AV):ResultVar→List Nat
 | .tmp _=>[]
 | .cell t _=>Rt (f.getD t .undef)
def Fh (f:List AV) (l:List ResultVar):List Nat:=l.flatMap (Ld f)
def G1 (P:Program) (fn:Func) (f:List AV):M AV:=fun h n =>
 match eF P fn f h with
 |none=>none
 |some v=>some ⟨v,h,n,Fh f fn.results.toList,[]⟩
theorem Rl [Bk] [Ev] {fn:Func} {f:List AV} {h h':AH} (hag:∀id∈Fh f fn.results.toList,h' id=h id):eF P fn f h'=eF P fn f h:=by
 unfold eF;congr 1
 have:∀r∈fn.results.toList,zL P f h' r=zL P f h r:=by
  intro r hr;cases r with
  |tmp t=>rfl
  |cell t ty =>
   simp only[zL];cases hf:f.getD t .undef with
   |ptr sz id i off =>
    have:h' id=h id:=by
     refine hag id ?_
     unfold Fh;rw[List.mem_flatMap];refine⟨_,hr,?_⟩
     simp only[Ld,hf,Rt];simp
    simp only[Xv,this]
   |_=>rfl
 revert this
 generalize fn.results.toList=l;intro this;induction l with
 |nil=>rfl
 |cons r l ih =>
  rw[List.mapM_cons,List.mapM_cons,this r (by simp),ih (fun r hr=>this r (by simp[hr]))]
theorem aay [Bk] [Ev] (fn:Func) (f:List AV):Local (G1 P fn f):=by
 intro h n t ht;unfold G1 at ht;cases h1:eF P fn f h with
 |none=>rw[h1]at ht;cases ht
 |some v =>
  rw[h1]at ht;simp only[Option.some.injEq]at ht;subst ht;refine⟨Nat.le_refl _,fun _ _ _=>rfl,fun _ h=>by simp at h,fun g a b=>⟨⟨v,g,n,_,[]⟩,by unfold G1;rw[Rl a,h1],rfl,rfl,rfl,rfl,fun id hid=>by rcases hid with hid|hid;simp at hid;simp only at hid;omega,fun _ _ _=>rfl⟩⟩
structure mL [Bk] [Ev] (P:Program) (call:Fn→List AV→M AV):Prop where
 loc:∀k args,Local (call k args)
 ok : ∀ k args h n r, call (.func k) args h n = some r → ∃ fn c, P.funcs[k]? = some fn ∧ fn.body = some c ∧ (fn.name == "runtime.NumGoroutine") = false ∧ eT P k args h (fun v h' => v = r.a ∧ h' = r.h)
 yl:∀id args h n r,call (.yield id) args h n=some r→pX P id args h (fun v h'=>v=r.a∧h'=r.h)
variable {call:Fn→List AV→M AV}
theorem vY [Bk] [Ev] (hc:mL P call) (o:Oper) (f:List AV):Local (uX P call o f):=by
 unfold uX;split
 ·exact hc.loc _ _
 ·split
  ·exact hc.loc _ _
  ·exact aaB _ _
theorem CT [Bk] [Ev] (hc:mL P call) (ops:Array Oper):∀(l:List Nat) (f:List AV),Local (MG P call ops l f)
 |[],f=>eR f
 |i::l,f=>by
  simp only[MG];split
  ·exact dU
  ·split
   ·exact eG (vY hc _ _) fun v=>CT hc ops l _
   ·exact CT hc ops l _
   ·exact dU
theorem xS [Bk] [Ev] (hc:mL P call) (ops:Array Oper):∀(l:List Nat) (f:List AV),Local (wP P call ops l f)
 |[],f=>eR _
 |i::l,f=>by
  simp only[wP];split
  ·exact dU
  ·split
   ·exact eG (aaA (vY hc _ _)) fun v=>eG (xS hc ops l _) fun q=>eR _
   ·exact eG (xS hc ops l _) fun q=>eR _
   ·exact dU
theorem Sl [Bk] [Ev] (hc:mL P call) (ops:Array Oper) (f:List AV):Local (Gy P call ops f):=by
 unfold Gy;split
 ·refine eG (xS hc ops _ _) fun q=>?_
  split
  ·exact eR _
  ·exact dU
 ·exact dU
theorem jE [Bk] [Ev] (hc:mL P call) {tp:Bool}:∀(n:Nat) (c:Code) (f:List AV),Local (eI P call tp n c f)
 |0,c,f=>by simp only[eI];exact dU
 |n+1,c,f=>by
  cases c with
  |skip=>exact eR _
  |region id ops draw =>
   simp only[eI];refine eG ?_ fun _=>eR _
   split
   ·exact Sl hc _ _
   ·exact CT hc _ _ _
  |seq x y =>
   simp only[eI];refine eG (jE hc n x f) fun q=>?_
   split
   ·exact jE hc n y _
   ·exact eR _
  |cond c x y =>
   simp only[eI];split
   ·exact jE hc n _ _
   ·exact dU
  |block id c =>
   simp only[eI];refine eG (jE hc n c f) fun q=>?_
   split
   ·split<;>exact eR _
   ·exact eR _
  |loop c =>
   simp only[eI];refine eG (jE hc n c f) fun q=>?_
   split
   ·exact jE hc n _ _
   ·exact eR _
  |rangeFunc g ps as bd =>
   simp only[eI];split
   ·split
    ·exact eG (aaz _ _ _ _) fun id=>eG (hc.loc _ _) fun _=>eG (By _ _) fun x=>eR _
    ·exact dU
   ·exact dU
  |scope c=>simp only[eI];exact jE hc n c f
  |label l=>exact eR _
  |exit id=>exact eR _
  |ret=>exact eR _
  |_=>simp only[eI];exact dU
theorem Oi [Bk] [Ev] (hc:mL P call) (L id:Nat) (args:List AV):Local (AG P L call id args):=by
 unfold AG;refine eG (By _ _) fun q=>?_
 split
 ·refine eG (jE hc _ _ _) fun r=>?_
  split
  ·exact eG (By _ _) fun _=>eG (jE hc _ _ _) fun s=>By _ _
  ·exact dU
 ·exact dU
theorem gO [Bk] [Ev] {α β:Type} {x:M α} {k:α→M β} {h:AH} {n:Nat} {t:Rs β} (ht:jU x k h n=some t):∃r s,x h n=some r∧k r.a r.h r.n=some s∧t.a=s.a∧t.h=s.h∧t.n=s.n:=by
 unfold jU at ht;cases h1:x h n with
 |none=>rw[h1]at ht;cases ht
 |some r =>
  rw[h1]at ht;simp only at ht
  cases h2:k r.a r.h r.n with
  |none=>rw[h2]at ht;cases ht
  |some s =>
   rw[h2]at ht;cases ht;exact⟨r,s,rfl,h2,rfl,rfl,rfl⟩
theorem Pn [Bk] [Ev] (hc:mL P call) {o:Oper} {f:List AV} {h:AH} {n:Nat} {r:Rs AV} (hr:uX P call o f h n=some r):mJ P o f h (fun v h'=>v=r.a∧h'=r.h):=by
 unfold uX at hr;cases hk:jK P (dE f) o.op with
 |some p =>
  obtain⟨k,args⟩:=p;simp only[hk]at hr;obtain⟨fn,c,h1,h2,h3,h4⟩:=hc.ok k args h n r hr;exact mJ.call hk h1 h2 h3 h4
 |none =>
  simp only[hk]at hr;cases hy:mU (dE f) o.op with
  |some p =>
   obtain⟨id,args⟩:=p;simp only[hy]at hr;exact mJ.ag0 hy (hc.yl id args h n r hr)
  |none =>
   simp only[hy]at hr;unfold Ho at hr;cases h1:zR P o.op (dE f) h n with
   |none=>rw[h1]at hr;cases hr
   |some q =>
    rw[h1]at hr;simp only[Option.some.injEq]at hr;subst hr;exact(af6 h1).step
theorem MF [Bk] [Ev] (hc:mL P call) {ops:Array Oper} {Q:Exit→List AV→AH→Prop}:∀(l:List Nat) (f:List AV) (h:AH) (n:Nat) (r:Rs (List AV)),MG P call ops l f h n=some r→Q .normal r.a r.h→iT P ops Q l f h
 |[],f,h,n,r,hr,hq=>by cases hr;exact iT.nil hq
 |i::l,f,h,n,r,hr,hq=>by
  simp only[MG]at hr;cases ho:ops[i]? with
  |none=>simp only[ho]at hr;cases hr
  |some o =>
   simp only[ho]at hr;cases hg:kH ops o f with
   |none=>simp only[hg]at hr;cases hr
   |some b =>
    simp only[hg]at hr;cases b with
    |true =>
     simp only at hr
     obtain⟨r1,s,h1,h2,e1,e2,e3⟩:=gO hr;refine iT.cons ho hg (Pn hc h1) ?_
     rintro v h' ⟨rfl,rfl⟩
     exact MF hc l _ _ _ s h2 (by rw[←e1,←e2];exact hq)
    |false =>
     simp only at hr
     exact iT.pass ho hg (MF hc l _ _ _ r hr hq)
theorem aga [Bk] [Ev] {ops:Array Oper} {o:Oper} {f f':List AV} (ht:∀t∈tN ops o,f'[t]?=f[t]?):∀x∈o.op.operands.toList,dE f' x=dE f x:=by
 intro x hx;cases x with
 |tmp t =>
  have:t∈tN ops o:=by
   unfold tN tmpsOf;rw[List.mem_append,List.mem_filterMap];exact .inl ⟨_,hx,rfl⟩
  simp only[dE,List.getD,ht t this]
 |_=>rfl
theorem OC [Bk] [Ev] {ops:Array Oper} {o:Oper} {f f':List AV} (ht:∀t∈tN ops o,f'[t]?=f[t]?):kH ops o f'=kH ops o f:=by
 unfold kH;cases hg:o.guard with
 |none=>rfl
 |some p =>
  obtain⟨j,want⟩:=p;simp only
  cases hd:(ops[j]?).bind (·.dst)with
  |none=>rfl
  |some d =>
   have:d∈tN ops o:=by
    unfold tN OB;rw[List.mem_append,hg];simp[hd]
   simp only[ht d this]
theorem aa4 [Bk] [Ev] {op:Op} {f f':List AV} (ha:∀x∈op.operands.toList,dE f' x=dE f x):jK P (dE f') op=jK P (dE f) op:=by
 unfold jK;split
 ·rename_i g args tys
  have h1:dE f' g=dE f g:=ha g (by simp[Op.operands,Call.operands])
  have h2:args.toList.map (dE f')=args.toList.map (dE f):=List.map_congr_left fun x hx=>ha x (by simp[Op.operands,Call.operands];right;simpa using hx)
  rw[h1,h2]
 ·rename_i g name args tys
  have h1:dE f' g=dE f g:=ha g (by simp[Op.operands,Call.operands])
  have h2:args.toList.map (dE f')=args.toList.map (dE f):=List.map_congr_left fun x hx=>ha x (by simp[Op.operands,Call.operands];right;simpa using hx)
  rw[h1,h2]
 ·rfl
theorem abp [Bk] [Ev] {op:Op} {f f':List AV} (ha:∀x∈op.operands.toList,dE f' x=dE f x):mU (dE f') op=mU (dE f) op:=by
 unfold mU;split
 ·rename_i g args tys
  have h1:dE f' g=dE f g:=ha g (by simp[Op.operands,Call.operands])
  have h2:args.toList.map (dE f')=args.toList.map (dE f):=List.map_congr_left fun x hx=>ha x (by simp[Op.operands,Call.operands];right;simpa using hx)
  rw[h1,h2]
 ·rfl
theorem af4 [Bk] [Ev] {o:Oper} {f f':List AV} (ha:∀x∈o.op.operands.toList,dE f' x=dE f x):uX P call o f'=uX P call o f:=by
 unfold uX;rw[aa4 ha,abp ha];have:Ho P o.op f'=Ho P o.op f:=by funext h n;unfold Ho;rw[aio (ρ:=dE f) (ρ':=dE f') ha]
 rw[this]
theorem EL [Bk] [Ev] (g:AH):∀(l:List Nat) (h:AH) (id:Nat),eW h (l.map fun id=>(id,g id)) id=if id∈l then g id else h id
 |[],h,id=>by simp[eW]
 |i::l,h,id=>by
  simp only[List.map_cons,eW];rw[EL g l];by_cases h1:id∈l
  ·simp[h1]
  ·by_cases h2:id=i
   ·subst h2;simp[h1,cJ]
   ·simp[h1,h2,cJ]
theorem aaS [Bk] [Ev] (hc:mL P call) {ops:Array Oper} {o:Oper} {f:List AV} {h:AH} {n:Nat} {r:Rs AV} (hg:kH ops o f=some true) (hr:uX P call o f h n=some r) :
  PM P ops o ⟨r.a,(r.wr++List.range' n (r.n-n)).map fun id=>(id,r.h id),r.rd,n,r.n,false⟩ f h:=by
 intro f' h' hl ht hrd hrg;simp only[Bool.false_eq_true,if_false];refine⟨by rw[OC ht];exact hg,?_⟩
 have L:=vY hc o f h n r hr;obtain⟨r2,e1,e2,e3,e4,e5,e6,e7⟩:=L.again h' hrd hrg;rw[←af4 (f':=f') (aga ht)]at e1;refine(Pn hc e1).mono ?_
 rintro v h'' ⟨rfl,rfl⟩
 refine⟨e2,?_⟩
 funext id
 rw[EL r.h];have hm:id∈r.wr++List.range' n (r.n-n)↔(id∈r.wr∨(n≤id∧id<r.n)):=by
  rw[List.mem_append,List.mem_range'_1];have:=L.le;constructor
  ·rintro(h|h)
   ·exact .inl h
   ·exact .inr ⟨h.1,by omega⟩
  ·rintro(h|h)
   ·exact .inl h
   ·exact .inr ⟨h.1,by omega⟩
 by_cases hid:id∈r.wr∨(n≤id∧id<r.n)
 ·rw[if_pos (hm.2 hid)];exact e6 id hid
 ·rw[if_neg (fun h=>hid (hm.1 h))]
  simp only[not_or]at hid;exact e7 id hid.1 hid.2
theorem Dh [Bk] [Ev] (hc:mL P call) {ops:Array Oper}:∀(l:List Nat) (f:List AV) (h:AH) (n:Nat) (r:Rs (List AV×List vC)),wP P call ops l f h n=some r →
  r.a.2.length=l.length∧Dk P ops ((l.zip r.a.2).map fun p=>(ops.getD p.1 default,p.2)) (f,h)∧fin ((l.zip r.a.2).map fun p=>(ops.getD p.1 default,p.2)) (f,h)=(r.a.1,r.h)
 |[],f,h,n,r,hr=>by cases hr;exact⟨rfl,trivial,rfl⟩
 |i::l,f,h,n,r,hr=>by
  simp only[wP]at hr;cases ho:ops[i]? with
  |none=>simp only[ho]at hr;cases hr
  |some o =>
   simp only[ho]at hr;have hoi:ops.getD i default=o:=by simp[ho]
   cases hg:kH ops o f with
   |none=>simp only[hg]at hr;cases hr
   |some b =>
    simp only[hg]at hr;cases b with
    |true =>
     simp only at hr
     obtain⟨r1,s,h1,h2,e1,e2,e3⟩:=gO hr;obtain⟨r2,s2,h3,h4,d1,d2,d3⟩:=gO h2;cases h4;unfold Sf at h1;cases h5:uX P call o f h n with
     |none=>rw[h5]at h1;cases h1
     |some q =>
      rw[h5]at h1;simp only[Option.some.injEq]at h1;subst h1;obtain⟨k1,k2,k3⟩:=Dh hc l _ _ _ r2 h3;have hd:=aaS hc hg h5;have L:=vY hc o f h n q h5;have happ:app (o,⟨q.a,(q.wr++List.range' n (q.n-n)).map fun id=>(id,q.h id),q.rd,n,q.n,false⟩) (f,h)=(pE f o.dst q.a,q.h):=by
       simp only[app,Prod.mk.injEq,true_and];funext id
       rw[EL q.h];split
       ·rfl
       ·rename_i hid
        rw[List.mem_append,List.mem_range'_1,not_or]at hid;have:=L.le;exact(L.frame id hid.1 (by omega)).symm
      rw[e1,d1,e2,d2];refine⟨by simp[k1],?_,?_⟩
      ·simp only[List.zip_cons_cons,List.map_cons,Dk,hoi]
       exact⟨hd,by rw[happ];exact k2⟩
      ·simp only[List.zip_cons_cons,List.map_cons,hoi]
       show fin _ (app _ _)=_
       rw[happ];exact k3
    |false =>
     simp only at hr
     obtain⟨r1,s,h1,h2,e1,e2,e3⟩:=gO hr;cases h2;obtain⟨k1,k2,k3⟩:=Dh hc l _ _ _ r1 h1;rw[e1,e2];refine⟨by simp[k1],?_,?_⟩
     ·simp only[List.zip_cons_cons,List.map_cons,Dk,hoi]
      refine⟨?_,k2⟩
      intro f' h' hl ht hrd hrg;simp only[if_true];exact⟨by rw[OC ht];exact hg,trivial,trivial⟩
     ·simp only[List.zip_cons_cons,List.map_cons,hoi]
      exact k3
theorem aef [Bk] [Ev] (hc:mL P call) {tp:Bool} {id:Nat} {ops:Array Oper} {Q:Exit→List AV→AH→Prop} {f:List AV} {h:AH} {n:Nat} {r:Rs (List AV)} (hr:Gy P call ops f h n=some r) (hq:Q .normal r.a r.h):iW P tp (.region id ops true) Q f h:=by
 unfold Gy at hr;by_cases hm:P.follows .mixedOrders=true
 ·rw[if_pos hm]at hr
  obtain⟨r1,s,h1,h2,e1,e2,e3⟩:=gO hr;by_cases hb:Io ops r1.a.2=true
  ·rw[if_pos hb]at h2
   cases h2;obtain⟨k1,k2,k3⟩:=Dh hc _ _ _ _ r1 h1;rw[List.length_range]at k1;have hz:((List.range ops.size).zip r1.a.2).map (fun p=>(ops.getD p.1 default,p.2))=(List.range ops.size).map (gM ops r1.a.2):=by
    apply List.ext_getElem?
    intro j;rw[List.getElem?_map,List.getElem?_map];by_cases hj:j<ops.size
    ·have h1:(List.range ops.size)[j]?=some j:=by simp[hj]
     have h2:r1.a.2[j]?=some r1.a.2[j]:=by simp[List.getElem?_eq_getElem (show j<r1.a.2.length by omega)]
     rw[(List.getElem?_zip_eq_some (z:=(j,r1.a.2[j]))).2 ⟨h1,h2⟩,h1]
     simp[gM,List.getD,h2]
    ·have h1:(List.range ops.size)[j]?=none:=by simp;omega
     have h2:((List.range ops.size).zip r1.a.2)[j]?=none:=by
      rw[List.getElem?_eq_none];simp;omega
     rw[h1,h2];rfl
   rw[hz]at k2 k3;rw[e1,e2]at hq;exact iW.draw hm r1.a.2 k1 hb k2 k3 hq
  ·rw[if_neg hb]at h2;cases h2
 ·rw[if_neg hm]at hr;cases hr
theorem lM [Bk] [Ev] (hc:mL P call) {tp:Bool}:∀(k:Nat) (c:Code) (Q:Exit→List AV→AH→Prop) (f:List AV) (h:AH) (n:Nat) (r:Rs (AX×List AV)),eI P call tp k c f h n=some r→Q r.a.1.to r.a.2 r.h→iW P tp c Q f h
 |0,c,Q,f,h,n,r,hr,hq=>by simp only[eI]at hr;cases hr
 |k+1,c,Q,f,h,n,r,hr,hq=>by
  cases c with
  |skip=>cases hr;exact iW.skip hq
  |region id ops draw =>
   simp only[eI]at hr;obtain⟨r1,s,h1,h2,e1,e2,e3⟩:=gO hr;cases h2;rw[e1,e2]at hq;cases draw with
   |true =>
    simp only[if_true]at h1;exact aef hc h1 hq
   |false =>
    simp only[Bool.false_eq_true,if_false]at h1;exact iW.region (MF hc _ _ _ _ _ h1 hq)
  |seq x y =>
   simp only[eI]at hr;obtain⟨r1,s,h1,h2,e1,e2,e3⟩:=gO hr;refine iW.seq (lM hc k x _ f h n r1 h1 ?_)
   cases hx:r1.a.1 with
   |normal =>
    simp only[hx]at h2;exact lM hc k y Q _ _ _ s h2 (by rw[←e1,←e2];exact hq)
   |_ =>
    simp only[hx]at h2;cases h2;rw[e1,e2,hx]at hq;exact hq
  |cond c x y =>
   simp only[eI]at hr;cases hv:dE f c with
   |c v =>
    cases v with
    |bool b=>simp only[hv]at hr;exact iW.cond hv (lM hc k _ Q f h n r hr hq)
    |_=>simp only[hv]at hr;cases hr
   |_=>simp only[hv]at hr;cases hr
  |block id c =>
   simp only[eI]at hr;obtain⟨r1,s,h1,h2,e1,e2,e3⟩:=gO hr;refine iW.block (lM hc k c _ f h n r1 h1 ?_)
   cases hx:r1.a.1 with
   |exit id' =>
    simp only[hx]at h2;simp only[AX.to,F0];by_cases hid:id'=id
    ·rw[if_pos hid]at h2 ⊢
     cases h2;rw[e1,e2]at hq;exact hq
    ·rw[if_neg hid]at h2 ⊢
     cases h2;rw[e1,e2,hx]at hq;exact hq
   |_ =>
    simp only[hx]at h2;cases h2;rw[e1,e2,hx]at hq;exact hq
  |scope c =>
   simp only[eI]at hr;have hg:∀l,r.a.1.to≠.goto l:=by intro l;cases r.a.1<;>simp[AX.to]
   exact iW.scope (lM hc k c _ f h n r hr ⟨hg,hq⟩)
  |label l=>cases hr;exact iW.label hq
  |loop c =>
   have key:∀(k:Nat) (f:List AV) (h:AH) (n:Nat) (r:Rs (AX×List AV)),eI P call tp k (.loop c) f h n=some r→Q r.a.1.to r.a.2 r.h→(∀k' c' Q f h n r,k'<k→eI P call tp k' c' f h n=some r→Q r.a.1.to r.a.2 r.h→iW P tp c' Q f h)→iW P tp (.loop c) Q f h:=by
    intro k f h n r hr hq ih;refine iW.loop (fun m f h=>∃n r,eI P call tp m (.loop c) f h n=some r∧Q r.a.1.to r.a.2 r.h∧m≤k) k ⟨n,r,hr,hq,Nat.le_refl _⟩ ?_
    rintro m f1 h1 ⟨n1,r1,hr1,hq1,hm⟩
    cases m with
    |zero=>simp only[eI]at hr1;cases hr1
    |succ m =>
     simp only[eI]at hr1;obtain⟨r2,s,g1,g2,e1,e2,e3⟩:=gO hr1;refine ih m c _ f1 h1 n1 r2 (by omega) g1 ?_
     cases hx:r2.a.1 with
     |normal =>
      simp only[hx]at g2;exact⟨m,by omega,_,s,g2,by rw[←e1,←e2];exact hq1,by omega⟩
     |_ =>
      simp only[hx]at g2;cases g2;rw[e1,e2,hx]at hq1;exact hq1
   exact key (k+1) f h n r hr hq fun k' c' Q f h n r hk=>lM hc k' c' Q f h n r
  |rangeFunc g ps as bd =>
   simp only[eI]at hr;cases tp with
   |false=>simp only[Bool.false_eq_true,if_false]at hr;cases hr
   |true =>
    simp only[if_true]at hr;cases hv:dE f g with
    |fn F first captured =>
     cases F with
     |func kk =>
      cases first with
      |nil =>
       simp only[hv]at hr;obtain⟨r1,s1,g1,g2,e1,e2,e3⟩:=gO hr;obtain⟨r2,s2,g3,g4,d1,d2,d3⟩:=gO g2;obtain⟨r3,s3,g5,g6,c1,c2,c3⟩:=gO g4;cases g6;unfold Sb at g1;split at g1
       ·rename_i hn
        cases g1;obtain⟨fn,c,h1,h2,h3,h4⟩:=hc.ok _ _ _ _ r2 g3;refine iW.rangeFunc hv h1 h2 h3 hn (h4.mono ?_)
        rintro v h' ⟨rfl,rfl⟩
        unfold atL at g5;rw[e1,d1,c1,e2,d2,c2]at hq;unfold acQ;cases hb:r2.h n with
        |lp st f0 ps0 as0 bd0 =>
         rw[hb]at g5;cases st with
         |ready=>simp only[xN]at g5;cases g5;exact hq
         |busy=>simp only[xN]at g5;cases g5
         |done c0 =>
          cases c0 with
          |ret=>simp only[xN]at g5;cases g5;exact hq
          |exit i=>simp only[xN]at g5;cases g5;exact hq
          |_=>simp only[xN]at g5;cases g5
        |_=>rw[hb]at g5;simp only[xN]at g5;cases g5
       ·cases g1
      |cons _ _=>simp only[hv]at hr;cases hr
     |_=>simp only[hv]at hr;cases hr
    |_=>simp only[hv]at hr;cases hr
  |exit id=>cases hr;exact iW.exit hq
  |ret=>cases hr;exact iW.ret hq
  |_=>simp only[eI]at hr;cases hr
 termination_by k=>k
 decreasing_by all_goals omega
theorem SW {α:Type} {id:Nat} {g:bY→Option (α×bY)} {h:AH} {n:Nat} {r:Rs α} (hr:atL id g h n=some r):∃b,g (h id)=some (r.a,b)∧r.h=cJ h id b:=by
 unfold atL at hr;cases hg:g (h id)with
 |none=>rw[hg]at hr;cases hr
 |some p =>
  obtain⟨a,b⟩:=p;rw[hg]at hr;cases hr;exact⟨b,rfl,rfl⟩
theorem abf [Bk] [Ev] (hc:mL P call) {L id:Nat} {args:List AV} {h:AH} {n:Nat} {r:Rs AV} (hr:AG P L call id args h n=some r):pX P id args h (fun v h'=>v=r.a∧h'=r.h):=by
 unfold AG at hr;obtain⟨r1,s1,g1,g2,e1,e2,-⟩:=gO hr;obtain⟨b1,q1,q2⟩:=SW g1;cases hb:h id with
 |lp st f ps as bd =>
  rw[hb]at q1;cases st with
  |ready =>
   simp only[aaJ,Option.some.injEq,Prod.mk.injEq]at q1;obtain⟨q1,rfl⟩:=q1;have hsame:cJ h id (.lp .ready f ps as bd)=h:=by
    funext k
    by_cases e:k=id
    ·subst e;rw[mR,hb]
    ·rw[fU _ _ e]
   rw[hsame]at q2;rw[←q1]at g2;simp only at g2
   by_cases hl:args.length=ps.size
   ·rw[if_pos hl]at g2
    obtain⟨r2,s2,g3,g4,d1,d2,-⟩:=gO g2;rw[q2]at g3;refine pX.jJ hb hl (lM hc L as _ _ h _ r2 g3 ?_)
    cases hx:r2.a.1 with
    |normal =>
     simp only[hx]at g4;obtain⟨r3,s3,g5,g6,c1,c2,-⟩:=gO g4;obtain⟨b3,k1,k2⟩:=SW g5;obtain⟨r4,s4,g7,g8,i1,i2,-⟩:=gO g6;obtain⟨b4,k3,k4⟩:=SW g8;cases hb2:r2.h id with
     |lp st' f' ps' as' bd' =>
      rw[hb2]at k1;cases st' with
      |ready =>
       simp only[Iz,Option.some.injEq,Prod.mk.injEq]at k1;obtain⟨-,rfl⟩:=k1;rw[k2]at g7;refine⟨rfl,f',ps',as',bd',rfl,lM hc L bd _ _ _ _ r4 g7 ?_⟩
       cases hb3:r4.h id with
       |lp st3 f3 ps3 as3 bd3 =>
        rw[hb3]at k3;cases st3 with
        |busy =>
         have fin:s4.a=r.a∧s4.h=r.h:=⟨by rw[e1,d1,c1,i1],by rw[e2,d2,c2,i2]⟩
         cases hx4:r4.a.1<;>(rw[hx4]at k3;simp only[Hu,Option.some.injEq,Prod.mk.injEq]at k3;obtain⟨k3,rfl⟩:=k3;exact⟨f3,ps3,as3,bd3,hb3,k3.trans fin.1,k4.symm.trans fin.2⟩)
        |_=>simp[Hu]at k3
       |_=>rw[hb3]at k3;simp[Hu]at k3
      |_=>simp[Iz]at k1
     |_=>rw[hb2]at k1;simp[Iz]at k1
    |_=>simp only[hx]at g4;cases g4
   ·rw[if_neg hl]at g2;cases g2
  |_=>simp[aaJ]at q1
 |_=>rw[hb]at q1;simp[aaJ]at q1
end
end Mc
namespace Mc
section
variable {P:Program}
theorem bW.agq [Bk] [Ev] {h:AH} {m:Nat→St} {A:Nat→Prop} {w:World} (H:bW m A h w) {id:Nat} (hid:h id=.no) :
  bW (sset m id .dead) A (cJ h id .dead) w∧Ext m w (sset m id .dead) w:=by
 have hmid:=H.no id hid;have ne:∀{k:Nat} {s:St},m k=s→s≠.no→k≠id:=by rintro k s h1 h2 rfl;rw[hmid]at h1;exact h2 h1.symm
 have E:Ext m w (sset m id .dead) w:=by
  refine⟨rfl,rfl,rfl,Nat.le_refl _,?_,?_,?_,?_,fun _ _ _ _=>rfl⟩
  ·intro k b hb;exact .inl (by rw[sset,if_neg (ne hb (by simp))];exact hb)
  ·intro k hk
   unfold sset;split
   ·rfl
   ·exact hk
  ·intro k hk;exact .inl (by rw[sset,if_neg (ne hk (by simp))];exact hk)
  ·intro b hb hu
   refine⟨?_,rfl⟩
   intro k;unfold sset;split
   ·intro e;cases e
   ·exact hu k
 refine⟨⟨?_,H.El,?_,?_,?_,?_,H.kI.ext H.out E,H.kX E fun id' B hk hB=>?_,mK.set H.PR trivial⟩,E⟩
 ·intro k b hb
  unfold sset at hb;split at hb
  ·cases hb
  ·exact H.out k b hb
 ·intro k hk
  unfold cJ at hk;unfold sset;split at hk
  ·cases hk
  ·rename_i hne;rw[if_neg hne];exact H.no k hk
 ·intro k hk
  unfold cJ at hk;unfold sset;split at hk
  ·rename_i he;rw[if_pos he]
  ·rename_i hne;rw[if_neg hne];exact H.dead k hk
 ·intro k T' sz' els' hk
  unfold cJ at hk;split at hk
  ·simp[bY.aN]at hk
  ·rename_i hne
   obtain⟨g1,g2⟩|⟨b,cs,g1,g2,g3,g4,g5⟩:=H.rL k T' sz' els' hk
   ·exact .inl ⟨by simp[sset,hne,g1],g2⟩
   ·exact .inr ⟨b,cs,by simp[sset,hne,g1],g2,g3,g4,fun i j x hx=>⟨(g5 i j x hx).1,(g5 i j x hx).2.ext E⟩⟩
 ·intro i j b hi hj
  unfold sset at hi hj;split at hi
  ·cases hi
  ·split at hj
   ·cases hj
   ·exact H.inj i j b hi hj
 ·unfold cJ at hk;split at hk
  ·subst hk;exact absurd hB (by simp[bY.other])
  ·rename_i hne
   exact⟨hk,fun b hb=>⟨by simp[sset,hne,hb],rfl⟩⟩
theorem EX [Bk] [Ev] {o:Oper} {f:List AV} {h:AH} {t e ty:TypeId} {x:Operand} {aN:List (List AV)} (ho:o.op=.binOp .eql t x (.const (.slice none 0 0)) ty) (ht:P.underlying t=some (.slice e)) (he:gN h (dE f x)=some aN) :
  mJ P o f h (fun v h'=>h'=h∧(v=.c (.bool true)∧aN=[]∨v=.c (.bool false))):=by
 intro r' m A w a H F K Q hK;have h1:=F.eval x;have hv:∃ad cap,a.eval x=.slice ad aN.length cap∧(ad=none→aN=[]):=by
  generalize dE f x=y at h1 he
  generalize a.eval x=v at h1
  cases y with
  |emp =>
   simp only[gN,Option.some.injEq]at he;subst he
   cases h1 with|pure _ _ hr=>cases hr with|emp a=>exact⟨a,0,rfl,fun _=>rfl⟩
  |lit s els' =>
   simp only[gN,Option.some.injEq]at he;subst he
   obtain⟨rfl,a,cap,rfl⟩|⟨b,off,cap,vs,rfl,-⟩:=h1.nE
   ·exact⟨a,cap,rfl,fun _=>rfl⟩
   ·exact⟨_,cap,rfl,fun h=>by cases h⟩
  |own T s id i n =>
   simp only[gN]at he;split at he
   ·rename_i T' sz' els0 hh
    split at he
    ·rename_i hc
     obtain⟨rfl,rfl,hle⟩:=hc;cases he;have hlen:((els0.drop i).take n).length=n:=by simp;omega
     rw[hlen];rcases H.cells id _ _ _ hh with⟨hv,rfl⟩|⟨b,cs,g1,g2,g3,g4,g5⟩
     ·cases h1 with
      |pure _ _ h=>cases h
      |own _ _ _ _ _ b _ hm=>rw[hv]at hm;cases hm
      |sA _ _ _ _ a hm=>exact⟨a,0,rfl,fun _=>by simp⟩
      |uD _ _ _ _ _ _ _ _ hm=>rw[hv]at hm;cases hm
     ·obtain⟨cap,rfl,-⟩:=h1.pF g1
      exact⟨_,cap,rfl,fun h=>by cases h⟩
    ·cases he
   ·cases he
  |_=>simp[gN]at he
 obtain⟨ad,cap,hv,hnil⟩:=hv;have hexec:(execOp a.eval o).run P w=.ok (.value (.bool ad.isNone)) w:=by
  have:(Op.equal t (.slice ad aN.length cap) (.slice none 0 0)).run P w=.ok ad.isNone w:=run_equal_slice_nil w t e ad aN.length cap ht
  have hc:a.eval (.const (.slice none 0 0))=.slice none 0 0:=rfl
  simp[execOp,ho,hv,hc,eqGuard,binOp,this]
 refine Cg hexec ?_
 cases ad with
 |none=>exact hK (.c (.bool true)) h (.bool true) w m ⟨rfl,.inl ⟨rfl,hnil rfl⟩⟩ H (.pure _ _ (.c _)) (Ext.refl _ _)
 |some ad=>exact hK (.c (.bool false)) h (.bool false) w m ⟨rfl,.inr rfl⟩ H (.pure _ _ (.c _)) (Ext.refl _ _)
theorem xO [Bk] [Ev] {o:Oper} {f:List AV} {h:AH} {t e:TypeId} {i:TypeInfo} {nx:Nat} (ho:o.op=.buildSlice t 0 #[]) (ht:P.underlying t=some (.slice e)) (hi:P.info? e=some i) (hnx:h nx=.no) :
  dX P o f h ⟨.own e i.size nx 0 0,[(nx,.cells e i.size [])],[nx]⟩:=by
 intro m A w a H F;obtain⟨q1,q2,q3⟩:=LJ H (T:=e) (sz:=i.size) (n:=0) (cap:=0) (aN:=[]) (cs:=#[]) hnx rfl (Nat.le_refl _) (Nat.zero_le _) (by simp) (by simp) (by intro i j x hx;simp[fW]at hx)
 refine⟨_,_,_,.inl ?_,by simpa[eW]using q1,q3,q2⟩
 simp[execOp,ho,Instr.buildSlice,run_underlying ht,sizeOf,typeInfo,hi,Instr.fill,newRow]
 rw[show(Array.map (fun _:Nat=>(default:Value)) (Array.range 0))=#[]from by apply Array.ext';simp]
structure Tj (fn:Func) (t:TypeId):Prop where
 body:∃(i0 i1 i2 i3:Nat) (o0 o1 o2 o3 o4 o5 o6 o7:Oper),fn.body=some (.seq (.region i0 #[o0] false) (.seq (.seq (.region i1 #[o1,o2] false) (.cond (.tmp 4) (.seq (.region i2 #[o3] false) .ret) .skip)) (.seq (.region i3 #[o4,o5,o6,o7] false) .ret))) ∧
  o0.dst=some 2∧o0.op=.assign (.const (.slice none 0 0))∧o1.dst=some 3∧o1.op=.move (.tmp 0)∧o2.dst=some 4∧(∃ty,o2.op=.binOp .eql t (.tmp 3) (.const (.slice none 0 0)) ty) ∧
  o3.dst=some 2∧o3.op=.assign (.const (.slice none 0 0))∧o4.dst=some 5∧o4.op=.buildSlice t 0 #[]∧o5.dst=some 6∧o5.op=.move (.tmp 0)∧o6.dst=some 7∧o6.op=.call { callee:=.builtin .append,args:=#[.tmp 5,.tmp 6],argTypes:=#[t,t] }∧o7.dst=some 2∧o7.op=.assign (.tmp 7) ∧
  o0.guard=none∧o1.guard=none∧o2.guard=none∧o3.guard=none∧o4.guard=none∧o5.guard=none∧o6.guard=none∧o7.guard=none
 tmps:fn.ntmps=8
 res:fn.results=#[.tmp 2]
 name : (fn.name == "runtime.NumGoroutine") = false
theorem eS [Bk] [Ev] {ops:Array Oper} {o:Oper} {f:List AV} (h:o.guard=none):kH ops o f=some true:=by unfold kH;rw[h]
theorem adX [Bk] [Ev] {k:FuncId} {fn:Func} {t e:TypeId} {i:TypeInfo} {z:Value} {x:AV} {h:AH} {aN:List (List AV)} {nx:Nat} (hk:P.funcs[k]?=some fn) (hf:Tj fn t) (ht:P.underlying t=some (.slice e)) (hi:P.info? e=some i) (hz:i.zero=some z) (hzs:z.cells.size=i.size) (hs0:0<i.size)
  (hx:gN h x=some aN) (hes:∀q∈aN,q.length=i.size) (hyo:∀T s id j n,x=.own T s id j n→s=i.size) (hb:aN.length*i.bytes≤140737488355328) (hm:aN.length≤1099511627776) (hnx:h nx=.no) (hnx1:h (nx+1)=.no) (hid:nx ∉ pC x) :
  eT P k [x] h (fun v h'=>v=.own e i.size (nx+1) 0 aN.length∧h'=eW h [(nx,.dead),(nx+1,.cells e i.size aN)]):=by
 obtain⟨i0,i1,i2,i3,o0,o1,o2,o3,o4,o5,o6,o7,hbody,d0,p0,d1,p1,d2,⟨ty,p2⟩,d3,p3,d4,p4,d5,p5,d6,p6,d7,p7,g0,g1,g2,g3,g4,g5,g6,g7⟩:=hf.body
 have hres:∀(f:List AV) (h:AH),eF P fn f h=some (f.getD 2 .undef):=by
  intro f h;simp[eF,hf.res,zL,AU]
 have key:eT P k [x] h (fun v h'=>(v=.emp∧h'=h∧aN=[])∨(v=.own e i.size (nx+1) 0 aN.length∧h'=eW h [(nx,.dead),(nx+1,.cells e i.size aN)])):=by
  refine eT.jJ hk hbody ?_
  rw[hf.tmps];show iW P _ _ _ [x,.undef,.undef,.undef,.undef,.undef,.undef,.undef] _
  refine iW.seq (iW.region ?_)
  refine iT.cons (o:=o0) rfl (eS g0) (nT p0).step ?_
  rintro v h' ⟨rfl,rfl⟩
  refine iT.nil ?_
  rw[d0];show iW P _ _ _ [x,.undef,.emp,.undef,.undef,.undef,.undef,.undef] _
  refine iW.seq (iW.seq (iW.region ?_))
  refine iT.cons (o:=o1) rfl (eS g1) (Bp p1).step ?_
  rintro v h' ⟨hv1,rfl⟩
  rw[d1,show v=x from hv1]
  show iT P _ _ [1] [x,.undef,.emp,x,.undef,.undef,.undef,.undef] _
  refine iT.cons (o:=o2) rfl (eS g2) (EX p2 ht hx) ?_
  rintro v h' ⟨rfl,⟨rfl,hnil⟩|rfl⟩
  ·rw[d2]
   refine iT.nil ?_
   show iW P _ _ _ [x,.undef,.emp,x,.c (.bool true),.undef,.undef,.undef] _
   refine iW.cond (b:=true) rfl ?_
   refine iW.seq (iW.region ?_)
   refine iT.cons (o:=o3) rfl (eS g3) (nT p3).step ?_
   rintro v h'' ⟨rfl,rfl⟩
   rw[d3];refine iT.nil ?_
   show iW P _ _ _ [x,.undef,.emp,x,.c (.bool true),.undef,.undef,.undef] _
   refine iW.ret ?_
   exact⟨.emp,by rw[hres];rfl,.inl ⟨rfl,rfl,hnil⟩⟩
  ·rw[d2]
   refine iT.nil ?_
   show iW P _ _ _ [x,.undef,.emp,x,.c (.bool false),.undef,.undef,.undef] _
   refine iW.cond (b:=false) rfl ?_
   refine iW.skip ?_
   show iW P _ _ _ _ _
   refine iW.seq (iW.region ?_)
   refine iT.cons (o:=o4) rfl (eS g4) (xO p4 ht hi hnx).step ?_
   rintro v h'' ⟨rfl,rfl⟩
   rw[d4];show iT P _ _ [1,2,3] [x,.undef,.emp,x,.c (.bool false),.own e i.size nx 0 0,.undef,.undef] _
   refine iT.cons (o:=o5) rfl (eS g5) (Bp p5).step ?_
   rintro v h'' ⟨hv5,rfl⟩
   rw[d5,show v=x from hv5]
   show iT P _ _ [2,3] [x,.undef,.emp,x,.c (.bool false),.own e i.size nx 0 0,x,.undef] _
   have hx':gN (eW h' [(nx,.cells e i.size [])]) x=some aN:=by
    rw[AD (x:=x) (h:=h')]
    ·exact hx
    ·intro id hid'
     simp only[eW];exact fU _ _ (by rintro rfl;exact hid hid')
   have hap:=H8 (P:=P) (o:=o6) (f:=[x,.undef,.emp,x,.c (.bool false),.own e i.size nx 0 0,x,.undef]) (h:=eW h' [(nx,.cells e i.size [])]) (aN:=[]) (ys:=aN) (k:=[(nx,.dead)]) (rd:=[nx]) (nx:=nx+1) p6 ht hi hz hzs hs0
    (by simp[dE,tS,eW,cJ]) hx' hes hyo (by simpa using hb) (by simpa using hm) (by simp only[eW,List.append_nil];rw[fU _ _ (by omega)];exact hnx1)
   refine iT.cons (o:=o6) rfl (eS g6) hap.step ?_
   rintro v h'' ⟨rfl,rfl⟩
   rw[d6];refine iT.cons (o:=o7) rfl (eS g7) (nT p7).step ?_
   rintro v h'' ⟨rfl,rfl⟩
   rw[d7];refine iT.nil ?_
   refine iW.ret ?_
   refine⟨_,hres _ _,.inr ⟨?_,?_⟩⟩
   ·simp[pE,dE]
   ·simp only[List.nil_append,eW,List.cons_append,List.append_nil]
    funext id
    by_cases h1:id=nx+1
    ·simp[cJ,h1]
    ·by_cases h2:id=nx
     ·simp[cJ,h2]
     ·simp[cJ,h1,h2]
 intro m A w vs H hl hv;refine(key m A w vs H hl hv).mono ?_
 rintro ed w' ⟨v,u,m',h',rfl,hR,H',hr,E⟩
 rcases hR with⟨rfl,rfl,rfl⟩|⟨rfl,rfl⟩
 ·obtain⟨H1,E1⟩:=H'.agq hnx
  obtain⟨H2,E2⟩:=H1.Tk (id:=nx+1) (by rw[fU _ _ (by omega)];exact hnx1) e i.size
  obtain⟨a0,rfl⟩:∃a0,v=.slice a0 0 0:=by
   cases hr with|pure _ _ hr=>cases hr with|emp a0=>exact⟨a0,rfl⟩
  exact⟨_,_,_,_,rfl,⟨rfl,rfl⟩,H2,.sA e i.size (nx+1) 0 a0 (by simp[sset]),(E.trans E1).trans E2⟩
 ·exact⟨v,_,m',_,rfl,⟨rfl,rfl⟩,H',hr,E⟩
theorem Cq [Bk] [Ev] {o:Oper} {f:List AV} {h:AH} {t e ty:TypeId} {x:Operand} {sz:Nat} {aN:List (List AV)} (ho:o.op=.binOp .eql t x (.const (.slice none 0 0)) ty) (ht:P.underlying t=some (.slice e)) (he:Cb h (dE f x) sz aN) :
  mJ P o f h (fun v h'=>h'=h∧(v=.c (.bool true)∧aN=[]∨v=.c (.bool false))):=by
 intro r' m A w a H F K Q hK;obtain⟨-,ad,cap,hv,-,hnil,-⟩:=he m A w _ H (F.eval x)
 have hexec:(execOp a.eval o).run P w=.ok (.value (.bool ad.isNone)) w:=by
  have:(Op.equal t (.slice ad aN.length cap) (.slice none 0 0)).run P w=.ok ad.isNone w:=run_equal_slice_nil w t e ad aN.length cap ht
  have hc:a.eval (.const (.slice none 0 0))=.slice none 0 0:=rfl
  simp[execOp,ho,hv,hc,eqGuard,binOp,this]
 refine Cg hexec ?_
 cases ad with
 |none=>exact hK (.c (.bool true)) h (.bool true) w m ⟨rfl,.inl ⟨rfl,hnil rfl⟩⟩ H (.pure _ _ (.c _)) (Ext.refl _ _)
 |some ad=>exact hK (.c (.bool false)) h (.bool false) w m ⟨rfl,.inr rfl⟩ H (.pure _ _ (.c _)) (Ext.refl _ _)
theorem SK [Bk] [Ev] {k:FuncId} {fn:Func} {t e:TypeId} {i:TypeInfo} {z:Value} {x:AV} {h:AH} {base:Nat} {bG:List (Poly×List AV)} {tail:List (List AV)} {n:Poly} {nx:Nat} (hk:P.funcs[k]?=some fn) (hf:Tj fn t) (ht:P.underlying t=some (.slice e)) (hi:P.info? e=some i) (hz:i.zero=some z) (hzs:z.cells.size=i.size) (hs0:0<i.size)
  (hx:lH h x=some (i.size,base,bG,tail,n)) (hfit:OL n i.bytes=true) (hnx:h nx=.no) (hnx1:h (nx+1)=.no) (hid:nx ∉ D6 x) :
  eT P k [x] h (fun v h'=>v=.cE e i.size (nx+1) n∧h'=eW h [(nx,.dead),(nx+1,.sc e i.size base bG tail n)]):=by
 obtain⟨i0,i1,i2,i3,o0,o1,o2,o3,o4,o5,o6,o7,hbody,d0,p0,d1,p1,d2,⟨ty,p2⟩,d3,p3,d4,p4,d5,p5,d6,p6,d7,p7,g0,g1,g2,g3,g4,g5,g6,g7⟩:=hf.body
 have hres:∀(f:List AV) (h:AH),eF P fn f h=some (f.getD 2 .undef):=by
  intro f h;simp[eF,hf.res,zL,AU]
 intro m A w vs H hl hv;have hS0:(∀q∈bG,XL base q.1)∧bJ Ev.dL n=((rowsOf base bG tail).length:Int):=EP hx H (hv 0 x rfl)
 have key:eT P k [x] h (fun v h'=>(v=.emp∧h'=h∧rowsOf base bG tail=[])∨(v=.cE e i.size (nx+1) n∧h'=eW h [(nx,.dead),(nx+1,.sc e i.size base bG tail n)])):=by
  refine eT.jJ hk hbody ?_
  rw[hf.tmps];show iW P _ _ _ [x,.undef,.undef,.undef,.undef,.undef,.undef,.undef] _
  refine iW.seq (iW.region ?_)
  refine iT.cons (o:=o0) rfl (eS g0) (nT p0).step ?_
  rintro v h' ⟨rfl,rfl⟩
  refine iT.nil ?_
  rw[d0];show iW P _ _ _ [x,.undef,.emp,.undef,.undef,.undef,.undef,.undef] _
  refine iW.seq (iW.seq (iW.region ?_))
  refine iT.cons (o:=o1) rfl (eS g1) (Bp p1).step ?_
  rintro v h' ⟨hv1,rfl⟩
  rw[d1,show v=x from hv1]
  show iT P _ _ [1] [x,.undef,.emp,x,.undef,.undef,.undef,.undef] _
  refine iT.cons (o:=o2) rfl (eS g2) (Cq p2 ht (yJ hx)) ?_
  rintro v h' ⟨rfl,⟨rfl,hnil⟩|rfl⟩
  ·rw[d2]
   refine iT.nil ?_
   show iW P _ _ _ [x,.undef,.emp,x,.c (.bool true),.undef,.undef,.undef] _
   refine iW.cond (b:=true) rfl ?_
   refine iW.seq (iW.region ?_)
   refine iT.cons (o:=o3) rfl (eS g3) (nT p3).step ?_
   rintro v h'' ⟨rfl,rfl⟩
   rw[d3];refine iT.nil ?_
   show iW P _ _ _ [x,.undef,.emp,x,.c (.bool true),.undef,.undef,.undef] _
   refine iW.ret ?_
   exact⟨.emp,by rw[hres];rfl,.inl ⟨rfl,rfl,hnil⟩⟩
  ·rw[d2]
   refine iT.nil ?_
   show iW P _ _ _ [x,.undef,.emp,x,.c (.bool false),.undef,.undef,.undef] _
   refine iW.cond (b:=false) rfl ?_
   refine iW.skip ?_
   show iW P _ _ _ _ _
   refine iW.seq (iW.region ?_)
   refine iT.cons (o:=o4) rfl (eS g4) (xO p4 ht hi hnx).step ?_
   rintro v h'' ⟨rfl,rfl⟩
   rw[d4];show iT P _ _ [1,2,3] [x,.undef,.emp,x,.c (.bool false),.own e i.size nx 0 0,.undef,.undef] _
   refine iT.cons (o:=o5) rfl (eS g5) (Bp p5).step ?_
   rintro v h'' ⟨hv5,rfl⟩
   rw[d5,show v=x from hv5]
   show iT P _ _ [2,3] [x,.undef,.emp,x,.c (.bool false),.own e i.size nx 0 0,x,.undef] _
   have hx':lH (eW h' [(nx,.cells e i.size [])]) x=some (i.size,base,bG,tail,n):=by
    rw[Ec (x:=x) (h:=h')]
    ·exact hx
    ·intro id hid'
     simp only[eW];exact fU _ _ (by rintro rfl;exact hid hid')
   have hb:=Ex hfit hS0.2;have hap:=sU (P:=P) (o:=o6) (f:=[x,.undef,.emp,x,.c (.bool false),.own e i.size nx 0 0,x,.undef]) (h:=eW h' [(nx,.cells e i.size [])]) (aN:=[]) (ys:=rowsOf base bG tail) (k:=[(nx,.dead)]) (vF:=[]) (nx:=nx+1) (B:=.sc e i.size base bG tail n) (n:=n) p6 ht hi hz hzs hs0
    (wT.own (by simp[eW,cJ]) rfl) (yJ hx') (by simpa using hb.1) (by simpa using hb.2) (by simp only[eW];rw[fU _ _ (by omega)];exact hnx1) rfl (fun _ _ _ _ _ _ _ _=>⟨⟨hS0.2,hS0.1⟩,by simpa using hS0.2⟩)
   refine iT.cons (o:=o6) rfl (eS g6) hap.step ?_
   rintro v h'' ⟨rfl,rfl⟩
   rw[d6];refine iT.cons (o:=o7) rfl (eS g7) (nT p7).step ?_
   rintro v h'' ⟨rfl,rfl⟩
   rw[d7];refine iT.nil ?_
   refine iW.ret ?_
   refine⟨_,hres _ _,.inr ⟨?_,?_⟩⟩
   ·simp[pE,dE]
   ·simp only[List.nil_append,eW,List.cons_append,List.append_nil]
    funext id
    by_cases h1:id=nx+1
    ·simp[cJ,h1]
    ·by_cases h2:id=nx
     ·simp[cJ,h2]
     ·simp[cJ,h1,h2]
 refine(key m A w vs H hl hv).mono ?_
 rintro ed w' ⟨v,u,m',h',rfl,hR,H',hr,E⟩
 rcases hR with⟨rfl,rfl,h0⟩|⟨rfl,rfl⟩
 ·obtain⟨H1,E1⟩:=H'.agq hnx
  obtain⟨H2,E2⟩:=H1.EK (id:=nx+1) (by rw[fU _ _ (by omega)];exact hnx1) (B:=.sc e i.size base bG tail n) (T:=e) (sz:=i.size) (by simp only[bY.aN];rw[h0]) ⟨hS0.2,hS0.1⟩
  obtain⟨a0,rfl⟩:∃a0,v=.slice a0 0 0:=by
   cases hr with|pure _ _ hr=>cases hr with|emp a0=>exact⟨a0,rfl⟩
  exact⟨_,_,_,_,rfl,⟨rfl,rfl⟩,H2,.sG e i.size (nx+1) n a0 (by simp[sset]) (by rw[hS0.2,h0];rfl),(E.trans E1).trans E2⟩
 ·exact⟨v,_,m',_,rfl,⟨rfl,rfl⟩,H',hr,E⟩
def pP (fn:Func):Option TypeId :=
 if fn.ntmps=8 then match fn.results.toList with
  | [.tmp 2] => if fn.name == "runtime.NumGoroutine" then none else match fn.body with
   |some (.seq (.region _ q0 false) (.seq (.seq (.region _ q1 false) (.cond (.tmp 4) (.seq (.region _ q2 false) .ret) .skip)) (.seq (.region _ q3 false) .ret))) =>
    match q0.toList,q1.toList,q2.toList,q3.toList with
    |[⟨some 2,.assign (.const (.slice none 0 0)),_,_,_,none⟩],[⟨some 3,.move (.tmp 0),_,_,_,none⟩,⟨some 4,.binOp .eql t (.tmp 3) (.const (.slice none 0 0)) _,_,_,_,none⟩],[⟨some 2,.assign (.const (.slice none 0 0)),_,_,_,none⟩],
     [⟨some 5,.buildSlice t1 0 ps,_,_,_,none⟩,⟨some 6,.move (.tmp 0),_,_,_,none⟩,⟨some 7,.call ⟨.builtin .append,as,ts⟩,_,_,_,none⟩,⟨some 2,.assign (.tmp 7),_,_,_,none⟩] =>
     match ps.toList,as.toList,ts.toList with
     |[],[.tmp 5,.tmp 6],[t2,t3]=>if t1=t∧t2=t∧t3=t then some t else none
     |_,_,_=>none
    |_,_,_,_=>none
   |_=>none
  |_=>none
 else none
theorem akj [Bk] [Ev] {α:Type} {l:Array α} (h:l.toList=[]):l=#[]:=by cases l;simp_all
theorem akh [Bk] [Ev] {α:Type} {l:Array α} {x y z u:α} (h:l.toList=[x,y,z,u]):l=#[x,y,z,u]:=by cases l;simp_all
theorem Sq [Bk] [Ev] {fn:Func} {t:TypeId} (h:pP fn=some t):Tj fn t:=by
 unfold pP at h;split at h
 ·rename_i hn
  split at h
  ·rename_i hr
   split at h
   ·cases h
   ·rename_i hname
    split at h
    ·rename_i i0 q0 i1 q1 i2 q2 i3 q3 hb
     split at h
     ·rename_i e0 e1 e2 e3
      split at h
      ·rename_i e4 e5 e6
       split at h
       ·rename_i hc
        obtain⟨rfl,rfl,rfl⟩:=hc;cases h;have:=MJ e0;have:=MI e1;have:=MJ e2;have:=akh e3;have:=akj e4;have:=MI e5;have:=MI e6
        subst_vars
        exact⟨⟨i0,i1,i2,i3,_,_,_,_,_,_,_,_,hb,rfl,rfl,rfl,rfl,rfl,⟨_,rfl⟩,rfl,rfl,rfl,rfl,rfl,rfl,rfl,rfl,rfl,rfl,rfl,rfl,rfl,rfl,rfl,rfl,rfl,rfl⟩,hn,MJ hr,by simpa using hname⟩
       ·cases h
      ·cases h
     ·cases h
    ·cases h
  ·cases h
 ·cases h
def wI (P:Program) (t:TypeId) (x:AV):M AV:=fun h n =>
 match P.underlying t with
 |some (.slice e)=>match P.info? e with
  |some i=>match i.zero,gN h x with
   |some z,some aN=>if z.cells.size=i.size∧0<i.size∧(aN.all fun q=>q.length==i.size)=true∧FG x i.size=true∧aN.length*i.bytes≤140737488355328∧aN.length≤1099511627776∧jY h n=true∧jY h (n+1)=true∧(pC x).contains n=false then
     some ⟨.own e i.size (n+1) 0 aN.length,eW h [(n,.dead),(n+1,.cells e i.size aN)],n+2,n::(n+1)::pC x,[n,n+1]⟩else none
   |_,_=>none
  |none=>none
 |_=>none
theorem Oj [Bk] [Ev] (t:TypeId) (x:AV):Local (wI P t x):=by
 intro h n r hr;have hr0:=hr;unfold wI at hr;split at hr
 ·rename_i e he
  split at hr
  ·rename_i i hi
   split at hr
   ·rename_i z aN hz hx
    split at hr
    ·rename_i hc
     cases hr;refine⟨by simp,fun id hid _=>fY (by simpa using hid),fun id hid=>by simp at hid ⊢;rcases hid with h|h<;>simp[h],?_⟩
     intro g hrd hrg;have e1:gN g x=gN h x:=AD fun id hid=>hrd id (by simp[hid])
     have e2:jY g n=jY h n:=pB (hrd n (by simp))
     have e3:jY g (n+1)=jY h (n+1):=pB (hrd (n+1) (by simp))
     refine⟨⟨.own e i.size (n+1) 0 aN.length,eW g [(n,.dead),(n+1,.cells e i.size aN)],n+2,n::(n+1)::pC x,[n,n+1]⟩,?_,rfl,rfl,rfl,rfl,?_,fun id hid _=>fY (by simpa using hid)⟩
     ·unfold wI
      simp only[he,hi,hz,e1,hx,e2,e3];rw[if_pos hc]
     ·intro id hid
      refine vH ?_
      rcases hid with hid|hid
      ·simpa using hid
      ·simp only at hid;simp;omega
    ·cases hr
   ·cases hr
  ·cases hr
 ·cases hr
def wH [Bk] (P:Program) (t:TypeId) (x:AV):M AV:=fun h n =>
 match P.underlying t with
 |some (.slice e)=>match P.info? e with
  |some i=>match i.zero,lH h x with
   |some z,some (sz,base,bG,tail,N)=>if z.cells.size=i.size∧0<i.size∧sz=i.size∧OL N i.bytes=true∧jY h n=true∧jY h (n+1)=true∧(D6 x).contains n=false then
     some ⟨.cE e i.size (n+1) N,eW h [(n,.dead),(n+1,.sc e i.size base bG tail N)],n+2,n::(n+1)::D6 x,[n,n+1]⟩else none
   |_,_=>none
  |none=>none
 |_=>none
def rC [Bk] (P:Program) (t:TypeId) (x:AV):M AV:=fun h n =>
 match wI P t x h n with
 |some r=>some r
 |none=>wH P t x h n
theorem DG [Bk] {t:TypeId} {x:AV} {h h':AH} {n n':Nat} {r:Rs AV} (hr:wH P t x h n=some r):wI P t x h' n'=none:=by
 have:gN h' x=none:=by
  unfold wH at hr;split at hr
  ·split at hr
   ·split at hr
    ·rename_i hy
     unfold lH at hy;split at hy
     ·rfl
     ·rfl
     ·cases hy
    ·cases hr
   ·cases hr
  ·cases hr
 unfold wI;rw[this];split
 ·split
  ·split
   ·rename_i h1;cases h1
   ·rfl
  ·rfl
 ·rfl
theorem L8 [Bk] [Ev] (t:TypeId) (x:AV):Local (wH P t x):=by
 intro h n r hr;have hr0:=hr;unfold wH at hr;split at hr
 ·rename_i e he
  split at hr
  ·rename_i i hi
   split at hr
   ·rename_i z sz base bG tail N hz hx
    split at hr
    ·rename_i hc
     cases hr;refine⟨by simp,fun id hid _=>fY (by simpa using hid),fun id hid=>by simp at hid ⊢;rcases hid with h|h<;>simp[h],?_⟩
     intro g hrd hrg;have e1:lH g x=lH h x:=Ec fun id hid=>hrd id (by simp[hid])
     have e2:jY g n=jY h n:=pB (hrd n (by simp))
     have e3:jY g (n+1)=jY h (n+1):=pB (hrd (n+1) (by simp))
     refine⟨⟨.cE e i.size (n+1) N,eW g [(n,.dead),(n+1,.sc e i.size base bG tail N)],n+2,n::(n+1)::D6 x,[n,n+1]⟩,?_,rfl,rfl,rfl,rfl,?_,fun id hid _=>fY (by simpa using hid)⟩
     ·unfold wH
      simp only[he,hi,hz,e1,hx,e2,e3];rw[if_pos hc]
     ·intro id hid
      refine vH ?_
      rcases hid with hid|hid
      ·simpa using hid
      ·simp only at hid;simp;omega
    ·cases hr
   ·cases hr
  ·cases hr
 ·cases hr
theorem L7 [Bk] [Ev] (t:TypeId) (x:AV):Local (rC P t x):=by
 intro h n r hr;unfold rC at hr;split at hr
 ·rename_i r' h1
  cases hr;have L:=Oj t x h n r h1;refine⟨L.le,L.frame,L.sub,fun g a b=>?_⟩
  obtain⟨r2,e1,e2⟩:=L.again g a b;exact⟨r2,by unfold rC;rw[e1],e2⟩
 ·have L:=L8 t x h n r hr
  refine⟨L.le,L.frame,L.sub,fun g a b=>?_⟩
  obtain⟨r2,e1,e2⟩:=L.again g a b;exact⟨r2,by unfold rC;rw[DG (h':=g) (n':=n) hr];exact e1,e2⟩
def toPs:List AV→Option (List Poly)
 |[]=>some []
 |x::l=>match toP x,toPs l with
  |some p,some q=>some (p::q)
  |_,_=>none
def Xk (k:Nat) (ps:List Poly):List (Nat×List Poly×List Poly)→Option (List Poly)
 |[]=>none
 |t::l=>if t.1=k∧t.2.1=ps then some t.2.2 else Xk k ps l
theorem OM {k:Nat} {ps rs:List Poly}:∀{l:List (Nat×List Poly×List Poly)},Xk k ps l=some rs→(k,ps,rs)∈l
 |[],h=>by cases h
 |t::l,h=>by
  unfold Xk at h;split at h
  ·rename_i e
   cases h;obtain⟨rfl,rfl⟩:=e;exact List.mem_cons_self
  ·exact List.mem_cons_of_mem _ (OM h)
def zN (r:AV→Option (AV×List Nat)):List AV→Option (List AV×List Nat)
 |[]=>some ([],[])
 |x::l=>match r x with
  |none=>none
  |some (y,i)=>match zN r l with
   |none=>none
   |some (m,j)=>some (y::m,i++j)
def Mi (r:AV→Option (AV×List Nat)):List (List AV)→Option (List (List AV)×List Nat)
 |[]=>some ([],[])
 |e::l=>match zN r e with
  |none=>none
  |some (y,i)=>match Mi r l with
   |none=>none
   |some (m,j)=>some (y::m,i++j)
def wD (h:AH):Nat→AV→Option (AV×List Nat)
 |0,_=>none
 |k+1,x=>match x with
  | .agg cs=>match zN (wD h k) cs with
   |some (m,i)=>some (.agg m,i)
   |none=>none
  | .aZ cs=>match zN (wD h k) cs with
   |some (m,i)=>some (.aZ m,i)
   |none=>none
  | .own _ sz id i n=>match h id with
   | .cells _ s aN=>if s=sz∧i+n≤aN.length then match Mi (wD h k) ((aN.drop i).take n)with
     |some (m,js)=>some (.lit sz m,id::js)
     |none=>none
    else none
   |_=>none
  | .c v=>some (.c v,[])
  | .undef=>some (.undef,[])
  | .emp=>some (.emp,[])
  | .lit sz aN=>some (.lit sz aN,[])
  | .e p=>some (.e p,[])
  | .row n xs=>some (.row n xs,[])
  | .o i=>some (.o i,[])
  | .any=>some (.any,[])
  | .fn (.func q) [] []=>some (.c (.func (.func q) #[] #[]),[])
  | .seq sz base bG tail=>some (.seq sz base bG tail,[])
  | .cE _ sz id n=>match h id with
   | .sc _ s base bG tail n'=>if s=sz∧n'=n then match Mi (wD h k) (bG.map (·.2)),Mi (wD h k) tail with
     |some (u,js),some (m,ks)=>some (.seq sz base ((bG.map (·.1)).zip u) m,id::(js++ks))
     |_,_=>none
    else none
   |_=>none
  |_=>none
theorem nI {r:AV→Option (AV×List Nat)}:∀{cs m:List AV} {js:List Nat},zN r cs=some (m,js)→m.length=cs.length∧∀(i:Nat) (y:AV),m[i]?=some y→∃x is,cs[i]?=some x∧r x=some (y,is)∧∀id∈is,id∈js
 |[],m,js,h=>by cases h;exact⟨rfl,fun i y hy=>by simp at hy⟩
 |x::l,m,js,h=>by
  unfold zN at h;split at h
  ·cases h
  ·rename_i y i hx
   split at h
   ·cases h
   ·rename_i m' j hl
    cases h;obtain⟨h1,h2⟩:=nI hl;refine⟨by simp[h1],?_⟩
    intro k z hz;cases k with
    |zero=>cases hz;exact⟨x,i,rfl,hx,fun id hid=>List.mem_append_left _ hid⟩
    |succ k =>
     obtain⟨x',is,g1,g2,g3⟩:=h2 k z (by simpa using hz)
     exact⟨x',is,by simpa using g1,g2,fun id hid=>List.mem_append_right _ (g3 id hid)⟩
theorem BH {r:AV→Option (AV×List Nat)}:∀{cs m:List (List AV)} {js:List Nat},Mi r cs=some (m,js)→m.length=cs.length∧∀(i:Nat) (y:List AV),m[i]?=some y→∃x is,cs[i]?=some x∧zN r x=some (y,is)∧∀id∈is,id∈js
 |[],m,js,h=>by cases h;exact⟨rfl,fun i y hy=>by simp at hy⟩
 |x::l,m,js,h=>by
  unfold Mi at h;split at h
  ·cases h
  ·rename_i y i hx
   split at h
   ·cases h
   ·rename_i m' j hl
    cases h;obtain⟨h1,h2⟩:=BH hl;refine⟨by simp[h1],?_⟩
    intro k z hz;cases k with
    |zero=>cases hz;exact⟨x,i,rfl,hx,fun id hid=>List.mem_append_left _ hid⟩
    |succ k =>
     obtain⟨x',is,g1,g2,g3⟩:=h2 k z (by simpa using hz)
     exact⟨x',is,by simpa using g1,g2,fun id hid=>List.mem_append_right _ (g3 id hid)⟩
theorem F6 {r r':AV→Option (AV×List Nat)}:∀{cs m:List AV} {js:List Nat},zN r cs=some (m,js)→(∀x y is,r x=some (y,is)→(∀id∈is,id∈js)→r' x=some (y,is))→zN r' cs=some (m,js)
 |[],m,js,h,_=>by cases h;rfl
 |x::l,m,js,h,hr=>by
  unfold zN at h ⊢;split at h
  ·cases h
  ·rename_i y i hx
   split at h
   ·cases h
   ·rename_i m' j hl
    cases h;rw[hr x y i hx fun id hid=>List.mem_append_left _ hid,F6 hl fun x y is hx hs=>hr x y is hx fun id hid=>List.mem_append_right _ (hs id hid)]
theorem Mh {r r':AV→Option (AV×List Nat)}:∀{cs m:List (List AV)} {js:List Nat},Mi r cs=some (m,js)→(∀x y is,r x=some (y,is)→(∀id∈is,id∈js)→r' x=some (y,is))→Mi r' cs=some (m,js)
 |[],m,js,h,_=>by cases h;rfl
 |x::l,m,js,h,hr=>by
  unfold Mi at h ⊢;split at h
  ·cases h
  ·rename_i y i hx
   split at h
   ·cases h
   ·rename_i m' j hl
    cases h;rw[F6 hx fun x y is hx hs=>hr x y is hx fun id hid=>List.mem_append_left _ (hs id hid),Mh hl fun x y is hx hs=>hr x y is hx fun id hid=>List.mem_append_right _ (hs id hid)]
theorem agS {h h':AH}:∀{k:Nat} {x y:AV} {js:List Nat},wD h k x=some (y,js)→(∀id∈js,h' id=h id)→wD h' k x=some (y,js)
 |0,x,y,js,hf,_=>by cases hf
 |k+1,x,y,js,hf,hh=>by
  have ih:∀x y is,wD h k x=some (y,is)→(∀id∈is,id∈js)→wD h' k x=some (y,is):=fun x y is hx hs=>agS hx fun id hid=>hh id (hs id hid)
  cases x with
  |agg cs =>
   simp only[wD]at hf ⊢;split at hf
   ·rename_i m i hm
    cases hf;rw[F6 hm ih]
   ·cases hf
  |aZ cs =>
   simp only[wD]at hf ⊢;split at hf
   ·rename_i m i hm
    cases hf;rw[F6 hm ih]
   ·cases hf
  |own T sz id i n =>
   simp only[wD]at hf ⊢;split at hf
   ·rename_i T' s aN he
    split at hf
    ·rename_i hc
     split at hf
     ·rename_i m ks hm
      cases hf;rw[hh id List.mem_cons_self,he];simp only
      rw[if_pos hc,Mh hm fun x y is hx hs=>ih x y is hx fun id hid=>List.mem_cons_of_mem _ (hs id hid)]
     ·cases hf
    ·cases hf
   ·cases hf
  |cE T sz id n =>
   simp only[wD]at hf ⊢;split at hf
   ·rename_i T' s base bG tail n' he
    split at hf
    ·rename_i hc
     split at hf
     ·rename_i u is m ks hu hm
      cases hf;rw[hh id List.mem_cons_self,he];simp only
      rw[if_pos hc,Mh hu fun x y is hx hs=>ih x y is hx fun id hid=>List.mem_cons_of_mem _ (List.mem_append_left _ (hs id hid)),Mh hm fun x y is hx hs=>ih x y is hx fun id hid=>List.mem_cons_of_mem _ (List.mem_append_right _ (hs id hid))]
     ·cases hf
    ·cases hf
   ·cases hf
  |ptr=>cases hf
  |gT=>cases hf
  |fn f a b=>cases f<;>cases a<;>cases b<;>first|exact hf|cases hf
  |pJ=>cases hf
  |_=>exact hf
theorem Mg {h:AH} {k:Nat} {x y:AV} {js:List Nat} (hf:wD h k x=some (y,js)) (h1:x.one=true):y.one=true:=by
 cases k with
 |zero=>cases hf
 |succ k =>
  cases x with
  |agg cs=>simp[AV.one]at h1
  |aZ cs=>simp[AV.one]at h1
  |own T sz id i n =>
   simp only[wD]at hf;split at hf
   ·split at hf
    ·split at hf
     ·cases hf;rfl
     ·cases hf
    ·cases hf
   ·cases hf
  |c v=>cases hf;exact h1
  |undef=>simp[AV.one]at h1
  |ptr=>cases hf
  |gT=>cases hf
  |fn f a b=>cases f<;>cases a<;>cases b<;>first|(cases hf;rfl)|cases hf
  |pJ=>cases hf
  |DW=>cases hf
  |mpv=>cases hf
  |view=>cases hf
  |tY=>cases hf
  |cE T sz id n =>
   simp only[wD]at hf;split at hf
   ·split at hf
    ·split at hf
     ·cases hf;rfl
     ·cases hf
    ·cases hf
   ·cases hf
  |mC=>cases hf
  |nV=>cases hf
  |_=>cases hf;rfl
theorem OI [Bk] [Ev] {R:List AV→List AV→Prop}:∀(bG:List (Poly×List AV)) (u:List (List AV)) (l l':List (List AV)),u.length=bG.length→(∀(i:Nat) (q:Poly×List AV) (e:List AV),bG[i]?=some q→u[i]?=some e→R q.2 e)→l'.length=l.length→(∀(i:Nat) (e':List AV),l'[i]?=some e'→∃e,l[i]?=some e∧R e e') →
  ∀(i:Nat) (e':List AV),(((bG.map (·.1)).zip u).foldl (fun l q=>l.set (bJ Ev.dL q.1).toNat q.2) l')[i]?=some e'→∃e,(bG.foldl (fun l q=>l.set (bJ Ev.dL q.1).toNat q.2) l)[i]?=some e∧R e e'
 |[],u,l,l',_,_,_,h4,i,e',h=>by
  simp only[List.map_nil,List.zip_nil_left,List.foldl_nil]at h ⊢;exact h4 i e' h
 |q::bG,[],l,l',h1,_,_,_,i,e',h=>by simp at h1
 |q::bG,e0::u,l,l',h1,h2,h3,h4,i,e',h=>by
  simp only[List.map_cons,List.zip_cons_cons,List.foldl_cons]at h ⊢;refine OI bG u _ _ (by simpa using h1) (fun i q e hq he=>h2 (i+1) q e (by simpa using hq) (by simpa using he)) (by simp[h3]) ?_ i e' h
  intro i e1 he1;rw[List.getElem?_set]at he1;split at he1
  ·rename_i hi
   split at he1
   ·rename_i hl
    cases he1;refine⟨q.2,?_,h2 0 q e0 rfl rfl⟩
    rw[←hi,List.getElem?_set_self (by omega)]
   ·cases he1
  ·rename_i hi
   obtain⟨e,k1,k2⟩:=h4 i e1 he1;exact⟨e,by rw[List.getElem?_set_ne hi];exact k1,k2⟩
def lD (m:Nat→St) (K:List Nat):Nat→St:=fun id=>if id∈K then .dead else m id
theorem qW {m:Nat→St} {K:List Nat} {id b:Nat} (h:lD m K id=.at b):id ∉ K∧m id=.at b:=by
 unfold lD at h;split at h
 ·cases h
 ·exact⟨‹_›,h⟩
theorem ajJ {m:Nat→St} {K:List Nat} {A:Nat→Prop} {b:Nat} (h:Av (lD m K) A b):Av m A b:=by
 rcases h with h|⟨id,h⟩
 ·exact .inl h
 ·exact .inr ⟨id,(qW h).2⟩
theorem CZ [Bk] [Ev] {m:Nat→St} {A:Nat→Prop} {h:AH} {w:World} (H:bW m A h w) (K:List Nat):∀{k:Nat} {x y:AV} {js:List Nat} {v:Value},wD h k x=some (y,js)→(∀id∈js,id∈K)→Rd m A w x v→dG (Av (lD m K) A) w y v
 |0,x,y,js,v,hf,_,_=>by cases hf
 |k+1,x,y,js,v,hf,hK,hr=>by
  have ih:∀{x y:AV} {is:List Nat} {v:Value},wD h k x=some (y,is)→(∀id∈is,id∈js)→Rd m A w x v→dG (Av (lD m K) A) w y v:=fun hx hs hv=>CZ H K hx (fun id hid=>hK id (hs id hid)) hv
  have base:∀{x:AV} {v:Value},dG (Av m A) w x v→dG (Av (lD m K) A) w x v:=fun hx=>hx.mono (Nat.le_refl _) fun b _ hb=>⟨fun h=>hb (ajJ h),rfl⟩
  cases x with
  |agg cs =>
   simp only[wD]at hf;split at hf
   ·rename_i m' i hm
    cases hf;obtain⟨h1,h2⟩:=nI hm;obtain⟨vs,rfl,hl,hc⟩:=hr.oH;refine .agg _ vs (by rw[hl,h1]) ?_ ?_
    ·intro i y hy
     obtain⟨x,is,g1,g2,g3⟩:=h2 i y hy;exact Mg g2 (hc i x g1).1
    ·intro i y hy
     obtain⟨x,is,g1,g2,g3⟩:=h2 i y hy;exact ih g2 g3 (hc i x g1).2
   ·cases hf
  |aZ cs =>
   simp only[wD]at hf;split at hf
   ·rename_i m' i hm
    cases hf;obtain⟨h1,h2⟩:=nI hm;obtain⟨vs,rfl,hl,hc⟩:=hr.To;refine .aZ _ vs (by rw[hl,h1]) ?_
    intro i y hy;obtain⟨x,is,g1,g2,g3⟩:=h2 i y hy;exact ih g2 g3 (hc i x g1)
   ·cases hf
  |own T sz id i n =>
   simp only[wD]at hf;split at hf
   ·rename_i T' s aN he
    split at hf
    ·rename_i hcond
     obtain⟨rfl,hle⟩:=hcond;split at hf
     ·rename_i m' ks hm
      cases hf;obtain⟨h1,h2⟩:=BH hm;have hlen:((aN.drop i).take n).length=n:=by simp;omega
      rw[hlen]at h1;rcases H.cells id _ _ _ he with⟨hv,rfl⟩|⟨b,cs,g1,g2,g3,g4,g5⟩
      ·have hn:n=0:=by simp at hle;omega
       subst hn;have e:m'=[]:=List.length_eq_zero_iff.1 h1
       subst e;cases hr with
       |pure _ _ h=>cases h
       |own _ _ _ _ _ b _ hm=>rw[hv]at hm;cases hm
       |sA _ _ _ _ a hm=>exact .nG _ a 0 (Nat.zero_le _)
       |uD _ _ _ _ _ _ _ _ hm=>rw[hv]at hm;cases hm
      ·obtain⟨cap,rfl,hcap,hcm,-⟩:=hr.pF g1
       have find:∀(i' j':Nat) (y:AV),fW m' i' j'=some y→∃x is,fW aN (i+i') j'=some x∧wD h k x=some (y,is)∧(∀id∈is,id∈ks)∧i'<n:=by
        intro i' j' y hy;unfold fW at hy;cases hm':m'[i']? with
        |none=>rw[hm']at hy;cases hy
        |some e' =>
         rw[hm']at hy;simp only[Option.bind_some]at hy;obtain⟨e,is,k1,k2,k3⟩:=h2 i' e' hm';obtain⟨-,l2⟩:=nI k2;obtain⟨x,is',q1,q2,q3⟩:=l2 j' y hy;have hi':i'<n:=by have:=(List.getElem?_eq_some_iff.1 hm').1;omega
         rw[List.getElem?_take,if_pos hi',List.getElem?_drop]at k1;refine⟨x,is',?_,q2,fun id hid=>k3 id (q3 id hid),hi'⟩
         unfold fW;rw[k1];exact q1
       rw[←h1];refine .lit s m' b (i*s) cap (fun i' j'=>cs.getD ((i+i')*s+j') Go.undef) ?_ (H.lt g1) ⟨by omega,hcm⟩ ?_ ?_ ?_ ?_
       ·rintro(h|⟨id',h⟩)
        ·exact H.out id b g1 h
        ·obtain⟨h3,h4⟩:=qW h
         have:=H.inj id id' b g1 h4
         subst this;exact h3 (hK id List.mem_cons_self)
       ·intro e' he'
        obtain⟨i',hi'⟩:=List.mem_iff_getElem?.1 he'
        obtain⟨e,is,k1,k2,k3⟩:=h2 i' e' hi';obtain⟨l1,-⟩:=nI k2;rw[l1];exact g4 e (List.mem_of_mem_drop (List.mem_of_mem_take (List.mem_of_getElem? k1)))
       ·intro i' j' y hy
        obtain⟨x,is,k1,k2,k3,-⟩:=find i' j' y hy;exact Mg k2 (g5 _ _ _ k1).1
       ·intro i' j' y hy
        obtain⟨x,is,k1,k2,k3,-⟩:=find i' j' y hy;have hlt:=(gU k1 g4).2.2
        have e:i*s+(i'*s+j')=(i+i')*s+j':=by rw[Nat.add_mul];omega
        rw[e];have hlt':(i+i')*s+j'<cs.size:=by omega
        simp[World.cell?,g2,hlt']
       ·intro i' j' y hy
        obtain⟨x,is,k1,k2,k3,-⟩:=find i' j' y hy;exact ih k2 (fun id hid=>List.mem_cons_of_mem _ (k3 id hid)) (g5 _ _ _ k1).2
     ·cases hf
    ·cases hf
   ·cases hf
  |ptr=>cases hf
  |gT=>cases hf
  |fn f a b =>
   have:∃q,f=.func q∧a=[]∧b=[]∧y=.c (.func (.func q) #[] #[]):=by
    cases f<;>cases a<;>cases b<;>first|(cases hf;exact⟨_,rfl,rfl,rfl,rfl⟩)|cases hf
   obtain⟨q,rfl,rfl,rfl,rfl⟩:=this;obtain rfl:v=.func (.func q) #[] #[]:=by
    cases hr with
    |pure _ _ h=>cases h with|fn _ _ _ vs us hl hk=>rw[Array.eq_empty_of_size_eq_zero hl,Array.eq_empty_of_size_eq_zero hk]
    |fn _ _ _ vs us hl hk=>rw[Array.eq_empty_of_size_eq_zero hl,Array.eq_empty_of_size_eq_zero hk]
   exact .c _
  |pJ=>cases hf
  |c v=>cases hf;cases hr with|pure _ _ h=>exact base h
  |undef=>cases hf;cases hr with|pure _ _ h=>exact base h
  |emp=>cases hf;cases hr with|pure _ _ h=>exact base h
  |lit sz aN=>cases hf;cases hr with|pure _ _ h=>exact base h
  |e p=>cases hf;cases hr with|pure _ _ h=>exact base h
  |row n xs=>cases hf;cases hr with|pure _ _ h=>exact base h
  |o i=>cases hf;cases hr with|pure _ _ h=>exact base h
  |DW id=>cases hf
  |mpv id=>cases hf
  |view=>cases hf
  |any=>cases hf;cases hr with|pure _ _ h=>exact base h
  |seq=>cases hf;cases hr with|pure _ _ h=>exact base h
  |tY=>cases hf
  |cE T sz id n =>
   simp only[wD]at hf;split at hf
   ·rename_i T' s bs bG tail n' he
    split at hf
    ·rename_i hc
     obtain⟨rfl,rfl⟩:=hc;split at hf
     ·rename_i u is m' ks hu hm
      cases hf;obtain⟨u1,u2⟩:=BH hu;obtain⟨m1,m2⟩:=BH hm;simp only[List.length_map]at u1;obtain⟨hn,hin⟩:=H.Dt he;have hin':∀q∈(bG.map (·.1)).zip u,XL bs q.1:=by
       intro q hq;obtain⟨q',hq',e1⟩:=List.mem_map.1 (List.of_mem_zip hq).1
       rw[←e1];exact hin q' hq'
      have hlen:(rowsOf bs ((bG.map (·.1)).zip u) m').length=(rowsOf bs bG tail).length:=by rw[gE,gE,m1]
      let R:List AV→List AV→Prop:=fun e e'=>(∃js',zN (wD h k) e=some (e',js')∧∀id'∈js',id'∈is++ks)∨(e'=e∧∀x∈e,Cl x)
      have hrows:∀(i:Nat) (e':List AV),(rowsOf bs ((bG.map (·.1)).zip u) m')[i]?=some e'→∃e,(rowsOf bs bG tail)[i]?=some e∧R e e':=by
       intro i e' he';have hb0:∀ups':List (Poly×List AV),(ups'.foldl (fun l q=>l.set (bJ Ev.dL q.1).toNat q.2) (Ev.seq bs)).length=(Ev.seq bs).length:=by
        intro ups';have:=gE bs ups' []
        unfold rowsOf at this;simpa using this
       unfold rowsOf at he' ⊢;rcases Nat.lt_or_ge i (Ev.seq bs).length with hi|hi
       ·rw[List.getElem?_append_left (by rw[hb0];exact hi)]at he' ⊢
        refine OI (R:=R) bG u (Ev.seq bs) (Ev.seq bs) u1 ?_ rfl ?_ i e' he'
        ·intro j q e hq hje
         obtain⟨x,js',k1,k2,k3⟩:=u2 j e hje;rw[List.getElem?_map,hq]at k1;cases k1;exact .inl ⟨js',k2,fun id' hid=>List.mem_append_left _ (k3 id' hid)⟩
        ·intro j e hj
         exact⟨e,hj,.inr ⟨rfl,Ev.uA bs e (List.mem_of_getElem? hj)⟩⟩
       ·rw[List.getElem?_append_right (by rw[hb0];exact hi),hb0]at he' ⊢
        obtain⟨x,js',k1,k2,k3⟩:=m2 _ e' he';exact⟨x,k1,.inl ⟨js',k2,fun id' hid=>List.mem_append_right _ (k3 id' hid)⟩⟩
      rcases H.rL id T' s (rowsOf bs bG tail) (by rw[he];rfl)with⟨hv,e0⟩|⟨b,cs,g1,g2,g3,g4,g5⟩
      ·obtain⟨a,rfl,-⟩:=hr.uN hv
       refine .seq _ _ _ _ _ hin' rfl ?_
       have:rowsOf bs ((bG.map (·.1)).zip u) m'=[]:=List.length_eq_zero_iff.1 (by rw[hlen,e0];rfl)
       rw[this];exact .nG _ a 0 (Nat.zero_le _)
      ·obtain⟨len,cap,e,rfl,hcap,hcm,-⟩:=hr.BW g1
       refine .seq _ _ _ _ _ hin' rfl ?_
       have hl':len=(rowsOf bs ((bG.map (·.1)).zip u) m').length:=by omega
       subst hl';have find:∀(i' j':Nat) (y:AV),fW (rowsOf bs ((bG.map (·.1)).zip u) m') i' j'=some y→∃x,fW (rowsOf bs bG tail) i' j'=some x∧((∃js',wD h k x=some (y,js')∧∀id'∈js',id'∈is++ks)∨(y=x∧Cl x)):=by
        intro i' j' y hy;unfold fW at hy;cases hm':(rowsOf bs ((bG.map (·.1)).zip u) m')[i']? with
        |none=>rw[hm']at hy;cases hy
        |some e' =>
         rw[hm']at hy;simp only[Option.bind_some]at hy;obtain⟨e,k1,⟨js',k2,k3⟩|⟨rfl,k3⟩⟩:=hrows i' e' hm'
         ·obtain⟨-,l2⟩:=nI k2
          obtain⟨x,is',q1,q2,q3⟩:=l2 j' y hy;exact⟨x,by unfold fW;rw[k1];exact q1,.inl ⟨is',q2,fun id' hid=>k3 id' (q3 id' hid)⟩⟩
         ·exact⟨y,by unfold fW;rw[k1];exact hy,.inr ⟨rfl,k3 y (List.mem_of_getElem? hy)⟩⟩
       have hb':∀(i' j':Nat) (x:AV),fW (rowsOf bs bG tail) i' j'=some x→w.cell? ⟨b,0+(i'*s+j'),none⟩=some (cs.getD (i'*s+j') Go.undef):=by
        intro i' j' x hx;have hlt:=(gU hx g4).2.2
        rw[Nat.zero_add];have hlt':i'*s+j'<cs.size:=by omega
        simp[World.cell?,g2,hlt']
       refine .lit s _ b 0 cap (fun i' j'=>cs.getD (i'*s+j') Go.undef) ?_ (H.lt g1) ⟨hcap,hcm⟩ ?_ ?_ ?_ ?_
       ·rintro(h|⟨id',h⟩)
        ·exact H.out id b g1 h
        ·obtain⟨h3,h4⟩:=qW h
         have:=H.inj id id' b g1 h4
         subst this;exact h3 (hK id List.mem_cons_self)
       ·intro e' he'
        obtain⟨i',hi'⟩:=List.mem_iff_getElem?.1 he'
        obtain⟨e,k1,⟨js',k2,k3⟩|⟨rfl,k3⟩⟩:=hrows i' e' hi'
        ·obtain⟨l1,-⟩:=nI k2
         rw[l1];exact g4 e (List.mem_of_getElem? k1)
        ·exact g4 _ (List.mem_of_getElem? k1)
       ·intro i' j' y hy
        obtain⟨x,k1,⟨js',k2,k3⟩|⟨rfl,k3⟩⟩:=find i' j' y hy
        ·exact Mg k2 (g5 _ _ _ k1).1
        ·exact(g5 _ _ _ k1).1
       ·intro i' j' y hy
        obtain⟨x,k1,-⟩:=find i' j' y hy;exact hb' _ _ _ k1
       ·intro i' j' y hy
        obtain⟨x,k1,⟨js',k2,k3⟩|⟨rfl,k3⟩⟩:=find i' j' y hy
        ·exact ih k2 (fun id' hid=>List.mem_cons_of_mem _ (k3 id' hid)) (g5 _ _ _ k1).2
        ·exact base ((g5 _ _ _ k1).2.cl k3)
     ·cases hf
    ·cases hf
   ·cases hf
  |mC=>cases hf
  |nV=>cases hf
theorem pZ (h:AH):∀(K:List Nat) (id:Nat),eW h (K.map fun id=>(id,bY.dead)) id=if id∈K then .dead else h id
 |[],id=>by simp[eW]
 |i::l,id=>by
  have:=pZ (cJ h i .dead) l id
  simp only[List.map_cons,eW];rw[this];by_cases h1:id∈l
  ·simp[h1]
  ·by_cases h2:id=i
   ·subst h2;simp[h1,cJ]
   ·simp[h1,h2,cJ]
theorem bW.Ol [Bk] [Ev] {m:Nat→St} {A:Nat→Prop} {h:AH} {w:World} (H:bW m A h w) (K:List Nat) :
  bW (lD m K) A (eW h (K.map fun id=>(id,bY.dead))) w∧Ext m w (lD m K) w:=by
 have E:Ext m w (lD m K) w:=by
  refine⟨rfl,rfl,rfl,Nat.le_refl _,?_,?_,?_,?_,fun _ _ _ _=>rfl⟩
  ·intro id b hb
   unfold lD;split
   ·exact .inr rfl
   ·exact .inl hb
  ·intro id hb
   unfold lD;split
   ·rfl
   ·exact hb
  ·intro id hb
   unfold lD;split
   ·exact .inr rfl
   ·exact .inl hb
  ·intro b _ hu
   exact⟨fun id hid=>hu id (qW hid).2,rfl⟩
 refine⟨⟨fun id b hb=>H.out id b (qW hb).2,H.El,?_,?_,?_,fun i j b hi hj=>H.inj i j b (qW hi).2 (qW hj).2,H.kI.ext H.out E,H.kX E fun id B hid hB=>?_,fun id=>?_⟩,E⟩
 ·intro id hid
  rw[pZ]at hid;split at hid
  ·cases hid
  ·rename_i hn;unfold lD;rw[if_neg hn];exact H.no id hid
 ·intro id hid
  rw[pZ]at hid;split at hid
  ·rename_i hn;unfold lD;rw[if_pos hn]
  ·rename_i hn;unfold lD;rw[if_neg hn];exact H.dead id hid
 ·intro id T sz aN hid
  rw[pZ]at hid;split at hid
  ·simp[bY.aN]at hid
  ·rename_i hn
   have e:lD m K id=m id:=by unfold lD;rw[if_neg hn]
   rw[e];obtain g|⟨b,cs,g1,g2,g3,g4,g5⟩:=H.rL id T sz aN hid
   ·exact .inl g
   ·exact .inr ⟨b,cs,g1,g2,g3,g4,fun i j x hx=>⟨(g5 i j x hx).1,(g5 i j x hx).2.ext E⟩⟩
 ·rw[pZ]at hid
  split at hid
  ·subst hid;exact absurd hB (by simp[bY.other])
  ·rename_i hn
   exact⟨hid,fun b hb=>⟨by unfold lD;rw[if_neg hn];exact hb,rfl⟩⟩
 ·rw[pZ]
  split
  ·trivial
  ·exact H.PR id
def vEq:Value→Value→Bool
 | .int k a,.int k' b=>decide (k=k')&&decide (a=b)
 | .bool a,.bool b=>a==b
 | .string a,.string b=>decide (a.data.toList=b.data.toList)
 | .pointer none,.pointer none=>true
 | .nilIface,.nilIface=>true
 | .func (.func k) x y,.func (.func k') x' y'=>decide (k=k')&&(decide (x.size=0)&&decide (y.size=0))&&(decide (x'.size=0)&&decide (y'.size=0))
 |_,_=>false
theorem PY {a b:Value} (h:vEq a b=true):a=b:=by
 unfold vEq at h;split at h
 ·rw[Bool.and_eq_true,decide_eq_true_eq,decide_eq_true_eq]at h;rw[h.1,h.2]
 ·rw[beq_iff_eq]at h;rw[h]
 ·rw[decide_eq_true_eq]at h;have:=Array.ext' h;rw[show _=_ from ByteArray.ext this]
 ·rfl
 ·rfl
 ·simp only[Bool.and_eq_true,decide_eq_true_eq]at h
  obtain⟨⟨rfl,h1,h2⟩,h3,h4⟩:=h
  rw[Array.eq_empty_of_size_eq_zero h1,Array.eq_empty_of_size_eq_zero h2,Array.eq_empty_of_size_eq_zero h3,Array.eq_empty_of_size_eq_zero h4]
 ·cases h
def Ez (r:AV→AV→Bool):List AV→List AV→Bool
 |[],[]=>true
 |x::l,y::m=>r x y&&Ez r l m
 |_,_=>false
def C6 (r:AV→AV→Bool):List (List AV)→List (List AV)→Bool
 |[],[]=>true
 |x::l,y::m=>Ez r x y&&C6 r l m
 |_,_=>false
def zQ:Nat→AV→AV→Bool
 |0,_,_=>false
 |k+1,x,y=>match x,y with
  | .c v,.c u=>vEq v u
  | .undef,.undef=>true
  | .emp,.emp=>true
  | .agg a,.agg b=>Ez (zQ k) a b
  | .aZ a,.aZ b=>Ez (zQ k) a b
  | .lit s a,.lit s' b=>decide (s=s')&&C6 (zQ k) a b
  | .e p,.e q=>decide (p=q)
  | .row n a,.row n' b=>decide (n=n')&&decide (a=b)
  | .o i,.o j=>decide (i=j)
  | .any,.any=>true
  | .seq s b u t,.seq s' b' u' t'=>decide (s=s')&&(decide (b=b')&&(decide (u.map (·.1)=u'.map (·.1))&&(C6 (zQ k) (u.map (·.2)) (u'.map (·.2))&&C6 (zQ k) t t')))
  |_,_=>false
theorem Ga {r:AV→AV→Bool} (hr:∀x y,r x y=true→x=y):∀{a b:List AV},Ez r a b=true→a=b
 |[],[],_=>rfl
 |[],_::_,h=>by cases h
 |_::_,[],h=>by cases h
 |x::l,y::m,h=>by
  unfold Ez at h;rw[Bool.and_eq_true]at h;rw[hr x y h.1,Ga hr h.2]
theorem Ey {r:AV→AV→Bool} (hr:∀x y,r x y=true→x=y):∀{a b:List (List AV)},C6 r a b=true→a=b
 |[],[],_=>rfl
 |[],_::_,h=>by cases h
 |_::_,[],h=>by cases h
 |x::l,y::m,h=>by
  unfold C6 at h;rw[Bool.and_eq_true]at h;rw[Ga hr h.1,Ey hr h.2]
theorem wM:∀{k:Nat} {x y:AV},zQ k x y=true→x=y
 |0,x,y,h=>by cases h
 |k+1,x,y,h=>by
  have ih:∀x y,zQ k x y=true→x=y:=fun x y=>wM
  unfold zQ at h;split at h
  ·rw[PY h]
  ·rfl
  ·rfl
  ·rw[Ga ih h]
  ·rw[Ga ih h]
  ·rw[Bool.and_eq_true,decide_eq_true_eq]at h;rw[h.1,Ey ih h.2]
  ·rw[decide_eq_true_eq]at h;rw[h]
  ·rw[Bool.and_eq_true,decide_eq_true_eq,decide_eq_true_eq]at h;rw[h.1,h.2]
  ·rw[decide_eq_true_eq]at h;rw[h]
  ·rfl
  ·rename_i s b u t s' b' u' t'
   simp only[Bool.and_eq_true,decide_eq_true_eq]at h;obtain⟨rfl,rfl,h1,h2,h3⟩:=h;have h2:=Ey ih h2;have h3:=Ey ih h3;have zz:∀l:List (Poly×List AV),l=(l.map (·.1)).zip (l.map (·.2)):=by
    intro l;induction l with
    |nil=>rfl
    |cons a l ih=>rw[List.map_cons,List.map_cons,List.zip_cons_cons,←ih]
   have:u=u':=by rw[zz u,zz u',h1,h2]
   rw[this,h3]
  ·cases h
def abg:Nat→AV→List Poly
 |0,_=>[]
 |k+1,x=>match x with
  | .e p=>[p]
  | .agg l=>l.flatMap (abg k)
  | .lit _ l=>l.flatMap fun e=>e.flatMap (abg k)
  | .seq _ b u _=>xJ b::u.map (·.1)
  |_=>[]
def ON (k:Nat) (as:List AV):List (Nat×List AV×AV)→Option AV
 |[]=>none
 |t::l=>bif Nat.beq t.1 k&&(decide (t.2.1.map (abg 16)=as.map (abg 16))&&Ez (zQ 16) t.2.1 as)then some t.2.2 else ON k as l
theorem F8 {k:Nat} {as:List AV} {r:AV}:∀{l:List (Nat×List AV×AV)},ON k as l=some r→(k,as,r)∈l
 |[],h=>by cases h
 |t::l,h=>by
  unfold ON at h;cases hc:(Nat.beq t.1 k&&(decide (t.2.1.map (abg 16)=as.map (abg 16))&&Ez (zQ 16) t.2.1 as))with
  |true =>
   rw[hc]at h;cases h;rw[Bool.and_eq_true,Bool.and_eq_true]at hc;have e1:t.1=k:=Nat.eq_of_beq_eq_true hc.1
   have e2:=Ga (fun x y=>wM) hc.2.2
   subst e1;subst e2
   exact List.mem_cons_self
  |false =>
   rw[hc]at h;exact List.mem_cons_of_mem _ (F8 h)
def knB [Bk] (P:Program) (k:FuncId):Bool :=
 Bk.bT.any (fun t => Nat.beq t.1 k) && (match P.funcs[k]? with | some fn => (match fn.body with | some _ => !(fn.name == "runtime.NumGoroutine") | none => false) | none => false)
def A5:Nat→AV→Bool
 |0,_=>false
 |k+1,x=>match x with
  | .c _ | .undef | .e _ | .o _ | .any=>true
  | .agg l=>l.all (A5 k)
  | .aZ l=>l.all (A5 k)
  |_=>false
theorem dG.ahL [Bk] [Ev] {A A':Nat→Prop} {w w':World}:∀{k:Nat} {x:AV} {v:Value},A5 k x=true→dG A w x v→dG A' w' x v
 |0,x,v,h,_=>by cases h
 |k+1,x,v,h,hr=>by
  cases hr with
  |c v=>exact .c v
  |undef=>exact .undef
  |e p=>exact .e p
  |o i=>exact .o i
  |any v h1=>exact .any v h1
  |agg cs vs hl h1 hr=>exact .agg cs vs hl h1 fun i x hx=>dG.ahL (List.all_eq_true.1 h x (List.mem_of_getElem? hx)) (hr i x hx)
  |aZ cs vs hl hr=>exact .aZ cs vs hl fun i x hx=>dG.ahL (List.all_eq_true.1 h x (List.mem_of_getElem? hx)) (hr i x hx)
  |_=>cases h
def knM [Bk] (k:FuncId) (args:List AV):M AV:=fun h n =>
 match zN (wD h 16) args with
 |some (as,ids)=>match ON k as Bk.bT with
  |some r=>bif A5 8 r then some ⟨r,h,n,ids,[]⟩else some ⟨r,eW h (ids.map fun id=>(id,bY.dead)),n,ids,ids⟩
  |none=>none
 |none=>none
theorem adm [Bk] [Ev] (k:FuncId) (args:List AV):Local (knM k args):=by
 intro h n r hr;unfold knM at hr;split at hr
 ·rename_i as ids hf
  split at hr
  ·rename_i v hv
   have hag:∀g:AH,(∀id∈ids,g id=h id)→zN (wD g 16) args=some (as,ids):=fun g hrd=>F6 hf fun x y is hx hs=>agS hx fun id hid=>hrd id (hs id hid)
   cases hs:A5 8 v with
   |true =>
    rw[hs]at hr;cases hr;refine⟨Nat.le_refl _,fun id hid _=>rfl,fun _ hid=>absurd hid List.not_mem_nil,?_⟩
    intro g hrd hrg;refine⟨⟨v,g,n,ids,[]⟩,?_,rfl,rfl,rfl,rfl,?_,fun id hid _=>rfl⟩
    ·unfold knM
     rw[hag g hrd];simp only[hv,hs];rfl
    ·intro id hid
     rcases hid with hid|hid
     ·exact absurd hid List.not_mem_nil
     ·simp only at hid;omega
   |false =>
   rw[hs]at hr;cases hr;refine⟨Nat.le_refl _,fun id hid _=>fY (by simpa using hid),fun _ hid=>hid,?_⟩
   intro g hrd hrg;refine⟨⟨v,eW g (ids.map fun id=>(id,bY.dead)),n,ids,ids⟩,?_,rfl,rfl,rfl,rfl,?_,fun id hid _=>fY (by simpa using hid)⟩
   ·unfold knM
    rw[hag g hrd];simp only[hv,hs];rfl
   ·intro id hid
    rcases hid with hid|hid
    ·exact vH (by simpa using hid)
    ·simp only at hid;omega
  ·cases hr
 ·cases hr
def GM [Bk] [Ev] (P:Program) (k:FuncId) (as:List AV) (r:AV):Prop :=
 ∀(A:Nat→Prop) (w:World) (vs:Array Value),(∀b,A b→b<w.heap.size)→GOk A w→vs.size=as.length→(∀(i:Nat) (x:AV),as[i]?=some x→dG A w x (vs.getD i Go.undef)) →
  Calls P k vs w fun e w'=>∃v,e=.returned v∧dG A w' r v∧Below w.heap.size w w'
theorem adp [Bk] [Ev] {P:Program} {k:FuncId} {args as:List AV} {ids:List Nat} {r:AV} {h:AH} (hf:zN (wD h 16) args=some (as,ids)) (hk:GM P k as r):eT P k args h (fun v h'=>v=r∧h'=eW h (ids.map fun id=>(id,bY.dead))):=by
 intro m A w vs H hl hv;obtain⟨H2,E2⟩:=H.Ol ids;obtain⟨h1,h2⟩:=nI hf;refine(hk (Av (lD m ids) A) w vs ?_ (fun t ht=>⟨.inl (H.kI t ht).1,(H.kI t ht).2⟩) (by rw[hl,h1]) ?_).mono ?_
 ·rintro b (hb|⟨id,hb⟩)
  ·exact H.El b hb
  ·exact H2.lt hb
 ·intro i y hy
  obtain⟨x,is,g1,g2,g3⟩:=h2 i y hy;exact CZ H ids g2 g3 (hv i x g1)
 ·rintro e w' ⟨v,rfl,hr,hb⟩
  exact⟨v,r,lD m ids,_,rfl,⟨rfl,rfl⟩,H2.below hb,.pure _ _ hr,E2.trans (Ext.xP H2 hb)⟩
theorem aaG [Bk] [Ev] {P:Program} {k:FuncId} {args as:List AV} {ids:List Nat} {r:AV} {h:AH} (hf:zN (wD h 16) args=some (as,ids)) (hs:A5 8 r=true) (hk:GM P k as r):eT P k args h (fun v h'=>v=r∧h'=h):=by
 intro m A w vs H hl hv;obtain⟨H2,E2⟩:=H.Ol ids;obtain⟨h1,h2⟩:=nI hf;refine(hk (Av (lD m ids) A) w vs ?_ (fun t ht=>⟨.inl (H.kI t ht).1,(H.kI t ht).2⟩) (by rw[hl,h1]) ?_).mono ?_
 ·rintro b (hb|⟨id,hb⟩)
  ·exact H.El b hb
  ·exact H2.lt hb
 ·intro i y hy
  obtain⟨x,is,g1,g2,g3⟩:=h2 i y hy;exact CZ H ids g2 g3 (hv i x g1)
 ·rintro e w' ⟨v,rfl,hr,hb⟩
  exact⟨v,r,m,_,rfl,⟨rfl,rfl⟩,H.below hb,.pure _ _ (dG.ahL hs hr),Ext.xP H hb⟩
def aeu [Bk] (P:Program) (k:FuncId) (args:List AV):Bool :=
 Bk.yes.contains k && (args.isEmpty && (match P.funcs[k]? with | some fn => (match fn.body with | some _ => !(fn.name == "runtime.NumGoroutine") | none => false) | none => false))
def OP [Bk] (P:Program) (k:FuncId) (args:List AV):Option AV :=
 if aeu P k args=true then some (.c (.bool true))else match Bk.ext with
 |[]=>none
 |l=>match P.funcs[k]? with
  |some fn=>match fn.body with
   | some _ => if fn.name == "runtime.NumGoroutine" then none else match toPs args with
    |some ps=>match Xk k ps l with
     |some rs=>some (AU (rs.map AN))
     |none=>none
    |none=>none
   |none=>none
  |none=>none
def jH [Bk] [Ev] (P:Program):Prop:=(∀k ps rs,(k,ps,rs)∈Bk.ext→∀args h,toPs args=some ps→eT P k args h (fun v h'=>v=AU (rs.map AN)∧h'=h)) ∧
 (∀k,k∈Bk.yes→∀h,eT P k [] h (fun v h'=>v=.c (.bool true)∧h'=h))∧∀k as r,(k,as,r)∈Bk.bT→GM P k as r
theorem aet [Bk] [Ev] (hX:jH P) {k:FuncId} {args:List AV} (hv:aeu P k args=true) (h:AH) :
  ∃ fn c, P.funcs[k]? = some fn ∧ fn.body = some c ∧ (fn.name == "runtime.NumGoroutine") = false ∧ eT P k args h (fun v' h' => v' = .c (.bool true) ∧ h' = h) := by
 unfold aeu at hv;rw[Bool.and_eq_true,Bool.and_eq_true]at hv;obtain⟨h1,h2,h3⟩:=hv;split at h3
 ·rename_i fn hf
  split at h3
  ·rename_i c hc
   have ha:args=[]:=by simpa using h2
   subst ha;exact⟨fn,c,hf,hc,by simpa using h3,hX.2.1 k (by simpa using h1) h⟩
  ·cases h3
 ·cases h3
theorem afH [Bk] [Ev] (hX:jH P) {k:FuncId} {args:List AV} {v:AV} (hv:OP P k args=some v) (h:AH) :
  ∃ fn c, P.funcs[k]? = some fn ∧ fn.body = some c ∧ (fn.name == "runtime.NumGoroutine") = false ∧ eT P k args h (fun v' h' => v' = v ∧ h' = h) := by
 unfold OP at hv;by_cases hy:aeu P k args=true
 ·rw[if_pos hy]at hv
  cases hv;exact aet hX hy h
 rw[if_neg hy]at hv;split at hv
 ·cases hv
 ·split at hv
  ·rename_i fn hf
   split at hv
   ·rename_i c hc
    split at hv
    ·cases hv
    ·rename_i hn
     split at hv
     ·rename_i ps hp
      split at hv
      ·rename_i rs hr
       cases hv;exact⟨fn,c,hf,hc,by simpa using hn,hX.1 k ps rs (OM hr) args h hp⟩
      ·cases hv
     ·cases hv
   ·cases hv
  ·cases hv
def AJ [Bk] (P:Program) (L:Nat) (call:Fn→List AV→M AV) (k:FuncId) (args:List AV):M AV :=
 match P.funcs[k]? with
  |none=>jT
  |some fn=>match pP fn,args with
   |some t,[x]=>rC P t x
   |_,_=>match fn.body with
    |none=>jT
    | some c => if fn.name == "runtime.NumGoroutine" then jT else
     xR (jU (eI P call true L c (args++List.replicate (fn.ntmps-args.length) .undef)) fun q=>match q.1 with
      | .exit _=>jT
      |_=>G1 P fn q.2)
def uJ [Bk] (P:Program) (L:Nat):Nat→Fn→List AV→M AV
 |0,_,_=>jT
 |d+1,.func k,args=>match OP P k args with
  |some v=>mpure v
  |none=>if knB P k=true then knM k args else AJ P L (uJ P L d) k args
 |d+1,.yield id,args=>xR (AG P L (uJ P L d) id args)
 |_+1,_,_=>jT
theorem Hp [Bk] [Ev] (L : Nat) {call : Fn → List AV → M AV} (ih : mL P call) : (∀ k args, Local (AJ P L call k args)) ∧ ∀ k args h n r, AJ P L call k args h n = some r → ∃ fn c, P.funcs[k]? = some fn ∧ fn.body = some c ∧ (fn.name == "runtime.NumGoroutine") = false ∧ eT P k args h (fun v h' => v = r.a ∧ h' = r.h) := by
  refine⟨?_,?_⟩
  ·intro k args
   simp only[AJ];split
   ·exact dU
   ·split
    ·exact L7 _ _
    ·split
     ·exact dU
     ·split
      ·exact dU
      ·refine FT (eG (jE ih _ _ _) fun q=>?_)
       split
       ·exact dU
       ·exact aay _ _
  ·intro k args h n r hr
   simp only[AJ]at hr;cases hk:P.funcs[k]? with
   |none=>simp only[hk]at hr;cases hr
   |some fn =>
    simp only[hk]at hr;have plain:(match fn.body with
     |none=>jT
     | some c => if fn.name == "runtime.NumGoroutine" then jT else
      xR (jU (eI P call true L c (args++List.replicate (fn.ntmps-args.length) .undef)) fun q=>match q.1 with
       | .exit _=>jT
       | _ => G1 P fn q.2) : M AV) h n = some r → ∃ fn c, P.funcs[k]? = some fn ∧ fn.body = some c ∧ (fn.name == "runtime.NumGoroutine") = false ∧ eT P k args h (fun v h' => v = r.a ∧ h' = r.h) := by
     intro hr;cases hb:fn.body with
     |none=>simp only[hb]at hr;cases hr
     |some c =>
      simp only[hb]at hr;by_cases hn : (fn.name == "runtime.NumGoroutine") = true
      ·rw[if_pos hn]at hr;cases hr
      ·rw[if_neg hn]at hr
       refine⟨fn,c,hk,hb,by simpa using hn,?_⟩
       unfold xR at hr;split at hr
       ·cases hr
       ·rename_i t ht
        cases hr;obtain⟨r1,s,h1,h2,e1,e2,e3⟩:=gO ht;refine eT.jJ hk hb (lM ih L c _ _ h n r1 h1 ?_)
        have fin:∀q,G1 P fn r1.a.2 r1.h r1.n=some q→q.a=t.a→q.h=t.h→∃x,eF P fn r1.a.2 r1.h=some x∧(x=t.a∧r1.h=t.h):=by
         intro q hq ha hh;unfold G1 at hq;cases h3:eF P fn r1.a.2 r1.h with
         |none=>rw[h3]at hq;cases hq
         |some v =>
          rw[h3]at hq;cases hq;exact⟨v,rfl,ha,hh⟩
        cases hx:r1.a.1 with
        |exit id=>simp only[hx]at h2;cases h2
        |normal=>simp only[hx]at h2;exact fin s h2 e1.symm e2.symm
        |ret=>simp only[hx]at h2;exact fin s h2 e1.symm e2.symm
    have clone : ∀ t x, pP fn = some t → args = [x] → rC P t x h n = some r → ∃ fn c, P.funcs[k]? = some fn ∧ fn.body = some c ∧ (fn.name == "runtime.NumGoroutine") = false ∧ eT P k args h (fun v h' => v = r.a ∧ h' = r.h) := by
     intro t x uF ha hq;clear hr plain;subst ha;have hf:=Sq uF;obtain⟨i0,i1,i2,i3,o0,o1,o2,o3,o4,o5,o6,o7,hbody,-⟩:=hf.body;refine⟨fn,_,hk,hbody,hf.name,?_⟩
     unfold rC at hq;split at hq
     ·rename_i r' hq'
      cases hq;unfold wI at hq';split at hq'
      ·rename_i e he
       split at hq'
       ·rename_i i hi
        split at hq'
        ·rename_i z aN hz hx
         split at hq'
         ·rename_i hc
          cases hq';obtain⟨c1,c2,c3,c4,c5,c6,c7,c8,c9⟩:=hc;refine adX hk hf he hi hz c1 c2 hx (fun q hq=>by simpa using List.all_eq_true.1 c3 q hq) ?_ c5 c6 (kD c7) (kD c8) (by simpa using c9)
          intro T s id j n' hx';rw[hx']at c4;simpa[FG]using c4
         ·cases hq'
        ·cases hq'
       ·cases hq'
      ·cases hq'
     unfold wH at hq;split at hq
     ·rename_i e he
      split at hq
      ·rename_i i hi
       split at hq
       ·rename_i z sz base bG tail N hz hx
        split at hq
        ·rename_i hc
         cases hq;obtain⟨c1,c2,rfl,c4,c7,c8,c9⟩:=hc;exact SK hk hf he hi hz c1 c2 hx c4 (kD c7) (kD c8) (by simpa using c9)
        ·cases hq
       ·cases hq
      ·cases hq
     ·cases hq
    cases uF:pP fn with
    |none=>simp only[uF]at hr;exact hk▸plain hr
    |some t =>
     cases args with
     |nil=>simp only[uF]at hr;exact hk▸plain hr
     |cons x l =>
      cases l with
      |nil =>
       have hr':rC P t x h n=some r:=by
        simp only[uF]at hr;exact hr
       exact hk▸clone t x uF rfl hr'
      |cons y l=>simp only[uF]at hr;exact hk▸plain hr
theorem ah0 [Bk] [Ev] (hX:jH P) {k:FuncId} {args:List AV} {h:AH} {n:Nat} {r:Rs AV} (hb:knB P k=true) (hr:knM k args h n=some r) :
  ∃ fn c, P.funcs[k]? = some fn ∧ fn.body = some c ∧ (fn.name == "runtime.NumGoroutine") = false ∧ eT P k args h (fun v h' => v = r.a ∧ h' = r.h) := by
 unfold knB at hb;rw[Bool.and_eq_true]at hb;obtain⟨-,h3⟩:=hb;split at h3
 ·rename_i fn hf
  split at h3
  ·rename_i c hc
   refine⟨fn,c,hf,hc,by simpa using h3,?_⟩
   unfold knM at hr;split at hr
   ·rename_i as ids hfr
    split at hr
    ·rename_i v hv
     cases hs:A5 8 v with
     |true=>rw[hs]at hr;cases hr;exact aaG hfr hs (hX.2.2 k as v (F8 hv))
     |false=>rw[hs]at hr;cases hr;exact adp hfr (hX.2.2 k as v (F8 hv))
    ·cases hr
   ·cases hr
  ·cases h3
 ·cases h3
theorem uI [Bk] [Ev] (hX:jH P) (L:Nat):∀d,mL P (uJ P L d)
 |0=>⟨fun k args=>dU,fun k args h n r hr=>(by cases hr),fun k args h n r hr=>(by cases hr)⟩
 |d+1=>by
  have ihX:=uI hX L d;have ih:=Hp L ihX;refine⟨fun k args=>?_,fun k args h n r hr=>?_,fun id args h n r hr=>?_⟩
  ·cases k with
   |func k =>
    simp only[uJ];split
    ·exact eR _
    ·split
     ·exact adm _ _
     ·exact ih.1 _ _
   |yield id=>exact FT (Oi ihX L id args)
   |_=>exact dU
  ·cases hv:OP P k args with
   |some v =>
    simp only[uJ,hv]at hr;cases hr;exact afH hX hv h
   |none =>
    simp only[uJ,hv]at hr;by_cases hb:knB P k=true
    ·rw[if_pos hb]at hr
     exact ah0 hX hb hr
    ·rw[if_neg hb]at hr
     exact ih.2 k args h n r hr
  ·simp only[uJ]at hr
   unfold xR at hr;split at hr
   ·cases hr
   ·rename_i t ht
    cases hr;exact(abf ihX ht).mono fun v h' e=>e
theorem abl [Bk] [Ev] (hX:jH P) {L d:Nat} {k:FuncId} {args:List AV} {h:AH} {n:Nat} {r:Rs AV} (hr:uJ P L d (.func k) args h n=some r):eT P k args h (fun v h'=>v=r.a∧h'=r.h) :=
 ((uI hX L d).ok k args h n r hr).elim fun _ h=>h.elim fun _ h=>h.2.2.2
end
end Mc
end Go.Proofs.YtnepgggkgnckcaaGreat
