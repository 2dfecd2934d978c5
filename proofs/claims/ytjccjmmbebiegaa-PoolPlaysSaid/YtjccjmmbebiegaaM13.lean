/-
 A machine of plain data beside the model: lists by name: how long, what stands where, what is laid where. No program in sight.
 A machine of plain data beside the model: lists by name that grow, are cloned. No program in sight.
 A machine of plain data beside the model: loops over functions: the record, a round, the loop. No program in sight.
 A machine of plain data beside the model: it runs code; what it says is so. No program in sight.
 A machine of plain data beside the model: slices.Clone, whatever the slice; calls with it. No program in sight.
-/
import Derived.Test.YtjccjmmbebiegaaM11
import Derived.Laws.Cover3
set_option linter.unusedVariables false
set_option linter.unusedSimpArgs false
namespace Go.Proofs.Ytjccjmmbebiegaa.Mc
open Go.RowKit
section
variable {P:Program} {o:Oper} {f:List AV} {h:AH}
theorem Rd.seq_inv [Bk] [Ev] {m:Nat→St} {A:Nat→Prop} {w:World} {sz base:Nat} {ups:List (Poly×List AV)} {tail:List (List AV)} {v:Value} (h:Rd m A w (.seq sz base ups tail) v) :
  (∀q∈ups,InB base q.1)∧Rd m A w (.lit sz (rowsOf base ups tail)) v:=by
 cases h with|pure _ _ h=>cases h with|seq _ _ _ _ _ hin h1 h=>exact⟨hin,.pure _ _ h⟩
theorem Rd.at_sown [Bk] [Ev] {m:Nat→St} {A:Nat→Prop} {w:World} {T sz id b:Nat} {n:Poly} {u:Value} (h:Rd m A w (.sown T sz id n) u) (g:m id=.at b) :
  ∃len cap:Nat,pev Ev.rho n=len∧u=.slice (some ⟨b,0,none⟩) len cap∧len≤cap∧cap≤maxLen∧cap*sz=rowSize w b:=by
 cases h with
 |pure _ _ h=>cases h
 |sown _ _ _ _ b' len cap hm hb hl hn hc hr=>rw[g]at hm;cases hm;exact⟨len,cap,hl,rfl,hn,hc,hr⟩
 |sownv _ _ _ _ _ hm=>rw[g]at hm;cases hm
 |sownd _ _ _ _ _ _ _ hm=>rw[g]at hm;cases hm
theorem Rd.virt_sown [Bk] [Ev] {m:Nat→St} {A:Nat→Prop} {w:World} {T sz id:Nat} {n:Poly} {u:Value} (h:Rd m A w (.sown T sz id n) u) (g:m id=.virt):∃a,u=.slice a 0 0∧pev Ev.rho n=0:=by
 cases h with
 |pure _ _ h=>cases h
 |sown _ _ _ _ b' len cap hm hb hl hn hc hr=>rw[g]at hm;cases hm
 |sownv _ _ _ _ a hm hn=>exact⟨a,rfl,hn⟩
 |sownd _ _ _ _ _ _ _ hm=>rw[g]at hm;cases hm
theorem Rd.at_optr [Bk] [Ev] {m:Nat→St} {A:Nat→Prop} {w:World} {sz id off b:Nat} {p:Poly} {u:Value} (h:Rd m A w (.optr sz id p off) u) (g:m id=.at b):u=.pointer (some ⟨b,(pev Ev.rho p).toNat*sz+off,none⟩):=by
 cases h with
 |pure _ _ h=>cases h
 |optr _ _ _ _ b' hm hb=>rw[g]at hm;cases hm;rfl
 |optrd _ _ _ _ u hm=>rw[g]at hm;cases hm
theorem HRel.sc_block [Bk] [Ev] {m:Nat→St} {A:Nat→Prop} {w:World} (H:HRel m A h w) {id T sz base i:Nat} {ups:List (Poly×List AV)} {tail:List (List AV)} {n:Poly} {e:List AV} (hh:h id=.sc T sz base ups tail n) (he:(rowsOf base ups tail)[i]?=some e) :
  ∃b cs,m id=.at b∧w.heap[b]?=some (.cells cs T (0,0))∧(rowsOf base ups tail).length*sz≤cs.size∧(∀e∈rowsOf base ups tail,e.length=sz)∧∀(i j:Nat) (x:AV),at2 (rowsOf base ups tail) i j=some x→x.one=true∧Rd m A w x (cs.getD (i*sz+j) Go.undef):=by
 obtain⟨-,e0⟩|h:=H.arrs id T sz (rowsOf base ups tail) (by rw[hh];rfl)
 ·rw[e0]at he;simp at he
 ·exact h
theorem HRel.sc_ok [Bk] [Ev] {m:Nat→St} {A:Nat→Prop} {w:World} (H:HRel m A h w) {id T sz base:Nat} {ups:List (Poly×List AV)} {tail:List (List AV)} {n:Poly} (hh:h id=.sc T sz base ups tail n) :
  pev Ev.rho n=((rowsOf base ups tail).length:Int)∧∀q∈ups,InB base q.1:=by
 have:=H.scs id
 rw[hh]at this
 exact this
def seqLen [Bk] (h:AH):AV→Option Poly
 | .seq _ base _ tail=>(lenOf base Bk.lens).map fun n=>padd n (plit tail.length)
 | .sown T sz id n=>match h id with
  | .sc T' sz' _ _ _ n'=>if T'=T∧sz'=sz∧n'=n then some n else none
  |_=>none
 |_=>none
def idS:AV→List Nat
 | .sown _ _ id _=>[id]
 | .optr _ id _ _=>[id]
 |_=>[]
theorem seqLen_ok [Bk] [Ev] {m:Nat→St} {A:Nat→Prop} {w:World} (H:HRel m A h w) {x:AV} {n:Poly} {v:Value} (hn:seqLen h x=some n) (hr:Rd m A w x v):∃a len cap,v=.slice a len cap∧(len:Int)=pev Ev.rho n:=by
 unfold seqLen at hn
 split at hn
 ·rename_i sz base ups tail
  rw[Option.map_eq_some_iff]at hn
  obtain⟨n0,h0,rfl⟩:=hn
  have e0:=lenOf_seq h0
  have hl:=rowsOf_len base ups tail
  have hp:pev Ev.rho (padd n0 (plit tail.length))=((rowsOf base ups tail).length:Int):=by rw[pev_padd,pev_plit];omega
  obtain⟨-,h2⟩:=hr.seq_inv
  obtain⟨he,a,cap,rfl⟩|⟨b,off,cap,vs,rfl,-⟩:=h2.lit_inv
  ·rw[he]at hp;exact⟨a,0,cap,rfl,by rw[hp];rfl⟩
  ·exact⟨_,_,cap,rfl,hp.symm⟩
 ·rename_i T sz id n0
  split at hn
  ·rename_i T' sz' base ups tail n' hh
   split at hn
   ·rename_i hc
    obtain⟨rfl,rfl,rfl⟩:=hc
    cases hn
    rcases H.arrs id T' sz' (rowsOf base ups tail) (by rw[hh];rfl)with⟨hv,e0⟩|⟨b,cs,g1,-⟩
    ·obtain⟨a,rfl,e⟩:=hr.virt_sown hv
     exact⟨a,0,0,rfl,by rw[e];rfl⟩
    ·obtain⟨len,cap,e,rfl,-⟩:=hr.at_sown g1
     exact⟨_,len,cap,rfl,e.symm⟩
   ·cases hn
  ·cases hn
 ·cases hn
theorem op_len_seq [Bk] [Ev] {t:TypeId} {x:Operand} {e:TypeId} {n:Poly} {rds:List Nat} (ho:o.op=.call { callee:=.builtin .len,args:=#[x],argTypes:=#[t] }) (hu:P.underlying t=some (.slice e)) (hn:seqLen h (aev f x)=some n):OpOk P o f h ⟨mkE n,[],rds⟩:=by
 refine op_pure fun m A w a H F=>?_
 obtain⟨ad,len,cap,hv,hl⟩:=seqLen_ok H hn (F.eval x)
 refine⟨_,?_,.pure _ _ (RdL_mkE _ w n)⟩
 simp[execOp,ho,resolve,invoke,builtin,hv,Builtin.len_,run_underlying hu,goInt,hl]
def inIx [Bk] (p n:Poly):Bool:=ltB p==some false&&ltB (psub p n)==some true
theorem inIx_ok [Bk] [Ev] {p n:Poly} (h:inIx p n=true):0≤pev Ev.rho p∧pev Ev.rho p<pev Ev.rho n:=by
 unfold inIx at h
 rw[Bool.and_eq_true,beq_iff_eq,beq_iff_eq]at h
 have c1:=of_decide_eq_false (ltB_ok h.1).symm
 have c2:=of_decide_eq_true (ltB_ok h.2).symm
 rw[pev_psub]at c2
 omega
theorem op_indexAddr_seq [Bk] [Ev] {t e:TypeId} {x ix:Operand} {sz base:Nat} {ups:List (Poly×List AV)} {tail:List (List AV)} {p n:Poly} (ho:o.op=.indexAddr t x ix) (hx:aev f x=.seq sz base ups tail) (hi:toP (aev f ix)=some p) (hu:P.underlying t=some (.slice e)) (hs:(P.info? e).map (·.size)=some sz)
  (hn:seqLen h (.seq sz base ups tail)=some n) (hp:inIx p n=true):OpOk P o f h ⟨.sptr sz base ups tail p 0,[],[]⟩:=by
 refine op_pure fun m A w a H F=>?_
 have h1:=F.eval x
 rw[hx]at h1
 have e2:=toP_ok hi (F.eval ix)
 obtain⟨p0,p1⟩:=inIx_ok hp
 obtain⟨ad,len,cap,hv,hl⟩:=seqLen_ok H hn h1
 obtain⟨hin,h2⟩:=h1.seq_inv
 cases hpi:P.info? e with
 |none=>simp[hpi]at hs
 |some ti =>
  simp only[hpi,Option.map_some,Option.some.injEq]at hs
  obtain⟨he,a',cap',hv'⟩|⟨b,off,cap',vs,hv',hA,hb,hc,hsz,k1,kv,kr⟩:=h2.lit_inv
  ·rw[hv']at hv;cases hv;omega
  ·have hlt:pev Ev.rho p<((rowsOf base ups tail).length:Int):=by rw[hv']at hv;cases hv;omega
   refine⟨.pointer (some ⟨b,off+((pev Ev.rho p).toNat*sz+0),none⟩),?_,.pure _ _ (.sptr sz base ups tail p 0 _ hin rfl p0 (.lptr sz _ _ 0 b off vs hA hb hsz k1 kv kr))⟩
   simp[execOp,ho,hv',e2,Instr.indexAt,asIntOf,run_underlying hu,p0,hlt,sizeOf,typeInfo,hpi,hs,addr_add]
theorem op_indexAddr_sown [Bk] [Ev] {t e:TypeId} {x ix:Operand} {T sz id:Nat} {p n:Poly} (ho:o.op=.indexAddr t x ix) (hx:aev f x=.sown T sz id n) (hi:toP (aev f ix)=some p) (hu:P.underlying t=some (.slice e)) (hs:(P.info? e).map (·.size)=some sz)
  (hn:seqLen h (.sown T sz id n)=some n) (hp:inIx p n=true):OpOk P o f h ⟨.optr sz id p 0,[],[id]⟩:=by
 refine op_pure fun m A w a H F=>?_
 have h1:=F.eval x
 rw[hx]at h1
 have e2:=toP_ok hi (F.eval ix)
 obtain⟨p0,p1⟩:=inIx_ok hp
 cases hpi:P.info? e with
 |none=>simp[hpi]at hs
 |some ti =>
  simp only[hpi,Option.map_some,Option.some.injEq]at hs
  simp only[seqLen]at hn
  split at hn
  ·rename_i T' sz' base ups tail n' hh
   split at hn
   ·rename_i hc
    obtain⟨rfl,rfl,rfl⟩:=hc
    rcases H.arrs id T' sz' (rowsOf base ups tail) (by rw[hh];rfl)with⟨hv,e0⟩|⟨b,cs,g1,-⟩
    ·obtain⟨a,-,e⟩:=h1.virt_sown hv
     omega
    ·obtain⟨len,cap,e,hv,-⟩:=h1.at_sown g1
     have hlt:pev Ev.rho p<(len:Int):=by omega
     refine⟨.pointer (some ⟨b,(pev Ev.rho p).toNat*sz'+0,none⟩),?_,.optr sz' id p 0 b g1 (H.lt g1)⟩
     simp[execOp,ho,hv,e2,Instr.indexAt,asIntOf,run_underlying hu,p0,hlt,sizeOf,typeInfo,hpi,hs,addr_add]
   ·cases hn
  ·cases hn
def rowS [Bk] (h:AH):AV→Option (Nat×Nat×List AV)
 | .sptr sz base ups tail p off=>(rowAt base ups tail p).map fun r=>(sz,off,r)
 | .optr sz id p off=>match h id with
  | .sc _ sz' base ups tail _=>if sz'=sz∧ltB p=some false then(rowAt base ups tail p).map fun r=>(sz,off,r)else none
  |_=>none
 |_=>none
def shiftS (k:Nat):AV→AV
 | .sptr sz base ups tail p off=>.sptr sz base ups tail p (off+k)
 | .optr sz id p off=>.optr sz id p (off+k)
 |x=>x
theorem rowS_ok [Bk] [Ev] {m:Nat→St} {A:Nat→Prop} {w:World} (H:HRel m A h w) {x:AV} {sz off:Nat} {r:List AV} {v:Value} (hx:rowS h x=some (sz,off,r)) (hr:Rd m A w x v) :
  ∃b o0,∃vs:Nat→Value,v=.pointer (some ⟨b,o0+off,none⟩)∧(∀j y,r[j]?=some y→y.one=true∧w.cell? ⟨b,o0+j,none⟩=some (vs j)∧Rd m A w y (vs j))∧∀k,Rd m A w (shiftS k x) (.pointer (some ⟨b,o0+(off+k),none⟩)):=by
 unfold rowS at hx
 split at hx
 ·rename_i sz' base ups tail p off'
  rw[Option.map_eq_some_iff]at hx
  obtain⟨r',hra,he⟩:=hx
  cases he
  cases hr with
  |pure _ _ hr =>
   cases hr with
   |sptr _ _ _ _ _ _ _ hin h1 hp hr =>
    obtain⟨r0,k1,k2⟩:=rowAt_ok hin hp hra
    cases hr with
    |lptr _ _ _ _ b o0 vs hA hb hsz q1 qv qr =>
     refine⟨b,o0+(pev Ev.rho p).toNat*sz,vs (pev Ev.rho p).toNat,by rw[Nat.add_assoc],?_,?_⟩
     ·intro j y hy
      obtain⟨x,hx,hl⟩:=k2.2 j y hy
      have ha:at2 (rowsOf base ups tail) (pev Ev.rho p).toNat j=some x:=by simp[at2,k1,hx]
      refine⟨by rw[←hl.one];exact q1 _ _ _ ha,?_,.pure _ _ (hl.rdL (qr _ _ _ ha))⟩
      have:=qv _ _ _ ha
      rw[←this];congr 2;omega
     ·intro k
      refine .pure _ _ (.sptr sz base ups tail p (off+k) _ hin rfl hp ?_)
      have:=RdL.lptr (A:=Av m A) (w:=w) sz (rowsOf base ups tail) (pev Ev.rho p).toNat (off+k) b o0 vs hA hb hsz q1 qv qr
      rw[show o0+(pev Ev.rho p).toNat*sz+(off+k)=o0+((pev Ev.rho p).toNat*sz+(off+k))by omega]
      exact this
 ·rename_i sz' id p off'
  split at hx
  ·rename_i T sz2 base ups tail n hh
   split at hx
   ·rename_i hc
    obtain⟨rfl,hp⟩:=hc
    have hp:=of_decide_eq_false (ltB_ok hp).symm
    rw[Option.map_eq_some_iff]at hx
    obtain⟨r',hra,he⟩:=hx
    cases he
    obtain⟨hn,hin⟩:=H.sc_ok hh
    obtain⟨r0,k1,k2⟩:=rowAt_ok hin (by omega) hra
    obtain⟨b,cs,g1,g2,g3,g4,g5⟩:=H.sc_block hh k1
    refine⟨b,(pev Ev.rho p).toNat*sz,fun j=>cs.getD ((pev Ev.rho p).toNat*sz+j) Go.undef,hr.at_optr g1,?_,?_⟩
    ·intro j y hy
     obtain⟨x,hx,hl⟩:=k2.2 j y hy
     have ha:at2 (rowsOf base ups tail) (pev Ev.rho p).toNat j=some x:=by simp[at2,k1,hx]
     obtain⟨q1,q2⟩:=g5 _ _ _ ha
     refine⟨by rw[←hl.one];exact q1,?_,hl.rd q2⟩
     have:=(at2_len ha g4).2.2
     have hlt:(pev Ev.rho p).toNat*sz+j<cs.size:=by omega
     simp[World.cell?,g2,hlt]
    ·intro k
     exact .optr sz id p (off+k) b g1 (H.lt g1)
   ·cases hx
  ·cases hx
 ·cases hx
theorem op_load_s [Bk] [Ev] {t:TypeId} {x:Operand} {sz off:Nat} {r:List AV} {v:AV} {rds:List Nat} (ho:o.op=.load t x) (hx:rowS h (aev f x)=some (sz,off,r)) (hp:partA P t r off=some v):OpOk P o f h ⟨v,[],rds⟩:=by
 refine op_pure fun m A w a H F=>?_
 obtain⟨b,o0,vs,hv,k1,-⟩:=rowS_ok H hx (F.eval x)
 obtain⟨u,r1,r2⟩:=loadVar_ok (P:=P) (m:=m) (A:=A) (w:=w) (b:=b) (o0:=o0) (vs:=vs) hp k1
 exact⟨u,by simp[execOp,ho,hv,Instr.loadAt,Instr.sureAddr,r1],r2⟩
theorem op_nilCheck_s [Bk] [Ev] {x:Operand} {sz off:Nat} {r:List AV} {rds:List Nat} (ho:o.op=.nilCheck x) (hx:rowS h (aev f x)=some (sz,off,r)):OpOk P o f h ⟨aev f x,[],rds⟩:=by
 refine op_pure fun m A w a H F=>?_
 have h1:=F.eval x
 obtain⟨b,o0,vs,hv,k1,-⟩:=rowS_ok H hx h1
 refine⟨a.eval x,?_,h1⟩
 rw[hv]
 simp[execOp,ho,hv]
theorem op_fieldAddr_s [Bk] [Ev] {t:TypeId} {x:Operand} {k ty o' n sz off:Nat} {r:List AV} {rds:List Nat} (ho:o.op=.fieldAddr t x k) (hx:rowS h (aev f x)=some (sz,off,r)) (hf:fieldOf P t k=some (ty,o',n)) (hn:n≠0):OpOk P o f h ⟨shiftS o' (aev f x),[],rds⟩:=by
 refine op_pure fun m A w a H F=>?_
 obtain⟨b,o0,vs,hv,-,k2⟩:=rowS_ok H hx (F.eval x)
 refine⟨_,?_,k2 o'⟩
 rw[←Nat.add_assoc]
 simp[execOp,ho,hv,fieldAt_run hf hn]
theorem op_indexAddr_s [Bk] [Ev] {t e:TypeId} {x ix:Operand} {sz off len s:Nat} {r:List AV} {k:IntKind} {n:Int} {rds:List Nat} (ho:o.op=.indexAddr t x ix) (hx:rowS h (aev f x)=some (sz,off,r)) (hi:aev f ix=.c (.int k n)) (hu:P.underlying t=some (.array len e)) (hs:(P.info? e).map (·.size)=some s) (h0:0≤n) (hn:n.toNat<len) :
  OpOk P o f h ⟨shiftS (n.toNat*s) (aev f x),[],rds⟩:=by
 refine op_pure fun m A w a H F=>?_
 have h2:=F.eval ix
 rw[hi]at h2
 have e2:=h2.c_inv
 obtain⟨b,o0,vs,hv,-,k2⟩:=rowS_ok H hx (F.eval x)
 cases hp:P.info? e with
 |none=>simp[hp]at hs
 |some ti =>
  simp only[hp,Option.map_some,Option.some.injEq]at hs
  have hlt:n<(len:Int):=by omega
  refine⟨_,?_,k2 (n.toNat*s)⟩
  simp[execOp,ho,hv,e2,Instr.indexAt,asIntOf,run_underlying hu,h0,hlt,sizeOf,typeInfo,hp,hs,addr_add,Instr.sureAddr,Nat.add_assoc]
theorem store_okB [Bk] [Ev] {m:Nat→St} {A:Nat→Prop} {w:World} (H:HRel m A h w) {T sz id i off b:Nat} {els:List (List AV)} {e e0 xs:List AV} {us:Array Value} {B:Blk} (hh:(h id).els=some (T,sz,els)) (hm:m id=.at b) (he:els[i]?=some e0) (hlk:LikeL e0 e) (hx:CR (Rd m A w) xs us) (hl:off+xs.length≤sz)
  (hB:B.els=some (T,sz,els.set i (splice e off xs))) (hS:ScOk B) :
  ∃w',(storeCells ⟨b,i*sz+off,none⟩ us.toList).run P w=.ok () w'∧HRel m A (bset h id B) w'∧Ext m w m w':=by
 obtain⟨hv,-⟩|⟨b',cs,g1,g2,g3,g4,g5⟩:=H.arrs id T sz els hh
 ·rw[hm]at hv;cases hv
 rw[hm]at g1;cases g1
 have hi:i<els.length:=(List.getElem?_eq_some_iff.1 he).1
 have hel:e.length=sz:=by rw[←hlk.1];exact g4 e0 (List.mem_of_getElem? he)
 have hmul:(i+1)*sz≤els.length*sz:=Nat.mul_le_mul_right _ hi
 rw[Nat.succ_mul]at hmul
 have hul:us.toList.length=xs.length:=by simpa using hx.1
 have hfit:i*sz+off+0+us.toList.length≤cs.size:=by rw[hul];omega
 have h1:∀v∈us.toList,v.oneCell'=true:=by
  intro v hv
  obtain⟨k,hk,rfl⟩:=List.getElem_of_mem hv
  have hk':k<xs.length:=by omega
  have:=hx.2 k xs[k] (by simp[hk'])
  have:=this.2.one this.1
  simpa[show k<us.size by simpa using hk]using this
 have hst:=run_storeCells_at P b (i*sz+off) T us.toList 0 cs w g2 hfit h1
 refine⟨_,hst,?_⟩
 have hsz:(cs.toList.take (i*sz+off+0)++us.toList++cs.toList.drop (i*sz+off+0+us.toList.length)).toArray.size=cs.size:=by simp only[List.size_toArray,List.length_append,List.length_take,List.length_drop,hul,Array.length_toList];rw[hul]at hfit;omega
 have hget:∀k,(cs.toList.take (i*sz+off+0)++us.toList++cs.toList.drop (i*sz+off+0+us.toList.length)).toArray.getD k Go.undef=if i*sz+off≤k∧k<i*sz+off+xs.length then us.getD (k-(i*sz+off)) Go.undef else cs.getD k Go.undef:=by
  intro k
  have:=splice_get (cs:=cs.toList) (off:=i*sz+off) (xs:=us.toList) (by simpa using hfit) k
  unfold splice at this
  have e1:∀(l:List Value),l.toArray.getD k Go.undef=(l[k]?).getD Go.undef:=by intro l;simp
  rw[e1,Nat.add_zero,this,hul]
  split
  ·simp
  ·simp
 refine H.writeB hB hS hm (setRow_heap w b cs _ T _ g2) g2 hsz (fun k hk=>setRow_other w b k _ hk) rfl rfl rfl (by simp) ?_ ?_ ?_
 ·rw[hsz,List.length_set];exact g3
 ·intro e' he'
  rcases List.mem_or_eq_of_mem_set he' with h|h
  ·exact g4 _ h
  ·subst h;rw[splice_len (by omega)];exact hel
 ·intro i' j x hx'
  unfold at2 at hx'
  rw[List.getElem?_set]at hx'
  split at hx'
  ·rename_i hii
   subst hii
   simp only[hi,if_true,Option.bind_some]at hx'
   rw[splice_get (by omega)]at hx'
   rw[hget]
   split at hx'
   ·rename_i hj
    rw[if_pos (by omega)]
    have:=hx.2 _ _ hx'
    refine⟨this.1,?_⟩
    rw[show i*sz+j-(i*sz+off)=j-off by omega];exact this.2
   ·rename_i hj
    obtain⟨y,hy,hly⟩:=hlk.2 j x hx'
    obtain⟨q1,q2⟩:=g5 i j y (by simp[at2,he,hy])
    have hj':j<sz:=by rw[←hel];exact(List.getElem?_eq_some_iff.1 hx').1
    rw[if_neg (by omega)]
    exact⟨by rw[←hly.one];exact q1,hly.rd q2⟩
  ·rename_i hii
   have ha:at2 els i' j=some x:=hx'
   have hb:=at2_len ha g4
   rw[hget,if_neg]
   ·exact g5 i' j x ha
   ·rintro⟨k1,k2⟩
    rcases Nat.lt_or_ge i' i with hlt|hge
    ·have:(i'+1)*sz≤i*sz:=Nat.mul_le_mul_right _ hlt
     rw[Nat.succ_mul]at this
     omega
    ·have:(i+1)*sz≤i'*sz:=Nat.mul_le_mul_right _ (by omega)
     rw[Nat.succ_mul]at this
     omega
def storeS [Bk] (h:AH) (x:AV) (xs:List AV):Option (Nat×Blk):=match x with
 | .optr sz id p off=>match h id with
  | .sc T sz' base ups tail n=>if sz'=sz∧off+xs.length≤sz∧ltB p=some false then match rowAt base ups tail p with
    |some e=>match rowSet base ups tail p (splice e off xs)with
     |some q=>some (id,.sc T sz base q.1 q.2 n)
     |none=>none
    |none=>none
   else none
  |_=>none
 |_=>none
theorem op_store_s [Bk] [Ev] {t:TypeId} {x y:Operand} {xs:List AV} {q:Nat×Blk} {rds:List Nat} (ho:o.op=.store t x y) (hy:cellsA (aev f y)=some xs) (ht:(P.info? t).map (·.size)=some xs.length) (hq:storeS h (aev f x) xs=some q):OpOk P o f h ⟨.undef,[q],rds⟩:=by
 intro m A w a H F
 unfold storeS at hq
 split at hq
 ·rename_i sz id p off hx
  split at hq
  ·rename_i T sz' base ups tail n hh
   split at hq
   ·rename_i hc
    obtain⟨rfl,hl,hp⟩:=hc
    have hp:=of_decide_eq_false (ltB_ok hp).symm
    split at hq
    ·rename_i e he
     split at hq
     ·rename_i u hu
      cases hq
      obtain⟨u1,u2⟩:=u
      obtain⟨hn,hin⟩:=H.sc_ok hh
      obtain⟨r0,k1,k2⟩:=rowAt_ok hin (by omega) he
      obtain⟨s1,s2,-⟩:=rowSet_ok hin hu
      obtain⟨b,cs,g1,-⟩:=H.sc_block hh k1
      have h1:=F.eval x
      rw[hx]at h1
      have hv:=h1.at_optr g1
      have hcr:=CR_cells (F.eval y) hy
      obtain⟨w',r1,r2,r3⟩:=store_okB (P:=P) H (B:=.sc T sz' base u1 u2 n) (by rw[hh];rfl) g1 k1 k2 hcr hl (by simp only[Blk.els];rw[s1]) ⟨by rw[s1,List.length_set];exact hn,s2⟩
      cases hi:P.info? t with
      |none=>simp[hi]at ht
      |some ti =>
       simp only[hi,Option.map_some,Option.some.injEq]at ht
       refine⟨Go.undef,w',m,.inr ⟨?_,rfl⟩,r2,.pure _ _ .undef,r3⟩
       have hs:(a.eval y).cells.size=xs.length:=hcr.1
       simp[execOp,ho,hv,Instr.storeAt,Instr.sureAddr,storeVar,sizeOf,typeInfo,hi,ht,hs,r1]
     ·cases hq
    ·cases hq
   ·cases hq
  ·cases hq
 ·cases hq
end
end Go.Proofs.Ytjccjmmbebiegaa.Mc
set_option linter.unusedVariables false
set_option linter.unusedSimpArgs false
namespace Go.Proofs.Ytjccjmmbebiegaa.Mc
open Go.RowKit
section
variable {P:Program} {o:Oper} {f:List AV} {h:AH}
def BaseOk [Bk] [Ev] (h:AH) (x:AV) (e sz:Nat) (els:List (List AV)) (k:List (Nat×Blk)):Prop :=
 ∀m A w v,HRel m A h w→Rd m A w x v→(k=[]∧els=[]∧∃a0,v=.slice a0 0 0) ∨
  ∃id,k=[(id,.dead)]∧(h id).els=some (e,sz,els)∧((m id=.virt∧∃a0,v=.slice a0 0 0)∨∃b cap,m id=.at b∧v=.slice (some ⟨b,0,none⟩) els.length cap∧els.length≤cap∧cap≤maxLen∧cap*sz=rowSize w b)
def SrcOk [Bk] [Ev] (h:AH) (y:AV) (sz:Nat) (ys:List (List AV)):Prop :=
 ∀m A w v,HRel m A h w→Rd m A w y v→(∀q∈ys,q.length=sz)∧∃a cap,v=.slice a ys.length cap∧ys.length≤cap∧(a=none→ys=[])∧∃news:List Value,news.length=ys.length*sz∧(∀ad,a=some ad→∀j u,news[j]?=some u→w.cell? (ad.add j)=some u)∧(∀u∈news,u.oneCell'=true) ∧
   ∀(i j:Nat) (y:AV),at2 ys i j=some y→y.one=true∧Rd m A w y (news.getD (i*sz+j) Go.undef)
theorem SrcOk.els [Bk] [Ev] {y:AV} {sz:Nat} {ys:List (List AV)} (hy:elsA h y=some ys) (hys:∀q∈ys,q.length=sz) (hyo:∀T s id j n,y=.own T s id j n→s=sz):SrcOk h y sz ys :=
 fun m A w v H hr=>⟨hys,src_ok H hr hy hys hyo⟩
theorem SrcOk.seq [Bk] [Ev] {sz base:Nat} {ups:List (Poly×List AV)} {tail:List (List AV)}:SrcOk h (.seq sz base ups tail) sz (rowsOf base ups tail):=by
 intro m A w v H hr
 obtain⟨hin,h2⟩:=hr.seq_inv
 have hsz:∀q∈rowsOf base ups tail,q.length=sz:=by
  obtain⟨he,-⟩|⟨b,off,cap,vs,-,-,-,-,hsz,-⟩:=h2.lit_inv
  ·rw[he];intro q hq;exact absurd hq List.not_mem_nil
  ·exact hsz
 exact⟨hsz,src_ok (els:=rowsOf base ups tail) H h2 rfl hsz (by intro T s id i n hx;cases hx)⟩
theorem SrcOk.sown [Bk] [Ev] {T sz id base:Nat} {n n':Poly} {ups:List (Poly×List AV)} {tail:List (List AV)} (hh:h id=.sc T sz base ups tail n') (hn:n'=n):SrcOk h (.sown T sz id n) sz (rowsOf base ups tail):=by
 subst hn
 intro m A w v H hr
 obtain⟨hl,hin⟩:=H.sc_ok hh
 rcases H.arrs id T sz (rowsOf base ups tail) (by rw[hh];rfl)with⟨hv,e0⟩|⟨b,cs,g1,g2,g3,g4,g5⟩
 ·obtain⟨a,rfl,e⟩:=hr.virt_sown hv
  rw[e0]
  refine⟨fun q hq=>absurd hq List.not_mem_nil,a,0,rfl,Nat.le_refl _,fun _=>rfl,[],by simp,?_,?_,?_⟩
  ·intro ad _ j u hu;simp at hu
  ·intro u hu;simp at hu
  ·intro i j y hy;simp[at2]at hy
 ·obtain⟨len,cap,e,rfl,hn,-,hrow⟩:=hr.at_sown g1
  have hlen:len=(rowsOf base ups tail).length:=by omega
  subst hlen
  have hrow':cap*sz=cs.size:=by rw[hrow];simp[rowSize,g2]
  have hl:(cs.toList.take ((rowsOf base ups tail).length*sz)).length=(rowsOf base ups tail).length*sz:=by simp;omega
  have hg:∀(i j:Nat) (y:AV),at2 (rowsOf base ups tail) i j=some y→y.one=true∧Rd m A w y ((cs.toList.take ((rowsOf base ups tail).length*sz)).getD (i*sz+j) Go.undef):=by
   intro i j y hy
   have hb:=at2_len hy g4
   obtain⟨q1,q2⟩:=g5 _ _ _ hy
   refine⟨q1,?_⟩
   have:(cs.toList.take ((rowsOf base ups tail).length*sz)).getD (i*sz+j) Go.undef=cs.getD (i*sz+j) Go.undef:=by
    rw[List.getD,List.getElem?_take,if_pos hb.2.2]
    simp
   rw[this];exact q2
  refine⟨g4,some ⟨b,0,none⟩,cap,rfl,hn,(fun h=>by cases h),_,hl,?_,?_,hg⟩
  ·intro ad had j u hu
   cases had
   rw[addr_add]
   rw[List.getElem?_take]at hu
   split at hu
   ·simp only[World.cell?,g2]
    simpa using hu
   ·cases hu
  ·intro u hu
   obtain⟨k,hk,rfl⟩:=List.getElem_of_mem hu
   obtain⟨y,hy⟩:=flat_get g4 (k:=k) (by omega)
   obtain⟨h1,h2⟩:=hg _ _ _ hy
   have e1:k/sz*sz+k%sz=k:=by rw[Nat.mul_comm];exact Nat.div_add_mod k sz
   rw[e1]at h2
   have:=h2.one h1
   rw[List.getD,List.getElem?_eq_getElem hk]at this
   exact this
theorem BaseOk.emp [Bk] [Ev] {e sz:Nat}:BaseOk h .emp e sz [] []:=by
 intro m A w v H hr
 cases hr with|pure _ _ hr=>cases hr with|emp a0=>exact .inl ⟨rfl,rfl,a0,rfl⟩
theorem BaseOk.own [Bk] [Ev] {T s id n:Nat} {els:List (List AV)} (hh:h id=.cells T s els) (hn:n=els.length):BaseOk h (.own T s id 0 n) T s els [(id,.dead)]:=by
 subst hn
 intro m A w v H hr
 refine .inr ⟨id,rfl,by rw[hh];rfl,?_⟩
 rcases H.cells id _ _ _ hh with⟨hv,rfl⟩|⟨b,cs,g1,g2,g3,g4,g5⟩
 ·refine .inl ⟨hv,?_⟩
  cases hr with
  |pure _ _ h=>cases h
  |own _ _ _ _ _ b _ hm=>rw[hv]at hm;cases hm
  |ownv _ _ _ _ a hm=>exact⟨a,rfl⟩
  |ownd _ _ _ _ _ _ _ _ hm=>rw[hv]at hm;cases hm
 ·obtain⟨cap,hv0,hn0,hcm,hrow⟩:=hr.at_own g1
  exact .inr ⟨b,cap,g1,by rw[hv0];simp,hn0,hcm,by simpa using hrow⟩
theorem BaseOk.sown [Bk] [Ev] {T s id base:Nat} {n n':Poly} {ups:List (Poly×List AV)} {tail:List (List AV)} (hh:h id=.sc T s base ups tail n') (hn:n'=n):BaseOk h (.sown T s id n) T s (rowsOf base ups tail) [(id,.dead)]:=by
 subst hn
 intro m A w v H hr
 obtain⟨hl,hin⟩:=H.sc_ok hh
 refine .inr ⟨id,rfl,by rw[hh];rfl,?_⟩
 rcases H.arrs id T s (rowsOf base ups tail) (by rw[hh];rfl)with⟨hv,e0⟩|⟨b,cs,g1,g2,g3,g4,g5⟩
 ·obtain⟨a,rfl,e⟩:=hr.virt_sown hv
  exact .inl ⟨hv,a,rfl⟩
 ·obtain⟨len,cap,e,rfl,hn,hcm,hrow⟩:=hr.at_sown g1
  have hlen:len=(rowsOf base ups tail).length:=by omega
  subst hlen
  exact .inr ⟨b,cap,g1,rfl,hn,hcm,hrow⟩
theorem op_append_s [Bk] [Ev] {t e:TypeId} {x y:Operand} {els ys:List (List AV)} {k:List (Nat×Blk)} {rds:List Nat} {i:TypeInfo} {z:Value} {nx:Nat} {B:Blk} {n:Poly} (ho:o.op=.call { callee:=.builtin .append,args:=#[x,y],argTypes:=#[t,t] }) (ht:P.underlying t=some (.slice e)) (hi:P.info? e=some i) (hz:i.zero=some z) (hzs:z.cells.size=i.size) (hs0:0<i.size)
  (hx:BaseOk h (aev f x) e i.size els k) (hy:SrcOk h (aev f y) i.size ys) (hb:(els.length+ys.length)*i.bytes≤140737488355328) (hm:els.length+ys.length≤1099511627776) (hnx:h nx=.no)
  (hB:B.els=some (e,i.size,els++ys)) (hSn:∀m A w v u,HRel m A h w→Rd m A w (aev f x) v→Rd m A w (aev f y) u→ScOk B∧pev Ev.rho n=((els.length+ys.length:Nat):Int)) :
  OpOk P o f h ⟨.sown e i.size nx n,k++[(nx,B)],rds⟩:=by
 intro m A w a H F
 have gx:=F.eval x
 have gy:=F.eval y
 obtain⟨hS,hn⟩:=hSn m A w _ _ H gx gy
 obtain⟨hys,a1,c1,hv1,hc1,hn1,news,hl,hnews,hone,hrd⟩:=hy m A w _ H gy
 have hexec:∀v w',(Builtin.append_ #[t,t] o.type #[a.eval x,a.eval y]).run P w=.ok v w'→(execOp a.eval o).run P w=.ok (.value v) w':=by
  intro v w' hr
  simp[execOp,ho,resolve,invoke,builtin,hr]
 have fresh:∀(m1:Nat→St) (h1:AH) (hk:upsB h (k++[(nx,B)])=bset h1 nx B) (H1:HRel m1 A h1 w) (E1:Ext m w m1 w) (hnx1:h1 nx=.no) (a0:Option Addr) (hv0:a.eval x=.slice a0 0 0) (he:els=[]),
   ∃x' w' m',((execOp a.eval o).run P w=.ok (.value x') w'∨((execOp a.eval o).run P w=.ok .skip w'∧x'=Go.undef))∧HRel m' A (upsB h (k++[(nx,B)])) w'∧Rd m' A w' (.sown e i.size nx n) x'∧Ext m w m' w':=by
  intro m1 h1 hk H1 E1 hnx1 a0 hv0 he
  subst he
  rw[hk]
  rw[hv0,hv1]at hexec
  simp only[List.length_nil,Nat.zero_add,List.nil_append]at hm hb hn hB ⊢
  by_cases hys0:ys=[]
  ·subst hys0
   have hr:=run_append_none (P:=P) (.slice a0 0 0) a0 a1 0 0 c1 t o.type e i ht hi w (Nat.le_refl _) (fun _=>rfl)
   obtain⟨q1,q2⟩:=H1.virtualB hnx1 hB hS
   refine⟨_,w,_,.inl (hexec _ _ hr),q1,?_,E1.trans q2⟩
   exact .sownv e i.size nx n a0 (by simp[sset]) (by simpa using hn)
  ·have hpos:0<ys.length:=List.length_pos_iff.2 hys0
   obtain⟨ad,rfl⟩:∃ad,a1=some ad:=by
    cases a1 with
    |none=>exact absurd (hn1 rfl) hys0
    |some ad=>exact⟨ad,rfl⟩
   have hr:=run_append_emp (P:=P) a0 t o.type e i z ht hi hz w ad ys.length c1 news hl (fun j v hv=>hnews ad rfl j v hv) hpos (by omega) hb
   have hcap:ys.length≤grownCap w ys.length 0 e∧grownCap w ys.length 0 e≤maxLen:=by
    unfold grownCap Question.cut
    have:=Nat.mod_lt (w.tape w.drawn (.appendCap ys.length 0 e)) (show 0<2 ^ 63-ys.length by omega)
    simp only[maxLen]
    omega
   have hsize:(news.toArray++Builtin.zeroCells z.cells (grownCap w ys.length 0 e-ys.length)).size=grownCap w ys.length 0 e*i.size:=by
    simp only[Array.size_append,List.size_toArray,hl,Builtin.zeroCells,Array.size_map,Array.size_range,hzs]
    rw[←Nat.add_mul];congr 1;omega
   obtain⟨d1,d2⟩:=H1.drew
   obtain⟨q1,q2⟩:=d1.allocB (id:=nx) (T:=e) (sz:=i.size) (els:=ys) (cs:=news.toArray++Builtin.zeroCells z.cells (grownCap w ys.length 0 e-ys.length)) hB hS hnx1 (by rw[hsize];exact Nat.mul_le_mul_right _ hcap.1) hys (by
    intro i' j y hy'
    obtain⟨r1,r2⟩:=hrd i' j y hy'
    have hb2:=at2_len hy' hys
    have e1:(news.toArray++Builtin.zeroCells z.cells (grownCap w ys.length 0 e-ys.length)).getD (i'*i.size+j) Go.undef=news.getD (i'*i.size+j) Go.undef:=by
     have hlt:i'*i.size+j<news.length:=by omega
     simp[Array.getElem?_append,hlt,List.getD]
    rw[e1]
    exact⟨r1,(r2.ext E1).ext d2⟩)
   refine⟨_,_,_,.inl (hexec _ _ hr),q1,?_,(E1.trans d2).trans q2⟩
   exact .sown e i.size nx n w.heap.size ys.length (grownCap w ys.length 0 e) (by simp[sset]) (by simp) hn hcap.1 hcap.2 (by
    rw[←hsize]
    have:(w.drew.alloc (.cells (news.toArray++Builtin.zeroCells z.cells (grownCap w ys.length 0 e-ys.length)) e)).heap[w.heap.size]?=some (.cells (news.toArray++Builtin.zeroCells z.cells (grownCap w ys.length 0 e-ys.length)) e (0,0)):=by
     show(w.heap.push _)[w.heap.size]?=_
     simp
    unfold rowSize;rw[this])
 obtain⟨rfl,he,a0,hv0⟩|⟨id,rfl,hid,hcase⟩:=hx m A w _ H gx
 ·exact fresh m h (by simp[upsB]) H (Ext.refl _ _) hnx a0 hv0 he
 ·have hne:nx≠id:=by rintro rfl;rw[hnx]at hid;simp[Blk.els]at hid
  rcases H.arrs id _ _ _ hid with⟨hv,e0⟩|⟨b,cs,g1,g2,g3,g4,g5⟩
  ·obtain⟨-,a0,hv0⟩|⟨b,cap,hmb,-⟩:=hcase
   ·obtain⟨q1,q2⟩:=H.kill hv
    exact fresh _ (bset h id .dead) (by simp[upsB]) q1 q2 (by rw[bset_other h _ hne];exact hnx) a0 hv0 e0
   ·rw[hv]at hmb;cases hmb
  ·obtain⟨hmv,-⟩|⟨b',cap,hmb,hv0,hn0,hcm,hrow⟩:=hcase
   ·rw[g1]at hmv;cases hmv
   rw[g1]at hmb;cases hmb
   have hrow':cap*i.size=cs.size:=by rw[hrow];simp[rowSize,g2]
   have hown:w.ownsRow 0 e i.size (.slice (some ⟨b,0,none⟩) els.length cap) els.length (cs.toList.take (els.length*i.size)):=by
    refine⟨by simp;omega,.inr ⟨b,cap,cs,rfl,Nat.zero_le _,g2,hn0,hcm,hrow'.symm,rfl⟩⟩
   rw[hv0,hv1]at hexec
   have hus:(cs.toList.take (els.length*i.size)).length=els.length*i.size:=by simp;omega
   have hrd0:∀(i' j:Nat) (y:AV),at2 els i' j=some y→y.one=true∧Rd m A w y ((cs.toList.take (els.length*i.size)).getD (i'*i.size+j) Go.undef):=by
    intro i' j y hy'
    have hb2:=at2_len hy' g4
    have:=g5 i' j y hy'
    rw[List.getD,List.getElem?_take,if_pos hb2.2.2]
    simpa using this
   have hjoin:=rows_join (R:=Rd m A w) (ys:=ys) g4 (us:=cs.toList.take (els.length*i.size)) (vs:=news) hus hrd0 hrd
   have hall:∀q∈els++ys,q.length=i.size:=by
    intro q hq
    rcases List.mem_append.1 hq with h|h
    ·exact g4 q h
    ·exact hys q h
   have fin:∀(v':Value) (w':World),(Builtin.append_ #[t,t] o.type #[.slice (some ⟨b,0,none⟩) els.length cap,.slice a1 ys.length c1]).run P w=.ok v' w'→w'.ownsRow 0 e i.size v' (els.length+ys.length) (cs.toList.take (els.length*i.size)++news)→w.grownBy w' (some b) →
     (v'.ownBlock=some b∨v'.ownBlock=some w.heap.size) →
     ∃x' w' m',((execOp a.eval o).run P w=.ok (.value x') w'∨((execOp a.eval o).run P w=.ok .skip w'∧x'=Go.undef))∧HRel m' A (upsB h ([(id,.dead)]++[(nx,B)])) w'∧Rd m' A w' (.sown e i.size nx n) x'∧Ext m w m' w':=by
    intro v' w' hr ho' hgr hblk
    obtain⟨ho1,ho2|⟨g,cap',cur,rfl,-,hg,hnc,hcm',hcs,htake⟩⟩:=ho'
    ·obtain⟨rfl,-⟩:=ho2
     simp[Value.ownBlock]at hblk
    ·have hgg:g=b∨w.heap.size≤g:=by
      simp[Value.ownBlock]at hblk
      omega
     have hglt:g<w'.heap.size:=by
      rcases Nat.lt_or_ge g w'.heap.size with h|h
      ·exact h
      ·simp[Array.getElem?_eq_none h]at hg
     obtain⟨q1,q2⟩:=H.renewB (id:=id) (nx:=nx) (g:=g) (cs':=cur) hB hS g1 hnx hgr hgg hglt hg (by rw[List.length_append,hcs];exact Nat.mul_le_mul_right _ hnc) hall (by
      intro i' j y hy'
      have hb2:=at2_len hy' hall
      obtain⟨r1,r2⟩:=hjoin i' j y hy'
      refine⟨r1,?_⟩
      have:(cs.toList.take (els.length*i.size)++news).getD (i'*i.size+j) Go.undef=cur.getD (i'*i.size+j) Go.undef:=by
       rw[←htake,List.getD,List.getElem?_take,if_pos (by rw[←List.length_append];exact hb2.2.2)]
       simp
      rw[←this];exact r2)
     refine⟨_,w',_,.inl (hexec _ _ hr),by simpa[upsB]using q1,?_,q2⟩
     exact .sown e i.size nx n g (els.length+ys.length) cap' (by simp[sset]) hglt hn hnc hcm' (by rw[←hcs];simp[rowSize,hg])
   cases a1 with
   |none =>
    have:=hn1 rfl
    subst this
    have hr:=run_append_none (P:=P) (.slice (some ⟨b,0,none⟩) els.length cap) (some ⟨b,0,none⟩) none els.length cap c1 t o.type e i ht hi w hn0 (by intro h;cases h)
    have hnil:news=[]:=by simpa using hl
    subst hnil
    refine fin _ _ hr ?_ ⟨rfl,rfl,rfl,Nat.le_refl _,fun _ _ _=>rfl⟩ (.inl rfl)
    simpa using hown
   |some ad =>
    obtain⟨v',w',r1,r2,r3,r4,r5⟩:=run_append_own_at (P:=P) w 0 t o.type e i z i.size i.bytes ht hi hz rfl rfl hzs hs0 (.slice (some ⟨b,0,none⟩) els.length cap) els.length _ hown ad ys.length c1 news hl (fun j u hu=>hnews ad rfl j u hu) hone (by simp only[maxLen];omega) hb (Nat.zero_le _)
    exact fin v' w' r1 r2 r3 (by simpa[Value.ownBlock]using r5)
def symOf [Bk] (h:AH):AV→Option (Nat×Nat×List (Poly×List AV)×List (List AV)×Poly)
 | .seq sz base ups tail=>(lenOf base Bk.lens).map fun n=>(sz,base,ups,tail,padd n (plit tail.length))
 | .sown T sz id n=>match h id with
  | .sc T' sz' base ups tail n'=>if T'=T∧sz'=sz∧n'=n then some (sz,base,ups,tail,n)else none
  |_=>none
 |_=>none
theorem symOf_h [Bk] {h h':AH} {x:AV} (e:∀id∈idS x,h' id=h id):symOf h' x=symOf h x:=by
 cases x<;>simp only[symOf]
 rename_i T sz id n
 rw[e id (by simp[idS])]
theorem symOf_src [Bk] [Ev] {h:AH} {x:AV} {sz base:Nat} {ups:List (Poly×List AV)} {tail:List (List AV)} {n:Poly} (hx:symOf h x=some (sz,base,ups,tail,n)):SrcOk h x sz (rowsOf base ups tail):=by
 unfold symOf at hx
 split at hx
 ·rw[Option.map_eq_some_iff]at hx
  obtain⟨n0,h0,he⟩:=hx
  cases he
  exact .seq
 ·split at hx
  ·rename_i hh
   split at hx
   ·rename_i hc
    obtain⟨rfl,rfl,rfl⟩:=hc
    cases hx
    exact .sown hh rfl
   ·cases hx
  ·cases hx
 ·cases hx
theorem symOf_ok [Bk] [Ev] {h:AH} {x:AV} {sz base:Nat} {ups:List (Poly×List AV)} {tail:List (List AV)} {n:Poly} (hx:symOf h x=some (sz,base,ups,tail,n)) {m:Nat→St} {A:Nat→Prop} {w:World} {v:Value} (H:HRel m A h w) (hr:Rd m A w x v) :
  (∀q∈ups,InB base q.1)∧pev Ev.rho n=((rowsOf base ups tail).length:Int):=by
 unfold symOf at hx
 split at hx
 ·rw[Option.map_eq_some_iff]at hx
  obtain⟨n0,h0,he⟩:=hx
  cases he
  have e0:=lenOf_seq h0
  have hl:=rowsOf_len base ups tail
  exact⟨hr.seq_inv.1,by rw[pev_padd,pev_plit];omega⟩
 ·split at hx
  ·rename_i hh
   split at hx
   ·rename_i hc
    obtain⟨rfl,rfl,rfl⟩:=hc
    cases hx
    obtain⟨h1,h2⟩:=H.sc_ok hh
    exact⟨h2,h1⟩
   ·cases hx
  ·cases hx
 ·cases hx
def fitN [Bk] (n:Poly) (bytes:Nat):Bool:=decide ((bnd n).2*bytes≤140737488355328)&&decide ((bnd n).2≤1099511627776)
theorem fitN_ok [Bk] [Ev] {n:Poly} {bytes len:Nat} (h:fitN n bytes=true) (hn:pev Ev.rho n=(len:Int)):len*bytes≤140737488355328∧len≤1099511627776:=by
 unfold fitN at h
 rw[Bool.and_eq_true,decide_eq_true_eq,decide_eq_true_eq]at h
 have k:=(bnd_ok n).2
 have:(len:Int)*bytes≤(bnd n).2*bytes:=Int.mul_le_mul_of_nonneg_right (by omega) (Int.natCast_nonneg _)
 have e:((len*bytes:Nat):Int)=(len:Int)*bytes:=by simp
 omega
def nilS (h:AH) (e sz:Nat):AV→Option (List (Nat×Blk)×List Nat)
 | .emp=>some ([],[])
 | .own T s id 0 0=>match h id with
  | .cells T' s' []=>if T'=T∧s'=s∧T=e∧s=sz then some ([(id,.dead)],[id])else none
  |_=>none
 |_=>none
theorem nilS_ok [Bk] [Ev] {h:AH} {e sz:Nat} {x:AV} {k:List (Nat×Blk)} {rd:List Nat} (hx:nilS h e sz x=some (k,rd)):BaseOk h x e sz [] k:=by
 unfold nilS at hx
 split at hx
 ·cases hx;exact .emp
 ·split at hx
  ·rename_i hh
   split at hx
   ·rename_i hc
    obtain⟨rfl,rfl,rfl,rfl⟩:=hc
    cases hx
    exact .own hh rfl
   ·cases hx
  ·cases hx
 ·cases hx
def appendS [Bk] (P:Program) (t:TypeId) (x y:AV) (h:AH) (nx:Nat):Option AR :=
 match P.underlying t with
 |some (.slice e)=>match P.info? e with
  |some i=>match i.zero with
   |some z=>if z.cells.size=i.size∧0<i.size∧newB h nx=true then match symOf h y with
     |some (sz,base,ups,tail,n)=>match nilS h e i.size x with
      |some (k,rd)=>if sz=i.size∧fitN n i.bytes=true then some ⟨.sown e i.size nx n,k++[(nx,.sc e i.size base ups tail n)],nx::rd++idS y⟩else none
      |none=>match x with
       | .sown T s id n0=>match h id with
        | .sc T' s' base' [] [] n1=>match Bk.cats.find? fun t=>t.1==base'&&t.2.1==base with
         |some q=>if ups.isEmpty=true∧tail.isEmpty=true∧T'=T∧s'=s∧n1=n0∧T=e∧s=i.size∧sz=i.size∧fitN (padd n0 n) i.bytes=true then
           some ⟨.sown e i.size nx (padd n0 n),[(id,.dead)]++[(nx,.sc e i.size q.2.2 [] [] (padd n0 n))],nx::id::idS y⟩else none
         |none=>none
        |_=>none
       |_=>none
     |none=>match x with
      | .sown T s id n0=>match h id with
       | .sc T' s' base ups tail n1=>match elsA h y with
        |some ys=>if T'=T∧s'=s∧n1=n0∧T=e∧s=i.size∧(ys.all fun q=>q.length==i.size)=true∧ownSz y i.size=true∧fitN (padd n0 (plit ys.length)) i.bytes=true then
          some ⟨.sown e i.size nx (padd n0 (plit ys.length)),[(id,.dead)]++[(nx,.sc e i.size base ups (tail++ys) (padd n0 (plit ys.length)))],nx::id::idOf y⟩else none
        |none=>none
       |_=>none
      |_=>none
    else none
   |none=>none
  |none=>none
 |_=>none
theorem appendS_ok [Bk] [Ev] {t:TypeId} {x y:Operand} {nx:Nat} {r:AR} (ho:o.op=.call { callee:=.builtin .append,args:=#[x,y],argTypes:=#[t,t] }) (hr:appendS P t (aev f x) (aev f y) h nx=some r):OpOk P o f h r:=by
 unfold appendS at hr
 split at hr
 ·rename_i e he
  split at hr
  ·rename_i i hi
   split at hr
   ·rename_i z hz
    split at hr
    ·rename_i hc
     obtain⟨c1,c2,c3⟩:=hc
     split at hr
     ·rename_i sz base ups tail n hy
      split at hr
      ·rename_i k rd hx
       split at hr
       ·rename_i hcc
        obtain⟨rfl,d2⟩:=hcc
        cases hr
        have key:∀m A w u,HRel m A h w→Rd m A w (aev f y) u→ScOk (.sc e i.size base ups tail n)∧pev Ev.rho n=((rowsOf base ups tail).length:Int):=fun m A w u H hu=>by
         obtain⟨k1,k2⟩:=symOf_ok hy H hu
         exact⟨⟨k2,k1⟩,k2⟩
        intro m A w a H F
        have hb:=fitN_ok d2 (key m A w _ H (F.eval y)).2
        exact op_append_s ho he hi hz c1 c2 (nilS_ok hx) (symOf_src hy) (by simpa using hb.1) (by simpa using hb.2) (newB_iff c3) (B:=.sc e i.size base ups tail n) rfl
         (fun m A w v u H hv hu=>by simpa using key m A w u H hu) m A w a H F
       ·cases hr
      ·split at hr
       ·rename_i T s id n0 hax
        split at hr
        ·rename_i T' s' base' n1 hh
         split at hr
         ·rename_i q hq
          split at hr
          ·rename_i hcc
           obtain⟨u1,u2,rfl,rfl,rfl,rfl,rfl,rfl,d5⟩:=hcc
           have u1:=List.isEmpty_iff.1 u1
           have u2:=List.isEmpty_iff.1 u2
           subst u1 u2
           cases hr
           have hp:=List.find?_some hq
           have hc:=Ev.cat q (List.mem_of_find?_eq_some hq)
           rw[Bool.and_eq_true]at hp
           rw[show q.1=base' from eq_of_beq hp.1,show q.2.1=base from eq_of_beq hp.2]at hc
           have hrow:∀k,rowsOf k [] []=Ev.seq k:=fun k=>by unfold rowsOf;rw[List.append_nil];rfl
           have hap:rowsOf base' [] []++rowsOf base [] []=rowsOf q.2.2 [] []:=by rw[hrow,hrow,hrow];exact hc.symm
           intro m A w a H F
           obtain⟨k1,k2⟩:=H.sc_ok hh
           obtain⟨g1,g2⟩:=symOf_ok hy H (F.eval y)
           have e1:pev Ev.rho (padd n1 n)=(((rowsOf base' [] []).length+(rowsOf base [] []).length:Nat):Int):=by rw[pev_padd,k1,g2];simp
           have hb:=fitN_ok d5 e1
           refine op_append_s ho he hi hz c1 c2 (by rw[hax];exact .sown hh rfl) (symOf_src hy) hb.1 hb.2 (newB_iff c3) (B:=.sc T' i.size q.2.2 [] [] (padd n1 n)) (by simp only[Blk.els];rw[hap])
            (fun m A w v u H hv hu=>⟨⟨by rw[e1,←hap];simp,fun t ht=>absurd ht List.not_mem_nil⟩,e1⟩) m A w a H F
          ·cases hr
         ·cases hr
        ·cases hr
       ·cases hr
     ·split at hr
      ·rename_i T s id n0 hax
       split at hr
       ·rename_i T' s' base ups tail n1 hh
        split at hr
        ·rename_i ys hys
         split at hr
         ·rename_i hcc
          obtain⟨rfl,rfl,rfl,rfl,rfl,d3,d4,d5⟩:=hcc
          cases hr
          have hlen:∀q∈ys,q.length=i.size:=fun q hq=>by simpa using List.all_eq_true.1 d3 q hq
          have hap:rowsOf base ups tail++ys=rowsOf base ups (tail++ys):=by unfold rowsOf;rw[List.append_assoc]
          intro m A w a H F
          obtain⟨k1,k2⟩:=H.sc_ok hh
          have e1:pev Ev.rho (padd n1 (plit ys.length))=(((rowsOf base ups tail).length+ys.length:Nat):Int):=by rw[pev_padd,pev_plit,k1];simp
          have hb:=fitN_ok d5 e1
          refine op_append_s ho he hi hz c1 c2 (by rw[hax];exact .sown hh rfl) (.els hys hlen ?_) hb.1 hb.2 (newB_iff c3) (B:=.sc T' i.size base ups (tail++ys) (padd n1 (plit ys.length))) (by simp only[Blk.els];rw[hap])
           (fun m A w v u H hv hu=>⟨⟨by rw[e1,←hap];simp,k2⟩,e1⟩) m A w a H F
          intro T s id j n' hx'
          rw[hx']at d4
          simpa[ownSz]using d4
         ·cases hr
        ·cases hr
       ·cases hr
      ·cases hr
    ·cases hr
   ·cases hr
  ·cases hr
 ·cases hr
def aopS [Bk] (P:Program) (op:Op) (ρ:Operand→AV) (h:AH) (nx:Nat):Option AR :=
 match op with
 | .load t x=>match rowS h (ρ x)with
  |some q=>match partA P t q.2.2 q.2.1 with
   |some v=>some ⟨v,[],idS (ρ x)⟩
   |none=>none
  |none=>none
 | .nilCheck x=>match rowS h (ρ x)with
  |some _=>some ⟨ρ x,[],idS (ρ x)⟩
  |none=>none
 | .fieldAddr t x k=>match fieldOf P t k with
  |some (_,o',n)=>if n≠0 then match rowS h (ρ x)with
    |some _=>some ⟨shiftS o' (ρ x),[],idS (ρ x)⟩
    |none=>none
   else none
  |none=>none
 | .indexAddr t x ix=>match P.underlying t with
  |some (.slice e)=>match toP (ρ ix)with
   |some p=>match seqLen h (ρ x)with
    |some n=>if inIx p n=true then match ρ x with
      | .seq sz base ups tail=>if elemSize P e=some sz then some ⟨.sptr sz base ups tail p 0,[],[]⟩else none
      | .sown T sz id n'=>if elemSize P e=some sz∧n'=n then some ⟨.optr sz id p 0,[],[id]⟩else none
      |_=>none
     else none
    |none=>none
   |none=>none
  |some (.array len e)=>match elemSize P e,ρ ix with
   |some s,.c (.int _ n)=>if 0≤n∧n.toNat<len then match rowS h (ρ x)with
     |some _=>some ⟨shiftS (n.toNat*s) (ρ x),[],idS (ρ x)⟩
     |none=>none
    else none
   |_,_=>none
  |_=>none
 | .store t x y=>match cellsA (ρ y)with
  |some xs=>if elemSize P t=some xs.length then match storeS h (ρ x) xs with
    |some q=>some ⟨.undef,[q],idS (ρ x)⟩
    |none=>none
   else none
  |none=>none
 | .call { callee:=.builtin b,args,argTypes }=>match b with
  | .len=>match args.toList,argTypes.toList with
   |[x],[t]=>match P.underlying t with
    |some (.slice _)=>match seqLen h (ρ x)with
     |some n=>some ⟨mkE n,[],idS (ρ x)⟩
     |none=>none
    |_=>none
   |_,_=>none
  | .append=>match args.toList,argTypes.toList with
   |[x,y],[t,t']=>if t'=t then appendS P t (ρ x) (ρ y) h nx else none
   |_,_=>none
  |_=>none
 |_=>none
theorem aopS_ok [Bk] [Ev] {nx:Nat} {r:AR} (hr:aopS P o.op (aev f) h nx=some r):OpOk P o f h r:=by
 obtain⟨dst,op,ty,rk,pos,guard⟩:=o
 cases op with
 |load t x =>
  simp only[aopS]at hr
  split at hr
  ·rename_i q hx
   split at hr
   ·rename_i v hp;cases hr;exact op_load_s rfl hx hp
   ·cases hr
  ·cases hr
 |nilCheck x =>
  simp only[aopS]at hr
  split at hr
  ·rename_i q hx;cases hr;exact op_nilCheck_s rfl hx
  ·cases hr
 |fieldAddr t x k =>
  simp only[aopS]at hr
  split at hr
  ·rename_i ty' o' n hf
   split at hr
   ·rename_i hn
    split at hr
    ·rename_i q hx;cases hr;exact op_fieldAddr_s rfl hx hf hn
    ·cases hr
   ·cases hr
  ·cases hr
 |indexAddr t x ix =>
  simp only[aopS]at hr
  split at hr
  ·rename_i e hu
   split at hr
   ·rename_i p hp
    split at hr
    ·rename_i n hn
     split at hr
     ·rename_i hin
      split at hr
      ·rename_i sz base ups tail hx
       split at hr
       ·rename_i hs
        cases hr
        rw[hx]at hn
        exact op_indexAddr_seq rfl hx hp hu hs hn hin
       ·cases hr
      ·rename_i T sz id n' hx
       split at hr
       ·rename_i hs
        obtain⟨hs,rfl⟩:=hs
        cases hr
        rw[hx]at hn
        exact op_indexAddr_sown rfl hx hp hu hs hn hin
       ·cases hr
      ·cases hr
     ·cases hr
    ·cases hr
   ·cases hr
  ·rename_i len e hu
   split at hr
   ·rename_i s k n hs hi
    split at hr
    ·rename_i hc
     split at hr
     ·rename_i q hx;cases hr;exact op_indexAddr_s rfl hx hi hu hs hc.1 hc.2
     ·cases hr
    ·cases hr
   ·cases hr
  ·cases hr
 |store t x y =>
  simp only[aopS]at hr
  split at hr
  ·rename_i xs hy
   split at hr
   ·rename_i ht
    split at hr
    ·rename_i q hq;cases hr;exact op_store_s rfl hy ht hq
    ·cases hr
   ·cases hr
  ·cases hr
 |call c =>
  obtain⟨callee,args,argTypes⟩:=c
  cases callee with
  |builtin b =>
   cases b with
   |len =>
    simp only[aopS]at hr
    split at hr
    ·rename_i x t ha ht
     rw[arr1 ha,arr1 ht]
     split at hr
     ·rename_i e hu
      split at hr
      ·rename_i n hn;cases hr;exact op_len_seq rfl hu hn
      ·cases hr
     ·cases hr
    ·cases hr
   |append =>
    simp only[aopS]at hr
    split at hr
    ·rename_i x y t t' ha ht
     rw[arr2 ha,arr2 ht]
     split at hr
     ·rename_i e
      subst e
      exact appendS_ok rfl hr
     ·cases hr
    ·cases hr
   |_=>simp[aopS]at hr
  |_=>simp[aopS]at hr
 |_=>simp[aopS]at hr
theorem aopS_f [Bk] {op:Op} {ρ ρ':Operand→AV} {h:AH} {nx:Nat} (ha:∀x∈op.operands.toList,ρ' x=ρ x):aopS P op ρ' h nx=aopS P op ρ h nx:=by
 cases op with
 |call c =>
  obtain⟨callee,args,argTypes⟩:=c
  cases callee with
  |builtin b =>
   have e:∀x∈args.toList,ρ' x=ρ x:=fun x hx=>ha x (by simp[Op.operands,Call.operands];simpa using hx)
   cases b<;>simp only[aopS]
   all_goals (rcases hargs:args.toList with _|⟨x,_|⟨y,_|⟨z,r⟩⟩⟩<;>rw[hargs]at e<;>simp only[List.mem_cons,List.not_mem_nil,or_false,forall_eq_or_imp,forall_eq,implies_true,false_implies]at e<;>(try simp only[e])<;>(rcases argTypes.toList with _|⟨t1,_|⟨t2,_|⟨t3,q⟩⟩⟩<;>(try simp only[e])))
  |_=>simp[aopS]
 |store t x y =>
  have h1:=ha x (by simp[Op.operands]);have h2:=ha y (by simp[Op.operands])
  simp only[aopS,h1,h2]
 |indexAddr t x y =>
  have h1:=ha x (by simp[Op.operands]);have h2:=ha y (by simp[Op.operands])
  simp only[aopS,h1,h2]
 |load t x=>have h1:=ha x (by simp[Op.operands]);simp only[aopS,h1]
 |nilCheck x=>have h1:=ha x (by simp[Op.operands]);simp only[aopS,h1]
 |fieldAddr t x k=>have h1:=ha x (by simp[Op.operands]);simp only[aopS,h1]
 |_=>simp[aopS]
theorem seqLen_h [Bk] {h h':AH} {x:AV} (e:∀id∈idS x,h' id=h id):seqLen h' x=seqLen h x:=by
 cases x<;>simp only[seqLen]
 rename_i T sz id n
 rw[e id (by simp[idS])]
theorem rowS_h [Bk] {h h':AH} {x:AV} (e:∀id∈idS x,h' id=h id):rowS h' x=rowS h x:=by
 cases x<;>simp only[rowS]
 rename_i sz id p off
 rw[e id (by simp[idS])]
theorem storeS_h [Bk] {h h':AH} {x:AV} {xs:List AV} (e:∀id∈idS x,h' id=h id):storeS h' x xs=storeS h x xs:=by
 cases x<;>simp only[storeS]
 rename_i sz id p off
 rw[e id (by simp[idS])]
theorem storeS_id [Bk] {h:AH} {x:AV} {xs:List AV} {q:Nat×Blk} (hq:storeS h x xs=some q):q.1∈idS x:=by
 unfold storeS at hq
 split at hq
 ·split at hq
  ·split at hq
   ·split at hq
    ·split at hq
     ·cases hq;simp[idS]
     ·cases hq
    ·cases hq
   ·cases hq
  ·cases hq
 ·cases hq
theorem nilS_h [Bk] {h h':AH} {e sz:Nat} {x:AV} {k:List (Nat×Blk)} {rd:List Nat} (hx:nilS h e sz x=some (k,rd)) (hh:∀id∈rd,h' id=h id):nilS h' e sz x=some (k,rd):=by
 unfold nilS at hx ⊢
 split at hx
 ·exact hx
 ·rename_i T s id
  split at hx
  ·rename_i h0
   split at hx
   ·rename_i hc
    cases hx
    rw[hh id (by simp),h0]
    simp only
    rw[if_pos hc]
   ·cases hx
  ·cases hx
 ·cases hx
theorem nilS_rd [Bk] {h:AH} {e sz:Nat} {x:AV} {k:List (Nat×Blk)} {rd:List Nat} (hx:nilS h e sz x=some (k,rd)):k.map (·.1)=rd:=by
 unfold nilS at hx
 split at hx
 ·cases hx;rfl
 ·split at hx
  ·split at hx
   ·cases hx;rfl
   ·cases hx
  ·cases hx
 ·cases hx
theorem appendS_h [Bk] [Ev] {t:TypeId} {x y:AV} {h h':AH} {nx:Nat} {r:AR} (hr:appendS P t x y h nx=some r) (hag:∀id∈r.rds,h' id=h id):appendS P t x y h' nx=some r:=by
 unfold appendS at hr ⊢
 split at hr
 ·rename_i e he
  split at hr
  ·rename_i i hi
   split at hr
   ·rename_i z hz
    split at hr
    ·rename_i hc
     split at hr
     ·rename_i sz base ups tail n hy
      split at hr
      ·rename_i k rd hx
       split at hr
       ·rename_i hcc
        cases hr
        have e0:newB h' nx=newB h nx:=newB_h (hag nx (by simp))
        have e1:=nilS_h hx (h':=h') fun id hid=>hag id (by simp[hid])
        have e2:symOf h' y=symOf h y:=symOf_h fun id hid=>hag id (by simp[hid])
        simp only[hi,hz,e0,e1,e2,hy]
        rw[if_pos hc,if_pos hcc]
       ·cases hr
      ·split at hr
       ·rename_i T s id n0 _
        split at hr
        ·rename_i T' s' base' n1 hh
         split at hr
         ·rename_i q hq
          split at hr
          ·rename_i hcc
           cases hr
           have e0:newB h' nx=newB h nx:=newB_h (hag nx (by simp))
           have e1:h' id=h id:=hag id (by simp)
           have e2:symOf h' y=symOf h y:=symOf_h fun id hid=>hag id (by simp[hid])
           have e3:nilS h' e i.size (.sown T s id n0)=none:=rfl
           simp only[hi,hz,e0,e1,hh,e2,hy,e3,hq]
           rw[if_pos hc,if_pos hcc]
          ·cases hr
         ·cases hr
        ·cases hr
       ·cases hr
     ·rename_i hy
      split at hr
      ·rename_i T s id n0
       split at hr
       ·rename_i T' s' base ups tail n1 hh
        split at hr
        ·rename_i ys hys
         split at hr
         ·rename_i hcc
          cases hr
          have e0:newB h' nx=newB h nx:=newB_h (hag nx (by simp))
          have e1:h' id=h id:=hag id (by simp)
          have e2:elsA h' y=elsA h y:=elsA_h fun id hid=>hag id (by simp[hid])
          have e3:symOf h' y=none:=by
           unfold elsA at hys
           split at hys<;>first|rfl|cases hys
          simp only[hi,hz,e0,e1,hh,e2,hys,e3]
          rw[if_pos hc,if_pos hcc]
         ·cases hr
        ·cases hr
       ·cases hr
      ·cases hr
    ·cases hr
   ·cases hr
  ·cases hr
 ·cases hr
theorem aopS_h [Bk] [Ev] {op:Op} {ρ:Operand→AV} {h h':AH} {nx:Nat} {r:AR} (hr:aopS P op ρ h nx=some r) (hag:∀id∈r.rds,h' id=h id):aopS P op ρ h' nx=some r:=by
 cases op with
 |load t x =>
  simp only[aopS]at hr ⊢
  split at hr
  ·rename_i q hx
   split at hr
   ·rename_i v hp;cases hr;rw[rowS_h (x:=ρ x) hag,hx];simp only[hp]
   ·cases hr
  ·cases hr
 |nilCheck x =>
  simp only[aopS]at hr ⊢
  split at hr
  ·rename_i q hx;cases hr;rw[rowS_h (x:=ρ x) hag,hx]
  ·cases hr
 |fieldAddr t x k =>
  simp only[aopS]at hr ⊢
  split at hr
  ·rename_i ty' o' n hf
   split at hr
   ·rename_i hn
    split at hr
    ·rename_i q hx;cases hr;simp only[rowS_h (x:=ρ x) hag,hx];rw[if_pos hn]
    ·cases hr
   ·cases hr
  ·cases hr
 |indexAddr t x ix =>
  simp only[aopS]at hr ⊢
  split at hr
  ·rename_i e hu
   split at hr
   ·rename_i p hp
    split at hr
    ·rename_i n hn
     split at hr
     ·rename_i hin
      split at hr
      ·rename_i sz base ups tail hx
       split at hr
       ·rename_i hs
        cases hr
        rw[hx]at hn
        have e1:seqLen h' (.seq sz base ups tail)=some n:=hn
        simp only[hx,e1]
        rw[if_pos hin,if_pos hs]
       ·cases hr
      ·rename_i T sz id n' hx
       split at hr
       ·rename_i hs
        cases hr
        rw[hx]at hn
        have e1:seqLen h' (.sown T sz id n')=some n:=by rw[seqLen_h (h:=h)];exact hn;intro id' hid;exact hag id' (by simpa[idS]using hid)
        simp only[hx,e1]
        rw[if_pos hin,if_pos hs]
       ·cases hr
      ·cases hr
     ·cases hr
    ·cases hr
   ·cases hr
  ·rename_i len e hu
   split at hr
   ·rename_i s k n hs hi
    split at hr
    ·rename_i hc
     split at hr
     ·rename_i q hx
      cases hr
      simp only[rowS_h (x:=ρ x) hag,hx]
      rw[if_pos hc]
     ·cases hr
    ·cases hr
   ·cases hr
  ·cases hr
 |store t x y =>
  simp only[aopS]at hr ⊢
  split at hr
  ·rename_i xs hy
   split at hr
   ·rename_i ht
    split at hr
    ·rename_i q hq
     cases hr
     simp only[storeS_h (x:=ρ x) hag,hq]
     rw[if_pos ht]
    ·cases hr
   ·cases hr
  ·cases hr
 |call c =>
  obtain⟨callee,args,argTypes⟩:=c
  cases callee with
  |builtin b =>
   cases b with
   |len =>
    simp only[aopS]at hr ⊢
    split at hr
    ·rename_i x t ha ht
     split at hr
     ·rename_i e hu
      split at hr
      ·rename_i n hn
       cases hr
       simp only[seqLen_h (x:=ρ x) hag,hn]
      ·cases hr
     ·cases hr
    ·cases hr
   |append =>
    simp only[aopS]at hr ⊢
    split at hr
    ·rename_i x y t t' ha ht
     split at hr
     ·rename_i e
      rw[if_pos e];exact appendS_h hr hag
     ·cases hr
    ·cases hr
   |_=>simp[aopS]at hr
  |_=>simp[aopS]at hr
 |_=>simp[aopS]at hr
theorem aopS_ups [Bk] [Ev] {op:Op} {ρ:Operand→AV} {h:AH} {nx:Nat} {r:AR} (hr:aopS P op ρ h nx=some r):∀id∈r.ups.map (·.1),id∈r.rds:=by
 cases op with
 |store t x y =>
  simp only[aopS]at hr
  split at hr
  ·split at hr
   ·split at hr
    ·rename_i q hq
     cases hr
     intro id hid
     simp only[List.map_cons,List.map_nil,List.mem_singleton]at hid
     subst hid
     exact storeS_id hq
    ·cases hr
   ·cases hr
  ·cases hr
 |call c =>
  obtain⟨callee,args,argTypes⟩:=c
  cases callee with
  |builtin b =>
   cases b with
   |append =>
    simp only[aopS]at hr
    split at hr
    ·split at hr
     ·unfold appendS at hr
      repeat' split at hr
      all_goals (first|cases hr|skip)
      ·rename_i hx _
       have:=nilS_rd hx
       intro id hid
       simp only[List.map_append,List.mem_append,this,List.map_cons,List.map_nil,List.mem_singleton]at hid
       rcases hid with h|h
       ·simp[h]
       ·simp[h]
      all_goals (intro id hid;simp at hid ⊢;rcases hid with h|h<;>simp[h])
     ·cases hr
    ·cases hr
   |_ =>
    simp only[aopS]at hr
    try (repeat' split at hr)
    all_goals (first|cases hr|skip)
    all_goals simp
  |_=>simp[aopS]at hr
 |_ =>
  simp only[aopS]at hr
  try (repeat' split at hr)
  all_goals (first|cases hr|skip)
  all_goals simp
theorem aopS_none [Bk] {op:Op} {ρ:Operand→AV} {h h':AH} {nx nx':Nat} {r:AR} (hr:aopS P op ρ h nx=some r):aop P op ρ h' nx'=none:=by
 have row:∀{x:AV} {q},rowS h x=some q→(∃sz base ups tail p off,x=.sptr sz base ups tail p off)∨∃sz id p off,x=.optr sz id p off:=by
  intro x q hx
  unfold rowS at hx
  split at hx
  ·exact .inl ⟨_,_,_,_,_,_,rfl⟩
  ·exact .inr ⟨_,_,_,_,rfl⟩
  ·cases hx
 have sq:∀{x:AV} {n},seqLen h x=some n→(∃sz base ups tail,x=.seq sz base ups tail)∨∃T sz id n,x=.sown T sz id n:=by
  intro x q hx
  unfold seqLen at hx
  split at hx
  ·exact .inl ⟨_,_,_,_,rfl⟩
  ·exact .inr ⟨_,_,_,_,rfl⟩
  ·cases hx
 cases op with
 |load t x =>
  simp only[aopS]at hr
  split at hr
  ·rename_i q hx
   rcases row hx with⟨sz,base,ups,tail,p,off,e⟩|⟨sz,id,p,off,e⟩<;>simp only[aop,e]
  ·cases hr
 |nilCheck x =>
  simp only[aopS]at hr
  split at hr
  ·rename_i q hx
   rcases row hx with⟨sz,base,ups,tail,p,off,e⟩|⟨sz,id,p,off,e⟩<;>simp only[aop,e]
  ·cases hr
 |fieldAddr t x k =>
  simp only[aopS]at hr
  split at hr
  ·rename_i ty' o' n hf
   split at hr
   ·rename_i hn
    split at hr
    ·rename_i q hx
     rcases row hx with⟨sz,base,ups,tail,p,off,e⟩|⟨sz,id,p,off,e⟩<;>simp only[aop,e,hf]<;>split<;>rfl
    ·cases hr
   ·cases hr
  ·cases hr
 |indexAddr t x ix =>
  simp only[aopS]at hr
  split at hr
  ·rename_i e hu
   split at hr
   ·rename_i p hp
    split at hr
    ·rename_i n hn
     rcases sq hn with⟨sz,base,ups,tail,e⟩|⟨T,sz,id,n,e⟩<;>simp only[aop,e,hu]<;>split<;>rfl
    ·cases hr
   ·cases hr
  ·rename_i len e hu
   split at hr
   ·rename_i s k n hs hi
    split at hr
    ·rename_i hc
     split at hr
     ·rename_i q hx
      rcases row hx with⟨sz,base,ups,tail,p,off,e⟩|⟨sz,id,p,off,e⟩<;>simp only[aop,e,hu,hi,hs]<;>split<;>rfl
     ·cases hr
    ·cases hr
   ·cases hr
  ·cases hr
 |store t x y =>
  simp only[aopS]at hr
  split at hr
  ·split at hr
   ·split at hr
    ·rename_i q hq
     unfold storeS at hq
     split at hq
     ·rename_i sz id p off hx
      simp only[aop,hx]
     ·cases hq
    ·cases hr
   ·cases hr
  ·cases hr
 |call c =>
  obtain⟨callee,args,argTypes⟩:=c
  cases callee with
  |builtin b =>
   cases b with
   |len =>
    simp only[aopS]at hr
    split at hr
    ·rename_i x t ha ht
     split at hr
     ·rename_i e hu
      split at hr
      ·rename_i n hn
       rcases sq hn with⟨sz,base,ups,tail,e⟩|⟨T,sz,id,n,e⟩<;>simp only[aop,ha,ht,e,hu,elsA]
      ·cases hr
     ·cases hr
    ·cases hr
   |append =>
    simp only[aopS]at hr
    split at hr
    ·rename_i x y t t' ha ht
     split at hr
     ·rename_i e
      subst e
      have hx:elsA h' (ρ y)=none∨∀e sz,baseA h' e sz (ρ x)=none:=by
       unfold appendS at hr
       split at hr
       ·split at hr
        ·split at hr
         ·split at hr
          ·split at hr
           ·rename_i hy
            refine .inl ?_
            unfold symOf at hy
            split at hy
            ·rename_i e;rw[e];rfl
            ·rename_i e;rw[e];rfl
            ·cases hy
           ·split at hr
            ·rename_i e;exact .inr fun _ _=>by rw[e];rfl
            ·cases hr
          ·cases hr
         ·cases hr
        ·cases hr
       ·cases hr
      simp only[aop,ha,ht,if_true]
      unfold appendA
      split
      ·split
       ·split
        ·split
         ·rename_i h1 h2
          rcases hx with hx|hx
          ·rw[hx]at h2;cases h2
          ·rw[hx]at h1;cases h1
         ·rfl
        ·rfl
       ·rfl
      ·rfl
     ·cases hr
    ·cases hr
   |_=>simp[aopS]at hr
  |_=>simp[aopS]at hr
 |_=>simp[aopS]at hr
def aopX [Bk] (P:Program) (op:Op) (ρ:Operand→AV) (h:AH) (nx:Nat):Option AR :=
 match aop P op ρ h nx with
 |some r=>some r
 |none=>aopS P op ρ h nx
theorem aopX_ok [Bk] [Ev] {nx:Nat} {r:AR} (hr:aopX P o.op (aev f) h nx=some r):OpOk P o f h r:=by
 unfold aopX at hr
 split at hr
 ·rename_i r' h1;cases hr;exact aop_ok h1
 ·exact aopS_ok hr
theorem aopX_f [Bk] [Ev] {op:Op} {ρ ρ':Operand→AV} {h:AH} {nx:Nat} (ha:∀x∈op.operands.toList,ρ' x=ρ x):aopX P op ρ' h nx=aopX P op ρ h nx:=by
 unfold aopX
 rw[aop_f ha,aopS_f ha]
theorem aopX_h [Bk] [Ev] {op:Op} {ρ:Operand→AV} {h h':AH} {nx:Nat} {r:AR} (hr:aopX P op ρ h nx=some r) (hag:∀id∈r.rds,h' id=h id):aopX P op ρ h' nx=some r:=by
 unfold aopX at hr ⊢
 split at hr
 ·rename_i r' h1;cases hr;rw[aop_h h1 hag]
 ·rw[aopS_none (h':=h') (nx':=nx) hr];exact aopS_h hr hag
theorem aopX_ups [Bk] [Ev] {op:Op} {ρ:Operand→AV} {h:AH} {nx:Nat} {r:AR} (hr:aopX P op ρ h nx=some r):∀id∈r.ups.map (·.1),id∈r.rds:=by
 unfold aopX at hr
 split at hr
 ·rename_i r' h1;cases hr;exact aop_ups h1
 ·exact aopS_ups hr
end
end Go.Proofs.Ytjccjmmbebiegaa.Mc
set_option linter.unusedVariables false
set_option linter.unusedSimpArgs false
namespace Go.Proofs.Ytjccjmmbebiegaa.Mc
open Go.RowKit
section
variable {P:Program} {h:AH}
theorem HRel.loop_put [Bk] [Ev] {m:Nat→St} {A:Nat→Prop} {w:World} (H:HRel m A h w) {id b:Nat} {st st':LS} {f:List AV} {ps:Array Tmp} {as bd:Code} {L L':Loop} (hh:h id=.lp st f ps as bd) (hb:m id=.at b) (hL:w.heap[b]?=some (.loop L)) (h1:L'.state=st'.st) (h2:L'.pending=st'.pe) (h3:L'.params=L.params) (h4:L'.assign=L.assign) (h5:L'.body=L.body) (h6:L'.tmps=L.tmps) :
  HRel m A (bset h id (.lp st' f ps as bd)) (w.putObj b (.loop L'))∧Ext m w m (w.putObj b (.loop L')):=by
 have hsame:(w.putObj b (.loop L')).heap[b]?=some (.loop L'):=World.putObj_heap_same (Array.getElem?_eq_some_iff.1 hL).1
 obtain⟨b',hb',L0,k1,k2,k3,k4,k5,k6,k7,k8⟩:=H.loops id st f ps as bd hh
 rw[hb]at hb'
 cases hb'
 rw[hL]at k1
 cases k1
 exact H.other_put hh rfl rfl hb hL (by simp[rowSize,hsame,hL]) fun E=>⟨L',hsame,h1,h2,h3.trans k4,h4.trans k5,h5.trans k6,by rw[h6];exact k7,fun i x hx=>by rw[h6];exact(k8 i x hx).ext E⟩
theorem HRel.loop_new [Bk] [Ev] {m:Nat→St} {A:Nat→Prop} {w:World} (H:HRel m A h w) {id:Nat} {f:List AV} {L:Loop} (hid:h id=.no) (h1:L.state=.ready) (h2:L.pending=none) (h3:L.tmps.size=f.length) (h4:∀(i:Nat) (x:AV),f[i]?=some x→Rd m A w x (L.tmps.getD i Go.undef)) :
  HRel (sset m id (.at w.heap.size)) A (bset h id (.lp .ready f L.params L.assign L.body)) (w.alloc (.loop L))∧Ext m w (sset m id (.at w.heap.size)) (w.alloc (.loop L)) :=
 H.other_new hid rfl fun E=>⟨L,World.alloc_heap_new w _,h1,h2,rfl,rfl,rfl,h3,fun i x hx=>(h4 i x hx).ext E⟩
theorem HRel.loop_over [Bk] [Ev] {m:Nat→St} {A:Nat→Prop} {w:World} (H:HRel m A h w) {id b:Nat} {st:LS} {f:List AV} {ps:Array Tmp} {as bd:Code} {L:Loop} (hh:h id=.lp st f ps as bd) (hb:m id=.at b) (hL:w.heap[b]?=some (.loop L)) (o:Obj) :
  HRel (sset m id .dead) A (bset h id .dead) (w.putObj b o)∧Ext m w (sset m id .dead) (w.putObj b o):=by
 have hsz:(w.putObj b o).heap.size=w.heap.size:=World.putObj_size
 have hot:∀k,k≠b→(w.putObj b o).heap[k]?=w.heap[k]?:=fun k e=>World.putObj_heap_other e
 have sat:∀k b',sset m id .dead k=.at b'→k≠id∧m k=.at b':=by
  intro k b' hk
  unfold sset at hk
  split at hk
  ·cases hk
  ·rename_i hne;exact⟨hne,hk⟩
 have nb:∀k b',k≠id→m k=.at b'→b'≠b:=by
  rintro k b' hne hk rfl
  exact hne (H.inj k id b' hk hb)
 have E:Ext m w (sset m id .dead) (w.putObj b o):=by
  refine⟨rfl,rfl,rfl,by rw[hsz];exact Nat.le_refl _,?_,?_,?_,?_,?_⟩
  ·intro k b' hk
   unfold sset;split
   ·exact .inr rfl
   ·exact .inl hk
  ·intro k hk
   unfold sset;split
   ·rfl
   ·exact hk
  ·intro k hk
   unfold sset;split
   ·exact .inr rfl
   ·exact .inl hk
  ·intro k hk hu
   exact⟨fun id' h1=>hu id' (sat id' k h1).2,hot k (by rintro rfl;exact hu id hb)⟩
  ·intro id' k h1 h2
   obtain⟨h3,h4⟩:=sat id' k h2
   simp[rowSize,hot k (nb id' k h3 h4)]
 refine⟨⟨fun k b' hk=>H.out k b' (sat k b' hk).2,fun k hk=>by rw[hsz];exact H.old k hk,?_,?_,?_,fun i j b' hi hj=>H.inj i j b' (sat i b' hi).2 (sat j b' hj).2,H.glob.ext H.out E,H.others_to E fun k B hk hB=>?_,ScOk.set H.scs trivial⟩,E⟩
 ·intro k hk
  unfold bset at hk;unfold sset;split at hk
  ·cases hk
  ·rename_i hne;rw[if_neg hne];exact H.no k hk
 ·intro k hk
  unfold bset at hk;unfold sset;split at hk
  ·rename_i he;rw[if_pos he]
  ·rename_i hne;rw[if_neg hne];exact H.dead k hk
 ·intro k T sz els hk
  unfold bset at hk;split at hk
  ·simp[Blk.els]at hk
  ·rename_i hne
   obtain⟨g1,g2⟩|⟨b',cs,g1,g2,g3,g4,g5⟩:=H.arrs k T sz els hk
   ·exact .inl ⟨by simp[sset,hne,g1],g2⟩
   ·exact .inr ⟨b',cs,by simp[sset,hne,g1],(hot b' (nb k b' hne g1)).trans g2,g3,g4,fun i j x hx=>⟨(g5 i j x hx).1,(g5 i j x hx).2.ext E⟩⟩
 ·unfold bset at hk;split at hk
  ·subst hk;exact absurd hB (by simp[Blk.other])
  ·rename_i hne
   exact⟨hk,fun b' hb'=>⟨by simp[sset,hne,hb'],hot b' (nb k b' hne hb')⟩⟩
def putsA (f:List AV) (ps:Array Tmp) (args:List AV):List AV:=(ps.toList.zip args).foldl (fun f q=>f.set q.1 q.2) f
theorem putsA_ok [Bk] [Ev] {m:Nat→St} {A:Nat→Prop} {w:World}:∀(ps:List Tmp) (args:List AV) (vs:List Value) (f:List AV) (ts:Array Value),ts.size=f.length→(∀(i:Nat) (x:AV),f[i]?=some x→Rd m A w x (ts.getD i Go.undef))→vs.length=args.length→(∀(i:Nat) (x:AV),args[i]?=some x→Rd m A w x (vs.getD i Go.undef)) →
  ((ps.zip vs).foldl (fun t q=>t.setIfInBounds q.1 q.2) ts).size=((ps.zip args).foldl (fun f q=>f.set q.1 q.2) f).length ∧
  ∀(i:Nat) (x:AV),((ps.zip args).foldl (fun f q=>f.set q.1 q.2) f)[i]?=some x→Rd m A w x (((ps.zip vs).foldl (fun t q=>t.setIfInBounds q.1 q.2) ts).getD i Go.undef)
 |[],_,_,f,ts,h1,h2,_,_=>⟨h1,h2⟩
 |p::ps,[],[],f,ts,h1,h2,_,_=>⟨h1,h2⟩
 |p::ps,[],v::vs,f,ts,_,_,h3,_=>by simp at h3
 |p::ps,x::xs,[],f,ts,_,_,h3,_=>by simp at h3
 |p::ps,x::xs,v::vs,f,ts,h1,h2,h3,h4=>by
  have hx:=h4 0 x rfl
  simp only[List.zip_cons_cons,List.foldl_cons]
  refine putsA_ok ps xs vs (f.set p x) (ts.setIfInBounds p v) (by simp[h1]) ?_ (by simpa using h3) (fun i y hy=>h4 (i+1) y (by simpa using hy))
  intro i y hy
  rw[List.getElem?_set]at hy
  split at hy
  ·rename_i e
   subst e
   split at hy
   ·rename_i hl
    cases hy
    have:p<ts.size:=by rw[h1];exact hl
    simp[this]
    simpa using hx
   ·cases hy
  ·rename_i e
   have:(ts.setIfInBounds p v).getD i Go.undef=ts.getD i Go.undef:=by
    simp[Array.getElem?_setIfInBounds_ne e]
   rw[this]
   exact h2 i y hy
theorem zip_foldl {ps:Array Tmp} {vs:Array Value} {ts:Array Value}:(ps.zip vs).foldl (fun t (p,v)=>t.setIfInBounds p v) ts=(ps.toList.zip vs.toList).foldl (fun t q=>t.setIfInBounds q.1 q.2) ts:=by
 rw[←Array.foldl_toList,Array.toList_zip]
def AYields [Bk] [Ev] (P:Program) (id:Nat) (args:List AV) (h:AH) (R:AV→AH→Prop):Prop :=
 ∀r m A w u (vs:Array Value),HRel m A h w→Rd m A w (.yld id) u→vs.size=args.length→(∀(i:Nat) (x:AV),args[i]?=some x→Rd m A w x (vs.getD i Go.undef)) →
  ∃b fn tmps as bd,u=.func (.yield b) #[] #[]∧(Instr.yield b vs).run P w=.ok (.round b fn tmps as bd) w ∧
   RoundIn (fw r) 8 P b fn tmps as bd w fun e w'=>∃v u m' h',e=.returned v∧R u h'∧HRel m' A h' w'∧Rd m' A w' u v∧Ext m w m' w'
theorem AYields.mono [Bk] [Ev] {id:Nat} {args:List AV} {R R':AV→AH→Prop} (k:AYields P id args h R) (hr:∀v h,R v h→R' v h):AYields P id args h R':=by
 intro r m A w u vs H hu hl hv
 obtain⟨b,fn,tmps,as,bd,h1,h2,h3⟩:=k r m A w u vs H hu hl hv
 exact⟨b,fn,tmps,as,bd,h1,h2,h3.mono fun e w' ⟨v,u,m',h',h1,h2,h3⟩=>⟨v,u,m',h',h1,hr _ _ h2,h3⟩⟩
theorem Rd.at_yld [Bk] [Ev] {m:Nat→St} {A:Nat→Prop} {w:World} {id b:Nat} {u:Value} (h:Rd m A w (.yld id) u) (g:m id=.at b):u=.func (.yield b) #[] #[]:=by
 cases h with
 |pure _ _ h=>cases h
 |yld _ b' hm=>rw[g]at hm;cases hm;rfl
 |yldd _ _ hm=>rw[g]at hm;cases hm
def turnS (R:AV→AH→Prop) (id:Nat):Exit→List AV→AH→Prop
 | .normal,_,h=>∃f ps as bd,h id=.lp .busy f ps as bd∧R (.c (.bool true)) (bset h id (.lp .ready f ps as bd))
 | .ret,_,h=>∃f ps as bd,h id=.lp .busy f ps as bd∧R (.c (.bool false)) (bset h id (.lp (.done .ret) f ps as bd))
 | .exit i,_,h=>∃f ps as bd,h id=.lp .busy f ps as bd∧R (.c (.bool false)) (bset h id (.lp (.done (.exit i)) f ps as bd))
 |_,_,_=>False
theorem AYields.of_body [Bk] [Ev] {id:Nat} {args:List AV} {f:List AV} {ps:Array Tmp} {as bd:Code} {R:AV→AH→Prop} (hh:h id=.lp .ready f ps as bd) (hl:args.length=ps.size)
  (k:AWP P false as (fun e f1 h1=>e=.normal∧∃f' ps' as' bd',h1 id=.lp .ready f' ps' as' bd'∧AWP P false bd (turnS R id) f1 (bset h1 id (.lp .busy f' ps' as' bd'))) (putsA f ps args) h):AYields P id args h R:=by
 intro r m A w u vs H hu hvl hv
 obtain⟨b,hb,L,k1,k2,k3,k4,k5,k6,k7,k8⟩:=H.loops id _ f ps as bd hh
 have hps:vs.size=L.params.size:=by rw[k4,hvl,hl]
 refine⟨b,L.fn,_,L.assign,L.body,hu.at_yld hb,run_yield k1 hps,?_⟩
 have hfin:RoundIn (fw r) 9 P b L.fn ((L.params.zip vs).foldl (fun t (p,v)=>t.setIfInBounds p v) L.tmps) L.assign L.body w fun e w'=>∃v u m' h',e=.returned v∧R u h'∧HRel m' A h' w'∧Rd m' A w' u v∧Ext m w m' w':=by
  refine roundIn_of_wpIn trivial ?_
  rw[k4,k5,k6,zip_foldl]
  obtain⟨q1,q2⟩:=putsA_ok (m:=m) (A:=A) (w:=w) ps.toList args vs.toList f L.tmps k7 k8 (by simpa using hvl) (fun i x hx=>by
   have:=hv i x hx
   simpa[List.getD,Array.getD_eq_getD_getElem?]using this)
  refine wpIn_mono (k (some b) m A w _ (fun e=>by cases e) H ⟨q1,q2,Marks.nil _ _⟩) ?_
  rintro e a1 w1 ⟨m1,f1,h1,⟨rfl,f',ps',as',bd',hh1,kb⟩,H1,F1,E1,N1⟩
  obtain⟨b1,hb1,L1,j1,j2,j3,j4,j5,j6,j7,j8⟩:=H1.loops id _ f' ps' as' bd' hh1
  have eb:b1=b:=by
   rcases E1.at_ id b hb with h2|h2
   ·rw[h2]at hb1;cases hb1;rfl
   ·rw[h2]at hb1;cases hb1
  subst eb
  show ∃w₂,_
  refine⟨_,run_beginRound j1 j2,?_⟩
  obtain⟨H2,E2⟩:=H1.loop_put (st':=.busy) hh1 hb1 j1 (L':={ L1 with state:=.busy }) rfl j3 rfl rfl rfl rfl
  refine wpIn_mono (kb (some b1) m1 A _ a1 (fun e=>by cases e) H2 (F1.ext E2)) ?_
  have E12:=E1.trans E2
  have go:∀(f:List AV) (ps:Array Tmp) (as bd:Code) (jump:Option Code) (st:LS) (w3:World) (m3:Nat→St) (h3:AH),st.st=(if jump.isNone then .ready else .done)→st.pe=jump→h3 id=.lp .busy f ps as bd→HRel m3 A h3 w3→Ext m1 (w1.putObj b1 (.loop { L1 with state:=.busy })) m3 w3→R (.c (.bool jump.isNone)) (bset h3 id (.lp st f ps as bd)) →
    ∃v w',(Instr.endRound b1 jump).run P w3=.ok v w'∧∃v_1 u m' h',Ending.returned v=.returned v_1∧R u h'∧HRel m' A h' w'∧Rd m' A w' u v_1∧Ext m w m' w':=by
   intro f ps as bd jump st w3 m3 h3 e1 e2 hh3 H3 E3 hR
   obtain⟨b3,hb3,L3,i1,i2,i3,i4,i5,i6,i7,i8⟩:=H3.loops id _ f ps as bd hh3
   have eb:b3=b1:=by
    rcases E3.at_ id b1 hb1 with h2|h2
    ·rw[h2]at hb3;cases hb3;rfl
    ·rw[h2]at hb3;cases hb3
   subst eb
   obtain⟨H4,E4⟩:=H3.loop_put (st':=st) hh3 hb3 i1 (L':={ L3 with state:=if jump.isNone then .ready else .done,pending:=jump }) e1.symm e2.symm rfl rfl rfl rfl
   exact⟨_,_,run_endRound jump i1,_,_,m3,_,rfl,hR,H4,.pure _ _ (.c _),(E12.trans E3).trans E4⟩
  rintro e a3 w3 ⟨m3,f3,h3,q,H3,F3,E3,N3⟩
  cases e with
  |normal=>obtain⟨f,ps,as,bd,q1,q2⟩:=q;exact go f ps as bd none .ready w3 m3 h3 rfl rfl q1 H3 E3 q2
  |ret=>obtain⟨f,ps,as,bd,q1,q2⟩:=q;exact go f ps as bd (some .ret) (.done .ret) w3 m3 h3 rfl rfl q1 H3 E3 q2
  |exit i=>obtain⟨f,ps,as,bd,q1,q2⟩:=q;exact go f ps as bd (some (.exit i)) (.done (.exit i)) w3 m3 h3 rfl rfl q1 H3 E3 q2
  |_=>exact q.elim
 exact⟨trivial,fun c cs _=>hfin.2 c cs (fun d hd=>by cases hd)⟩
def yieldA (ρ:Operand→AV):Op→Option (Nat×List AV)
 | .call { callee:=.value g,args,.. }=>match ρ g with
  | .yld id=>some (id,args.toList.map ρ)
  |_=>none
 |_=>none
theorem StepOk.yields [Bk] [Ev] {o:Oper} {f:List AV} {id:Nat} {args:List AV} {R:AV→AH→Prop} (hc:yieldA (aev f) o.op=some (id,args)) (hR:AYields P id args h R):StepOk P o f h R:=by
 intro r' m A w a H F K Q hK
 unfold yieldA at hc
 split at hc
 ·rename_i g cargs ctys ho
  split at hc
  ·rename_i id' hg
   simp only[Option.some.injEq,Prod.mk.injEq]at hc
   obtain⟨rfl,rfl⟩:=hc
   have h1:=F.eval g
   rw[hg]at h1
   obtain⟨b,fn,tmps,as,bd,e1,e2,e3⟩:=hR r' m A w _ (cargs.map a.eval) H h1 (by simp) (fun i x hx=>map_rel F cargs i x hx)
   have hexec:(execOp a.eval o).run P w=.ok (.round b fn tmps as bd) w:=by
    simp only[execOp,ho,resolve,Sem.run_bind]
    simp only[e1,Deferred.ofValue]
    simp[invoke,e2]
   refine wpIn_round hexec (e3.mono ?_)
   rintro e w' ⟨v,u,m',h',rfl,hRu,H',hx,E⟩
   exact⟨v,rfl,hK u h' v w' m' hRu H' hx E⟩
  ·cases hc
 ·cases hc
def overA (Q:Exit→List AV→AH→Prop) (f:List AV) (id:Nat) (h:AH):Prop :=
 match h id with
 | .lp .ready _ _ _ _=>Q .normal f (bset h id .dead)
 | .lp (.done .ret) _ _ _ _=>Q .ret f (bset h id .dead)
 | .lp (.done (.exit i)) _ _ _ _=>Q (.exit i) f (bset h id .dead)
 |_=>False
theorem AWP.rangeFunc [Bk] [Ev] {Q : Exit → List AV → AH → Prop} {f : List AV} {g : Operand} {ps : Array Tmp} {as bd : Code} {captured : List AV} {k : FuncId} {fn : Func} {c : Code} {id : Nat} (hg : aev f g = .fn (.func k) [] captured) (hk : P.funcs[k]? = some fn) (hb : fn.body = some c) (hn : (fn.name == "runtime.NumGoroutine") = false) (hid : h id = .no)
  (hc:ACalls P k (.yld id::captured) (bset h id (.lp .ready f ps as bd)) (fun _ h'=>overA Q f id h')):AWP P true (.rangeFunc g ps as bd) Q f h:=by
 intro r m A w a hr H F
 obtain rfl:=hr rfl
 have h1:=F.eval g
 rw[hg]at h1
 obtain⟨us,hv,hl2,r2⟩:∃us,a.eval g=.func (.func k) #[] us∧us.size=captured.length∧(∀(i:Nat) (x:AV),captured[i]?=some x→Rd m A w x (us.getD i Go.undef)):=by
  generalize a.eval g=u at h1
  cases h1 with
  |pure _ _ h=>cases h with|fn _ _ _ vs us hl hk' h g=>exact⟨us,by rw[Array.eq_empty_of_size_eq_zero hl],hk',fun i x hx=>.pure _ _ (g i x hx)⟩
  |fn _ _ _ vs us hl hk' h g=>exact⟨us,by rw[Array.eq_empty_of_size_eq_zero hl],hk',g⟩
 refine wpIn_rangeFunc ?_
 intro fn' _
 have b1:Below w.heap.size w (w.alloc (.deferred (some []))):=(Below.refl _ _).alloc (Nat.le_refl _) _
 have H1:=H.below b1
 have E1:=Ext.of_below H b1
 have F1:=F.ext E1
 obtain⟨H2,E2⟩:=H1.loop_new (id:=id) (f:=f) (L:={ state:=.ready,pending:=none,fn:=fn',tmps:=a.tmps,params:=ps,assign:=as,body:=bd,defers:=w.heap.size }) hid rfl rfl F1.size F1.rd
 have hsz:(w.alloc (.deferred (some []))).heap.size=w.heap.size+1:=World.size_alloc _ _
 have E12:=E1.trans E2
 rw[hsz]at H2 E2 E12
 have hDW:((w.alloc (.deferred (some []))).alloc (.loop { state:=.ready,pending:=none,fn:=fn',tmps:=a.tmps,params:=ps,assign:=as,body:=bd,defers:=w.heap.size })).heap[w.heap.size]?=some (.deferred (some [])) :=
  (Below.heap_alloc _ _ _ (by simp)).trans (World.alloc_heap_new w _)
 have hrun:=run_enterLoop_outer (P:=P) (w:=w) fn' a.tmps ps as bd
 have hsz1:w.heap.size<((w.alloc (.deferred (some []))).alloc (.loop { state:=.ready,pending:=none,fn:=fn',tmps:=a.tmps,params:=ps,assign:=as,body:=bd,defers:=w.heap.size })).heap.size:=by simp;omega
 generalize (w.alloc (.deferred (some []))).alloc (.loop { state:=.ready,pending:=none,fn:=fn',tmps:=a.tmps,params:=ps,assign:=as,body:=bd,defers:=w.heap.size })=W1 at H2 E2 E12 hDW hrun hsz1
 have hres:(resolve a.eval (rangeCall g (w.heap.size+1)) 0).run P W1=.ok { target:=.fn (.func k) us,args:=#[.func (.yield (w.heap.size+1)) #[] #[]] } W1:=by
  simp only[resolve,hv]
  simp[go_sem]
 have hinv:(invoke (.fn (.func k) us) #[.func (.yield (w.heap.size+1)) #[] #[]]).run P W1=.ok (.enter k (#[.func (.yield (w.heap.size+1)) #[] #[]]++us)) W1:=by
  simp[invoke,callFunc_enter hk hb hn]
 have hcall:=hc _ A _ (#[.func (.yield (w.heap.size+1)) #[] #[]]++us) H2 (by simp[hl2];omega) (by
  intro i x hx
  cases i with
  |zero =>
   simp at hx
   subst hx
   have:=Rd.yld (m:=sset m id (.at (w.heap.size+1))) (A:=A) (w:=W1) id (w.heap.size+1) (by simp[sset])
   have e:(#[Value.func (.yield (w.heap.size+1)) #[] #[]]++us).getD 0 Go.undef=Value.func (.yield (w.heap.size+1)) #[] #[]:=by simp[Array.getElem?_append]
   rw[e];exact this
  |succ i =>
   have:=(r2 i x (by simpa using hx)).ext E12
   have e:(#[Value.func (.yield (w.heap.size+1)) #[] #[]]++us).getD (i+1) Go.undef=us.getD i Go.undef:=by simp[Array.getElem?_append]
   rw[e];exact this)
 refine⟨w.heap.size+1,[mark w.heap.size],W1,_,W1,k,_,W1,hrun,hres,fun _ _=>trivial,hinv,fun h=>(by cases h),fw_calls.2 (hcall.mono ?_)⟩
 ·rintro e w3 ⟨v,u,m',h',rfl,hq,H',hx,E'⟩
  have hat:sset m id (.at (w.heap.size+1)) id=.at (w.heap.size+1):=by simp[sset]
  have hDu:∀id',sset m id (.at (w.heap.size+1)) id'≠.at w.heap.size:=by
   intro id' hid'
   unfold sset at hid'
   split at hid'
   ·injection hid' with e;omega
   ·have:=H.lt hid';omega
  have over:∀(st:LS) (f0:List AV) (ps0:Array Tmp) (as0 bd0:Code),h' id=.lp st f0 ps0 as0 bd0→st.st≠.busy→∃w4,(Instr.endLoop (w.heap.size+1)).run P w3=.ok st.pe w4∧∀e,Q e f (bset h' id .dead)→Lift Q m A w a e { a with defers:=[mark w.heap.size]++a.defers } w4:=by
   intro st f0 ps0 as0 bd0 hl hst
   obtain⟨b,hb',L,i1,i2,i3,i4,i5,i6,i7,i8⟩:=H'.loops id _ _ _ _ _ hl
   have eb:b=w.heap.size+1:=by
    rcases E'.at_ id _ hat with h2|h2
    ·rw[h2]at hb';cases hb';rfl
    ·rw[h2]at hb';cases hb'
   subst eb
   obtain⟨H4,E4⟩:=HRel.loop_over H' hl hb' i1 (.loop { L with state:=.exhausted })
   have E0:=(E12.trans E').trans E4
   refine⟨_,by rw[←i3];exact run_endLoop i1 (by rw[i2];exact hst),?_⟩
   intro e hQ
   refine⟨_,f,_,hQ,H4,⟨F.size,fun i x hx=>(F.rd i x hx).ext E0,?_⟩,E0,?_⟩
   ·obtain⟨d1,d2⟩:=(E'.trans E4).un w.heap.size hsz1 hDu
    refine(F.defers.ext E0).push (d2.trans hDW) d1 ?_
    intro d hd he
    obtain⟨Ds,g1,g2,g3⟩:=F.defers
    rw[g1]at hd
    obtain⟨D',hD',rfl⟩:=List.mem_map.1 hd
    have hlt:D'<w.heap.size:=(Array.getElem?_eq_some_iff.1 (g3 D' hD').1).1
    simp only[mark,Deferred.mk.injEq,Target.collected.injEq]at he
    omega
   ·intro d hd
    rcases List.mem_append.1 hd with h2|h2
    ·simp only[List.mem_singleton]at h2
     subst h2
     exact .inr ⟨w.heap.size,rfl,Nat.le_refl _⟩
    ·exact .inl h2
  show ∃jump w₄,_
  unfold overA at hq
  split at hq
  ·rename_i f0 ps0 as0 bd0 hl
   obtain⟨w4,s1,s2⟩:=over .ready f0 ps0 as0 bd0 hl (by simp[LS.st])
   exact⟨none,w4,s1,s2 _ hq⟩
  ·rename_i f0 ps0 as0 bd0 hl
   obtain⟨w4,s1,s2⟩:=over (.done .ret) f0 ps0 as0 bd0 hl (by simp[LS.st])
   exact⟨some .ret,w4,s1,wpIn_ret (s2 _ hq)⟩
  ·rename_i i f0 ps0 as0 bd0 hl
   obtain⟨w4,s1,s2⟩:=over (.done (.exit i)) f0 ps0 as0 bd0 hl (by simp[LS.st])
   exact⟨some (.exit i),w4,s1,wpIn_exit (s2 _ hq)⟩
  ·exact hq.elim
end
end Go.Proofs.Ytjccjmmbebiegaa.Mc
set_option linter.unusedVariables false
set_option linter.unusedSimpArgs false
namespace Go.Proofs.Ytjccjmmbebiegaa.Mc
open Go.RowKit
structure Rs (α:Type) where
 a:α
 h:AH
 n:Nat
 rd:List Nat
 wr:List Nat
abbrev M (α:Type):=AH→Nat→Option (Rs α)
def mfail {α:Type}:M α:=fun _ _=>none
def mpure {α:Type} (a:α):M α:=fun h n=>some ⟨a,h,n,[],[]⟩
def mbind {α β:Type} (x:M α) (k:α→M β):M β:=fun h n =>
 match x h n with
 |none=>none
 |some r=>match k r.a r.h r.n with
  |none=>none
  |some s=>some ⟨s.a,s.h,s.n,r.rd++s.rd,r.wr++s.wr⟩
structure Loc {α:Type} (x:M α) (h:AH) (n:Nat) (r:Rs α):Prop where
 le:n≤r.n
 frame:∀id,id ∉ r.wr→¬ (n≤id∧id<r.n)→r.h id=h id
 sub:∀id∈r.wr,id∈r.rd
 again:∀h2:AH,(∀id∈r.rd,h2 id=h id)→(∀id,n≤id→id<r.n→h2 id=h id)→∃r2,x h2 n=some r2∧r2.a=r.a∧r2.n=r.n∧r2.rd=r.rd∧r2.wr=r.wr ∧
  (∀id,(id∈r.wr∨(n≤id∧id<r.n))→r2.h id=r.h id)∧∀id,id ∉ r.wr→¬ (n≤id∧id<r.n)→r2.h id=h2 id
def Local {α:Type} (x:M α):Prop:=∀h n r,x h n=some r→Loc x h n r
theorem local_fail [Bk] [Ev] {α:Type}:Local (mfail:M α):=fun h n r hr=>by cases hr
theorem local_pure [Bk] [Ev] {α:Type} (a:α):Local (mpure a):=fun h n r hr=>by
 cases hr
 exact⟨Nat.le_refl _,fun _ _ _=>rfl,fun _ h=>h,fun h2 _ _=>⟨_,rfl,rfl,rfl,rfl,rfl,fun id hid=>by rcases hid with hid|hid;simp at hid;simp only at hid;omega,fun _ _ _=>rfl⟩⟩
theorem local_bind [Bk] [Ev] {α β:Type} {x:M α} {k:α→M β} (hx:Local x) (hk:∀a,Local (k a)):Local (mbind x k):=by
 intro h n t ht
 unfold mbind at ht
 cases h1:x h n with
 |none=>rw[h1]at ht;cases ht
 |some r =>
  rw[h1]at ht
  simp only at ht
  cases h2:k r.a r.h r.n with
  |none=>rw[h2]at ht;cases ht
  |some s =>
   rw[h2]at ht
   cases ht
   have L1:=hx h n r h1
   have L2:=hk r.a r.h r.n s h2
   have l1:=L1.le
   have l2:=L2.le
   refine⟨Nat.le_trans L1.le L2.le,?_,?_,?_⟩
   ·intro id hid hr
    simp only[List.mem_append,not_or]at hid
    rw[L2.frame id hid.2 (by simp only at hr;omega),L1.frame id hid.1 (by simp only at hr;omega)]
   ·intro id hid
    simp only[List.mem_append]at hid ⊢
    exact hid.imp (L1.sub id) (L2.sub id)
   ·intro g hrd hrg
    simp only[List.mem_append]at hrd
    simp only at hrg
    obtain⟨r2,e1,e2,e3,e4,e5,e6,e7⟩:=L1.again g (fun id hid=>hrd id (.inl hid)) (fun id a b=>hrg id a (by omega))
    have ag:∀id,(id∈s.rd∨(r.n≤id∧id<s.n))→r2.h id=r.h id:=by
     intro id hid
     by_cases hw:id∈r.wr∨(n≤id∧id<r.n)
     ·exact e6 id hw
     ·simp only[not_or]at hw
      rw[e7 id hw.1 hw.2,L1.frame id hw.1 hw.2]
      rcases hid with hid|hid
      ·exact hrd id (.inr hid)
      ·exact hrg id (by omega) hid.2
    obtain⟨s2,d1,d2,d3,d4,d5,d6,d7⟩:=L2.again r2.h (fun id hid=>ag id (.inl hid)) (fun id a b=>ag id (.inr ⟨a,b⟩))
    refine⟨⟨s2.a,s2.h,s2.n,r2.rd++s2.rd,r2.wr++s2.wr⟩,?_,d2,d3,by rw[e4,d4],by rw[e5,d5],?_,?_⟩
    ·unfold mbind
     rw[e1]
     simp only
     rw[e2,e3,d1]
    ·intro id hid
     simp only[List.mem_append]at hid
     simp only at hid ⊢
     by_cases hw:id∈s.wr∨(r.n≤id∧id<s.n)
     ·exact d6 id hw
     ·simp only[not_or]at hw
      rw[d7 id hw.1 hw.2,L2.frame id hw.1 hw.2]
      refine e6 id ?_
      rcases hid with(hid|hid)|hid
      ·exact .inl hid
      ·exact absurd hid hw.1
      ·exact .inr ⟨hid.1,by omega⟩
    ·intro id hid hr
     simp only[List.mem_append,not_or]at hid
     simp only at hr ⊢
     rw[d7 id hid.2 (by omega),e7 id hid.1 (by omega)]
section
variable {P:Program}
def aopM [Bk] (P:Program) (op:Op) (f:List AV):M AV:=fun h n =>
 match aopX P op (aev f) h n with
 |none=>none
 |some r=>some ⟨r.v,upsB h r.ups,if(r.ups.map (·.1)).contains n then n+1 else n,r.rds,r.ups.map (·.1)⟩
theorem local_aop [Bk] [Ev] (op:Op) (f:List AV):Local (aopM P op f):=by
 intro h n t ht
 unfold aopM at ht
 cases h1:aopX P op (aev f) h n with
 |none=>rw[h1]at ht;cases ht
 |some r =>
  rw[h1]at ht
  simp only[Option.some.injEq]at ht
  subst ht
  have hrange:∀id,n≤id→id<(if(r.ups.map (·.1)).contains n then n+1 else n)→id∈r.ups.map (·.1):=by
   intro id a b
   split at b
   ·rename_i hc
    have:id=n:=by omega
    subst this
    simpa using hc
   ·omega
  refine⟨by simp only;split<;>omega,fun id hid _=>upsB_not hid,aopX_ups h1,?_⟩
  intro g hrd _
  have h2:=aopX_h h1 hrd
  refine⟨⟨r.v,upsB g r.ups,_,r.rds,r.ups.map (·.1)⟩,by unfold aopM;rw[h2],rfl,rfl,rfl,rfl,?_,fun id hid _=>upsB_not hid⟩
  intro id hid
  rcases hid with hid|hid
  ·exact upsB_in hid
  ·exact upsB_in (hrange id hid.1 hid.2)
def astep [Bk] (P:Program) (call:Fn→List AV→M AV) (o:Oper) (f:List AV):M AV :=
 match calleeA P (aev f) o.op with
 |some (k,args)=>call (.func k) args
 |none=>match yieldA (aev f) o.op with
  |some (id,args)=>call (.yield id) args
  |none=>aopM P o.op f
def aseq [Bk] (P:Program) (call:Fn→List AV→M AV) (ops:Array Oper):List Nat→List AV→M (List AV)
 |[],f=>mpure f
 |i::l,f=>match ops[i]? with
  |none=>mfail
  |some o=>match guardA ops o f with
   |some true=>mbind (astep P call o f) fun v=>aseq P call ops l (fset f o.dst v)
   |some false=>aseq P call ops l (fset f o.dst .undef)
   |none=>mfail
def mlog (x:M AV):M (AV×Eff):=fun h n =>
 match x h n with
 |none=>none
 |some r=>some ⟨(r.a,⟨r.a,(r.wr++List.range' n (r.n-n)).map fun id=>(id,r.h id),r.rd,n,r.n,false⟩),r.h,r.n,r.rd,r.wr⟩
theorem local_log [Bk] [Ev] {x:M AV} (hx:Local x):Local (mlog x):=by
 intro h n t ht
 unfold mlog at ht
 cases h1:x h n with
 |none=>rw[h1]at ht;cases ht
 |some r =>
  rw[h1]at ht
  simp only[Option.some.injEq]at ht
  subst ht
  have L:=hx h n r h1
  refine⟨L.le,L.frame,L.sub,?_⟩
  intro g a b
  obtain⟨r2,e1,e2,e3,e4,e5,e6,e7⟩:=L.again g a b
  refine⟨⟨(r2.a,⟨r2.a,(r2.wr++List.range' n (r2.n-n)).map fun id=>(id,r2.h id),r2.rd,n,r2.n,false⟩),r2.h,r2.n,r2.rd,r2.wr⟩,by unfold mlog;rw[e1],?_,e3,e4,e5,e6,e7⟩
  simp only
  rw[e2,e3,e4,e5]
  congr 2
  refine List.map_congr_left fun id hid=>?_
  rw[e6 id]
  rw[List.mem_append,List.mem_range'_1]at hid
  rcases hid with hid|hid
  ·exact .inl hid
  ·exact .inr ⟨hid.1,by have:=L.le;omega⟩
def adrawL [Bk] (P:Program) (call:Fn→List AV→M AV) (ops:Array Oper):List Nat→List AV→M (List AV×List Eff)
 |[],f=>mpure (f,[])
 |i::l,f=>match ops[i]? with
  |none=>mfail
  |some o=>match guardA ops o f with
   |some true=>mbind (mlog (astep P call o f)) fun v=>mbind (adrawL P call ops l (fset f o.dst v.1)) fun q=>mpure (q.1,v.2::q.2)
   |some false=>mbind (adrawL P call ops l (fset f o.dst .undef)) fun q=>mpure (q.1,⟨.undef,[],[],0,0,true⟩::q.2)
   |none=>mfail
def adraw [Bk] (P:Program) (call:Fn→List AV→M AV) (ops:Array Oper) (f:List AV):M (List AV) :=
 if P.follows .mixedOrders then mbind (adrawL P call ops (List.range ops.size) f) fun q=>if drawB ops q.2 then mpure q.1 else mfail else mfail
def mcomp {α:Type} (x:M α):M α:=fun h n =>
 match x h n with
 |none=>none
 |some r=>some ⟨r.a,r.h,r.n,(r.rd.filter fun id=>!(decide (n≤id)&&decide (id<r.n))).eraseDups,(r.wr.filter fun id=>!(decide (n≤id)&&decide (id<r.n))).eraseDups⟩
theorem local_comp [Bk] [Ev] {α:Type} {x:M α} (hx:Local x):Local (mcomp x):=by
 intro h n t ht
 unfold mcomp at ht
 cases h1:x h n with
 |none=>rw[h1]at ht;cases ht
 |some r =>
  rw[h1]at ht
  simp only[Option.some.injEq]at ht
  subst ht
  have L:=hx h n r h1
  have hm:∀(l:List Nat) id,id∈(l.filter fun id=>!(decide (n≤id)&&decide (id<r.n))).eraseDups↔id∈l∧¬ (n≤id∧id<r.n):=by
   intro l id
   rw[List.mem_eraseDups,List.mem_filter]
   constructor<;>rintro⟨a,b⟩<;>refine⟨a,?_⟩<;>simp at b ⊢<;>omega
  refine⟨L.le,?_,?_,?_⟩
  ·intro id hid hr
   simp only[hm]at hid
   exact L.frame id (fun hw=>hid ⟨hw,hr⟩) hr
  ·intro id hid
   simp only[hm]at hid ⊢
   exact⟨L.sub id hid.1,hid.2⟩
  ·intro g a b
   simp only[hm]at a
   obtain⟨r2,e1,e2,e3,e4,e5,e6,e7⟩:=L.again g (fun id hid=>by
    by_cases hr:n≤id∧id<r.n
    ·exact b id hr.1 hr.2
    ·exact a id ⟨hid,hr⟩) b
   refine⟨⟨r2.a,r2.h,r2.n,(r2.rd.filter fun id=>!(decide (n≤id)&&decide (id<r2.n))).eraseDups,(r2.wr.filter fun id=>!(decide (n≤id)&&decide (id<r2.n))).eraseDups⟩,by unfold mcomp;rw[e1],e2,e3,?_,?_,?_,?_⟩
   ·simp only;rw[e4,e3]
   ·simp only;rw[e5,e3]
   ·intro id hid
    simp only[hm]at hid
    exact e6 id (hid.imp And.left _root_.id)
   ·intro id hid hr
    simp only[hm]at hid
    exact e7 id (fun hw=>hid ⟨hw,hr⟩) hr
inductive AX where
 |normal|exit (id:Nat)|ret
def AX.to:AX→Exit
 | .normal=>.normal
 | .exit id=>.exit id
 | .ret=>.ret
def atL {α:Type} (id:Nat) (g:Blk→Option (α×Blk)):M α:=fun h n =>
 match g (h id)with
 |none=>none
 |some (a,b)=>some ⟨a,bset h id b,n,[id],[id]⟩
theorem local_at [Bk] [Ev] {α:Type} (id:Nat) (g:Blk→Option (α×Blk)):Local (atL id g):=by
 intro h n r hr
 unfold atL at hr
 cases hg:g (h id)with
 |none=>rw[hg]at hr;cases hr
 |some p =>
  obtain⟨a,b⟩:=p
  rw[hg]at hr
  cases hr
  refine⟨Nat.le_refl _,fun k hk _=>bset_other _ _ (by simpa using hk),fun k hk=>hk,?_⟩
  intro g2 h1 _
  have e:g2 id=h id:=h1 id (by simp)
  refine⟨⟨a,bset g2 id b,n,[id],[id]⟩,by unfold atL;rw[e,hg],rfl,rfl,rfl,rfl,?_,fun k hk _=>bset_other _ _ (by simpa using hk)⟩
  intro k hk
  rcases hk with hk|hk
  ·simp only[List.mem_singleton]at hk
   subst hk
   simp[bset_same]
  ·simp only at hk;omega
def newL (f:List AV) (ps:Array Tmp) (as bd:Code):M Nat:=fun h n =>
 match h n with
 | .no=>some ⟨n,bset h n (.lp .ready f ps as bd),n+1,[n],[n]⟩
 |_=>none
theorem local_new [Bk] [Ev] (f:List AV) (ps:Array Tmp) (as bd:Code):Local (newL f ps as bd):=by
 intro h n r hr
 unfold newL at hr
 split at hr
 ·rename_i hn
  cases hr
  refine⟨by simp,fun k hk _=>bset_other _ _ (by simpa using hk),fun k hk=>hk,?_⟩
  intro g2 h1 _
  have e:g2 n=.no:=(h1 n (by simp)).trans hn
  refine⟨⟨n,bset g2 n (.lp .ready f ps as bd),n+1,[n],[n]⟩,by unfold newL;rw[e],rfl,rfl,rfl,rfl,?_,fun k hk _=>bset_other _ _ (by simpa using hk)⟩
  intro k hk
  have:k=n:=by
   rcases hk with hk|hk
   ·simpa using hk
   ·simp only at hk;omega
  subst this
  simp[bset_same]
 ·cases hr
def getG:Blk→Option ((List AV×Array Tmp×Code×Code)×Blk)
 | .lp .ready f ps as bd=>some ((f,ps,as,bd),.lp .ready f ps as bd)
 |_=>none
def busyG:Blk→Option (Unit×Blk)
 | .lp .ready f ps as bd=>some ((),.lp .busy f ps as bd)
 |_=>none
def turnG (x:AX):Blk→Option (AV×Blk)
 | .lp .busy f ps as bd=>match x with
  | .normal=>some (.c (.bool true),.lp .ready f ps as bd)
  | .ret=>some (.c (.bool false),.lp (.done .ret) f ps as bd)
  | .exit i=>some (.c (.bool false),.lp (.done (.exit i)) f ps as bd)
 |_=>none
def overG:Blk→Option (AX×Blk)
 | .lp .ready _ _ _ _=>some (.normal,.dead)
 | .lp (.done .ret) _ _ _ _=>some (.ret,.dead)
 | .lp (.done (.exit i)) _ _ _ _=>some (.exit i,.dead)
 |_=>none
def acode [Bk] (P:Program) (call:Fn→List AV→M AV) (tp:Bool):Nat→Code→List AV→M (AX×List AV)
 |0,_,_=>mfail
 |n+1,.skip,f=>mpure (.normal,f)
 |n+1,.region _ ops draw,f=>mbind (if draw then adraw P call ops f else aseq P call ops (List.range ops.size) f) fun f'=>mpure (.normal,f')
 |n+1,.seq x y,f=>mbind (acode P call tp n x f) fun q=>match q.1 with
  | .normal=>acode P call tp n y q.2
  |_=>mpure q
 |n+1,.cond c x y,f=>match aev f c with
  | .c (.bool b)=>acode P call tp n (if b then x else y) f
  |_=>mfail
 |n+1,.block id c,f=>mbind (acode P call tp n c f) fun q=>match q.1 with
  | .exit id'=>if id'=id then mpure (.normal,q.2)else mpure q
  |_=>mpure q
 |n+1,.loop c,f=>mbind (acode P call tp n c f) fun q=>match q.1 with
  | .normal=>acode P call tp n (.loop c) q.2
  |_=>mpure q
 |n+1,.rangeFunc g ps as bd,f=>if tp then match aev f g with
   | .fn (.func k) [] captured=>mbind (newL f ps as bd) fun id=>mbind (call (.func k) (.yld id::captured)) fun _=>mbind (atL id overG) fun x=>mpure (x,f)
   |_=>mfail
  else mfail
 |n+1,.scope c,f=>acode P call tp n c f
 |n+1,.label _,f=>mpure (.normal,f)
 |n+1,.exit id,f=>mpure (.exit id,f)
 |n+1,.ret,f=>mpure (.ret,f)
 |n+1,_,_=>mfail
def ayield [Bk] (P:Program) (L:Nat) (call:Fn→List AV→M AV) (id:Nat) (args:List AV):M AV :=
 mbind (atL id getG) fun q=>if args.length=q.2.1.size then
  mbind (acode P call false L q.2.2.1 (putsA q.1 q.2.1 args)) fun r=>match r.1 with
   | .normal=>mbind (atL id busyG) fun _=>mbind (acode P call false L q.2.2.2 r.2) fun s=>atL id (turnG s.1)
   |_=>mfail
 else mfail
def ptrIds:AV→List Nat
 | .ptr _ id _ _=>[id]
 |_=>[]
def resIds1 (f:List AV):ResultVar→List Nat
 | .tmp _=>[]
 | .cell t _=>ptrIds (f.getD t .undef)
def resIds (f:List AV) (l:List ResultVar):List Nat:=l.flatMap (resIds1 f)
def resM (P:Program) (fn:Func) (f:List AV):M AV:=fun h n =>
 match resultsA P fn f h with
 |none=>none
 |some v=>some ⟨v,h,n,resIds f fn.results.toList,[]⟩
theorem resultsA_h [Bk] [Ev] {fn:Func} {f:List AV} {h h':AH} (hag:∀id∈resIds f fn.results.toList,h' id=h id):resultsA P fn f h'=resultsA P fn f h:=by
 unfold resultsA
 congr 1
 have:∀r∈fn.results.toList,resA P f h' r=resA P f h r:=by
  intro r hr
  cases r with
  |tmp t=>rfl
  |cell t ty =>
   simp only[resA]
   cases hf:f.getD t .undef with
   |ptr sz id i off =>
    have:h' id=h id:=by
     refine hag id ?_
     unfold resIds
     rw[List.mem_flatMap]
     refine⟨_,hr,?_⟩
     simp only[resIds1,hf,ptrIds]
     simp
    simp only[cellA,this]
   |_=>rfl
 revert this
 generalize fn.results.toList=l
 intro this
 induction l with
 |nil=>rfl
 |cons r l ih =>
  rw[List.mapM_cons,List.mapM_cons,this r (by simp),ih (fun r hr=>this r (by simp[hr]))]
theorem local_res [Bk] [Ev] (fn:Func) (f:List AV):Local (resM P fn f):=by
 intro h n t ht
 unfold resM at ht
 cases h1:resultsA P fn f h with
 |none=>rw[h1]at ht;cases ht
 |some v =>
  rw[h1]at ht
  simp only[Option.some.injEq]at ht
  subst ht
  refine⟨Nat.le_refl _,fun _ _ _=>rfl,fun _ h=>by simp at h,fun g a b=>⟨⟨v,g,n,_,[]⟩,by unfold resM;rw[resultsA_h a,h1],rfl,rfl,rfl,rfl,fun id hid=>by rcases hid with hid|hid;simp at hid;simp only at hid;omega,fun _ _ _=>rfl⟩⟩
structure CallOk [Bk] [Ev] (P:Program) (call:Fn→List AV→M AV):Prop where
 loc:∀k args,Local (call k args)
 ok : ∀ k args h n r, call (.func k) args h n = some r → ∃ fn c, P.funcs[k]? = some fn ∧ fn.body = some c ∧ (fn.name == "runtime.NumGoroutine") = false ∧ ACalls P k args h (fun v h' => v = r.a ∧ h' = r.h)
 yl:∀id args h n r,call (.yield id) args h n=some r→AYields P id args h (fun v h'=>v=r.a∧h'=r.h)
variable {call:Fn→List AV→M AV}
theorem local_step [Bk] [Ev] (hc:CallOk P call) (o:Oper) (f:List AV):Local (astep P call o f):=by
 unfold astep
 split
 ·exact hc.loc _ _
 ·split
  ·exact hc.loc _ _
  ·exact local_aop _ _
theorem local_seq [Bk] [Ev] (hc:CallOk P call) (ops:Array Oper):∀(l:List Nat) (f:List AV),Local (aseq P call ops l f)
 |[],f=>local_pure f
 |i::l,f=>by
  simp only[aseq]
  split
  ·exact local_fail
  ·split
   ·exact local_bind (local_step hc _ _) fun v=>local_seq hc ops l _
   ·exact local_seq hc ops l _
   ·exact local_fail
theorem local_drawL [Bk] [Ev] (hc:CallOk P call) (ops:Array Oper):∀(l:List Nat) (f:List AV),Local (adrawL P call ops l f)
 |[],f=>local_pure _
 |i::l,f=>by
  simp only[adrawL]
  split
  ·exact local_fail
  ·split
   ·exact local_bind (local_log (local_step hc _ _)) fun v=>local_bind (local_drawL hc ops l _) fun q=>local_pure _
   ·exact local_bind (local_drawL hc ops l _) fun q=>local_pure _
   ·exact local_fail
theorem local_draw [Bk] [Ev] (hc:CallOk P call) (ops:Array Oper) (f:List AV):Local (adraw P call ops f):=by
 unfold adraw
 split
 ·refine local_bind (local_drawL hc ops _ _) fun q=>?_
  split
  ·exact local_pure _
  ·exact local_fail
 ·exact local_fail
theorem local_code [Bk] [Ev] (hc:CallOk P call) {tp:Bool}:∀(n:Nat) (c:Code) (f:List AV),Local (acode P call tp n c f)
 |0,c,f=>by simp only[acode];exact local_fail
 |n+1,c,f=>by
  cases c with
  |skip=>exact local_pure _
  |region id ops draw =>
   simp only[acode]
   refine local_bind ?_ fun _=>local_pure _
   split
   ·exact local_draw hc _ _
   ·exact local_seq hc _ _ _
  |seq x y =>
   simp only[acode]
   refine local_bind (local_code hc n x f) fun q=>?_
   split
   ·exact local_code hc n y _
   ·exact local_pure _
  |cond c x y =>
   simp only[acode]
   split
   ·exact local_code hc n _ _
   ·exact local_fail
  |block id c =>
   simp only[acode]
   refine local_bind (local_code hc n c f) fun q=>?_
   split
   ·split<;>exact local_pure _
   ·exact local_pure _
  |loop c =>
   simp only[acode]
   refine local_bind (local_code hc n c f) fun q=>?_
   split
   ·exact local_code hc n _ _
   ·exact local_pure _
  |rangeFunc g ps as bd =>
   simp only[acode]
   split
   ·split
    ·exact local_bind (local_new _ _ _ _) fun id=>local_bind (hc.loc _ _) fun _=>local_bind (local_at _ _) fun x=>local_pure _
    ·exact local_fail
   ·exact local_fail
  |scope c=>simp only[acode];exact local_code hc n c f
  |label l=>exact local_pure _
  |exit id=>exact local_pure _
  |ret=>exact local_pure _
  |_=>simp only[acode];exact local_fail
theorem local_yield [Bk] [Ev] (hc:CallOk P call) (L id:Nat) (args:List AV):Local (ayield P L call id args):=by
 unfold ayield
 refine local_bind (local_at _ _) fun q=>?_
 split
 ·refine local_bind (local_code hc _ _ _) fun r=>?_
  split
  ·exact local_bind (local_at _ _) fun _=>local_bind (local_code hc _ _ _) fun s=>local_at _ _
  ·exact local_fail
 ·exact local_fail
theorem bind_inv [Bk] [Ev] {α β:Type} {x:M α} {k:α→M β} {h:AH} {n:Nat} {t:Rs β} (ht:mbind x k h n=some t):∃r s,x h n=some r∧k r.a r.h r.n=some s∧t.a=s.a∧t.h=s.h∧t.n=s.n:=by
 unfold mbind at ht
 cases h1:x h n with
 |none=>rw[h1]at ht;cases ht
 |some r =>
  rw[h1]at ht
  simp only at ht
  cases h2:k r.a r.h r.n with
  |none=>rw[h2]at ht;cases ht
  |some s =>
   rw[h2]at ht
   cases ht
   exact⟨r,s,rfl,h2,rfl,rfl,rfl⟩
theorem astep_ok [Bk] [Ev] (hc:CallOk P call) {o:Oper} {f:List AV} {h:AH} {n:Nat} {r:Rs AV} (hr:astep P call o f h n=some r):StepOk P o f h (fun v h'=>v=r.a∧h'=r.h):=by
 unfold astep at hr
 cases hk:calleeA P (aev f) o.op with
 |some p =>
  obtain⟨k,args⟩:=p
  simp only[hk]at hr
  obtain⟨fn,c,h1,h2,h3,h4⟩:=hc.ok k args h n r hr
  exact StepOk.call hk h1 h2 h3 h4
 |none =>
  simp only[hk]at hr
  cases hy:yieldA (aev f) o.op with
  |some p =>
   obtain⟨id,args⟩:=p
   simp only[hy]at hr
   exact StepOk.yields hy (hc.yl id args h n r hr)
  |none =>
   simp only[hy]at hr
   unfold aopM at hr
   cases h1:aopX P o.op (aev f) h n with
   |none=>rw[h1]at hr;cases hr
   |some q =>
    rw[h1]at hr
    simp only[Option.some.injEq]at hr
    subst hr
    exact(aopX_ok h1).step
theorem aseq_ok [Bk] [Ev] (hc:CallOk P call) {ops:Array Oper} {Q:Exit→List AV→AH→Prop}:∀(l:List Nat) (f:List AV) (h:AH) (n:Nat) (r:Rs (List AV)),aseq P call ops l f h n=some r→Q .normal r.a r.h→ASeq P ops Q l f h
 |[],f,h,n,r,hr,hq=>by cases hr;exact ASeq.nil hq
 |i::l,f,h,n,r,hr,hq=>by
  simp only[aseq]at hr
  cases ho:ops[i]? with
  |none=>simp only[ho]at hr;cases hr
  |some o =>
   simp only[ho]at hr
   cases hg:guardA ops o f with
   |none=>simp only[hg]at hr;cases hr
   |some b =>
    simp only[hg]at hr
    cases b with
    |true =>
     simp only at hr
     obtain⟨r1,s,h1,h2,e1,e2,e3⟩:=bind_inv hr
     refine ASeq.cons ho hg (astep_ok hc h1) ?_
     rintro v h' ⟨rfl,rfl⟩
     exact aseq_ok hc l _ _ _ s h2 (by rw[←e1,←e2];exact hq)
    |false =>
     simp only at hr
     exact ASeq.pass ho hg (aseq_ok hc l _ _ _ r hr hq)
theorem aev_tmp [Bk] [Ev] {ops:Array Oper} {o:Oper} {f f':List AV} (ht:∀t∈footT ops o,f'[t]?=f[t]?):∀x∈o.op.operands.toList,aev f' x=aev f x:=by
 intro x hx
 cases x with
 |tmp t =>
  have:t∈footT ops o:=by
   unfold footT tmpsOf
   rw[List.mem_append,List.mem_filterMap]
   exact .inl ⟨_,hx,rfl⟩
  simp only[aev,List.getD,ht t this]
 |_=>rfl
theorem guardA_f [Bk] [Ev] {ops:Array Oper} {o:Oper} {f f':List AV} (ht:∀t∈footT ops o,f'[t]?=f[t]?):guardA ops o f'=guardA ops o f:=by
 unfold guardA
 cases hg:o.guard with
 |none=>rfl
 |some p =>
  obtain⟨j,want⟩:=p
  simp only
  cases hd:(ops[j]?).bind (·.dst)with
  |none=>rfl
  |some d =>
   have:d∈footT ops o:=by
    unfold footT guardTmp
    rw[List.mem_append,hg]
    simp[hd]
   simp only[ht d this]
theorem calleeA_f [Bk] [Ev] {op:Op} {f f':List AV} (ha:∀x∈op.operands.toList,aev f' x=aev f x):calleeA P (aev f') op=calleeA P (aev f) op:=by
 unfold calleeA
 split
 ·rename_i g args tys
  have h1:aev f' g=aev f g:=ha g (by simp[Op.operands,Call.operands])
  have h2:args.toList.map (aev f')=args.toList.map (aev f):=List.map_congr_left fun x hx=>ha x (by simp[Op.operands,Call.operands];right;simpa using hx)
  rw[h1,h2]
 ·rename_i g name args tys
  have h1:aev f' g=aev f g:=ha g (by simp[Op.operands,Call.operands])
  have h2:args.toList.map (aev f')=args.toList.map (aev f):=List.map_congr_left fun x hx=>ha x (by simp[Op.operands,Call.operands];right;simpa using hx)
  rw[h1,h2]
 ·rfl
theorem yieldA_f [Bk] [Ev] {op:Op} {f f':List AV} (ha:∀x∈op.operands.toList,aev f' x=aev f x):yieldA (aev f') op=yieldA (aev f) op:=by
 unfold yieldA
 split
 ·rename_i g args tys
  have h1:aev f' g=aev f g:=ha g (by simp[Op.operands,Call.operands])
  have h2:args.toList.map (aev f')=args.toList.map (aev f):=List.map_congr_left fun x hx=>ha x (by simp[Op.operands,Call.operands];right;simpa using hx)
  rw[h1,h2]
 ·rfl
theorem astep_f [Bk] [Ev] {o:Oper} {f f':List AV} (ha:∀x∈o.op.operands.toList,aev f' x=aev f x):astep P call o f'=astep P call o f:=by
 unfold astep
 rw[calleeA_f ha,yieldA_f ha]
 have:aopM P o.op f'=aopM P o.op f:=by funext h n;unfold aopM;rw[aopX_f (ρ:=aev f) (ρ':=aev f') ha]
 rw[this]
theorem upsB_map [Bk] [Ev] (g:AH):∀(l:List Nat) (h:AH) (id:Nat),upsB h (l.map fun id=>(id,g id)) id=if id∈l then g id else h id
 |[],h,id=>by simp[upsB]
 |i::l,h,id=>by
  simp only[List.map_cons,upsB]
  rw[upsB_map g l]
  by_cases h1:id∈l
  ·simp[h1]
  ·by_cases h2:id=i
   ·subst h2;simp[h1,bset]
   ·simp[h1,h2,bset]
theorem does_step [Bk] [Ev] (hc:CallOk P call) {ops:Array Oper} {o:Oper} {f:List AV} {h:AH} {n:Nat} {r:Rs AV} (hg:guardA ops o f=some true) (hr:astep P call o f h n=some r) :
  Does P ops o ⟨r.a,(r.wr++List.range' n (r.n-n)).map fun id=>(id,r.h id),r.rd,n,r.n,false⟩ f h:=by
 intro f' h' hl ht hrd hrg
 simp only[Bool.false_eq_true,if_false]
 refine⟨by rw[guardA_f ht];exact hg,?_⟩
 have L:=local_step hc o f h n r hr
 obtain⟨r2,e1,e2,e3,e4,e5,e6,e7⟩:=L.again h' hrd hrg
 rw[←astep_f (f':=f') (aev_tmp ht)]at e1
 refine(astep_ok hc e1).mono ?_
 rintro v h'' ⟨rfl,rfl⟩
 refine⟨e2,?_⟩
 funext id
 rw[upsB_map r.h]
 have hm:id∈r.wr++List.range' n (r.n-n)↔(id∈r.wr∨(n≤id∧id<r.n)):=by
  rw[List.mem_append,List.mem_range'_1]
  have:=L.le
  constructor
  ·rintro(h|h)
   ·exact .inl h
   ·exact .inr ⟨h.1,by omega⟩
  ·rintro(h|h)
   ·exact .inl h
   ·exact .inr ⟨h.1,by omega⟩
 by_cases hid:id∈r.wr∨(n≤id∧id<r.n)
 ·rw[if_pos (hm.2 hid)];exact e6 id hid
 ·rw[if_neg (fun h=>hid (hm.1 h))]
  simp only[not_or]at hid
  exact e7 id hid.1 hid.2
theorem adrawL_ok [Bk] [Ev] (hc:CallOk P call) {ops:Array Oper}:∀(l:List Nat) (f:List AV) (h:AH) (n:Nat) (r:Rs (List AV×List Eff)),adrawL P call ops l f h n=some r →
  r.a.2.length=l.length∧Run P ops ((l.zip r.a.2).map fun p=>(ops.getD p.1 default,p.2)) (f,h)∧fin ((l.zip r.a.2).map fun p=>(ops.getD p.1 default,p.2)) (f,h)=(r.a.1,r.h)
 |[],f,h,n,r,hr=>by cases hr;exact⟨rfl,trivial,rfl⟩
 |i::l,f,h,n,r,hr=>by
  simp only[adrawL]at hr
  cases ho:ops[i]? with
  |none=>simp only[ho]at hr;cases hr
  |some o =>
   simp only[ho]at hr
   have hoi:ops.getD i default=o:=by simp[ho]
   cases hg:guardA ops o f with
   |none=>simp only[hg]at hr;cases hr
   |some b =>
    simp only[hg]at hr
    cases b with
    |true =>
     simp only at hr
     obtain⟨r1,s,h1,h2,e1,e2,e3⟩:=bind_inv hr
     obtain⟨r2,s2,h3,h4,d1,d2,d3⟩:=bind_inv h2
     cases h4
     unfold mlog at h1
     cases h5:astep P call o f h n with
     |none=>rw[h5]at h1;cases h1
     |some q =>
      rw[h5]at h1
      simp only[Option.some.injEq]at h1
      subst h1
      obtain⟨k1,k2,k3⟩:=adrawL_ok hc l _ _ _ r2 h3
      have hd:=does_step hc hg h5
      have L:=local_step hc o f h n q h5
      have happ:app (o,⟨q.a,(q.wr++List.range' n (q.n-n)).map fun id=>(id,q.h id),q.rd,n,q.n,false⟩) (f,h)=(fset f o.dst q.a,q.h):=by
       simp only[app,Prod.mk.injEq,true_and]
       funext id
       rw[upsB_map q.h]
       split
       ·rfl
       ·rename_i hid
        rw[List.mem_append,List.mem_range'_1,not_or]at hid
        have:=L.le
        exact(L.frame id hid.1 (by omega)).symm
      rw[e1,d1,e2,d2]
      refine⟨by simp[k1],?_,?_⟩
      ·simp only[List.zip_cons_cons,List.map_cons,Run,hoi]
       exact⟨hd,by rw[happ];exact k2⟩
      ·simp only[List.zip_cons_cons,List.map_cons,hoi]
       show fin _ (app _ _)=_
       rw[happ];exact k3
    |false =>
     simp only at hr
     obtain⟨r1,s,h1,h2,e1,e2,e3⟩:=bind_inv hr
     cases h2
     obtain⟨k1,k2,k3⟩:=adrawL_ok hc l _ _ _ r1 h1
     rw[e1,e2]
     refine⟨by simp[k1],?_,?_⟩
     ·simp only[List.zip_cons_cons,List.map_cons,Run,hoi]
      refine⟨?_,k2⟩
      intro f' h' hl ht hrd hrg
      simp only[if_true]
      exact⟨by rw[guardA_f ht];exact hg,trivial,trivial⟩
     ·simp only[List.zip_cons_cons,List.map_cons,hoi]
      exact k3
theorem adraw_ok [Bk] [Ev] (hc:CallOk P call) {tp:Bool} {id:Nat} {ops:Array Oper} {Q:Exit→List AV→AH→Prop} {f:List AV} {h:AH} {n:Nat} {r:Rs (List AV)} (hr:adraw P call ops f h n=some r) (hq:Q .normal r.a r.h):AWP P tp (.region id ops true) Q f h:=by
 unfold adraw at hr
 by_cases hm:P.follows .mixedOrders=true
 ·rw[if_pos hm]at hr
  obtain⟨r1,s,h1,h2,e1,e2,e3⟩:=bind_inv hr
  by_cases hb:drawB ops r1.a.2=true
  ·rw[if_pos hb]at h2
   cases h2
   obtain⟨k1,k2,k3⟩:=adrawL_ok hc _ _ _ _ r1 h1
   rw[List.length_range]at k1
   have hz:((List.range ops.size).zip r1.a.2).map (fun p=>(ops.getD p.1 default,p.2))=(List.range ops.size).map (itemOf ops r1.a.2):=by
    apply List.ext_getElem?
    intro j
    rw[List.getElem?_map,List.getElem?_map]
    by_cases hj:j<ops.size
    ·have h1:(List.range ops.size)[j]?=some j:=by simp[hj]
     have h2:r1.a.2[j]?=some r1.a.2[j]:=by simp[List.getElem?_eq_getElem (show j<r1.a.2.length by omega)]
     rw[(List.getElem?_zip_eq_some (z:=(j,r1.a.2[j]))).2 ⟨h1,h2⟩,h1]
     simp[itemOf,List.getD,h2]
    ·have h1:(List.range ops.size)[j]?=none:=by simp;omega
     have h2:((List.range ops.size).zip r1.a.2)[j]?=none:=by
      rw[List.getElem?_eq_none];simp;omega
     rw[h1,h2];rfl
   rw[hz]at k2 k3
   rw[e1,e2]at hq
   exact AWP.draw hm r1.a.2 k1 hb k2 k3 hq
  ·rw[if_neg hb]at h2;cases h2
 ·rw[if_neg hm]at hr;cases hr
theorem acode_ok [Bk] [Ev] (hc:CallOk P call) {tp:Bool}:∀(k:Nat) (c:Code) (Q:Exit→List AV→AH→Prop) (f:List AV) (h:AH) (n:Nat) (r:Rs (AX×List AV)),acode P call tp k c f h n=some r→Q r.a.1.to r.a.2 r.h→AWP P tp c Q f h
 |0,c,Q,f,h,n,r,hr,hq=>by simp only[acode]at hr;cases hr
 |k+1,c,Q,f,h,n,r,hr,hq=>by
  cases c with
  |skip=>cases hr;exact AWP.skip hq
  |region id ops draw =>
   simp only[acode]at hr
   obtain⟨r1,s,h1,h2,e1,e2,e3⟩:=bind_inv hr
   cases h2
   rw[e1,e2]at hq
   cases draw with
   |true =>
    simp only[if_true]at h1
    exact adraw_ok hc h1 hq
   |false =>
    simp only[Bool.false_eq_true,if_false]at h1
    exact AWP.region (aseq_ok hc _ _ _ _ _ h1 hq)
  |seq x y =>
   simp only[acode]at hr
   obtain⟨r1,s,h1,h2,e1,e2,e3⟩:=bind_inv hr
   refine AWP.seq (acode_ok hc k x _ f h n r1 h1 ?_)
   cases hx:r1.a.1 with
   |normal =>
    simp only[hx]at h2
    exact acode_ok hc k y Q _ _ _ s h2 (by rw[←e1,←e2];exact hq)
   |_ =>
    simp only[hx]at h2
    cases h2
    rw[e1,e2,hx]at hq;exact hq
  |cond c x y =>
   simp only[acode]at hr
   cases hv:aev f c with
   |c v =>
    cases v with
    |bool b=>simp only[hv]at hr;exact AWP.cond hv (acode_ok hc k _ Q f h n r hr hq)
    |_=>simp only[hv]at hr;cases hr
   |_=>simp only[hv]at hr;cases hr
  |block id c =>
   simp only[acode]at hr
   obtain⟨r1,s,h1,h2,e1,e2,e3⟩:=bind_inv hr
   refine AWP.block (acode_ok hc k c _ f h n r1 h1 ?_)
   cases hx:r1.a.1 with
   |exit id' =>
    simp only[hx]at h2
    simp only[AX.to,inBlockA]
    by_cases hid:id'=id
    ·rw[if_pos hid]at h2 ⊢
     cases h2
     rw[e1,e2]at hq;exact hq
    ·rw[if_neg hid]at h2 ⊢
     cases h2
     rw[e1,e2,hx]at hq;exact hq
   |_ =>
    simp only[hx]at h2
    cases h2
    rw[e1,e2,hx]at hq;exact hq
  |scope c =>
   simp only[acode]at hr
   have hg:∀l,r.a.1.to≠.goto l:=by intro l;cases r.a.1<;>simp[AX.to]
   exact AWP.scope (acode_ok hc k c _ f h n r hr ⟨hg,hq⟩)
  |label l=>cases hr;exact AWP.label hq
  |loop c =>
   have key:∀(k:Nat) (f:List AV) (h:AH) (n:Nat) (r:Rs (AX×List AV)),acode P call tp k (.loop c) f h n=some r→Q r.a.1.to r.a.2 r.h→(∀k' c' Q f h n r,k'<k→acode P call tp k' c' f h n=some r→Q r.a.1.to r.a.2 r.h→AWP P tp c' Q f h)→AWP P tp (.loop c) Q f h:=by
    intro k f h n r hr hq ih
    refine AWP.loop (fun m f h=>∃n r,acode P call tp m (.loop c) f h n=some r∧Q r.a.1.to r.a.2 r.h∧m≤k) k ⟨n,r,hr,hq,Nat.le_refl _⟩ ?_
    rintro m f1 h1 ⟨n1,r1,hr1,hq1,hm⟩
    cases m with
    |zero=>simp only[acode]at hr1;cases hr1
    |succ m =>
     simp only[acode]at hr1
     obtain⟨r2,s,g1,g2,e1,e2,e3⟩:=bind_inv hr1
     refine ih m c _ f1 h1 n1 r2 (by omega) g1 ?_
     cases hx:r2.a.1 with
     |normal =>
      simp only[hx]at g2
      exact⟨m,by omega,_,s,g2,by rw[←e1,←e2];exact hq1,by omega⟩
     |_ =>
      simp only[hx]at g2
      cases g2
      rw[e1,e2,hx]at hq1;exact hq1
   exact key (k+1) f h n r hr hq fun k' c' Q f h n r hk=>acode_ok hc k' c' Q f h n r
  |rangeFunc g ps as bd =>
   simp only[acode]at hr
   cases tp with
   |false=>simp only[Bool.false_eq_true,if_false]at hr;cases hr
   |true =>
    simp only[if_true]at hr
    cases hv:aev f g with
    |fn F first captured =>
     cases F with
     |func kk =>
      cases first with
      |nil =>
       simp only[hv]at hr
       obtain⟨r1,s1,g1,g2,e1,e2,e3⟩:=bind_inv hr
       obtain⟨r2,s2,g3,g4,d1,d2,d3⟩:=bind_inv g2
       obtain⟨r3,s3,g5,g6,c1,c2,c3⟩:=bind_inv g4
       cases g6
       unfold newL at g1
       split at g1
       ·rename_i hn
        cases g1
        obtain⟨fn,c,h1,h2,h3,h4⟩:=hc.ok _ _ _ _ r2 g3
        refine AWP.rangeFunc hv h1 h2 h3 hn (h4.mono ?_)
        rintro v h' ⟨rfl,rfl⟩
        unfold atL at g5
        rw[e1,d1,c1,e2,d2,c2]at hq
        unfold overA
        cases hb:r2.h n with
        |lp st f0 ps0 as0 bd0 =>
         rw[hb]at g5
         cases st with
         |ready=>simp only[overG]at g5;cases g5;exact hq
         |busy=>simp only[overG]at g5;cases g5
         |done c0 =>
          cases c0 with
          |ret=>simp only[overG]at g5;cases g5;exact hq
          |exit i=>simp only[overG]at g5;cases g5;exact hq
          |_=>simp only[overG]at g5;cases g5
        |_=>rw[hb]at g5;simp only[overG]at g5;cases g5
       ·cases g1
      |cons _ _=>simp only[hv]at hr;cases hr
     |_=>simp only[hv]at hr;cases hr
    |_=>simp only[hv]at hr;cases hr
  |exit id=>cases hr;exact AWP.exit hq
  |ret=>cases hr;exact AWP.ret hq
  |_=>simp only[acode]at hr;cases hr
 termination_by k=>k
 decreasing_by all_goals omega
theorem at_inv {α:Type} {id:Nat} {g:Blk→Option (α×Blk)} {h:AH} {n:Nat} {r:Rs α} (hr:atL id g h n=some r):∃b,g (h id)=some (r.a,b)∧r.h=bset h id b:=by
 unfold atL at hr
 cases hg:g (h id)with
 |none=>rw[hg]at hr;cases hr
 |some p =>
  obtain⟨a,b⟩:=p
  rw[hg]at hr
  cases hr
  exact⟨b,rfl,rfl⟩
theorem ayield_ok [Bk] [Ev] (hc:CallOk P call) {L id:Nat} {args:List AV} {h:AH} {n:Nat} {r:Rs AV} (hr:ayield P L call id args h n=some r):AYields P id args h (fun v h'=>v=r.a∧h'=r.h):=by
 unfold ayield at hr
 obtain⟨r1,s1,g1,g2,e1,e2,-⟩:=bind_inv hr
 obtain⟨b1,q1,q2⟩:=at_inv g1
 cases hb:h id with
 |lp st f ps as bd =>
  rw[hb]at q1
  cases st with
  |ready =>
   simp only[getG,Option.some.injEq,Prod.mk.injEq]at q1
   obtain⟨q1,rfl⟩:=q1
   have hsame:bset h id (.lp .ready f ps as bd)=h:=by
    funext k
    by_cases e:k=id
    ·subst e;rw[bset_same,hb]
    ·rw[bset_other _ _ e]
   rw[hsame]at q2
   rw[←q1]at g2
   simp only at g2
   by_cases hl:args.length=ps.size
   ·rw[if_pos hl]at g2
    obtain⟨r2,s2,g3,g4,d1,d2,-⟩:=bind_inv g2
    rw[q2]at g3
    refine AYields.of_body hb hl (acode_ok hc L as _ _ h _ r2 g3 ?_)
    cases hx:r2.a.1 with
    |normal =>
     simp only[hx]at g4
     obtain⟨r3,s3,g5,g6,c1,c2,-⟩:=bind_inv g4
     obtain⟨b3,k1,k2⟩:=at_inv g5
     obtain⟨r4,s4,g7,g8,i1,i2,-⟩:=bind_inv g6
     obtain⟨b4,k3,k4⟩:=at_inv g8
     cases hb2:r2.h id with
     |lp st' f' ps' as' bd' =>
      rw[hb2]at k1
      cases st' with
      |ready =>
       simp only[busyG,Option.some.injEq,Prod.mk.injEq]at k1
       obtain⟨-,rfl⟩:=k1
       rw[k2]at g7
       refine⟨rfl,f',ps',as',bd',rfl,acode_ok hc L bd _ _ _ _ r4 g7 ?_⟩
       cases hb3:r4.h id with
       |lp st3 f3 ps3 as3 bd3 =>
        rw[hb3]at k3
        cases st3 with
        |busy =>
         have fin:s4.a=r.a∧s4.h=r.h:=⟨by rw[e1,d1,c1,i1],by rw[e2,d2,c2,i2]⟩
         cases hx4:r4.a.1<;>(rw[hx4]at k3;simp only[turnG,Option.some.injEq,Prod.mk.injEq]at k3;obtain⟨k3,rfl⟩:=k3;exact⟨f3,ps3,as3,bd3,hb3,k3.trans fin.1,k4.symm.trans fin.2⟩)
        |_=>simp[turnG]at k3
       |_=>rw[hb3]at k3;simp[turnG]at k3
      |_=>simp[busyG]at k1
     |_=>rw[hb2]at k1;simp[busyG]at k1
    |_=>simp only[hx]at g4;cases g4
   ·rw[if_neg hl]at g2;cases g2
  |_=>simp[getG]at q1
 |_=>rw[hb]at q1;simp[getG]at q1
end
end Go.Proofs.Ytjccjmmbebiegaa.Mc
set_option linter.unusedVariables false
set_option linter.unusedSimpArgs false
namespace Go.Proofs.Ytjccjmmbebiegaa.Mc
open Go.RowKit
section
variable {P:Program}
theorem HRel.waste [Bk] [Ev] {h:AH} {m:Nat→St} {A:Nat→Prop} {w:World} (H:HRel m A h w) {id:Nat} (hid:h id=.no) :
  HRel (sset m id .dead) A (bset h id .dead) w∧Ext m w (sset m id .dead) w:=by
 have hmid:=H.no id hid
 have ne:∀{k:Nat} {s:St},m k=s→s≠.no→k≠id:=by rintro k s h1 h2 rfl;rw[hmid]at h1;exact h2 h1.symm
 have E:Ext m w (sset m id .dead) w:=by
  refine⟨rfl,rfl,rfl,Nat.le_refl _,?_,?_,?_,?_,fun _ _ _ _=>rfl⟩
  ·intro k b hb;exact .inl (by rw[sset,if_neg (ne hb (by simp))];exact hb)
  ·intro k hk
   unfold sset;split
   ·rfl
   ·exact hk
  ·intro k hk;exact .inl (by rw[sset,if_neg (ne hk (by simp))];exact hk)
  ·intro b hb hu
   refine⟨?_,rfl⟩
   intro k
   unfold sset;split
   ·intro e;cases e
   ·exact hu k
 refine⟨⟨?_,H.old,?_,?_,?_,?_,H.glob.ext H.out E,H.others_to E fun id' B hk hB=>?_,ScOk.set H.scs trivial⟩,E⟩
 ·intro k b hb
  unfold sset at hb;split at hb
  ·cases hb
  ·exact H.out k b hb
 ·intro k hk
  unfold bset at hk;unfold sset;split at hk
  ·cases hk
  ·rename_i hne;rw[if_neg hne];exact H.no k hk
 ·intro k hk
  unfold bset at hk;unfold sset;split at hk
  ·rename_i he;rw[if_pos he]
  ·rename_i hne;rw[if_neg hne];exact H.dead k hk
 ·intro k T' sz' els' hk
  unfold bset at hk;split at hk
  ·simp[Blk.els]at hk
  ·rename_i hne
   obtain⟨g1,g2⟩|⟨b,cs,g1,g2,g3,g4,g5⟩:=H.arrs k T' sz' els' hk
   ·exact .inl ⟨by simp[sset,hne,g1],g2⟩
   ·exact .inr ⟨b,cs,by simp[sset,hne,g1],g2,g3,g4,fun i j x hx=>⟨(g5 i j x hx).1,(g5 i j x hx).2.ext E⟩⟩
 ·intro i j b hi hj
  unfold sset at hi hj
  split at hi
  ·cases hi
  ·split at hj
   ·cases hj
   ·exact H.inj i j b hi hj
 ·unfold bset at hk;split at hk
  ·subst hk;exact absurd hB (by simp[Blk.other])
  ·rename_i hne
   exact⟨hk,fun b hb=>⟨by simp[sset,hne,hb],rfl⟩⟩
theorem step_slice_nil [Bk] [Ev] {o:Oper} {f:List AV} {h:AH} {t e ty:TypeId} {x:Operand} {els:List (List AV)} (ho:o.op=.binOp .eql t x (.const (.slice none 0 0)) ty) (ht:P.underlying t=some (.slice e)) (he:elsA h (aev f x)=some els) :
  StepOk P o f h (fun v h'=>h'=h∧(v=.c (.bool true)∧els=[]∨v=.c (.bool false))):=by
 intro r' m A w a H F K Q hK
 have h1:=F.eval x
 have hv:∃ad cap,a.eval x=.slice ad els.length cap∧(ad=none→els=[]):=by
  generalize aev f x=y at h1 he
  generalize a.eval x=v at h1
  cases y with
  |emp =>
   simp only[elsA,Option.some.injEq]at he;subst he
   cases h1 with|pure _ _ hr=>cases hr with|emp a=>exact⟨a,0,rfl,fun _=>rfl⟩
  |lit s els' =>
   simp only[elsA,Option.some.injEq]at he;subst he
   obtain⟨rfl,a,cap,rfl⟩|⟨b,off,cap,vs,rfl,-⟩:=h1.lit_inv
   ·exact⟨a,cap,rfl,fun _=>rfl⟩
   ·exact⟨_,cap,rfl,fun h=>by cases h⟩
  |own T s id i n =>
   simp only[elsA]at he
   split at he
   ·rename_i T' sz' els0 hh
    split at he
    ·rename_i hc
     obtain⟨rfl,rfl,hle⟩:=hc
     cases he
     have hlen:((els0.drop i).take n).length=n:=by simp;omega
     rw[hlen]
     rcases H.cells id _ _ _ hh with⟨hv,rfl⟩|⟨b,cs,g1,g2,g3,g4,g5⟩
     ·cases h1 with
      |pure _ _ h=>cases h
      |own _ _ _ _ _ b _ hm=>rw[hv]at hm;cases hm
      |ownv _ _ _ _ a hm=>exact⟨a,0,rfl,fun _=>by simp⟩
      |ownd _ _ _ _ _ _ _ _ hm=>rw[hv]at hm;cases hm
     ·obtain⟨cap,rfl,-⟩:=h1.at_own g1
      exact⟨_,cap,rfl,fun h=>by cases h⟩
    ·cases he
   ·cases he
  |_=>simp[elsA]at he
 obtain⟨ad,cap,hv,hnil⟩:=hv
 have hexec:(execOp a.eval o).run P w=.ok (.value (.bool ad.isNone)) w:=by
  have:(Op.equal t (.slice ad els.length cap) (.slice none 0 0)).run P w=.ok ad.isNone w:=run_equal_slice_nil w t e ad els.length cap ht
  have hc:a.eval (.const (.slice none 0 0))=.slice none 0 0:=rfl
  simp[execOp,ho,hv,hc,eqGuard,binOp,this]
 refine wpIn_exec hexec ?_
 cases ad with
 |none=>exact hK (.c (.bool true)) h (.bool true) w m ⟨rfl,.inl ⟨rfl,hnil rfl⟩⟩ H (.pure _ _ (.c _)) (Ext.refl _ _)
 |some ad=>exact hK (.c (.bool false)) h (.bool false) w m ⟨rfl,.inr rfl⟩ H (.pure _ _ (.c _)) (Ext.refl _ _)
theorem op_buildSlice0 [Bk] [Ev] {o:Oper} {f:List AV} {h:AH} {t e:TypeId} {i:TypeInfo} {nx:Nat} (ho:o.op=.buildSlice t 0 #[]) (ht:P.underlying t=some (.slice e)) (hi:P.info? e=some i) (hnx:h nx=.no) :
  OpOk P o f h ⟨.own e i.size nx 0 0,[(nx,.cells e i.size [])],[nx]⟩:=by
 intro m A w a H F
 obtain⟨q1,q2,q3⟩:=own_new H (T:=e) (sz:=i.size) (n:=0) (cap:=0) (els:=[]) (cs:=#[]) hnx rfl (Nat.le_refl _) (Nat.zero_le _) (by simp) (by simp) (by intro i j x hx;simp[at2]at hx)
 refine⟨_,_,_,.inl ?_,by simpa[upsB]using q1,q3,q2⟩
 simp[execOp,ho,Instr.buildSlice,run_underlying ht,sizeOf,typeInfo,hi,Instr.fill,newRow]
 rw[show(Array.map (fun _:Nat=>(default:Value)) (Array.range 0))=#[]from by apply Array.ext';simp]
structure CloneF (fn:Func) (t:TypeId):Prop where
 body:∃(i0 i1 i2 i3:Nat) (o0 o1 o2 o3 o4 o5 o6 o7:Oper),fn.body=some (.seq (.region i0 #[o0] false) (.seq (.seq (.region i1 #[o1,o2] false) (.cond (.tmp 4) (.seq (.region i2 #[o3] false) .ret) .skip)) (.seq (.region i3 #[o4,o5,o6,o7] false) .ret))) ∧
  o0.dst=some 2∧o0.op=.assign (.const (.slice none 0 0))∧o1.dst=some 3∧o1.op=.move (.tmp 0)∧o2.dst=some 4∧(∃ty,o2.op=.binOp .eql t (.tmp 3) (.const (.slice none 0 0)) ty) ∧
  o3.dst=some 2∧o3.op=.assign (.const (.slice none 0 0))∧o4.dst=some 5∧o4.op=.buildSlice t 0 #[]∧o5.dst=some 6∧o5.op=.move (.tmp 0)∧o6.dst=some 7∧o6.op=.call { callee:=.builtin .append,args:=#[.tmp 5,.tmp 6],argTypes:=#[t,t] }∧o7.dst=some 2∧o7.op=.assign (.tmp 7) ∧
  o0.guard=none∧o1.guard=none∧o2.guard=none∧o3.guard=none∧o4.guard=none∧o5.guard=none∧o6.guard=none∧o7.guard=none
 tmps:fn.ntmps=8
 res:fn.results=#[.tmp 2]
 name : (fn.name == "runtime.NumGoroutine") = false
theorem guard_none [Bk] [Ev] {ops:Array Oper} {o:Oper} {f:List AV} (h:o.guard=none):guardA ops o f=some true:=by unfold guardA;rw[h]
theorem clone_ok [Bk] [Ev] {k:FuncId} {fn:Func} {t e:TypeId} {i:TypeInfo} {z:Value} {x:AV} {h:AH} {els:List (List AV)} {nx:Nat} (hk:P.funcs[k]?=some fn) (hf:CloneF fn t) (ht:P.underlying t=some (.slice e)) (hi:P.info? e=some i) (hz:i.zero=some z) (hzs:z.cells.size=i.size) (hs0:0<i.size)
  (hx:elsA h x=some els) (hes:∀q∈els,q.length=i.size) (hyo:∀T s id j n,x=.own T s id j n→s=i.size) (hb:els.length*i.bytes≤140737488355328) (hm:els.length≤1099511627776) (hnx:h nx=.no) (hnx1:h (nx+1)=.no) (hid:nx ∉ idOf x) :
  ACalls P k [x] h (fun v h'=>v=.own e i.size (nx+1) 0 els.length∧h'=upsB h [(nx,.dead),(nx+1,.cells e i.size els)]):=by
 obtain⟨i0,i1,i2,i3,o0,o1,o2,o3,o4,o5,o6,o7,hbody,d0,p0,d1,p1,d2,⟨ty,p2⟩,d3,p3,d4,p4,d5,p5,d6,p6,d7,p7,g0,g1,g2,g3,g4,g5,g6,g7⟩:=hf.body
 have hres:∀(f:List AV) (h:AH),resultsA P fn f h=some (f.getD 2 .undef):=by
  intro f h
  simp[resultsA,hf.res,resA,tupOf]
 have key:ACalls P k [x] h (fun v h'=>(v=.emp∧h'=h∧els=[])∨(v=.own e i.size (nx+1) 0 els.length∧h'=upsB h [(nx,.dead),(nx+1,.cells e i.size els)])):=by
  refine ACalls.of_body hk hbody ?_
  rw[hf.tmps]
  show AWP P _ _ _ [x,.undef,.undef,.undef,.undef,.undef,.undef,.undef] _
  refine AWP.seq (AWP.region ?_)
  refine ASeq.cons (o:=o0) rfl (guard_none g0) (op_assign p0).step ?_
  rintro v h' ⟨rfl,rfl⟩
  refine ASeq.nil ?_
  rw[d0]
  show AWP P _ _ _ [x,.undef,.emp,.undef,.undef,.undef,.undef,.undef] _
  refine AWP.seq (AWP.seq (AWP.region ?_))
  refine ASeq.cons (o:=o1) rfl (guard_none g1) (op_move p1).step ?_
  rintro v h' ⟨hv1,rfl⟩
  rw[d1,show v=x from hv1]
  show ASeq P _ _ [1] [x,.undef,.emp,x,.undef,.undef,.undef,.undef] _
  refine ASeq.cons (o:=o2) rfl (guard_none g2) (step_slice_nil p2 ht hx) ?_
  rintro v h' ⟨rfl,⟨rfl,hnil⟩|rfl⟩
  ·rw[d2]
   refine ASeq.nil ?_
   show AWP P _ _ _ [x,.undef,.emp,x,.c (.bool true),.undef,.undef,.undef] _
   refine AWP.cond (b:=true) rfl ?_
   refine AWP.seq (AWP.region ?_)
   refine ASeq.cons (o:=o3) rfl (guard_none g3) (op_assign p3).step ?_
   rintro v h'' ⟨rfl,rfl⟩
   rw[d3]
   refine ASeq.nil ?_
   show AWP P _ _ _ [x,.undef,.emp,x,.c (.bool true),.undef,.undef,.undef] _
   refine AWP.ret ?_
   exact⟨.emp,by rw[hres];rfl,.inl ⟨rfl,rfl,hnil⟩⟩
  ·rw[d2]
   refine ASeq.nil ?_
   show AWP P _ _ _ [x,.undef,.emp,x,.c (.bool false),.undef,.undef,.undef] _
   refine AWP.cond (b:=false) rfl ?_
   refine AWP.skip ?_
   show AWP P _ _ _ _ _
   refine AWP.seq (AWP.region ?_)
   refine ASeq.cons (o:=o4) rfl (guard_none g4) (op_buildSlice0 p4 ht hi hnx).step ?_
   rintro v h'' ⟨rfl,rfl⟩
   rw[d4]
   show ASeq P _ _ [1,2,3] [x,.undef,.emp,x,.c (.bool false),.own e i.size nx 0 0,.undef,.undef] _
   refine ASeq.cons (o:=o5) rfl (guard_none g5) (op_move p5).step ?_
   rintro v h'' ⟨hv5,rfl⟩
   rw[d5,show v=x from hv5]
   show ASeq P _ _ [2,3] [x,.undef,.emp,x,.c (.bool false),.own e i.size nx 0 0,x,.undef] _
   have hx':elsA (upsB h' [(nx,.cells e i.size [])]) x=some els:=by
    rw[elsA_h (x:=x) (h:=h')]
    ·exact hx
    ·intro id hid'
     simp only[upsB]
     exact bset_other _ _ (by rintro rfl;exact hid hid')
   have hap:=op_append (P:=P) (o:=o6) (f:=[x,.undef,.emp,x,.c (.bool false),.own e i.size nx 0 0,x,.undef]) (h:=upsB h' [(nx,.cells e i.size [])]) (els:=[]) (ys:=els) (k:=[(nx,.dead)]) (rd:=[nx]) (nx:=nx+1) p6 ht hi hz hzs hs0
    (by simp[aev,baseA,upsB,bset]) hx' hes hyo (by simpa using hb) (by simpa using hm) (by simp only[upsB,List.append_nil];rw[bset_other _ _ (by omega)];exact hnx1)
   refine ASeq.cons (o:=o6) rfl (guard_none g6) hap.step ?_
   rintro v h'' ⟨rfl,rfl⟩
   rw[d6]
   refine ASeq.cons (o:=o7) rfl (guard_none g7) (op_assign p7).step ?_
   rintro v h'' ⟨rfl,rfl⟩
   rw[d7]
   refine ASeq.nil ?_
   refine AWP.ret ?_
   refine⟨_,hres _ _,.inr ⟨?_,?_⟩⟩
   ·simp[fset,aev]
   ·simp only[List.nil_append,upsB,List.cons_append,List.append_nil]
    funext id
    by_cases h1:id=nx+1
    ·simp[bset,h1]
    ·by_cases h2:id=nx
     ·simp[bset,h2]
     ·simp[bset,h1,h2]
 intro m A w vs H hl hv
 refine(key m A w vs H hl hv).mono ?_
 rintro ed w' ⟨v,u,m',h',rfl,hR,H',hr,E⟩
 rcases hR with⟨rfl,rfl,rfl⟩|⟨rfl,rfl⟩
 ·obtain⟨H1,E1⟩:=H'.waste hnx
  obtain⟨H2,E2⟩:=H1.virtual (id:=nx+1) (by rw[bset_other _ _ (by omega)];exact hnx1) e i.size
  obtain⟨a0,rfl⟩:∃a0,v=.slice a0 0 0:=by
   cases hr with|pure _ _ hr=>cases hr with|emp a0=>exact⟨a0,rfl⟩
  exact⟨_,_,_,_,rfl,⟨rfl,rfl⟩,H2,.ownv e i.size (nx+1) 0 a0 (by simp[sset]),(E.trans E1).trans E2⟩
 ·exact⟨v,_,m',_,rfl,⟨rfl,rfl⟩,H',hr,E⟩
theorem step_slice_nil_s [Bk] [Ev] {o:Oper} {f:List AV} {h:AH} {t e ty:TypeId} {x:Operand} {sz:Nat} {els:List (List AV)} (ho:o.op=.binOp .eql t x (.const (.slice none 0 0)) ty) (ht:P.underlying t=some (.slice e)) (he:SrcOk h (aev f x) sz els) :
  StepOk P o f h (fun v h'=>h'=h∧(v=.c (.bool true)∧els=[]∨v=.c (.bool false))):=by
 intro r' m A w a H F K Q hK
 obtain⟨-,ad,cap,hv,-,hnil,-⟩:=he m A w _ H (F.eval x)
 have hexec:(execOp a.eval o).run P w=.ok (.value (.bool ad.isNone)) w:=by
  have:(Op.equal t (.slice ad els.length cap) (.slice none 0 0)).run P w=.ok ad.isNone w:=run_equal_slice_nil w t e ad els.length cap ht
  have hc:a.eval (.const (.slice none 0 0))=.slice none 0 0:=rfl
  simp[execOp,ho,hv,hc,eqGuard,binOp,this]
 refine wpIn_exec hexec ?_
 cases ad with
 |none=>exact hK (.c (.bool true)) h (.bool true) w m ⟨rfl,.inl ⟨rfl,hnil rfl⟩⟩ H (.pure _ _ (.c _)) (Ext.refl _ _)
 |some ad=>exact hK (.c (.bool false)) h (.bool false) w m ⟨rfl,.inr rfl⟩ H (.pure _ _ (.c _)) (Ext.refl _ _)
theorem clone_ok_s [Bk] [Ev] {k:FuncId} {fn:Func} {t e:TypeId} {i:TypeInfo} {z:Value} {x:AV} {h:AH} {base:Nat} {ups:List (Poly×List AV)} {tail:List (List AV)} {n:Poly} {nx:Nat} (hk:P.funcs[k]?=some fn) (hf:CloneF fn t) (ht:P.underlying t=some (.slice e)) (hi:P.info? e=some i) (hz:i.zero=some z) (hzs:z.cells.size=i.size) (hs0:0<i.size)
  (hx:symOf h x=some (i.size,base,ups,tail,n)) (hfit:fitN n i.bytes=true) (hnx:h nx=.no) (hnx1:h (nx+1)=.no) (hid:nx ∉ idS x) :
  ACalls P k [x] h (fun v h'=>v=.sown e i.size (nx+1) n∧h'=upsB h [(nx,.dead),(nx+1,.sc e i.size base ups tail n)]):=by
 obtain⟨i0,i1,i2,i3,o0,o1,o2,o3,o4,o5,o6,o7,hbody,d0,p0,d1,p1,d2,⟨ty,p2⟩,d3,p3,d4,p4,d5,p5,d6,p6,d7,p7,g0,g1,g2,g3,g4,g5,g6,g7⟩:=hf.body
 have hres:∀(f:List AV) (h:AH),resultsA P fn f h=some (f.getD 2 .undef):=by
  intro f h
  simp[resultsA,hf.res,resA,tupOf]
 intro m A w vs H hl hv
 have hS0:(∀q∈ups,InB base q.1)∧pev Ev.rho n=((rowsOf base ups tail).length:Int):=symOf_ok hx H (hv 0 x rfl)
 have key:ACalls P k [x] h (fun v h'=>(v=.emp∧h'=h∧rowsOf base ups tail=[])∨(v=.sown e i.size (nx+1) n∧h'=upsB h [(nx,.dead),(nx+1,.sc e i.size base ups tail n)])):=by
  refine ACalls.of_body hk hbody ?_
  rw[hf.tmps]
  show AWP P _ _ _ [x,.undef,.undef,.undef,.undef,.undef,.undef,.undef] _
  refine AWP.seq (AWP.region ?_)
  refine ASeq.cons (o:=o0) rfl (guard_none g0) (op_assign p0).step ?_
  rintro v h' ⟨rfl,rfl⟩
  refine ASeq.nil ?_
  rw[d0]
  show AWP P _ _ _ [x,.undef,.emp,.undef,.undef,.undef,.undef,.undef] _
  refine AWP.seq (AWP.seq (AWP.region ?_))
  refine ASeq.cons (o:=o1) rfl (guard_none g1) (op_move p1).step ?_
  rintro v h' ⟨hv1,rfl⟩
  rw[d1,show v=x from hv1]
  show ASeq P _ _ [1] [x,.undef,.emp,x,.undef,.undef,.undef,.undef] _
  refine ASeq.cons (o:=o2) rfl (guard_none g2) (step_slice_nil_s p2 ht (symOf_src hx)) ?_
  rintro v h' ⟨rfl,⟨rfl,hnil⟩|rfl⟩
  ·rw[d2]
   refine ASeq.nil ?_
   show AWP P _ _ _ [x,.undef,.emp,x,.c (.bool true),.undef,.undef,.undef] _
   refine AWP.cond (b:=true) rfl ?_
   refine AWP.seq (AWP.region ?_)
   refine ASeq.cons (o:=o3) rfl (guard_none g3) (op_assign p3).step ?_
   rintro v h'' ⟨rfl,rfl⟩
   rw[d3]
   refine ASeq.nil ?_
   show AWP P _ _ _ [x,.undef,.emp,x,.c (.bool true),.undef,.undef,.undef] _
   refine AWP.ret ?_
   exact⟨.emp,by rw[hres];rfl,.inl ⟨rfl,rfl,hnil⟩⟩
  ·rw[d2]
   refine ASeq.nil ?_
   show AWP P _ _ _ [x,.undef,.emp,x,.c (.bool false),.undef,.undef,.undef] _
   refine AWP.cond (b:=false) rfl ?_
   refine AWP.skip ?_
   show AWP P _ _ _ _ _
   refine AWP.seq (AWP.region ?_)
   refine ASeq.cons (o:=o4) rfl (guard_none g4) (op_buildSlice0 p4 ht hi hnx).step ?_
   rintro v h'' ⟨rfl,rfl⟩
   rw[d4]
   show ASeq P _ _ [1,2,3] [x,.undef,.emp,x,.c (.bool false),.own e i.size nx 0 0,.undef,.undef] _
   refine ASeq.cons (o:=o5) rfl (guard_none g5) (op_move p5).step ?_
   rintro v h'' ⟨hv5,rfl⟩
   rw[d5,show v=x from hv5]
   show ASeq P _ _ [2,3] [x,.undef,.emp,x,.c (.bool false),.own e i.size nx 0 0,x,.undef] _
   have hx':symOf (upsB h' [(nx,.cells e i.size [])]) x=some (i.size,base,ups,tail,n):=by
    rw[symOf_h (x:=x) (h:=h')]
    ·exact hx
    ·intro id hid'
     simp only[upsB]
     exact bset_other _ _ (by rintro rfl;exact hid hid')
   have hb:=fitN_ok hfit hS0.2
   have hap:=op_append_s (P:=P) (o:=o6) (f:=[x,.undef,.emp,x,.c (.bool false),.own e i.size nx 0 0,x,.undef]) (h:=upsB h' [(nx,.cells e i.size [])]) (els:=[]) (ys:=rowsOf base ups tail) (k:=[(nx,.dead)]) (rds:=[]) (nx:=nx+1) (B:=.sc e i.size base ups tail n) (n:=n) p6 ht hi hz hzs hs0
    (BaseOk.own (by simp[upsB,bset]) rfl) (symOf_src hx') (by simpa using hb.1) (by simpa using hb.2) (by simp only[upsB];rw[bset_other _ _ (by omega)];exact hnx1) rfl (fun _ _ _ _ _ _ _ _=>⟨⟨hS0.2,hS0.1⟩,by simpa using hS0.2⟩)
   refine ASeq.cons (o:=o6) rfl (guard_none g6) hap.step ?_
   rintro v h'' ⟨rfl,rfl⟩
   rw[d6]
   refine ASeq.cons (o:=o7) rfl (guard_none g7) (op_assign p7).step ?_
   rintro v h'' ⟨rfl,rfl⟩
   rw[d7]
   refine ASeq.nil ?_
   refine AWP.ret ?_
   refine⟨_,hres _ _,.inr ⟨?_,?_⟩⟩
   ·simp[fset,aev]
   ·simp only[List.nil_append,upsB,List.cons_append,List.append_nil]
    funext id
    by_cases h1:id=nx+1
    ·simp[bset,h1]
    ·by_cases h2:id=nx
     ·simp[bset,h2]
     ·simp[bset,h1,h2]
 refine(key m A w vs H hl hv).mono ?_
 rintro ed w' ⟨v,u,m',h',rfl,hR,H',hr,E⟩
 rcases hR with⟨rfl,rfl,h0⟩|⟨rfl,rfl⟩
 ·obtain⟨H1,E1⟩:=H'.waste hnx
  obtain⟨H2,E2⟩:=H1.virtualB (id:=nx+1) (by rw[bset_other _ _ (by omega)];exact hnx1) (B:=.sc e i.size base ups tail n) (T:=e) (sz:=i.size) (by simp only[Blk.els];rw[h0]) ⟨hS0.2,hS0.1⟩
  obtain⟨a0,rfl⟩:∃a0,v=.slice a0 0 0:=by
   cases hr with|pure _ _ hr=>cases hr with|emp a0=>exact⟨a0,rfl⟩
  exact⟨_,_,_,_,rfl,⟨rfl,rfl⟩,H2,.sownv e i.size (nx+1) n a0 (by simp[sset]) (by rw[hS0.2,h0];rfl),(E.trans E1).trans E2⟩
 ·exact⟨v,_,m',_,rfl,⟨rfl,rfl⟩,H',hr,E⟩
def isClone (fn:Func):Option TypeId :=
 if fn.ntmps=8 then match fn.results.toList with
  | [.tmp 2] => if fn.name == "runtime.NumGoroutine" then none else match fn.body with
   |some (.seq (.region _ q0 false) (.seq (.seq (.region _ q1 false) (.cond (.tmp 4) (.seq (.region _ q2 false) .ret) .skip)) (.seq (.region _ q3 false) .ret))) =>
    match q0.toList,q1.toList,q2.toList,q3.toList with
    |[⟨some 2,.assign (.const (.slice none 0 0)),_,_,_,none⟩],[⟨some 3,.move (.tmp 0),_,_,_,none⟩,⟨some 4,.binOp .eql t (.tmp 3) (.const (.slice none 0 0)) _,_,_,_,none⟩],[⟨some 2,.assign (.const (.slice none 0 0)),_,_,_,none⟩],
     [⟨some 5,.buildSlice t1 0 ps,_,_,_,none⟩,⟨some 6,.move (.tmp 0),_,_,_,none⟩,⟨some 7,.call ⟨.builtin .append,as,ts⟩,_,_,_,none⟩,⟨some 2,.assign (.tmp 7),_,_,_,none⟩] =>
     match ps.toList,as.toList,ts.toList with
     |[],[.tmp 5,.tmp 6],[t2,t3]=>if t1=t∧t2=t∧t3=t then some t else none
     |_,_,_=>none
    |_,_,_,_=>none
   |_=>none
  |_=>none
 else none
theorem arr0 [Bk] [Ev] {α:Type} {l:Array α} (h:l.toList=[]):l=#[]:=by cases l;simp_all
theorem arr4 [Bk] [Ev] {α:Type} {l:Array α} {x y z u:α} (h:l.toList=[x,y,z,u]):l=#[x,y,z,u]:=by cases l;simp_all
theorem isClone_ok [Bk] [Ev] {fn:Func} {t:TypeId} (h:isClone fn=some t):CloneF fn t:=by
 unfold isClone at h
 split at h
 ·rename_i hn
  split at h
  ·rename_i hr
   split at h
   ·cases h
   ·rename_i hname
    split at h
    ·rename_i i0 q0 i1 q1 i2 q2 i3 q3 hb
     split at h
     ·rename_i e0 e1 e2 e3
      split at h
      ·rename_i e4 e5 e6
       split at h
       ·rename_i hc
        obtain⟨rfl,rfl,rfl⟩:=hc
        cases h
        have:=arr1 e0;have:=arr2 e1;have:=arr1 e2;have:=arr4 e3;have:=arr0 e4;have:=arr2 e5;have:=arr2 e6
        subst_vars
        exact⟨⟨i0,i1,i2,i3,_,_,_,_,_,_,_,_,hb,rfl,rfl,rfl,rfl,rfl,⟨_,rfl⟩,rfl,rfl,rfl,rfl,rfl,rfl,rfl,rfl,rfl,rfl,rfl,rfl,rfl,rfl,rfl,rfl,rfl,rfl⟩,hn,arr1 hr,by simpa using hname⟩
       ·cases h
      ·cases h
     ·cases h
    ·cases h
  ·cases h
 ·cases h
def cloneM (P:Program) (t:TypeId) (x:AV):M AV:=fun h n =>
 match P.underlying t with
 |some (.slice e)=>match P.info? e with
  |some i=>match i.zero,elsA h x with
   |some z,some els=>if z.cells.size=i.size∧0<i.size∧(els.all fun q=>q.length==i.size)=true∧ownSz x i.size=true∧els.length*i.bytes≤140737488355328∧els.length≤1099511627776∧newB h n=true∧newB h (n+1)=true∧(idOf x).contains n=false then
     some ⟨.own e i.size (n+1) 0 els.length,upsB h [(n,.dead),(n+1,.cells e i.size els)],n+2,n::(n+1)::idOf x,[n,n+1]⟩else none
   |_,_=>none
  |none=>none
 |_=>none
theorem local_clone [Bk] [Ev] (t:TypeId) (x:AV):Local (cloneM P t x):=by
 intro h n r hr
 have hr0:=hr
 unfold cloneM at hr
 split at hr
 ·rename_i e he
  split at hr
  ·rename_i i hi
   split at hr
   ·rename_i z els hz hx
    split at hr
    ·rename_i hc
     cases hr
     refine⟨by simp,fun id hid _=>upsB_not (by simpa using hid),fun id hid=>by simp at hid ⊢;rcases hid with h|h<;>simp[h],?_⟩
     intro g hrd hrg
     have e1:elsA g x=elsA h x:=elsA_h fun id hid=>hrd id (by simp[hid])
     have e2:newB g n=newB h n:=newB_h (hrd n (by simp))
     have e3:newB g (n+1)=newB h (n+1):=newB_h (hrd (n+1) (by simp))
     refine⟨⟨.own e i.size (n+1) 0 els.length,upsB g [(n,.dead),(n+1,.cells e i.size els)],n+2,n::(n+1)::idOf x,[n,n+1]⟩,?_,rfl,rfl,rfl,rfl,?_,fun id hid _=>upsB_not (by simpa using hid)⟩
     ·unfold cloneM
      simp only[he,hi,hz,e1,hx,e2,e3]
      rw[if_pos hc]
     ·intro id hid
      refine upsB_in ?_
      rcases hid with hid|hid
      ·simpa using hid
      ·simp only at hid;simp;omega
    ·cases hr
   ·cases hr
  ·cases hr
 ·cases hr
def cloneS [Bk] (P:Program) (t:TypeId) (x:AV):M AV:=fun h n =>
 match P.underlying t with
 |some (.slice e)=>match P.info? e with
  |some i=>match i.zero,symOf h x with
   |some z,some (sz,base,ups,tail,N)=>if z.cells.size=i.size∧0<i.size∧sz=i.size∧fitN N i.bytes=true∧newB h n=true∧newB h (n+1)=true∧(idS x).contains n=false then
     some ⟨.sown e i.size (n+1) N,upsB h [(n,.dead),(n+1,.sc e i.size base ups tail N)],n+2,n::(n+1)::idS x,[n,n+1]⟩else none
   |_,_=>none
  |none=>none
 |_=>none
def cloneX [Bk] (P:Program) (t:TypeId) (x:AV):M AV:=fun h n =>
 match cloneM P t x h n with
 |some r=>some r
 |none=>cloneS P t x h n
theorem cloneS_none [Bk] {t:TypeId} {x:AV} {h h':AH} {n n':Nat} {r:Rs AV} (hr:cloneS P t x h n=some r):cloneM P t x h' n'=none:=by
 have:elsA h' x=none:=by
  unfold cloneS at hr
  split at hr
  ·split at hr
   ·split at hr
    ·rename_i hy
     unfold symOf at hy
     split at hy
     ·rfl
     ·rfl
     ·cases hy
    ·cases hr
   ·cases hr
  ·cases hr
 unfold cloneM
 rw[this]
 split
 ·split
  ·split
   ·rename_i h1;cases h1
   ·rfl
  ·rfl
 ·rfl
theorem local_cloneS [Bk] [Ev] (t:TypeId) (x:AV):Local (cloneS P t x):=by
 intro h n r hr
 have hr0:=hr
 unfold cloneS at hr
 split at hr
 ·rename_i e he
  split at hr
  ·rename_i i hi
   split at hr
   ·rename_i z sz base ups tail N hz hx
    split at hr
    ·rename_i hc
     cases hr
     refine⟨by simp,fun id hid _=>upsB_not (by simpa using hid),fun id hid=>by simp at hid ⊢;rcases hid with h|h<;>simp[h],?_⟩
     intro g hrd hrg
     have e1:symOf g x=symOf h x:=symOf_h fun id hid=>hrd id (by simp[hid])
     have e2:newB g n=newB h n:=newB_h (hrd n (by simp))
     have e3:newB g (n+1)=newB h (n+1):=newB_h (hrd (n+1) (by simp))
     refine⟨⟨.sown e i.size (n+1) N,upsB g [(n,.dead),(n+1,.sc e i.size base ups tail N)],n+2,n::(n+1)::idS x,[n,n+1]⟩,?_,rfl,rfl,rfl,rfl,?_,fun id hid _=>upsB_not (by simpa using hid)⟩
     ·unfold cloneS
      simp only[he,hi,hz,e1,hx,e2,e3]
      rw[if_pos hc]
     ·intro id hid
      refine upsB_in ?_
      rcases hid with hid|hid
      ·simpa using hid
      ·simp only at hid;simp;omega
    ·cases hr
   ·cases hr
  ·cases hr
 ·cases hr
theorem local_cloneX [Bk] [Ev] (t:TypeId) (x:AV):Local (cloneX P t x):=by
 intro h n r hr
 unfold cloneX at hr
 split at hr
 ·rename_i r' h1
  cases hr
  have L:=local_clone t x h n r h1
  refine⟨L.le,L.frame,L.sub,fun g a b=>?_⟩
  obtain⟨r2,e1,e2⟩:=L.again g a b
  exact⟨r2,by unfold cloneX;rw[e1],e2⟩
 ·have L:=local_cloneS t x h n r hr
  refine⟨L.le,L.frame,L.sub,fun g a b=>?_⟩
  obtain⟨r2,e1,e2⟩:=L.again g a b
  exact⟨r2,by unfold cloneX;rw[cloneS_none (h':=g) (n':=n) hr];exact e1,e2⟩
def toPs:List AV→Option (List Poly)
 |[]=>some []
 |x::l=>match toP x,toPs l with
  |some p,some q=>some (p::q)
  |_,_=>none
def findX (k:Nat) (ps:List Poly):List (Nat×List Poly×List Poly)→Option (List Poly)
 |[]=>none
 |t::l=>if t.1=k∧t.2.1=ps then some t.2.2 else findX k ps l
theorem findX_ok {k:Nat} {ps rs:List Poly}:∀{l:List (Nat×List Poly×List Poly)},findX k ps l=some rs→(k,ps,rs)∈l
 |[],h=>by cases h
 |t::l,h=>by
  unfold findX at h
  split at h
  ·rename_i e
   cases h
   obtain⟨rfl,rfl⟩:=e
   exact List.mem_cons_self
  ·exact List.mem_cons_of_mem _ (findX_ok h)
def frzL (r:AV→Option (AV×List Nat)):List AV→Option (List AV×List Nat)
 |[]=>some ([],[])
 |x::l=>match r x with
  |none=>none
  |some (y,i)=>match frzL r l with
   |none=>none
   |some (m,j)=>some (y::m,i++j)
def frzE (r:AV→Option (AV×List Nat)):List (List AV)→Option (List (List AV)×List Nat)
 |[]=>some ([],[])
 |e::l=>match frzL r e with
  |none=>none
  |some (y,i)=>match frzE r l with
   |none=>none
   |some (m,j)=>some (y::m,i++j)
def frz (h:AH):Nat→AV→Option (AV×List Nat)
 |0,_=>none
 |k+1,x=>match x with
  | .agg cs=>match frzL (frz h k) cs with
   |some (m,i)=>some (.agg m,i)
   |none=>none
  | .tup cs=>match frzL (frz h k) cs with
   |some (m,i)=>some (.tup m,i)
   |none=>none
  | .own _ sz id i n=>match h id with
   | .cells _ s els=>if s=sz∧i+n≤els.length then match frzE (frz h k) ((els.drop i).take n)with
     |some (m,js)=>some (.lit sz m,id::js)
     |none=>none
    else none
   |_=>none
  | .c v=>some (.c v,[])
  | .undef=>some (.undef,[])
  | .emp=>some (.emp,[])
  | .lit sz els=>some (.lit sz els,[])
  | .e p=>some (.e p,[])
  | .row n xs=>some (.row n xs,[])
  | .o i=>some (.o i,[])
  | .any=>some (.any,[])
  | .seq sz base ups tail=>some (.seq sz base ups tail,[])
  | .sown _ sz id n=>match h id with
   | .sc _ s base ups tail n'=>if s=sz∧n'=n then match frzE (frz h k) (ups.map (·.2)),frzE (frz h k) tail with
     |some (u,js),some (m,ks)=>some (.seq sz base ((ups.map (·.1)).zip u) m,id::(js++ks))
     |_,_=>none
    else none
   |_=>none
  |_=>none
theorem frzL_get {r:AV→Option (AV×List Nat)}:∀{cs m:List AV} {js:List Nat},frzL r cs=some (m,js)→m.length=cs.length∧∀(i:Nat) (y:AV),m[i]?=some y→∃x is,cs[i]?=some x∧r x=some (y,is)∧∀id∈is,id∈js
 |[],m,js,h=>by cases h;exact⟨rfl,fun i y hy=>by simp at hy⟩
 |x::l,m,js,h=>by
  unfold frzL at h
  split at h
  ·cases h
  ·rename_i y i hx
   split at h
   ·cases h
   ·rename_i m' j hl
    cases h
    obtain⟨h1,h2⟩:=frzL_get hl
    refine⟨by simp[h1],?_⟩
    intro k z hz
    cases k with
    |zero=>cases hz;exact⟨x,i,rfl,hx,fun id hid=>List.mem_append_left _ hid⟩
    |succ k =>
     obtain⟨x',is,g1,g2,g3⟩:=h2 k z (by simpa using hz)
     exact⟨x',is,by simpa using g1,g2,fun id hid=>List.mem_append_right _ (g3 id hid)⟩
theorem frzE_get {r:AV→Option (AV×List Nat)}:∀{cs m:List (List AV)} {js:List Nat},frzE r cs=some (m,js)→m.length=cs.length∧∀(i:Nat) (y:List AV),m[i]?=some y→∃x is,cs[i]?=some x∧frzL r x=some (y,is)∧∀id∈is,id∈js
 |[],m,js,h=>by cases h;exact⟨rfl,fun i y hy=>by simp at hy⟩
 |x::l,m,js,h=>by
  unfold frzE at h
  split at h
  ·cases h
  ·rename_i y i hx
   split at h
   ·cases h
   ·rename_i m' j hl
    cases h
    obtain⟨h1,h2⟩:=frzE_get hl
    refine⟨by simp[h1],?_⟩
    intro k z hz
    cases k with
    |zero=>cases hz;exact⟨x,i,rfl,hx,fun id hid=>List.mem_append_left _ hid⟩
    |succ k =>
     obtain⟨x',is,g1,g2,g3⟩:=h2 k z (by simpa using hz)
     exact⟨x',is,by simpa using g1,g2,fun id hid=>List.mem_append_right _ (g3 id hid)⟩
theorem frzL_h {r r':AV→Option (AV×List Nat)}:∀{cs m:List AV} {js:List Nat},frzL r cs=some (m,js)→(∀x y is,r x=some (y,is)→(∀id∈is,id∈js)→r' x=some (y,is))→frzL r' cs=some (m,js)
 |[],m,js,h,_=>by cases h;rfl
 |x::l,m,js,h,hr=>by
  unfold frzL at h ⊢
  split at h
  ·cases h
  ·rename_i y i hx
   split at h
   ·cases h
   ·rename_i m' j hl
    cases h
    rw[hr x y i hx fun id hid=>List.mem_append_left _ hid,frzL_h hl fun x y is hx hs=>hr x y is hx fun id hid=>List.mem_append_right _ (hs id hid)]
theorem frzE_h {r r':AV→Option (AV×List Nat)}:∀{cs m:List (List AV)} {js:List Nat},frzE r cs=some (m,js)→(∀x y is,r x=some (y,is)→(∀id∈is,id∈js)→r' x=some (y,is))→frzE r' cs=some (m,js)
 |[],m,js,h,_=>by cases h;rfl
 |x::l,m,js,h,hr=>by
  unfold frzE at h ⊢
  split at h
  ·cases h
  ·rename_i y i hx
   split at h
   ·cases h
   ·rename_i m' j hl
    cases h
    rw[frzL_h hx fun x y is hx hs=>hr x y is hx fun id hid=>List.mem_append_left _ (hs id hid),frzE_h hl fun x y is hx hs=>hr x y is hx fun id hid=>List.mem_append_right _ (hs id hid)]
theorem frz_h {h h':AH}:∀{k:Nat} {x y:AV} {js:List Nat},frz h k x=some (y,js)→(∀id∈js,h' id=h id)→frz h' k x=some (y,js)
 |0,x,y,js,hf,_=>by cases hf
 |k+1,x,y,js,hf,hh=>by
  have ih:∀x y is,frz h k x=some (y,is)→(∀id∈is,id∈js)→frz h' k x=some (y,is):=fun x y is hx hs=>frz_h hx fun id hid=>hh id (hs id hid)
  cases x with
  |agg cs =>
   simp only[frz]at hf ⊢
   split at hf
   ·rename_i m i hm
    cases hf
    rw[frzL_h hm ih]
   ·cases hf
  |tup cs =>
   simp only[frz]at hf ⊢
   split at hf
   ·rename_i m i hm
    cases hf
    rw[frzL_h hm ih]
   ·cases hf
  |own T sz id i n =>
   simp only[frz]at hf ⊢
   split at hf
   ·rename_i T' s els he
    split at hf
    ·rename_i hc
     split at hf
     ·rename_i m ks hm
      cases hf
      rw[hh id List.mem_cons_self,he]
      simp only
      rw[if_pos hc,frzE_h hm fun x y is hx hs=>ih x y is hx fun id hid=>List.mem_cons_of_mem _ (hs id hid)]
     ·cases hf
    ·cases hf
   ·cases hf
  |sown T sz id n =>
   simp only[frz]at hf ⊢
   split at hf
   ·rename_i T' s base ups tail n' he
    split at hf
    ·rename_i hc
     split at hf
     ·rename_i u is m ks hu hm
      cases hf
      rw[hh id List.mem_cons_self,he]
      simp only
      rw[if_pos hc,frzE_h hu fun x y is hx hs=>ih x y is hx fun id hid=>List.mem_cons_of_mem _ (List.mem_append_left _ (hs id hid)),frzE_h hm fun x y is hx hs=>ih x y is hx fun id hid=>List.mem_cons_of_mem _ (List.mem_append_right _ (hs id hid))]
     ·cases hf
    ·cases hf
   ·cases hf
  |ptr=>cases hf
  |lptr=>cases hf
  |fn=>cases hf
  |ifc=>cases hf
  |_=>exact hf
theorem frz_one {h:AH} {k:Nat} {x y:AV} {js:List Nat} (hf:frz h k x=some (y,js)) (h1:x.one=true):y.one=true:=by
 cases k with
 |zero=>cases hf
 |succ k =>
  cases x with
  |agg cs=>simp[AV.one]at h1
  |tup cs=>simp[AV.one]at h1
  |own T sz id i n =>
   simp only[frz]at hf
   split at hf
   ·split at hf
    ·split at hf
     ·cases hf;rfl
     ·cases hf
    ·cases hf
   ·cases hf
  |c v=>cases hf;exact h1
  |undef=>simp[AV.one]at h1
  |ptr=>cases hf
  |lptr=>cases hf
  |fn=>cases hf
  |ifc=>cases hf
  |yld=>cases hf
  |mpv=>cases hf
  |view=>cases hf
  |sptr=>cases hf
  |sown T sz id n =>
   simp only[frz]at hf
   split at hf
   ·split at hf
    ·split at hf
     ·cases hf;rfl
     ·cases hf
    ·cases hf
   ·cases hf
  |optr=>cases hf
  |junk=>cases hf
  |_=>cases hf;rfl
theorem fold_rel [Bk] [Ev] {R:List AV→List AV→Prop}:∀(ups:List (Poly×List AV)) (u:List (List AV)) (l l':List (List AV)),u.length=ups.length→(∀(i:Nat) (q:Poly×List AV) (e:List AV),ups[i]?=some q→u[i]?=some e→R q.2 e)→l'.length=l.length→(∀(i:Nat) (e':List AV),l'[i]?=some e'→∃e,l[i]?=some e∧R e e') →
  ∀(i:Nat) (e':List AV),(((ups.map (·.1)).zip u).foldl (fun l q=>l.set (pev Ev.rho q.1).toNat q.2) l')[i]?=some e'→∃e,(ups.foldl (fun l q=>l.set (pev Ev.rho q.1).toNat q.2) l)[i]?=some e∧R e e'
 |[],u,l,l',_,_,_,h4,i,e',h=>by
  simp only[List.map_nil,List.zip_nil_left,List.foldl_nil]at h ⊢
  exact h4 i e' h
 |q::ups,[],l,l',h1,_,_,_,i,e',h=>by simp at h1
 |q::ups,e0::u,l,l',h1,h2,h3,h4,i,e',h=>by
  simp only[List.map_cons,List.zip_cons_cons,List.foldl_cons]at h ⊢
  refine fold_rel ups u _ _ (by simpa using h1) (fun i q e hq he=>h2 (i+1) q e (by simpa using hq) (by simpa using he)) (by simp[h3]) ?_ i e' h
  intro i e1 he1
  rw[List.getElem?_set]at he1
  split at he1
  ·rename_i hi
   split at he1
   ·rename_i hl
    cases he1
    refine⟨q.2,?_,h2 0 q e0 rfl rfl⟩
    rw[←hi,List.getElem?_set_self (by omega)]
   ·cases he1
  ·rename_i hi
   obtain⟨e,k1,k2⟩:=h4 i e1 he1
   exact⟨e,by rw[List.getElem?_set_ne hi];exact k1,k2⟩
def killS (m:Nat→St) (K:List Nat):Nat→St:=fun id=>if id∈K then .dead else m id
theorem killS_at {m:Nat→St} {K:List Nat} {id b:Nat} (h:killS m K id=.at b):id ∉ K∧m id=.at b:=by
 unfold killS at h
 split at h
 ·cases h
 ·exact⟨‹_›,h⟩
theorem killA {m:Nat→St} {K:List Nat} {A:Nat→Prop} {b:Nat} (h:Av (killS m K) A b):Av m A b:=by
 rcases h with h|⟨id,h⟩
 ·exact .inl h
 ·exact .inr ⟨id,(killS_at h).2⟩
theorem frz_ok [Bk] [Ev] {m:Nat→St} {A:Nat→Prop} {h:AH} {w:World} (H:HRel m A h w) (K:List Nat):∀{k:Nat} {x y:AV} {js:List Nat} {v:Value},frz h k x=some (y,js)→(∀id∈js,id∈K)→Rd m A w x v→RdL (Av (killS m K) A) w y v
 |0,x,y,js,v,hf,_,_=>by cases hf
 |k+1,x,y,js,v,hf,hK,hr=>by
  have ih:∀{x y:AV} {is:List Nat} {v:Value},frz h k x=some (y,is)→(∀id∈is,id∈js)→Rd m A w x v→RdL (Av (killS m K) A) w y v:=fun hx hs hv=>frz_ok H K hx (fun id hid=>hK id (hs id hid)) hv
  have base:∀{x:AV} {v:Value},RdL (Av m A) w x v→RdL (Av (killS m K) A) w x v:=fun hx=>hx.mono (Nat.le_refl _) fun b _ hb=>⟨fun h=>hb (killA h),rfl⟩
  cases x with
  |agg cs =>
   simp only[frz]at hf
   split at hf
   ·rename_i m' i hm
    cases hf
    obtain⟨h1,h2⟩:=frzL_get hm
    obtain⟨vs,rfl,hl,hc⟩:=hr.agg_inv
    refine .agg _ vs (by rw[hl,h1]) ?_ ?_
    ·intro i y hy
     obtain⟨x,is,g1,g2,g3⟩:=h2 i y hy
     exact frz_one g2 (hc i x g1).1
    ·intro i y hy
     obtain⟨x,is,g1,g2,g3⟩:=h2 i y hy
     exact ih g2 g3 (hc i x g1).2
   ·cases hf
  |tup cs =>
   simp only[frz]at hf
   split at hf
   ·rename_i m' i hm
    cases hf
    obtain⟨h1,h2⟩:=frzL_get hm
    obtain⟨vs,rfl,hl,hc⟩:=hr.tup_inv
    refine .tup _ vs (by rw[hl,h1]) ?_
    intro i y hy
    obtain⟨x,is,g1,g2,g3⟩:=h2 i y hy
    exact ih g2 g3 (hc i x g1)
   ·cases hf
  |own T sz id i n =>
   simp only[frz]at hf
   split at hf
   ·rename_i T' s els he
    split at hf
    ·rename_i hcond
     obtain⟨rfl,hle⟩:=hcond
     split at hf
     ·rename_i m' ks hm
      cases hf
      obtain⟨h1,h2⟩:=frzE_get hm
      have hlen:((els.drop i).take n).length=n:=by simp;omega
      rw[hlen]at h1
      rcases H.cells id _ _ _ he with⟨hv,rfl⟩|⟨b,cs,g1,g2,g3,g4,g5⟩
      ·have hn:n=0:=by simp at hle;omega
       subst hn
       have e:m'=[]:=List.length_eq_zero_iff.1 h1
       subst e
       cases hr with
       |pure _ _ h=>cases h
       |own _ _ _ _ _ b _ hm=>rw[hv]at hm;cases hm
       |ownv _ _ _ _ a hm=>exact .lit0 _ a 0 (Nat.zero_le _)
       |ownd _ _ _ _ _ _ _ _ hm=>rw[hv]at hm;cases hm
      ·obtain⟨cap,rfl,hcap,hcm,-⟩:=hr.at_own g1
       have find:∀(i' j':Nat) (y:AV),at2 m' i' j'=some y→∃x is,at2 els (i+i') j'=some x∧frz h k x=some (y,is)∧(∀id∈is,id∈ks)∧i'<n:=by
        intro i' j' y hy
        unfold at2 at hy
        cases hm':m'[i']? with
        |none=>rw[hm']at hy;cases hy
        |some e' =>
         rw[hm']at hy
         simp only[Option.bind_some]at hy
         obtain⟨e,is,k1,k2,k3⟩:=h2 i' e' hm'
         obtain⟨-,l2⟩:=frzL_get k2
         obtain⟨x,is',q1,q2,q3⟩:=l2 j' y hy
         have hi':i'<n:=by have:=(List.getElem?_eq_some_iff.1 hm').1;omega
         rw[List.getElem?_take,if_pos hi',List.getElem?_drop]at k1
         refine⟨x,is',?_,q2,fun id hid=>k3 id (q3 id hid),hi'⟩
         unfold at2
         rw[k1];exact q1
       rw[←h1]
       refine .lit s m' b (i*s) cap (fun i' j'=>cs.getD ((i+i')*s+j') Go.undef) ?_ (H.lt g1) ⟨by omega,hcm⟩ ?_ ?_ ?_ ?_
       ·rintro(h|⟨id',h⟩)
        ·exact H.out id b g1 h
        ·obtain⟨h3,h4⟩:=killS_at h
         have:=H.inj id id' b g1 h4
         subst this
         exact h3 (hK id List.mem_cons_self)
       ·intro e' he'
        obtain⟨i',hi'⟩:=List.mem_iff_getElem?.1 he'
        obtain⟨e,is,k1,k2,k3⟩:=h2 i' e' hi'
        obtain⟨l1,-⟩:=frzL_get k2
        rw[l1]
        exact g4 e (List.mem_of_mem_drop (List.mem_of_mem_take (List.mem_of_getElem? k1)))
       ·intro i' j' y hy
        obtain⟨x,is,k1,k2,k3,-⟩:=find i' j' y hy
        exact frz_one k2 (g5 _ _ _ k1).1
       ·intro i' j' y hy
        obtain⟨x,is,k1,k2,k3,-⟩:=find i' j' y hy
        have hlt:=(at2_len k1 g4).2.2
        have e:i*s+(i'*s+j')=(i+i')*s+j':=by rw[Nat.add_mul];omega
        rw[e]
        have hlt':(i+i')*s+j'<cs.size:=by omega
        simp[World.cell?,g2,hlt']
       ·intro i' j' y hy
        obtain⟨x,is,k1,k2,k3,-⟩:=find i' j' y hy
        exact ih k2 (fun id hid=>List.mem_cons_of_mem _ (k3 id hid)) (g5 _ _ _ k1).2
     ·cases hf
    ·cases hf
   ·cases hf
  |ptr=>cases hf
  |lptr=>cases hf
  |fn=>cases hf
  |ifc=>cases hf
  |c v=>cases hf;cases hr with|pure _ _ h=>exact base h
  |undef=>cases hf;cases hr with|pure _ _ h=>exact base h
  |emp=>cases hf;cases hr with|pure _ _ h=>exact base h
  |lit sz els=>cases hf;cases hr with|pure _ _ h=>exact base h
  |e p=>cases hf;cases hr with|pure _ _ h=>exact base h
  |row n xs=>cases hf;cases hr with|pure _ _ h=>exact base h
  |o i=>cases hf;cases hr with|pure _ _ h=>exact base h
  |yld id=>cases hf
  |mpv id=>cases hf
  |view=>cases hf
  |any=>cases hf;cases hr with|pure _ _ h=>exact base h
  |seq=>cases hf;cases hr with|pure _ _ h=>exact base h
  |sptr=>cases hf
  |sown T sz id n =>
   simp only[frz]at hf
   split at hf
   ·rename_i T' s bs ups tail n' he
    split at hf
    ·rename_i hc
     obtain⟨rfl,rfl⟩:=hc
     split at hf
     ·rename_i u is m' ks hu hm
      cases hf
      obtain⟨u1,u2⟩:=frzE_get hu
      obtain⟨m1,m2⟩:=frzE_get hm
      simp only[List.length_map]at u1
      obtain⟨hn,hin⟩:=H.sc_ok he
      have hin':∀q∈(ups.map (·.1)).zip u,InB bs q.1:=by
       intro q hq
       obtain⟨q',hq',e1⟩:=List.mem_map.1 (List.of_mem_zip hq).1
       rw[←e1];exact hin q' hq'
      have hlen:(rowsOf bs ((ups.map (·.1)).zip u) m').length=(rowsOf bs ups tail).length:=by rw[rowsOf_len,rowsOf_len,m1]
      let R:List AV→List AV→Prop:=fun e e'=>(∃js',frzL (frz h k) e=some (e',js')∧∀id'∈js',id'∈is++ks)∨(e'=e∧∀x∈e,Cl x)
      have hrows:∀(i:Nat) (e':List AV),(rowsOf bs ((ups.map (·.1)).zip u) m')[i]?=some e'→∃e,(rowsOf bs ups tail)[i]?=some e∧R e e':=by
       intro i e' he'
       have hb0:∀ups':List (Poly×List AV),(ups'.foldl (fun l q=>l.set (pev Ev.rho q.1).toNat q.2) (Ev.seq bs)).length=(Ev.seq bs).length:=by
        intro ups'
        have:=rowsOf_len bs ups' []
        unfold rowsOf at this
        simpa using this
       unfold rowsOf at he' ⊢
       rcases Nat.lt_or_ge i (Ev.seq bs).length with hi|hi
       ·rw[List.getElem?_append_left (by rw[hb0];exact hi)]at he' ⊢
        refine fold_rel (R:=R) ups u (Ev.seq bs) (Ev.seq bs) u1 ?_ rfl ?_ i e' he'
        ·intro j q e hq hje
         obtain⟨x,js',k1,k2,k3⟩:=u2 j e hje
         rw[List.getElem?_map,hq]at k1
         cases k1
         exact .inl ⟨js',k2,fun id' hid=>List.mem_append_left _ (k3 id' hid)⟩
        ·intro j e hj
         exact⟨e,hj,.inr ⟨rfl,Ev.seq_cl bs e (List.mem_of_getElem? hj)⟩⟩
       ·rw[List.getElem?_append_right (by rw[hb0];exact hi),hb0]at he' ⊢
        obtain⟨x,js',k1,k2,k3⟩:=m2 _ e' he'
        exact⟨x,k1,.inl ⟨js',k2,fun id' hid=>List.mem_append_right _ (k3 id' hid)⟩⟩
      rcases H.arrs id T' s (rowsOf bs ups tail) (by rw[he];rfl)with⟨hv,e0⟩|⟨b,cs,g1,g2,g3,g4,g5⟩
      ·obtain⟨a,rfl,-⟩:=hr.virt_sown hv
       refine .seq _ _ _ _ _ hin' rfl ?_
       have:rowsOf bs ((ups.map (·.1)).zip u) m'=[]:=List.length_eq_zero_iff.1 (by rw[hlen,e0];rfl)
       rw[this]
       exact .lit0 _ a 0 (Nat.zero_le _)
      ·obtain⟨len,cap,e,rfl,hcap,hcm,-⟩:=hr.at_sown g1
       refine .seq _ _ _ _ _ hin' rfl ?_
       have hl':len=(rowsOf bs ((ups.map (·.1)).zip u) m').length:=by omega
       subst hl'
       have find:∀(i' j':Nat) (y:AV),at2 (rowsOf bs ((ups.map (·.1)).zip u) m') i' j'=some y→∃x,at2 (rowsOf bs ups tail) i' j'=some x∧((∃js',frz h k x=some (y,js')∧∀id'∈js',id'∈is++ks)∨(y=x∧Cl x)):=by
        intro i' j' y hy
        unfold at2 at hy
        cases hm':(rowsOf bs ((ups.map (·.1)).zip u) m')[i']? with
        |none=>rw[hm']at hy;cases hy
        |some e' =>
         rw[hm']at hy
         simp only[Option.bind_some]at hy
         obtain⟨e,k1,⟨js',k2,k3⟩|⟨rfl,k3⟩⟩:=hrows i' e' hm'
         ·obtain⟨-,l2⟩:=frzL_get k2
          obtain⟨x,is',q1,q2,q3⟩:=l2 j' y hy
          exact⟨x,by unfold at2;rw[k1];exact q1,.inl ⟨is',q2,fun id' hid=>k3 id' (q3 id' hid)⟩⟩
         ·exact⟨y,by unfold at2;rw[k1];exact hy,.inr ⟨rfl,k3 y (List.mem_of_getElem? hy)⟩⟩
       have hb':∀(i' j':Nat) (x:AV),at2 (rowsOf bs ups tail) i' j'=some x→w.cell? ⟨b,0+(i'*s+j'),none⟩=some (cs.getD (i'*s+j') Go.undef):=by
        intro i' j' x hx
        have hlt:=(at2_len hx g4).2.2
        rw[Nat.zero_add]
        have hlt':i'*s+j'<cs.size:=by omega
        simp[World.cell?,g2,hlt']
       refine .lit s _ b 0 cap (fun i' j'=>cs.getD (i'*s+j') Go.undef) ?_ (H.lt g1) ⟨hcap,hcm⟩ ?_ ?_ ?_ ?_
       ·rintro(h|⟨id',h⟩)
        ·exact H.out id b g1 h
        ·obtain⟨h3,h4⟩:=killS_at h
         have:=H.inj id id' b g1 h4
         subst this
         exact h3 (hK id List.mem_cons_self)
       ·intro e' he'
        obtain⟨i',hi'⟩:=List.mem_iff_getElem?.1 he'
        obtain⟨e,k1,⟨js',k2,k3⟩|⟨rfl,k3⟩⟩:=hrows i' e' hi'
        ·obtain⟨l1,-⟩:=frzL_get k2
         rw[l1];exact g4 e (List.mem_of_getElem? k1)
        ·exact g4 _ (List.mem_of_getElem? k1)
       ·intro i' j' y hy
        obtain⟨x,k1,⟨js',k2,k3⟩|⟨rfl,k3⟩⟩:=find i' j' y hy
        ·exact frz_one k2 (g5 _ _ _ k1).1
        ·exact(g5 _ _ _ k1).1
       ·intro i' j' y hy
        obtain⟨x,k1,-⟩:=find i' j' y hy
        exact hb' _ _ _ k1
       ·intro i' j' y hy
        obtain⟨x,k1,⟨js',k2,k3⟩|⟨rfl,k3⟩⟩:=find i' j' y hy
        ·exact ih k2 (fun id' hid=>List.mem_cons_of_mem _ (k3 id' hid)) (g5 _ _ _ k1).2
        ·exact base ((g5 _ _ _ k1).2.cl k3)
     ·cases hf
    ·cases hf
   ·cases hf
  |optr=>cases hf
  |junk=>cases hf
theorem upsB_dead (h:AH):∀(K:List Nat) (id:Nat),upsB h (K.map fun id=>(id,Blk.dead)) id=if id∈K then .dead else h id
 |[],id=>by simp[upsB]
 |i::l,id=>by
  have:=upsB_dead (bset h i .dead) l id
  simp only[List.map_cons,upsB]
  rw[this]
  by_cases h1:id∈l
  ·simp[h1]
  ·by_cases h2:id=i
   ·subst h2;simp[h1,bset]
   ·simp[h1,h2,bset]
theorem HRel.letGo [Bk] [Ev] {m:Nat→St} {A:Nat→Prop} {h:AH} {w:World} (H:HRel m A h w) (K:List Nat) :
  HRel (killS m K) A (upsB h (K.map fun id=>(id,Blk.dead))) w∧Ext m w (killS m K) w:=by
 have E:Ext m w (killS m K) w:=by
  refine⟨rfl,rfl,rfl,Nat.le_refl _,?_,?_,?_,?_,fun _ _ _ _=>rfl⟩
  ·intro id b hb
   unfold killS;split
   ·exact .inr rfl
   ·exact .inl hb
  ·intro id hb
   unfold killS;split
   ·rfl
   ·exact hb
  ·intro id hb
   unfold killS;split
   ·exact .inr rfl
   ·exact .inl hb
  ·intro b _ hu
   exact⟨fun id hid=>hu id (killS_at hid).2,rfl⟩
 refine⟨⟨fun id b hb=>H.out id b (killS_at hb).2,H.old,?_,?_,?_,fun i j b hi hj=>H.inj i j b (killS_at hi).2 (killS_at hj).2,H.glob.ext H.out E,H.others_to E fun id B hid hB=>?_,fun id=>?_⟩,E⟩
 ·intro id hid
  rw[upsB_dead]at hid
  split at hid
  ·cases hid
  ·rename_i hn;unfold killS;rw[if_neg hn];exact H.no id hid
 ·intro id hid
  rw[upsB_dead]at hid
  split at hid
  ·rename_i hn;unfold killS;rw[if_pos hn]
  ·rename_i hn;unfold killS;rw[if_neg hn];exact H.dead id hid
 ·intro id T sz els hid
  rw[upsB_dead]at hid
  split at hid
  ·simp[Blk.els]at hid
  ·rename_i hn
   have e:killS m K id=m id:=by unfold killS;rw[if_neg hn]
   rw[e]
   obtain g|⟨b,cs,g1,g2,g3,g4,g5⟩:=H.arrs id T sz els hid
   ·exact .inl g
   ·exact .inr ⟨b,cs,g1,g2,g3,g4,fun i j x hx=>⟨(g5 i j x hx).1,(g5 i j x hx).2.ext E⟩⟩
 ·rw[upsB_dead]at hid
  split at hid
  ·subst hid;exact absurd hB (by simp[Blk.other])
  ·rename_i hn
   exact⟨hid,fun b hb=>⟨by unfold killS;rw[if_neg hn];exact hb,rfl⟩⟩
 ·rw[upsB_dead]
  split
  ·trivial
  ·exact H.scs id
def vEq:Value→Value→Bool
 | .int k a,.int k' b=>decide (k=k')&&decide (a=b)
 | .bool a,.bool b=>a==b
 | .string a,.string b=>decide (a.data.toList=b.data.toList)
 | .pointer none,.pointer none=>true
 | .nilIface,.nilIface=>true
 |_,_=>false
theorem vEq_ok {a b:Value} (h:vEq a b=true):a=b:=by
 unfold vEq at h
 split at h
 ·rw[Bool.and_eq_true,decide_eq_true_eq,decide_eq_true_eq]at h;rw[h.1,h.2]
 ·rw[beq_iff_eq]at h;rw[h]
 ·rw[decide_eq_true_eq]at h;have:=Array.ext' h;rw[show _=_ from ByteArray.ext this]
 ·rfl
 ·rfl
 ·cases h
def eqL (r:AV→AV→Bool):List AV→List AV→Bool
 |[],[]=>true
 |x::l,y::m=>r x y&&eqL r l m
 |_,_=>false
def eqLL (r:AV→AV→Bool):List (List AV)→List (List AV)→Bool
 |[],[]=>true
 |x::l,y::m=>eqL r x y&&eqLL r l m
 |_,_=>false
def avEq:Nat→AV→AV→Bool
 |0,_,_=>false
 |k+1,x,y=>match x,y with
  | .c v,.c u=>vEq v u
  | .undef,.undef=>true
  | .emp,.emp=>true
  | .agg a,.agg b=>eqL (avEq k) a b
  | .tup a,.tup b=>eqL (avEq k) a b
  | .lit s a,.lit s' b=>decide (s=s')&&eqLL (avEq k) a b
  | .e p,.e q=>decide (p=q)
  | .row n a,.row n' b=>decide (n=n')&&decide (a=b)
  | .o i,.o j=>decide (i=j)
  | .any,.any=>true
  | .seq s b u t,.seq s' b' u' t'=>decide (s=s')&&(decide (b=b')&&(decide (u.map (·.1)=u'.map (·.1))&&(eqLL (avEq k) (u.map (·.2)) (u'.map (·.2))&&eqLL (avEq k) t t')))
  |_,_=>false
theorem eqL_ok {r:AV→AV→Bool} (hr:∀x y,r x y=true→x=y):∀{a b:List AV},eqL r a b=true→a=b
 |[],[],_=>rfl
 |[],_::_,h=>by cases h
 |_::_,[],h=>by cases h
 |x::l,y::m,h=>by
  unfold eqL at h
  rw[Bool.and_eq_true]at h
  rw[hr x y h.1,eqL_ok hr h.2]
theorem eqLL_ok {r:AV→AV→Bool} (hr:∀x y,r x y=true→x=y):∀{a b:List (List AV)},eqLL r a b=true→a=b
 |[],[],_=>rfl
 |[],_::_,h=>by cases h
 |_::_,[],h=>by cases h
 |x::l,y::m,h=>by
  unfold eqLL at h
  rw[Bool.and_eq_true]at h
  rw[eqL_ok hr h.1,eqLL_ok hr h.2]
theorem avEq_ok:∀{k:Nat} {x y:AV},avEq k x y=true→x=y
 |0,x,y,h=>by cases h
 |k+1,x,y,h=>by
  have ih:∀x y,avEq k x y=true→x=y:=fun x y=>avEq_ok
  unfold avEq at h
  split at h
  ·rw[vEq_ok h]
  ·rfl
  ·rfl
  ·rw[eqL_ok ih h]
  ·rw[eqL_ok ih h]
  ·rw[Bool.and_eq_true,decide_eq_true_eq]at h;rw[h.1,eqLL_ok ih h.2]
  ·rw[decide_eq_true_eq]at h;rw[h]
  ·rw[Bool.and_eq_true,decide_eq_true_eq,decide_eq_true_eq]at h;rw[h.1,h.2]
  ·rw[decide_eq_true_eq]at h;rw[h]
  ·rfl
  ·rename_i s b u t s' b' u' t'
   simp only[Bool.and_eq_true,decide_eq_true_eq]at h
   obtain⟨rfl,rfl,h1,h2,h3⟩:=h
   have h2:=eqLL_ok ih h2
   have h3:=eqLL_ok ih h3
   have zz:∀l:List (Poly×List AV),l=(l.map (·.1)).zip (l.map (·.2)):=by
    intro l
    induction l with
    |nil=>rfl
    |cons a l ih=>rw[List.map_cons,List.map_cons,List.zip_cons_cons,←ih]
   have:u=u':=by rw[zz u,zz u',h1,h2]
   rw[this,h3]
  ·cases h
def avFp:Nat→AV→List Poly
 |0,_=>[]
 |k+1,x=>match x with
  | .e p=>[p]
  | .agg l=>l.flatMap (avFp k)
  | .lit _ l=>l.flatMap fun e=>e.flatMap (avFp k)
  | .seq _ b u _=>plit b::u.map (·.1)
  |_=>[]
def findV (k:Nat) (as:List AV):List (Nat×List AV×AV)→Option AV
 |[]=>none
 |t::l=>bif Nat.beq t.1 k&&(decide (t.2.1.map (avFp 16)=as.map (avFp 16))&&eqL (avEq 16) t.2.1 as)then some t.2.2 else findV k as l
theorem findV_ok {k:Nat} {as:List AV} {r:AV}:∀{l:List (Nat×List AV×AV)},findV k as l=some r→(k,as,r)∈l
 |[],h=>by cases h
 |t::l,h=>by
  unfold findV at h
  cases hc:(Nat.beq t.1 k&&(decide (t.2.1.map (avFp 16)=as.map (avFp 16))&&eqL (avEq 16) t.2.1 as))with
  |true =>
   rw[hc]at h
   cases h
   rw[Bool.and_eq_true,Bool.and_eq_true]at hc
   have e1:t.1=k:=Nat.eq_of_beq_eq_true hc.1
   have e2:=eqL_ok (fun x y=>avEq_ok) hc.2.2
   subst e1;subst e2
   exact List.mem_cons_self
  |false =>
   rw[hc]at h
   exact List.mem_cons_of_mem _ (findV_ok h)
def knB [Bk] (P:Program) (k:FuncId):Bool :=
 Bk.extV.any (fun t => Nat.beq t.1 k) && (match P.funcs[k]? with | some fn => (match fn.body with | some _ => !(fn.name == "runtime.NumGoroutine") | none => false) | none => false)
def scalB:Nat→AV→Bool
 |0,_=>false
 |k+1,x=>match x with
  | .c _ | .undef | .e _ | .o _ | .any=>true
  | .agg l=>l.all (scalB k)
  | .tup l=>l.all (scalB k)
  |_=>false
theorem RdL.scal [Bk] [Ev] {A A':Nat→Prop} {w w':World}:∀{k:Nat} {x:AV} {v:Value},scalB k x=true→RdL A w x v→RdL A' w' x v
 |0,x,v,h,_=>by cases h
 |k+1,x,v,h,hr=>by
  cases hr with
  |c v=>exact .c v
  |undef=>exact .undef
  |e p=>exact .e p
  |o i=>exact .o i
  |any v h1=>exact .any v h1
  |agg cs vs hl h1 hr=>exact .agg cs vs hl h1 fun i x hx=>RdL.scal (List.all_eq_true.1 h x (List.mem_of_getElem? hx)) (hr i x hx)
  |tup cs vs hl hr=>exact .tup cs vs hl fun i x hx=>RdL.scal (List.all_eq_true.1 h x (List.mem_of_getElem? hx)) (hr i x hx)
  |_=>cases h
def knM [Bk] (k:FuncId) (args:List AV):M AV:=fun h n =>
 match frzL (frz h 16) args with
 |some (as,ids)=>match findV k as Bk.extV with
  |some r=>bif scalB 8 r then some ⟨r,h,n,ids,[]⟩else some ⟨r,upsB h (ids.map fun id=>(id,Blk.dead)),n,ids,ids⟩
  |none=>none
 |none=>none
theorem local_kn [Bk] [Ev] (k:FuncId) (args:List AV):Local (knM k args):=by
 intro h n r hr
 unfold knM at hr
 split at hr
 ·rename_i as ids hf
  split at hr
  ·rename_i v hv
   have hag:∀g:AH,(∀id∈ids,g id=h id)→frzL (frz g 16) args=some (as,ids):=fun g hrd=>frzL_h hf fun x y is hx hs=>frz_h hx fun id hid=>hrd id (hs id hid)
   cases hs:scalB 8 v with
   |true =>
    rw[hs]at hr
    cases hr
    refine⟨Nat.le_refl _,fun id hid _=>rfl,fun _ hid=>absurd hid List.not_mem_nil,?_⟩
    intro g hrd hrg
    refine⟨⟨v,g,n,ids,[]⟩,?_,rfl,rfl,rfl,rfl,?_,fun id hid _=>rfl⟩
    ·unfold knM
     rw[hag g hrd]
     simp only[hv,hs]
     rfl
    ·intro id hid
     rcases hid with hid|hid
     ·exact absurd hid List.not_mem_nil
     ·simp only at hid;omega
   |false =>
   rw[hs]at hr
   cases hr
   refine⟨Nat.le_refl _,fun id hid _=>upsB_not (by simpa using hid),fun _ hid=>hid,?_⟩
   intro g hrd hrg
   refine⟨⟨v,upsB g (ids.map fun id=>(id,Blk.dead)),n,ids,ids⟩,?_,rfl,rfl,rfl,rfl,?_,fun id hid _=>upsB_not (by simpa using hid)⟩
   ·unfold knM
    rw[hag g hrd]
    simp only[hv,hs]
    rfl
   ·intro id hid
    rcases hid with hid|hid
    ·exact upsB_in (by simpa using hid)
    ·simp only at hid;omega
  ·cases hr
 ·cases hr
def KnOk [Bk] [Ev] (P:Program) (k:FuncId) (as:List AV) (r:AV):Prop :=
 ∀(A:Nat→Prop) (w:World) (vs:Array Value),(∀b,A b→b<w.heap.size)→GOk A w→vs.size=as.length→(∀(i:Nat) (x:AV),as[i]?=some x→RdL A w x (vs.getD i Go.undef)) →
  Calls P k vs w fun e w'=>∃v,e=.returned v∧RdL A w' r v∧Below w.heap.size w w'
theorem kn_calls [Bk] [Ev] {P:Program} {k:FuncId} {args as:List AV} {ids:List Nat} {r:AV} {h:AH} (hf:frzL (frz h 16) args=some (as,ids)) (hk:KnOk P k as r):ACalls P k args h (fun v h'=>v=r∧h'=upsB h (ids.map fun id=>(id,Blk.dead))):=by
 intro m A w vs H hl hv
 obtain⟨H2,E2⟩:=H.letGo ids
 obtain⟨h1,h2⟩:=frzL_get hf
 refine(hk (Av (killS m ids) A) w vs ?_ (fun t ht=>⟨.inl (H.glob t ht).1,(H.glob t ht).2⟩) (by rw[hl,h1]) ?_).mono ?_
 ·rintro b (hb|⟨id,hb⟩)
  ·exact H.old b hb
  ·exact H2.lt hb
 ·intro i y hy
  obtain⟨x,is,g1,g2,g3⟩:=h2 i y hy
  exact frz_ok H ids g2 g3 (hv i x g1)
 ·rintro e w' ⟨v,rfl,hr,hb⟩
  exact⟨v,r,killS m ids,_,rfl,⟨rfl,rfl⟩,H2.below hb,.pure _ _ hr,E2.trans (Ext.of_below H2 hb)⟩
theorem kn_calls0 [Bk] [Ev] {P:Program} {k:FuncId} {args as:List AV} {ids:List Nat} {r:AV} {h:AH} (hf:frzL (frz h 16) args=some (as,ids)) (hs:scalB 8 r=true) (hk:KnOk P k as r):ACalls P k args h (fun v h'=>v=r∧h'=h):=by
 intro m A w vs H hl hv
 obtain⟨H2,E2⟩:=H.letGo ids
 obtain⟨h1,h2⟩:=frzL_get hf
 refine(hk (Av (killS m ids) A) w vs ?_ (fun t ht=>⟨.inl (H.glob t ht).1,(H.glob t ht).2⟩) (by rw[hl,h1]) ?_).mono ?_
 ·rintro b (hb|⟨id,hb⟩)
  ·exact H.old b hb
  ·exact H2.lt hb
 ·intro i y hy
  obtain⟨x,is,g1,g2,g3⟩:=h2 i y hy
  exact frz_ok H ids g2 g3 (hv i x g1)
 ·rintro e w' ⟨v,rfl,hr,hb⟩
  exact⟨v,r,m,_,rfl,⟨rfl,rfl⟩,H.below hb,.pure _ _ (RdL.scal hs hr),Ext.of_below H hb⟩
def yesA [Bk] (P:Program) (k:FuncId) (args:List AV):Bool :=
 Bk.yes.contains k && (args.isEmpty && (match P.funcs[k]? with | some fn => (match fn.body with | some _ => !(fn.name == "runtime.NumGoroutine") | none => false) | none => false))
def extA [Bk] (P:Program) (k:FuncId) (args:List AV):Option AV :=
 if yesA P k args=true then some (.c (.bool true))else match Bk.ext with
 |[]=>none
 |l=>match P.funcs[k]? with
  |some fn=>match fn.body with
   | some _ => if fn.name == "runtime.NumGoroutine" then none else match toPs args with
    |some ps=>match findX k ps l with
     |some rs=>some (tupOf (rs.map mkE))
     |none=>none
    |none=>none
   |none=>none
  |none=>none
def ExtOk [Bk] [Ev] (P:Program):Prop:=(∀k ps rs,(k,ps,rs)∈Bk.ext→∀args h,toPs args=some ps→ACalls P k args h (fun v h'=>v=tupOf (rs.map mkE)∧h'=h)) ∧
 (∀k,k∈Bk.yes→∀h,ACalls P k [] h (fun v h'=>v=.c (.bool true)∧h'=h))∧∀k as r,(k,as,r)∈Bk.extV→KnOk P k as r
theorem yesA_ok [Bk] [Ev] (hX:ExtOk P) {k:FuncId} {args:List AV} (hv:yesA P k args=true) (h:AH) :
  ∃ fn c, P.funcs[k]? = some fn ∧ fn.body = some c ∧ (fn.name == "runtime.NumGoroutine") = false ∧ ACalls P k args h (fun v' h' => v' = .c (.bool true) ∧ h' = h) := by
 unfold yesA at hv
 rw[Bool.and_eq_true,Bool.and_eq_true]at hv
 obtain⟨h1,h2,h3⟩:=hv
 split at h3
 ·rename_i fn hf
  split at h3
  ·rename_i c hc
   have ha:args=[]:=by simpa using h2
   subst ha
   exact⟨fn,c,hf,hc,by simpa using h3,hX.2.1 k (by simpa using h1) h⟩
  ·cases h3
 ·cases h3
theorem extA_ok [Bk] [Ev] (hX:ExtOk P) {k:FuncId} {args:List AV} {v:AV} (hv:extA P k args=some v) (h:AH) :
  ∃ fn c, P.funcs[k]? = some fn ∧ fn.body = some c ∧ (fn.name == "runtime.NumGoroutine") = false ∧ ACalls P k args h (fun v' h' => v' = v ∧ h' = h) := by
 unfold extA at hv
 by_cases hy:yesA P k args=true
 ·rw[if_pos hy]at hv
  cases hv
  exact yesA_ok hX hy h
 rw[if_neg hy]at hv
 split at hv
 ·cases hv
 ·split at hv
  ·rename_i fn hf
   split at hv
   ·rename_i c hc
    split at hv
    ·cases hv
    ·rename_i hn
     split at hv
     ·rename_i ps hp
      split at hv
      ·rename_i rs hr
       cases hv
       exact⟨fn,c,hf,hc,by simpa using hn,hX.1 k ps rs (findX_ok hr) args h hp⟩
      ·cases hv
     ·cases hv
   ·cases hv
  ·cases hv
def acallB [Bk] (P:Program) (L:Nat) (call:Fn→List AV→M AV) (k:FuncId) (args:List AV):M AV :=
 match P.funcs[k]? with
  |none=>mfail
  |some fn=>match isClone fn,args with
   |some t,[x]=>cloneX P t x
   |_,_=>match fn.body with
    |none=>mfail
    | some c => if fn.name == "runtime.NumGoroutine" then mfail else
     mcomp (mbind (acode P call true L c (args++List.replicate (fn.ntmps-args.length) .undef)) fun q=>match q.1 with
      | .exit _=>mfail
      |_=>resM P fn q.2)
def acallX [Bk] (P:Program) (L:Nat):Nat→Fn→List AV→M AV
 |0,_,_=>mfail
 |d+1,.func k,args=>match extA P k args with
  |some v=>mpure v
  |none=>if knB P k=true then knM k args else acallB P L (acallX P L d) k args
 |d+1,.yield id,args=>mcomp (ayield P L (acallX P L d) id args)
 |_+1,_,_=>mfail
theorem acallB_callOk [Bk] [Ev] (L : Nat) {call : Fn → List AV → M AV} (ih : CallOk P call) : (∀ k args, Local (acallB P L call k args)) ∧ ∀ k args h n r, acallB P L call k args h n = some r → ∃ fn c, P.funcs[k]? = some fn ∧ fn.body = some c ∧ (fn.name == "runtime.NumGoroutine") = false ∧ ACalls P k args h (fun v h' => v = r.a ∧ h' = r.h) := by
  refine⟨?_,?_⟩
  ·intro k args
   simp only[acallB]
   split
   ·exact local_fail
   ·split
    ·exact local_cloneX _ _
    ·split
     ·exact local_fail
     ·split
      ·exact local_fail
      ·refine local_comp (local_bind (local_code ih _ _ _) fun q=>?_)
       split
       ·exact local_fail
       ·exact local_res _ _
  ·intro k args h n r hr
   simp only[acallB]at hr
   cases hk:P.funcs[k]? with
   |none=>simp only[hk]at hr;cases hr
   |some fn =>
    simp only[hk]at hr
    have plain:(match fn.body with
     |none=>mfail
     | some c => if fn.name == "runtime.NumGoroutine" then mfail else
      mcomp (mbind (acode P call true L c (args++List.replicate (fn.ntmps-args.length) .undef)) fun q=>match q.1 with
       | .exit _=>mfail
       | _ => resM P fn q.2) : M AV) h n = some r → ∃ fn c, P.funcs[k]? = some fn ∧ fn.body = some c ∧ (fn.name == "runtime.NumGoroutine") = false ∧ ACalls P k args h (fun v h' => v = r.a ∧ h' = r.h) := by
     intro hr
     cases hb:fn.body with
     |none=>simp only[hb]at hr;cases hr
     |some c =>
      simp only[hb]at hr
      by_cases hn : (fn.name == "runtime.NumGoroutine") = true
      ·rw[if_pos hn]at hr;cases hr
      ·rw[if_neg hn]at hr
       refine⟨fn,c,hk,hb,by simpa using hn,?_⟩
       unfold mcomp at hr
       split at hr
       ·cases hr
       ·rename_i t ht
        cases hr
        obtain⟨r1,s,h1,h2,e1,e2,e3⟩:=bind_inv ht
        refine ACalls.of_body hk hb (acode_ok ih L c _ _ h n r1 h1 ?_)
        have fin:∀q,resM P fn r1.a.2 r1.h r1.n=some q→q.a=t.a→q.h=t.h→∃x,resultsA P fn r1.a.2 r1.h=some x∧(x=t.a∧r1.h=t.h):=by
         intro q hq ha hh
         unfold resM at hq
         cases h3:resultsA P fn r1.a.2 r1.h with
         |none=>rw[h3]at hq;cases hq
         |some v =>
          rw[h3]at hq
          cases hq
          exact⟨v,rfl,ha,hh⟩
        cases hx:r1.a.1 with
        |exit id=>simp only[hx]at h2;cases h2
        |normal=>simp only[hx]at h2;exact fin s h2 e1.symm e2.symm
        |ret=>simp only[hx]at h2;exact fin s h2 e1.symm e2.symm
    have clone : ∀ t x, isClone fn = some t → args = [x] → cloneX P t x h n = some r → ∃ fn c, P.funcs[k]? = some fn ∧ fn.body = some c ∧ (fn.name == "runtime.NumGoroutine") = false ∧ ACalls P k args h (fun v h' => v = r.a ∧ h' = r.h) := by
     intro t x hcl ha hq
     clear hr plain
     subst ha
     have hf:=isClone_ok hcl
     obtain⟨i0,i1,i2,i3,o0,o1,o2,o3,o4,o5,o6,o7,hbody,-⟩:=hf.body
     refine⟨fn,_,hk,hbody,hf.name,?_⟩
     unfold cloneX at hq
     split at hq
     ·rename_i r' hq'
      cases hq
      unfold cloneM at hq'
      split at hq'
      ·rename_i e he
       split at hq'
       ·rename_i i hi
        split at hq'
        ·rename_i z els hz hx
         split at hq'
         ·rename_i hc
          cases hq'
          obtain⟨c1,c2,c3,c4,c5,c6,c7,c8,c9⟩:=hc
          refine clone_ok hk hf he hi hz c1 c2 hx (fun q hq=>by simpa using List.all_eq_true.1 c3 q hq) ?_ c5 c6 (newB_iff c7) (newB_iff c8) (by simpa using c9)
          intro T s id j n' hx'
          rw[hx']at c4
          simpa[ownSz]using c4
         ·cases hq'
        ·cases hq'
       ·cases hq'
      ·cases hq'
     unfold cloneS at hq
     split at hq
     ·rename_i e he
      split at hq
      ·rename_i i hi
       split at hq
       ·rename_i z sz base ups tail N hz hx
        split at hq
        ·rename_i hc
         cases hq
         obtain⟨c1,c2,rfl,c4,c7,c8,c9⟩:=hc
         exact clone_ok_s hk hf he hi hz c1 c2 hx c4 (newB_iff c7) (newB_iff c8) (by simpa using c9)
        ·cases hq
       ·cases hq
      ·cases hq
     ·cases hq
    cases hcl:isClone fn with
    |none=>simp only[hcl]at hr;exact hk▸plain hr
    |some t =>
     cases args with
     |nil=>simp only[hcl]at hr;exact hk▸plain hr
     |cons x l =>
      cases l with
      |nil =>
       have hr':cloneX P t x h n=some r:=by
        simp only[hcl]at hr
        exact hr
       exact hk▸clone t x hcl rfl hr'
      |cons y l=>simp only[hcl]at hr;exact hk▸plain hr
theorem knM_ok [Bk] [Ev] (hX:ExtOk P) {k:FuncId} {args:List AV} {h:AH} {n:Nat} {r:Rs AV} (hb:knB P k=true) (hr:knM k args h n=some r) :
  ∃ fn c, P.funcs[k]? = some fn ∧ fn.body = some c ∧ (fn.name == "runtime.NumGoroutine") = false ∧ ACalls P k args h (fun v h' => v = r.a ∧ h' = r.h) := by
 unfold knB at hb
 rw[Bool.and_eq_true]at hb
 obtain⟨-,h3⟩:=hb
 split at h3
 ·rename_i fn hf
  split at h3
  ·rename_i c hc
   refine⟨fn,c,hf,hc,by simpa using h3,?_⟩
   unfold knM at hr
   split at hr
   ·rename_i as ids hfr
    split at hr
    ·rename_i v hv
     cases hs:scalB 8 v with
     |true=>rw[hs]at hr;cases hr;exact kn_calls0 hfr hs (hX.2.2 k as v (findV_ok hv))
     |false=>rw[hs]at hr;cases hr;exact kn_calls hfr (hX.2.2 k as v (findV_ok hv))
    ·cases hr
   ·cases hr
  ·cases h3
 ·cases h3
theorem acallX_callOk [Bk] [Ev] (hX:ExtOk P) (L:Nat):∀d,CallOk P (acallX P L d)
 |0=>⟨fun k args=>local_fail,fun k args h n r hr=>(by cases hr),fun k args h n r hr=>(by cases hr)⟩
 |d+1=>by
  have ihX:=acallX_callOk hX L d
  have ih:=acallB_callOk L ihX
  refine⟨fun k args=>?_,fun k args h n r hr=>?_,fun id args h n r hr=>?_⟩
  ·cases k with
   |func k =>
    simp only[acallX]
    split
    ·exact local_pure _
    ·split
     ·exact local_kn _ _
     ·exact ih.1 _ _
   |yield id=>exact local_comp (local_yield ihX L id args)
   |_=>exact local_fail
  ·cases hv:extA P k args with
   |some v =>
    simp only[acallX,hv]at hr
    cases hr
    exact extA_ok hX hv h
   |none =>
    simp only[acallX,hv]at hr
    by_cases hb:knB P k=true
    ·rw[if_pos hb]at hr
     exact knM_ok hX hb hr
    ·rw[if_neg hb]at hr
     exact ih.2 k args h n r hr
  ·simp only[acallX]at hr
   unfold mcomp at hr
   split at hr
   ·cases hr
   ·rename_i t ht
    cases hr
    exact(ayield_ok ihX ht).mono fun v h' e=>e
theorem acallX_ok [Bk] [Ev] (hX:ExtOk P) {L d:Nat} {k:FuncId} {args:List AV} {h:AH} {n:Nat} {r:Rs AV} (hr:acallX P L d (.func k) args h n=some r):ACalls P k args h (fun v h'=>v=r.a∧h'=r.h) :=
 ((acallX_callOk hX L d).ok k args h n r hr).elim fun _ h=>h.elim fun _ h=>h.2.2.2
end
end Go.Proofs.Ytjccjmmbebiegaa.Mc
