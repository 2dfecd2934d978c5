/-
 A machine of plain data beside the model: slices that grow. No program in sight.
 A machine of plain data beside the model: append, make. No program in sight.
 A machine of plain data beside the model: make, slices of slices, interfaces. No program in sight.
 A machine of plain data beside the model: code, calls. No program in sight.
 A machine of plain data beside the model: statements that draw their order. No program in sight.
-/
import Derived.Test.YtjccjmmbebiegaaM4
import Derived.Laws.StructEq
import Derived.OrdersIn
import Derived.RangeFuncRecord
set_option linter.unusedVariables false
set_option linter.unusedSimpArgs false
namespace Go.Proofs.Ytjccjmmbebiegaa.Mc
open Go.RowKit
section
variable {P:Program} {o:Oper} {f:List AV} {h:AH}
def elsA (h:AH):AV→Option (List (List AV))
 | .emp=>some []
 | .lit _ els=>some els
 | .own T sz id i n=>match h id with
  | .cells T' sz' els=>if T'=T∧sz'=sz∧i+n≤els.length then some ((els.drop i).take n)else none
  |_=>none
 |_=>none
def idOf:AV→List Nat
 | .own _ _ id _ _=>[id]
 |_=>[]
theorem flat_get [Bk] [Ev] {els:List (List AV)} {sz:Nat} (hsz:∀e∈els,e.length=sz) {k:Nat} (hk:k<els.length*sz):∃x,at2 els (k/sz) (k%sz)=some x:=by
 have h0:0<sz:=by
  rcases Nat.eq_zero_or_pos sz with h|h
  ·subst h;simp at hk
  ·exact h
 have h1:k/sz<els.length:=(Nat.div_lt_iff_lt_mul h0).2 hk
 have h2:k%sz<sz:=Nat.mod_lt _ h0
 have h3:(els[k/sz]).length=sz:=hsz _ (List.getElem_mem h1)
 exact⟨_,by simp[at2,List.getElem?_eq_getElem h1,List.getElem?_eq_getElem (show k%sz<(els[k/sz]).length by omega)];rfl⟩
theorem drop_at2 [Bk] [Ev] {els:List (List AV)} {i n i' j:Nat} {x:AV} (h:at2 ((els.drop i).take n) i' j=some x):i'<n∧at2 els (i+i') j=some x:=by
 unfold at2 at *
 rw[List.getElem?_take]at h
 split at h
 ·rename_i hl
  rw[List.getElem?_drop]at h
  exact⟨hl,h⟩
 ·cases h
theorem src_ok [Bk] [Ev] {m:Nat→St} {A:Nat→Prop} {w:World} (H:HRel m A h w) {x:AV} {v:Value} {els:List (List AV)} {sz:Nat} (hr:Rd m A w x v) (he:elsA h x=some els) (hsz:∀e∈els,e.length=sz) (hx:∀T s id i n,x=.own T s id i n→s=sz) :
  ∃a cap,v=.slice a els.length cap∧els.length≤cap∧(a=none→els=[])∧∃news:List Value,news.length=els.length*sz∧(∀ad,a=some ad→∀j u,news[j]?=some u→w.cell? (ad.add j)=some u)∧(∀u∈news,u.oneCell'=true) ∧
   ∀(i j:Nat) (y:AV),at2 els i j=some y→y.one=true∧Rd m A w y (news.getD (i*sz+j) Go.undef):=by
 have ones:∀news:List Value,news.length=els.length*sz→(∀(i j:Nat) (y:AV),at2 els i j=some y→y.one=true∧Rd m A w y (news.getD (i*sz+j) Go.undef))→∀u∈news,u.oneCell'=true:=by
  intro news hl hn u hu
  obtain⟨k,hk,rfl⟩:=List.getElem_of_mem hu
  obtain⟨y,hy⟩:=flat_get hsz (k:=k) (by omega)
  obtain⟨h1,h2⟩:=hn _ _ _ hy
  have e1:k/sz*sz+k%sz=k:=by rw[Nat.mul_comm];exact Nat.div_add_mod k sz
  rw[e1]at h2
  have:=h2.one h1
  simpa[List.getD,hk]using this
 have nil:∀a cap,els=[]→v=.slice a 0 cap→∃a cap,v=.slice a els.length cap∧els.length≤cap∧(a=none→els=[])∧∃news:List Value,news.length=els.length*sz∧(∀ad,a=some ad→∀j u,news[j]?=some u→w.cell? (ad.add j)=some u)∧(∀u∈news,u.oneCell'=true) ∧
   ∀(i j:Nat) (y:AV),at2 els i j=some y→y.one=true∧Rd m A w y (news.getD (i*sz+j) Go.undef):=by
  rintro a cap rfl rfl
  exact⟨a,cap,rfl,Nat.zero_le _,fun _=>rfl,[],by simp,by intro ad _ j u hu;simp at hu,by intro u hu;simp at hu,by intro i j y hy;simp[at2]at hy⟩
 cases x with
 |emp =>
  simp only[elsA,Option.some.injEq]at he
  cases hr with|pure _ _ hr=>cases hr with|emp a=>exact nil a 0 he.symm rfl
 |lit s els' =>
  simp only[elsA,Option.some.injEq]at he
  subst he
  obtain⟨rfl,a,cap,rfl⟩|⟨b,off,cap,vs,rfl,hA,hb,hc,hs,k1,kv,kr⟩:=hr.lit_inv
  ·exact nil a cap rfl rfl
  ·have hss:els'≠[]→s=sz:=by
    intro hne
    obtain⟨e,r,rfl⟩:=List.exists_cons_of_ne_nil hne
    rw[←hs e (by simp),hsz e (by simp)]
   by_cases hne:els'=[]
   ·subst hne;exact nil _ cap rfl rfl
   have:=hss hne
   subst this
   have hl:((List.range (els'.length*s)).map fun k=>vs (k/s) (k%s)).length=els'.length*s:=by simp
   have hg:∀(i j:Nat) (y:AV),at2 els' i j=some y→y.one=true∧Rd m A w y (((List.range (els'.length*s)).map fun k=>vs (k/s) (k%s)).getD (i*s+j) Go.undef):=by
    intro i j y hy
    have hb2:=at2_len hy hsz
    refine⟨k1 i j y hy,?_⟩
    have e1:(i*s+j)/s=i:=by
     rw[Nat.mul_comm,Nat.mul_add_div (by omega),Nat.div_eq_of_lt hb2.2.1];rfl
    have e2:(i*s+j)%s=j:=by rw[Nat.mul_comm,Nat.mul_add_mod,Nat.mod_eq_of_lt hb2.2.1]
    have:((List.range (els'.length*s)).map fun k=>vs (k/s) (k%s)).getD (i*s+j) Go.undef=vs i j:=by
     simp[List.getD,hb2.2.2,e1,e2]
    rw[this];exact .pure _ _ (kr i j y hy)
   refine⟨some ⟨b,off,none⟩,cap,rfl,hc,(fun h=>by cases h),(List.range (els'.length*s)).map fun k=>vs (k/s) (k%s),hl,?_,ones _ hl hg,hg⟩
   intro ad had j u hu
   cases had
   have hj:j<els'.length*s:=by have:=(List.getElem?_eq_some_iff.1 hu).1;rwa[hl]at this
   obtain⟨y,hy⟩:=flat_get hsz hj
   have h1:=kv _ _ _ hy
   have e1:j/s*s+j%s=j:=by rw[Nat.mul_comm];exact Nat.div_add_mod j s
   rw[e1]at h1
   rw[addr_add,h1]
   simp[hj]at hu
   rw[←hu]
 |own T s id i n =>
  have:=hx T s id i n rfl
  subst this
  simp only[elsA]at he
  split at he
  ·rename_i T' sz' els0 hh
   split at he
   ·rename_i hc
    obtain⟨rfl,rfl,hle⟩:=hc
    cases he
    rcases H.cells id _ _ _ hh with⟨hv,rfl⟩|⟨b,cs,g1,g2,g3,g4,g5⟩
    ·have hn:n=0:=by simp at hle;omega
     subst hn
     have:∃a cap,v=.slice a 0 cap:=by
      cases hr with
      |pure _ _ h=>cases h
      |own _ _ _ _ _ b _ hm=>rw[hv]at hm;cases hm
      |ownv _ _ _ _ a hm=>exact⟨a,0,rfl⟩
      |ownd _ _ _ _ _ _ _ _ hm=>rw[hv]at hm;cases hm
     obtain⟨a,cap,rfl⟩:=this
     exact nil a cap (by simp) rfl
    ·obtain⟨cap,rfl,hn,-,hrow⟩:=hr.at_own g1
     have hlen:((els0.drop i).take n).length=n:=by simp;omega
     have hrow':(i+cap)*sz'=cs.size:=by rw[hrow];simp[rowSize,g2]
     have hmul:(i+n)*sz'≤els0.length*sz':=Nat.mul_le_mul_right _ hle
     have hl:((cs.toList.drop (i*sz')).take (n*sz')).length=((els0.drop i).take n).length*sz':=by
      rw[hlen]
      rw[Nat.add_mul]at hmul
      simp
      omega
     have hg:∀(i' j:Nat) (y:AV),at2 ((els0.drop i).take n) i' j=some y→y.one=true∧Rd m A w y (((cs.toList.drop (i*sz')).take (n*sz')).getD (i'*sz'+j) Go.undef):=by
      intro i' j y hy
      obtain⟨k1,k2⟩:=drop_at2 hy
      have hb:=at2_len hy hsz
      obtain⟨q1,q2⟩:=g5 _ _ _ k2
      refine⟨q1,?_⟩
      rw[hlen]at hb
      have:((cs.toList.drop (i*sz')).take (n*sz')).getD (i'*sz'+j) Go.undef=cs.getD ((i+i')*sz'+j) Go.undef:=by
       rw[List.getD,List.getElem?_take,if_pos hb.2.2,List.getElem?_drop]
       rw[show i*sz'+(i'*sz'+j)=(i+i')*sz'+j by rw[Nat.add_mul];omega]
       simp
      rw[this];exact q2
     refine⟨some ⟨b,i*sz',none⟩,cap,by rw[hlen],by rw[hlen];exact hn,(fun h=>by cases h),(cs.toList.drop (i*sz')).take (n*sz'),hl,?_,ones _ hl hg,hg⟩
     intro ad had j u hu
     cases had
     rw[addr_add]
     rw[List.getElem?_take]at hu
     split at hu
     ·rw[List.getElem?_drop]at hu
      simp only[World.cell?,g2]
      simpa using hu
     ·cases hu
   ·cases he
  ·cases he
 |_=>simp[elsA]at he
theorem op_len [Bk] [Ev] {t:TypeId} {x:Operand} {e:TypeId} {els:List (List AV)} (ho:o.op=.call { callee:=.builtin .len,args:=#[x],argTypes:=#[t] }) (hu:P.underlying t=some (.slice e)) (he:elsA h (aev f x)=some els):OpOk P o f h ⟨.c (.int .i64 els.length),[],idOf (aev f x)⟩:=by
 refine op_pure fun m A w a H F=>?_
 have h1:=F.eval x
 have hlen:∃ad cap,a.eval x=.slice ad els.length cap:=by
  generalize aev f x=y at h1 he
  generalize a.eval x=v at h1
  cases y with
  |emp =>
   simp only[elsA,Option.some.injEq]at he;subst he
   cases h1 with|pure _ _ hr=>cases hr with|emp a=>exact⟨a,0,rfl⟩
  |lit s els' =>
   simp only[elsA,Option.some.injEq]at he;subst he
   obtain⟨rfl,a,cap,rfl⟩|⟨b,off,cap,vs,rfl,-⟩:=h1.lit_inv
   ·exact⟨a,cap,rfl⟩
   ·exact⟨_,cap,rfl⟩
  |own T s id i n =>
   simp only[elsA]at he
   split at he
   ·rename_i T' sz' els0 hh
    split at he
    ·rename_i hc
     obtain⟨rfl,rfl,hle⟩:=hc
     cases he
     have hlen:((els0.drop i).take n).length=n:=by simp;omega
     rw[hlen]
     rcases H.cells id _ _ _ hh with⟨hv,rfl⟩|⟨b,cs,g1,g2,g3,g4,g5⟩
     ·cases h1 with
      |pure _ _ h=>cases h
      |own _ _ _ _ _ b _ hm=>rw[hv]at hm;cases hm
      |ownv _ _ _ _ a hm=>exact⟨a,0,rfl⟩
      |ownd _ _ _ _ _ _ _ _ hm=>rw[hv]at hm;cases hm
     ·obtain⟨cap,rfl,-⟩:=h1.at_own g1
      exact⟨_,cap,rfl⟩
    ·cases he
   ·cases he
  |_=>simp[elsA]at he
 obtain⟨ad,cap,hv⟩:=hlen
 refine⟨_,?_,.pure _ _ (.c _)⟩
 simp[execOp,ho,resolve,invoke,builtin,hv,Builtin.len_,run_underlying hu,goInt]
theorem op_len_str [Bk] [Ev] {t:TypeId} {x:Operand} {s:ByteArray} (ho:o.op=.call { callee:=.builtin .len,args:=#[x],argTypes:=#[t] }) (hu:P.underlying t=some .string) (hx:aev f x=.c (.string s)):OpOk P o f h ⟨.c (.int .i64 s.size),[],[]⟩:=by
 refine op_pure fun m A w a H F=>?_
 have h1:=F.eval x
 rw[hx]at h1
 have e1:=h1.c_inv
 refine⟨_,?_,.pure _ _ (.c _)⟩
 simp[execOp,ho,resolve,invoke,builtin,e1,Builtin.len_,run_underlying hu,goInt]
theorem op_max2 [Bk] [Ev] {ts:Array TypeId} {x y:Operand} {k k':IntKind} {p q:Int} (ho:o.op=.call { callee:=.builtin .max,args:=#[x,y],argTypes:=ts }) (hx:aev f x=.c (.int k p)) (hy:aev f y=.c (.int k' q)):OpOk P o f h ⟨.c (.int k (if q > p then q else p)),[],[]⟩:=by
 refine op_pure fun m A w a H F=>?_
 have h1:=F.eval x
 rw[hx]at h1
 have h2:=F.eval y
 rw[hy]at h2
 refine⟨_,?_,.pure _ _ (.c _)⟩
 simp[execOp,ho,resolve,invoke,builtin,h1.c_inv,h2.c_inv,Builtin.max_,Builtin.max2]
theorem op_min2 [Bk] [Ev] {ts:Array TypeId} {x y:Operand} {k k':IntKind} {p q:Int} (ho:o.op=.call { callee:=.builtin .min,args:=#[x,y],argTypes:=ts }) (hx:aev f x=.c (.int k p)) (hy:aev f y=.c (.int k' q)):OpOk P o f h ⟨.c (.int k (if q<p then q else p)),[],[]⟩:=by
 refine op_pure fun m A w a H F=>?_
 have h1:=F.eval x
 rw[hx]at h1
 have h2:=F.eval y
 rw[hy]at h2
 refine⟨_,?_,.pure _ _ (.c _)⟩
 simp[execOp,ho,resolve,invoke,builtin,h1.c_inv,h2.c_inv,Builtin.min_,Builtin.min2]
theorem op_max3 [Bk] [Ev] {ts:Array TypeId} {x y z:Operand} {k k' k'':IntKind} {p q r:Int} (ho:o.op=.call { callee:=.builtin .max,args:=#[x,y,z],argTypes:=ts }) (hx:aev f x=.c (.int k p)) (hy:aev f y=.c (.int k' q)) (hz:aev f z=.c (.int k'' r)):OpOk P o f h ⟨.c (.int k (if r > (if q > p then q else p)then r else(if q > p then q else p))),[],[]⟩:=by
 refine op_pure fun m A w a H F=>?_
 have h1:=F.eval x
 rw[hx]at h1
 have h2:=F.eval y
 rw[hy]at h2
 have h3:=F.eval z
 rw[hz]at h3
 refine⟨_,?_,.pure _ _ (.c _)⟩
 simp[execOp,ho,resolve,invoke,builtin,h1.c_inv,h2.c_inv,h3.c_inv,Builtin.max_,Builtin.max2]
theorem op_slice_nil [Bk] [Ev] {t:TypeId} {x:Operand} {k k':IntKind} {hi mx:Operand} {els:List (List AV)} (ho:o.op=.slice t x none (some hi) (some mx)) (hu:P.underlying t=some (.slice (P.elem t))) (hs:(P.info? (P.elem t)).isSome=true) (he:elsA h (aev f x)=some els) (h0:aev f hi=.c (.int k 0)) (h1:aev f mx=.c (.int k' 0)) :
  OpOk P o f h ⟨.emp,[],idOf (aev f x)⟩:=by
 refine op_pure fun m A w a H F=>?_
 have g1:=F.eval hi
 rw[h0]at g1
 have g2:=F.eval mx
 rw[h1]at g2
 have g3:=F.eval x
 have hv:∃ad n cap,a.eval x=.slice ad n cap:=by
  generalize aev f x=y at g3 he
  generalize a.eval x=v at g3
  cases y with
  |emp=>cases g3 with|pure _ _ hr=>cases hr with|emp a=>exact⟨a,0,0,rfl⟩
  |lit s els' =>
   obtain⟨rfl,a,cap,rfl⟩|⟨b,off,cap,vs,rfl,-⟩:=g3.lit_inv
   ·exact⟨a,_,cap,rfl⟩
   ·exact⟨_,_,cap,rfl⟩
  |own T s id i n =>
   cases g3 with
   |pure _ _ h=>cases h
   |own _ _ _ _ _ b cap=>exact⟨_,_,cap,rfl⟩
   |ownv _ _ _ _ a=>exact⟨a,_,_,rfl⟩
   |ownd=>exact⟨_,_,_,rfl⟩
  |_=>simp[elsA]at he
 obtain⟨ad,n,cap,hv⟩:=hv
 cases hp:P.info? (P.elem t)with
 |none=>simp[hp]at hs
 |some ti =>
  refine⟨.slice (if(0:Nat)=0 then ad else ad.map (·.add (0*ti.size))) 0 0,?_,?_⟩
  ·have r1:=run_sliceAt_slice (P:=P) w t (.slice ad n cap) none (some (.int k 0)) (some (.int k' 0)) hu
   have r2:=run_slice_hm (P:=P) w t ad n cap hu k k' 0 0 (by omega) (by omega) (by omega)
   rw[r2]at r1
   simp[execOp,ho,hv,g1.c_inv,g2.c_inv,r1,sizeOf,typeInfo,hp,sliced]
  ·exact .pure _ _ (.emp _)
theorem op_len_row [Bk] [Ev] {t:TypeId} {x:Operand} {e:TypeId} {n:Poly} {xs:List Poly} (ho:o.op=.call { callee:=.builtin .len,args:=#[x],argTypes:=#[t] }) (hu:P.underlying t=some (.slice e)) (hx:aev f x=.row n xs):OpOk P o f h ⟨mkE n,[],[]⟩:=by
 refine op_pure fun m A w a H F=>?_
 have h1:=F.eval x
 rw[hx]at h1
 refine⟨_,?_,.pure _ _ (RdL_mkE _ w n)⟩
 obtain⟨hz,ad,cap,hv⟩|⟨b,off,len,cap,hv,hl,-⟩:=h1.row_inv
 ·simp[execOp,ho,resolve,invoke,builtin,hv,Builtin.len_,run_underlying hu,goInt,hz]
 ·simp[execOp,ho,resolve,invoke,builtin,hv,Builtin.len_,run_underlying hu,goInt,hl]
def symMax [Bk] (p q:Poly):Option Poly:=match ltB (psub p q)with
 |some b=>some (if b then q else p)
 |none=>findD 2 p q Bk.defs
theorem symMax_ok [Bk] [Ev] {p q r:Poly} (h:symMax p q=some r):pev Ev.rho r=if pev Ev.rho q > pev Ev.rho p then pev Ev.rho q else pev Ev.rho p:=by
 unfold symMax at h
 split at h
 ·rename_i b hb
  cases h
  have k:=ltB_ok hb
  rw[pev_psub]at k
  cases b
  ·have:=of_decide_eq_false k.symm
   show pev Ev.rho p=_
   split<;>omega
  ·have:=of_decide_eq_true k.symm
   show pev Ev.rho q=_
   split<;>omega
 ·have hd:pev Ev.rho r=max (pev Ev.rho p) (pev Ev.rho q):=(Ev.defs _ (findD_ok h)).2.2 rfl
  rw[hd]
  split<;>omega
def symMin [Bk] (p q:Poly):Option Poly:=(ltB (psub q p)).map fun b=>if b then q else p
theorem symMin_ok [Bk] [Ev] {p q r:Poly} (h:symMin p q=some r):pev Ev.rho r=if pev Ev.rho q<pev Ev.rho p then pev Ev.rho q else pev Ev.rho p:=by
 unfold symMin at h
 rw[Option.map_eq_some_iff]at h
 obtain⟨b,hb,rfl⟩:=h
 have k:=ltB_ok hb
 rw[pev_psub]at k
 cases b
 ·have:=of_decide_eq_false k.symm
  show pev Ev.rho p=_
  split<;>omega
 ·have:=of_decide_eq_true k.symm
  show pev Ev.rho q=_
  split<;>omega
theorem op_symMax2 [Bk] [Ev] {ts:Array TypeId} {x y:Operand} {p q r:Poly} (ho:o.op=.call { callee:=.builtin .max,args:=#[x,y],argTypes:=ts }) (hx:toP (aev f x)=some p) (hy:toP (aev f y)=some q) (hr:symMax p q=some r):OpOk P o f h ⟨mkE r,[],[]⟩:=by
 refine op_pure fun m A w a H F=>?_
 have e1:=toP_ok hx (F.eval x)
 have e2:=toP_ok hy (F.eval y)
 refine⟨_,?_,.pure _ _ (RdL_mkE _ w r)⟩
 rw[symMax_ok hr]
 simp[execOp,ho,resolve,invoke,builtin,e1,e2,Builtin.max_,Builtin.max2]
theorem op_symMin2 [Bk] [Ev] {ts:Array TypeId} {x y:Operand} {p q r:Poly} (ho:o.op=.call { callee:=.builtin .min,args:=#[x,y],argTypes:=ts }) (hx:toP (aev f x)=some p) (hy:toP (aev f y)=some q) (hr:symMin p q=some r):OpOk P o f h ⟨mkE r,[],[]⟩:=by
 refine op_pure fun m A w a H F=>?_
 have e1:=toP_ok hx (F.eval x)
 have e2:=toP_ok hy (F.eval y)
 refine⟨_,?_,.pure _ _ (RdL_mkE _ w r)⟩
 rw[symMin_ok hr]
 simp[execOp,ho,resolve,invoke,builtin,e1,e2,Builtin.min_,Builtin.min2]
end
end Go.Proofs.Ytjccjmmbebiegaa.Mc
set_option linter.unusedVariables false
set_option linter.unusedSimpArgs false
namespace Go.Proofs.Ytjccjmmbebiegaa.Mc
open Go.RowKit
section
variable {P:Program} {o:Oper} {f:List AV} {h:AH}
theorem HRel.kill [Bk] [Ev] {m:Nat→St} {A:Nat→Prop} {w:World} (H:HRel m A h w) {id:Nat} (hv:m id=.virt) :
  HRel (sset m id .dead) A (bset h id .dead) w∧Ext m w (sset m id .dead) w:=by
 have E:Ext m w (sset m id .dead) w:=by
  refine⟨rfl,rfl,rfl,Nat.le_refl _,?_,?_,?_,?_,fun _ _ _ _=>rfl⟩
  ·intro k b hb
   unfold sset;split
   ·exact .inr rfl
   ·exact .inl hb
  ·intro k hk
   unfold sset;split
   ·rfl
   ·exact hk
  ·intro k hk
   unfold sset;split
   ·exact .inr rfl
   ·exact .inl hk
  ·intro b hb hu
   refine⟨?_,rfl⟩
   intro k
   unfold sset;split
   ·intro e;cases e
   ·exact hu k
 refine⟨⟨?_,H.old,?_,?_,?_,?_,H.glob.ext H.out E,H.others_to E fun id' B hk hB=>?_,ScOk.set H.scs trivial⟩,E⟩
 ·intro k b hb
  unfold sset at hb;split at hb
  ·cases hb
  ·exact H.out k b hb
 ·intro k hk
  unfold bset at hk;unfold sset;split at hk
  ·cases hk
  ·rename_i hne;rw[if_neg hne];exact H.no k hk
 ·intro k hk
  unfold bset at hk;unfold sset;split at hk
  ·rename_i he;rw[if_pos he]
  ·rename_i hne;rw[if_neg hne];exact H.dead k hk
 ·intro k T' sz' els' hk
  unfold bset at hk;split at hk
  ·simp[Blk.els]at hk
  ·rename_i hne
   obtain⟨g1,g2⟩|⟨b,cs,g1,g2,g3,g4,g5⟩:=H.arrs k T' sz' els' hk
   ·exact .inl ⟨by simp[sset,hne,g1],g2⟩
   ·exact .inr ⟨b,cs,by simp[sset,hne,g1],g2,g3,g4,fun i j x hx=>⟨(g5 i j x hx).1,(g5 i j x hx).2.ext E⟩⟩
 ·intro i j b hi hj
  unfold sset at hi hj
  split at hi
  ·cases hi
  ·split at hj
   ·cases hj
   ·exact H.inj i j b hi hj
 ·unfold bset at hk;split at hk
  ·subst hk;exact absurd hB (by simp[Blk.other])
  ·rename_i hne
   exact⟨hk,fun b hb=>⟨by simp[sset,hne,hb],rfl⟩⟩
theorem HRel.virtualB [Bk] [Ev] {m:Nat→St} {A:Nat→Prop} {w:World} (H:HRel m A h w) {id:Nat} (hid:h id=.no) {B:Blk} {T sz:Nat} (hB:B.els=some (T,sz,[])) (hS:ScOk B) :
  HRel (sset m id .virt) A (bset h id B) w∧Ext m w (sset m id .virt) w:=by
 have hmid:=H.no id hid
 have ne:∀{k:Nat} {s:St},m k=s→s≠.no→k≠id:=by rintro k s h1 h2 rfl;rw[hmid]at h1;exact h2 h1.symm
 have E:Ext m w (sset m id .virt) w:=by
  refine⟨rfl,rfl,rfl,Nat.le_refl _,?_,?_,?_,?_,fun _ _ _ _=>rfl⟩
  ·intro k b hb
   exact .inl (by rw[sset,if_neg (ne hb (by simp))];exact hb)
  ·intro k hk
   rw[sset,if_neg (ne hk (by simp))];exact hk
  ·intro k hk
   exact .inl (by rw[sset,if_neg (ne hk (by simp))];exact hk)
  ·intro b hb hu
   refine⟨?_,rfl⟩
   intro k
   unfold sset;split
   ·intro e;cases e
   ·exact hu k
 refine⟨⟨?_,H.old,?_,?_,?_,?_,H.glob.ext H.out E,H.others_to E fun id' B1 hk hB1=>?_,ScOk.set H.scs hS⟩,E⟩
 ·intro k b hb
  unfold sset at hb;split at hb
  ·cases hb
  ·exact H.out k b hb
 ·intro k hk
  unfold bset at hk;unfold sset;split at hk
  ·exact absurd hk (Blk.els_no hB).1
  ·rename_i hne;rw[if_neg hne];exact H.no k hk
 ·intro k hk
  unfold bset at hk;unfold sset;split at hk
  ·exact absurd hk (Blk.els_no hB).2
  ·rename_i hne;rw[if_neg hne];exact H.dead k hk
 ·intro k T' sz' els' hk
  unfold bset at hk;split at hk
  ·rename_i he;rw[hB]at hk;cases hk;exact .inl ⟨by simp[sset,he],rfl⟩
  ·rename_i hne
   obtain⟨g1,g2⟩|⟨b,cs,g1,g2,g3,g4,g5⟩:=H.arrs k T' sz' els' hk
   ·exact .inl ⟨by simp[sset,hne,g1],g2⟩
   ·exact .inr ⟨b,cs,by simp[sset,hne,g1],g2,g3,g4,fun i j x hx=>⟨(g5 i j x hx).1,(g5 i j x hx).2.ext E⟩⟩
 ·intro i j b hi hj
  unfold sset at hi hj
  split at hi
  ·cases hi
  ·split at hj
   ·cases hj
   ·exact H.inj i j b hi hj
 ·unfold bset at hk;split at hk
  ·subst hk;rw[Blk.els_other hB]at hB1;cases hB1
  ·rename_i hne
   exact⟨hk,fun b hb=>⟨by simp[sset,hne,hb],rfl⟩⟩
theorem HRel.virtual [Bk] [Ev] {m:Nat→St} {A:Nat→Prop} {w:World} (H:HRel m A h w) {id:Nat} (hid:h id=.no) (T sz:Nat) :
  HRel (sset m id .virt) A (bset h id (.cells T sz [])) w∧Ext m w (sset m id .virt) w:=H.virtualB hid (T:=T) (sz:=sz) rfl trivial
theorem HRel.renewB [Bk] [Ev] {m:Nat→St} {A:Nat→Prop} {w w':World} (H:HRel m A h w) {id nx T sz b g:Nat} {els':List (List AV)} {cs':Array Value} {B:Blk} (hB:B.els=some (T,sz,els')) (hS:ScOk B) (hb:m id=.at b) (hnx:h nx=.no) (hgr:w.grownBy w' (some b)) (hg:g=b∨w.heap.size≤g) (hglt:g<w'.heap.size)
  (hw:w'.heap[g]?=some (.cells cs' T (0,0))) (h3:els'.length*sz≤cs'.size) (h4:∀e∈els',e.length=sz)
  (h5:∀(i j:Nat) (x:AV),at2 els' i j=some x→x.one=true∧Rd m A w x (cs'.getD (i*sz+j) Go.undef)) :
  HRel (sset (sset m id .dead) nx (.at g)) A (bset (bset h id .dead) nx B) w'∧Ext m w (sset (sset m id .dead) nx (.at g)) w':=by
 have hmnx:=H.no nx hnx
 have hne:nx≠id:=by rintro rfl;rw[hb]at hmnx;cases hmnx
 have hblt:=H.lt hb
 have get:∀k,k≠nx→k≠id→sset (sset m id .dead) nx (.at g) k=m k:=by intro k h1 h2;simp[sset,h1,h2]
 have gnx:sset (sset m id .dead) nx (.at g) nx=.at g:=by simp[sset]
 have gid:sset (sset m id .dead) nx (.at g) id=.dead:=by simp[sset,hne.symm]
 have old:∀k b',m k=.at b'→k≠id→b'≠b∧w'.heap[b']?=w.heap[b']?:=by
  intro k b' hk hki
  have hn:b'≠b:=by rintro rfl;exact hki (H.inj k id b' hk hb)
  exact⟨hn,hgr.block b' (H.lt hk) (by simpa using hn)⟩
 have E:Ext m w (sset (sset m id .dead) nx (.at g)) w':=by
  refine⟨hgr.os,hgr.tape,hgr.output,hgr.size,?_,?_,?_,?_,?_⟩
  ·intro k b' hk
   by_cases e1:k=id
   ·subst e1;exact .inr gid
   ·have e2:k≠nx:=by rintro rfl;rw[hmnx]at hk;cases hk
    exact .inl (by rw[get k e2 e1];exact hk)
  ·intro k hk
   have e1:k≠id:=by rintro rfl;rw[hb]at hk;cases hk
   have e2:k≠nx:=by rintro rfl;rw[hmnx]at hk;cases hk
   rw[get k e2 e1];exact hk
  ·intro k hk
   have e1:k≠id:=by rintro rfl;rw[hb]at hk;cases hk
   have e2:k≠nx:=by rintro rfl;rw[hmnx]at hk;cases hk
   exact .inl (by rw[get k e2 e1];exact hk)
  ·intro b' hb' hu
   have hn:b'≠b:=by rintro rfl;exact hu id hb
   refine⟨?_,hgr.block b' hb' (by simpa using hn)⟩
   intro k hk
   by_cases e2:k=nx
   ·subst e2;rw[gnx]at hk;cases hk;omega
   ·by_cases e1:k=id
    ·subst e1;rw[gid]at hk;cases hk
    ·rw[get k e2 e1]at hk;exact hu k hk
  ·intro k b' hk hk'
   have e1:k≠id:=by rintro rfl;rw[gid]at hk';cases hk'
   simp[rowSize,(old k b' hk e1).2]
 refine⟨⟨?_,fun b' hb'=>by have:=H.old b' hb';have:=hgr.size;omega,?_,?_,?_,?_,H.glob.ext H.out E,H.others_to E fun k B1 hk hB1=>?_,ScOk.set (ScOk.set H.scs trivial) hS⟩,E⟩
 ·intro k b' hk hA
  by_cases e2:k=nx
  ·subst e2;rw[gnx]at hk;cases hk
   rcases hg with rfl|hg
   ·exact H.out id _ hb hA
   ·have:=H.old _ hA;omega
  ·by_cases e1:k=id
   ·subst e1;rw[gid]at hk;cases hk
   ·rw[get k e2 e1]at hk;exact H.out k b' hk hA
 ·intro k hk
  by_cases e2:k=nx
  ·subst e2;rw[bset_same]at hk;exact absurd hk (Blk.els_no hB).1
  ·by_cases e1:k=id
   ·subst e1;simp[bset,e2]at hk
   ·rw[get k e2 e1];simp[bset,e2,e1]at hk;exact H.no k hk
 ·intro k hk
  by_cases e2:k=nx
  ·subst e2;rw[bset_same]at hk;exact absurd hk (Blk.els_no hB).2
  ·by_cases e1:k=id
   ·subst e1;exact gid
   ·rw[get k e2 e1];simp[bset,e2,e1]at hk;exact H.dead k hk
 ·intro k T' sz' els'' hk
  by_cases e2:k=nx
  ·subst e2
   rw[bset_same,hB]at hk
   cases hk
   exact .inr ⟨g,cs',gnx,hw,h3,h4,fun i j x hx=>⟨(h5 i j x hx).1,(h5 i j x hx).2.ext E⟩⟩
  ·by_cases e1:k=id
   ·subst e1;simp[bset,e2,Blk.els]at hk
   ·simp[bset,e2,e1]at hk
    obtain⟨g1,g2⟩|⟨b',cs,g1,g2,g3,g4,g5⟩:=H.arrs k T' sz' els'' hk
    ·exact .inl ⟨by rw[get k e2 e1];exact g1,g2⟩
    ·exact .inr ⟨b',cs,by rw[get k e2 e1];exact g1,by rw[(old k b' g1 e1).2];exact g2,g3,g4,fun i j x hx=>⟨(g5 i j x hx).1,(g5 i j x hx).2.ext E⟩⟩
 ·intro i j b' hi hj
  have key:∀k,sset (sset m id .dead) nx (.at g) k=.at b'→(k=nx∧b'=g)∨(k≠nx∧k≠id∧m k=.at b'):=by
   intro k hk
   by_cases e2:k=nx
   ·subst e2;rw[gnx]at hk;cases hk;exact .inl ⟨rfl,rfl⟩
   ·by_cases e1:k=id
    ·subst e1;rw[gid]at hk;cases hk
    ·rw[get k e2 e1]at hk;exact .inr ⟨e2,e1,hk⟩
  rcases key i hi with⟨a1,a2⟩|⟨a1,a2,a3⟩<;>rcases key j hj with⟨c1,c2⟩|⟨c1,c2,c3⟩
  ·rw[a1,c1]
  ·exfalso
   have:=(old j b' c3 c2).1
   have:=H.lt c3
   rcases hg with hg|hg<;>omega
  ·exfalso
   have:=(old i b' a3 a2).1
   have:=H.lt a3
   rcases hg with hg|hg<;>omega
  ·exact H.inj i j b' a3 c3
 ·by_cases e2:k=nx
  ·subst e2;simp only[bset,if_true]at hk;subst hk;rw[Blk.els_other hB]at hB1;cases hB1
  ·by_cases e1:k=id
   ·subst e1;simp only[bset,if_neg e2,if_true]at hk;subst hk;exact absurd hB1 (by simp[Blk.other])
   ·simp only[bset,if_neg e2,if_neg e1]at hk
    exact⟨hk,fun b' hb'=>⟨by rw[get k e2 e1];exact hb',(old k b' hb' e1).2⟩⟩
theorem HRel.renew [Bk] [Ev] {m:Nat→St} {A:Nat→Prop} {w w':World} (H:HRel m A h w) {id nx T sz b g:Nat} {els els':List (List AV)} {cs':Array Value} (hh:h id=.cells T sz els) (hb:m id=.at b) (hnx:h nx=.no) (hgr:w.grownBy w' (some b)) (hg:g=b∨w.heap.size≤g) (hglt:g<w'.heap.size)
  (hw:w'.heap[g]?=some (.cells cs' T (0,0))) (h3:els'.length*sz≤cs'.size) (h4:∀e∈els',e.length=sz)
  (h5:∀(i j:Nat) (x:AV),at2 els' i j=some x→x.one=true∧Rd m A w x (cs'.getD (i*sz+j) Go.undef)) :
  HRel (sset (sset m id .dead) nx (.at g)) A (bset (bset h id .dead) nx (.cells T sz els')) w'∧Ext m w (sset (sset m id .dead) nx (.at g)) w':=H.renewB rfl trivial hb hnx hgr hg hglt hw h3 h4 h5
theorem at2_append [Bk] [Ev] {xs ys:List (List AV)} {i j:Nat} {x:AV} (h:at2 (xs++ys) i j=some x):(i<xs.length∧at2 xs i j=some x)∨(xs.length≤i∧at2 ys (i-xs.length) j=some x):=by
 unfold at2 at *
 rcases Nat.lt_or_ge i xs.length with hl|hl
 ·rw[List.getElem?_append_left hl]at h;exact .inl ⟨hl,h⟩
 ·rw[List.getElem?_append_right hl]at h;exact .inr ⟨hl,h⟩
theorem rows_join [Bk] [Ev] {R:AV→Value→Prop} {xs ys:List (List AV)} {sz:Nat} (hx:∀e∈xs,e.length=sz) {us vs:List Value} (hl:us.length=xs.length*sz)
  (h1:∀(i j:Nat) (x:AV),at2 xs i j=some x→x.one=true∧R x (us.getD (i*sz+j) Go.undef)) (h2:∀(i j:Nat) (x:AV),at2 ys i j=some x→x.one=true∧R x (vs.getD (i*sz+j) Go.undef)) :
  ∀(i j:Nat) (x:AV),at2 (xs++ys) i j=some x→x.one=true∧R x ((us++vs).getD (i*sz+j) Go.undef):=by
 intro i j x h
 rcases at2_append h with⟨a,b⟩|⟨a,b⟩
 ·have hb:=at2_len b hx
  have:=h1 i j x b
  rw[List.getD,List.getElem?_append_left (by omega)]
  exact this
 ·have:=h2 _ _ _ b
  have hmul:xs.length*sz≤i*sz:=Nat.mul_le_mul_right _ a
  rw[List.getD,List.getElem?_append_right (by omega)]
  have e:i*sz+j-us.length=(i-xs.length)*sz+j:=by rw[hl,Nat.sub_mul];omega
  rw[e];exact this
theorem run_append_emp [Bk] [Ev] (a0:Option Addr) (t ty e:TypeId) (i:TypeInfo) (z:Value) (ht:P.underlying t=some (.slice e)) (hi:P.info? e=some i) (hz:i.zero=some z) (w:World)
  (a:Addr) (n c:Nat) (news:List Value) (hl:news.length=n*i.size) (hnews:∀j v,news[j]?=some v→w.cell? (a.add j)=some v)
  (h0:0<n) (h63:(n:Int)≤9223372036854775807) (h48:n*i.bytes≤140737488355328) :
  (Builtin.append_ #[t,t] ty #[.slice a0 0 0,.slice (some a) n c]).run P w =
   .ok (.slice (some ⟨w.heap.size,0,none⟩) n (grownCap w n 0 e)) (w.drew.alloc (.cells (news.toArray++Builtin.zeroCells z.cells (grownCap w n 0 e-n)) e)):=by
 cases a0 with
 |none=>exact run_append_nil w t ty e i z ht hi hz a n c news hl hnews h0 h63 (by omega)
 |some b =>
  have:=run_append_grow (P:=P) w t ty e i z ht hi hz b 0 0 [] (by simp) (by intro j v hv;simp at hv) a n c news hl hnews (by omega) (by simpa using h63) (by rw[Nat.zero_add,nextslicecap_zero h0];omega)
  simpa using this
theorem run_append_none [Bk] [Ev] (v:Value) (a0 a1:Option Addr) (n cap c1:Nat) (t ty e:TypeId) (i:TypeInfo) (ht:P.underlying t=some (.slice e)) (hi:P.info? e=some i) (w:World) (hn:n≤cap) (h0:a0=none→n=0) :
  (Builtin.append_ #[t,t] ty #[.slice a0 n cap,.slice a1 0 c1]).run P w=.ok (.slice a0 n cap) w:=by
 cases a0<;>cases a1<;>simp[Builtin.append_,run_underlying ht,sizeOf,typeInfo,hi,Builtin.lenOf,Builtin.firstCells,hn,storeCells,loadCells,loadCellsFrom]
def baseA (h:AH) (e sz:Nat):AV→Option (List (List AV)×List (Nat×Blk)×List Nat)
 | .emp=>some ([],[],[])
 | .own T s id 0 n=>match h id with
  | .cells T' s' els=>if T'=T∧s'=s∧T=e∧s=sz∧n=els.length then some (els,[(id,.dead)],[id])else none
  |_=>none
 |_=>none
theorem op_append [Bk] [Ev] {t e:TypeId} {x y:Operand} {els ys:List (List AV)} {k:List (Nat×Blk)} {rd:List Nat} {i:TypeInfo} {z:Value} {nx:Nat} (ho:o.op=.call { callee:=.builtin .append,args:=#[x,y],argTypes:=#[t,t] }) (ht:P.underlying t=some (.slice e)) (hi:P.info? e=some i) (hz:i.zero=some z) (hzs:z.cells.size=i.size) (hs0:0<i.size)
  (hx:baseA h e i.size (aev f x)=some (els,k,rd)) (hy:elsA h (aev f y)=some ys) (hys:∀q∈ys,q.length=i.size) (hyo:∀T s id j n,aev f y=.own T s id j n→s=i.size) (hb:(els.length+ys.length)*i.bytes≤140737488355328) (hm:els.length+ys.length≤1099511627776) (hnx:h nx=.no) :
  OpOk P o f h ⟨.own e i.size nx 0 (els.length+ys.length),k++[(nx,.cells e i.size (els++ys))],nx::rd++idOf (aev f y)⟩:=by
 intro m A w a H F
 have gx:=F.eval x
 have gy:=F.eval y
 obtain⟨a1,c1,hv1,hc1,hn1,news,hl,hnews,hone,hrd⟩:=src_ok H gy hy hys hyo
 have hexec:∀v w',(Builtin.append_ #[t,t] o.type #[a.eval x,a.eval y]).run P w=.ok v w'→(execOp a.eval o).run P w=.ok (.value v) w':=by
  intro v w' hr
  simp[execOp,ho,resolve,invoke,builtin,hr]
 have fresh:∀(m1:Nat→St) (h1:AH) (hk:upsB h (k++[(nx,.cells e i.size (els++ys))])=bset h1 nx (.cells e i.size ys)) (H1:HRel m1 A h1 w) (E1:Ext m w m1 w) (hnx1:h1 nx=.no) (a0:Option Addr) (hv0:a.eval x=.slice a0 0 0) (he:els=[]),
   ∃x' w' m',((execOp a.eval o).run P w=.ok (.value x') w'∨((execOp a.eval o).run P w=.ok .skip w'∧x'=Go.undef))∧HRel m' A (upsB h (k++[(nx,.cells e i.size (els++ys))])) w'∧Rd m' A w' (.own e i.size nx 0 (els.length+ys.length)) x'∧Ext m w m' w':=by
  intro m1 h1 hk H1 E1 hnx1 a0 hv0 he
  subst he
  rw[hk]
  rw[hv0,hv1]at hexec
  simp only[List.length_nil,Nat.zero_add]at hm hb ⊢
  by_cases hys0:ys=[]
  ·subst hys0
   have hr:=run_append_none (P:=P) (.slice a0 0 0) a0 a1 0 0 c1 t o.type e i ht hi w (Nat.le_refl _) (fun _=>rfl)
   obtain⟨q1,q2⟩:=H1.virtual hnx1 e i.size
   refine⟨_,w,_,.inl (hexec _ _ hr),q1,?_,E1.trans q2⟩
   exact .ownv e i.size nx 0 a0 (by simp[sset])
  ·have hpos:0<ys.length:=List.length_pos_iff.2 hys0
   obtain⟨ad,rfl⟩:∃ad,a1=some ad:=by
    cases a1 with
    |none=>exact absurd (hn1 rfl) hys0
    |some ad=>exact⟨ad,rfl⟩
   have hr:=run_append_emp (P:=P) a0 t o.type e i z ht hi hz w ad ys.length c1 news hl (fun j v hv=>hnews ad rfl j v hv) hpos (by omega) hb
   have hcap:ys.length≤grownCap w ys.length 0 e∧grownCap w ys.length 0 e≤maxLen:=by
    unfold grownCap Question.cut
    have:=Nat.mod_lt (w.tape w.drawn (.appendCap ys.length 0 e)) (show 0<2 ^ 63-ys.length by omega)
    simp only[maxLen]
    omega
   have hsize:(news.toArray++Builtin.zeroCells z.cells (grownCap w ys.length 0 e-ys.length)).size=grownCap w ys.length 0 e*i.size:=by
    simp only[Array.size_append,List.size_toArray,hl,Builtin.zeroCells,Array.size_map,Array.size_range,hzs]
    rw[←Nat.add_mul];congr 1;omega
   obtain⟨d1,d2⟩:=H1.drew
   obtain⟨q1,q2⟩:=d1.alloc (id:=nx) (T:=e) (sz:=i.size) (els:=ys) (cs:=news.toArray++Builtin.zeroCells z.cells (grownCap w ys.length 0 e-ys.length)) hnx1 (by rw[hsize];exact Nat.mul_le_mul_right _ hcap.1) hys (by
    intro i' j y hy'
    obtain⟨r1,r2⟩:=hrd i' j y hy'
    have hb2:=at2_len hy' hys
    have e1:(news.toArray++Builtin.zeroCells z.cells (grownCap w ys.length 0 e-ys.length)).getD (i'*i.size+j) Go.undef=news.getD (i'*i.size+j) Go.undef:=by
     have hlt:i'*i.size+j<news.length:=by omega
     simp[Array.getElem?_append,hlt,List.getD]
    rw[e1]
    exact⟨r1,(r2.ext E1).ext d2⟩)
   refine⟨_,_,_,.inl (hexec _ _ hr),q1,?_,(E1.trans d2).trans q2⟩
   have:=Rd.own (m:=sset m1 nx (.at w.drew.heap.size)) (A:=A) (w:=w.drew.alloc (.cells (news.toArray++Builtin.zeroCells z.cells (grownCap w ys.length 0 e-ys.length)) e)) e i.size nx 0 ys.length w.heap.size (grownCap w ys.length 0 e) (by simp[sset]) (by simp) hcap.1 hcap.2 (by
    rw[Nat.zero_add,←hsize]
    have:(w.drew.alloc (.cells (news.toArray++Builtin.zeroCells z.cells (grownCap w ys.length 0 e-ys.length)) e)).heap[w.heap.size]?=some (.cells (news.toArray++Builtin.zeroCells z.cells (grownCap w ys.length 0 e-ys.length)) e (0,0)):=by
     show(w.heap.push _)[w.heap.size]?=_
     simp
    unfold rowSize;rw[this])
   simpa using this
 unfold baseA at hx
 split at hx
 ·rename_i hax
  simp only[Option.some.injEq,Prod.mk.injEq]at hx
  obtain⟨rfl,rfl,rfl⟩:=hx
  rw[hax]at gx
  obtain⟨a0,hv0⟩:∃a0,a.eval x=.slice a0 0 0:=by
   generalize a.eval x=v at gx
   cases gx with|pure _ _ hr=>cases hr with|emp a0=>exact⟨a0,rfl⟩
  exact fresh m h (by simp[upsB]) H (Ext.refl _ _) hnx a0 hv0 rfl
 ·rename_i T s id n hax
  split at hx
  ·rename_i T' s' els0 hh
   split at hx
   ·rename_i hc
    obtain⟨rfl,rfl,rfl,rfl,rfl⟩:=hc
    simp only[Option.some.injEq,Prod.mk.injEq]at hx
    obtain⟨rfl,rfl,rfl⟩:=hx
    rw[hax]at gx
    have hne:nx≠id:=by rintro rfl;rw[hh]at hnx;cases hnx
    rcases H.cells id _ _ _ hh with⟨hv,rfl⟩|⟨b,cs,g1,g2,g3,g4,g5⟩
    ·obtain⟨a0,hv0⟩:∃a0,a.eval x=.slice a0 0 0:=by
      generalize a.eval x=v at gx
      cases gx with
      |pure _ _ h=>cases h
      |own _ _ _ _ _ b _ hm=>rw[hv]at hm;cases hm
      |ownv _ _ _ _ a hm=>exact⟨a,rfl⟩
      |ownd _ _ _ _ _ _ _ _ hm=>rw[hv]at hm;cases hm
     obtain⟨q1,q2⟩:=H.kill hv
     exact fresh _ (bset h id .dead) (by simp[upsB]) q1 q2 (by rw[bset_other h _ hne];exact hnx) a0 hv0 rfl
    ·obtain⟨cap,hv0,hn0,hcm,hrow⟩:=gx.at_own g1
     have hrow':cap*i.size=cs.size:=by rw[Nat.zero_add]at hrow;rw[hrow];simp[rowSize,g2]
     have hown:w.ownsRow 0 T' i.size (.slice (some ⟨b,0,none⟩) els0.length cap) els0.length (cs.toList.take (els0.length*i.size)):=by
      refine⟨by simp;omega,.inr ⟨b,cap,cs,rfl,Nat.zero_le _,g2,hn0,hcm,hrow'.symm,rfl⟩⟩
     rw[hv0,hv1]at hexec
     simp only[Nat.zero_mul]at hexec
     have hus:(cs.toList.take (els0.length*i.size)).length=els0.length*i.size:=by simp;omega
     have hrd0:∀(i' j:Nat) (y:AV),at2 els0 i' j=some y→y.one=true∧Rd m A w y ((cs.toList.take (els0.length*i.size)).getD (i'*i.size+j) Go.undef):=by
      intro i' j y hy'
      have hb2:=at2_len hy' g4
      have:=g5 i' j y hy'
      rw[List.getD,List.getElem?_take,if_pos hb2.2.2]
      simpa using this
     have hjoin:=rows_join (R:=Rd m A w) (ys:=ys) g4 (us:=cs.toList.take (els0.length*i.size)) (vs:=news) hus hrd0 hrd
     have hall:∀q∈els0++ys,q.length=i.size:=by
      intro q hq
      rcases List.mem_append.1 hq with h|h
      ·exact g4 q h
      ·exact hys q h
     have fin:∀(v':Value) (w':World),(Builtin.append_ #[t,t] o.type #[.slice (some ⟨b,0,none⟩) els0.length cap,.slice a1 ys.length c1]).run P w=.ok v' w'→w'.ownsRow 0 T' i.size v' (els0.length+ys.length) (cs.toList.take (els0.length*i.size)++news)→w.grownBy w' (some b) →
       (v'.ownBlock=some b∨v'.ownBlock=some w.heap.size) →
       ∃x' w' m',((execOp a.eval o).run P w=.ok (.value x') w'∨((execOp a.eval o).run P w=.ok .skip w'∧x'=Go.undef))∧HRel m' A (upsB h ([(id,.dead)]++[(nx,.cells T' i.size (els0++ys))])) w'∧Rd m' A w' (.own T' i.size nx 0 (els0.length+ys.length)) x'∧Ext m w m' w':=by
      intro v' w' hr ho' hgr hblk
      obtain⟨ho1,ho2|⟨g,cap',cur,rfl,-,hg,hnc,hcm',hcs,htake⟩⟩:=ho'
      ·obtain⟨rfl,-⟩:=ho2
       simp[Value.ownBlock]at hblk
      ·have hgg:g=b∨w.heap.size≤g:=by
        simp[Value.ownBlock]at hblk
        omega
       have hglt:g<w'.heap.size:=by
        rcases Nat.lt_or_ge g w'.heap.size with h|h
        ·exact h
        ·simp[Array.getElem?_eq_none h]at hg
       obtain⟨q1,q2⟩:=H.renew (els':=els0++ys) (nx:=nx) (g:=g) (cs':=cur) hh g1 hnx hgr hgg hglt hg (by rw[List.length_append,hcs];exact Nat.mul_le_mul_right _ hnc) hall (by
        intro i' j y hy'
        have hb2:=at2_len hy' hall
        obtain⟨r1,r2⟩:=hjoin i' j y hy'
        refine⟨r1,?_⟩
        have:(cs.toList.take (els0.length*i.size)++news).getD (i'*i.size+j) Go.undef=cur.getD (i'*i.size+j) Go.undef:=by
         rw[←htake,List.getD,List.getElem?_take,if_pos (by rw[←List.length_append];exact hb2.2.2)]
         simp
        rw[←this];exact r2)
       refine⟨_,w',_,.inl (hexec _ _ hr),by simpa[upsB]using q1,?_,q2⟩
       have:=Rd.own (m:=sset (sset m id .dead) nx (.at g)) (A:=A) (w:=w') T' i.size nx 0 (els0.length+ys.length) g cap' (by simp[sset]) hglt hnc hcm' (by rw[Nat.zero_add,←hcs];simp[rowSize,hg])
       simpa using this
     cases a1 with
     |none =>
      have:=hn1 rfl
      subst this
      have hr:=run_append_none (P:=P) (.slice (some ⟨b,0,none⟩) els0.length cap) (some ⟨b,0,none⟩) none els0.length cap c1 t o.type T' i ht hi w hn0 (by intro h;cases h)
      have hnil:news=[]:=by simpa using hl
      subst hnil
      refine fin _ _ hr ?_ ⟨rfl,rfl,rfl,Nat.le_refl _,fun _ _ _=>rfl⟩ (.inl rfl)
      simpa using hown
     |some ad =>
      obtain⟨v',w',r1,r2,r3,r4,r5⟩:=run_append_own_at (P:=P) w 0 t o.type T' i z i.size i.bytes ht hi hz rfl rfl hzs hs0 (.slice (some ⟨b,0,none⟩) els0.length cap) els0.length _ hown ad ys.length c1 news hl (fun j u hu=>hnews ad rfl j u hu) hone (by simp only[maxLen];omega) hb (Nat.zero_le _)
      exact fin v' w' r1 r2 r3 (by simpa[Value.ownBlock]using r5)
   ·cases hx
  ·cases hx
 ·cases hx
end
end Go.Proofs.Ytjccjmmbebiegaa.Mc
set_option linter.unusedVariables false
set_option linter.unusedSimpArgs false
namespace Go.Proofs.Ytjccjmmbebiegaa.Mc
open Go.RowKit
section
variable {P:Program} {o:Oper} {f:List AV} {h:AH}
theorem at2_replicate [Bk] [Ev] {n:Nat} {zc:List AV} {i j:Nat} {x:AV} (h:at2 (List.replicate n zc) i j=some x):i<n∧zc[j]?=some x:=by
 unfold at2 at h
 rw[List.getElem?_replicate]at h
 split at h
 ·rename_i hi;exact⟨hi,h⟩
 ·cases h
theorem own_new [Bk] [Ev] {m:Nat→St} {A:Nat→Prop} {w:World} (H:HRel m A h w) {nx T sz n cap:Nat} {els:List (List AV)} {cs:Array Value} (hnx:h nx=.no) (hl:els.length=n) (hn:n≤cap) (hc:cap≤maxLen) (hs:cs.size=cap*sz) (h4:∀e∈els,e.length=sz)
  (h5:∀(i j:Nat) (x:AV),at2 els i j=some x→x.one=true∧Rd m A w x (cs.getD (i*sz+j) Go.undef)) :
  HRel (sset m nx (.at w.heap.size)) A (bset h nx (.cells T sz els)) (w.alloc (.cells cs T))∧Ext m w (sset m nx (.at w.heap.size)) (w.alloc (.cells cs T))∧Rd (sset m nx (.at w.heap.size)) A (w.alloc (.cells cs T)) (.own T sz nx 0 n) (.slice (some ⟨w.heap.size,0,none⟩) n cap):=by
 subst hl
 obtain⟨q1,q2⟩:=H.alloc (id:=nx) (T:=T) (sz:=sz) (els:=els) (cs:=cs) hnx (by rw[hs];exact Nat.mul_le_mul_right _ hn) h4 h5
 refine⟨q1,q2,?_⟩
 have:=Rd.own (m:=sset m nx (.at w.heap.size)) (A:=A) (w:=w.alloc (.cells cs T)) T sz nx 0 els.length w.heap.size cap (by simp[sset]) (by simp) hn hc (by
  rw[Nat.zero_add,←hs]
  have:(w.alloc (.cells cs T)).heap[w.heap.size]?=some (.cells cs T (0,0)):=by
   show(w.heap.push _)[w.heap.size]?=_
   simp
  unfold rowSize;rw[this])
 simpa using this
theorem op_makeSlice [Bk] [Ev] {t e:TypeId} {x y:Operand} {i:TypeInfo} {z:Value} {zc:List AV} {nx:Nat} {k k':IntKind} {l c:Int} (ho:o.op=.makeSlice t x y) (ht:P.underlying t=some (.slice e)) (hi:P.info? e=some i) (hz:i.zero=some z) (hzc:cellsA (ofC z)=some zc) (hzs:zc.length=i.size)
  (hx:aev f x=.c (.int k l)) (hy:aev f y=.c (.int k' c)) (h0:0≤l) (hlc:l≤c) (hb:(i.bytes:Int)*c≤281474976710656) (hc:c≤1099511627776) (hnx:h nx=.no) :
  OpOk P o f h ⟨.own e i.size nx 0 l.toNat,[(nx,.cells e i.size (List.replicate l.toNat zc))],[nx]⟩:=by
 intro m A w a H F
 have g1:=F.eval x
 rw[hx]at g1
 have g2:=F.eval y
 rw[hy]at g2
 have hr:=run_make (P:=P) w t e i z ht hi hz k k' l c h0 hlc hb (by omega)
 have hcr:CR (Rd m A w) zc z.cells:=CR_cells (.pure _ _ (RdL_ofC _ w z)) hzc
 have hsz:(madeCells z.cells (c.toNat*i.size)).size=c.toNat*i.size:=by simp[madeCells]
 obtain⟨q1,q2,q3⟩:=own_new H (T:=e) (sz:=i.size) (n:=l.toNat) (cap:=c.toNat) (els:=List.replicate l.toNat zc) (cs:=madeCells z.cells (c.toNat*i.size)) hnx (by simp) (by omega) (by simp only[maxLen];omega) hsz (by intro e he;rw[(List.mem_replicate.1 he).2];exact hzs) (by
  intro i' j x' hx'
  obtain⟨r1,r2⟩:=at2_replicate hx'
  obtain⟨r3,r4⟩:=hcr.2 _ _ r2
  have hj:j<i.size:=by rw[←hzs];exact(List.getElem?_eq_some_iff.1 r2).1
  have hzz:z.cells.size=i.size:=hcr.1.trans hzs
  have hlt:i'*i.size+j<c.toNat*i.size:=by
   have:(i'+1)*i.size≤c.toNat*i.size:=Nat.mul_le_mul_right _ (by omega)
   rw[Nat.succ_mul]at this;omega
  have hmod:(i'*i.size+j)%z.cells.size=j:=by rw[hzz,Nat.mul_comm,Nat.mul_add_mod,Nat.mod_eq_of_lt hj]
  have:(madeCells z.cells (c.toNat*i.size)).getD (i'*i.size+j) Go.undef=z.cells.getD j Go.undef:=by
   have hj2:j<z.cells.size:=by omega
   simp[madeCells,hlt,hmod,hj2]
  rw[this]
  exact⟨r3,r4⟩)
 refine⟨_,_,_,.inl ?_,by simpa[upsB]using q1,q3,q2⟩
 simp[execOp,ho,g1.c_inv,g2.c_inv,hr]
def chunk {α:Type} (sz:Nat):Nat→List α→List (List α)
 |0,_=>[]
 |n+1,l=>l.take sz::chunk sz n (l.drop sz)
theorem chunk_len [Bk] [Ev] {α:Type} (sz:Nat):∀(n:Nat) (l:List α),(chunk sz n l).length=n
 |0,_=>rfl
 |n+1,l=>by simp[chunk,chunk_len sz n]
theorem chunk_each [Bk] [Ev] {α:Type} (sz:Nat):∀(n:Nat) (l:List α),l.length=n*sz→∀e∈chunk sz n l,e.length=sz
 |0,_,_,e,he=>by simp[chunk]at he
 |n+1,l,hl,e,he=>by
  rw[Nat.succ_mul]at hl
  simp only[chunk,List.mem_cons]at he
  rcases he with rfl|he
  ·simp;omega
  ·exact chunk_each sz n (l.drop sz) (by simp;omega) e he
theorem chunk_at2 [Bk] [Ev] (sz:Nat):∀(n:Nat) (l:List AV) (i j:Nat) (x:AV),at2 (chunk sz n l) i j=some x→l[i*sz+j]?=some x
 |0,_,i,j,x,h=>by simp[chunk,at2]at h
 |n+1,l,0,j,x,h=>by
  simp only[chunk,at2,List.getElem?_cons_zero,Option.bind_some]at h
  rw[List.getElem?_take]at h
  split at h
  ·rw[Nat.zero_mul,Nat.zero_add];exact h
  ·cases h
 |n+1,l,i+1,j,x,h=>by
  have:=chunk_at2 sz n (l.drop sz) i j x (by simpa[chunk,at2]using h)
  rw[List.getElem?_drop]at this
  rw[Nat.succ_mul]
  rw[←this];congr 1;omega
theorem CR_zeros [Bk] [Ev] {m:Nat→St} {A:Nat→Prop} {w:World} {zc:List AV} {z:Value} (hc:CR (Rd m A w) zc z.cells) (n:Nat):CR (Rd m A w) ((List.replicate n zc).flatten) ((Array.range (n*zc.length)).map (z.cells[·%z.cells.size]!)):=by
 have hl:((List.replicate n zc).flatten).length=n*zc.length:=by simp
 refine⟨by simp,?_⟩
 intro k x hx
 have hk:k<n*zc.length:=by rw[←hl];exact(List.getElem?_eq_some_iff.1 hx).1
 have h0:0<zc.length:=by
  rcases Nat.eq_zero_or_pos zc.length with h|h
  ·rw[h]at hk;simp at hk
  ·exact h
 have hmod:=Nat.mod_lt k h0
 have key:∀(n k:Nat),k<n*zc.length→((List.replicate n zc).flatten)[k]?=zc[k%zc.length]?:=by
  intro n
  induction n with
  |zero=>intro k hk;simp at hk
  |succ n ih =>
   intro k hk
   rw[List.replicate_succ,List.flatten_cons]
   rcases Nat.lt_or_ge k zc.length with h|h
   ·rw[List.getElem?_append_left h,Nat.mod_eq_of_lt h]
   ·rw[List.getElem?_append_right h,ih _ (by rw[Nat.succ_mul]at hk;omega),←Nat.mod_eq_sub_mod h]
 rw[key n k hk]at hx
 obtain⟨r1,r2⟩:=hc.2 _ _ hx
 refine⟨r1,?_⟩
 have hs:=hc.1
 have:((Array.range (n*zc.length)).map (z.cells[·%z.cells.size]!)).getD k Go.undef=z.cells.getD (k%zc.length) Go.undef:=by
  simp[hk,hs,hmod]
 rw[this];exact r2
theorem op_buildSlice [Bk] [Ev] {t e:TypeId} {len:Nat} {parts:Array (Nat×Operand)} {i:TypeInfo} {z:Value} {zc cs:List AV} {nx:Nat} (ho:o.op=.buildSlice t len parts) (ht:P.underlying t=some (.slice e)) (hi:P.info? e=some i) (hz:i.zero=some z) (hzc:cellsA (ofC z)=some zc) (hzs:zc.length=i.size) (hs0:0<i.size) (hl0:0<len) (hsm:len*i.size≤16777216)
  (hf:fillA (fun k=>some (k*i.size,i.size)) ((List.replicate len zc).flatten) (parts.toList.map fun p=>(p.1,aev f p.2))=some cs) (hnx:h nx=.no) :
  OpOk P o f h ⟨.own e i.size nx 0 len,[(nx,.cells e i.size (chunk i.size len cs))],[nx]⟩:=by
 intro m A w a H F
 have hcr:CR (Rd m A w) zc z.cells:=CR_cells (.pure _ _ (RdL_ofC _ w z)) hzc
 have hz0:=CR_zeros hcr len
 rw[hzs]at hz0
 obtain⟨us,hu,hcu⟩:=fillA_ok _ _ (parts.map fun p=>(p.1,a.eval p.2)).toList _ _ _ hz0 (by simp) (parts_rel F parts) hf
 have hfl:∀(ps:List (Nat×AV)) (c0:List AV) (out:List AV),fillA (fun k=>some (k*i.size,i.size)) c0 ps=some out→out.length=c0.length:=by
  intro ps
  induction ps with
  |nil=>intro c0 out h;simp only[fillA,Option.some.injEq]at h;rw[h]
  |cons p ps ih =>
   intro c0 out h
   simp only[fillA]at h
   split at h
   ·rename_i off size xs h1 h2
    split at h
    ·rename_i hc
     rw[ih _ _ h,splice_len hc.2]
    ·cases h
   ·cases h
 have hcl:cs.length=len*i.size:=by rw[hfl _ _ _ hf];simp[hzs]
 have hr:=run_buildSlice (P:=P) w t e len (parts.map fun p=>(p.1,a.eval p.2)) us i z ht hi hz (by omega) (by have:=Nat.mul_pos hl0 hs0;omega) hu
 obtain⟨q1,q2,q3⟩:=own_new H (T:=e) (sz:=i.size) (n:=len) (cap:=len) (els:=chunk i.size len cs) (cs:=us) hnx (chunk_len _ _ _) (Nat.le_refl _) (by
   have:len≤len*i.size:=Nat.le_mul_of_pos_right _ hs0
   simp only[maxLen];omega) (by rw[hcu.1,hcl]) (chunk_each _ _ _ hcl) (by
  intro i' j x hx
  exact hcu.2 _ _ (chunk_at2 _ _ _ _ _ _ hx))
 refine⟨_,_,_,.inl ?_,by simpa[upsB]using q1,q3,q2⟩
 simp[execOp,ho,hr]
def bndR (ρ:Operand→AV) (d:Nat):Option Operand→Option Nat
 |none=>some d
 |some x=>match ρ x with
  | .c (.int _ n)=>if 0≤n then some n.toNat else none
  |_=>none
theorem bndA_ok [Bk] [Ev] {m:Nat→St} {A:Nat→Prop} {w:World} {a:Act} (F:FRel m A w f a) {d n:Nat} {x:Operand} (hb:bndR (aev f) d (some x)=some n):∃k,a.eval x=.int k (n:Int):=by
 simp only[bndR]at hb
 have h1:=F.eval x
 split at hb
 ·rename_i k v hv
  split at hb
  ·rename_i h0
   cases hb
   rw[hv]at h1
   exact⟨k,by rw[h1.c_inv,Int.toNat_of_nonneg h0]⟩
  ·cases hb
 ·cases hb
theorem run_slice_bounds [Bk] [Ev] {m:Nat→St} {A:Nat→Prop} {w:World} {a:Act} (F:FRel m A w f a) {t:TypeId} (ht:P.underlying t=some (.slice (P.elem t))) {ti:TypeInfo} (hp:P.info? (P.elem t)=some ti) {lo hi:Option Operand} {l u len cap:Nat} (hlo:bndR (aev f) 0 lo=some l) (hhi:bndR (aev f) len hi=some u) (h1:l≤u) (h2:u≤len) (hc:len≤cap) (ad:Option Addr) :
  (Instr.sliceAt t (.slice ad len cap) (lo.map a.eval) (hi.map a.eval) none).run P w=.ok (sliced ad l u cap ti.size) w:=by
 rw[run_sliceAt_slice (P:=P) w t _ _ _ _ ht]
 cases lo with
 |none =>
  simp only[bndR,Option.some.injEq]at hlo
  subst hlo
  cases hi with
  |none =>
   simp only[bndR,Option.some.injEq]at hhi
   subst hhi
   simp[run_slice_all (P:=P) w t ad len cap ht,sizeOf,typeInfo,hp]
  |some x =>
   obtain⟨k,hk⟩:=bndA_ok F hhi
   simp[hk,run_slice_h (P:=P) w t ad len cap ht k (u:Int) (by omega) (by omega),sizeOf,typeInfo,hp]
 |some y =>
  obtain⟨k',hk'⟩:=bndA_ok F hlo
  cases hi with
  |none =>
   simp only[bndR,Option.some.injEq]at hhi
   subst hhi
   simp[hk',run_slice_l (P:=P) w t ad len cap ht k' (l:Int) (by omega) (by omega),sizeOf,typeInfo,hp]
  |some x =>
   obtain⟨k,hk⟩:=bndA_ok F hhi
   simp[hk,hk',run_slice_lh (P:=P) w t ad len cap ht k' k (l:Int) (u:Int) (by omega) (by omega) (by omega),sizeOf,typeInfo,hp]
theorem op_slice_lit [Bk] [Ev] {t:TypeId} {x:Operand} {lo hi:Option Operand} {sz l u:Nat} {els:List (List AV)} (ho:o.op=.slice t x lo hi none) (ht:P.underlying t=some (.slice (P.elem t))) (hs:(P.info? (P.elem t)).map (·.size)=some sz) (hx:aev f x=.lit sz els) (hlo:bndR (aev f) 0 lo=some l) (hhi:bndR (aev f) els.length hi=some u) (h1:l≤u) (h2:u≤els.length) :
  OpOk P o f h ⟨.lit sz ((els.drop l).take (u-l)),[],[]⟩:=by
 refine op_pure fun m A w a H F=>?_
 have g:=F.eval x
 rw[hx]at g
 cases hp:P.info? (P.elem t)with
 |none=>simp[hp]at hs
 |some ti =>
  simp only[hp,Option.map_some,Option.some.injEq]at hs
  subst hs
  have hlen:((els.drop l).take (u-l)).length=u-l:=by simp;omega
  obtain⟨rfl,ad,cap,hv⟩|⟨b,off,cap,vs,hv,hA,hb,hc,hsz,k1,kv,kr⟩:=g.lit_inv
  ·have hr:=run_slice_bounds (P:=P) F ht hp hlo hhi h1 h2 (cap:=cap) (by simp) ad
   simp only[List.length_nil]at h2 hr
   have:l=0∧u=0:=by omega
   obtain⟨rfl,rfl⟩:=this
   exact⟨_,by simp[execOp,ho,hv,hr];rfl,.pure _ _ (by simp only[sliced,List.drop_nil,List.take_nil,Nat.sub_self];exact .lit0 _ _ _ (by rw[hv]at g;exact Nat.le_trans (Nat.sub_le _ _) g.lit_max))⟩
  ·have hr:=run_slice_bounds (P:=P) F ht hp hlo hhi h1 h2 hc (some ⟨b,off,none⟩)
   refine⟨_,by simp[execOp,ho,hv,hr];rfl,.pure _ _ ?_⟩
   unfold sliced
   by_cases hlu:l=u
   ·subst hlu
    simp only[Nat.sub_self,List.take_zero]
    exact .lit0 _ _ _ (by rw[hv]at g;exact Nat.le_trans (Nat.sub_le _ _) g.lit_max)
   ·rw[if_neg (by omega)]
    have:=RdL.lit (A:=Av m A) (w:=w) ti.size ((els.drop l).take (u-l)) b (off+l*ti.size) (cap-l) (fun i j=>vs (l+i) j) hA hb ⟨by rw[hlen];omega,by rw[hv]at g;exact Nat.le_trans (Nat.sub_le _ _) g.lit_max⟩ (fun e he=>hsz e (List.mem_of_mem_drop (List.mem_of_mem_take he))) (fun i j y hy=>k1 _ _ _ (drop_at2 hy).2)
     (fun i j y hy=>by have:=kv _ _ _ (drop_at2 hy).2;rw[←this];congr 2;rw[Nat.add_mul];omega) (fun i j y hy=>kr _ _ _ (drop_at2 hy).2)
    rw[hlen]at this
    simpa[addr_add]using this
theorem op_slice_own [Bk] [Ev] {t:TypeId} {x:Operand} {lo hi:Option Operand} {T sz id i n l u:Nat} {els:List (List AV)} (ho:o.op=.slice t x lo hi none) (ht:P.underlying t=some (.slice (P.elem t))) (hs:(P.info? (P.elem t)).map (·.size)=some sz) (hx:aev f x=.own T sz id i n) (hh:h id=.cells T sz els) (hne:els≠[]) (hlo:bndR (aev f) 0 lo=some l) (hhi:bndR (aev f) n hi=some u) (h1:l≤u) (h2:u≤n) (h3:l=0∨l<n) :
  OpOk P o f h ⟨.own T sz id (i+l) (u-l),[],[id]⟩:=by
 refine op_pure fun m A w a H F=>?_
 have g:=F.eval x
 rw[hx]at g
 cases hp:P.info? (P.elem t)with
 |none=>simp[hp]at hs
 |some ti =>
  simp only[hp,Option.map_some,Option.some.injEq]at hs
  subst hs
  obtain⟨e,r,rfl⟩:=List.exists_cons_of_ne_nil hne
  obtain⟨b,cs,g1,-⟩:=H.block (i:=0) hh rfl
  obtain⟨cap,hv,hn,hcm,hrow⟩:=g.at_own g1
  have hr:=run_slice_bounds (P:=P) F ht hp hlo hhi h1 h2 hn (some ⟨b,i*ti.size,none⟩)
  refine⟨_,by simp[execOp,ho,hv,hr];rfl,?_⟩
  have ha:sliced (some ⟨b,i*ti.size,none⟩) l u cap ti.size=.slice (some ⟨b,(i+l)*ti.size,none⟩) (u-l) (cap-l):=by
   unfold sliced
   rcases h3 with rfl|h3
   ·split<;>simp[addr_add]
   ·rw[if_neg (by omega)];simp[addr_add,Nat.add_mul]
  rw[ha]
  exact .own T ti.size id (i+l) (u-l) b (cap-l) g1 (H.lt g1) (by omega) (by omega) (by rw[←hrow];congr 1;omega)
theorem op_slice_str [Bk] [Ev] {t:TypeId} {x:Operand} {lo hi:Option Operand} {s:ByteArray} {l u:Nat} (ho:o.op=.slice t x lo hi none) (ht:P.underlying t=some .string) (hx:aev f x=.c (.string s)) (hlo:bndR (aev f) 0 lo=some l) (hhi:bndR (aev f) s.size hi=some u) (h1:l≤u) (h2:u≤s.size) :
  OpOk P o f h ⟨.c (.string (s.extract l u)),[],[]⟩:=by
 refine op_pure fun m A w a H F=>?_
 have g:=F.eval x
 rw[hx]at g
 refine⟨_,?_,.pure _ _ (.c _)⟩
 cases lo with
 |none =>
  simp only[bndR,Option.some.injEq]at hlo
  subst hlo
  cases hi with
  |none =>
   simp only[bndR,Option.some.injEq]at hhi
   subst hhi
   simp[execOp,ho,g.c_inv,Instr.sliceAt,run_underlying ht,Instr.slice,Instr.sliceBounds]
  |some y =>
   obtain⟨k,hk⟩:=bndA_ok F hhi
   simp[execOp,ho,g.c_inv,Instr.sliceAt,run_underlying ht,Instr.slice,Instr.sliceBounds,hk,run_sliceBound,h2]
 |some y =>
  obtain⟨k',hk'⟩:=bndA_ok F hlo
  cases hi with
  |none =>
   simp only[bndR,Option.some.injEq]at hhi
   subst hhi
   simp[execOp,ho,g.c_inv,Instr.sliceAt,run_underlying ht,Instr.slice,Instr.sliceBounds,hk',run_sliceBound,h1]
  |some y =>
   obtain⟨k,hk⟩:=bndA_ok F hhi
   simp[execOp,ho,g.c_inv,Instr.sliceAt,run_underlying ht,Instr.slice,Instr.sliceBounds,hk,hk',run_sliceBound,h1,h2]
def concB (d:TypeDesc):Bool:=match d with | .interface _=>false|_=>true
theorem op_typeAssert [Bk] [Ev] {x:Operand} {xt asserted t:TypeId} {v:AV} {d:TypeDesc} {z:Value} {i:TypeInfo} {ok:Bool} (ho:o.op=.typeAssert x xt asserted ok) (hx:aev f x=.ifc t v) (hu:P.underlying asserted=some d) (hd:concB d=true) (hi:P.info? asserted=some i) (hz:i.zero=some z) (hok:t=asserted∨ok=true) :
  OpOk P o f h ⟨if t=asserted then(if ok then .tup [v,.c (.bool true)]else v)else .tup [ofC z,.c (.bool false)],[],[]⟩:=by
 refine op_pure fun m A w a H F=>?_
 have g:=F.eval x
 rw[hx]at g
 obtain⟨u,hu',hr⟩:∃u,a.eval x=.iface t u∧Rd m A w v u:=by
  generalize a.eval x=q at g
  cases g with
  |pure _ _ h=>cases h with|ifc _ _ u hr=>exact⟨u,rfl,.pure _ _ hr⟩
  |ifc _ _ u hr=>exact⟨u,rfl,hr⟩
 have tup2:∀(p:AV) (q:Value) (b:Bool),Rd m A w p q→Rd m A w (.tup [p,.c (.bool b)]) (.tuple #[q,.bool b]):=by
  intro p q b hpq
  refine .tup _ _ rfl ?_
  intro k y hk
  match k,hk with
  |0,hk=>simp at hk;subst hk;exact hpq
  |1,hk=>simp at hk;subst hk;exact .pure _ _ (.c _)
 by_cases he:t=asserted
 ·rw[if_pos he]
  subst he
  cases ok
  ·exact⟨u,by cases d<;>simp[concB]at hd<;>simp[execOp,ho,hu',Instr.typeAssert,run_underlying hu],hr⟩
  ·exact⟨.tuple #[u,.bool true],by cases d<;>simp[concB]at hd<;>simp[execOp,ho,hu',Instr.typeAssert,run_underlying hu],tup2 _ _ _ hr⟩
 ·rw[if_neg he]
  have hok':ok=true:=by rcases hok with h|h;exact absurd h he;exact h
  subst hok'
  exact⟨.tuple #[z,.bool false],by cases d<;>simp[concB]at hd<;>simp[execOp,ho,hu',Instr.typeAssert,run_underlying hu,he,zeroValue,typeInfo,hi,hz],tup2 _ _ _ (.pure _ _ (RdL_ofC _ w z))⟩
def isCst:Operand→Bool
 | .const _=>true
 |_=>false
def isFaceB (P:Program) (t:TypeId):Bool:=match P.underlying t with|some (.interface _)=>true|_=>false
def isFuncB (P:Program) (t:TypeId):Bool:=match P.underlying t with|some (.func _ _ _)=>true|_=>false
theorem face_of [Bk] [Ev] {t:TypeId} (h:isFaceB P t=true):∃ms,P.underlying t=some (.interface ms):=by
 unfold isFaceB at h;split at h
 ·rename_i ms hm;exact⟨ms,hm⟩
 ·cases h
theorem func_of [Bk] [Ev] {t:TypeId} (h:isFuncB P t=true):∃a b c,P.underlying t=some (.func a b c):=by
 unfold isFuncB at h;split at h
 ·rename_i a b c hm;exact⟨a,b,c,hm⟩
 ·cases h
def eqFs [Bk] (P:Program) (r:TypeId→AV→AV→Option Bool) (xs ys:List AV):List Field→Option Bool
 |[]=>some true
 | f :: fs => if f.name ≠ "_" then match partA P f.type xs f.offset, partA P f.type ys f.offset with
   |some a,some b=>match r f.type a b with
    |some true=>eqFs P r xs ys fs
    |some false=>some false
    |none=>none
   |_,_=>none
  else eqFs P r xs ys fs
def eqEs [Bk] (P:Program) (r:TypeId→AV→AV→Option Bool) (e:TypeId) (s:Nat) (xs ys:List AV) (k:Nat):Nat→Option Bool
 |0=>some true
 |n+1=>match partA P e xs (k*s),partA P e ys (k*s)with
  |some a,some b=>match r e a b with
   |some true=>eqEs P r e s xs ys (k+1) n
   |some false=>some false
   |none=>none
  |_,_=>none
def eqA [Bk] (P:Program):Nat→TypeId→AV→AV→Option Bool
 |0,_,_,_=>none
 |d+1,t,x,y=>match P.underlying t with
  |some .bool=>match x,y with
   | .c (.bool a),.c (.bool b)=>some (a==b)
   |_,_=>none
  |some (.int _)=>match x,y with
   | .c (.int k a),.c (.int k' b)=>if k=k' then some (a==b)else none
   |x,y=>match toP x,toP y with
    |some p,some q=>eqB (psub p q)
    |_,_=>none
  |some .string=>match x,y with
   | .c (.string a),.c (.string b)=>some (a.toList==b.toList)
   |_,_=>none
  |some (.struct fs)=>match x,y with
   | .agg xs,.agg ys=>if P.stoodInHeld t then none else eqFs P (eqA P d) xs ys fs.toList
   |_,_=>none
  |some (.array len e)=>match x,y with
   | .agg xs,.agg ys=>match P.info? e with
    |some i=>eqEs P (eqA P d) e i.size xs ys 0 len
    |none=>none
   |_,_=>none
  |_=>none
def arrBody (d:Nat) (e:TypeId) (s:Nat) (xs ys:Array Value) (k:Nat) (_:Option Bool×Unit):Sem (ForInStep (Option Bool×Unit)):=do
 let a ←part e xs (k*s)
 let b ←part e ys (k*s)
 let r ←Op.equalIn d e a b
 if r=false then pure (.done (some false,()))else pure (.yield (none,()))
theorem run_equalIn_arr [Bk] [Ev] (d:Nat) (t e:TypeId) (len:Nat) (xs ys:Array Value) (w:World) (ht:P.underlying t=some (.array len e)) (i:TypeInfo) (hi:P.info? e=some i) :
  (Op.equalIn (d+1) t (.agg xs) (.agg ys)).run P w=((forIn (List.range' 0 len) ((none:Option Bool),()) (fun k s=>arrBody d e i.size xs ys k s)).run P w).andThen fun a w'=>(match a.1 with|some r=>pure r|none=>pure true:Sem Bool).run P w':=by
 simp only[Op.equalIn,Sem.run_bind,run_underlying ht,Result.andThen_ok]
 simp[sizeOf,typeInfo,hi,arrBody]
 congr 1
 congr 2
 funext k s
 congr 1
 obtain⟨k1,-⟩:=k
 cases k1<;>rfl
theorem eqA_ok [Bk] [Ev] {m:Nat→St} {A:Nat→Prop} {w:World}:∀(d:Nat) (t:TypeId) (x y:AV) (u v:Value) (b:Bool),eqA P d t x y=some b→Rd m A w x u→Rd m A w y v→(Op.equalIn d t u v).run P w=.ok b w
 |0,t,x,y,u,v,b,h,_,_=>by simp[eqA]at h
 |d+1,t,x,y,u,v,b,h,hx,hy=>by
  have ih:=fun t x y u v b=>eqA_ok (m:=m) (A:=A) (w:=w) d t x y u v b
  unfold eqA at h
  split at h
  ·rename_i hu
   split at h
   ·cases h;rw[hx.c_inv,hy.c_inv];exact run_equalIn_bool d hu w
   ·cases h
  ·rename_i k0 hu
   split at h
   ·split at h
    ·rename_i hk;subst hk;cases h;rw[hx.c_inv,hy.c_inv];exact run_equalIn_int w d t _ k0 _ _ hu
    ·cases h
   ·split at h
    ·rename_i p q hp hq
     rw[toP_ok hp hx,toP_ok hq hy,run_equalIn_int w d t _ k0 _ _ hu]
     have k:=eqB_ok h
     rw[pev_psub]at k
     have e:(pev Ev.rho p==pev Ev.rho q)=b:=by rw[k,Bool.eq_iff_iff];simp<;>omega
     rw[e]
    ·cases h
  ·rename_i hu
   split at h
   ·cases h;rw[hx.c_inv,hy.c_inv];exact run_equalIn_string w d t _ _ hu
   ·cases h
  ·rename_i fs hu
   split at h
   ·rename_i xs ys
    split at h
    ·cases h
    ·rename_i hst
     obtain⟨vs,rfl,cx⟩:=hx.agg_inv
     obtain⟨us,rfl,cy⟩:=hy.agg_inv
     have hfs:P.fieldsOf t=fs:=by unfold Program.fieldsOf;rw[hu]
     rw[run_equalIn_struct w d t vs us (by rw[hfs];exact hu) (by simpa using hst),hfs]
     revert h
     generalize fs.toList=l
     intro h
     induction l generalizing b with
     |nil=>simp[eqFs]at h;subst h;simp[Op.eqFields]
     |cons f l ihl =>
      simp only[eqFs]at h
      simp only[Op.eqFields]
      split at h
      ·rename_i hn
       rw[if_pos hn]
       split at h
       ·rename_i a c ha hc
        obtain⟨p,p1,p2⟩:=part_ok (P:=P) cx ha
        obtain⟨q,q1,q2⟩:=part_ok (P:=P) cy hc
        simp only[Sem.run_bind,p1,q1,Result.andThen_ok]
        split at h
        ·rename_i he
         rw[ih f.type a c p q true he p2 q2]
         simpa using ihl b h
        ·rename_i he
         cases h
         rw[ih f.type a c p q false he p2 q2]
         simp
        ·cases h
       ·cases h
      ·rename_i hn
       rw[if_neg hn]
       exact ihl b h
   ·cases h
  ·rename_i len e hu
   split at h
   ·rename_i xs ys
    split at h
    ·rename_i i hi
     obtain⟨vs,rfl,cx⟩:=hx.agg_inv
     obtain⟨us,rfl,cy⟩:=hy.agg_inv
     rw[run_equalIn_arr d t e len vs us w hu i hi]
     have key:∀(n k:Nat) (b:Bool),eqEs P (eqA P d) e i.size xs ys k n=some b→((forIn (List.range' k n) ((none:Option Bool),()) (arrBody d e i.size vs us)).run P w)=.ok (if b then none else some false,()) w:=by
      intro n
      induction n with
      |zero=>intro k b h;simp[eqEs]at h;subst h;simp
      |succ n ihn =>
       intro k b h
       simp only[eqEs]at h
       rw[List.range'_succ,List.forIn_cons]
       split at h
       ·rename_i a c ha hc
        obtain⟨p,p1,p2⟩:=part_ok (P:=P) cx ha
        obtain⟨q,q1,q2⟩:=part_ok (P:=P) cy hc
        simp only[arrBody,Sem.run_bind,p1,q1,Result.andThen_ok]
        split at h
        ·rename_i he
         rw[ih e a c p q true he p2 q2]
         simp only[Result.andThen_ok,Bool.true_eq_false,if_false,Sem.run_pure]
         exact ihn (k+1) b h
        ·rename_i he
         cases h
         rw[ih e a c p q false he p2 q2]
         simp
        ·cases h
       ·cases h
     rw[key len 0 b h]
     cases b<;>simp
    ·cases h
   ·cases h
  ·cases h
theorem eqA_more [Bk] [Ev]:∀(d:Nat) (t:TypeId) (x y:AV) (b:Bool),eqA P d t x y=some b→eqA P (d+1) t x y=some b
 |0,t,x,y,b,h=>by simp[eqA]at h
 |d+1,t,x,y,b,h=>by
  have ih:=fun t x y b=>eqA_more d t x y b
  have fsm:∀(xs ys:List AV) (l:List Field) (b:Bool),eqFs P (eqA P d) xs ys l=some b→eqFs P (eqA P (d+1)) xs ys l=some b:=by
   intro xs ys l
   induction l with
   |nil=>intro b h;simpa[eqFs]using h
   |cons f l ihl =>
    intro b h
    simp only[eqFs]at h ⊢
    split at h
    ·rename_i hn
     rw[if_pos hn]
     split at h
     ·rename_i a c ha hc
      try simp only[ha,hc]
      split at h
      ·rename_i he;rw[ih _ _ _ _ he];exact ihl b h
      ·rename_i he;cases h;rw[ih _ _ _ _ he]
      ·cases h
     ·cases h
    ·rename_i hn
     rw[if_neg hn];exact ihl b h
  have esm:∀(e:TypeId) (s:Nat) (xs ys:List AV) (n k:Nat) (b:Bool),eqEs P (eqA P d) e s xs ys k n=some b→eqEs P (eqA P (d+1)) e s xs ys k n=some b:=by
   intro e s xs ys n
   induction n with
   |zero=>intro k b h;simpa[eqEs]using h
   |succ n ihn =>
    intro k b h
    simp only[eqEs]at h ⊢
    split at h
    ·rename_i a c ha hc
     try simp only[ha,hc]
     split at h
     ·rename_i he;rw[ih _ _ _ _ he];exact ihn _ b h
     ·rename_i he;cases h;rw[ih _ _ _ _ he]
     ·cases h
    ·cases h
  unfold eqA at h ⊢
  split at h
  ·exact h
  ·exact h
  ·exact h
  ·split at h
   ·split at h
    ·cases h
    ·rename_i hst
     try simp only
     rw[if_neg hst]
     exact fsm _ _ _ _ h
   ·cases h
  ·split at h
   ·split at h
    ·rename_i i hi
     try simp only[hi]
     exact esm _ _ _ _ _ _ _ h
    ·cases h
   ·cases h
  ·cases h
theorem eqA_big [Bk] [Ev] {m:Nat→St} {A:Nat→Prop} {w:World} {t:TypeId} {x y:AV} {u v:Value} {b:Bool} (h:eqA P 8 t x y=some b) (hx:Rd m A w x u) (hy:Rd m A w y v):(Op.equal t u v).run P w=.ok b w:=by
 have key:∀k,eqA P (8+k) t x y=some b:=by
  intro k
  induction k with
  |zero=>exact h
  |succ k ih=>exact eqA_more _ _ _ _ _ ih
 exact eqA_ok (8+9992) t x y u v b (key 9992) hx hy
def eqRes (op:BinOp) (b:Bool):Option AV :=
 match op with
 | .eql=>some (.c (.bool b))
 | .neq=>some (.c (.bool !b))
 |_=>none
theorem eqRes_inv [Bk] [Ev] {op:BinOp} {b:Bool} {r:AV} (h:eqRes op b=some r):(op=.eql∧r=.c (.bool b))∨(op=.neq∧r=.c (.bool !b)):=by
 unfold eqRes at h
 split at h
 ·cases h;exact .inl ⟨rfl,rfl⟩
 ·cases h;exact .inr ⟨rfl,rfl⟩
 ·cases h
def kindB:Value→Value→Bool
 | .iface _ _,.nilIface=>true
 | .nilIface,.nilIface=>true
 | .func _ _ _,.nilFunc=>true
 | .nilFunc,.nilFunc=>true
 | .agg _,.agg _=>true
 |_,_=>false
def nameK [Bk] (P:Program) (i:Nat) (t:TypeId):Bool:=match Bk.kinds[i]? with
 |some true=>(match P.underlying t with|some .string=>true|_=>false)
 |some false=>(match P.underlying t with|some .bool=>true|_=>false)
 |none=>false
theorem op_named [Bk] [Ev] {op:BinOp} {t ty:TypeId} {x y:Operand} {i:Nat} {r:AV} (ho:o.op=.binOp op t x y ty) (hx:aev f x=.o i) (hy:aev f y=.o i) (hk:nameK P i t=true) (hr:(op=.eql∧r=.c (.bool true))∨(op=.neq∧r=.c (.bool !true))):OpOk P o f h ⟨r,[],[]⟩:=by
 have key:(∃s,Ev.val i=.string s∧P.underlying t=some .string)∨∃c,Ev.val i=.bool c∧P.underlying t=some .bool:=by
  unfold nameK at hk
  split at hk
  ·rename_i hq
   obtain⟨s,hs⟩:=(Ev.kin i true hq).1 rfl
   split at hk
   ·exact .inl ⟨s,hs,‹_›⟩
   ·cases hk
  ·rename_i hq
   obtain⟨s,hs⟩:=(Ev.kin i false hq).2 rfl
   split at hk
   ·exact .inr ⟨s,hs,‹_›⟩
   ·cases hk
  ·cases hk
 refine op_pure fun m A w a H F=>?_
 have h1:=F.eval x
 have h2:=F.eval y
 rw[hx]at h1;rw[hy]at h2
 have e1:=h1.o_inv
 have e2:=h2.o_inv
 rcases key with⟨s,hs,hu⟩|⟨c,hs,hu⟩
 ·rw[hs]at e1 e2
  have hg:(eqGuard op t x y (.string s) (.string s)).run P w=.ok () w:=by
   unfold eqGuard
   split<;>simp
  rcases hr with⟨rfl,rfl⟩|⟨rfl,rfl⟩
  ·exact⟨.bool true,by simp[execOp,ho,e1,e2,hg,binOp,Op.stringOp],.pure _ _ (.c _)⟩
  ·exact⟨.bool false,by simp[execOp,ho,e1,e2,hg,binOp,Op.stringOp],.pure _ _ (.c _)⟩
 ·rw[hs]at e1 e2
  have hg:(eqGuard op t x y (.bool c) (.bool c)).run P w=.ok () w:=by
   unfold eqGuard
   split<;>simp
  have he:(Op.equal t (.bool c) (.bool c)).run P w=.ok true w:=by have:=run_equalIn_bool (P:=P) (p:=c) (q:=c) 9999 hu w;rw[beq_self_eq_true]at this;exact this
  rcases hr with⟨rfl,rfl⟩|⟨rfl,rfl⟩
  ·exact⟨.bool true,by simp[execOp,ho,e1,e2,hg,binOp,he],.pure _ _ (.c _)⟩
  ·exact⟨.bool false,by simp[execOp,ho,e1,e2,hg,binOp,he],.pure _ _ (.c _)⟩
def binA [Bk] (P:Program) (op:BinOp) (t:TypeId) (cx cy:Bool) (x y:AV):Option AV :=
 match x with
 | .c (.bool p)=>match y with
  | .c (.bool q)=>match P.underlying t with
   |some .bool=>match op with
    | .eql=>some (.c (.bool (p==q)))
    | .neq=>some (.c (.bool !(p==q)))
    |_=>none
   |_=>none
  |_=>none
 | .c .nilIface=>match y with
  | .c .nilIface=>if(cx||cy)=true∧isFaceB P t=true then eqRes op true else none
  |_=>none
 | .ifc _ _=>match y with
  | .c .nilIface=>if isFaceB P t=true then eqRes op false else none
  |_=>none
 | .fn _ _ _=>match y with
  | .c .nilFunc=>if isFuncB P t=true then eqRes op false else none
  |_=>none
 | .c .nilFunc=>match y with
  | .c .nilFunc=>if isFuncB P t=true then eqRes op true else none
  |_=>none
 | .agg xs=>match y with
  | .agg ys=>if P.eqGuardType P.depth t=false then(match eqA P 8 t (.agg xs) (.agg ys)with
    |some b=>eqRes op b
    |none=>none)else none
  |_=>none
 | .o i=>match y with
  | .o j=>if i=j∧nameK P i t=true then eqRes op true else none
  |_=>none
 | .c u=>match y with
  | .c v=>match binV op u v with
   |some r=>some (.c r)
   |none=>none
  |y=>match toP (.c u),toP y with
   |some p,some q=>symV op p q
   |_,_=>none
 |x=>match toP x,toP y with
  |some p,some q=>symV op p q
  |_,_=>none
theorem Rd.ifc_inv [Bk] [Ev] {m:Nat→St} {A:Nat→Prop} {w:World} {t:TypeId} {v:AV} {q:Value} (g:Rd m A w (.ifc t v) q):∃u,q=.iface t u∧Rd m A w v u:=by
 cases g with
 |pure _ _ h=>cases h with|ifc _ _ u hr=>exact⟨u,rfl,.pure _ _ hr⟩
 |ifc _ _ u hr=>exact⟨u,rfl,hr⟩
theorem Rd.fn_inv [Bk] [Ev] {m:Nat→St} {A:Nat→Prop} {w:World} {f:Fn} {xs ys:List AV} {q:Value} (g:Rd m A w (.fn f xs ys) q):∃vs us,q=.func f vs us:=by
 cases g with
 |pure _ _ h=>cases h with|fn _ _ _ vs us=>exact⟨vs,us,rfl⟩
 |fn _ _ _ vs us=>exact⟨vs,us,rfl⟩
theorem run_equalIn_face1 [Bk] [Ev] (d:Nat) {t:TypeId} {ms:Array (String×TypeId)} (hu:P.underlying t=some (.interface ms)) (t':TypeId) (v:Value) (w:World):(Op.equalIn (d+1) t (.iface t' v) .nilIface).run P w=.ok false w:=by simp[Op.equalIn,run_underlying hu]
theorem run_equalIn_face0 [Bk] [Ev] (d:Nat) {t:TypeId} {ms:Array (String×TypeId)} (hu:P.underlying t=some (.interface ms)) (w:World):(Op.equalIn (d+1) t .nilIface .nilIface).run P w=.ok true w:=by simp[Op.equalIn,run_underlying hu]
theorem run_equalIn_func1 [Bk] [Ev] (d:Nat) {t:TypeId} {a b:Array TypeId} {c:Bool} (hu:P.underlying t=some (.func a b c)) (f:Fn) (x y:Array Value) (w:World):(Op.equalIn (d+1) t (.func f x y) .nilFunc).run P w=.ok false w:=by simp[Op.equalIn,run_underlying hu]
theorem run_equalIn_func0 [Bk] [Ev] (d:Nat) {t:TypeId} {a b:Array TypeId} {c:Bool} (hu:P.underlying t=some (.func a b c)) (w:World):(Op.equalIn (d+1) t .nilFunc .nilFunc).run P w=.ok true w:=by simp[Op.equalIn,run_underlying hu]
theorem binOp_eql [Bk] [Ev] (op:BinOp) (t:TypeId) (x y:Value) (w:World) {b:Bool} (he:(Op.equal t x y).run P w=.ok b w) (hx:kindB x y=true) :
  (op=.eql→(binOp op t x y).run P w=.ok (.bool b) w)∧(op=.neq→(binOp op t x y).run P w=.ok (.bool !b) w):=by
 unfold kindB at hx
 constructor<;>rintro rfl<;>(split at hx<;>first|(cases hx;done)|simp[binOp, *])
theorem op_binA [Bk] [Ev] {op:BinOp} {t ty:TypeId} {x y:Operand} {r:AV} (ho:o.op=.binOp op t x y ty) (hr:binA P op t (isCst x) (isCst y) (aev f x) (aev f y)=some r):OpOk P o f h ⟨r,[],[]⟩:=by
 have fin:∀(b:Bool) (hc:(op=.eql∧r=.c (.bool b))∨(op=.neq∧r=.c (.bool !b))),
   (∀m A w a,FRel m A w f a→(eqGuard op t x y (a.eval x) (a.eval y)).run P w=.ok () w∧(Op.equal t (a.eval x) (a.eval y)).run P w=.ok b w∧kindB (a.eval x) (a.eval y)=true)→OpOk P o f h ⟨r,[],[]⟩:=by
  intro b hc hk
  refine op_pure fun m A w a H F=>?_
  obtain⟨h1,h2,h3⟩:=hk m A w a F
  obtain⟨q1,q2⟩:=binOp_eql op t _ _ w h2 h3
  rcases hc with⟨e,rfl⟩|⟨e,rfl⟩
  ·exact⟨_,by simp[execOp,ho,h1,q1 e],.pure _ _ (.c _)⟩
  ·exact⟨_,by simp[execOp,ho,h1,q2 e],.pure _ _ (.c _)⟩
 have two:∀(b:Bool),eqRes op b=some r→(op=.eql∧r=.c (.bool b))∨(op=.neq∧r=.c (.bool !b)):=fun b h=>eqRes_inv h
 unfold binA at hr
 split at hr
 ·rename_i p hx
  split at hr
  ·rename_i q hy
   split at hr
   ·rename_i hu
    split at hr
    ·cases hr;exact op_bool (op:=.eql) ho hx hy hu (.inl rfl)
    ·cases hr;exact op_bool (op:=.neq) ho hx hy hu (.inr rfl)
    ·cases hr
   ·cases hr
  ·cases hr
 ·rename_i hx
  split at hr
  ·rename_i hy
   split at hr
   ·rename_i hc
    obtain⟨ms,hu⟩:=face_of hc.2
    refine fin true (two true hr) fun m A w a F=>?_
    have g1:=F.eval x;rw[hx]at g1
    have g2:=F.eval y;rw[hy]at g2
    rw[g1.c_inv,g2.c_inv]
    refine⟨?_,run_equalIn_face0 9999 hu w,rfl⟩
    have hc1:=hc.1
    rcases two true hr with⟨e,-⟩|⟨e,-⟩<;>subst e<;>cases x<;>cases y<;>first|(simp[eqGuard];done)|(simp[isCst]at hc1;done)
   ·cases hr
  ·cases hr
 ·rename_i t' v hx
  split at hr
  ·rename_i hy
   split at hr
   ·rename_i hc
    obtain⟨ms,hu⟩:=face_of hc
    refine fin false (two false hr) fun m A w a F=>?_
    have g1:=F.eval x;rw[hx]at g1
    have g2:=F.eval y;rw[hy]at g2
    obtain⟨u,hu',-⟩:=g1.ifc_inv
    rw[hu',g2.c_inv]
    refine⟨?_,run_equalIn_face1 9999 hu t' u w,rfl⟩
    rcases two false hr with⟨e,-⟩|⟨e,-⟩<;>subst e<;>simp[eqGuard]
   ·cases hr
  ·cases hr
 ·rename_i fn xs ys hx
  split at hr
  ·rename_i hy
   split at hr
   ·rename_i hc
    obtain⟨a0,b0,c0,hu⟩:=func_of hc
    refine fin false (two false hr) fun m A w a F=>?_
    have g1:=F.eval x;rw[hx]at g1
    have g2:=F.eval y;rw[hy]at g2
    obtain⟨vs,us,hu'⟩:=g1.fn_inv
    rw[hu',g2.c_inv]
    refine⟨?_,run_equalIn_func1 9999 hu fn vs us w,rfl⟩
    rcases two false hr with⟨e,-⟩|⟨e,-⟩<;>subst e<;>simp[eqGuard]
   ·cases hr
  ·cases hr
 ·rename_i hx
  split at hr
  ·rename_i hy
   split at hr
   ·rename_i hc
    obtain⟨a0,b0,c0,hu⟩:=func_of hc
    refine fin true (two true hr) fun m A w a F=>?_
    have g1:=F.eval x;rw[hx]at g1
    have g2:=F.eval y;rw[hy]at g2
    rw[g1.c_inv,g2.c_inv]
    refine⟨?_,run_equalIn_func0 9999 hu w,rfl⟩
    rcases two true hr with⟨e,-⟩|⟨e,-⟩<;>subst e<;>simp[eqGuard]
   ·cases hr
  ·cases hr
 ·rename_i xs hx
  split at hr
  ·rename_i ys hy
   split at hr
   ·rename_i hg
    split at hr
    ·rename_i b he
     refine fin b (two b hr) fun m A w a F=>?_
     have g1:=F.eval x;rw[hx]at g1
     have g2:=F.eval y;rw[hy]at g2
     obtain⟨vs,hv,cx⟩:=g1.agg_inv
     obtain⟨us,hu',cy⟩:=g2.agg_inv
     rw[hv]at g1 ⊢
     rw[hu']at g2 ⊢
     refine⟨run_eqGuard_agg w op t x y vs us hg,?_,rfl⟩
     exact eqA_big he g1 g2
    ·cases hr
   ·cases hr
  ·cases hr
 ·rename_i i hx
  split at hr
  ·rename_i j hy
   split at hr
   ·rename_i hc
    obtain⟨rfl,hk⟩:=hc
    exact op_named ho hx hy hk (two true hr)
   ·cases hr
  ·cases hr
 ·rename_i u hne1 hne2 hne3 hx
  split at hr
  ·rename_i v hy
   split at hr
   ·rename_i r' hb
    cases hr
    exact op_bin ho hx hy hb
   ·cases hr
  ·split at hr
   ·rename_i p q hp hq
    rw[←hx]at hp
    exact op_sym ho hp hq hr
   ·cases hr
 ·split at hr
  ·rename_i p q hp hq
   exact op_sym ho hp hq hr
  ·cases hr
end
end Go.Proofs.Ytjccjmmbebiegaa.Mc
set_option linter.unusedVariables false
set_option linter.unusedSimpArgs false
namespace Go.Proofs.Ytjccjmmbebiegaa.Mc
open Go.RowKit
def NewM (w:World) (a a':Act):Prop:=∀d∈a'.defers,d∈a.defers∨∃D,d.target=.collected D∧w.heap.size≤D
theorem NewM.same {w:World} {a a':Act} (h:a'.defers=a.defers):NewM w a a':=fun d hd=>.inl (h▸hd)
theorem NewM.refl (w:World) (a:Act):NewM w a a:=.same rfl
theorem put_defers (a:Act) (d:Option Tmp) (v:Value):(a.put d v).defers=a.defers:=by cases d<;>rfl
theorem NewM.put (w:World) (a:Act) (d:Option Tmp) (v:Value):NewM w a (a.put d v):=.same (by cases d<;>rfl)
theorem NewM.trans {w w1:World} {a a1 a2:Act} (h:NewM w a a1) (hs:w.heap.size≤w1.heap.size) (k:NewM w1 a1 a2):NewM w a a2:=by
 intro d hd
 rcases k d hd with h1|⟨D,h1,h2⟩
 ·exact h d h1
 ·exact .inr ⟨D,h1,Nat.le_trans hs h2⟩
def Lift [Bk] [Ev] (Q:Exit→List AV→AH→Prop) (m:Nat→St) (A:Nat→Prop) (w:World) (a:Act):Exit→Act→World→Prop:=fun e a' w'=>∃m' f' h',Q e f' h'∧HRel m' A h' w'∧FRel m' A w' f' a'∧Ext m w m' w'∧NewM w a a'
theorem Lift.back [Bk] [Ev] {Q:Exit→List AV→AH→Prop} {m m1:Nat→St} {A:Nat→Prop} {w w1:World} {a a1:Act} {e:Exit} {a':Act} {w':World} (E:Ext m w m1 w1) (N:NewM w a a1) (h:Lift Q m1 A w1 a1 e a' w'):Lift Q m A w a e a' w':=by
 obtain⟨m',f',h',h1,h2,h3,h4,h5⟩:=h
 exact⟨m',f',h',h1,h2,h3,E.trans h4,N.trans E.size h5⟩
def fw (r:Option Nat):Fence:={ Fence.wide with round:=r }
theorem fw_calls {P:Program} {r:Option Nat} {n:Nat} {f:FuncId} {args:Array Value} {w:World} {R:Ending→World→Prop}:CallsIn (fw r) n P f args w R↔Calls P f args w R:=callsIn_wide (n:=n)
theorem not_defer {P:Program} {a:Act} {o:Oper} {w w':World} {x:Next} (h:(execOp a.eval o).run P w=.ok x w') (hx:∀d,x≠.defer d):∀c,o.op≠.defer c:=by
 intro c hc
 simp only[execOp,hc,Sem.run_bind]at h
 cases hr:(resolve a.eval c o.type).run P w with
 |ok d w2 =>
  rw[hr]at h
  simp at h
  exact hx _ h.1.symm
 |halt e w2=>rw[hr]at h;cases h
theorem wpIn_exec {P:Program} {r:Option Nat} {n:Nat} {a:Act} {o:Oper} {w w':World} {v:Value} {K:Act→World→Prop} {Q:Exit→Act→World→Prop} (h:(execOp a.eval o).run P w=.ok (.value v) w') (hK:K (a.put o.dst v) w'):o.wpIn (fw r) n P a w K Q:=by
 refine⟨fun _ _=>trivial,?_⟩
 rw[Oper.semAt_eq _ _ _ (not_defer h (fun d e=>by cases e)),h]
 exact hK
theorem wpIn_skipped {P:Program} {r:Option Nat} {n:Nat} {a:Act} {o:Oper} {w w':World} {K:Act→World→Prop} {Q:Exit→Act→World→Prop} (h:(execOp a.eval o).run P w=.ok .skip w') (hK:K (a.put o.dst Go.undef) w'):o.wpIn (fw r) n P a w K Q:=by
 refine⟨fun _ _=>trivial,?_⟩
 rw[Oper.semAt_eq _ _ _ (not_defer h (fun d e=>by cases e)),h]
 exact hK
theorem wpIn_enter {P:Program} {r:Option Nat} {n:Nat} {a:Act} {o:Oper} {w w':World} {f:FuncId} {args:Array Value} {K:Act→World→Prop} {Q:Exit→Act→World→Prop} (h:(execOp a.eval o).run P w=.ok (.enter f args) w')
  (hK:Calls P f args w' fun e w''=>∃v,e=.returned v∧K (a.put o.dst v) w''):o.wpIn (fw r) n P a w K Q:=by
 refine⟨fun _ _=>trivial,?_⟩
 rw[Oper.semAt_eq _ _ _ (not_defer h (fun d e=>by cases e)),h]
 refine⟨fun h=>(by cases h),fw_calls.2 (hK.mono ?_)⟩
 rintro e w'' ⟨v,rfl,hk⟩
 exact hk
theorem wpIn_round {P:Program} {r:Option Nat} {n:Nat} {a:Act} {o:Oper} {w w':World} {l:Nat} {f:FuncId} {tmps:Array Value} {assign body:Code} {K:Act→World→Prop} {Q:Exit→Act→World→Prop} (h:(execOp a.eval o).run P w=.ok (.round l f tmps assign body) w')
  (hK:RoundIn (fw r) (n-1) P l f tmps assign body w' fun e w''=>∃v,e=.returned v∧K (a.put o.dst v) w''):o.wpIn (fw r) n P a w K Q:=by
 refine⟨fun _ _=>trivial,?_⟩
 rw[Oper.semAt_eq _ _ _ (not_defer h (fun d e=>by cases e)),h]
 refine⟨fun h=>(by cases h),hK.mono ?_⟩
 rintro e w'' ⟨v,rfl,hk⟩
 exact hk
def AWP [Bk] [Ev] (P:Program) (tp:Bool) (c:Code) (Q:Exit→List AV→AH→Prop) (f:List AV) (h:AH):Prop :=
 ∀r m A w a,(tp=true→r=none)→HRel m A h w→FRel m A w f a→c.wpIn (fw r) 9 P (Lift Q m A w a) a w
theorem least_ex {p:Nat→Prop} (h:∃n,p n):∃n,p n∧∀k,p k→n≤k:=by
 obtain⟨n,hn⟩:=h
 induction n using Nat.strongRecOn with
 |_ n ih =>
  by_cases hk:∃k,k<n∧p k
  ·obtain⟨k,h1,h2⟩:=hk
   exact ih k h1 h2
  ·refine⟨n,hn,fun k hp=>?_⟩
   rcases Nat.lt_or_ge k n with h|h
   ·exact absurd ⟨k,h,hp⟩ hk
   ·exact h
theorem least_fn {α:Type} (J:Nat→α→Prop):∃μ:α→Nat,∀x,(∃n,J n x)→J (μ x) x∧∀n,J n x→μ x≤n:=by
 classical
 refine⟨fun x=>if h:∃n,J n x then Classical.choose (least_ex h)else 0,fun x hx=>?_⟩
 have e:(if h:∃n,J n x then Classical.choose (least_ex h)else 0)=Classical.choose (least_ex hx):=dif_pos hx
 simp only[e]
 exact Classical.choose_spec (least_ex hx)
section
variable {P:Program} {Q:Exit→List AV→AH→Prop} {f:List AV} {h:AH} {tp:Bool}
theorem AWP.mono [Bk] [Ev] {c:Code} {Q':Exit→List AV→AH→Prop} (k:AWP P tp c Q f h) (hq:∀e f h,Q e f h→Q' e f h):AWP P tp c Q' f h :=
 fun r m A w a hr H F=>wpIn_mono (k r m A w a hr H F) fun e a w ⟨m',f',h',h1,h2⟩=>⟨m',f',h',hq _ _ _ h1,h2⟩
theorem AWP.skip [Bk] [Ev] (k:Q .normal f h):AWP P tp .skip Q f h:=fun r m A w a hr H F=>wpIn_skip ⟨m,f,h,k,H,F,Ext.refl _ _,NewM.refl _ _⟩
theorem AWP.exit [Bk] [Ev] {id:Nat} (k:Q (.exit id) f h):AWP P tp (.exit id) Q f h:=fun r m A w a hr H F=>wpIn_exit ⟨m,f,h,k,H,F,Ext.refl _ _,NewM.refl _ _⟩
theorem AWP.ret [Bk] [Ev] (k:Q .ret f h):AWP P tp .ret Q f h:=fun r m A w a hr H F=>wpIn_ret ⟨m,f,h,k,H,F,Ext.refl _ _,NewM.refl _ _⟩
def thenA (N:List AV→AH→Prop) (Q:Exit→List AV→AH→Prop):Exit→List AV→AH→Prop
 | .normal,f,h=>N f h
 |e,f,h=>Q e f h
theorem AWP.seq [Bk] [Ev] {x y:Code} (k:AWP P tp x (thenA (AWP P tp y Q) Q) f h):AWP P tp (.seq x y) Q f h:=by
 intro r m A w a hr H F
 refine wpIn_seq (wpIn_mono (k r m A w a hr H F) ?_)
 rintro e a1 w1 ⟨m1,f1,h1,q,H1,F1,E1,N1⟩
 cases e with
 |normal=>exact wpIn_mono (q r m1 A w1 a1 hr H1 F1) fun e a w hl=>hl.back E1 N1
 |_=>exact⟨m1,f1,h1,q,H1,F1,E1,N1⟩
theorem AWP.cond [Bk] [Ev] {c:Operand} {x y:Code} {b:Bool} (hc:aev f c=.c (.bool b)) (k:AWP P tp (if b then x else y) Q f h):AWP P tp (.cond c x y) Q f h:=by
 intro r m A w a hr H F
 have:=F.eval c
 rw[hc]at this
 exact wpIn_cond this.bool (k r m A w a hr H F)
def inBlockA (id:Nat) (Q:Exit→List AV→AH→Prop):Exit→List AV→AH→Prop
 | .exit id',f,h=>if id'=id then Q .normal f h else Q (.exit id') f h
 |e,f,h=>Q e f h
theorem AWP.block [Bk] [Ev] {id:Nat} {c:Code} (k:AWP P tp c (inBlockA id Q) f h):AWP P tp (.block id c) Q f h:=by
 intro r m A w a hr H F
 refine wpIn_block (wpIn_mono (k r m A w a hr H F) ?_)
 rintro e a1 w1 ⟨m1,f1,h1,q,H1,F1,E1,N1⟩
 cases e with
 |exit id' =>
  simp only[inBlockA]at q
  simp only[Exit.inBlock]
  split
  ·rename_i e;rw[if_pos e]at q;exact⟨m1,f1,h1,q,H1,F1,E1,N1⟩
  ·rename_i e;rw[if_neg e]at q;exact⟨m1,f1,h1,q,H1,F1,E1,N1⟩
 |_=>exact⟨m1,f1,h1,q,H1,F1,E1,N1⟩
theorem stepR_scope {P:Program} {b:Frame} {a:Act} {k:List Item} {cs:List Frame} {w:World} {c:Code}:step P (lone (b.atR a (.code (.scope c)::k)) cs w)=.next (lone (b.atR a (.code c::.inScope c::k)) cs w) :=
 step_lone_go (by simp[stepG,stepG.exec,Frame.atR])
theorem stepR_inScope {P:Program} {b:Frame} {a:Act} {k:List Item} {cs:List Frame} {w:World} {c:Code}:step P (lone (b.atR a (.inScope c::k)) cs w)=.next (lone (b.atR a k) cs w) :=
 step_lone_go (by simp[stepG,stepG.exec,Frame.atR])
theorem wpIn_scope {P:Program} {F:Fence} {n:Nat} {Q:Exit→Act→World→Prop} {a:Act} {w:World} {c:Code} (h:c.wpIn F n P (fun e a w=>(∀l,e≠.goto l)∧Q e a w) a w):(Code.scope c).wpIn F n P Q a w:=by
 intro b k cs hro hb hr
 have h0:(lone (b.atR a (.code (.scope c)::k)) cs w).fenced P F:=fenced_calm hb hr rfl
 obtain⟨e,a₁,w₁,⟨hg,hq⟩,harr⟩:=h b (.inScope c::k) cs hro hb hr
 cases e with
 |normal=>exact⟨.normal,a₁,w₁,hq,.head h0 stepR_scope (StepsIn.trans harr (.one (fenced_calm hb hr rfl) stepR_inScope))⟩
 |exit id =>
  have hx:exitTo id (.inScope c::k)=exitTo id k:=by simp[exitTo]
  exact⟨.exit id,a₁,w₁,hq,fun k' hk=>.head h0 stepR_scope (harr.1 k' (by rw[hx];exact hk)),
   fun hr' hk=>let ⟨k₁,h1,h2⟩:=harr.2 hr' (by rw[hx];exact hk);⟨k₁,h1,.head h0 stepR_scope h2⟩⟩
 |goto l=>exact absurd rfl (hg l)
 |ret=>exact⟨_,a₁,w₁,hq,.of_steps (.one h0 stepR_scope) harr⟩
 |panic ch=>exact⟨_,a₁,w₁,hq,.of_steps (.one h0 stepR_scope) harr⟩
 |outgrown=>exact⟨_,a₁,w₁,hq,.of_steps (.one h0 stepR_scope) harr⟩
theorem AWP.scope [Bk] [Ev] {c:Code} (k:AWP P tp c (fun e f h=>(∀l,e≠.goto l)∧Q e f h) f h):AWP P tp (.scope c) Q f h:=by
 intro r m A w a hr H F
 refine wpIn_scope (wpIn_mono (k r m A w a hr H F) ?_)
 rintro e a1 w1 ⟨m1,f1,h1,⟨q0,q⟩,H1,F1,E1,N1⟩
 exact⟨q0,m1,f1,h1,q,H1,F1,E1,N1⟩
theorem AWP.label [Bk] [Ev] {l:Nat} (k:Q .normal f h):AWP P tp (.label l) Q f h:=fun r m A w a hr H F=>wpIn_label ⟨m,f,h,k,H,F,Ext.refl _ _,NewM.refl _ _⟩
theorem AWP.loop [Bk] [Ev] {c:Code} (I:Nat→List AV→AH→Prop) (n:Nat) (h0:I n f h) (round:∀n f h,I n f h→AWP P tp c (thenA (fun f' h'=>∃n',n'<n∧I n' f' h') Q) f h):AWP P tp (.loop c) Q f h:=by
 intro r m A w a hr H F
 let J:Nat→Act→World→Prop:=fun n a' w'=>∃m1 f1 h1,I n f1 h1∧HRel m1 A h1 w'∧FRel m1 A w' f1 a'∧Ext m w m1 w'∧NewM w a a'
 obtain⟨μ,hμ⟩:=least_fn (fun n (p:Act×World)=>J n p.1 p.2)
 refine wpIn_loop (fun a' w'=>∃n,J n a' w') (fun a' w'=>μ (a',w')) ⟨n,m,f,h,h0,H,F,Ext.refl _ _,NewM.refl _ _⟩ ?_
 intro a1 w1 hex
 obtain⟨m1,f1,h1,hI,H1,F1,E1,N1⟩:=(hμ (a1,w1) hex).1
 refine wpIn_mono (round _ f1 h1 hI r m1 A w1 a1 hr H1 F1) ?_
 rintro e a2 w2 ⟨m2,f2,h2,q,H2,F2,E2,N2⟩
 cases e with
 |normal =>
  obtain⟨n',hlt,hI'⟩:=q
  have hJ:J n' a2 w2:=⟨m2,f2,h2,hI',H2,F2,E1.trans E2,N1.trans E1.size N2⟩
  exact⟨⟨n',hJ⟩,Nat.lt_of_le_of_lt ((hμ (a2,w2) ⟨n',hJ⟩).2 n' hJ) hlt⟩
 |_=>exact⟨m2,f2,h2,q,H2,F2,E1.trans E2,N1.trans E1.size N2⟩
def StepOk [Bk] [Ev] (P:Program) (o:Oper) (f:List AV) (h:AH) (R:AV→AH→Prop):Prop :=
 ∀r m A w a,HRel m A h w→FRel m A w f a→∀(K:Act→World→Prop) (Q:Exit→Act→World→Prop),(∀v h' x w' m',R v h'→HRel m' A h' w'→Rd m' A w' v x→Ext m w m' w'→K (a.put o.dst x) w')→o.wpIn (fw r) 9 P a w K Q
theorem OpOk.step [Bk] [Ev] {o:Oper} {r:AR} (k:OpOk P o f h r):StepOk P o f h (fun v h'=>v=r.v∧h'=upsB h r.ups):=by
 intro r' m A w a H F K Q hK
 obtain⟨x,w',m',hr,h1,h2,h3⟩:=k m A w a H F
 rcases hr with hr|⟨hr,rfl⟩
 ·exact wpIn_exec hr (hK _ _ x w' m' ⟨rfl,rfl⟩ h1 h2 h3)
 ·exact wpIn_skipped hr (hK _ _ _ w' m' ⟨rfl,rfl⟩ h1 h2 h3)
theorem StepOk.mono [Bk] [Ev] {o:Oper} {R R':AV→AH→Prop} (k:StepOk P o f h R) (hr:∀v h,R v h→R' v h):StepOk P o f h R' :=
 fun r m A w a H F K Q hK=>k r m A w a H F K Q fun v h' x w' m' hR=>hK v h' x w' m' (hr _ _ hR)
def guardA (ops:Array Oper) (o:Oper) (f:List AV):Option Bool :=
 match o.guard with
 |none=>some true
 |some (j,want)=>match (ops[j]?).bind (·.dst)with
  |none=>some false
  |some d=>match f[d]? with
   |some (.c (.bool b))=>some (b==want)
   |some .undef=>some false
   |none=>some false
   |_=>none
theorem guardA_ok [Bk] [Ev] {m:Nat→St} {A:Nat→Prop} {w:World} {a:Act} {ops:Array Oper} {o:Oper} {b:Bool} (F:FRel m A w f a) (hg:guardA ops o f=some b):Region.wanted o (yielded ops a.tmps)=b:=by
 unfold guardA at hg
 unfold Region.wanted
 cases ho:o.guard with
 |none=>simp[ho]at hg ⊢;exact hg
 |some p =>
  obtain⟨j,want⟩:=p
  simp only[ho]at hg ⊢
  unfold yielded
  cases hd:(ops[j]?).bind (·.dst)with
  |none=>simp[hd]at hg ⊢;exact hg
  |some d =>
   simp only[hd,Option.bind_some]at hg ⊢
   have hsz:=F.size
   split at hg
   ·rename_i q hf
    cases hg
    have h1:=F.rd d _ hf
    have hlt:d<a.tmps.size:=by rw[hsz];exact(List.getElem?_eq_some_iff.1 hf).1
    have h2:=h1.c_inv
    have:a.tmps[d]?=some (.bool q):=by simpa[hlt]using h2
    rw[this]
    cases q<;>cases want<;>rfl
   ·rename_i hf
    cases hg
    have h1:=F.rd d _ hf
    have hlt:d<a.tmps.size:=by rw[hsz];exact(List.getElem?_eq_some_iff.1 hf).1
    have h2:a.tmps.getD d Go.undef=Go.undef:=by
     generalize a.tmps.getD d Go.undef=u at h1
     cases h1 with|pure _ _ h=>cases h;rfl
    have:a.tmps[d]?=some Go.undef:=by simpa[hlt]using h2
    rw[this]
    rfl
   ·rename_i hf
    cases hg
    have:a.tmps.size≤d:=by rw[hsz];exact List.getElem?_eq_none_iff.1 hf
    rw[Array.getElem?_eq_none this]
    rfl
   ·cases hg
def ASeq [Bk] [Ev] (P:Program) (ops:Array Oper) (Q:Exit→List AV→AH→Prop) (l:List Nat) (f:List AV) (h:AH):Prop :=
 ∀r m A w a,HRel m A h w→FRel m A w f a→wpOpsIn (fw r) 9 P ops (Lift Q m A w a) l a w
theorem ASeq.nil [Bk] [Ev] {ops:Array Oper} (k:Q .normal f h):ASeq P ops Q [] f h:=fun r m A w a H F=>⟨m,f,h,k,H,F,Ext.refl _ _,NewM.refl _ _⟩
theorem Oper.wpIn_mono2 [Bk] [Ev] {r:Option Nat} {n:Nat} {o:Oper} {a:Act} {w:World} {K K':Act→World→Prop} {Q Q':Exit→Act→World→Prop} (hk:∀a w,K a w→K' a w) (hq:∀e a w,Q e a w→Q' e a w) (hh:o.wpIn (fw r) n P a w K Q):o.wpIn (fw r) n P a w K' Q':=by
 unfold Oper.wpIn at *
 refine⟨hh.1,?_⟩
 have hh:=hh.2
 have lets:LetsOut Q→LetsOut Q':=fun⟨a0,w0,h0⟩=>⟨a0,w0,hq _ _ _ h0⟩
 generalize (o.semAt (fw r).round a.eval).run P w=x at *
 cases x with
 |ok n w' =>
  cases n<;>simp only[Oper.uponIn]at hh ⊢ <;>
   first
    |exact hk _ _ hh
    |exact hh.elim
    |exact⟨hh.1,CallsIn.mono hh.2 (fun e w'' he=>by cases e<;>first|exact hk _ _ he|exact hq _ _ _ he|exact lets he)⟩
    |exact⟨hh.1,RowsIn.mono hh.2 (fun _ _ he=>hk _ _ he)⟩
    |exact⟨hh.1,RoundIn.mono hh.2 (fun e w'' he=>by cases e<;>first|exact hk _ _ he|exact hq _ _ _ he|exact lets he)⟩
 |halt h w'=>cases h<;>simp only[Oper.uponIn]at hh ⊢<;>first|exact hq _ _ _ hh|exact hh.elim
theorem wpOpsIn_mono [Bk] [Ev] {r:Option Nat} {n:Nat} {ops:Array Oper} {Q Q':Exit→Act→World→Prop} (hq:∀e a w,Q e a w→Q' e a w):∀(l:List Nat) (a:Act) (w:World),wpOpsIn (fw r) n P ops Q l a w→wpOpsIn (fw r) n P ops Q' l a w
 |[],a,w,h=>hq _ _ _ h
 |i::l,a,w,h=>by
  simp only[wpOpsIn]at h ⊢
  split at h
  ·exact wpOpsIn_mono hq l _ _ h
  ·rename_i o ho
   split at h
   ·rename_i hw
    rw[if_pos hw]
    exact Oper.wpIn_mono2 (fun a w h=>wpOpsIn_mono hq l a w h) hq h
   ·rename_i hw
    rw[if_neg hw]
    exact⟨h.1,wpOpsIn_mono hq l _ _ h.2⟩
theorem ASeq.cons [Bk] [Ev] {ops:Array Oper} {i:Nat} {l:List Nat} {o:Oper} {R:AV→AH→Prop} (ho:ops[i]?=some o) (hg:guardA ops o f=some true) (hs:StepOk P o f h R) (k:∀v h',R v h'→ASeq P ops Q l (fset f o.dst v) h'):ASeq P ops Q (i::l) f h:=by
 intro r m A w a H F
 simp only[wpOpsIn,ho]
 rw[if_pos (guardA_ok F hg)]
 refine hs r m A w a H F _ _ ?_
 intro v h' x w' m' hR H' hx E
 exact wpOpsIn_mono (fun e a1 w1 hl=>hl.back E (NewM.put w a o.dst x)) l _ _ (k v h' hR r m' A w' _ H' (F.put E hx o.dst))
theorem ASeq.pass [Bk] [Ev] {ops:Array Oper} {i:Nat} {l:List Nat} {o:Oper} (ho:ops[i]?=some o) (hg:guardA ops o f=some false) (k:ASeq P ops Q l (fset f o.dst .undef) h):ASeq P ops Q (i::l) f h:=by
 intro r m A w a H F
 simp only[wpOpsIn,ho]
 rw[if_neg (by rw[guardA_ok F hg];simp)]
 exact⟨fun _ _=>trivial,wpOpsIn_mono (fun e a1 w1 hl=>hl.back (Ext.refl _ _) (NewM.put w a o.dst Go.undef)) l _ _ (k r m A w _ H (F.put (Ext.refl _ _) (.pure _ _ .undef) o.dst))⟩
theorem AWP.region [Bk] [Ev] {id:Nat} {ops:Array Oper} (k:ASeq P ops Q (List.range ops.size) f h):AWP P tp (.region id ops false) Q f h :=
 fun r m A w a _ H F=>wpIn_region (k r m A w a H F)
def ACalls [Bk] [Ev] (P:Program) (F:FuncId) (args:List AV) (h:AH) (R:AV→AH→Prop):Prop :=
 ∀m A w vs,HRel m A h w→vs.size=args.length→(∀(i:Nat) (x:AV),args[i]?=some x→Rd m A w x (vs.getD i Go.undef)) →
  Calls P F vs w fun e w'=>∃v u m' h',e=.returned v∧R u h'∧HRel m' A h' w'∧Rd m' A w' u v∧Ext m w m' w'
theorem ACalls.mono [Bk] [Ev] {F:FuncId} {args:List AV} {R R':AV→AH→Prop} (k:ACalls P F args h R) (hr:∀v h,R v h→R' v h):ACalls P F args h R' :=
 fun m A w vs H hl hv=>(k m A w vs H hl hv).mono fun e w' ⟨v,u,m',h',h1,h2,h3⟩=>⟨v,u,m',h',h1,hr _ _ h2,h3⟩
def cellA (P:Program) (ty:TypeId) (h:AH):AV→Option AV
 | .ptr sz id i off=>match h id with
  | .cells _ s els=>if s=sz then(els[i]?).bind fun e=>partA P ty e off else none
  |_=>none
 |_=>none
def resA (P:Program) (f:List AV) (h:AH):ResultVar→Option AV
 | .tmp t=>some (f.getD t .undef)
 | .cell t ty=>cellA P ty h (f.getD t .undef)
def tupOf:List AV→AV
 |[v]=>v
 |vs=>.tup vs
def resultsA (P:Program) (fn:Func) (f:List AV) (h:AH):Option AV :=
 (fn.results.toList.mapM (resA P f h)).map tupOf
def resV (tmps:Array Value):ResultVar→Sem Value
 | .tmp t=>pure (tmps.getD t Go.undef)
 | .cell a t=>do loadVar t (←asAddr (tmps.getD a Go.undef))
theorem results_eq [Bk] [Ev] (fn:Func) (tmps:Array Value):results fn tmps=(do let vs ←fn.results.mapM (resV tmps);pure (if h:vs.size=1 then vs[0]else .tuple vs)):=by
 unfold results
 congr 1
theorem resA_ok [Bk] [Ev] {m:Nat→St} {A:Nat→Prop} {w:World} {a:Act} (H:HRel m A h w) (F:FRel m A w f a) {r:ResultVar} {x:AV} (hr:resA P f h r=some x) :
  ∃v,(resV a.tmps r).run P w=.ok v w∧Rd m A w x v:=by
 cases r with
 |tmp t =>
  simp only[resA,Option.some.injEq]at hr
  subst hr
  exact⟨a.tmps.getD t Go.undef,rfl,F.eval (.tmp t)⟩
 |cell t ty =>
  simp only[resA]at hr
  have h1:=F.eval (.tmp t)
  simp only[aev,Act.eval]at h1
  unfold cellA at hr
  split at hr
  ·rename_i sz id i off hf
   rw[hf]at h1
   split at hr
   ·rename_i T s els hh
    split at hr
    ·rename_i hs
     subst hs
     cases he:els[i]? with
     |none=>simp[he]at hr
     |some e =>
      simp only[he,Option.bind_some]at hr
      obtain⟨b,cs,g1,g2,g3,g4,g5⟩:=H.block hh he
      have hv:=h1.at_ptr g1
      obtain⟨u,r1,r2⟩:=loadVar_ok (P:=P) (m:=m) (A:=A) (w:=w) (b:=b) (o0:=i*s) (vs:=fun j=>cs.getD (i*s+j) Go.undef) hr (by
       intro j y hy
       have ha:at2 els i j=some y:=by simp[at2,he,hy]
       obtain⟨k1,k2⟩:=g5 i j y ha
       refine⟨k1,?_,k2⟩
       have:=(at2_len ha g4).2.2
       have hlt:i*s+j<cs.size:=by omega
       simp[World.cell?,g2,hlt])
      refine⟨u,?_,r2⟩
      simp only[resV,hv]
      simp[asAddr,r1]
    ·cases hr
   ·cases hr
  ·cases hr
theorem resultsA_ok [Bk] [Ev] {m:Nat→St} {A:Nat→Prop} {w:World} {a:Act} {fn:Func} (H:HRel m A h w) (F:FRel m A w f a) {x:AV} (hr:resultsA P fn f h=some x):∃v,(results fn a.tmps).run P w=.ok v w∧Rd m A w x v:=by
 have key:∀(l:List ResultVar) (xs:List AV),l.mapM (resA P f h)=some xs→∃vs:List Value,(l.mapM (resV a.tmps)).run P w=.ok vs w∧vs.length=xs.length∧∀(i:Nat) (x:AV),xs[i]?=some x→Rd m A w x (vs.getD i Go.undef):=by
  intro l
  induction l with
  |nil=>intro xs h;simp at h;subst h;exact⟨[],by simp,rfl,by intro i x h;simp at h⟩
  |cons r l ih =>
   intro xs hx
   rw[List.mapM_cons]at hx
   cases h1:resA P f h r with
   |none=>simp[h1]at hx
   |some y =>
    cases h2:l.mapM (resA P f h)with
    |none=>simp[h1,h2]at hx
    |some ys =>
     simp[h1,h2]at hx
     subst hx
     obtain⟨v,r1,r2⟩:=resA_ok H F h1
     obtain⟨vs,q1,q2,q3⟩:=ih ys h2
     refine⟨v::vs,?_,by simp[q2],?_⟩
     ·rw[List.mapM_cons]
      simp only[Sem.run_bind,r1,Result.andThen_ok,q1]
      rfl
     ·intro i x hi
      cases i with
      |zero=>simp at hi;subst hi;exact r2
      |succ i=>exact q3 i x (by simpa using hi)
 unfold resultsA at hr
 cases hm:fn.results.toList.mapM (resA P f h)with
 |none=>simp[hm]at hr
 |some xs =>
  simp only[hm,Option.map_some,Option.some.injEq]at hr
  obtain⟨vs,q1,q2,q3⟩:=key _ _ hm
  have harr:(fn.results.mapM (resV a.tmps)).run P w=.ok vs.toArray w:=by
   rw[←Array.toArray_toList (xs:=fn.results),List.mapM_toArray]
   simp[q1]
  refine⟨if h:vs.toArray.size=1 then vs.toArray[0]else .tuple vs.toArray,?_,?_⟩
  ·rw[results_eq]
   simp only[Sem.run_bind,harr,Result.andThen_ok]
   rfl
  ·subst hr
   by_cases h1:xs.length=1
   ·obtain⟨v,rfl⟩:=List.length_eq_one_iff.1 h1
    obtain⟨u,rfl⟩:=List.length_eq_one_iff.1 (q2.trans h1)
    simpa[tupOf]using q3 0 v rfl
   ·have hl:vs.length≠1:=by omega
    rw[dif_neg (by simpa using hl)]
    have:tupOf xs=.tup xs:=by
     match xs,h1 with
     |[],_=>rfl
     |[v],h=>simp at h
     |_::_::_,_=>rfl
    rw[this]
    exact .tup _ _ (by simp[q2]) (fun i x hi=>by simpa[List.getD]using q3 i x hi)
def bodyA (P:Program) (fn:Func) (R:AV→AH→Prop):Exit→List AV→AH→Prop
 | .normal,f,h | .ret,f,h=>∃x,resultsA P fn f h=some x∧R x h
 |_,_,_=>False
theorem RdL.cells [Bk] [Ev] {A:Nat→Prop} {w w':World} (hs:w.heap.size≤w'.heap.size) (hc:∀b,b<w.heap.size→¬ A b→∀o,w'.cell? ⟨b,o,none⟩=w.cell? ⟨b,o,none⟩) {x:AV} {v:Value} (h:RdL A w x v):RdL A w' x v:=by
 induction h with
 |c v=>exact .c v
 |undef=>exact .undef
 |emp a=>exact .emp a
 |agg cs vs hl h1 _ ih=>exact .agg cs vs hl h1 ih
 |tup cs vs hl _ ih=>exact .tup cs vs hl ih
 |lit sz els b off cap vs hm hb hcap hsz h1 hv _ ih =>
  exact .lit sz els b off cap vs hm (Nat.lt_of_lt_of_le hb hs) hcap hsz h1 (fun i j x hx=>(hc b hb hm _).trans (hv i j x hx)) ih
 |lit0 sz a cap hm=>exact .lit0 sz a cap hm
 |lptr sz els i0 j0 b off vs hm hb hsz h1 hv _ ih =>
  exact .lptr sz els i0 j0 b off vs hm (Nat.lt_of_lt_of_le hb hs) hsz h1 (fun i j x hx=>(hc b hb hm _).trans (hv i j x hx)) ih
 |fn f xs ys vs us hl hk _ _ ih1 ih2=>exact .fn f xs ys vs us hl hk ih1 ih2
 |ifc t x v _ ih=>exact .ifc t x v ih
 |e p=>exact .e p
 |row n xs b off len cap hn hcap hm hb hv=>exact .row n xs b off len cap hn hcap hm (Nat.lt_of_lt_of_le hb hs) fun j p hx hj=>(hc b hb hm _).trans (hv j p hx hj)
 |row0 n xs a cap hn=>exact .row0 n xs a cap hn
 |o i=>exact .o i
 |any v h1=>exact .any v h1
 |seq sz base ups tail v hin h1 _ ih=>exact .seq sz base ups tail v hin h1 ih
 |sptr sz base ups tail p off v hin h1 hp _ ih=>exact .sptr sz base ups tail p off v hin h1 hp ih
 |junk v=>exact .junk v
def shut (w:World) (D:Nat):World:=w.putObj D (.deferred none)
theorem shut_cell {w:World} {D:Nat} {ds:Option (List Deferred)} (hD:w.heap[D]?=some (.deferred ds)) (b o:Nat):(shut w D).cell? ⟨b,o,none⟩=w.cell? ⟨b,o,none⟩:=by
 by_cases e:b=D
 ·subst e
  have:=World.putObj_heap_same (w:=w) (o:=.deferred none) (Array.getElem?_eq_some_iff.1 hD).1
  simp[World.cell?,shut,this,hD]
 ·exact World.cell?_of_block (a:=⟨b,o,none⟩) (World.putObj_heap_other e)
theorem Rd.shut [Bk] [Ev] {m:Nat→St} {A:Nat→Prop} {w:World} {D:Nat} {ds:Option (List Deferred)} (hD:w.heap[D]?=some (.deferred ds)) (hn:∀id,m id≠.at D) {x:AV} {v:Value} (h:Rd m A w x v):Rd m A (shut w D) x v:=by
 have hsz:(Mc.shut w D).heap.size=w.heap.size:=World.putObj_size
 induction h with
 |pure x v h=>exact .pure x v (h.cells (by rw[hsz];exact Nat.le_refl _) fun b _ _ o=>shut_cell hD b o)
 |agg cs vs hl h1 _ ih=>exact .agg cs vs hl h1 ih
 |tup cs vs hl _ ih=>exact .tup cs vs hl ih
 |own T sz id i n b cap hm hb hn' hc hr =>
  refine .own T sz id i n b cap hm (by rw[hsz];exact hb) hn' hc (hr.trans ?_)
  have:(Mc.shut w D).heap[b]?=w.heap[b]?:=World.putObj_heap_other (by rintro rfl;exact hn id hm)
  simp[rowSize,this]
 |ownv T sz id i a hm=>exact .ownv T sz id i a hm
 |ownd T sz id i n a n' cap hm=>exact .ownd T sz id i n a n' cap hm
 |ptr sz id i off b hm hb=>exact .ptr sz id i off b hm (by rw[hsz];exact hb)
 |ptrd sz id i off a hm=>exact .ptrd sz id i off a hm
 |fn f xs ys vs us hl hk _ _ ih1 ih2=>exact .fn f xs ys vs us hl hk ih1 ih2
 |ifc t x v _ ih=>exact .ifc t x v ih
 |yld id b hm=>exact .yld id b hm
 |yldd id b hm=>exact .yldd id b hm
 |mpv id b hm=>exact .mpv id b hm
 |mpvd id b hm=>exact .mpvd id b hm
 |view T sz id i n b cap hm=>exact .view T sz id i n b cap hm
 |viewd T sz id i n a cap hm=>exact .viewd T sz id i n a cap hm
 |sown T sz id n b len cap hm hb hl hn' hc hr =>
  refine .sown T sz id n b len cap hm (by rw[hsz];exact hb) hl hn' hc (hr.trans ?_)
  have:(Mc.shut w D).heap[b]?=w.heap[b]?:=World.putObj_heap_other (by rintro rfl;exact hn id hm)
  simp[rowSize,this]
 |sownv T sz id n a hm hn'=>exact .sownv T sz id n a hm hn'
 |sownd T sz id n a n' cap hm=>exact .sownd T sz id n a n' cap hm
 |optr sz id p off b hm hb=>exact .optr sz id p off b hm (by rw[hsz];exact hb)
 |optrd sz id p off a hm=>exact .optrd sz id p off a hm
theorem HRel.shut [Bk] [Ev] {m:Nat→St} {A:Nat→Prop} {w:World} {D:Nat} {ds:Option (List Deferred)} (H:HRel m A h w) (hD:w.heap[D]?=some (.deferred ds)) (hn:∀id,m id≠.at D):HRel m A h (shut w D):=by
 have hsz:(Mc.shut w D).heap.size=w.heap.size:=World.putObj_size
 have hot:∀b,b≠D→(Mc.shut w D).heap[b]?=w.heap[b]?:=fun b e=>World.putObj_heap_other e
 refine⟨H.out,fun b hb=>by rw[hsz];exact H.old b hb,H.no,H.dead,?_,H.inj,?_,?_,H.scs⟩
 ·intro id T sz els hh
  obtain hv|⟨b,cs,h1,h2,h3,h4,h5⟩:=H.arrs id T sz els hh
  ·exact .inl hv
  ·exact .inr ⟨b,cs,h1,(hot b (by rintro rfl;exact hn id h1)).trans h2,h3,h4,fun i j x hx=>⟨(h5 i j x hx).1,(h5 i j x hx).2.shut hD hn⟩⟩
 ·intro t ht
  obtain⟨h1,h2,h3⟩:=H.glob t ht
  exact⟨h1,by rw[hsz];exact h2,fun j v hv=>(shut_cell hD t.1 j).trans (h3 j v hv)⟩
 ·intro id B hh hB
  obtain⟨b,h1,h2⟩:=H.others id B hh hB
  have hb:=hot b (by rintro rfl;exact hn id h1)
  refine⟨b,h1,?_⟩
  cases B with
  |lp st f ps as bd =>
   obtain⟨L,k1,k2,k3,k4,k5,k6,k7,k8⟩:=h2
   exact⟨L,hb.trans k1,k2,k3,k4,k5,k6,k7,fun i x hx=>(k8 i x hx).shut hD hn⟩
  |it s pos=>exact hb.trans h2
  |mp es =>
   obtain⟨ms,clock,k1,k2,k3⟩:=h2
   refine⟨ms,clock,hb.trans k1,k2,fun i k x hx=>?_⟩
   obtain⟨e,g1,g2,g3⟩:=k3 i k x hx
   exact⟨e,g1,g2,g3.shut hD hn⟩
  |_=>exact h2
theorem Ext.shut [Bk] [Ev] {m m':Nat→St} {w w':World} {D:Nat} (E:Ext m w m' w') (hD:w.heap.size≤D) (hn:∀id,m' id≠.at D):Ext m w m' (shut w' D):=by
 have hsz:(Mc.shut w' D).heap.size=w'.heap.size:=World.putObj_size
 have hot:∀b,b≠D→(Mc.shut w' D).heap[b]?=w'.heap[b]?:=fun b e=>World.putObj_heap_other e
 refine⟨E.os,E.tape,E.output,by rw[hsz];exact E.size,E.at_,E.dead,E.virt,?_,?_⟩
 ·intro b hb hu
  obtain⟨h1,h2⟩:=E.un b hb hu
  exact⟨h1,(hot b (by omega)).trans h2⟩
 ·intro id b h1 h2
  have:=hot b (by rintro rfl;exact hn id h2)
  have:=E.rows id b h1 h2
  simp only[rowSize]at *
  rw[hot b (by rintro rfl;exact hn id h2)]
  exact this
def shuts (w:World):List Nat→World
 |[]=>w
 |D::Ds=>shuts (shut w D) Ds
theorem shuts_ok [Bk] [Ev] {m m0:Nat→St} {A:Nat→Prop} {w0:World}:∀(Ds:List Nat) (w:World),HRel m A h w→Ds.Nodup→(∀D∈Ds,w.heap[D]?=some (.deferred (some []))∧∀id,m id≠.at D)→(∀D∈Ds,w0.heap.size≤D)→Ext m0 w0 m w →
  HRel m A h (shuts w Ds)∧Ext m0 w0 m (shuts w Ds)∧∀(x:AV) (v:Value),Rd m A w x v→Rd m A (shuts w Ds) x v
 |[],w,H,_,_,_,E=>⟨H,E,fun _ _ h=>h⟩
 |D::Ds,w,H,hnd,hD,hs,E=>by
  obtain⟨k1,k2⟩:=hD D List.mem_cons_self
  rw[List.nodup_cons]at hnd
  obtain⟨r1,r2,r3⟩:=shuts_ok Ds (shut w D) (H.shut k1 k2) hnd.2 (fun D' hm=>by
   obtain⟨q1,q2⟩:=hD D' (List.mem_cons_of_mem _ hm)
   exact⟨(World.putObj_heap_other (by rintro rfl;exact hnd.1 hm)).trans q1,q2⟩) (fun D' hm=>hs D' (List.mem_cons_of_mem _ hm)) (E.shut (hs D List.mem_cons_self) k2)
  exact⟨r1,r2,fun x v h=>r3 x v (h.shut k1 k2)⟩
theorem leaves_marks {F:Fence} {n:Nat} {fn:Func} {tmps:Array Value} {R:Ending→World→Prop}:∀(Ds:List Nat) (w:World),Ds.Nodup→(∀D∈Ds,w.heap[D]?=some (.deferred (some [])))→(∃v,(results fn tmps).run P (shuts w Ds)=.ok v (shuts w Ds)∧R (.returned v) (shuts w Ds))→LeavesInM F n P fn tmps R (Ds.map mark) .returning w
 |[],w,_,_,h=>h
 |D::Ds,w,hnd,hD,h=>by
  rw[List.nodup_cons]at hnd
  refine⟨by simp,.inl ⟨D,shut w D,rfl,run_takeDeferred (hD D List.mem_cons_self),?_⟩⟩
  exact leaves_marks Ds (shut w D) hnd.2 (fun D' hm=>(World.putObj_heap_other (by rintro rfl;exact hnd.1 hm)).trans (hD D' (List.mem_cons_of_mem _ hm))) h
theorem ACalls.of_body [Bk] [Ev] {F:FuncId} {fn:Func} {c:Code} {args:List AV} {R:AV→AH→Prop} (hf:P.funcs[F]?=some fn) (hb:fn.body=some c)
  (k:AWP P true c (bodyA P fn R) (args++List.replicate (fn.ntmps-args.length) .undef) h):ACalls P F args h R:=by
 intro m A w vs H hl hv
 have FR:FRel m A w (args++List.replicate (fn.ntmps-args.length) .undef) { tmps:=vs++Array.replicate (fn.ntmps-vs.size) Go.undef,defers:=[] }:=by
  refine⟨by simp[hl],?_,Marks.nil _ _⟩
  intro i x hx
  rcases Nat.lt_or_ge i args.length with h|h
  ·rw[List.getElem?_append_left h]at hx
   have:=hv i x hx
   have hlt:i<vs.size:=by omega
   simpa[Array.getElem?_append,hlt]using this
  ·rw[List.getElem?_append_right h,List.getElem?_replicate]at hx
   split at hx
   ·cases hx
    have hge:¬ i<vs.size:=by omega
    have:(vs++Array.replicate (fn.ntmps-vs.size) Go.undef).getD i Go.undef=Go.undef:=by
     simp[Array.getElem?_append,hge,Array.getElem?_replicate]
     split<;>rfl
    simp only[this]
    exact .pure _ _ .undef
   ·cases hx
 refine fw_calls (r:=none) (n:=9) |>.1 (callsIn_of_wp_marks hf hb trivial (wpIn_mono (k none m A w _ (fun _=>rfl) H FR) ?_))
 rintro e a' w' ⟨m',f',h',q,H',F',E',N'⟩
 have fin:∀x,resultsA P fn f' h'=some x→R x h'→LeavesInM (fw none) 9 P fn a'.tmps (fun e w'=>∃v u m' h',e=.returned v∧R u h'∧HRel m' A h' w'∧Rd m' A w' u v∧Ext m w m' w') a'.defers .returning w':=by
  intro x hx hR
  obtain⟨Ds,d1,d2,d3⟩:=F'.defers
  have d4:∀D∈Ds,w.heap.size≤D:=by
   intro D hD
   rcases N' (mark D) (by rw[d1];exact List.mem_map_of_mem hD)with h1|⟨D',h1,h2⟩
   ·exact absurd h1 List.not_mem_nil
   ·simp only[mark,Target.collected.injEq]at h1
    omega
  obtain⟨r1,r2,r3⟩:=shuts_ok Ds w' H' d2 d3 d4 E'
  have F'':FRel m' A (shuts w' Ds) f' { tmps:=a'.tmps,defers:=[] }:=⟨F'.size,fun i x hx=>r3 _ _ (F'.rd i x hx),Marks.nil _ _⟩
  obtain⟨v,s1,s2⟩:=resultsA_ok r1 F'' hx
  rw[d1]
  exact leaves_marks Ds w' d2 (fun D hD=>(d3 D hD).1) ⟨v,s1,v,x,m',h',rfl,hR,r1,s2,r2⟩
 cases e with
 |normal=>obtain⟨x,hx,hR⟩:=q;exact fin x hx hR
 |ret=>obtain⟨x,hx,hR⟩:=q;exact fin x hx hR
 |_=>exact q.elim
def recvB (P:Program) (t:TypeId) (pr:Bool):Bool:=match P.underlying t with
 |some (.pointer _)=>pr
 |some _=>!pr
 |none=>false
def methodA (P:Program) (t:TypeId) (name:String):Option FuncId :=
 match P.info? t with
 |some i=>match i.methods.find? (·.name==name)with
  |some m=>match m.func with
   |some (k,pr)=>if m.path.toList.isEmpty&&recvB P t pr then some k else none
   |none=>none
  |none=>none
 |none=>none
theorem method_run [Bk] [Ev] {t:TypeId} {name:String} {k:FuncId} (hk:methodA P t name=some k) (n:Nat) (v:Value) (w:World):(method (n+1) t v name).run P w=.ok (k,v) w:=by
 unfold methodA at hk
 split at hk
 ·rename_i i hi
  split at hk
  ·rename_i mm hm
   split at hk
   ·rename_i k' pr hf
    split at hk
    ·rename_i hc
     cases hk
     rw[Bool.and_eq_true]at hc
     have hp:mm.path.toList=[]:=by simpa using hc.1
     have hu:=hc.2
     unfold method
     simp only[Sem.run_bind,typeInfo,program,Sem.run,hi,Result.andThen_ok]
     simp only[hm,Sem.run_bind,Sem.run_pure,hp,follow,Result.andThen_ok,hf]
     unfold recvB at hu
     split at hu
     ·rename_i e he
      subst hu
      simp[receiverAt,run_underlying he,Place.get]
     ·rename_i d hne he
      have:pr=false:=by simpa using hu
      subst this
      cases d<;>first|(exact absurd rfl (hne _))|simp[receiverAt,run_underlying he,Place.get]
     ·cases hu
    ·cases hk
   ·cases hk
  ·cases hk
 ·cases hk
def calleeA (P:Program) (ρ:Operand→AV):Op→Option (FuncId×List AV)
 | .call { callee:=.value g,args,.. }=>match ρ g with
  | .fn (.func k) first captured=>some (k,first++args.toList.map ρ++captured)
  |_=>none
 | .call { callee:=.invoke g name,args,.. }=>match ρ g with
  | .ifc t v=>match methodA P t name with
   |some k=>some (k,v::args.toList.map ρ)
   |none=>none
  |_=>none
 |_=>none
theorem callFunc_enter [Bk] [Ev] {k : FuncId} {fn : Func} {c : Code} (hk : P.funcs[k]? = some fn) (hb : fn.body = some c) (hn : (fn.name == "runtime.NumGoroutine") = false) (args : Array Value) (w : World) : (callFunc k args).run P w = .ok (.enter k args) w := by
 simp only[beq_eq_false_iff_ne,ne_eq]at hn
 simp[callFunc,program,Sem.run,hk,hb,hn]
theorem StepOk.call [Bk] [Ev] {o : Oper} {k : FuncId} {args : List AV} {R : AV → AH → Prop} {fn : Func} {c : Code} (hc : calleeA P (aev f) o.op = some (k, args)) (hk : P.funcs[k]? = some fn) (hb : fn.body = some c) (hn : (fn.name == "runtime.NumGoroutine") = false) (hR : ACalls P k args h R) : StepOk P o f h R := by
 intro r' m A w a H F K Q hK
 unfold calleeA at hc
 split at hc
 ·rename_i g cargs ctys ho
  split at hc
  ·rename_i k' first captured hg
   simp only[Option.some.injEq,Prod.mk.injEq]at hc
   obtain⟨rfl,rfl⟩:=hc
   have h1:=F.eval g
   rw[hg]at h1
   obtain⟨vs,us,hv,hl1,hl2,r1,r2⟩:∃vs us,a.eval g=.func (.func k') vs us∧vs.size=first.length∧us.size=captured.length∧(∀(i:Nat) (x:AV),first[i]?=some x→Rd m A w x (vs.getD i Go.undef))∧∀(i:Nat) (x:AV),captured[i]?=some x→Rd m A w x (us.getD i Go.undef):=by
    generalize a.eval g=u at h1
    cases h1 with
    |pure _ _ h=>cases h with|fn _ _ _ vs us hl hk' h g=>exact⟨vs,us,rfl,hl,hk',fun i x hx=>.pure _ _ (h i x hx),fun i x hx=>.pure _ _ (g i x hx)⟩
    |fn _ _ _ vs us hl hk' h g=>exact⟨vs,us,rfl,hl,hk',h,g⟩
   have hexec:(execOp a.eval o).run P w=.ok (.enter k' (vs++cargs.map a.eval++us)) w:=by
    simp only[execOp,ho,resolve,Sem.run_bind]
    simp only[hv,Deferred.ofValue]
    simp[invoke,callFunc_enter hk hb hn]
   refine wpIn_enter hexec ((hR m A w _ H (by simp[hl1,hl2]) ?_).mono ?_)
   ·intro i x hx
    rcases Nat.lt_or_ge i first.length with h|h
    ·rw[List.append_assoc,List.getElem?_append_left h]at hx
     have:=r1 i x hx
     have hlt:i<vs.size:=by omega
     have e:(vs++cargs.map a.eval++us).getD i Go.undef=vs.getD i Go.undef:=by
      have h2:i<vs.size+cargs.size:=by omega
      simp[Array.getElem?_append,hlt,h2]
     rw[e];exact this
    ·rw[List.append_assoc,List.getElem?_append_right h]at hx
     rcases Nat.lt_or_ge (i-first.length) cargs.toList.length with h2|h2
     ·rw[List.getElem?_append_left (by simpa using h2)]at hx
      have:=map_rel F cargs _ _ hx
      have e:(vs++cargs.map a.eval++us).getD i Go.undef=(cargs.map a.eval).getD (i-first.length) Go.undef:=by
       have hge:¬ i<first.length:=by omega
       have h3:i-first.length<cargs.size:=by simpa using h2
       simp[Array.getElem?_append,hge,h3,hl1]
      rw[e];exact this
     ·rw[List.getElem?_append_right (by simpa using h2)]at hx
      have:=r2 _ _ hx
      have e:(vs++cargs.map a.eval++us).getD i Go.undef=us.getD (i-first.length-(cargs.toList.map (aev f)).length) Go.undef:=by
       have hge:¬ i<first.length:=by omega
       have h3:¬ i-first.length<cargs.size:=by simp at h2;omega
       simp[Array.getElem?_append,hge,h3,hl1,Nat.sub_sub]
      rw[e];exact this
   ·rintro e w' ⟨v,u,m',h',rfl,hRu,H',hx,E⟩
    exact⟨v,rfl,hK u h' v w' m' hRu H' hx E⟩
  ·cases hc
 ·rename_i g name cargs ctys ho
  split at hc
  ·rename_i t v hg
   split at hc
   ·rename_i k' hm
    simp only[Option.some.injEq,Prod.mk.injEq]at hc
    obtain⟨rfl,rfl⟩:=hc
    have h1:=F.eval g
    rw[hg]at h1
    obtain⟨u,hu,hr⟩:=h1.ifc_inv
    have hm':(method (P.types.size+Made.depth) t u name).run P w=.ok (k',u) w:=method_run hm (P.types.size+99) u w
    have hexec:(execOp a.eval o).run P w=.ok (.enter k' (#[u]++cargs.map a.eval)) w:=by
     simp only[execOp,ho,resolve,Sem.run_bind,Sem.run_pure,Result.andThen_ok]
     simp only[invoke,hu]
     simp only[Array.getElem?_append,Sem.run_bind]
     simp only[callMethod,program]
     have hext:(cargs.map a.eval).extract 0 cargs.size=cargs.map a.eval:=by
      apply Array.ext'
      simp
      exact List.take_of_length_le (by simp)
     simp[Sem.run,hm',callFunc_enter hk hb hn,hext]
    refine wpIn_enter hexec ((hR m A w _ H (by simp;omega) ?_).mono ?_)
    ·intro i x hx
     cases i with
     |zero=>simp at hx;subst hx;simpa[Array.getElem?_append]using hr
     |succ i =>
      have:=map_rel F cargs i x (by simpa using hx)
      have e:(#[u]++cargs.map a.eval).getD (i+1) Go.undef=(cargs.map a.eval).getD i Go.undef:=by simp[Array.getElem?_append]
      rw[e];exact this
    ·rintro e w' ⟨v',u',m',h',rfl,hRu,H',hx,E⟩
     exact⟨v',rfl,hK u' h' v' w' m' hRu H' hx E⟩
   ·cases hc
  ·cases hc
 ·cases hc
end
end Go.Proofs.Ytjccjmmbebiegaa.Mc
set_option linter.unusedVariables false
set_option linter.unusedSimpArgs false
namespace Go.Proofs.Ytjccjmmbebiegaa.Mc
open Go.RowKit
structure Eff where
 v:AV
 ups:List (Nat×Blk)
 rds:List Nat
 lo:Nat
 hi:Nat
 skip:Bool
def tmpsOf (l:List Operand):List Nat:=l.filterMap fun | .tmp t=>some t|_=>none
def guardTmp (ops:Array Oper) (o:Oper):List Nat :=
 match o.guard with
 |none=>[]
 |some (j,_)=>((ops[j]?).bind (·.dst)).toList
def footT (ops:Array Oper) (o:Oper):List Nat:=tmpsOf o.op.operands.toList++guardTmp ops o
section
variable {P:Program} {ops:Array Oper}
def Does [Bk] [Ev] (P:Program) (ops:Array Oper) (o:Oper) (E:Eff) (f:List AV) (h:AH):Prop :=
 ∀f' h',f'.length=f.length→(∀t∈footT ops o,f'[t]?=f[t]?)→(∀id∈E.rds,h' id=h id)→(∀id,E.lo≤id→id<E.hi→h' id=h id) →
  if E.skip then guardA ops o f'=some false∧E.v=.undef∧E.ups=[]else guardA ops o f'=some true∧StepOk P o f' h' (fun v h''=>v=E.v∧h''=upsB h' E.ups)
abbrev Sg:=List AV×AH
def app (x:Oper×Eff) (s:Sg):Sg:=(fset s.1 x.1.dst x.2.v,upsB s.2 x.2.ups)
def idsW (E:Eff):List Nat:=E.ups.map (·.1)
def seesB (E:Eff) (id:Nat):Bool:=E.rds.contains id||(decide (E.lo≤id)&&decide (id<E.hi))
def apartB (ops:Array Oper) (x y:Oper×Eff):Bool :=
 (match x.1.dst with|none=>true|some d=>!(footT ops y.1).contains d)&&(match y.1.dst with|none=>true|some d=>!(footT ops x.1).contains d) &&
 (match x.1.dst,y.1.dst with|some d,some d'=>d != d'|_,_=>true) &&
 (idsW x.2).all (fun id=>!seesB y.2 id&&!(idsW y.2).contains id)&&(idsW y.2).all (fun id=>!seesB x.2 id&&!(idsW x.2).contains id)
theorem upsB_not [Bk] [Ev] {u:List (Nat×Blk)}:∀{h:AH} {id:Nat},id ∉ u.map (·.1)→upsB h u id=h id:=by
 induction u with
 |nil=>intro h id _;rfl
 |cons p u ih =>
  intro h id hn
  simp only[List.map_cons,List.mem_cons,not_or]at hn
  simp only[upsB]
  rw[ih hn.2,bset_other _ _ hn.1]
theorem upsB_in [Bk] [Ev] {u:List (Nat×Blk)}:∀{h h':AH} {id:Nat},id∈u.map (·.1)→upsB h u id=upsB h' u id:=by
 induction u with
 |nil=>intro h h' id hn;simp at hn
 |cons p u ih =>
  intro h h' id hn
  simp only[upsB]
  by_cases h1:id∈u.map (·.1)
  ·exact ih h1
  ·simp only[List.map_cons,List.mem_cons]at hn
   have e:id=p.1:=hn.resolve_right h1
   rw[upsB_not h1,upsB_not h1,e,bset_same,bset_same]
theorem upsB_comm [Bk] [Ev] {u u':List (Nat×Blk)} (h:AH) (hd:∀id∈u.map (·.1),id ∉ u'.map (·.1)):upsB (upsB h u) u'=upsB (upsB h u') u:=by
 funext id
 by_cases h1:id∈u.map (·.1)
 ·rw[upsB_not (hd id h1)];exact upsB_in h1
 ·by_cases h2:id∈u'.map (·.1)
  ·rw[upsB_not (u:=u) h1];exact upsB_in h2
  ·rw[upsB_not h2,upsB_not h1,upsB_not h1,upsB_not h2]
theorem fset_other [Bk] [Ev] {f:List AV} {d:Option Tmp} {v:AV} {t:Nat} (h:d≠some t):(fset f d v)[t]?=f[t]?:=by
 cases d with
 |none=>rfl
 |some d=>simp only[fset];rw[List.getElem?_set_ne];rintro rfl;exact h rfl
theorem fset_len [Bk] [Ev] (f:List AV) (d:Option Tmp) (v:AV):(fset f d v).length=f.length:=by cases d<;>simp[fset]
theorem fset_comm [Bk] [Ev] {f:List AV} {d d':Option Tmp} {v v':AV} (h:∀t,d=some t→d'≠some t):fset (fset f d v) d' v'=fset (fset f d' v') d v:=by
 cases d with
 |none=>rfl
 |some d =>
  cases d' with
  |none=>rfl
  |some d'=>simp only[fset];exact List.set_comm _ _ (by rintro rfl;exact h _ rfl rfl)
structure Apart2 (ops:Array Oper) (x y:Oper×Eff):Prop where
 a:∀d,x.1.dst=some d→d ∉ footT ops y.1
 b:∀d,y.1.dst=some d→d ∉ footT ops x.1
 c:∀d,x.1.dst=some d→y.1.dst≠some d
 d:∀id∈idsW x.2,id ∉ y.2.rds∧¬ (y.2.lo≤id∧id<y.2.hi)∧id ∉ idsW y.2
 e:∀id∈idsW y.2,id ∉ x.2.rds∧¬ (x.2.lo≤id∧id<x.2.hi)∧id ∉ idsW x.2
theorem apartB_iff [Bk] [Ev] {x y:Oper×Eff} (h:apartB ops x y=true):Apart2 ops x y:=by
 simp only[apartB,Bool.and_eq_true,List.all_eq_true]at h
 obtain⟨⟨⟨⟨h1,h2⟩,h3⟩,h4⟩,h5⟩:=h
 refine⟨?_,?_,?_,?_,?_⟩
 ·intro d hd hm;rw[hd]at h1;simp at h1;exact h1 hm
 ·intro d hd hm;rw[hd]at h2;simp at h2;exact h2 hm
 ·intro d hd he;rw[hd,he]at h3;simp at h3
 ·intro id hid
  have:=h4 id hid
  simp[seesB]at this
  refine⟨this.1.1,fun⟨a,b⟩=>?_,this.2⟩
  have:=this.1.2;omega
 ·intro id hid
  have:=h5 id hid
  simp[seesB]at this
  refine⟨this.1.1,fun⟨a,b⟩=>?_,this.2⟩
  have:=this.1.2;omega
theorem Does.far [Bk] [Ev] {x y:Oper×Eff} (h:Apart2 ops x y) {s:Sg}:Does P ops y.1 y.2 s.1 s.2↔Does P ops y.1 y.2 (app x s).1 (app x s).2:=by
 have h1:∀t∈footT ops y.1,(app x s).1[t]?=s.1[t]?:=fun t ht=>fset_other fun e=>h.a t e ht
 have h2:∀id∈y.2.rds,(app x s).2 id=s.2 id:=fun id hid=>upsB_not fun hm=>(h.d id hm).1 hid
 have h3:∀id,y.2.lo≤id→id<y.2.hi→(app x s).2 id=s.2 id:=fun id a b=>upsB_not fun hm=>(h.d id hm).2.1 ⟨a,b⟩
 have h0:(app x s).1.length=s.1.length:=fset_len _ _ _
 constructor
 ·intro k f' h' e0 e1 e2 e3
  exact k f' h' (e0.trans h0) (fun t ht=>(e1 t ht).trans (h1 t ht)) (fun id hid=>(e2 id hid).trans (h2 id hid)) fun id a b=>(e3 id a b).trans (h3 id a b)
 ·intro k f' h' e0 e1 e2 e3
  exact k f' h' (e0.trans h0.symm) (fun t ht=>(e1 t ht).trans (h1 t ht).symm) (fun id hid=>(e2 id hid).trans (h2 id hid).symm) fun id a b=>(e3 id a b).trans (h3 id a b).symm
theorem app_comm [Bk] [Ev] {x y:Oper×Eff} (h:Apart2 ops x y) (s:Sg):app y (app x s)=app x (app y s):=by
 unfold app
 rw[fset_comm (fun t ht=>h.c t ht),upsB_comm _ (fun id hid=>(h.d id hid).2.2)]
theorem Apart2.symm [Bk] [Ev] {x y:Oper×Eff} (h:Apart2 ops x y):Apart2 ops y x:=⟨h.b,h.a,fun d hd he=>h.c d he hd,h.e,h.d⟩
def Run [Bk] [Ev] (P:Program) (ops:Array Oper):List (Oper×Eff)→Sg→Prop
 |[],_=>True
 |x::l,s=>Does P ops x.1 x.2 s.1 s.2∧Run P ops l (app x s)
def fin (l:List (Oper×Eff)) (s:Sg):Sg:=l.foldl (fun s x=>app x s) s
theorem Run.append [Bk] [Ev] {l l':List (Oper×Eff)}:∀{s:Sg},Run P ops (l++l') s↔Run P ops l s∧Run P ops l' (fin l s):=by
 induction l with
 |nil=>intro s;simp[Run,fin]
 |cons x l ih =>
  intro s
  simp only[List.cons_append,Run]
  rw[ih]
  simp only[fin,List.foldl_cons,and_assoc]
theorem fin_append [Bk] [Ev] (l l':List (Oper×Eff)) (s:Sg):fin (l++l') s=fin l' (fin l s):=by simp[fin]
theorem Run.move [Bk] [Ev] {t:Oper×Eff}:∀(pre post:List (Oper×Eff)) (s:Sg),(∀x∈pre,Apart2 ops t x)→Run P ops (t::(pre++post)) s→Run P ops (pre++t::post) s∧fin (pre++t::post) s=fin (t::(pre++post)) s
 |[],post,s,_,h=>⟨h,rfl⟩
 |x::pre,post,s,ha,h=>by
  have hx:=ha x (by simp)
  simp only[List.cons_append,Run]at h ⊢
  obtain⟨h1,h2,h3⟩:=h
  have k2:=(Does.far (P:=P) hx).2 h2
  have k1:=(Does.far (P:=P) hx.symm).1 h1
  rw[app_comm hx]at h3
  obtain⟨q1,q2⟩:=Run.move pre post (app x s) (fun y hy=>ha y (by simp[hy])) ⟨k1,h3⟩
  refine⟨⟨k2,q1⟩,?_⟩
  show fin (pre++t::post) (app x s)=fin (x::(pre++post)) (app t s)
  rw[q2]
  show fin (pre++post) (app t (app x s))=fin (pre++post) (app x (app t s))
  rw[app_comm hx]
theorem Run.perm [Bk] [Ev] {it:Nat→Oper×Eff} {anc:Nat→Nat→Prop}:∀(T L:List Nat) (s:Sg),L.Perm T→T.Pairwise (·<·)→L.Pairwise (fun a b=>¬ anc b a)→(∀i j,i∈T→j∈T→i<j→anc i j∨Apart2 ops (it i) (it j))→Run P ops (T.map it) s→Run P ops (L.map it) s∧fin (L.map it) s=fin (T.map it) s
 |[],L,s,hp,_,_,_,_=>by
  have:=hp.eq_nil
  subst this
  exact⟨trivial,rfl⟩
 |t::T,L,s,hp,hT,hL,hi,hr=>by
  have hmem:t∈L:=hp.symm.subset (by simp)
  obtain⟨pre,post,rfl⟩:=List.append_of_mem hmem
  have hp':(pre++post).Perm T:=by
   have:(t::(pre++post)).Perm (t::T):=(List.perm_middle.symm).trans hp
   exact List.Perm.cons_inv this
  rw[List.pairwise_cons]at hT
  rw[List.pairwise_append]at hL
  obtain⟨hL1,hL2,hL3⟩:=hL
  rw[List.pairwise_cons]at hL2
  have hL':(pre++post).Pairwise (fun a b=>¬ anc b a):=List.pairwise_append.2 ⟨hL1,hL2.2,fun a ha b hb=>hL3 a ha b (by simp[hb])⟩
  simp only[List.map_cons,Run]at hr
  obtain⟨q1,q2⟩:=Run.perm T (pre++post) (app (it t) s) hp' hT.2 hL' (fun i j h1 h2=>hi i j (by simp[h1]) (by simp[h2])) hr.2
  have hap:∀x∈pre.map it,Apart2 ops (it t) x:=by
   intro x hx
   obtain⟨y,hy,rfl⟩:=List.mem_map.1 hx
   have hyT:y∈T:=hp'.subset (by simp[hy])
   rcases hi t y (by simp) (by simp[hyT]) (hT.1 y hyT)with h|h
   ·exact absurd h (hL3 y hy t (by simp))
   ·exact h
  have hrun:Run P ops (it t::(pre.map it++post.map it)) s:=⟨hr.1,by rw[←List.map_append];exact q1⟩
  obtain⟨m1,m2⟩:=Run.move (P:=P) (pre.map it) (post.map it) s hap hrun
  refine⟨by simpa using m1,?_⟩
  have:(pre++t::post).map it=pre.map it++it t::post.map it:=by simp
  rw[this,m2]
  show fin (pre.map it++post.map it) (app (it t) s)=fin (T.map it) (app (it t) s)
  rw[←List.map_append];exact q2
def preO (ops:Array Oper) (i:Nat):List Nat:=((ops[i]?).map fun o=>(o.after.toList.filter (Region.binds .any)).map (·.on)).getD []
def ancTo (ops:Array Oper):Nat→List (List Nat)
 |0=>[]
 |n+1=>let acc:=ancTo ops n;acc++[(preO ops n++(preO ops n).flatMap (fun i=>acc.getD i [])).eraseDups]
theorem ancTo_len [Bk] [Ev] (ops:Array Oper):∀n,(ancTo ops n).length=n
 |0=>rfl
 |n+1=>by simp[ancTo,ancTo_len ops n]
theorem ancTo_listed [Bk] [Ev] {l:Nat→Prop} (down:∀i,l i→∀j∈preO ops i,l j):∀n j,j<n→l j→∀i∈(ancTo ops n).getD j [],l i
 |0,j,hj,_,_,_=>by omega
 |n+1,j,hj,hl,i,hi=>by
  simp only[ancTo]at hi
  rcases Nat.lt_or_ge j n with h|h
  ·rw[List.getD,List.getElem?_append_left (by rw[ancTo_len];exact h)]at hi
   exact ancTo_listed down n j h hl i hi
  ·have e:j=n:=by omega
   subst e
   rw[List.getD,List.getElem?_append_right (by rw[ancTo_len];omega),ancTo_len,Nat.sub_self]at hi
   simp only[List.getElem?_cons_zero,Option.getD_some]at hi
   rw[List.mem_eraseDups,List.mem_append,List.mem_flatMap]at hi
   rcases hi with hi|⟨p,hp,hi⟩
   ·exact down j hl i hi
   ·have hpl:=down j hl p hp
    rcases Nat.lt_or_ge p j with h2|h2
    ·exact ancTo_listed down j p h2 hpl i hi
    ·rw[List.getD,List.getElem?_eq_none (by rw[ancTo_len];exact h2)]at hi
     simp at hi
def ancB (ops:Array Oper) (i j:Nat):Bool:=((ancTo ops ops.size).getD j []).contains i
def drawB (ops:Array Oper) (Es:List Eff):Bool :=
 let anc:=ancTo ops ops.size
 (List.range ops.size).all fun j =>
  (preO ops j).all (fun i=>decide (i<j))&&(anc.getD j []).all (fun i=>decide (i<j)) &&
  (List.range j).all fun i=>(anc.getD j []).contains i||(match ops[i]?,Es[i]?,ops[j]?,Es[j]? with|some o,some E,some o',some E'=>apartB ops (o,E) (o',E')|_,_,_,_=>false)
theorem getD_setB [Bk] [Ev] {l:Array Bool} {i j:Nat} (hi:i<l.size):(l.setIfInBounds i true).getD j false=if i=j then true else l.getD j false:=by
 by_cases h:i=j
 ·subst h;simp[hi]
 ·simp[Array.getElem?_setIfInBounds_ne h,h]
theorem count_setB [Bk] [Ev] {l:Array Bool} {i:Nat} (hi:i<l.size) (hf:l.getD i true=false):(l.setIfInBounds i true).toList.count false+1=l.toList.count false:=by
 rw[Array.toList_setIfInBounds]
 have hi':i<l.toList.length:=by simpa using hi
 have e:l.toList[i]=false:=by
  have:l[i]=false:=by simpa[hi]using hf
  simpa using this
 have h2:∀(m:List Bool) (i:Nat) (h:i<m.length),m[i]=false→(m.set i true).count false+1=m.count false:=by
  intro m
  induction m with
  |nil=>intro i h;simp at h
  |cons b m ih =>
   intro i h hb
   cases i with
   |zero=>simp at hb;subst hb;simp
   |succ i =>
    have:=ih i (by simpa using h) (by simpa using hb)
    simp only[List.set_cons_succ,List.count_cons]
    omega
 exact h2 _ _ hi' e
def itemOf (ops:Array Oper) (Es:List Eff) (i:Nat):Oper×Eff:=(ops.getD i default,Es.getD i ⟨.undef,[],[],0,0,false⟩)
theorem AWP.draw [Bk] [Ev] {tp:Bool} {Q:Exit→List AV→AH→Prop} {id:Nat} {f f':List AV} {h h':AH} (hm:P.follows .mixedOrders=true) (Es:List Eff) (hl:Es.length=ops.size) (hb:drawB ops Es=true) (hr:Run P ops ((List.range ops.size).map (itemOf ops Es)) (f,h)) (hf:fin ((List.range ops.size).map (itemOf ops Es)) (f,h)=(f',h')) (k:Q .normal f' h') :
  AWP P tp (.region id ops true) Q f h:=by
 intro r' m A w a _ H F
 refine wpIn_region_any hm ?_
 obtain⟨Hd,Ed⟩:=H.drew
 have hchk:∀j,j<ops.size→(∀i∈preO ops j,i<j)∧(∀i,ancB ops i j=true→i<j)∧∀i,i<j→ancB ops i j=true∨Apart2 ops (itemOf ops Es i) (itemOf ops Es j):=by
  intro j hj
  have h1:=List.all_eq_true.1 hb j (List.mem_range.2 hj)
  simp only[Bool.and_eq_true,List.all_eq_true]at h1
  obtain⟨⟨h1,h2⟩,h3⟩:=h1
  refine⟨fun i hi=>by simpa using h1 i hi,fun i hi=>?_,fun i hi=>?_⟩
  ·simp only[ancB,List.contains_iff_mem]at hi
   simpa using h2 i (by simpa using hi)
  ·have h4:=h3 i (List.mem_range.2 hi)
   rw[Bool.or_eq_true]at h4
   rcases h4 with h4|h4
   ·exact .inl h4
   ·right
    have hi2:i<ops.size:=by omega
    have e1:ops[i]?=some ops[i]:=by simp[hi2]
    have e2:ops[j]?=some ops[j]:=by simp[hj]
    have e3:Es[i]?=some Es[i]:=by simp[List.getElem?_eq_getElem (show i<Es.length by omega)]
    have e4:Es[j]?=some Es[j]:=by simp[List.getElem?_eq_getElem (show j<Es.length by omega)]
    rw[e1,e2,e3,e4]at h4
    have:=apartB_iff h4
    have k1:itemOf ops Es i=(ops[i],Es[i]):=by simp[itemOf,hi2,List.getD,e3]
    have k2:itemOf ops Es j=(ops[j],Es[j]):=by simp[itemOf,hj,List.getD,e4]
    rw[k1,k2];exact this
 have key:∀(fuel:Nat) (listed:Array Bool) (a1:Act) (w1:World),listed.toList.count false≤fuel→listed.size=ops.size→(∀i,listed.getD i false=true→∀j∈preO ops i,listed.getD j false=true) →
   (∃L:List Nat,L.Nodup∧(∀i,i∈L↔listed.getD i false=true)∧L.Pairwise (fun a b=>¬ ancB ops b a=true)∧∃m1,HRel m1 A (fin (L.map (itemOf ops Es)) (f,h)).2 w1∧FRel m1 A w1 (fin (L.map (itemOf ops Es)) (f,h)).1 a1∧Ext m w m1 w1∧a1.defers=a.defers)→wpAnyIn (fw r') 9 P .any ops (Lift Q m A w a) fuel listed a1 w1:=by
  have done:∀(listed:Array Bool) (a1:Act) (w1:World),listed.size=ops.size→Region.ready .any ops listed=[] →
    (∃L:List Nat,L.Nodup∧(∀i,i∈L↔listed.getD i false=true)∧L.Pairwise (fun a b=>¬ ancB ops b a=true)∧∃m1,HRel m1 A (fin (L.map (itemOf ops Es)) (f,h)).2 w1∧FRel m1 A w1 (fin (L.map (itemOf ops Es)) (f,h)).1 a1∧Ext m w m1 w1∧a1.defers=a.defers)→Lift Q m A w a .normal a1 w1:=by
   intro listed a1 w1 hs hready hex
   obtain⟨L,hn,hmem,hpw,m1,H1,F1,E1,D1⟩:=hex
   have all:∀n i,i<n→i<ops.size→listed.getD i false=true:=by
    intro n
    induction n with
    |zero=>intro i h;omega
    |succ n ih =>
     intro i hin hi
     cases hli:listed.getD i false with
     |true=>rfl
     |false =>
      exfalso
      have:i∈Region.ready .any ops listed:=by
       refine mem_ready.2 ⟨?_,ops[i],by simp[hi],fun e he hbi=>?_⟩
       ·have:i<listed.size:=by rw[hs];exact hi
        simp[this]at hli ⊢
        exact hli
       ·have hp:e.on∈preO ops i:=by
         simp only[preO,Array.getElem?_eq_getElem hi,Option.map_some,Option.getD_some,List.mem_map,List.mem_filter]
         exact⟨e,⟨by simpa using he,hbi⟩,rfl⟩
        have:=(hchk i hi).1 _ hp
        exact ih e.on (by omega) (by omega)
      rw[hready]at this
      cases this
   have hperm:L.Perm (List.range ops.size):=by
    rw[List.perm_ext_iff_of_nodup hn List.nodup_range]
    intro i
    rw[hmem,List.mem_range]
    constructor
    ·intro hi
     rcases Nat.lt_or_ge i ops.size with h|h
     ·exact h
     ·have:listed.size≤i:=by omega
      simp[Array.getElem?_eq_none this]at hi
    ·intro hi;exact all (i+1) i (by omega) hi
   have:=(Run.perm (P:=P) (ops:=ops) (it:=itemOf ops Es) (anc:=fun i j=>ancB ops i j=true) _ L (f,h) hperm (by exact List.pairwise_lt_range) hpw (fun i j _ hj hij=>(hchk j (List.mem_range.1 hj)).2.2 i hij) hr).2
   rw[this,hf]at H1 F1
   exact⟨m1,f',h',k,H1,F1,E1,.same D1⟩
  intro fuel
  induction fuel with
  |zero =>
   intro listed a1 w1 hc hs hdown hex
   have hready:Region.ready .any ops listed=[]:=by
    cases hr0:Region.ready .any ops listed with
    |nil=>rfl
    |cons i r =>
     exfalso
     obtain⟨h1,o,ho,-⟩:=mem_ready.1 (show i∈Region.ready .any ops listed by rw[hr0];simp)
     have hi:i<ops.size:=(Array.getElem?_eq_some_iff.1 ho).1
     have:=count_setB (l:=listed) (i:=i) (by rw[hs];exact hi) h1
     omega
   exact⟨hready,done listed a1 w1 hs hready hex⟩
  |succ fuel ih =>
   intro listed a1 w1 hc hs hdown hex
   refine⟨fun hready=>done listed a1 w1 hs hready hex,?_⟩
   intro i hi
   obtain⟨h1,o,ho,hpre⟩:=mem_ready.1 hi
   have hil:i<ops.size:=(Array.getElem?_eq_some_iff.1 ho).1
   have his:i<listed.size:=by rw[hs];exact hil
   have h1':listed.getD i false=false:=by simp[his]at h1 ⊢;exact h1
   obtain⟨L,hn,hmem,hpw,m1,H1,F1,E1,D1⟩:=hex
   have hiL:i ∉ L:=fun hm=>by rw[hmem,h1']at hm;cases hm
   have hprel:∀j∈preO ops i,listed.getD j false=true:=by
    intro j hj
    simp only[preO,ho,Option.map_some,Option.getD_some,List.mem_map,List.mem_filter]at hj
    obtain⟨e,⟨he1,he2⟩,rfl⟩:=hj
    exact hpre e (by simpa using he1) he2
   have hdown':∀x,(listed.setIfInBounds i true).getD x false=true→∀j∈preO ops x,(listed.setIfInBounds i true).getD j false=true:=by
    intro x hx j hj
    rw[getD_setB his]at hx ⊢
    split
    ·rfl
    ·split at hx
     ·rename_i e;subst e;exact hprel j hj
     ·exact hdown x hx j hj
   have hanc:∀x y,(x∈L∨x=i)→ancB ops y x=true→y∈L∨y=i:=by
    intro x y hx hy
    have hxs:x<ops.size:=by
     rcases hx with hx|rfl
     ·rw[hmem]at hx
      rcases Nat.lt_or_ge x ops.size with h|h
      ·exact h
      ·have:listed.size≤x:=by omega
       simp[Array.getElem?_eq_none this]at hx
     ·exact hil
    have hlx:(listed.setIfInBounds i true).getD x false=true:=by
     rw[getD_setB his]
     split
     ·rfl
     ·rename_i hne
      rcases hx with hx|rfl
      ·exact(hmem x).1 hx
      ·exact absurd rfl hne
    have:=ancTo_listed (ops:=ops) (l:=fun x=>(listed.setIfInBounds i true).getD x false=true) hdown' ops.size x hxs hlx y (by simpa[ancB]using hy)
    rw[getD_setB his]at this
    split at this
    ·rename_i e;exact .inr e.symm
    ·exact .inl ((hmem y).2 this)
   have hpw2:(L++[i]).Pairwise (fun a b=>¬ ancB ops b a=true):=by
    refine List.pairwise_append.2 ⟨hpw,List.pairwise_singleton _ _,?_⟩
    intro x hx y hy hxy
    simp only[List.mem_singleton]at hy
    subst hy
    have hlx:=(hmem x).1 hx
    have hxs:x<ops.size:=by
     rcases Nat.lt_or_ge x ops.size with h|h
     ·exact h
     ·have:listed.size≤x:=by omega
      simp[Array.getElem?_eq_none this]at hlx
    have:=ancTo_listed (ops:=ops) (l:=fun x=>listed.getD x false=true) hdown ops.size x hxs hlx y (by simpa[ancB]using hxy)
    rw[h1']at this;cases this
   let rest:=(List.range ops.size).filter fun x=>!(L++[i]).contains x
   have hrest:∀x,x∈rest↔x<ops.size∧x ∉ L∧x≠i:=by
    intro x
    simp only[rest,List.mem_filter,List.mem_range,Bool.not_eq_true',List.contains_eq_mem,decide_eq_false_iff_not,List.mem_append,List.mem_singleton,not_or]
   have hLs:∀x∈L,x<ops.size:=by
    intro x hx
    have hlx:=(hmem x).1 hx
    rcases Nat.lt_or_ge x ops.size with h|h
    ·exact h
    ·have:listed.size≤x:=by omega
     simp[Array.getElem?_eq_none this]at hlx
   have hrestn:rest.Nodup:=List.nodup_range.sublist List.filter_sublist
   have hperm:(L++[i]++rest).Perm (List.range ops.size):=by
    have hnd:(L++[i]++rest).Nodup:=by
     rw[List.nodup_append,List.nodup_append]
     refine⟨⟨hn,by simp,?_⟩,hrestn,?_⟩
     ·intro x hx y hy he
      simp only[List.mem_singleton]at hy
      subst hy;subst he
      exact hiL hx
     ·intro x hx y hy he
      subst he
      have:=(hrest x).1 hy
      simp only[List.mem_append,List.mem_singleton]at hx
      rcases hx with hx|hx
      ·exact this.2.1 hx
      ·exact this.2.2 hx
    rw[List.perm_ext_iff_of_nodup hnd List.nodup_range]
    intro x
    simp only[List.mem_append,List.mem_singleton,hrest,List.mem_range]
    constructor
    ·rintro((h|rfl)|h)
     ·exact hLs x h
     ·exact hil
     ·exact h.1
    ·intro h
     by_cases hx:x∈L
     ·exact .inl (.inl hx)
     ·by_cases he:x=i
      ·exact .inl (.inr he)
      ·exact .inr ⟨h,hx,he⟩
   have hpw3:(L++[i]++rest).Pairwise (fun a b=>¬ ancB ops b a=true):=by
    refine List.pairwise_append.2 ⟨hpw2,?_,?_⟩
    ·have hs0:rest.Pairwise (·<·):=List.Pairwise.filter _ List.pairwise_lt_range
     refine hs0.imp_of_mem ?_
     intro x y hx hy hxy hb
     have:=(hchk x ((hrest x).1 hx).1).2.1 y hb
     omega
    ·intro x hx y hy hb
     have:=(hrest y).1 hy
     simp only[List.mem_append,List.mem_singleton]at hx
     rcases hanc x y hx hb with h|h
     ·exact this.2.1 h
     ·exact this.2.2 h
   have hrun:=(Run.perm (P:=P) (ops:=ops) (it:=itemOf ops Es) (anc:=fun i j=>ancB ops i j=true) _ (L++[i]++rest) (f,h) hperm (by exact List.pairwise_lt_range) hpw3 (fun i j _ hj hij=>(hchk j (List.mem_range.1 hj)).2.2 i hij) hr).1
   rw[List.map_append,List.map_append,Run.append,Run.append]at hrun
   have hdo:Does P ops (itemOf ops Es i).1 (itemOf ops Es i).2 (fin (L.map (itemOf ops Es)) (f,h)).1 (fin (L.map (itemOf ops Es)) (f,h)).2:=hrun.1.2.1
   have hio:(itemOf ops Es i).1=o:=by simp[itemOf,ho]
   have hstep:=hdo _ _ rfl (fun _ _=>rfl) (fun _ _=>rfl) (fun _ _ _=>rfl)
   rw[hio]at hstep
   have hmem':∀x,x∈L++[i]↔(listed.setIfInBounds i true).getD x false=true:=by
    intro x
    rw[getD_setB his]
    simp only[List.mem_append,List.mem_singleton,hmem]
    constructor
    ·rintro(h|rfl)
     ·split<;>first|rfl|exact h
     ·simp
    ·intro h
     split at h
     ·rename_i e;exact .inr e.symm
     ·exact .inl h
   have hn':(L++[i]).Nodup:=by
    rw[List.nodup_append]
    refine⟨hn,by simp,?_⟩
    intro x hx y hy he
    simp only[List.mem_singleton]at hy
    subst hy;subst he
    exact hiL hx
   have hfin:fin ((L++[i]).map (itemOf ops Es)) (f,h)=app (o,(itemOf ops Es i).2) (fin (L.map (itemOf ops Es)) (f,h)):=by
    rw[List.map_append,fin_append]
    show app (itemOf ops Es i) _=_
    rw[←hio]
   have hcount:=count_setB his h1
   unfold wpOpIn
   simp only[ho]
   split at hstep
   ·obtain⟨hg,hv,hu⟩:=hstep
    rw[if_neg (by rw[guardA_ok F1 hg];simp)]
    refine⟨fun _ _=>trivial,ih _ _ _ (by omega) (by simpa using hs) hdown' ⟨L++[i],hn',hmem',hpw2,m1,?_,?_,E1,(put_defers _ _ _).trans D1⟩⟩
    ·rw[hfin];simp only[app,hu,upsB];exact H1
    ·rw[hfin];simp only[app,hv];exact F1.put (Ext.refl _ _) (.pure _ _ .undef) o.dst
   ·obtain⟨hg,hst⟩:=hstep
    rw[if_pos (guardA_ok F1 hg)]
    refine hst r' m1 A w1 a1 H1 F1 _ _ ?_
    rintro v h2 x w2 m2 ⟨rfl,rfl⟩ H2 hx E2
    refine ih _ _ _ (by omega) (by simpa using hs) hdown' ⟨L++[i],hn',hmem',hpw2,m2,?_,?_,E1.trans E2,(put_defers _ _ _).trans D1⟩
    ·rw[hfin];exact H2
    ·rw[hfin];exact F1.put E2 hx o.dst
 refine key ops.size _ a _ (by simp) (by simp) (by intro i hi;simp[Array.getElem?_replicate]at hi;split at hi<;>simp at hi) ⟨[],List.nodup_nil,?_,List.Pairwise.nil,m,Hd,F.ext Ed,Ed,rfl⟩
 intro i
 simp[Array.getElem?_replicate]
 split<;>simp
end
end Go.Proofs.Ytjccjmmbebiegaa.Mc
