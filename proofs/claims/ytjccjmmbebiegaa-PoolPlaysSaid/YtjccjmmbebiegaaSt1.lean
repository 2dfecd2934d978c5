/-
 What there is, as plain data; how it reads. No program in sight.
-/
import Derived.Test.YtjccjmmbebiegaaMX
import Derived.Test.YtjccjmmbebiegaaFifoA
import Derived.Test.YtjccjmmbebiegaaLine
set_option linter.unusedVariables false
set_option linter.unusedSimpArgs false
namespace Go.Proofs.Ytjccjmmbebiegaa
open Go.RowKit Mc
structure RcD where
 (entity item loc qty value opn accrued back:Int)
structure SaD where
 (entity item loc qty back cost profit period:Int)
 waits:Bool
structure TrD where
 (src dst item qty value profit:Int)
structure PoolD where
 layers:List Lay
 (p0 p1 p2:Int)
structure EntC where
 now:Int
 closed:Bool
 pools:List PoolD
 bal:List Int
 rolls:List (List Int)
 prices:List Int
 down:List Int
structure EntD extends EntC where
 ahead:List EntC
structure StD where
 (entities periods:Int)
 weights:List Int
 methods:List (List Int)
 costs:List (List Int)
 ents:List EntD
 receipts:List RcD
 sales:List SaD
 transits:List TrD
 done:Int
def rowI (l:List Int):List AV:=l.map AV.i
def litI (k:Nat) (l:List (List Int)):AV:=.lit k (l.map rowI)
def Lay.r (x:Lay):List Int:=[x.q,x.v,x.p]
def Lin.r (x:Lin):List Int:=[x.a,x.n]
def RcD.r (x:RcD):List Int:=[x.entity,x.item,x.loc,x.qty,x.value,x.opn,x.accrued,x.back]
def TrD.r (x:TrD):List Int:=[x.src,x.dst,x.item,x.qty,x.value,x.profit]
def SaD.row (x:SaD):List AV:=[.i x.entity,.i x.item,.i x.loc,.i x.qty,.i x.back,.i x.cost,.i x.profit,.i x.period,.c (.bool x.waits)]
def intsR (l:List Int):List (List AV):=l.map fun v=>[.i v]
def laysR (l:List Lay):List (List AV):=l.map fun x=>rowI x.r
def linsR (l:List Lin):List (List AV):=l.map fun x=>rowI x.r
def rcsR (l:List RcD):List (List AV):=l.map fun x=>rowI x.r
def trsR (l:List TrD):List (List AV):=l.map fun x=>rowI x.r
def sasR (l:List SaD):List (List AV):=l.map SaD.row
def rollsR (l:List (List Int)):List (List AV):=l.map rowI
def intssR (l:List (List Int)):List (List AV):=l.map fun x=>[.lit 1 (intsR x)]
def PoolD.row (p:PoolD):List AV:=[.lit 3 (laysR p.layers),.i p.p0,.i p.p1,.i p.p2]
def poolsR (l:List PoolD):List (List AV):=l.map PoolD.row
def EntC.row (x:EntC) (ahead:List (List AV)):List AV:=[.i x.now,.c (.bool x.closed),.lit 4 (poolsR x.pools),.lit 1 (intsR x.bal),.lit 11 (rollsR x.rolls),.lit 1 (intsR x.prices),.lit 1 (intsR x.down),.lit 8 ahead]
def aheadR (l:List EntC):List (List AV):=l.map fun x=>x.row []
def EntD.row (x:EntD):List AV:=x.toEntC.row (aheadR x.ahead)
def entsR (l:List EntD):List (List AV):=l.map EntD.row
def StD.av (s:StD):AV:=.agg [.i s.entities,.i s.periods,.lit 1 (intsR s.weights),.lit 1 (intssR s.methods),.lit 1 (intssR s.costs),.lit 8 (entsR s.ents),.lit 8 (rcsR s.receipts),.lit 9 (sasR s.sales),.lit 6 (trsR s.transits),.i s.done]
def Lay.av (x:Lay):AV:=.agg (rowI x.r)
def PoolD.av (p:PoolD):AV:=.agg p.row
def ClR (l:List (List AV)):Prop:=∀r∈l,∀x∈r,Cl x
theorem ClR.lit {sz:Nat} {l:List (List AV)} (h:ClR l):Cl (.lit sz l):=.lit sz l h
theorem ClR.nil:ClR []:=fun r h=>absurd h List.not_mem_nil
theorem cl_rowI (l:List Int):∀x∈rowI l,Cl x:=by
 intro x hx
 obtain⟨v,-,rfl⟩:=List.mem_map.1 hx
 exact .c _
theorem ClR.map {α:Type} {f:α→List AV} (h:∀a x,x∈f a→Cl x) (l:List α):ClR (l.map f):=by
 intro r hr x hx
 obtain⟨a,-,rfl⟩:=List.mem_map.1 hr
 exact h a x hx
theorem cl_ints (l:List Int):ClR (intsR l):=ClR.map (fun v x hx=>by rw[List.mem_singleton]at hx;subst hx;exact .c _) l
theorem cl_lays (l:List Lay):ClR (laysR l):=ClR.map (fun v x hx=>cl_rowI _ x hx) l
theorem cl_lins (l:List Lin):ClR (linsR l):=ClR.map (fun v x hx=>cl_rowI _ x hx) l
theorem cl_rcs (l:List RcD):ClR (rcsR l):=ClR.map (fun v x hx=>cl_rowI _ x hx) l
theorem cl_trs (l:List TrD):ClR (trsR l):=ClR.map (fun v x hx=>cl_rowI _ x hx) l
theorem cl_rolls (l:List (List Int)):ClR (rollsR l):=ClR.map (fun v x hx=>cl_rowI _ x hx) l
theorem cl_sas (l:List SaD):ClR (sasR l):=ClR.map (fun v x hx=>by simp only[SaD.row,List.mem_cons,List.not_mem_nil,or_false]at hx;rcases hx with rfl|rfl|rfl|rfl|rfl|rfl|rfl|rfl|rfl<;>exact .c _) l
theorem cl_intss (l:List (List Int)):ClR (intssR l):=ClR.map (fun v x hx=>by rw[List.mem_singleton]at hx;subst hx;exact(cl_ints v).lit) l
theorem cl_poolRow (p:PoolD):∀x∈p.row,Cl x:=by
 intro x hx
 simp only[PoolD.row,List.mem_cons,List.not_mem_nil,or_false]at hx
 rcases hx with rfl|rfl|rfl|rfl
 ·exact(cl_lays _).lit
 all_goals exact .c _
theorem cl_pools (l:List PoolD):ClR (poolsR l):=ClR.map (fun v x hx=>cl_poolRow v x hx) l
theorem cl_entRow (e:EntC) {ah:List (List AV)} (ha:ClR ah):∀x∈e.row ah,Cl x:=by
 intro x hx
 simp only[EntC.row,List.mem_cons,List.not_mem_nil,or_false]at hx
 rcases hx with rfl|rfl|rfl|rfl|rfl|rfl|rfl|rfl
 ·exact .c _
 ·exact .c _
 ·exact(cl_pools _).lit
 ·exact(cl_ints _).lit
 ·exact(cl_rolls _).lit
 ·exact(cl_ints _).lit
 ·exact(cl_ints _).lit
 ·exact ha.lit
theorem cl_ahead (l:List EntC):ClR (aheadR l):=ClR.map (fun v x hx=>cl_entRow v ClR.nil x hx) l
theorem cl_ents (l:List EntD):ClR (entsR l):=ClR.map (fun v x hx=>cl_entRow _ (cl_ahead _) x hx) l
theorem cl_st (s:StD):Cl s.av:=by
 refine .agg _ fun x hx=>?_
 simp only[List.mem_cons,List.not_mem_nil,or_false]at hx
 rcases hx with rfl|rfl|rfl|rfl|rfl|rfl|rfl|rfl|rfl|rfl
 ·exact .c _
 ·exact .c _
 ·exact(cl_ints _).lit
 ·exact(cl_intss _).lit
 ·exact(cl_intss _).lit
 ·exact(cl_ents _).lit
 ·exact(cl_rcs _).lit
 ·exact(cl_sas _).lit
 ·exact(cl_trs _).lit
 ·exact .c _
theorem cl_cons {x:AV} {l:List AV} (h:Cl x) (hl:∀y∈l,Cl y):∀y∈x::l,Cl y:=by
 intro y hy
 rcases List.mem_cons.1 hy with rfl|hy
 ·exact h
 ·exact hl y hy
theorem cl_nil:∀y∈([]:List AV),Cl y:=fun y h=>absurd h List.not_mem_nil
theorem clR_cons {r:List AV} {l:List (List AV)} (h:∀x∈r,Cl x) (hl:ClR l):ClR (r::l):=by
 intro y hy
 rcases List.mem_cons.1 hy with rfl|hy
 ·exact h
 ·exact hl y hy
theorem clR_append {a b:List (List AV)} (h:ClR a) (g:ClR b):ClR (a++b):=by
 intro y hy
 rcases List.mem_append.1 hy with hy|hy
 ·exact h y hy
 ·exact g y hy
theorem clR_set {a:List (List AV)} {i:Nat} {r:List AV} (h:ClR a) (g:∀x∈r,Cl x):ClR (a.set i r):=by
 intro y hy
 rcases List.mem_or_eq_of_mem_set hy with hy|rfl
 ·exact h y hy
 ·exact g
theorem flatten_len {k:Nat}:∀(l:List (List Int)),(∀r∈l,r.length=k)→l.flatten.length=l.length*k
 |[],_=>by simp
 |r::l,h=>by
  rw[List.flatten_cons,List.length_append,flatten_len l (fun r hr=>h r (List.mem_cons_of_mem _ hr)),h r List.mem_cons_self,List.length_cons,Nat.succ_mul]
  omega
theorem flatten_get {k:Nat}:∀(l:List (List Int)),(∀r∈l,r.length=k)→∀(i j:Nat) (r:List Int),l[i]?=some r→j<k→l.flatten.getD (i*k+j) 0=r.getD j 0
 |[],_,i,j,r,h,_=>by simp at h
 |x::l,hl,0,j,r,h,hj=>by
  simp only[List.getElem?_cons_zero,Option.some.injEq]at h
  subst h
  have:=hl x List.mem_cons_self
  rw[List.flatten_cons,List.getD,List.getElem?_append_left (by omega)]
  simp[List.getD]
 |x::l,hl,i+1,j,r,h,hj=>by
  have h1:=hl x List.mem_cons_self
  have ih:=flatten_get l (fun r hr=>hl r (List.mem_cons_of_mem _ hr)) i j r (by simpa using h) hj
  rw[List.flatten_cons,List.getD,List.getElem?_append_right (by rw[Nat.succ_mul];omega),←ih,List.getD]
  congr 2
  rw[Nat.succ_mul];omega
theorem row_of_rdl {A:Nat→Prop} {w:World} {k:Nat} {l:List (List Int)} {v:Value} (h:@RdL bk0 ev0 A w (litI k l) v) (hI:AllI l.flatten) (hk:∀r∈l,r.length=k):∃a cap,v=.slice a l.length cap∧Row w k a l.length cap l.flatten:=by
 have hlen:l.flatten.length=l.length*k:=flatten_len l hk
 generalize hy:litI k l=y at h
 cases h with
 |lit s es b off cap vs hA hb hc hsz h1 hv hr =>
  unfold litI at hy
  cases hy
  have hl:(l.map rowI).length=l.length:=by simp
  rw[hl]at hc ⊢
  refine⟨_,cap,rfl,⟨hlen,hc.1,hc.2,hI,.inr ⟨b,off,rfl,hb,?_⟩⟩⟩
  intro i hi
  have hi':i<l.length*k:=by rw[←hlen];exact hi
  have k0:0<k:=by
   rcases Nat.eq_zero_or_pos k with h|h
   ·rw[h]at hi';simp at hi'
   ·exact h
  have hq:i/k<l.length:=(Nat.div_lt_iff_lt_mul k0).2 hi'
  have hm:i%k<k:=Nat.mod_lt _ k0
  have hrl:(l[i/k]).length=k:=hk _ (List.getElem_mem hq)
  have e3:i/k*k+i%k=i:=by rw[Nat.mul_comm];exact Nat.div_add_mod i k
  have ha:at2 (l.map rowI) (i/k) (i%k)=some (AV.i ((l[i/k]).getD (i%k) 0)):=by
   unfold at2 rowI
   rw[List.getElem?_map,List.getElem?_eq_getElem hq]
   have hlt:i%k<(l[i/k]).length:=by omega
   simp only[Option.map_some,Option.bind_some,List.getElem?_map,List.getD,List.getElem?_eq_getElem hlt,Option.getD_some]
  have e1:=hv _ _ _ ha
  have e2:=hr _ _ _ ha
  rw[e3]at e1
  rw[e1]
  have e4:=flatten_get l hk (i/k) (i%k) _ (List.getElem?_eq_getElem hq) hm
  rw[e3]at e4
  rw[e4]
  generalize vs (i/k) (i%k)=u at e2
  cases e2
  rfl
 |lit0 s a cap hm =>
  unfold litI at hy
  injection hy with e1 e2
  rw[List.map_eq_nil_iff]at e2
  subst e2
  exact⟨a,cap,rfl,⟨hlen,Nat.zero_le _,hm,hI,.inl rfl⟩⟩
 |_=>unfold litI at hy;cases hy
theorem rdl_of_row {A:Nat→Prop} {w:World} {k:Nat} {l:List (List Int)} {a:Option Addr} {cap:Nat} (hk:∀r∈l,r.length=k) (hc:l.length≤cap) (hm:cap≤maxLen)
  (h:l.length=0∨∃b off,a=some ⟨b,off,none⟩∧¬ A b∧b<w.heap.size∧CellsAt w b off l.flatten):@RdL bk0 ev0 A w (litI k l) (.slice a l.length cap):=by
 rcases h with h|⟨b,off,rfl,hA,hb,hC⟩
 ·have:l=[]:=List.length_eq_zero_iff.1 h
  subst this
  exact @RdL.lit0 bk0 ev0 A w k a cap hm
 ·have hl:(l.map rowI).length=l.length:=by simp
  unfold litI
  rw[←hl]at hc ⊢
  have key:∀(i j:Nat) (x:AV),at2 (l.map rowI) i j=some x→i<l.length∧j<k∧x=AV.i (l.flatten.getD (i*k+j) 0):=by
   intro i j x hx
   unfold at2 rowI at hx
   rw[List.getElem?_map]at hx
   cases hr:l[i]? with
   |none=>rw[hr]at hx;cases hx
   |some r =>
    rw[hr]at hx
    simp only[Option.map_some,Option.bind_some,List.getElem?_map]at hx
    obtain⟨z,hz,rfl⟩:=Option.map_eq_some_iff.1 hx
    have hrk:=hk r (List.mem_of_getElem? hr)
    have hj:j<k:=by rw[←hrk];exact(List.getElem?_eq_some_iff.1 hz).1
    refine⟨(List.getElem?_eq_some_iff.1 hr).1,hj,?_⟩
    rw[flatten_get l hk i j r hr hj,List.getD,hz]
    rfl
  refine @RdL.lit bk0 ev0 A w k _ b off cap (fun i j=>.int .i64 (l.flatten.getD (i*k+j) 0)) hA hb ⟨hc,hm⟩ ?_ ?_ ?_ ?_
  ·intro e he
   obtain⟨r,hr,rfl⟩:=List.mem_map.1 he
   unfold rowI
   rw[List.length_map];exact hk r hr
  ·intro i j x hx
   obtain⟨-,-,rfl⟩:=key i j x hx
   rfl
  ·intro i j x hx
   obtain⟨h1,h2,-⟩:=key i j x hx
   refine hC _ ?_
   rw[flatten_len l hk]
   have:(i+1)*k≤l.length*k:=Nat.mul_le_mul_right _ h1
   rw[Nat.succ_mul]at this
   omega
  ·intro i j x hx
   obtain⟨-,-,rfl⟩:=key i j x hx
   exact @RdL.c bk0 ev0 A w _
theorem flat_r (l:List Lay):(l.map Lay.r).flatten=flat l:=by
 induction l with
 |nil=>rfl
 |cons x l ih=>simp only[List.map_cons,List.flatten_cons,ih,flat,List.flatMap_cons];rfl
theorem flat1_r (l:List Int):(l.map fun v=>[v]).flatten=l:=by
 induction l with
 |nil=>rfl
 |cons x l ih=>simp only[List.map_cons,List.flatten_cons,ih];rfl
theorem lays_lit (l:List Lay):AV.lit 3 (laysR l)=litI 3 (l.map Lay.r):=by unfold laysR litI;rw[List.map_map];rfl
theorem ints_lit (l:List Int):AV.lit 1 (intsR l)=litI 1 (l.map fun v=>[v]):=by unfold intsR litI;rw[List.map_map];rfl
end Go.Proofs.Ytjccjmmbebiegaa
