/-
 What there is, by entity and item: what is asked of a state's shape; what the stock's functions answer. No program in sight.
-/
import Derived.Test.YtnalblnmplnhmaaGreatSt3
set_option linter.unusedVariables false
set_option linter.unusedSimpArgs false
namespace Go.Proofs.YtnalblnmplnhmaaGreat
open Go.RowKit Mc
def StD.withEnts (S:StD) (E:List EntD):StD:={ S with ents:=E }
def StD.avE (S:StD) (R:List (List AV)):AV:=.agg [.i S.entities,.i S.periods,.lit 1 (intsR S.weights),.lit 1 (intssR S.methods),.lit 1 (intssR S.costs),.lit 8 R,.lit 8 (rcsR S.receipts),.lit 9 (sasR S.sales),.lit 6 (trsR S.transits),.i S.done]
theorem StD.av_avE (S:StD):S.av=S.avE (entsR S.ents):=rfl
theorem cl_avE {S:StD} {R:List (List AV)} (h:ClR R):Cl (S.avE R) :=
 .agg _ (cl_cons (.c _) (cl_cons (.c _) (cl_cons (cl_ints _).lit (cl_cons (cl_intss _).lit (cl_cons (cl_intss _).lit (cl_cons h.lit (cl_cons (cl_rcs _).lit (cl_cons (cl_sas _).lit (cl_cons (cl_trs _).lit (cl_cons (.c _) cl_nil))))))))))
def entRw (now:Int) (closed:Bool) (P B R Pr D A:List (List AV)):List AV:=[.i now,.c (.bool closed),.lit 4 P,.lit 1 B,.lit 11 R,.lit 1 Pr,.lit 1 D,.lit 8 A]
theorem cl_entRw {now:Int} {closed:Bool} {P B R Pr D A:List (List AV)} (h1:ClR P) (h2:ClR B) (h3:ClR R) (h4:ClR Pr) (h5:ClR D) (h6:ClR A):∀x∈entRw now closed P B R Pr D A,Cl x :=
 cl_cons (.c _) (cl_cons (.c _) (cl_cons h1.lit (cl_cons h2.lit (cl_cons h3.lit (cl_cons h4.lit (cl_cons h5.lit (cl_cons h6.lit cl_nil)))))))
structure Wx (S:StD) (e item now:Int) (closed:Bool) (pools:List PoolD) (bal:List Int) (rolls:List (List Int)) (prices down:List Int) (ahead:List EntC) (ms cs:List Int) (m c:Int):Prop where
 hn:S.ents.length≤4
 e0:0≤e
 e1:e<S.ents.length
 hx:S.ents[e.toNat]?=some ⟨⟨now,closed,pools,bal,rolls,prices,down⟩,ahead⟩
 hw:S.weights.length≤5
 i0:0≤item
 i1:item<S.weights.length
 hmm:S.methods.length=S.ents.length
 hcc:S.costs.length=S.ents.length
 hms:S.methods[e.toNat]?=some ms
 hcs:S.costs[e.toNat]?=some cs
 hml:ms.length=S.weights.length
 hcl:cs.length=S.weights.length
 hpl:pools.length=2*S.weights.length
 hrl:rolls.length=S.weights.length
 hm:ms[item.toNat]?=some m
 hc:cs[item.toNat]?=some c
 mb:I64 m
 cb:I64 c
theorem entsAt {l:List EntD} {k:Nat} {now:Int} {closed:Bool} {pools:List PoolD} {bal:List Int} {rolls:List (List Int)} {prices down:List Int} {ahead:List EntC} (h:l[k]?=some ⟨⟨now,closed,pools,bal,rolls,prices,down⟩,ahead⟩):(entsR l)[k]?=some (entRw now closed (poolsR pools) (intsR bal) (rollsR rolls) (intsR prices) (intsR down) (aheadR ahead)):=by
 rw[entsR,List.getElem?_map,h];rfl
theorem gIntsAt {z:List Int} {k:Nat} {v:Int} (h:z[k]?=some v):(intsR z)[k]?=some [.i v]:=by
 rw[intsR,List.getElem?_map,h];rfl
theorem gIntssAt {z:List (List Int)} {k:Nat} {v:List Int} (h:z[k]?=some v):(intssR z)[k]?=some [.lit 1 (intsR v)]:=by
 rw[intssR,List.getElem?_map,h];rfl
theorem poolsAt {z:List PoolD} {k:Nat} {p:PoolD} (h:z[k]?=some p):(poolsR z)[k]?=some [.lit 3 (laysR p.layers),.i p.p0,.i p.p1,.i p.p2]:=by
 rw[poolsR,List.getElem?_map,h];rfl
theorem rollsAt {z:List (List Int)} {k:Nat} {v:List Int} (h:z[k]?=some v):(rollsR z)[k]?=some (rowI v):=by
 rw[rollsR,List.getElem?_map,h];rfl
theorem sasAt {z:List SaD} {k:Nat} {x:SaD} (h:z[k]?=some x):(sasR z)[k]?=some [.i x.entity,.i x.item,.i x.loc,.i x.qty,.i x.back,.i x.cost,.i x.profit,.i x.period,.c (.bool x.waits)]:=by
 rw[sasR,List.getElem?_map,h];rfl
theorem poolsR_set (l:List PoolD) (k:Nat) (p:PoolD):poolsR (l.set k p)=(poolsR l).set k p.row:=by simp[poolsR,List.map_set]
theorem rollsR_set (l:List (List Int)) (k:Nat) (p:List Int):rollsR (l.set k p)=(rollsR l).set k (rowI p):=by simp[rollsR,List.map_set]
theorem entsR_set (l:List EntD) (k:Nat) (x:EntD):entsR (l.set k x)=(entsR l).set k x.row:=by simp[entsR,List.map_set]
def StD.setRow (S:StD) (e:Int) (r:List AV):AV:=S.avE ((entsR S.ents).set e.toNat r)
theorem StD.setEnt_av (S:StD) (e:Int) (x:EntD):(S.setEnt e x).av=S.setRow e x.row:=by
 rw[StD.av_avE,StD.setEnt,StD.setRow]
 show StD.avE S (entsR (S.ents.set e.toNat x))=_
 rw[entsR_set]
theorem cl_setRow {S:StD} {e:Int} {r:List AV} (h:∀x∈r,Cl x):Cl (S.setRow e r):=cl_avE (clR_set (cl_ents _) h)
def StD.avX (S:StD) (R RC SA TR:List (List AV)) (d:Int):AV:=.agg [.i S.entities,.i S.periods,.lit 1 (intsR S.weights),.lit 1 (intssR S.methods),.lit 1 (intssR S.costs),.lit 8 R,.lit 8 RC,.lit 9 SA,.lit 6 TR,.i d]
theorem cl_avX {S:StD} {R RC SA TR:List (List AV)} {d:Int} (h:ClR R) (h2:ClR RC) (h3:ClR SA) (h4:ClR TR):Cl (S.avX R RC SA TR d) :=
 .agg _ (cl_cons (.c _) (cl_cons (.c _) (cl_cons (cl_ints _).lit (cl_cons (cl_intss _).lit (cl_cons (cl_intss _).lit (cl_cons h.lit (cl_cons h2.lit (cl_cons h3.lit (cl_cons h4.lit (cl_cons (.c _) cl_nil))))))))))
theorem cl_saRow (x:SaD):∀y∈x.row,Cl y:=fun y hy=>by simp only[SaD.row,List.mem_cons,List.not_mem_nil,or_false]at hy;rcases hy with rfl|rfl|rfl|rfl|rfl|rfl|rfl|rfl|rfl<;>exact .c _
theorem padd_b {a b v f:Int} (hv:addV a b=v) (hf:addE a b=f) (w:World):Calls Tryz.prog 95 #[.int .i64 a,.int .i64 b] w fun e w'=>e=.returned (.tuple #[.int .i64 v,.int .i64 f])∧Below w.heap.size w w':=by
 subst hv
 subst hf
 refine(money_Add a b w).mono ?_
 rintro e w' ⟨rfl,rfl⟩
 exact⟨rfl,Below.refl _ _⟩
end Go.Proofs.YtnalblnmplnhmaaGreat
