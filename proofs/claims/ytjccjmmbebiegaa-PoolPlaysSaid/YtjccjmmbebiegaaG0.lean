/-
 Shared books: an entity and an item of any state; an operation on any state. What they mean.
-/
import Derived.Test.YtjccjmmbebiegaaZ
set_option linter.unusedVariables false
set_option linter.unusedSimpArgs false
namespace Go.Proofs.Ytjccjmmbebiegaa
open Go.RowKit Mc
section
variable {S:StD} {e item now m c:Int} {closed:Bool} {pools:List PoolD} {bal:List Int} {rolls:List (List Int)} {prices down:List Int} {ahead:List EntC} {ms cs:List Int}
end
abbrev oX (S:StD) (e item loc dst q a ref f:Int) (X:List Int):List Int:=e::item::loc::dst::q::a::ref::S.done::(S.receipts.length:Int)::(S.sales.length:Int)::(S.transits.length:Int)::(S.ents.length:Int)::(S.weights.length:Int)::f::X
structure OpI (S:StD) (e item loc dst q a ref f:Int):Prop where
 he:0≤e∧e≤3
 hi:0≤item∧item≤4
 hl:0≤loc∧loc≤1
 hd:0≤dst∧dst≤3
 hq:0≤q∧q≤1073741824
 ha:0≤a∧a≤1125899906842624
 hr:0≤ref∧ref≤39
 hf:1≤f∧f≤20
 od:Od S
 hn:S.ents.length≤4
 hw:S.weights.length≤5
 hm:S.methods.length=S.ents.length
 hc:S.costs.length=S.ents.length
section
variable {S:StD} {e item loc dst q a ref f:Int}
theorem OpI.bd (H:OpI S e item loc dst q a ref f):(0≤e∧e≤3)∧(0≤item∧item≤4)∧(0≤loc∧loc≤1)∧(0≤dst∧dst≤3)∧(0≤q∧q≤1073741824)∧(0≤a∧a≤1125899906842624)∧(0≤ref∧ref≤39)∧(1≤f∧f≤20)∧((0≤S.done∧S.done≤1000000)∧S.receipts.length≤40∧S.sales.length≤40∧S.transits.length≤40)∧S.ents.length≤4∧S.weights.length≤5∧S.methods.length=S.ents.length∧S.costs.length=S.ents.length :=
 ⟨H.he,H.hi,H.hl,H.hd,H.hq,H.ha,H.hr,H.hf,H.od,H.hn,H.hw,H.hm,H.hc⟩
end
end Go.Proofs.Ytjccjmmbebiegaa
