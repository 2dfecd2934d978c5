/-
 Vouchers that balance, of small amounts, on balances that are not great: they are posted. And stock.Post of them.
-/
import Derived.Test.YtjccjmmbebiegaaSt2
set_option linter.unusedVariables false
set_option linter.unusedSimpArgs false
namespace Go.Proofs.Ytjccjmmbebiegaa
open Go.RowKit Mc
def vtot (l:List Lin) (a:Int):Int:=((l.filter fun x=>x.a==a).map (·.n)).sum
def adds (bal:List Int) (l:List Lin):List Int:=(List.range 17).map fun(a:Nat)=>bal.getD a 0+vtot l a
structure Small (l:List Lin):Prop where
 ok:∀x∈l,0≤x.a∧x.a<17∧-1125899906842624≤x.n∧x.n≤1125899906842624
 len:l.length≤12
end Go.Proofs.Ytjccjmmbebiegaa
