/-
 A voucher the other way round; the same lines. Their walks.
-/
import Derived.Test.YtjccjmmbebiegaaVouA
set_option linter.unusedVariables false
set_option linter.unusedSimpArgs false
namespace Go.Proofs.Ytjccjmmbebiegaa
open Go.RowKit
def turn1 (x:Lin):Lin:=⟨x.a,if inB x.n then -x.n else 0⟩
def turnS (l:List Lin):List Lin:=l.map turn1
end Go.Proofs.Ytjccjmmbebiegaa
