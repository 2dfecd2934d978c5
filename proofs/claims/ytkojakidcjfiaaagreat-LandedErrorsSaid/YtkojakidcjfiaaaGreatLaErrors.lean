/-
  The law LandedErrors, of all numbers.
-/
import Derived.Test.YtkojakidcjfiaaaGreatLaE0
import Derived.Test.YtkojakidcjfiaaaGreatLaE1
import Derived.Test.YtkojakidcjfiaaaGreatLaE2
import Derived.Test.YtkojakidcjfiaaaGreatLaE3
set_option linter.unusedVariables false
namespace Go.Proofs.YtkojakidcjfiaaaGreat
open Go.RowKit Mc

theorem LandedErrors_walk (how a : Int) (w : World) (h0 : I64 how) (h1 : I64 a) :
    Calls Tryz.prog 5 #[.int .i64 how, .int .i64 a] w fun e w' => e = .returned (.bool true) ∧ Below w.heap.size w w' := by
  have h : how % 4 = 0 ∨ how % 4 = 1 ∨ how % 4 = 2 ∨ how % 4 = 3 := by omega
  rcases h with h | h | h | h
  · exact le0_calls h0 h1 h rfl w
  · exact le1_calls h0 h1 h rfl w
  · exact le2_calls h0 h1 h rfl w
  · exact le3_calls h0 h1 h rfl w
end Go.Proofs.YtkojakidcjfiaaaGreat
