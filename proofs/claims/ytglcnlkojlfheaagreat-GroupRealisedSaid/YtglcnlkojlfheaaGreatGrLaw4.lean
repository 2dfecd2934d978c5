/-
  The law GroupRealised, of all numbers.
-/
import Derived.Test.YtglcnlkojlfheaaGreatGrRa
import Derived.Test.YtglcnlkojlfheaaGreatGrRb
import Derived.Test.YtglcnlkojlfheaaGreatGrRc
set_option linter.unusedVariables false
namespace Go.Proofs.YtglcnlkojlfheaaGreat
open Go.RowKit Mc

theorem GroupRealised_walk (q sold : Int) (w : World) (hq : I64 q) (hs : I64 sold) :
    Calls Tryz.prog 5 #[.int .i64 q, .int .i64 sold] w fun e w' => e = .returned (.bool true) ∧ Below w.heap.size w w' := by
  obtain ⟨n, hn⟩ : ∃ n, q % 60 + 1 = n := ⟨_, rfl⟩
  obtain ⟨k, hk⟩ : ∃ k, sold % (n + 1) = k := ⟨_, rfl⟩
  have k0 : 0 ≤ k := by rw [← hk]; exact Int.emod_nonneg _ (by omega)
  have k1 : k < n + 1 := by rw [← hk]; exact Int.emod_lt_of_pos _ (by omega)
  by_cases h0 : k = 0
  · subst h0; exact gc_calls hq hs hn hk w
  · by_cases h1 : k = n
    · rw [h1] at hk; exact gb_calls hq hs hn hk w
    · exact ga_calls hq hs hn hk (by omega) (by omega) w
end Go.Proofs.YtglcnlkojlfheaaGreat
