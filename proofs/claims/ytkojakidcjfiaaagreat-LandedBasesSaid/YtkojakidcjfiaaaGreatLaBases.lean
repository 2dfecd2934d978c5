/-
  The law LandedBases, of all numbers.
-/
import Derived.Test.YtkojakidcjfiaaaGreatLaB00
import Derived.Test.YtkojakidcjfiaaaGreatLaB01
import Derived.Test.YtkojakidcjfiaaaGreatLaB10
import Derived.Test.YtkojakidcjfiaaaGreatLaB11
import Derived.Test.YtkojakidcjfiaaaGreatLaB20
import Derived.Test.YtkojakidcjfiaaaGreatLaB21
set_option linter.unusedVariables false
namespace Go.Proofs.YtkojakidcjfiaaaGreat
open Go.RowKit Mc

theorem LandedBases_walk (q a basis : Int) (w : World) (h0 : I64 q) (h1 : I64 a) (h2 : I64 basis) :
    Calls Tryz.prog 4 #[.int .i64 q, .int .i64 a, .int .i64 basis] w fun e w' => e = .returned (.bool true) ∧ Below w.heap.size w w' := by
  obtain ⟨n, hn⟩ : ∃ n, q % 40 = n - 1 := ⟨q % 40 + 1, by omega⟩
  obtain ⟨v, hv⟩ : ∃ v, a % 1000 = v := ⟨_, rfl⟩
  have b1 : 1 ≤ n ∧ n ≤ 60 := by omega
  have z0 : (0 : Int) ≤ 0 ∧ (0 : Int) ≤ 60 := by omega
  have z1 : (0 : Int) ≤ 0 ∧ (0 : Int) ≤ 99999 := by omega
  have z2 : (0 : Int) ≤ 0 ∧ (0 : Int) ≤ 59 := by omega
  have h : basis % 3 = 0 ∨ basis % 3 = 1 ∨ basis % 3 = 2 := by omega
  by_cases e : v = 0
  · subst e
    rcases h with h | h | h
    · exact lb00_calls h0 h1 h2 b1 z0 z1 z1 z2 z2 hn hv h (by omega) w
    · exact lb10_calls h0 h1 h2 b1 z0 z1 z1 z2 z2 hn hv h (by omega) w
    · exact lb20_calls h0 h1 h2 b1 z0 z1 z1 z2 z2 hn hv h (by omega) w
  · rcases h with h | h | h
    · exact lb01_calls (v := v) h0 h1 h2 b1 z0 (by omega) z1 z2 z2 hn hv h (by omega) (by omega) w
    · exact lb11_calls (v := v) h0 h1 h2 b1 z0 (by omega) z1 z2 z2 hn hv h (by omega) (by omega) w
    · exact lb21_calls (v := v) h0 h1 h2 b1 z0 (by omega) z1 z2 z2 hn hv h (by omega) (by omega) w
end Go.Proofs.YtkojakidcjfiaaaGreat
