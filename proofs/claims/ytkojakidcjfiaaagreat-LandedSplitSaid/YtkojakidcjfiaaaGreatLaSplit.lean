/-
  The law LandedSplit, of all numbers.
-/
import Derived.Test.YtkojakidcjfiaaaGreatLaS1
import Derived.Test.YtkojakidcjfiaaaGreatLaS2
import Derived.Test.YtkojakidcjfiaaaGreatLaS3
import Derived.Test.YtkojakidcjfiaaaGreatLaS4
import Derived.Test.YtkojakidcjfiaaaGreatLaS5
import Derived.Test.YtkojakidcjfiaaaGreatLaS6
import Derived.Test.YtkojakidcjfiaaaGreatLaS7
set_option linter.unusedVariables false
namespace Go.Proofs.YtkojakidcjfiaaaGreat
open Go.RowKit Mc

theorem split_plain {n k v Q R T : Int} (hn : 1 ≤ n ∧ n ≤ 60) (hk : 0 ≤ k ∧ k ≤ n) (hv : 0 ≤ v ∧ v ≤ 99999) (hQ : v / n = Q) (hR : v % n = R) (hT : R * (n - k) / n = T) :
    v * (n - k) / n = Q * (n - k) + T ∧ 0 ≤ Q * (n - k) + T ∧ 0 ≤ Q ∧ Q ≤ 99999 ∧ 0 ≤ R ∧ R ≤ 59 ∧ 0 ≤ T ∧ T ≤ 59 ∧ (1 ≤ k → 1 ≤ v → Q * (n - k) + T < v) := by
  have e : n * Q + R = v := by rw [← hQ, ← hR]; exact Int.mul_ediv_add_emod v n
  have q0 : 0 ≤ Q := by rw [← hQ]; exact Int.ediv_nonneg hv.1 (by omega)
  have r0 : 0 ≤ R := by rw [← hR]; exact Int.emod_nonneg _ (by omega)
  have r1 : R < n := by rw [← hR]; exact Int.emod_lt_of_pos _ (by omega)
  have m0 : 0 ≤ R * (n - k) := Int.mul_nonneg r0 (by omega)
  have c0 : 0 ≤ Q * (n - k) := Int.mul_nonneg q0 (by omega)
  have t0 : 0 ≤ T := by rw [← hT]; exact Int.ediv_nonneg m0 (by omega)
  have t1 : T ≤ R := by
    rw [← hT]
    refine Int.le_trans (Int.ediv_le_ediv (by omega) (Int.mul_le_mul_of_nonneg_left (show n - k ≤ n by omega) r0)) ?_
    rw [Int.mul_ediv_cancel _ (by omega)]; exact Int.le_refl _
  have d : v * (n - k) / n = Q * (n - k) + T := by
    rw [← e, show (n * Q + R) * (n - k) = R * (n - k) + n * (Q * (n - k)) by grind, Int.add_mul_ediv_left _ _ (by omega), hT]; omega
  have q1 : Q ≤ n * Q := by
    have := Int.mul_le_mul_of_nonneg_right hn.1 q0
    omega
  refine ⟨d, by omega, q0, by omega, r0, by omega, t0, by omega, fun h1 h2 => ?_⟩
  rw [← d]
  refine Int.ediv_lt_of_lt_mul (by omega) ?_
  have : v * 1 ≤ v * k := Int.mul_le_mul_of_nonneg_left h1 (by omega)
  rw [Int.mul_sub]
  omega

theorem LandedSplit_walk (q sold a : Int) (w : World) (h0 : I64 q) (h1 : I64 sold) (h2 : I64 a) :
    Calls Tryz.prog 3 #[.int .i64 q, .int .i64 sold, .int .i64 a] w fun e w' => e = .returned (.bool true) ∧ Below w.heap.size w w' := by
  obtain ⟨n, hn⟩ : ∃ n, q % 60 = n - 1 := ⟨q % 60 + 1, by omega⟩
  have bn : 1 ≤ n ∧ n ≤ 60 := by omega
  obtain ⟨k, hk⟩ : ∃ k, sold % (n + 1) = k := ⟨_, rfl⟩
  have k0 : 0 ≤ k := by rw [← hk]; exact Int.emod_nonneg _ (by omega)
  have k1 : k < n + 1 := by rw [← hk]; exact Int.emod_lt_of_pos _ (by omega)
  obtain ⟨v, hv⟩ : ∃ v, a % 100000 = v := ⟨_, rfl⟩
  have bv : 0 ≤ v ∧ v ≤ 99999 := by omega
  obtain ⟨Q, hQ⟩ : ∃ Q, v / n = Q := ⟨_, rfl⟩
  obtain ⟨R, hR⟩ : ∃ R, v % n = R := ⟨_, rfl⟩
  obtain ⟨T, hT⟩ : ∃ T, R * (n - k) / n = T := ⟨_, rfl⟩
  obtain ⟨d, c0, q0, q1, r0, r1, t0, t1, hlt⟩ := split_plain bn ⟨k0, by omega⟩ bv hQ hR hT
  have bk : 0 ≤ k ∧ k ≤ 60 := by omega
  by_cases ek : k = 0
  · rw [ek] at hk
    by_cases ev : v = 0
    · rw [ev] at hv
      exact ls4_calls h0 h1 h2 bn bk bv ⟨q0, q1⟩ ⟨r0, r1⟩ ⟨t0, t1⟩ hn hk hv w
    · exact ls3_calls h0 h1 h2 bn bk bv ⟨q0, q1⟩ ⟨r0, r1⟩ ⟨t0, t1⟩ hn hk hv hQ hR (by omega) w
  · by_cases en : k = n
    · rw [en] at hk
      by_cases ev : v = 0
      · rw [ev] at hv
        exact ls6_calls h0 h1 h2 bn bk bv ⟨q0, q1⟩ ⟨r0, r1⟩ ⟨t0, t1⟩ hn hk hv w
      · exact ls5_calls h0 h1 h2 bn bk bv ⟨q0, q1⟩ ⟨r0, r1⟩ ⟨t0, t1⟩ hn hk hv hQ hR (by omega) w
    · by_cases ev : v = 0
      · rw [ev] at hv
        exact ls7_calls h0 h1 h2 bn bk bv ⟨q0, q1⟩ ⟨r0, r1⟩ ⟨t0, t1⟩ hn hk hv ⟨by omega, by omega⟩ w
      · by_cases ec : Q * (n - k) + T = 0
        · exact ls2_calls h0 h1 h2 bn bk bv ⟨q0, q1⟩ ⟨r0, r1⟩ ⟨t0, t1⟩ hn hk hv ⟨by omega, by omega⟩ hQ hR hT d (by omega) ec w
        · exact ls1_calls h0 h1 h2 bn bk bv ⟨q0, q1⟩ ⟨r0, r1⟩ ⟨t0, t1⟩ hn hk hv ⟨by omega, by omega⟩ hQ hR hT d (by omega) (by omega) (hlt (by omega) (by omega)) w
end Go.Proofs.YtkojakidcjfiaaaGreat
