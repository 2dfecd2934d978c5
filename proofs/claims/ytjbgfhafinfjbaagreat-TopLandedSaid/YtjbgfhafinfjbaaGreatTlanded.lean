/-
  The law TopLanded, of all numbers.
-/
import Derived.Test.YtjbgfhafinfjbaaGreatTl0l
import Derived.Test.YtjbgfhafinfjbaaGreatTl0e
import Derived.Test.YtjbgfhafinfjbaaGreatTl1l
import Derived.Test.YtjbgfhafinfjbaaGreatTl1e
import Derived.Test.YtjbgfhafinfjbaaGreatTl2l
import Derived.Test.YtjbgfhafinfjbaaGreatTl2e
set_option linter.unusedVariables false
namespace Go.Proofs.YtjbgfhafinfjbaaGreat
open Go.RowKit Mc

theorem TopLanded_walk (method q a freight sold : Int) (w : World) (h0 : I64 method) (h1 : I64 q) (h2 : I64 a) (h3 : I64 freight) (h4 : I64 sold) :
    Calls Tryz.prog 3 #[.int .i64 method, .int .i64 q, .int .i64 a, .int .i64 freight, .int .i64 sold] w fun e w' => e = .returned (.bool true) ∧ Below w.heap.size w w' := by
  obtain ⟨n, hn⟩ : ∃ n, q % 50 = n - 1 := ⟨q % 50 + 1, by omega⟩
  obtain ⟨v, hv⟩ : ∃ v, a % 5000 = v := ⟨_, rfl⟩
  obtain ⟨f, hf⟩ : ∃ f, freight % 3000 = f := ⟨_, rfl⟩
  have bn : 1 ≤ n ∧ n ≤ 50 := by omega
  have bv : 0 ≤ v ∧ v ≤ 4999 := by omega
  have bf : 0 ≤ f ∧ f ≤ 2999 := by omega
  obtain ⟨k, hk⟩ : ∃ k, sold % n = k - 1 := ⟨sold % n + 1, by omega⟩
  have k0 : 0 ≤ k - 1 := by rw [← hk]; exact Int.emod_nonneg _ (by omega)
  have k1 : k - 1 < n := by rw [← hk]; exact Int.emod_lt_of_pos _ (by omega)
  have bk : 1 ≤ k ∧ k ≤ 50 := by omega
  have hm : method % 3 = 0 ∨ method % 3 = 1 ∨ method % 3 = 2 := by omega
  by_cases e : k = n
  · rw [e] at hk
    have z : (0 : Int) ≤ 0 ∧ (0 : Int) ≤ 7998 := by omega
    rcases hm with hm | hm | hm
    · exact t0e_calls h0 h1 h2 h3 h4 bn bv bf bk z hm hn hv hf hk w
    · exact t1e_calls h0 h1 h2 h3 h4 bn bv bf bk z hm hn hv hf hk w
    · exact t2e_calls h0 h1 h2 h3 h4 bn bv bf bk z hm hn hv hf hk w
  · obtain ⟨C, hC⟩ : ∃ C, (v + f) * k / n = C := ⟨_, rfl⟩
    have c0 : 0 ≤ C := by rw [← hC]; exact Int.ediv_nonneg (Int.mul_nonneg (by omega) (by omega)) (by omega)
    have c1 : C ≤ v + f := by
      rw [← hC]
      refine Int.le_trans (Int.ediv_le_ediv (by omega) (Int.mul_le_mul_of_nonneg_left (show k ≤ n by omega) (show 0 ≤ v + f by omega))) ?_
      rw [Int.mul_ediv_cancel _ (by omega)]; exact Int.le_refl _
    have bC : 0 ≤ C ∧ C ≤ 7998 := by omega
    rcases hm with hm | hm | hm
    · exact t0l_calls h0 h1 h2 h3 h4 bn bv bf bk bC hm hn hv hf hk (by omega) hC c1 w
    · exact t1l_calls h0 h1 h2 h3 h4 bn bv bf bk bC hm hn hv hf hk (by omega) hC c1 w
    · exact t2l_calls h0 h1 h2 h3 h4 bn bv bf bk bC hm hn hv hf hk (by omega) hC c1 w
end Go.Proofs.YtjbgfhafinfjbaaGreat
