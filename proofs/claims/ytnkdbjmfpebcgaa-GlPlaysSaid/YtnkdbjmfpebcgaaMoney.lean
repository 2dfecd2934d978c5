/-
  The walks of package money and of its reference: what each function computes. Only Wide makes memory.
-/
import Derived.Test.YtnkdbjmfpebcgaaBits
import Derived.Deep.QuietTactic
import Derived.BigQuiet
namespace Go.Proofs.Ytnkdbjmfpebcgaa
open Go.RowKit

set_option maxHeartbeats 400000 in
theorem money_in (v : Int) (w : World) :
    Calls Try.prog 49 #[.int .i64 v] w fun e w' => e = .returned (.bool (inB v)) ∧ w = w' := by
  go_enter Try.func49, Try.ntmps49
  go_wp2
  all_goals (go_ret; exact ⟨ret_bool (by simp [inB]; try omega), rfl⟩)

set_option maxHeartbeats 400000 in
theorem ref_In (v : Int) (w : World) :
    Calls Try.prog 40 #[.int .i64 v] w fun e w' => e = .returned (.bool (inB v)) ∧ w = w' := by
  go_enter Try.func40, Try.ntmps40
  go_wp2
  all_goals (go_ret; exact ⟨ret_bool (by simp [inB]; try omega), rfl⟩)

theorem tmod_neg (v n : Int) (hn : 0 < n) (hn' : n ≤ 9223372036854775807) (h : v.tmod n < 0) : wrap64 (v.tmod n + n) = v % n := by
  have h1 := Int.tmod_def v n
  have h2 : -n < v.tmod n := Int.lt_tmod_of_pos v hn
  have h3 : (v.tmod n + n) % n = v % n := by
    rw [Int.add_emod_right, h1, Int.sub_mul_emod_self_left]
  rw [← h3, Int.emod_eq_of_lt (by omega) (by omega)]
  unfold wrap64; omega
theorem tmod_pos (v n : Int) (hn : 0 < n) (h : 0 ≤ v.tmod n) : v.tmod n = v % n := by
  have h1 := Int.tmod_def v n
  have h2 : v.tmod n < n := Int.tmod_lt_of_pos v hn
  have h3 : (v.tmod n) % n = v % n := by
    rw [h1, Int.sub_mul_emod_self_left]
  rw [← h3, Int.emod_eq_of_lt h (by omega)]

set_option maxHeartbeats 400000 in
theorem Place_calls (v n : Int) (w : World) (hn : 0 < n) (hn' : n ≤ 9223372036854775807) :
    Calls Try.prog 8 #[.int .i64 v, .int .i64 n] w fun e w' => e = .returned (.int .i64 (v % n)) ∧ w = w' := by
  go_enter Try.func8, Try.ntmps8
  go_wp2
  · go_ret; exact ⟨ret_int (tmod_neg v n hn hn' ‹_›), by first | rfl | trivial⟩
  · go_ret; exact ⟨ret_int (tmod_pos v n hn ‹_›), by first | rfl | trivial⟩

theorem addV_yes {a b : Int} (h1 : inB a = true) (h2 : inB b = true) (h : (!inB (wrap64 (a + b))) = false) : wrap64 (a + b) = addV a b ∧ (0 : Int) = addE a b := by
  have h' : inB (wrap64 (a + b)) = true := by simpa using h
  have : addOk a b = true := by simp [addOk, h1, h2, h']
  simp only [addV, addE, this, if_true]
  rw [inB_iff] at h1 h2
  refine ⟨?_, trivial⟩
  unfold wrap64; omega
theorem addV_no {a b : Int} (h : inB a = false ∨ inB b = false ∨ inB (wrap64 (a + b)) = false) : (0 : Int) = addV a b ∧ (2 : Int) = addE a b := by
  have : addOk a b = false := by
    rcases h with h | h | h <;> simp [addOk, h]
  simp [addV, addE, this]

set_option maxHeartbeats 400000 in
theorem money_Add (a b : Int) (w : World) :
    Calls Try.prog 33 #[.int .i64 a, .int .i64 b] w fun e w' => e = .returned (.tuple #[.int .i64 (addV a b), .int .i64 (addE a b)]) ∧ w = w' := by
  go_enter Try.func33, Try.ntmps33
  go_wp2_with (go_at_call 49; refine (money_in _ _).mono ?_; rintro e w' ⟨rfl, rfl⟩)
  · go_ret2; have h := @addV_no a b (.inr (.inr (by simpa using ‹(!inB (wrap64 (a + b))) = true›))); exact ⟨ret_ii h.1 h.2, by first | rfl | trivial⟩
  · go_ret2; have h := addV_yes ‹inB a = true› ‹inB b = true› ‹_›; exact ⟨ret_ii h.1 h.2, by first | rfl | trivial⟩
  · go_ret2; have h := @addV_no a b (.inr (.inl (by simpa using ‹¬inB b = true›))); exact ⟨ret_ii h.1 h.2, by first | rfl | trivial⟩
  · go_ret2; have h := @addV_no a b (.inl (by simpa using ‹¬inB a = true›)); exact ⟨ret_ii h.1 h.2, by first | rfl | trivial⟩

set_option maxHeartbeats 400000 in
theorem ref_Add (a b : Int) (w : World) :
    Calls Try.prog 37 #[.int .i64 a, .int .i64 b] w fun e w' => e = .returned (.tuple #[.int .i64 (addV a b), .int .i64 (addE a b)]) ∧ w = w' := by
  go_enter Try.func37, Try.ntmps37
  go_wp2_with (go_at_call 40; refine (ref_In _ _).mono ?_; rintro e w' ⟨rfl, rfl⟩)
  · go_ret2; have h := @addV_no a b (.inr (.inr (by simpa using ‹(!inB (wrap64 (a + b))) = true›))); exact ⟨ret_ii h.1 h.2, by first | rfl | trivial⟩
  · go_ret2; have h := addV_yes ‹inB a = true› ‹inB b = true› ‹_›; exact ⟨ret_ii h.1 h.2, by first | rfl | trivial⟩
  · go_ret2; have h := @addV_no a b (.inr (.inl (by simpa using ‹¬inB b = true›))); exact ⟨ret_ii h.1 h.2, by first | rfl | trivial⟩
  · go_ret2; have h := @addV_no a b (.inl (by simpa using ‹¬inB a = true›)); exact ⟨ret_ii h.1 h.2, by first | rfl | trivial⟩

theorem tdiv32 {x : Int} (h : 0 ≤ x) (h' : x < 18446744073709551616) : IntKind.u64.wrap (x.tdiv 4294967296) = x / 4294967296 := by
  rw [Int.tdiv_eq_ediv_of_nonneg h, IntKind.wrap_u64]; omega
theorem tmod32 {x : Int} (h : 0 ≤ x) : x.tmod 4294967296 = x % 4294967296 := Int.tmod_eq_emod_of_nonneg h
theorem wrap_small {x : Int} (h : 0 ≤ x) (h' : x < 18446744073709551616) : IntKind.u64.wrap x = x := by rw [IntKind.wrap_u64]; omega

end Go.Proofs.Ytnkdbjmfpebcgaa