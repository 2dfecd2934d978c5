/-
  The walks of package money and of its reference: what each function computes. Only Wide makes memory.
-/
import Derived.Test.YtanmfhdljgphhaaBits
import Derived.Deep.QuietTactic
import Derived.BigQuiet
namespace Go.Proofs.Ytanmfhdljgphhaa
open Go.RowKit

set_option maxHeartbeats 400000 in
theorem money_in (v : Int) (w : World) :
    Calls Try.prog 30 #[.int .i64 v] w fun e w' => e = .returned (.bool (inB v)) ∧ w = w' := by
  go_enter Try.func30, Try.ntmps30
  go_wp2
  all_goals (go_ret; exact ⟨ret_bool (by simp [inB]; try omega), rfl⟩)

set_option maxHeartbeats 400000 in
theorem ref_In (v : Int) (w : World) :
    Calls Try.prog 34 #[.int .i64 v] w fun e w' => e = .returned (.bool (inB v)) ∧ w = w' := by
  go_enter Try.func34, Try.ntmps34
  go_wp2
  all_goals (go_ret; exact ⟨ret_bool (by simp [inB]; try omega), rfl⟩)

theorem tmod_neg (v n : Int) (hn : 0 < n) (hn' : n ≤ 9223372036854775807) (h : v.tmod n < 0) : wrap64 (v.tmod n + n) = v % n := by
  have h1 := Int.tmod_def v n
  have h2 : -n < v.tmod n := Int.lt_tmod_of_pos v hn
  have h3 : (v.tmod n + n) % n = v % n := by
    rw [Int.add_emod_right, h1, Int.sub_mul_emod_self_left]
  rw [← h3, Int.emod_eq_of_lt (by omega) (by omega)]
  unfold wrap64; omega
theorem tmod_pos (v n : Int) (hn : 0 < n) (h : 0 ≤ v.tmod n) : v.tmod n = v % n := by
  have h1 := Int.tmod_def v n
  have h2 : v.tmod n < n := Int.tmod_lt_of_pos v hn
  have h3 : (v.tmod n) % n = v % n := by
    rw [h1, Int.sub_mul_emod_self_left]
  rw [← h3, Int.emod_eq_of_lt h (by omega)]

set_option maxHeartbeats 400000 in
theorem Place_calls (v n : Int) (w : World) (hn : 0 < n) (hn' : n ≤ 9223372036854775807) :
    Calls Try.prog 11 #[.int .i64 v, .int .i64 n] w fun e w' => e = .returned (.int .i64 (v % n)) ∧ w = w' := by
  go_enter Try.func11, Try.ntmps11
  go_wp2
  · go_ret; exact ⟨ret_int (tmod_neg v n hn hn' ‹_›), by first | rfl | trivial⟩
  · go_ret; exact ⟨ret_int (tmod_pos v n hn ‹_›), by first | rfl | trivial⟩

theorem addV_yes {a b : Int} (h1 : inB a = true) (h2 : inB b = true) (h : (!inB (wrap64 (a + b))) = false) : wrap64 (a + b) = addV a b ∧ (0 : Int) = addE a b := by
  have h' : inB (wrap64 (a + b)) = true := by simpa using h
  have : addOk a b = true := by simp [addOk, h1, h2, h']
  simp only [addV, addE, this, if_true]
  rw [inB_iff] at h1 h2
  refine ⟨?_, trivial⟩
  unfold wrap64; omega
theorem addV_no {a b : Int} (h : inB a = false ∨ inB b = false ∨ inB (wrap64 (a + b)) = false) : (0 : Int) = addV a b ∧ (2 : Int) = addE a b := by
  have : addOk a b = false := by
    rcases h with h | h | h <;> simp [addOk, h]
  simp [addV, addE, this]

set_option maxHeartbeats 400000 in
theorem money_Add (a b : Int) (w : World) :
    Calls Try.prog 22 #[.int .i64 a, .int .i64 b] w fun e w' => e = .returned (.tuple #[.int .i64 (addV a b), .int .i64 (addE a b)]) ∧ w = w' := by
  go_enter Try.func22, Try.ntmps22
  go_wp2_with (go_at_call 30; refine (money_in _ _).mono ?_; rintro e w' ⟨rfl, rfl⟩)
  · go_ret2; have h := @addV_no a b (.inr (.inr (by simpa using ‹(!inB (wrap64 (a + b))) = true›))); exact ⟨ret_ii h.1 h.2, by first | rfl | trivial⟩
  · go_ret2; have h := addV_yes ‹inB a = true› ‹inB b = true› ‹_›; exact ⟨ret_ii h.1 h.2, by first | rfl | trivial⟩
  · go_ret2; have h := @addV_no a b (.inr (.inl (by simpa using ‹¬inB b = true›))); exact ⟨ret_ii h.1 h.2, by first | rfl | trivial⟩
  · go_ret2; have h := @addV_no a b (.inl (by simpa using ‹¬inB a = true›)); exact ⟨ret_ii h.1 h.2, by first | rfl | trivial⟩

set_option maxHeartbeats 400000 in
theorem ref_Add (a b : Int) (w : World) :
    Calls Try.prog 28 #[.int .i64 a, .int .i64 b] w fun e w' => e = .returned (.tuple #[.int .i64 (addV a b), .int .i64 (addE a b)]) ∧ w = w' := by
  go_enter Try.func28, Try.ntmps28
  go_wp2_with (go_at_call 34; refine (ref_In _ _).mono ?_; rintro e w' ⟨rfl, rfl⟩)
  · go_ret2; have h := @addV_no a b (.inr (.inr (by simpa using ‹(!inB (wrap64 (a + b))) = true›))); exact ⟨ret_ii h.1 h.2, by first | rfl | trivial⟩
  · go_ret2; have h := addV_yes ‹inB a = true› ‹inB b = true› ‹_›; exact ⟨ret_ii h.1 h.2, by first | rfl | trivial⟩
  · go_ret2; have h := @addV_no a b (.inr (.inl (by simpa using ‹¬inB b = true›))); exact ⟨ret_ii h.1 h.2, by first | rfl | trivial⟩
  · go_ret2; have h := @addV_no a b (.inl (by simpa using ‹¬inB a = true›)); exact ⟨ret_ii h.1 h.2, by first | rfl | trivial⟩

theorem tdiv32 {x : Int} (h : 0 ≤ x) (h' : x < 18446744073709551616) : IntKind.u64.wrap (x.tdiv 4294967296) = x / 4294967296 := by
  rw [Int.tdiv_eq_ediv_of_nonneg h, IntKind.wrap_u64]; omega
theorem tmod32 {x : Int} (h : 0 ≤ x) : x.tmod 4294967296 = x % 4294967296 := Int.tmod_eq_emod_of_nonneg h
theorem wrap_small {x : Int} (h : 0 ≤ x) (h' : x < 18446744073709551616) : IntKind.u64.wrap x = x := by rw [IntKind.wrap_u64]; omega

set_option maxHeartbeats 400000 in
theorem money_Wide (a b : Int) (w : World) :
    Calls Try.prog 23 #[.int .i64 a, .int .i64 b] w fun e w' => e = .returned (.tuple #[.int .u64 (wideHi a b), .int .u64 (wideLo a b)]) ∧ Below w.heap.size w w' := by
  go_enter Try.func23, Try.ntmps23
  go_wp2
  go_ret2
  have hx := u64_bd a
  have hy := u64_bd b
  have H := halves (u64 a) (u64 b) hx.1 hx.2 hy.1 hy.2
  have e1 := wide_hi_law H
  refine ⟨ret_ii ?_ ?_, (Below.refl _ _).alloc (Nat.le_refl _) _⟩
  · rw [show IntKind.u64.wrap a = u64 a from IntKind.wrap_u64 a, show IntKind.u64.wrap b = u64 b from IntKind.wrap_u64 b]
    simp only [tdiv32 hx.1 hx.2, tdiv32 hy.1 hy.2, tmod32 hx.1, tmod32 hy.1]
    unfold wideHi
    rw [← e1]
    obtain ⟨-, b0, b1, b2, b3⟩ := H
    generalize u64 a % 4294967296 * (u64 b % 4294967296) = l0 at *
    generalize u64 a / 4294967296 * (u64 b % 4294967296) = l1 at *
    generalize u64 a % 4294967296 * (u64 b / 4294967296) = l2 at *
    generalize u64 a / 4294967296 * (u64 b / 4294967296) = l3 at *
    rw [wrap_small b0.1 (by omega), wrap_small b1.1 (by omega), wrap_small b2.1 (by omega), wrap_small b3.1 (by omega)]
    rw [tdiv32 b0.1 (by omega), tdiv32 b1.1 (by omega), tdiv32 b2.1 (by omega), tmod32 b1.1, tmod32 b2.1]
    rw [wrap_small (x := l0 / 4294967296 + l1 % 4294967296) (by omega) (by omega), wrap_small (x := l0 / 4294967296 + l1 % 4294967296 + l2 % 4294967296) (by omega) (by omega)]
    rw [tdiv32 (x := l0 / 4294967296 + l1 % 4294967296 + l2 % 4294967296) (by omega) (by omega)]
    rw [wrap_small (x := l3 + l1 / 4294967296) (by omega) (by omega)]
    rw [wrap_small (x := l3 + l1 / 4294967296 + l2 / 4294967296) (by omega) (by omega)]
    rw [wrap_small (by omega) (by omega)]
  · rw [show IntKind.u64.wrap a = u64 a from IntKind.wrap_u64 a, show IntKind.u64.wrap b = u64 b from IntKind.wrap_u64 b, IntKind.wrap_u64]
    rfl
end Go.Proofs.Ytanmfhdljgphhaa
