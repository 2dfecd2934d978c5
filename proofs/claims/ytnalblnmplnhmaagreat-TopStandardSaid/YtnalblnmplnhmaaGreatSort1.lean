/-
  The comparison of two lines by account; insertion sort.
-/
import Derived.Test.YtnalblnmplnhmaaGreatLine
import Derived.Deep.QuietTactic
import Derived.BigQuiet
import Derived.Deep.RegionHeld3
set_option linter.unusedVariables false
set_option linter.unusedSimpArgs false
namespace Go.Proofs.YtnalblnmplnhmaaGreat
open Go.RowKit

def cmpI (x y : Int) : Int := if x < y then -1 else if y < x then 1 else 0
theorem cmpI_neg {x y : Int} : cmpI x y < 0 ↔ x < y := by
  unfold cmpI
  by_cases h : x < y
  · simp [h]
  · by_cases h2 : y < x <;> simp [h, h2]

theorem isNaN_int (x : Int) (w : World) : Calls Tryz.prog 210 #[.int .i64 x] w fun e w' => e = .returned (.bool false) ∧ w = w' := by
  go_enter Tryz.func210, Tryz.ntmps210
  go_wp2_with fail
  go_ret
  exact ⟨rfl, rfl⟩
theorem cmp_int (x y : Int) (w : World) : Calls Tryz.prog 190 #[.int .i64 x, .int .i64 y] w fun e w' => e = .returned (.int .i64 (cmpI x y)) ∧ w = w' := by
  go_enter Tryz.func190, Tryz.ntmps190
  by_cases h : x < y
  · go_wp2_with (go_at_call 210; refine (isNaN_int _ _).mono ?_; rintro e w' ⟨rfl, rfl⟩)
    go_ret
    exact ⟨ret_int (by simp [cmpI, h]), rfl⟩
  · by_cases h2 : y < x
    · go_wp2_with (go_at_call 210; refine (isNaN_int _ _).mono ?_; rintro e w' ⟨rfl, rfl⟩)
      go_ret
      exact ⟨ret_int (by simp [cmpI, h, h2]), rfl⟩
    · go_wp2_with (go_at_call 210; refine (isNaN_int _ _).mono ?_; rintro e w' ⟨rfl, rfl⟩)
      go_ret
      exact ⟨ret_int (by simp only [cmpI]; rw [if_neg (by omega), if_neg (by omega)]), rfl⟩
theorem acc_of (x : Lin) (w : World) : Calls Tryz.prog 147 #[x.val] w fun e w' => e = .returned (.int .i64 x.a) ∧ Below w.heap.size w w' := by
  unfold Lin.val
  go_enter Tryz.func147, Tryz.ntmps147
  go_wp2_with fail
  go_ret
  exact ⟨rfl, by (repeat (first | assumption | exact Below.refl _ _ | refine ballc ?_ _ | refine bdrew ?_ | refine bdrewN ?_ _ | refine bset ?_ _ _ | refine bsetN ?_ (by omega) _ _ | refine bthen ?_ (by assumption)))⟩

set_option maxRecDepth 100000 in
set_option maxHeartbeats 1000000 in
theorem by_cmp (x y : Lin) (c : Nat) (w : World) (hc : w.cell? ⟨c, 0, none⟩ = some (.func (.func 147) #[] #[])) (hlt : c < w.heap.size) :
    Calls Tryz.prog 189 #[x.val, y.val, .pointer (some ⟨c, 0, none⟩)] w fun e w' => e = .returned (.int .i64 (cmpI x.a y.a)) ∧ Below w.heap.size w w' := by
  unfold Lin.val
  go_enter Tryz.func189, Tryz.ntmps189
  go_wp2_with fail
  have hc1 : c < w.heap.size + 1 := by omega
  have hc2 : c < w.heap.size + 1 + 1 := by omega
  have hcW : ((w.alloc (.cells #[.int .i64 x.a, .int .i64 x.n] 131)).alloc (.cells #[.int .i64 y.a, .int .i64 y.n] 131)).drew.cell? ⟨c, 0, none⟩ = some (.func (.func 147) #[] #[]) := (World.cell?_alloc_lt _ _ _ (by simp; omega)).trans ((World.cell?_alloc_lt _ _ _ hlt).trans hc)
  have hb0 : Below w.heap.size w ((w.alloc (.cells #[.int .i64 x.a, .int .i64 x.n] 131)).alloc (.cells #[.int .i64 y.a, .int .i64 y.n] 131)).drew := (((Below.refl _ _).alloc (Nat.le_refl _) _).alloc (by simp) _).drew
  go_region_held3 (fun w' => Below w.heap.size w w' ∧ w.heap.size + 1 < w'.heap.size ∧ w'.cell? ⟨c, 0, none⟩ = some (.func (.func 147) #[] #[]) ∧ w'.cell? ⟨w.heap.size, 0, none⟩ = some (.int .i64 x.a) ∧ w'.cell? ⟨w.heap.size, 1, none⟩ = some (.int .i64 x.n) ∧ w'.cell? ⟨w.heap.size + 1, 0, none⟩ = some (.int .i64 y.a) ∧ w'.cell? ⟨w.heap.size + 1, 1, none⟩ = some (.int .i64 y.n))
    (first
      | exact ⟨hb0, by simp, hcW, by simp, by simp, by simp, by simp⟩
      | (go_split_ands; refine ⟨?_, ?_, ?_, ?_, ?_, ?_, ?_⟩ <;> first | assumption | (refine Below.trans ?_ (Below.mono hw2 ?_) <;> first | assumption | omega) | (have := hw2.size; omega) | (exact (hw2.cell (by simp only; omega)).trans (by assumption))))
    ((first
      | (go_at_call 147; refine (acc_of x _).mono ?_; rintro e w2 ⟨rfl, hw2⟩)
      | (go_at_call 147; refine (acc_of y _).mono ?_; rintro e w2 ⟨rfl, hw2⟩)
      | (go_at_call 190; refine (cmp_int _ _ _).mono ?_; rintro e w2 ⟨rfl, rfl⟩)))
  all_goals
    have hS := ‹Below w.heap.size w _ ∧ _›
    go_wp2_with fail
    go_ret
    exact ⟨rfl, hS.1⟩
end Go.Proofs.YtnalblnmplnhmaaGreat
