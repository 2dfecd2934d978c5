/-
  The law's lines by numbers. Their walk.
-/
import Derived.Test.YtnkdbjmfpebcgaaVou9
set_option linter.unusedVariables false
set_option linter.unusedSimpArgs false
namespace Go.Proofs.Ytnkdbjmfpebcgaa
open Go.RowKit

/-- A line of a number. -/
def lineOf (z : Int) : Lin := ⟨z % 1073741824 % 17, z % 1073741824 / 17 % 2000 - 1000⟩
def linesT (zs : List Int) (j : Nat) : List Lin := (zs.take j).map lineOf
def linesA (zs : List Int) : List Lin := linesT zs 20
def linesS (zs : List Int) : List Lin := linesA zs ++ [⟨6, -(amts (linesA zs)).sum⟩]
theorem lineOf_bd (z : Int) : 0 ≤ (lineOf z).a ∧ (lineOf z).a < 17 ∧ -1000 ≤ (lineOf z).n ∧ (lineOf z).n < 1000 := by
  unfold lineOf
  simp only
  omega
theorem sum_bd (l : List Int) (h : ∀ z, z ∈ l → -1000 ≤ z ∧ z ≤ 1000) : -(1000 * (l.length : Int)) ≤ l.sum ∧ l.sum ≤ 1000 * (l.length : Int) := by
  induction l with
  | nil => simp
  | cons z l ih =>
    have h1 := h z (by simp)
    have h2 := ih fun y hy => h y (by simp [hy])
    simp only [List.sum_cons, List.length_cons]
    omega
theorem amts_bd (zs : List Int) : ∀ z, z ∈ amts (zs.map lineOf) → -1000 ≤ z ∧ z ≤ 1000 := by
  intro z hz
  obtain ⟨x, hx, rfl⟩ := List.mem_map.1 hz
  obtain ⟨y, hy, rfl⟩ := List.mem_map.1 hx
  have := lineOf_bd y
  omega

set_option maxRecDepth 20000 in
set_option maxHeartbeats 2000000 in
theorem law_lines (a : Option Addr) (n cap : Nat) (zs : List Int) (w : World) (h : Row w 1 a n cap zs) :
    Calls Try.prog 19 #[.slice a n cap] w fun e w' => ∃ v, e = .returned v ∧ OwnI w' w.heap.size 25 2 v (linesS zs).length (flat2 (linesS zs)) ∧ Below w.heap.size w w' := by
  obtain ⟨hl, hcap, hmax, hall, hat⟩ := h
  have hl : zs.length = n := by omega
  unfold maxLen at hmax
  have hlh := Lib.hid hl
  clear hl
  go_enter Try.func19, Try.ntmps19
  go_wp2_with fail
  go_loopw [3, 4, 5] (fun v s i wr => ∃ j : Nat, j ≤ n ∧ j ≤ 20 ∧ i = .int .i64 j ∧ s = .int .i64 (amts (linesT zs j)).sum ∧ OwnI wr w.heap.size 25 2 v j (flat2 (linesT zs j)) ∧ Below w.heap.size w wr) (fun _ _ i _ => n - (intOf i).toNat)
  case atStart => exact ⟨0, by omega, by omega, rfl, rfl, OwnI.nil _ _ _ _, Below.refl _ _⟩
  case round =>
    obtain ⟨j, hj, hj20, rfl, rfl, T, hbel⟩ := hrel
    have hsz := hbel.size
    have hsb := sum_bd (amts (linesT zs j)) (amts_bd (zs.take j))
    have hsl : (amts (linesT zs j)).length = j := by have := hlh.out; simp [amts, linesT]; omega
    rw [hsl] at hsb
    obtain ⟨S, hS⟩ : ∃ S, (amts (linesT zs j)).sum = S := ⟨_, rfl⟩
    rw [hS] at hsb ⊢
    have hSh := Lib.hid hS
    clear hS hsl
    by_cases hlt : j < n ∧ j < 20
    · obtain ⟨b, off, rfl, hb, hc⟩ : ∃ b off, a = some ⟨b, off, none⟩ ∧ b < w.heap.size ∧ CellsAt w b off zs := by
        rcases hat with h0 | h0
        · omega
        · exact h0
      obtain ⟨z, hz⟩ : ∃ z, zs[j]? = some z := ⟨zs[j]'(by rw [hlh.out]; exact hlt.1), by simp [hlh.out, hlt.1]⟩
      have c0 := (hbel.cell (p := ⟨b, off + j, none⟩) hb).trans (hc j (by rw [hlh.out]; exact hlt.1))
      have hzd : zs.getD j 0 = z := by simp [List.getD_eq_getElem?_getD, hz]
      rw [hzd] at c0
      have hlt1 : (j : Int) < (n : Int) := by omega
      have hlt2 : (j : Int) < 20 := by omega
      have hj0 : (0 : Int) ≤ (j : Int) := by omega
      obtain ⟨k, hk⟩ : ∃ k, z % 1073741824 = k := ⟨_, rfl⟩
      have hk0 : 0 ≤ k := by omega
      have hk1 : k < 1073741824 := by omega
      have hx : lineOf z = ⟨k % 17, k / 17 % 2000 - 1000⟩ := by unfold lineOf; rw [hk]
      obtain ⟨A, hA⟩ : ∃ A, k % 17 = A := ⟨_, rfl⟩
      obtain ⟨Q, hQ⟩ : ∃ Q, k / 17 = Q := ⟨_, rfl⟩
      obtain ⟨R, hR⟩ : ∃ R, Q % 2000 = R := ⟨_, rfl⟩
      have hA0 : 0 ≤ A ∧ A < 17 := by omega
      have hQ0 : 0 ≤ Q ∧ Q ≤ 1073741824 := by omega
      have hR0 : 0 ≤ R ∧ R < 2000 := by omega
      have hx2 : lineOf z = ⟨A, R - 1000⟩ := by rw [hx, hA, hQ, hR]
      have e : flat2 (linesT zs j) ++ [A, R - 1000] = flat2 (linesT zs (j + 1)) := by
        unfold linesT
        rw [List.take_add_one, hz]
        simp only [List.map_append, Option.toList, List.map_cons, List.map_nil]
        rw [flat2_snoc, hx2]
      have eS : (amts (linesT zs (j + 1))).sum = S + (R - 1000) := by
        rw [← hSh.out]
        unfold linesT
        rw [List.take_add_one, hz]
        simp only [List.map_append, Option.toList, List.map_cons, List.map_nil, amts, List.sum_append, hx2, List.sum_cons, List.sum_nil]
        omega
      have eh := Lib.hid e
      have eSh := Lib.hid eS
      have hQ1 := hQ0.1
      have hQ2 := hQ0.2
      have hR1 := hR0.1
      have hR2 := hR0.2
      clear hx hx2 e eS hz hzd hc hat hlt
      go_wp2_with (first
        | (first | (go_at_call 8; refine (Place_calls _ _ _ (by omega) (by omega)).mono ?_; rintro e w' ⟨rfl, rfl⟩))
        | (at_builtin; refine wpList_push _ rfl _ _ 23 rfl w.heap.size 25 2 elem_Line _ j (flat2 (linesT zs j)) rfl (T.alloc _) wr.heap.size 0 1 [A, R - 1000] rfl rfl (lit2 (x := ⟨A, R - 1000⟩) rfl) ?c1 ?c2 ?_))
      case c1 => omega
      case c2 => simp; omega
      · intro l' w1 hown' hb1
        rw [eh.out] at hown'
        have hbel' : Below w.heap.size w w1 := Below.trans (by (repeat (first | assumption | exact Below.refl _ _ | refine ballc ?_ _ | refine bdrew ?_ | refine bdrewN ?_ _ | refine bset ?_ _ _ | refine bsetN ?_ (by omega) _ _ | refine bthen ?_ (by assumption)))) hb1
        clear T hb1
        go_wp2
        go_roundw
        case rel => exact ⟨j + 1, by omega, by omega, by go_num, by rw [eSh.out], hown', hbel'⟩
        case measure => simp [intOf]; omega
    · have hlen : linesT zs j = linesT zs 20 := by
        unfold linesT
        rcases Nat.lt_or_ge j 20 with h | h
        · rw [List.take_of_length_le (show zs.length ≤ j by have := hlh.out; omega), List.take_of_length_le (show zs.length ≤ 20 by have := hlh.out; omega)]
        · rw [show j = 20 by omega]
      have hE : flat2 (linesT zs j) ++ [6, -S] = flat2 (linesS zs) := by
        unfold linesS linesA
        rw [← hlen, hSh.out, flat2_snoc]
      have hEl : (linesS zs).length = j + 1 := by
        have := hlh.out
        unfold linesS linesA
        rw [← hlen]
        simp [linesT]
        omega
      have hEh := Lib.hid hE
      have hElh := Lib.hid hEl
      have hng : IntKind.i64.wrap (-S) = -S := IntWalk.i64_in _ (by omega)
      clear hE hEl hlen
      have hcase : (¬ (j : Int) < (n : Int)) ∨ ((j : Int) < (n : Int) ∧ ¬ (j : Int) < 20) := by omega
      clear hlt
      rcases hcase with hc1 | ⟨hc1, hc2⟩
      all_goals
        go_wp2_with (at_builtin; refine wpList_push _ rfl _ _ 23 rfl w.heap.size 25 2 elem_Line _ j (flat2 (linesT zs j)) rfl (T.alloc _) wr.heap.size 0 1 [6, -S] rfl rfl (lit2 (x := ⟨6, -S⟩) rfl) ?c1 ?c2 ?_)
        case c1 => first | omega | (simp; omega)
        case c2 => first | omega | (simp; omega)
        intro l' w1 hown' hb1
        rw [hEh.out] at hown'
        have hbel' : Below w.heap.size w w1 := Below.trans (by (repeat (first | assumption | exact Below.refl _ _ | refine ballc ?_ _ | refine bdrew ?_ | refine bdrewN ?_ _ | refine bset ?_ _ _ | refine bsetN ?_ (by omega) _ _ | refine bthen ?_ (by assumption)))) hb1
        clear T hb1
        go_wp2
        go_ret
        exact ⟨_, rfl, by rw [hElh.out]; exact hown', hbel'⟩
end Go.Proofs.Ytnkdbjmfpebcgaa
