/-
  PartsEven. Its walk.
-/
import Derived.Test.YtanmfhdljgphhaaPartS
set_option linter.unusedVariables false
set_option linter.unusedSimpArgs false
namespace Go.Proofs.Ytanmfhdljgphhaa
open Go.RowKit

def sevens (k j : Nat) : List Int := List.replicate j 7 ++ List.replicate (k - j) 0
theorem sevens_len {k j : Nat} (h : j ≤ k) : (sevens k j).length = k := by simp [sevens]; omega
theorem sevens_step {k j : Nat} (h : j < k) : (sevens k j).set j 7 = sevens k (j + 1) := by
  unfold sevens
  rw [List.set_append, if_neg (by simp), List.length_replicate, Nat.sub_self]
  obtain ⟨q, hq⟩ : ∃ q, k - j = q + 1 := ⟨k - j - 1, by omega⟩
  rw [hq, show k - (j + 1) = q by omega, List.replicate_succ, List.set_cons_zero, List.replicate_succ']
  simp

set_option maxRecDepth 20000 in
set_option maxHeartbeats 4000000 in
theorem PartsEven_walk (total n : Int) (w : World) (hh : I64 total) (hn : I64 n) :
    Calls Try.prog 5 #[.int .i64 total, .int .i64 n] w fun e w' => e = .returned (.bool true) ∧ Below w.heap.size w w' := by
  obtain ⟨k, hk⟩ : ∃ k : Nat, n % 40 = (k : Int) := ⟨(n % 40).toNat, by omega⟩
  have hk40 : k < 40 := by omega
  obtain ⟨t, ht⟩ : ∃ t, total % 1099511627776 = t := ⟨_, rfl⟩
  have ht0 : 0 ≤ t := by omega
  have ht1 : t < 1099511627776 := by omega
  obtain ⟨K, hK⟩ : ∃ K : Nat, 1 + k = K := ⟨_, rfl⟩
  have hKI : 1 + (k : Int) = (K : Int) := by omega
  have hK1 : 1 ≤ K := by omega
  have hK40 : K ≤ 40 := by omega
  have hmk := make_n K (by omega)
  clear hK hk40
  go_enter Try.func5, Try.ntmps5
  go_wp2_with (first | (go_at_call 11; refine (Place_calls _ _ _ (by omega) (by omega)).mono ?_; rintro e w' ⟨rfl, rfl⟩))
  have hb0 : Below w.heap.size w (w.alloc (.cells (zerosA K) 3)) := by (repeat (first | assumption | exact Below.refl _ _ | refine ballc ?_ _ | refine bdrew ?_ | refine bdrewN ?_ _ | refine bset ?_ _ _ | refine bsetN ?_ (by omega) _ _ | refine bthen ?_ (by assumption)))
  have hC0 : CellsAt (w.alloc (.cells (zerosA K) 3)) w.heap.size 0 (sevens K 0) := by
    have := CellsAt.zeros w K 3
    simpa [sevens] using this
  have hfz0 : ∀ i, (w.alloc (.cells (zerosA K) 3)).frozen? ⟨w.heap.size, i, none⟩ = false := World.frozen?_alloc_new w (zerosA K) 3
  have hsz0 : w.heap.size < (w.alloc (.cells (zerosA K) 3)).heap.size := by simp
  generalize w.alloc (.cells (zerosA K) 3) = W0 at *
  obtain ⟨B, hB⟩ : ∃ B, w.heap.size = B := ⟨_, rfl⟩
  rw [hB] at hb0 hC0 hfz0 hsz0 ⊢
  have hBh := Lib.hid hB
  clear hB hmk
  go_loopw [22] (fun i wr => ∃ j : Nat, j ≤ K ∧ i = .int .i64 (j : Int) ∧ CellsAt wr B 0 (sevens K j) ∧ Keep B W0 wr) (fun i _ => K - (intOf i).toNat)
  case atStart => exact ⟨0, by omega, rfl, hC0, Keep.refl _ _⟩
  case round =>
    obtain ⟨j, hj, rfl, hC, hKp⟩ := hrel
    by_cases hlt : j < K
    · have hltI : (j : Int) < (K : Int) := by omega
      have hj0 : (0 : Int) ≤ (j : Int) := by omega
      have hcell := hC j (by rw [sevens_len hj]; exact hlt)
      rw [Nat.zero_add] at hcell
      have hfr : wr.frozen? ⟨B, j, none⟩ = false := (hKp.froz j).trans (hfz0 j)
      have hC2 := CellsAt.put hC (j := j) (by rw [sevens_len hj]; exact hlt) 7
      rw [sevens_step hlt, Nat.zero_add] at hC2
      have hK2 := hKp.set j (.int .i64 7)
      go_wp2_with fail
      go_roundw
      case rel => exact ⟨j + 1, by omega, by go_num, hC2, hK2⟩
      case measure => simp [intOf]; omega
    · have ej : j = K := by omega
      subst ej
      have hge : ¬ (j : Int) < (j : Int) := by omega
      have hC2 : CellsAt wr B 0 (List.replicate j 7) := by simpa [sevens] using hC
      have hb1 : Below B w wr := hb0.trans (hKp.below (Nat.le_of_lt hsz0) (Nat.le_refl _))
      have hsr := hKp.size
      have hR : Row wr 1 (some ⟨B, 0, none⟩) j j (List.replicate j 7) := ⟨by simp, Nat.le_refl _, by unfold maxLen; omega, fun z hz => by rw [List.eq_of_mem_replicate hz]; exact ⟨by omega, by omega⟩, .inr ⟨B, 0, rfl, by omega, hC2⟩⟩
      have hSp := parts_Split (some ⟨B, 0, none⟩) j (List.replicate j 7) t wr (by rw [List.length_replicate]; exact hR) (by rw [List.length_replicate]; omega)
      rw [List.length_replicate] at hSp
      clear hC hC0 hC2 hfz0 hR
      go_wp2_with fail
      refine hSp.mono ?_
      rintro e w1 hS
      obtain ⟨ha, hb⟩ := even_ok j t hK1 (by omega) ht0 (by omega)
      obtain ⟨⟨v, m, rfl, hm1, hm2, hm3, hH⟩, hw1⟩ := split_ok hS ha hb
      have hlaw := even_law (k := j) (t := t) hK1 (by omega) ht0 (by omega) hm2 hm3
      have hH2 : HoldZ w1 wr.heap.size v (bump (quoL t (sumV (List.replicate j 7)) (List.replicate j 7)) (m.take (moreN t (sumV (List.replicate j 7)) (List.replicate j 7)))) := hH
      have hAl : (bump (quoL t (sumV (List.replicate j 7)) (List.replicate j 7)) (m.take (moreN t (sumV (List.replicate j 7)) (List.replicate j 7)))).length = j := by rw [bump_len, quoL_len, List.length_replicate]
      generalize bump (quoL t (sumV (List.replicate j 7)) (List.replicate j 7)) (m.take (moreN t (sumV (List.replicate j 7)) (List.replicate j 7))) = A at hlaw hH2 hAl
      obtain ⟨Q, hQ⟩ : ∃ Q, t / (j : Int) = Q := ⟨_, rfl⟩
      obtain ⟨R, hRr⟩ : ∃ R, t % (j : Int) = R := ⟨_, rfl⟩
      have hQ0 : 0 ≤ Q := by rw [← hQ]; exact Int.ediv_nonneg ht0 (by omega)
      have hQ1 : Q ≤ t := by rw [← hQ]; exact Int.ediv_le_self _ ht0
      have hR0 : 0 ≤ R := by rw [← hRr]; exact Int.emod_nonneg _ (by omega)
      rw [hQ, hRr] at hlaw
      have hAI : AllI A := fun z hz => by
        obtain ⟨i, hi, rfl⟩ := List.mem_iff_getElem.1 hz
        have := hlaw i (by omega)
        rw [List.getD_eq_getElem?_getD, List.getElem?_eq_getElem hi] at this
        simp only [Option.getD_some] at this
        rw [this]
        split
        · exact ⟨by omega, by omega⟩
        · exact ⟨by omega, by omega⟩
      obtain ⟨a1, rfl, R1⟩ := hH2.row hAI (by omega)
      rw [hAl] at R1 ⊢
      have hbel1 : Below B w w1 := hb1.trans (hw1.mono (by omega))
      have hlawh := Lib.hid hlaw
      have hAlh := Lib.hid hAl
      clear hS hm1 hm2 hm3 hH hH2 hw1 ha hb hlaw hAl hSp
      go_wp2_with fail
      go_loopw [11] (fun i wq => ∃ q : Nat, q ≤ j ∧ i = .int .i64 (q : Int) ∧ w1 = wq) (fun i _ => j - (intOf i).toNat)
      case atStart => exact ⟨0, by omega, rfl, rfl⟩
      case round =>
        obtain ⟨q, hq, rfl, rfl⟩ := hrel
        by_cases hlt2 : q < j
        · have hlt2I : (q : Int) < (j : Int) := by omega
          have hq0 : (0 : Int) ≤ (q : Int) := by omega
          obtain ⟨b, off, rfl, hb, hc⟩ : ∃ b off, a1 = some ⟨b, off, none⟩ ∧ b < w1.heap.size ∧ CellsAt w1 b off A := by
            rcases R1.at_ with h0 | h0
            · omega
            · exact h0
          have c0 := hc q (by rw [hAlh.out]; exact hlt2)
          rw [hlawh.out q hlt2] at c0
          clear hc
          by_cases hqr : (q : Int) < R
          · rw [if_pos hqr] at c0
            go_wp2_with fail
            go_roundw
            case rel => exact ⟨q + 1, by omega, by go_num, by first | rfl | trivial⟩
            case measure => simp [intOf]; omega
          · rw [if_neg hqr, Int.add_zero] at c0
            go_wp2_with fail
            go_roundw
            case rel => exact ⟨q + 1, by omega, by go_num, by first | rfl | trivial⟩
            case measure => simp [intOf]; omega
        · have eq : q = j := by omega
          subst eq
          have hge2 : ¬ (q : Int) < (q : Int) := by omega
          go_wp2_with (go_at_call 7; refine (parts_awake _).mono ?_; rintro e w' ⟨rfl, hwa⟩)
          go_ret
          exact ⟨rfl, by rw [hBh.out]; exact hbel1.trans (hwa.mono (by have := hbel1.size; have := hBh.out; omega))⟩
end Go.Proofs.Ytanmfhdljgphhaa
