/-
  MoneySums: so many of one amount, up to the limit and beyond. Its walk.
-/
import Derived.Test.YtoepflomapoidaaMoneyLaw4
import Derived.Test.YtoepflomapoidaaOwn
set_option linter.unusedVariables false
namespace Go.Proofs.Ytoepflomapoidaa
open Go.RowKit

theorem elem_int : Elem Try.prog 22 3 1 := by
  refine ⟨by kernel_rfl, ?_, by decide⟩
  obtain ⟨i, h1, h2, h3, h4⟩ := info_parts (P := Try.prog) (e := 3) (z := .int .i64 0) (size := 1) (bytes := 8) (by kernel_rfl)
  exact ⟨i, _, h1, h2, h3, h4, rfl⟩

theorem sumGo_rep (v : Int) (hv : -288230376151711744 ≤ v ∧ v ≤ 288230376151711744) : ∀ (k : Nat) (n : Int), inB n = true →
    sumGo n (List.replicate k v) = if inB (n + k * v) = true then some (n + k * v) else none := by
  intro k
  induction k with
  | zero => intro n hn; simp [sumGo, hn]
  | succ k ih =>
    intro n hn
    rw [List.replicate_succ, sumGo]
    have e : n + ((k + 1 : Nat) : Int) * v = n + v + k * v := by
      rw [Int.natCast_add, Int.add_mul]; simp; omega
    by_cases h : inB (n + v) = true
    · rw [if_pos (addOk_iff.2 ⟨hn, inB_iff.2 hv, h⟩), ih _ h, e]
    · have h' : addOk n v = false := by
        cases g : addOk n v with
        | false => rfl
        | true => exact absurd (addOk_iff.1 g).2.2 h
      rw [h']
      have : ¬ inB (n + ((k + 1 : Nat) : Int) * v) = true := by
        rw [inB_iff] at h hn ⊢
        rw [e]
        rcases Int.lt_or_le v 0 with g | g
        · have := Int.mul_nonneg (show (0 : Int) ≤ k by omega) (show 0 ≤ -v by omega)
          rw [Int.mul_neg] at this
          omega
        · have := Int.mul_nonneg (show (0 : Int) ≤ k by omega) g
          omega
      rw [if_neg this]; rfl

theorem AllI.rep {u : Int} (h : -14411518807586586 ≤ u ∧ u ≤ 14411518807586586) (k : Nat) : AllI (List.replicate k u) := by
  intro z hz
  obtain ⟨-, rfl⟩ := List.mem_replicate.1 hz
  exact ⟨by omega, by omega⟩

/-- What so many of one amount come to. -/
structure SumsLaw (k : Nat) (u : Int) : Prop where
  add : addV u (-u) = 0 ∧ addE u (-u) = 0
  big : addE 288230376151711744 288230376151711745 = 2
  low : k < 20 → sumV (List.replicate k u) = k * u ∧ sumE (List.replicate k u) = 0 ∧ -288230376151711744 ≤ (k : Int) * u ∧ (k : Int) * u ≤ 288230376151711744
  mid : k = 20 → ¬ (288230376151711744 < u * 20 ∨ u * 20 < -288230376151711744) → sumV (List.replicate k u) = k * u ∧ sumE (List.replicate k u) = 0 ∧ -288230376151711744 ≤ (k : Int) * u ∧ (k : Int) * u ≤ 288230376151711744
  out : 20 < k ∨ k = 20 ∧ (288230376151711744 < u * 20 ∨ u * 20 < -288230376151711744) → sumV (List.replicate k u) = 0 ∧ sumE (List.replicate k u) = 2

theorem sums_law (k : Nat) (u : Int) (hk : k < 40) (h : 14411518807585587 ≤ u ∧ u ≤ 14411518807586586 ∨ 14411518807585587 ≤ -u ∧ -u ≤ 14411518807586586) : SumsLaw k u := by
  have b : -288230376151711744 ≤ u ∧ u ≤ 288230376151711744 := by omega
  have r := sumGo_rep u b k 0 (by decide)
  rw [Int.zero_add] at r
  have yes (h : -288230376151711744 ≤ (k : Int) * u ∧ (k : Int) * u ≤ 288230376151711744) : sumV (List.replicate k u) = k * u ∧ sumE (List.replicate k u) = 0 ∧ -288230376151711744 ≤ (k : Int) * u ∧ (k : Int) * u ≤ 288230376151711744 := by
    rw [if_pos (inB_iff.2 h)] at r
    simp [sumV, sumE, r, h]
  have no (h : ¬ (-288230376151711744 ≤ (k : Int) * u ∧ (k : Int) * u ≤ 288230376151711744)) : sumV (List.replicate k u) = 0 ∧ sumE (List.replicate k u) = 2 := by
    rw [if_neg (fun g => h (inB_iff.1 g))] at r
    simp [sumV, sumE, r]
  refine ⟨addV_of (addOk_iff.2 ⟨inB_iff.2 b, inB_iff.2 (by omega), inB_iff.2 (by omega)⟩) |>.imp (fun e => by rw [e]; omega) id, by decide +kernel, fun g => yes ?_, fun g g2 => yes ?_, fun g => no ?_⟩
  · rcases h with h | h
    · have m := mul_bd (show (0 : Int) ≤ k by omega) (show (k : Int) ≤ 19 by omega) (show 0 ≤ u by omega) h.2
      omega
    · have m := mul_bd (show (0 : Int) ≤ k by omega) (show (k : Int) ≤ 19 by omega) (show 0 ≤ -u by omega) h.2
      rw [Int.mul_neg] at m
      omega
  · subst g; omega
  · rcases g with g | ⟨g, g2⟩
    · rcases h with h | h
      · have m := Int.mul_le_mul (show (21 : Int) ≤ k by omega) h.1 (by omega) (by omega)
        omega
      · have m := Int.mul_le_mul (show (21 : Int) ≤ k by omega) h.1 (by omega) (by omega)
        rw [Int.mul_neg] at m
        omega
    · subst g; omega

set_option maxHeartbeats 1000000 in
theorem MoneySums_walk (n a : Int) (s : Bool) (w : World) (hn : I64 n) (ha : I64 a) :
    Calls Try.prog 6 #[.int .i64 n, .int .i64 a, .bool s] w fun e w' => e = .returned (.bool true) ∧ Below w.heap.size w w' := by
  obtain ⟨k, hk, k0⟩ : ∃ k : Nat, n % 40 = (k : Int) ∧ k < 40 := ⟨(n % 40).toNat, by omega, by omega⟩
  obtain ⟨v, hv⟩ : ∃ v : Int, 14411518807585587 + a % 1000 = v := ⟨_, rfl⟩
  have v0 : 14411518807585587 ≤ v ∧ v ≤ 14411518807586586 := by omega
  obtain ⟨u, hu, u1⟩ : ∃ u : Int, u = (if s then -v else v) ∧ (14411518807585587 ≤ u ∧ u ≤ 14411518807586586 ∨ 14411518807585587 ≤ -u ∧ -u ≤ 14411518807586586) := ⟨_, rfl, by cases s <;> simp <;> omega⟩
  have u0 : -14411518807586586 ≤ u ∧ u ≤ 14411518807586586 := by omega
  have L := sums_law k u k0 u1
  obtain ⟨⟨l1, l2⟩, l3, l4, l5, l6⟩ := L
  by_cases c1 : k < 20
  · obtain ⟨m1, m2, m3, m4⟩ := l4 c1
    clear l4 l5 l6
    cases s
    · obtain rfl : u = v := hu
      go_enter Try.func6, Try.ntmps6
      try simp only [List.append_eq, List.cons_append, List.nil_append]
      go_wp2_with (first | (go_at_call 19; refine (Place_calls _ _ _ (by omega) (by omega)).mono ?_; rintro e w' ⟨rfl, rfl⟩))
      go_loopw [9, 10] (fun l i wr => ∃ j : Nat, j ≤ k ∧ i = .int .i64 j ∧ OwnI wr w.heap.size 3 1 l j (List.replicate j u) ∧ Below w.heap.size w wr) (fun _ i _ => k - (intOf i).toNat)
      case atStart => exact ⟨0, by omega, rfl, OwnI.nil _ _ _ _, Below.refl _ _⟩
      case round =>
        obtain ⟨j, hj, rfl, hown, hbel⟩ := hrel
        by_cases hlt : j < k
        · have hs := hbel.size
          go_wp2_with (at_builtin; refine wpList_push _ rfl _ _ 22 rfl w.heap.size 3 1 elem_int _ j (List.replicate j u) rfl (hown.alloc _) _ 0 1 [u] rfl rfl (CellsAt.new _ [u] _) ?c1 ?c2 ?_)
          case c1 => omega
          case c2 => simp; omega
          · intro l' w1 hown' hb1
            rw [← List.replicate_succ'] at hown'
            have hbel' := ((hbel.alloc hs _).trans hb1)
            clear hown hbel hb1
            go_wp2
            go_roundw
            case rel => exact ⟨j + 1, by omega, by go_num, hown', hbel'⟩
            case measure => simp [intOf]; omega
        · obtain rfl : j = k := by omega
          obtain ⟨l0, cap, rfl, hrow⟩ := hown.row (AllI.rep u0 _)
          clear hown
          go_wp2_with (first | (go_at_call 9; refine (money_Add _ _ _).mono ?_; rintro e w' ⟨rfl, rfl⟩) | (go_at_call 11; refine (money_Sum _ _ _ _ _ hrow).mono ?_; rintro e w' ⟨rfl, rfl⟩) | (go_at_call 8; refine (money_awake _).mono ?_; rintro e w' ⟨rfl, hwa⟩))
          go_ret
          exact ⟨rfl, bthen hbel hwa⟩
    · have hu2 : -v = u := hu.symm
      clear hu
      go_enter Try.func6, Try.ntmps6
      try simp only [List.append_eq, List.cons_append, List.nil_append]
      go_wp2_with (first | (go_at_call 19; refine (Place_calls _ _ _ (by omega) (by omega)).mono ?_; rintro e w' ⟨rfl, rfl⟩))
      go_loopw [9, 10] (fun l i wr => ∃ j : Nat, j ≤ k ∧ i = .int .i64 j ∧ OwnI wr w.heap.size 3 1 l j (List.replicate j u) ∧ Below w.heap.size w wr) (fun _ i _ => k - (intOf i).toNat)
      case atStart => exact ⟨0, by omega, rfl, OwnI.nil _ _ _ _, Below.refl _ _⟩
      case round =>
        obtain ⟨j, hj, rfl, hown, hbel⟩ := hrel
        by_cases hlt : j < k
        · have hs := hbel.size
          go_wp2_with (at_builtin; refine wpList_push _ rfl _ _ 22 rfl w.heap.size 3 1 elem_int _ j (List.replicate j u) rfl (hown.alloc _) _ 0 1 [u] rfl rfl (CellsAt.new _ [u] _) ?c1 ?c2 ?_)
          case c1 => omega
          case c2 => simp; omega
          · intro l' w1 hown' hb1
            rw [← List.replicate_succ'] at hown'
            have hbel' := ((hbel.alloc hs _).trans hb1)
            clear hown hbel hb1
            go_wp2
            go_roundw
            case rel => exact ⟨j + 1, by omega, by go_num, hown', hbel'⟩
            case measure => simp [intOf]; omega
        · obtain rfl : j = k := by omega
          obtain ⟨l0, cap, rfl, hrow⟩ := hown.row (AllI.rep u0 _)
          clear hown
          go_wp2_with (first | (go_at_call 9; refine (money_Add _ _ _).mono ?_; rintro e w' ⟨rfl, rfl⟩) | (go_at_call 11; refine (money_Sum _ _ _ _ _ hrow).mono ?_; rintro e w' ⟨rfl, rfl⟩) | (go_at_call 8; refine (money_awake _).mono ?_; rintro e w' ⟨rfl, hwa⟩))
          go_ret
          exact ⟨rfl, bthen hbel hwa⟩
  by_cases c2 : k = 20
  · by_cases c3 : 288230376151711744 < u * 20
    · obtain ⟨m1, m2⟩ := l6 (.inr ⟨c2, .inl c3⟩)
      have c5 : 20 ≤ k := by omega
      have c6 : k ≤ 20 := by omega
      clear c2
      clear l4 l5 l6 c1
      cases s
      · obtain rfl : u = v := hu
        go_enter Try.func6, Try.ntmps6
        try simp only [List.append_eq, List.cons_append, List.nil_append]
        go_wp2_with (first | (go_at_call 19; refine (Place_calls _ _ _ (by omega) (by omega)).mono ?_; rintro e w' ⟨rfl, rfl⟩))
        go_loopw [9, 10] (fun l i wr => ∃ j : Nat, j ≤ k ∧ i = .int .i64 j ∧ OwnI wr w.heap.size 3 1 l j (List.replicate j u) ∧ Below w.heap.size w wr) (fun _ i _ => k - (intOf i).toNat)
        case atStart => exact ⟨0, by omega, rfl, OwnI.nil _ _ _ _, Below.refl _ _⟩
        case round =>
          obtain ⟨j, hj, rfl, hown, hbel⟩ := hrel
          by_cases hlt : j < k
          · have hs := hbel.size
            go_wp2_with (at_builtin; refine wpList_push _ rfl _ _ 22 rfl w.heap.size 3 1 elem_int _ j (List.replicate j u) rfl (hown.alloc _) _ 0 1 [u] rfl rfl (CellsAt.new _ [u] _) ?c1 ?c2 ?_)
            case c1 => omega
            case c2 => simp; omega
            · intro l' w1 hown' hb1
              rw [← List.replicate_succ'] at hown'
              have hbel' := ((hbel.alloc hs _).trans hb1)
              clear hown hbel hb1
              go_wp2
              go_roundw
              case rel => exact ⟨j + 1, by omega, by go_num, hown', hbel'⟩
              case measure => simp [intOf]; omega
          · obtain rfl : j = k := by omega
            obtain ⟨l0, cap, rfl, hrow⟩ := hown.row (AllI.rep u0 _)
            clear hown
            go_wp2_with (first | (go_at_call 9; refine (money_Add _ _ _).mono ?_; rintro e w' ⟨rfl, rfl⟩) | (go_at_call 11; refine (money_Sum _ _ _ _ _ hrow).mono ?_; rintro e w' ⟨rfl, rfl⟩) | (go_at_call 8; refine (money_awake _).mono ?_; rintro e w' ⟨rfl, hwa⟩))
            go_ret
            exact ⟨rfl, bthen hbel hwa⟩
      · exfalso
        have hu2 : -v = u := hu.symm
        omega
    · by_cases c4 : u * 20 < -288230376151711744
      · obtain ⟨m1, m2⟩ := l6 (.inr ⟨c2, .inr c4⟩)
        have c5 : 20 ≤ k := by omega
        have c6 : k ≤ 20 := by omega
        clear c2
        clear l4 l5 l6 c1
        cases s
        · exfalso
          obtain rfl : u = v := hu
          omega
        · have hu2 : -v = u := hu.symm
          clear hu
          go_enter Try.func6, Try.ntmps6
          try simp only [List.append_eq, List.cons_append, List.nil_append]
          go_wp2_with (first | (go_at_call 19; refine (Place_calls _ _ _ (by omega) (by omega)).mono ?_; rintro e w' ⟨rfl, rfl⟩))
          go_loopw [9, 10] (fun l i wr => ∃ j : Nat, j ≤ k ∧ i = .int .i64 j ∧ OwnI wr w.heap.size 3 1 l j (List.replicate j u) ∧ Below w.heap.size w wr) (fun _ i _ => k - (intOf i).toNat)
          case atStart => exact ⟨0, by omega, rfl, OwnI.nil _ _ _ _, Below.refl _ _⟩
          case round =>
            obtain ⟨j, hj, rfl, hown, hbel⟩ := hrel
            by_cases hlt : j < k
            · have hs := hbel.size
              go_wp2_with (at_builtin; refine wpList_push _ rfl _ _ 22 rfl w.heap.size 3 1 elem_int _ j (List.replicate j u) rfl (hown.alloc _) _ 0 1 [u] rfl rfl (CellsAt.new _ [u] _) ?c1 ?c2 ?_)
              case c1 => omega
              case c2 => simp; omega
              · intro l' w1 hown' hb1
                rw [← List.replicate_succ'] at hown'
                have hbel' := ((hbel.alloc hs _).trans hb1)
                clear hown hbel hb1
                go_wp2
                go_roundw
                case rel => exact ⟨j + 1, by omega, by go_num, hown', hbel'⟩
                case measure => simp [intOf]; omega
            · obtain rfl : j = k := by omega
              obtain ⟨l0, cap, rfl, hrow⟩ := hown.row (AllI.rep u0 _)
              clear hown
              go_wp2_with (first | (go_at_call 9; refine (money_Add _ _ _).mono ?_; rintro e w' ⟨rfl, rfl⟩) | (go_at_call 11; refine (money_Sum _ _ _ _ _ hrow).mono ?_; rintro e w' ⟨rfl, rfl⟩) | (go_at_call 8; refine (money_awake _).mono ?_; rintro e w' ⟨rfl, hwa⟩))
              go_ret
              exact ⟨rfl, bthen hbel hwa⟩
      · obtain ⟨m1, m2, m3, m4⟩ := l5 c2 (by omega)
        have c5 : 20 ≤ k := by omega
        have c6 : k ≤ 20 := by omega
        clear c2
        clear l4 l5 l6 c1
        cases s
        · obtain rfl : u = v := hu
          go_enter Try.func6, Try.ntmps6
          try simp only [List.append_eq, List.cons_append, List.nil_append]
          go_wp2_with (first | (go_at_call 19; refine (Place_calls _ _ _ (by omega) (by omega)).mono ?_; rintro e w' ⟨rfl, rfl⟩))
          go_loopw [9, 10] (fun l i wr => ∃ j : Nat, j ≤ k ∧ i = .int .i64 j ∧ OwnI wr w.heap.size 3 1 l j (List.replicate j u) ∧ Below w.heap.size w wr) (fun _ i _ => k - (intOf i).toNat)
          case atStart => exact ⟨0, by omega, rfl, OwnI.nil _ _ _ _, Below.refl _ _⟩
          case round =>
            obtain ⟨j, hj, rfl, hown, hbel⟩ := hrel
            by_cases hlt : j < k
            · have hs := hbel.size
              go_wp2_with (at_builtin; refine wpList_push _ rfl _ _ 22 rfl w.heap.size 3 1 elem_int _ j (List.replicate j u) rfl (hown.alloc _) _ 0 1 [u] rfl rfl (CellsAt.new _ [u] _) ?c1 ?c2 ?_)
              case c1 => omega
              case c2 => simp; omega
              · intro l' w1 hown' hb1
                rw [← List.replicate_succ'] at hown'
                have hbel' := ((hbel.alloc hs _).trans hb1)
                clear hown hbel hb1
                go_wp2
                go_roundw
                case rel => exact ⟨j + 1, by omega, by go_num, hown', hbel'⟩
                case measure => simp [intOf]; omega
            · obtain rfl : j = k := by omega
              obtain ⟨l0, cap, rfl, hrow⟩ := hown.row (AllI.rep u0 _)
              clear hown
              go_wp2_with (first | (go_at_call 9; refine (money_Add _ _ _).mono ?_; rintro e w' ⟨rfl, rfl⟩) | (go_at_call 11; refine (money_Sum _ _ _ _ _ hrow).mono ?_; rintro e w' ⟨rfl, rfl⟩) | (go_at_call 8; refine (money_awake _).mono ?_; rintro e w' ⟨rfl, hwa⟩))
              go_ret
              exact ⟨rfl, bthen hbel hwa⟩
        · have hu2 : -v = u := hu.symm
          clear hu
          go_enter Try.func6, Try.ntmps6
          try simp only [List.append_eq, List.cons_append, List.nil_append]
          go_wp2_with (first | (go_at_call 19; refine (Place_calls _ _ _ (by omega) (by omega)).mono ?_; rintro e w' ⟨rfl, rfl⟩))
          go_loopw [9, 10] (fun l i wr => ∃ j : Nat, j ≤ k ∧ i = .int .i64 j ∧ OwnI wr w.heap.size 3 1 l j (List.replicate j u) ∧ Below w.heap.size w wr) (fun _ i _ => k - (intOf i).toNat)
          case atStart => exact ⟨0, by omega, rfl, OwnI.nil _ _ _ _, Below.refl _ _⟩
          case round =>
            obtain ⟨j, hj, rfl, hown, hbel⟩ := hrel
            by_cases hlt : j < k
            · have hs := hbel.size
              go_wp2_with (at_builtin; refine wpList_push _ rfl _ _ 22 rfl w.heap.size 3 1 elem_int _ j (List.replicate j u) rfl (hown.alloc _) _ 0 1 [u] rfl rfl (CellsAt.new _ [u] _) ?c1 ?c2 ?_)
              case c1 => omega
              case c2 => simp; omega
              · intro l' w1 hown' hb1
                rw [← List.replicate_succ'] at hown'
                have hbel' := ((hbel.alloc hs _).trans hb1)
                clear hown hbel hb1
                go_wp2
                go_roundw
                case rel => exact ⟨j + 1, by omega, by go_num, hown', hbel'⟩
                case measure => simp [intOf]; omega
            · obtain rfl : j = k := by omega
              obtain ⟨l0, cap, rfl, hrow⟩ := hown.row (AllI.rep u0 _)
              clear hown
              go_wp2_with (first | (go_at_call 9; refine (money_Add _ _ _).mono ?_; rintro e w' ⟨rfl, rfl⟩) | (go_at_call 11; refine (money_Sum _ _ _ _ _ hrow).mono ?_; rintro e w' ⟨rfl, rfl⟩) | (go_at_call 8; refine (money_awake _).mono ?_; rintro e w' ⟨rfl, hwa⟩))
              go_ret
              exact ⟨rfl, bthen hbel hwa⟩
  · have c3 : 20 < k := by omega
    obtain ⟨m1, m2⟩ := l6 (.inl c3)
    clear l4 l5 l6 c1 c2
    cases s
    · obtain rfl : u = v := hu
      go_enter Try.func6, Try.ntmps6
      try simp only [List.append_eq, List.cons_append, List.nil_append]
      go_wp2_with (first | (go_at_call 19; refine (Place_calls _ _ _ (by omega) (by omega)).mono ?_; rintro e w' ⟨rfl, rfl⟩))
      go_loopw [9, 10] (fun l i wr => ∃ j : Nat, j ≤ k ∧ i = .int .i64 j ∧ OwnI wr w.heap.size 3 1 l j (List.replicate j u) ∧ Below w.heap.size w wr) (fun _ i _ => k - (intOf i).toNat)
      case atStart => exact ⟨0, by omega, rfl, OwnI.nil _ _ _ _, Below.refl _ _⟩
      case round =>
        obtain ⟨j, hj, rfl, hown, hbel⟩ := hrel
        by_cases hlt : j < k
        · have hs := hbel.size
          go_wp2_with (at_builtin; refine wpList_push _ rfl _ _ 22 rfl w.heap.size 3 1 elem_int _ j (List.replicate j u) rfl (hown.alloc _) _ 0 1 [u] rfl rfl (CellsAt.new _ [u] _) ?c1 ?c2 ?_)
          case c1 => omega
          case c2 => simp; omega
          · intro l' w1 hown' hb1
            rw [← List.replicate_succ'] at hown'
            have hbel' := ((hbel.alloc hs _).trans hb1)
            clear hown hbel hb1
            go_wp2
            go_roundw
            case rel => exact ⟨j + 1, by omega, by go_num, hown', hbel'⟩
            case measure => simp [intOf]; omega
        · obtain rfl : j = k := by omega
          obtain ⟨l0, cap, rfl, hrow⟩ := hown.row (AllI.rep u0 _)
          clear hown
          go_wp2_with (first | (go_at_call 9; refine (money_Add _ _ _).mono ?_; rintro e w' ⟨rfl, rfl⟩) | (go_at_call 11; refine (money_Sum _ _ _ _ _ hrow).mono ?_; rintro e w' ⟨rfl, rfl⟩) | (go_at_call 8; refine (money_awake _).mono ?_; rintro e w' ⟨rfl, hwa⟩))
          go_ret
          exact ⟨rfl, bthen hbel hwa⟩
    · have hu2 : -v = u := hu.symm
      clear hu
      go_enter Try.func6, Try.ntmps6
      try simp only [List.append_eq, List.cons_append, List.nil_append]
      go_wp2_with (first | (go_at_call 19; refine (Place_calls _ _ _ (by omega) (by omega)).mono ?_; rintro e w' ⟨rfl, rfl⟩))
      go_loopw [9, 10] (fun l i wr => ∃ j : Nat, j ≤ k ∧ i = .int .i64 j ∧ OwnI wr w.heap.size 3 1 l j (List.replicate j u) ∧ Below w.heap.size w wr) (fun _ i _ => k - (intOf i).toNat)
      case atStart => exact ⟨0, by omega, rfl, OwnI.nil _ _ _ _, Below.refl _ _⟩
      case round =>
        obtain ⟨j, hj, rfl, hown, hbel⟩ := hrel
        by_cases hlt : j < k
        · have hs := hbel.size
          go_wp2_with (at_builtin; refine wpList_push _ rfl _ _ 22 rfl w.heap.size 3 1 elem_int _ j (List.replicate j u) rfl (hown.alloc _) _ 0 1 [u] rfl rfl (CellsAt.new _ [u] _) ?c1 ?c2 ?_)
          case c1 => omega
          case c2 => simp; omega
          · intro l' w1 hown' hb1
            rw [← List.replicate_succ'] at hown'
            have hbel' := ((hbel.alloc hs _).trans hb1)
            clear hown hbel hb1
            go_wp2
            go_roundw
            case rel => exact ⟨j + 1, by omega, by go_num, hown', hbel'⟩
            case measure => simp [intOf]; omega
        · obtain rfl : j = k := by omega
          obtain ⟨l0, cap, rfl, hrow⟩ := hown.row (AllI.rep u0 _)
          clear hown
          go_wp2_with (first | (go_at_call 9; refine (money_Add _ _ _).mono ?_; rintro e w' ⟨rfl, rfl⟩) | (go_at_call 11; refine (money_Sum _ _ _ _ _ hrow).mono ?_; rintro e w' ⟨rfl, rfl⟩) | (go_at_call 8; refine (money_awake _).mono ?_; rintro e w' ⟨rfl, hwa⟩))
          go_ret
          exact ⟨rfl, bthen hbel hwa⟩
end Go.Proofs.Ytoepflomapoidaa
