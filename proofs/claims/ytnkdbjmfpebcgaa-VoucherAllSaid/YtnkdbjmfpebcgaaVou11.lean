/-
  The document's own answers about lines: may one be, check, total. Their walks.
-/
import Derived.Test.YtnkdbjmfpebcgaaVou9
set_option linter.unusedVariables false
set_option linter.unusedSimpArgs false
namespace Go.Proofs.Ytnkdbjmfpebcgaa
open Go.RowKit

set_option maxHeartbeats 1000000 in
theorem refl_in (x : Lin) (w : World) : Calls Try.prog 36 #[x.val] w fun e w' => e = .returned (.bool (!badP x)) ∧ Below w.heap.size w w' := by
  obtain ⟨a, n⟩ := x
  unfold Lin.val
  generalize hr : (!badP ⟨a, n⟩) = r
  have hrh := Lib.hid hr
  clear hr
  go_enter Try.func36, Try.ntmps36
  by_cases h0 : 0 ≤ a
  · by_cases h1 : a < 17
    · have e : r = inB n := by rw [← hrh.out]; simp [badP, isAcc, h0, h1]
      clear hrh
      subst e
      go_wp2_with (go_at_call 40; refine (ref_In _ _).mono ?_; rintro e w' ⟨rfl, rfl⟩)
      go_ret
      exact ⟨rfl, by (repeat (first | assumption | exact Below.refl _ _ | refine ballc ?_ _ | refine bdrew ?_ | refine bdrewN ?_ _ | refine bset ?_ _ _ | refine bsetN ?_ (by omega) _ _ | refine bthen ?_ (by assumption)))⟩
    · have e : r = false := by rw [← hrh.out]; simp [badP, isAcc, h1]
      clear hrh
      subst e
      go_wp2_with (go_at_call 40; refine (ref_In _ _).mono ?_; rintro e w' ⟨rfl, rfl⟩)
      go_ret
      exact ⟨rfl, by (repeat (first | assumption | exact Below.refl _ _ | refine ballc ?_ _ | refine bdrew ?_ | refine bdrewN ?_ _ | refine bset ?_ _ _ | refine bsetN ?_ (by omega) _ _ | refine bthen ?_ (by assumption)))⟩
  · have e : r = false := by rw [← hrh.out]; simp [badP, isAcc, h0]
    clear hrh
    subst e
    go_wp2_with (go_at_call 40; refine (ref_In _ _).mono ?_; rintro e w' ⟨rfl, rfl⟩)
    go_ret
    exact ⟨rfl, by (repeat (first | assumption | exact Below.refl _ _ | refine ballc ?_ _ | refine bdrew ?_ | refine bdrewN ?_ _ | refine bset ?_ _ _ | refine bsetN ?_ (by omega) _ _ | refine bthen ?_ (by assumption)))⟩

theorem lany_snoc {l : List Lin} {j : Nat} {x : Lin} (p : Lin → Bool) (hx : l[j]? = some x) : (l.take (j + 1)).any p = ((l.take j).any p || p x) := by
  rw [List.take_add_one, hx]; simp
theorem lany_of {l : List Lin} {j : Nat} {x : Lin} {p : Lin → Bool} (hx : l[j]? = some x) (h : p x = true) : l.any p = true := List.any_eq_true.2 ⟨x, List.mem_of_getElem? hx, h⟩
theorem amts_snoc {l : List Lin} {j : Nat} {x : Lin} (hx : l[j]? = some x) : amts (l.take (j + 1)) = amts (l.take j) ++ [x.n] := by
  rw [List.take_add_one, hx]; simp [amts]
theorem amts_I {l : List Lin} (h : AllI (flat2 l)) : AllI (amts l) := fun z hz => by
  obtain ⟨x, hx, rfl⟩ := List.mem_map.1 hz
  exact (flat2_all h hx).2
theorem badP_C (x : Lin) : badC x = (badP x || decide (x.n = 0)) := by
  unfold badC badP
  cases isAcc x.a <;> cases inB x.n <;> cases decide (x.n = 0) <;> rfl

set_option maxRecDepth 20000 in
set_option maxHeartbeats 2000000 in
theorem refl_Check (a : Option Addr) (cap : Nat) (l : List Lin) (w : World) (h : Row w 2 a l.length cap (flat2 l)) (hn : l.length ≤ 1000000) :
    Calls Try.prog 15 #[.slice a l.length cap] w fun e w' => e = .returned (.bool (checkL l)) ∧ Below w.heap.size w w' := by
  obtain ⟨n, hN⟩ : ∃ n, l.length = n := ⟨_, rfl⟩
  have hall := h.all
  have hat := h.at_
  have hmax := h.max
  have hle := h.le
  unfold maxLen at hmax
  clear h
  rw [hN] at hn hat hle ⊢
  have hcl : checkL l = (decide (1 ≤ n) && decide (n ≤ 12) && !(l.any badC) && decide (sumV (amts l) = 0) && decide (sumE (amts l) = 0)) := by unfold checkL; rw [hN]
  have hf : l.any badC = true → checkL l = false := fun h => by rw [hcl, h]; simp
  obtain ⟨r, hr⟩ : ∃ r, checkL l = r := ⟨_, rfl⟩
  rw [hr] at hcl hf ⊢
  have hclh := Lib.hid hcl
  have hfh := Lib.hid hf
  have hNh := Lib.hid hN
  clear hcl hf hN hr
  go_enter Try.func15, Try.ntmps15
  go_wp2_with fail
  go_loopw [3, 4] (fun v i wr => ∃ j : Nat, j ≤ n ∧ i = .int .i64 j ∧ Hid ((l.take j).any badC = false) ∧ OwnI wr w.heap.size 3 1 v j (amts (l.take j)) ∧ Below w.heap.size w wr) (fun _ i _ => n - (intOf i).toNat)
  case atStart => exact ⟨0, by omega, rfl, rfl, OwnI.nil _ _ _ _, Below.refl _ _⟩
  case round =>
    obtain ⟨j, hj, rfl, hnb, T, hbel⟩ := hrel
    have hsz := hbel.size
    by_cases hlt : j < n
    · obtain ⟨b, off, rfl, hb, hc⟩ : ∃ b off, a = some ⟨b, off, none⟩ ∧ b < w.heap.size ∧ CellsAt w b off (flat2 l) := by
        rcases hat with h0 | h0
        · omega
        · exact h0
      obtain ⟨x, hx⟩ : ∃ x, l[j]? = some x := ⟨l[j]'(by rw [hNh.out]; exact hlt), List.getElem?_eq_getElem _⟩
      have hcw := hc.below hb hbel
      have hltI : (j : Int) < (n : Int) := by omega
      have hj0 : (0 : Int) ≤ (j : Int) := by omega
      have s2 := lany_snoc badC hx
      rw [hnb.out, Bool.false_or] at s2
      have hbad : badC x = true → r = false := fun h => hfh.out (lany_of hx h)
      have eh := Lib.hid (amts_snoc hx)
      obtain ⟨c0, c1⟩ := hcw.line hx
      have hxh := Lib.hid hx
      have hbr : b < wr.heap.size := Nat.lt_of_lt_of_le hb hsz
      have hcb := badP_C x
      clear hc hx hat hcw
      obtain ⟨xa, xn⟩ := x
      simp only at c0 c1 eh
      cases hbp : badP ⟨xa, xn⟩ with
      | true =>
        have hr := hbad (by rw [hcb, hbp]; rfl)
        subst hr
        clear hbad s2 hcb
        go_wp2_with fail
        refine (refl_in ⟨xa, xn⟩ _).mono ?_
        rw [hbp]
        rintro e w1 ⟨rfl, hw1⟩
        clear hbp
        go_wp2_with fail
        go_ret
        exact ⟨rfl, by (repeat (first | assumption | exact Below.refl _ _ | refine ballc ?_ _ | refine bdrew ?_ | refine bdrewN ?_ _ | refine bset ?_ _ _ | refine bsetN ?_ (by omega) _ _ | refine bthen ?_ (by assumption)))⟩
      | false =>
        by_cases hz : xn = 0
        · have hr := hbad (by rw [hcb, hbp]; simp [hz])
          subst hr
          subst hz
          clear hbad s2 hcb
          go_wp2_with fail
          refine (refl_in ⟨xa, 0⟩ _).mono ?_
          rw [hbp]
          rintro e w1 ⟨rfl, hw1⟩
          have c1' := (hw1.cell (p := ⟨b, off + j * 2 + 1, none⟩) hbr).trans c1
          clear hbp
          go_wp2_with fail
          go_ret
          exact ⟨rfl, by (repeat (first | assumption | exact Below.refl _ _ | refine ballc ?_ _ | refine bdrew ?_ | refine bdrewN ?_ _ | refine bset ?_ _ _ | refine bsetN ?_ (by omega) _ _ | refine bthen ?_ (by assumption)))⟩
        · rw [hcb, hbp, show (decide (xn = 0)) = false from decide_eq_false hz] at s2
          have s2h := Lib.hid s2
          have hz2 : (xn == 0) = false := by rw [beq_eq_false_iff_ne]; exact hz
          clear hbad s2 hcb
          go_wp2_with fail
          refine (refl_in ⟨xa, xn⟩ _).mono ?_
          rw [hbp]
          rintro e w1 ⟨rfl, hw1⟩
          have c1' := (hw1.cell (p := ⟨b, off + j * 2 + 1, none⟩) hbr).trans c1
          have T1 := T.below hw1
          have hb1 : Below w.heap.size w w1 := by (repeat (first | assumption | exact Below.refl _ _ | refine ballc ?_ _ | refine bdrew ?_ | refine bdrewN ?_ _ | refine bset ?_ _ _ | refine bsetN ?_ (by omega) _ _ | refine bthen ?_ (by assumption)))
          have hs1 := hb1.size
          clear hbp hw1 T hbel
          go_wp2_with (at_builtin; refine wpList_push _ rfl _ _ 36 rfl w.heap.size 3 1 elem_Int _ j (amts (l.take j)) rfl (T1.alloc _) w1.heap.size 0 1 [xn] rfl rfl (lit1 rfl) ?c1 ?c2 ?_)
          case c1 => omega
          case c2 => simp; omega
          intro l' w2 hown' hb2
          rw [← eh.out] at hown'
          have hbel' : Below w.heap.size w w2 := Below.trans (by (repeat (first | assumption | exact Below.refl _ _ | refine ballc ?_ _ | refine bdrew ?_ | refine bdrewN ?_ _ | refine bset ?_ _ _ | refine bsetN ?_ (by omega) _ _ | refine bthen ?_ (by assumption)))) hb2
          clear T1 hb2
          go_wp2_with fail
          go_roundw
          case rel => exact ⟨j + 1, by omega, by go_num, s2h, hown', hbel'⟩
          case measure => simp [intOf]; omega
    · have ej : j = n := by omega
      subst ej
      have hge : ¬ (j : Int) < (j : Int) := by omega
      have htk : l.take j = l := List.take_of_length_le (by rw [hNh.out]; omega)
      rw [htk] at hnb T
      obtain ⟨a1, c1, rfl, R1⟩ := T.row (amts_I hall)
      have hc := hclh.out
      rw [hnb.out] at hc
      obtain ⟨V, hV⟩ : ∃ V, sumV (amts l) = V := ⟨_, rfl⟩
      obtain ⟨E, hE⟩ : ∃ E, sumE (amts l) = E := ⟨_, rfl⟩
      have hsum := ref_Sum a1 j c1 (amts l) wr R1
      rw [hV, hE] at hc hsum
      have hsumh := Lib.hid hsum
      clear htk hnb T hV hE hsum R1
      by_cases h1 : 1 ≤ j
      · by_cases h2 : j ≤ 12
        · have h1I : (1 : Int) ≤ (j : Int) := by omega
          have h2I : (j : Int) ≤ 12 := by omega
          have hc2 : r = (decide (E = 0) && decide (V = 0)) := by rw [hc]; simp [h1, h2, Bool.and_comm]
          by_cases h3 : E = 0
          · subst h3
            have hc3 : r = decide (V = 0) := by rw [hc2]; simp
            subst hc3
            clear hc hc2
            go_wp2_with fail
            refine hsumh.out.mono ?_
            rintro e w1 ⟨rfl, rfl⟩
            go_wp2_with fail
            go_ret
            exact ⟨ret_bool (by rw [Bool.eq_iff_iff]; simp), hbel⟩
          · have hc3 : r = false := by rw [hc2]; simp [h3]
            subst hc3
            have h3B : (E == 0) = false := by rw [beq_eq_false_iff_ne]; exact h3
            clear hc hc2
            go_wp2_with fail
            refine hsumh.out.mono ?_
            rintro e w1 ⟨rfl, rfl⟩
            go_wp2_with fail
            go_ret
            exact ⟨rfl, hbel⟩
        · have h1I : (1 : Int) ≤ (j : Int) := by omega
          have h2I : ¬ (j : Int) ≤ 12 := by omega
          have hc3 : r = false := by rw [hc]; simp [h2]
          subst hc3
          clear hc
          go_wp2_with fail
          refine hsumh.out.mono ?_
          rintro e w1 ⟨rfl, rfl⟩
          go_wp2_with fail
          go_ret
          exact ⟨by first | rfl | exact ret_bool (by simp; omega), hbel⟩
      · have h1I : ¬ (1 : Int) ≤ (j : Int) := by omega
        have hc3 : r = false := by rw [hc]; simp [h1]
        subst hc3
        clear hc
        go_wp2_with fail
        refine hsumh.out.mono ?_
        rintro e w1 ⟨rfl, rfl⟩
        go_wp2_with fail
        go_ret
        exact ⟨by first | rfl | exact ret_bool (by simp; omega), hbel⟩

set_option maxRecDepth 20000 in
set_option maxHeartbeats 2000000 in
theorem refl_Total (a : Option Addr) (cap : Nat) (l : List Lin) (w : World) (h : Row w 2 a l.length cap (flat2 l)) (hn : l.length ≤ 1000000) :
    Calls Try.prog 14 #[.slice a l.length cap] w fun e w' => e = .returned (.tuple #[.int .i64 (totL l).1, .int .i64 (totL l).2]) ∧ Below w.heap.size w w' := by
  obtain ⟨n, hN⟩ : ∃ n, l.length = n := ⟨_, rfl⟩
  have hall := h.all
  have hat := h.at_
  have hmax := h.max
  have hle := h.le
  unfold maxLen at hmax
  clear h
  rw [hN] at hn hat hle ⊢
  have h1 : l.any badT = true → totL l = (0, 2) := fun h => by unfold totL; rw [h]; rfl
  have h2 : l.any badT = false → totL l = (sumV (amts (l.filter fun x => !noDeb x)), sumE (amts (l.filter fun x => !noDeb x))) := fun h => by unfold totL; rw [h]; rfl
  obtain ⟨r, hr⟩ : ∃ r, totL l = r := ⟨_, rfl⟩
  rw [hr] at h1 h2 ⊢
  obtain ⟨r1, r2⟩ := r
  have h1h := Lib.hid h1
  have h2h := Lib.hid h2
  have hNh := Lib.hid hN
  clear h1 h2 hN hr
  go_enter Try.func14, Try.ntmps14
  go_wp2_with fail
  go_loopw [4, 5] (fun v i wr => ∃ j k : Nat, j ≤ n ∧ k ≤ j ∧ i = .int .i64 j ∧ Hid ((l.take j).any badT = false) ∧ OwnI wr w.heap.size 3 1 v k (amts ((l.take j).filter fun x => !noDeb x)) ∧ Below w.heap.size w wr) (fun _ i _ => n - (intOf i).toNat)
  case atStart => exact ⟨0, 0, by omega, by omega, rfl, rfl, OwnI.nil _ _ _ _, Below.refl _ _⟩
  case round =>
    obtain ⟨j, k, hj, hkj, rfl, hnb, T, hbel⟩ := hrel
    have hsz := hbel.size
    by_cases hlt : j < n
    · obtain ⟨b, off, rfl, hb, hc⟩ : ∃ b off, a = some ⟨b, off, none⟩ ∧ b < w.heap.size ∧ CellsAt w b off (flat2 l) := by
        rcases hat with h0 | h0
        · omega
        · exact h0
      obtain ⟨x, hx⟩ : ∃ x, l[j]? = some x := ⟨l[j]'(by rw [hNh.out]; exact hlt), List.getElem?_eq_getElem _⟩
      have hltI : (j : Int) < (n : Int) := by omega
      have hj0 : (0 : Int) ≤ (j : Int) := by omega
      have s2 := lany_snoc badT hx
      rw [hnb.out, Bool.false_or] at s2
      have hbad : badT x = true → (r1, r2) = (0, 2) := fun h => h1h.out (lany_of hx h)
      have e1 : (l.take (j + 1)).filter (fun x => !noDeb x) = (l.take j).filter (fun x => !noDeb x) ++ [x].filter (fun x => !noDeb x) := by rw [List.take_add_one, hx, List.filter_append]; rfl
      obtain ⟨c0, c1⟩ := (hc.below hb hbel).line hx
      clear hc hx hat c0
      obtain ⟨xa, xn⟩ := x
      simp only at c1
      cases hin : inB xn with
      | false =>
        have hr := hbad (by simp [badT, hin])
        obtain ⟨rfl, rfl⟩ : r1 = 0 ∧ r2 = 2 := by injection hr with a b; exact ⟨a, b⟩
        clear hbad s2 hr e1
        go_wp2_with fail
        refine (ref_In xn _).mono ?_
        rw [hin]
        rintro e w1 ⟨rfl, rfl⟩
        clear hin
        go_wp2_with fail
        go_ret2
        exact ⟨rfl, hbel⟩
      | true =>
        have s3 : Hid ((l.take (j + 1)).any badT = false) := by rw [Hid, s2]; simp [badT, hin]
        by_cases hp : 0 < xn
        · have e2 : amts ((l.take (j + 1)).filter fun x => !noDeb x) = amts ((l.take j).filter fun x => !noDeb x) ++ [xn] := by
            have : noDeb ⟨xa, xn⟩ = false := by simp [noDeb]; omega
            rw [e1]; simp [amts, this]
          have e2h := Lib.hid e2
          clear hbad s2 e1 e2
          go_wp2_with (first | (go_at_call 40; refine (ref_In xn _).mono ?_; rw [hin]; rintro e w1 ⟨rfl, rfl⟩) | (at_builtin; refine wpList_push _ rfl _ _ 36 rfl w.heap.size 3 1 elem_Int _ k (amts ((l.take j).filter fun x => !noDeb x)) rfl (T.alloc _) wr.heap.size 0 1 [xn] rfl rfl (lit1 rfl) ?c1 ?c2 ?_))
          case c1 => omega
          case c2 => simp; omega
          intro l' w2 hown' hb2
          rw [← e2h.out] at hown'
          have hbel' : Below w.heap.size w w2 := Below.trans (by (repeat (first | assumption | exact Below.refl _ _ | refine ballc ?_ _ | refine bdrew ?_ | refine bdrewN ?_ _ | refine bset ?_ _ _ | refine bsetN ?_ (by omega) _ _ | refine bthen ?_ (by assumption)))) hb2
          clear T hb2
          go_wp2_with fail
          go_roundw
          case rel => exact ⟨j + 1, k + 1, by omega, by omega, by go_num, s3, hown', hbel'⟩
          case measure => simp [intOf]; omega
        · have e2 : amts ((l.take (j + 1)).filter fun x => !noDeb x) = amts ((l.take j).filter fun x => !noDeb x) := by
            have : noDeb ⟨xa, xn⟩ = true := by simp [noDeb]; omega
            rw [e1]; simp [amts, this]
          have e2h := Lib.hid e2
          clear hbad s2 e1 e2
          go_wp2_with (go_at_call 40; refine (ref_In xn _).mono ?_; rw [hin]; rintro e w1 ⟨rfl, rfl⟩)
          go_roundw
          case rel => exact ⟨j + 1, k, by omega, by omega, by go_num, s3, by rw [e2h.out]; exact T, hbel⟩
          case measure => simp [intOf]; omega
    · have ej : j = n := by omega
      subst ej
      have hge : ¬ (j : Int) < (j : Int) := by omega
      have htk : l.take j = l := List.take_of_length_le (by rw [hNh.out]; omega)
      rw [htk] at hnb T
      obtain ⟨a1, c1, rfl, R1⟩ := T.row (amts_I (flat2_of fun x hx => flat2_all hall (List.mem_filter.1 hx).1))
      have hsum := ref_Sum a1 k c1 _ wr R1
      have hr := h2h.out hnb.out
      injection hr with e1 e2
      rw [← e1, ← e2] at hsum
      have hsumh := Lib.hid hsum
      clear htk hnb T hsum R1 e1 e2
      go_wp2_with fail
      refine hsumh.out.mono ?_
      rintro e w1 ⟨rfl, rfl⟩
      go_wp2_with fail
      go_ret2
      exact ⟨rfl, hbel⟩
end Go.Proofs.Ytnkdbjmfpebcgaa
