/-
  Vouchers of small lines made plain. No program in sight.
-/
import Derived.Test.YtnkdbjmfpebcgaaVouL
set_option linter.unusedVariables false
set_option linter.unusedSimpArgs false
namespace Go.Proofs.Ytnkdbjmfpebcgaa

theorem sumGo_small : ∀ (l : List Int) (n : Int), (∀ z, z ∈ l → -50000 ≤ z ∧ z ≤ 50000) → -(200000000 - 50000 * (l.length : Int)) ≤ n → n ≤ 200000000 - 50000 * (l.length : Int) → sumGo n l = some (n + l.sum) := by
  intro l
  induction l with
  | nil => intro n _ _ _; simp [sumGo]
  | cons z l ih =>
    intro n hz h1 h2
    have hz0 := hz z (by simp)
    simp only [List.length_cons] at h1 h2
    have ho : addOk n z = true := addOk_iff.2 ⟨inB_iff.2 (by omega), inB_iff.2 (by omega), inB_iff.2 (by omega)⟩
    simp only [sumGo, ho, if_true]
    rw [ih (n + z) (fun y hy => hz y (by simp [hy])) (by omega) (by omega)]
    simp only [List.sum_cons]
    congr 1
    omega
/-- Lines that there may be, and few, and small. -/
structure Small (l : List Lin) : Prop where
  len : l.length ≤ 100
  acc : ∀ x, x ∈ l → 0 ≤ x.a ∧ x.a < 17
  amt : ∀ x, x ∈ l → -50000 ≤ x.n ∧ x.n ≤ 50000
theorem sum_of {l : List Int} (hl : l.length ≤ 100) (h : ∀ z, z ∈ l → -50000 ≤ z ∧ z ≤ 50000) : sumV l = l.sum ∧ sumE l = 0 := by
  have := sumGo_small l 0 h (by omega) (by omega)
  rw [Int.zero_add] at this
  exact sumV_some this
theorem Small.app {l m : List Lin} (h : Small l) (g : Small m) (hl : l.length + m.length ≤ 100) : Small (l ++ m) :=
  ⟨by rw [List.length_append]; exact hl, fun x hx => (List.mem_append.1 hx).elim (h.acc x) (g.acc x), fun x hx => (List.mem_append.1 hx).elim (h.amt x) (g.amt x)⟩
theorem Small.I {l : List Lin} (h : Small l) : AllI (flat2 l) := flat2_of fun x hx => by
  have a := h.acc x hx
  have b := h.amt x hx
  exact ⟨⟨by omega, by omega⟩, ⟨by omega, by omega⟩⟩
def val (l : List Lin) (a : Int) : Int := (accA l a).sum
theorem Small.val {l : List Lin} (h : Small l) (a : Int) : sumV (accA l a) = val l a ∧ sumE (accA l a) = 0 := by
  refine sum_of ?_ ?_
  · unfold accA amts
    rw [List.length_map]
    exact Nat.le_trans (List.length_filter_le _ _) h.len
  · intro z hz
    obtain ⟨x, hx, rfl⟩ := List.mem_map.1 hz
    exact h.amt x (List.mem_filter.1 hx).1
def plainV (f : Int → Int) : List Lin := ((List.range 17).map fun (a : Nat) => (⟨(a : Int), f (a : Int)⟩ : Lin)).filter (fun x => !zeroN x)
theorem Small.plain {l : List Lin} (h : Small l) : plainS l = (plainV (Go.Proofs.Ytnkdbjmfpebcgaa.val l), 0) := by
  have h1 : l.any badP = false := by
    rw [List.any_eq_false]
    intro x hx
    have a := h.acc x hx
    have b := h.amt x hx
    simp [badP, isAcc_iff.2 a, inB_iff.2 (show -288230376151711744 ≤ x.n ∧ x.n ≤ 288230376151711744 by omega)]
  have h2 : (List.range 17).any (fun (a : Nat) => decide (sumE (accA l (a : Int)) ≠ 0)) = false := by
    rw [List.any_eq_false]
    intro a _
    simp [(h.val a).2]
  simp only [plainS, h1, h2]
  simp only [Bool.false_eq_true, if_false, Prod.mk.injEq, and_true]
  unfold plainV
  congr 1
  refine List.map_congr_left fun a _ => ?_
  rw [(h.val a).1]
theorem plainV_mem {f : Int → Int} {x : Lin} : x ∈ plainV f ↔ 0 ≤ x.a ∧ x.a < 17 ∧ x.n = f x.a ∧ x.n ≠ 0 := by
  unfold plainV
  simp only [List.mem_filter, List.mem_map, List.mem_range]
  constructor
  · rintro ⟨⟨a, ha, rfl⟩, hz⟩
    simp [zeroN] at hz
    exact ⟨by simp only; omega, by simp only; omega, rfl, hz⟩
  · rintro ⟨h1, h2, h3, h4⟩
    refine ⟨⟨x.a.toNat, by omega, ?_⟩, by simp [zeroN, h4]⟩
    rw [Int.toNat_of_nonneg h1]
    exact lin_ext rfl h3.symm
theorem plainV_strict (f : Int → Int) : Strict (plainV f) := by
  unfold plainV
  refine List.Pairwise.filter _ ?_
  rw [List.pairwise_map]
  refine (List.pairwise_lt_range (n := 17)).imp fun {a b} hab => ?_
  simp only
  omega
theorem plainV_len (f : Int → Int) : (plainV f).length ≤ 17 := by
  unfold plainV
  refine Nat.le_trans (List.length_filter_le _ _) ?_
  simp
theorem plainV_congr {f g : Int → Int} (h : ∀ a, 0 ≤ a → a < 17 → f a = g a) : plainV f = plainV g :=
  strict_ext _ _ (plainV_strict f) (plainV_strict g) fun x => by
    rw [plainV_mem, plainV_mem]
    constructor
    · rintro ⟨h1, h2, h3, h4⟩; exact ⟨h1, h2, by rw [h3, h x.a h1 h2], h4⟩
    · rintro ⟨h1, h2, h3, h4⟩; exact ⟨h1, h2, by rw [h3, h x.a h1 h2], h4⟩
theorem val_app (l m : List Lin) (a : Int) : val (l ++ m) a = val l a + val m a := by simp [val, accA, amts, List.filter_append]
theorem val_cons (x : Lin) (m : List Lin) (a : Int) : val (x :: m) a = (if x.a = a then x.n else 0) + val m a := by
  unfold val accA amts
  by_cases h : x.a = a
  · simp [h]
  · simp [h]
theorem val_nil (a : Int) : val [] a = 0 := rfl
/-- Strictly rising: an account's value is its line's. -/
theorem val_strict : ∀ (l : List Lin), Strict l → ∀ a, (∀ x, x ∈ l → x.a = a → val l a = x.n) ∧ ((∀ x, x ∈ l → x.a ≠ a) → val l a = 0)
  | [], _, a => ⟨fun x hx => by simp at hx, fun _ => rfl⟩
  | y :: l, h, a => by
    have hp := List.pairwise_cons.1 h
    have ih := val_strict l hp.2 a
    rw [val_cons]
    constructor
    · intro x hx e
      rcases List.mem_cons.1 hx with rfl | hx
      · rw [if_pos e, ih.2 fun z hz ez => by have := hp.1 z hz; omega]
        omega
      · have := hp.1 x hx
        rw [if_neg (by omega), ih.1 x hx e]
        omega
    · intro hx
      rw [if_neg (hx y (by simp)), ih.2 fun z hz => hx z (by simp [hz])]
      rfl
theorem plainV_val {f : Int → Int} {a : Int} (h0 : 0 ≤ a) (h1 : a < 17) : val (plainV f) a = f a := by
  have h := val_strict (plainV f) (plainV_strict f) a
  by_cases hz : f a = 0
  · rw [hz]
    refine h.2 fun x hx e => ?_
    have := plainV_mem.1 hx
    rw [e] at this
    omega
  · exact h.1 ⟨a, f a⟩ (plainV_mem.2 ⟨h0, h1, rfl, hz⟩) rfl
theorem plainV_idem (f : Int → Int) : plainV (val (plainV f)) = plainV f := plainV_congr fun a h0 h1 => plainV_val h0 h1
/-- All accounts together. -/
theorem sum_zero (n : Nat) : ((List.range n).map fun _ => (0 : Int)).sum = 0 := by induction n with | zero => rfl | succ n ih => rw [List.range_succ, List.map_append, List.sum_append, ih]; rfl
theorem sum_ite : ∀ (n : Nat) (a v : Int), 0 ≤ a → a < n → ((List.range n).map fun (k : Nat) => if a = (k : Int) then v else 0).sum = v := by
  intro n
  induction n with
  | zero => intro a v h0 h1; omega
  | succ n ih =>
    intro a v h0 h1
    rw [List.range_succ, List.map_append, List.sum_append]
    simp only [List.map_cons, List.map_nil, List.sum_cons, List.sum_nil, Int.add_zero]
    by_cases e : a = (n : Int)
    · rw [if_pos e]
      have : ((List.range n).map fun (k : Nat) => if a = (k : Int) then v else 0).sum = 0 := by
        have : ((List.range n).map fun (k : Nat) => if a = (k : Int) then v else 0) = (List.range n).map fun _ => (0 : Int) := by
          refine List.map_congr_left fun k hk => if_neg ?_
          have := List.mem_range.1 hk
          omega
        rw [this]
        exact sum_zero n
      omega
    · rw [if_neg e, ih a v h0 (by omega)]
      omega
theorem sum_add (l : List Nat) (f g : Nat → Int) : (l.map fun k => f k + g k).sum = (l.map f).sum + (l.map g).sum := by
  induction l with
  | nil => rfl
  | cons k l ih => simp only [List.map_cons, List.sum_cons, ih]; omega
theorem val_total : ∀ (l : List Lin), (∀ x, x ∈ l → 0 ≤ x.a ∧ x.a < 17) → ((List.range 17).map fun (k : Nat) => val l (k : Int)).sum = (amts l).sum
  | [], _ => by show ((List.range 17).map fun _ => (0 : Int)).sum = 0; exact sum_zero 17
  | x :: l, h => by
    have ih := val_total l fun y hy => h y (by simp [hy])
    have hx := h x (by simp)
    have : ((List.range 17).map fun (k : Nat) => val (x :: l) (k : Int)) = (List.range 17).map fun (k : Nat) => (if x.a = (k : Int) then x.n else 0) + val l (k : Int) :=
      List.map_congr_left fun k _ => val_cons x l k
    rw [this, sum_add, ih, sum_ite 17 x.a x.n hx.1 hx.2]
    simp [amts]
theorem filter_zero (l : List Lin) : (amts (l.filter fun x => !zeroN x)).sum = (amts l).sum := by
  induction l with
  | nil => rfl
  | cons x l ih =>
    by_cases h : x.n = 0
    · have : zeroN x = true := by simp [zeroN, h]
      simp [List.filter_cons, this]
      rw [ih]
      simp [amts, h]
    · have : zeroN x = false := by simp [zeroN, h]
      simp [List.filter_cons, this]
      simp only [amts, List.map_cons, List.sum_cons] at ih ⊢
      rw [ih]
theorem plainV_total {l : List Lin} (h : ∀ x, x ∈ l → 0 ≤ x.a ∧ x.a < 17) : (amts (plainV (val l))).sum = (amts l).sum := by
  unfold plainV
  rw [filter_zero, ← val_total l h]
  simp only [amts, List.map_map]
  rfl
/-- The other way round. -/
theorem Small.turn {l : List Lin} (h : Small l) : turnS l = l.map fun x => ⟨x.a, -x.n⟩ := by
  refine List.map_congr_left fun x hx => ?_
  have := h.amt x hx
  simp only [turn1, inB_iff.2 (show -288230376151711744 ≤ x.n ∧ x.n ≤ 288230376151711744 by omega), if_true]
theorem Small.turned {l : List Lin} (h : Small l) : Small (turnS l) := by
  rw [h.turn]
  refine ⟨by rw [List.length_map]; exact h.len, fun x hx => ?_, fun x hx => ?_⟩
  · obtain ⟨y, hy, rfl⟩ := List.mem_map.1 hx; exact h.acc y hy
  · obtain ⟨y, hy, rfl⟩ := List.mem_map.1 hx; have := h.amt y hy; simp only; omega
theorem val_neg (l : List Lin) (a : Int) : val (l.map fun x => (⟨x.a, -x.n⟩ : Lin)) a = -(val l a) := by
  induction l with
  | nil => rfl
  | cons x l ih =>
    rw [List.map_cons, val_cons, val_cons, ih]
    by_cases h : x.a = a
    · rw [if_pos h, if_pos h]; simp only; omega
    · rw [if_neg h, if_neg h]; omega
theorem Small.val_turn {l : List Lin} (h : Small l) (a : Int) : Go.Proofs.Ytnkdbjmfpebcgaa.val (turnS l) a = -(Go.Proofs.Ytnkdbjmfpebcgaa.val l a) := by rw [h.turn, val_neg]
/-- All debits. -/
def debs (l : List Lin) : Int := (amts (l.filter fun x => !noDeb x)).sum
theorem Small.tot {l : List Lin} (h : Small l) : totL l = (debs l, 0) := by
  have h1 : l.any badT = false := by
    rw [List.any_eq_false]
    intro x hx
    have b := h.amt x hx
    simp [badT, inB_iff.2 (show -288230376151711744 ≤ x.n ∧ x.n ≤ 288230376151711744 by omega)]
  have h2 := sum_of (l := amts (l.filter fun x => !noDeb x)) (by unfold amts; rw [List.length_map]; exact Nat.le_trans (List.length_filter_le _ _) h.len) (fun z hz => by
    obtain ⟨x, hx, rfl⟩ := List.mem_map.1 hz
    exact h.amt x (List.mem_filter.1 hx).1)
  unfold totL
  rw [h1, h2.1, h2.2]
  rfl
theorem debs_cons (x : Lin) (l : List Lin) : debs (x :: l) = (if x.n ≤ 0 then 0 else x.n) + debs l := by
  unfold debs amts
  by_cases h : x.n ≤ 0
  · simp [noDeb, h]
  · simp [noDeb, h]
theorem debs_neg (l : List Lin) : debs l - debs (l.map fun x => (⟨x.a, -x.n⟩ : Lin)) = (amts l).sum := by
  induction l with
  | nil => rfl
  | cons x l ih =>
    rw [List.map_cons, debs_cons, debs_cons]
    have : (amts (x :: l)).sum = x.n + (amts l).sum := by simp [amts]
    rw [this]
    simp only
    split <;> split <;> omega
theorem Small.debs_turn {l : List Lin} (h : Small l) (h0 : (amts l).sum = 0) : debs (turnS l) = debs l := by
  have := debs_neg l
  rw [h.turn]
  omega
theorem Small.check {l : List Lin} (h : Small l) (h0 : (amts l).sum = 0) (hz : ∀ x, x ∈ l → x.n ≠ 0) : checkL l = (decide (1 ≤ l.length) && decide (l.length ≤ 12)) := by
  have h1 : l.any badC = false := by
    rw [List.any_eq_false]
    intro x hx
    have a := h.acc x hx
    have b := h.amt x hx
    have c := hz x hx
    simp [badC, isAcc_iff.2 a, c, inB_iff.2 (show -288230376151711744 ≤ x.n ∧ x.n ≤ 288230376151711744 by omega)]
  have h2 := sum_of (l := amts l) (by unfold amts; rw [List.length_map]; exact h.len) (fun z hz => by
    obtain ⟨x, hx, rfl⟩ := List.mem_map.1 hz
    exact h.amt x hx)
  unfold checkL
  rw [h1, h2.1, h2.2, h0]
  simp
/-- The law's lines. -/
theorem lines_small (zs : List Int) : Small (linesS zs) ∧ (amts (linesS zs)).sum = 0 := by
  have hl : (linesA zs).length ≤ 20 := by unfold linesA linesT; simp; omega
  have hb := sum_bd (amts (linesA zs)) (amts_bd (zs.take 20))
  have hal : (amts (linesA zs)).length = (linesA zs).length := by simp [amts]
  refine ⟨⟨by unfold linesS; simp; omega, fun x hx => ?_, fun x hx => ?_⟩, ?_⟩
  · rcases List.mem_append.1 hx with hx | hx
    · obtain ⟨z, hz, rfl⟩ := List.mem_map.1 hx
      have := lineOf_bd z
      omega
    · simp at hx; subst hx; simp
  · rcases List.mem_append.1 hx with hx | hx
    · obtain ⟨z, hz, rfl⟩ := List.mem_map.1 hx
      have := lineOf_bd z
      omega
    · simp at hx; subst hx; simp only; omega
  · unfold linesS
    simp [amts]
    omega
/-- The whole law. -/
theorem lines_law (zs : List Int) : ∃ p : List Lin, plainS (linesS zs) = (p, 0) ∧ plainS p = (p, 0) ∧ plainS (p ++ turnS (linesS zs)) = ([], 0) ∧ p.length ≤ 17 ∧ Small p ∧ (∀ x, x ∈ p → x.n ≠ 0) ∧ Strict p ∧ (amts p).sum = 0 ∧ totL p = (debs p, 0) ∧ totL (turnS p) = (debs p, 0) ∧ checkL p = (decide (1 ≤ p.length) && decide (p.length ≤ 12)) := by
  obtain ⟨hM, hM0⟩ := lines_small zs
  have hl := hM.len
  have hMl : (linesS zs).length ≤ 21 := by unfold linesS linesA linesT; simp; omega
  obtain ⟨M, hMe⟩ : ∃ M, linesS zs = M := ⟨_, rfl⟩
  rw [hMe] at hM hM0 hMl ⊢
  have hv : ∀ a, -50000 ≤ val M a ∧ val M a ≤ 50000 := by
    intro a
    have hm : ∀ z, z ∈ accA M a → ∃ x, x ∈ M ∧ x.a = a ∧ x.n = z := by
      intro z hz
      obtain ⟨x, hx, rfl⟩ := List.mem_map.1 hz
      have := List.mem_filter.1 hx
      exact ⟨x, this.1, by simpa using this.2, rfl⟩
    subst hMe
    have e : val (linesS zs) a = val (linesA zs) a + val [⟨6, -(amts (linesA zs)).sum⟩] a := val_app _ _ _
    have h1 : -1000 * 20 ≤ val (linesA zs) a ∧ val (linesA zs) a ≤ 1000 * 20 := by
      have hsub : ∀ z, z ∈ accA (linesA zs) a → -1000 ≤ z ∧ z ≤ 1000 := fun z hz => by
        obtain ⟨x, hx, rfl⟩ := List.mem_map.1 hz
        exact amts_bd (zs.take 20) x.n (List.mem_map.2 ⟨x, (List.mem_filter.1 hx).1, rfl⟩)
      have := sum_bd _ hsub
      have hlen : (accA (linesA zs) a).length ≤ 20 := by
        unfold accA amts
        rw [List.length_map]
        refine Nat.le_trans (List.length_filter_le _ _) ?_
        unfold linesA linesT; simp; omega
      unfold val
      omega
    have h2 : -1000 * 20 ≤ val [⟨6, -(amts (linesA zs)).sum⟩] a ∧ val [⟨6, -(amts (linesA zs)).sum⟩] a ≤ 1000 * 20 := by
      have hb := sum_bd (amts (linesA zs)) (amts_bd (zs.take 20))
      have hal : (amts (linesA zs)).length ≤ 20 := by unfold amts linesA linesT; simp; omega
      rw [val_cons, val_nil]
      simp only
      split <;> omega
    omega
  have hp : Small (plainV (val M)) := ⟨by have := plainV_len (val M); omega, fun x hx => by have := plainV_mem.1 hx; omega, fun x hx => by have := plainV_mem.1 hx; have := hv x.a; omega⟩
  have hnz : ∀ x, x ∈ plainV (val M) → x.n ≠ 0 := fun x hx => (plainV_mem.1 hx).2.2.2
  have h0 : (amts (plainV (val M))).sum = 0 := by rw [plainV_total hM.acc, hM0]
  refine ⟨plainV (val M), hM.plain, by rw [hp.plain, plainV_idem], ?_, plainV_len _, hp, hnz, plainV_strict _, h0, hp.tot, by rw [hp.turned.tot, hp.debs_turn h0], hp.check h0 hnz⟩
  rw [(hp.app hM.turned (by rw [turnS_len]; have := plainV_len (val M); omega)).plain]
  have : plainV (val (plainV (val M) ++ turnS M)) = [] := by
    rw [List.eq_nil_iff_forall_not_mem]
    intro x hx
    have h := plainV_mem.1 hx
    rw [val_app, plainV_val h.1 h.2.1, hM.val_turn] at h
    omega
  rw [this]
end Go.Proofs.Ytnkdbjmfpebcgaa
