/-
  A voucher, a line for each account: what comes of adding up lines that rise by account. No program in sight.
-/
import Derived.Test.YtnalblnmplnhmaaGreatVou3
set_option linter.unusedVariables false
set_option linter.unusedSimpArgs false
namespace Go.Proofs.YtnalblnmplnhmaaGreat

/-- The amounts of an account, in their order. -/
def accA (l : List Lin) (a : Int) : List Int := amts (l.filter fun x => x.a == a)
/-- What Plain answers. -/
def plainS (l : List Lin) : List Lin × Int :=
  if l.any badP then ([], 1) else if (List.range 17).any (fun (a : Nat) => decide (sumE (accA l (a : Int)) ≠ 0)) then ([], 2) else
    (((List.range 17).map fun (a : Nat) => (⟨(a : Int), sumV (accA l (a : Int))⟩ : Lin)).filter (fun x => !zeroN x), 0)

/-- Rising, no account twice. -/
def Strict (l : List Lin) : Prop := l.Pairwise fun x y => x.a < y.a
/-- The lines so far, added up. -/
structure Added (P out : List Lin) : Prop where
  strict : Strict out
  acc : ∀ a, (∃ y, y ∈ out ∧ y.a = a) ↔ ∃ x, x ∈ P ∧ x.a = a
  sum : ∀ y, y ∈ out → sumGo 0 (accA P y.a) = some y.n
  rise : Rises Lin.a P
theorem Added.nil : Added [] [] := ⟨List.Pairwise.nil, by simp, by simp, Rises.nil⟩
theorem accA_snoc (P : List Lin) (x : Lin) (a : Int) : accA (P ++ [x]) a = if x.a = a then accA P a ++ [x.n] else accA P a := by
  unfold accA amts
  by_cases h : x.a = a
  · simp [List.filter_append, h]
  · simp [List.filter_append, h]
theorem sumGo_snoc' (l : List Int) (z n : Int) (h : sumGo 0 l = some n) : sumGo 0 (l ++ [z]) = if addOk n z then some (n + z) else none := by
  rw [sumGo_snoc, h]; rfl
/-- Another account: a line more. -/
theorem Added.more {P out : List Lin} {x : Lin} (h : Added P out) (hr : Rises Lin.a (P ++ [x])) (hx : inB x.n = true) (hne : ∀ A y, out = A ++ [y] → y.a ≠ x.a) : Added (P ++ [x]) (out ++ [x]) := by
  have hle : ∀ y, y ∈ out → y.a < x.a := by
    intro y hy
    have hle' : ∀ y, y ∈ out → y.a ≤ x.a := fun y hy => by
      obtain ⟨z, hz, e⟩ := (h.acc y.a).1 ⟨y, hy, rfl⟩
      have := (Rises.app.1 hr).2.2 z hz x (by simp)
      omega
    rcases split_last out with rfl | ⟨A, y', rfl⟩
    · simp at hy
    · have h1 := hne A y' rfl
      have h2 := hle' y' (by simp)
      rcases List.mem_append.1 hy with hy | hy
      · have := (List.pairwise_append.1 h.strict).2.2 y hy y' (by simp)
        omega
      · simp at hy; subst hy; omega
  have hno : accA P x.a = [] := by
    unfold accA amts
    rw [List.map_eq_nil_iff, List.filter_eq_nil_iff]
    intro z hz
    simp
    intro e
    obtain ⟨y, hy, ey⟩ := (h.acc z.a).2 ⟨z, hz, rfl⟩
    have := hle y hy
    omega
  refine ⟨List.pairwise_append.2 ⟨h.strict, by simp, fun y hy z hz => by simp at hz; subst hz; exact hle y hy⟩, fun a => ?_, fun y hy => ?_, hr⟩
  · constructor
    · rintro ⟨y, hy, rfl⟩
      rcases List.mem_append.1 hy with hy | hy
      · obtain ⟨z, hz, e⟩ := (h.acc y.a).1 ⟨y, hy, rfl⟩
        exact ⟨z, by simp [hz], e⟩
      · exact ⟨y, by simp at hy; simp [hy], rfl⟩
    · rintro ⟨z, hz, rfl⟩
      rcases List.mem_append.1 hz with hz | hz
      · obtain ⟨y, hy, e⟩ := (h.acc z.a).2 ⟨z, hz, rfl⟩
        exact ⟨y, by simp [hy], e⟩
      · exact ⟨z, by simp at hz; simp [hz], rfl⟩
  · rw [accA_snoc]
    rcases List.mem_append.1 hy with hy | hy
    · have := hle y hy
      rw [if_neg (by omega)]
      exact h.sum y hy
    · simp at hy
      subst hy
      rw [if_pos rfl, hno]
      have : addOk 0 y.n = true := addOk_iff.2 ⟨by decide +kernel, hx, by rw [Int.zero_add]; exact hx⟩
      simp [sumGo, this]
/-- The same account: the last line, more. -/
theorem Added.same {P A : List Lin} {x y : Lin} (h : Added P (A ++ [y])) (hr : Rises Lin.a (P ++ [x])) (e : y.a = x.a) (ho : addOk y.n x.n = true) : Added (P ++ [x]) (A ++ [⟨y.a, y.n + x.n⟩]) := by
  have hs := List.pairwise_append.1 h.strict
  refine ⟨List.pairwise_append.2 ⟨hs.1, by simp, fun z hz u hu => by simp at hu; subst hu; exact hs.2.2 z hz y (by simp)⟩, fun a => ?_, fun z hz => ?_, hr⟩
  · have := h.acc a
    constructor
    · rintro ⟨z, hz, rfl⟩
      have : ∃ u, u ∈ P ∧ u.a = z.a := this.1 (by
        rcases List.mem_append.1 hz with hz | hz
        · exact ⟨z, by simp [hz], rfl⟩
        · simp at hz; exact ⟨y, by simp, by rw [hz]⟩)
      obtain ⟨u, hu, eu⟩ := this
      exact ⟨u, by simp [hu], eu⟩
    · rintro ⟨z, hz, rfl⟩
      have h2 : ∃ u, u ∈ A ++ [y] ∧ u.a = z.a := by
        rcases List.mem_append.1 hz with hz | hz
        · exact this.2 ⟨z, hz, rfl⟩
        · simp at hz; exact ⟨y, by simp, by rw [hz, e]⟩
      obtain ⟨u, hu, eu⟩ := h2
      rcases List.mem_append.1 hu with hu | hu
      · exact ⟨u, by simp [hu], eu⟩
      · simp at hu; subst hu; exact ⟨⟨u.a, u.n + x.n⟩, by simp, eu⟩
  · rw [accA_snoc]
    rcases List.mem_append.1 hz with hz | hz
    · have := hs.2.2 z hz y (by simp)
      rw [if_neg (by omega)]
      exact h.sum z (by simp [hz])
    · simp at hz
      subst hz
      rw [if_pos e.symm]
      rw [sumGo_snoc' _ _ _ (h.sum y (by simp)), ho]
      rfl
/-- The sum goes out of bounds. -/
theorem Added.stop {P A m : List Lin} {x y : Lin} {k : Nat} (h : Added P (A ++ [y])) (e : y.a = x.a) (ho : addOk y.n x.n = false) (hP : P = m.take k) (hx : m[k]? = some x) : sumGo 0 (accA m y.a) = none := by
  have h1 : sumGo 0 (accA (P ++ [x]) y.a) = none := by
    rw [accA_snoc, if_pos e.symm, sumGo_snoc' _ _ _ (h.sum y (by simp)), ho]
    rfl
  have h2 : accA m y.a = accA (P ++ [x]) y.a ++ accA (m.drop (k + 1)) y.a := by
    have e2 : m.take (k + 1) = P ++ [x] := by rw [List.take_add_one, hx, hP]; rfl
    conv => lhs; rw [← List.take_append_drop (k + 1) m, e2]
    unfold accA amts
    rw [List.filter_append, List.map_append]
  rw [h2, sumGo_append, h1]
  rfl

theorem sumGo_in (l : List Int) : ∀ n s : Int, inB n = true → sumGo n l = some s → inB s = true := by
  induction l with
  | nil => intro n s hn h; simp [sumGo] at h; subst h; exact hn
  | cons z l ih =>
    intro n s hn h
    simp only [sumGo] at h
    split at h
    · rename_i k; exact ih _ _ (addOk_iff.1 k).2.2 h
    · cases h
theorem accA_stab {l m : List Lin} (h : Stab Lin.a l m) (a : Int) : accA m a = accA l a := by
  unfold accA
  rw [h a]
theorem sumE_none {l : List Int} (h : sumGo 0 l = none) : sumE l = 2 := by simp [sumE, h]
theorem sumV_some {l : List Int} {n : Int} (h : sumGo 0 l = some n) : sumV l = n ∧ sumE l = 0 := by simp [sumV, sumE, h]
theorem strict_ext : ∀ (l m : List Lin), Strict l → Strict m → (∀ x, x ∈ l ↔ x ∈ m) → l = m
  | [], [], _, _, _ => rfl
  | [], y :: m, _, _, h => absurd ((h y).2 (by simp)) (by simp)
  | x :: l, [], _, _, h => absurd ((h x).1 (by simp)) (by simp)
  | x :: l, y :: m, hl, hm, h => by
    have hl' := List.pairwise_cons.1 hl
    have hm' := List.pairwise_cons.1 hm
    have e : x = y := by
      rcases List.mem_cons.1 ((h x).1 (by simp)) with e | hx
      · exact e
      · rcases List.mem_cons.1 ((h y).2 (by simp)) with e | hy
        · exact e.symm
        · have a := hm'.1 x hx
          have b := hl'.1 y hy
          omega
    subst e
    congr 1
    refine strict_ext l m hl'.2 hm'.2 fun z => ?_
    constructor
    · intro hz
      rcases List.mem_cons.1 ((h z).1 (by simp [hz])) with e | hz'
      · subst e; have := hl'.1 z hz; omega
      · exact hz'
    · intro hz
      rcases List.mem_cons.1 ((h z).2 (by simp [hz])) with e | hz'
      · subst e; have := hm'.1 z hz; omega
      · exact hz'

theorem plain_bad {l : List Lin} (h : l.any badP = true) : plainS l = ([], 1) := by simp [plainS, h]
theorem good_of {l : List Lin} (h : l.any badP = false) {x : Lin} (hx : x ∈ l) : 0 ≤ x.a ∧ x.a < 17 ∧ inB x.n = true := by
  have := List.any_eq_false.1 h x hx
  simp [badP] at this
  exact ⟨(isAcc_iff.1 this.1).1, (isAcc_iff.1 this.1).2, this.2⟩
theorem plain_big {l m : List Lin} {a : Int} (h : l.any badP = false) (hs : Stab Lin.a l m) (ha : 0 ≤ a ∧ a < 17) (hn : sumGo 0 (accA m a) = none) : plainS l = ([], 2) := by
  have : (List.range 17).any (fun (a : Nat) => decide (sumE (accA l (a : Int)) ≠ 0)) = true := by
    refine List.any_eq_true.2 ⟨a.toNat, List.mem_range.2 (by omega), ?_⟩
    rw [Int.toNat_of_nonneg ha.1, ← accA_stab hs, sumE_none hn]
    decide
  simp only [plainS, h, this]
  simp
theorem plain_ok {l m out : List Lin} (h : l.any badP = false) (hs : Stab Lin.a l m) (hA : Added m out) : plainS l = (out.filter (fun x => !zeroN x), 0) := by
  have hE : ∀ a : Nat, sumE (accA l a) = 0 ∧ ((∃ y, y ∈ out ∧ y.a = (a : Int) ∧ y.n = sumV (accA l a)) ∨ ((∀ y, y ∈ out → y.a ≠ (a : Int)) ∧ sumV (accA l a) = 0)) := by
    intro a
    by_cases he : ∃ y, y ∈ out ∧ y.a = (a : Int)
    · obtain ⟨y, hy, e⟩ := he
      have := sumV_some (hA.sum y hy)
      rw [e, accA_stab hs] at this
      exact ⟨this.2, .inl ⟨y, hy, e, this.1.symm⟩⟩
    · have hno : accA l a = [] := by
        rw [← accA_stab hs]
        unfold accA amts
        rw [List.map_eq_nil_iff, List.filter_eq_nil_iff]
        intro z hz
        simp
        intro e
        exact he ((hA.acc a).2 ⟨z, hz, e⟩)
      rw [hno]
      exact ⟨rfl, .inr ⟨fun y hy e => he ⟨y, hy, e⟩, rfl⟩⟩
  have : (List.range 17).any (fun (a : Nat) => decide (sumE (accA l (a : Int)) ≠ 0)) = false := by
    rw [List.any_eq_false]
    intro a _
    simp [(hE a).1]
  simp only [plainS, h, this]
  simp only [Bool.false_eq_true, if_false, Prod.mk.injEq, and_true]
  refine strict_ext _ _ ?_ (hA.strict.filter _) fun x => ?_
  · refine List.Pairwise.filter _ ?_
    rw [List.pairwise_map]
    refine (List.pairwise_lt_range (n := 17)).imp fun {a b} hab => ?_
    simp only
    omega
  · simp only [List.mem_filter, List.mem_map, List.mem_range]
    constructor
    · rintro ⟨⟨a, ha, rfl⟩, hz⟩
      rcases (hE a).2 with ⟨y, hy, e1, e2⟩ | ⟨-, e2⟩
      · refine ⟨?_, hz⟩
        obtain ⟨ya, yn⟩ := y
        simp only at e1 e2
        subst e1; subst e2
        exact hy
      · simp [zeroN, e2] at hz
    · rintro ⟨hx, hz⟩
      refine ⟨?_, hz⟩
      obtain ⟨z, hz2, e⟩ := (hA.acc x.a).1 ⟨x, hx, rfl⟩
      have g := good_of h ((Stab.mem hs).1 hz2)
      refine ⟨x.a.toNat, by omega, ?_⟩
      have en : (x.a.toNat : Int) = x.a := Int.toNat_of_nonneg (by omega)
      rw [en]
      have := sumV_some (hA.sum x hx)
      rw [accA_stab hs] at this
      rw [this.1]
end Go.Proofs.YtnalblnmplnhmaaGreat
