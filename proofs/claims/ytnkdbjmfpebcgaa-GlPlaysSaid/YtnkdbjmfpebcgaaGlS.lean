/-
  Vouchers by numbers, one behind the other: the plain law. No program in sight.
-/
import Derived.Test.YtnkdbjmfpebcgaaGl5
import Derived.Test.YtnkdbjmfpebcgaaVouS
set_option linter.unusedVariables false
set_option linter.unusedSimpArgs false
namespace Go.Proofs.Ytnkdbjmfpebcgaa

/-- Balances behind lines, whatever comes of it. -/
def addL (bal : List Int) (l : List Lin) : List Int := l.foldl (fun b x => b.set x.a.toNat (b.getD x.a.toNat 0 + x.n)) bal
theorem addL_snoc (bal : List Int) (l : List Lin) (x : Lin) : addL bal (l ++ [x]) = (addL bal l).set x.a.toNat ((addL bal l).getD x.a.toNat 0 + x.n) := by simp [addL, List.foldl_append]
theorem addL_len (bal : List Int) (l : List Lin) : (addL bal l).length = bal.length := by
  induction l generalizing bal with
  | nil => rfl
  | cons x l ih => simp only [addL, List.foldl_cons] at ih ⊢; rw [ih]; simp
theorem getD_setS {l : List Int} {i : Nat} {v : Int} (h : i < l.length) : (l.set i v).getD i 0 = v := by
  rw [List.getD_eq_getElem?_getD, List.getElem?_set_self h]; rfl
theorem getD_setO {l : List Int} {i j : Nat} {v : Int} (h : i ≠ j) : (l.set i v).getD j 0 = l.getD j 0 := by
  rw [List.getD_eq_getElem?_getD, List.getElem?_set_ne h, ← List.getD_eq_getElem?_getD]
theorem addL_get : ∀ (l : List Lin) (bal : List Int), bal.length = 17 → (∀ x, x ∈ l → 0 ≤ x.a ∧ x.a < 17) → ∀ k, k < 17 → (addL bal l).getD k 0 = bal.getD k 0 + val l k
  | [], bal, h17, h, k, hk => by simp [addL, val_nil]
  | x :: l, bal, h17, h, k, hk => by
    have hx := h x (by simp)
    have ih := addL_get l (bal.set x.a.toNat (bal.getD x.a.toNat 0 + x.n)) (by simp [h17]) (fun y hy => h y (by simp [hy])) k hk
    have e : addL bal (x :: l) = addL (bal.set x.a.toNat (bal.getD x.a.toNat 0 + x.n)) l := rfl
    rw [e, ih, val_cons]
    by_cases hk2 : x.a.toNat = k
    · subst hk2
      rw [getD_setS (by omega), if_pos (by omega)]
      omega
    · rw [getD_setO hk2, if_neg (by omega)]
      omega
theorem addL_ext {l m : List Lin} {bal : List Int} (h17 : bal.length = 17) (hl : ∀ x, x ∈ l → 0 ≤ x.a ∧ x.a < 17) (hm : ∀ x, x ∈ m → 0 ≤ x.a ∧ x.a < 17) (h : ∀ k : Nat, k < 17 → val l k = val m k) : addL bal l = addL bal m := by
  apply List.ext_getElem
  · rw [addL_len, addL_len]
  · intro i h1 h2
    have hi : i < 17 := by rw [addL_len] at h1; omega
    have e1 := addL_get l bal h17 hl i hi
    have e2 := addL_get m bal h17 hm i hi
    rw [List.getD_eq_getElem?_getD, List.getElem?_eq_getElem h1] at e1
    rw [List.getD_eq_getElem?_getD, List.getElem?_eq_getElem h2] at e2
    simp only [Option.getD_some] at e1 e2
    rw [e1, e2, h i hi]
/-- Balances within bounds. -/
def Bnd (B : Int) (bal : List Int) : Prop := bal.length = 17 ∧ ∀ k, k < 17 → -B ≤ bal.getD k 0 ∧ bal.getD k 0 ≤ B
theorem addAll_some : ∀ (m : List Lin) (bal : List Int) (B : Int), Bnd B bal → (∀ x, x ∈ m → 0 ≤ x.a ∧ x.a < 17 ∧ -50000 ≤ x.n ∧ x.n ≤ 50000) → 0 ≤ B → B + 50000 * (m.length : Int) ≤ 100000000000 → addAll bal m = some (addL bal m) ∧ Bnd (B + 50000 * m.length) (addL bal m)
  | [], bal, B, hB, _, _, _ => ⟨rfl, by simpa [addL] using hB⟩
  | x :: m, bal, B, hB, h, h0, hle => by
    have hx := h x (by simp)
    have hb := hB.2 x.a.toNat (by omega)
    simp only [List.length_cons] at hle
    have ho : addOk (bal.getD x.a.toNat 0) x.n = true := addOk_iff.2 ⟨inB_iff.2 (by omega), inB_iff.2 (by omega), inB_iff.2 (by omega)⟩
    have hB2 : Bnd (B + 50000) (bal.set x.a.toNat (bal.getD x.a.toNat 0 + x.n)) := by
      refine ⟨by simp [hB.1], fun k hk => ?_⟩
      have hk2 := hB.2 k hk
      by_cases e : x.a.toNat = k
      · subst e; rw [getD_setS (by rw [hB.1]; omega)]; omega
      · rw [getD_setO e]; omega
    have ih := addAll_some m _ (B + 50000) hB2 (fun y hy => h y (by simp [hy])) (by omega) (by omega)
    have e : addAll bal (x :: m) = addAll (bal.set x.a.toNat (bal.getD x.a.toNat 0 + x.n)) m := by simp only [addAll]; rw [if_pos ho]
    have e2 : addL bal (x :: m) = addL (bal.set x.a.toNat (bal.getD x.a.toNat 0 + x.n)) m := rfl
    rw [e, e2]
    refine ⟨ih.1, ?_⟩
    have := ih.2
    simp only [List.length_cons]
    rw [show B + 50000 * ((m.length + 1 : Nat) : Int) = B + 50000 + 50000 * (m.length : Int) by omega]
    exact this
theorem setSum (l : List Int) : ∀ (i : Nat) (v : Int), i < l.length → (l.set i v).sum = l.sum - l.getD i 0 + v := by
  induction l with
  | nil => intro i v h; simp at h
  | cons x l ih =>
    intro i v h
    cases i with
    | zero => simp; omega
    | succ i =>
      have := ih i v (by simpa using h)
      simp only [List.set_cons_succ, List.sum_cons, this]
      simp
      omega
theorem addL_sum : ∀ (l : List Lin) (bal : List Int), bal.length = 17 → (∀ x, x ∈ l → 0 ≤ x.a ∧ x.a < 17) → (addL bal l).sum = bal.sum + (amts l).sum
  | [], bal, _, _ => by simp [addL, amts]
  | x :: l, bal, h17, h => by
    have hx := h x (by simp)
    have e : addL bal (x :: l) = addL (bal.set x.a.toNat (bal.getD x.a.toNat 0 + x.n)) l := rfl
    rw [e, addL_sum l _ (by simp [h17]) fun y hy => h y (by simp [hy]), setSum _ _ _ (by omega)]
    simp only [amts, List.map_cons, List.sum_cons]
    omega
theorem posneg (l : List Int) : posS l - negS l = l.sum := by
  induction l with
  | nil => rfl
  | cons z l ih => simp only [posS, negS, List.map_cons, List.sum_cons] at ih ⊢; omega
theorem trial_even {bal : List Int} {B : Int} (hB : Bnd B bal) (hb : B ≤ 100000000000) (h0 : bal.sum = 0) : trialS bal = (posS bal, posS bal, 0) := by
  have h1 := posneg bal
  have h2 : bal.any (fun z => !inB z) = false := by
    rw [List.any_eq_false]
    intro z hz
    obtain ⟨i, hi, rfl⟩ := List.mem_iff_getElem.1 hz
    have := hB.2 i (by have := hB.1; omega)
    rw [List.getD_eq_getElem?_getD, List.getElem?_eq_getElem hi] at this
    simp only [Option.getD_some] at this
    simp [inB_iff.2 (show -288230376151711744 ≤ bal[i] ∧ bal[i] ≤ 288230376151711744 by omega)]
  unfold trialS
  rw [if_neg (by rw [hB.1]; simp), h2]
  simp only [Bool.false_eq_true, if_false]
  rw [show negS bal = posS bal by omega]

/-- A voucher's lines that come of numbers. -/
def glLine (z : Int) : Lin := ⟨z % 1073741824 % 17, z % 1073741824 / 17 % 500 - 250⟩
def glT (zs : List Int) (k : Nat) : List Lin := (zs.take k).map glLine
def glLines (zs : List Int) (wrong : Int) : List Lin := glT zs 6 ++ [⟨2, wrong - (amts (glT zs 6)).sum⟩]
theorem glLine_bd (z : Int) : 0 ≤ (glLine z).a ∧ (glLine z).a < 17 ∧ -250 ≤ (glLine z).n ∧ (glLine z).n ≤ 250 := by
  unfold glLine
  simp only
  omega
theorem glT_bd (zs : List Int) (k : Nat) : ∀ x, x ∈ glT zs k → 0 ≤ x.a ∧ x.a < 17 ∧ -250 ≤ x.n ∧ x.n ≤ 250 := fun x hx => by
  obtain ⟨z, -, rfl⟩ := List.mem_map.1 hx
  exact glLine_bd z
theorem amts_sum_bd {l : List Lin} {B : Int} (h : ∀ x, x ∈ l → -B ≤ x.n ∧ x.n ≤ B) : -(B * l.length) ≤ (amts l).sum ∧ (amts l).sum ≤ B * l.length := by
  induction l with
  | nil => simp [amts]
  | cons x l ih =>
    have h1 := h x (by simp)
    have h2 := ih fun y hy => h y (by simp [hy])
    simp only [amts, List.map_cons, List.sum_cons, List.length_cons] at h2 ⊢
    have e : B * ((l.length + 1 : Nat) : Int) = B * (l.length : Int) + B := by rw [Int.natCast_add, Int.mul_add]; omega
    omega
theorem glT_len (zs : List Int) (k : Nat) : (glT zs k).length ≤ k := by simp [glT]; omega
theorem glT_sum (zs : List Int) (k : Nat) (hk : k ≤ 6) : -1500 ≤ (amts (glT zs k)).sum ∧ (amts (glT zs k)).sum ≤ 1500 := by
  have h1 := amts_sum_bd (l := glT zs k) (B := 250) (fun x hx => by have := glT_bd zs k x hx; omega)
  have h2 := glT_len zs k
  omega
theorem glLines_small (zs : List Int) {wrong : Int} (hw : 0 ≤ wrong ∧ wrong ≤ 1) : Small (glLines zs wrong) ∧ (amts (glLines zs wrong)).sum = wrong ∧ (glLines zs wrong).length ≤ 7 := by
  have hs := glT_sum zs 6 (Nat.le_refl _)
  have hl := glT_len zs 6
  refine ⟨⟨by unfold glLines; simp; omega, fun x hx => ?_, fun x hx => ?_⟩, ?_, by unfold glLines; simp; omega⟩
  · rcases List.mem_append.1 hx with hx | hx
    · have := glT_bd zs 6 x hx; omega
    · simp at hx; subst hx; simp
  · rcases List.mem_append.1 hx with hx | hx
    · have := glT_bd zs 6 x hx; omega
    · simp at hx; subst hx; simp only; omega
  · unfold glLines amts
    rw [List.map_append, List.sum_append]
    simp only [List.map_cons, List.map_nil, List.sum_cons, List.sum_nil]
    omega
theorem nodup_le {α : Type} [DecidableEq α] : ∀ (l m : List α), l.Nodup → (∀ x, x ∈ l → x ∈ m) → l.length ≤ m.length
  | [], m, _, _ => by simp
  | x :: l, m, h, hm => by
    have h' := List.nodup_cons.1 h
    have hx := hm x (by simp)
    have ih := nodup_le l (m.erase x) h'.2 fun y hy => (List.mem_erase_of_ne (by rintro rfl; exact h'.1 hy)).2 (hm y (by simp [hy]))
    rw [List.length_erase_of_mem hx] at ih
    have := List.length_pos_of_mem hx
    simp only [List.length_cons]
    omega
theorem plainV_le (l : List Lin) : (plainV (val l)).length ≤ l.length := by
  have hnd : ((plainV (val l)).map Lin.a).Nodup := by
    rw [List.Nodup, List.pairwise_map]
    exact (plainV_strict (val l)).imp fun h e => by omega
  have := nodup_le ((plainV (val l)).map Lin.a) (l.map Lin.a) hnd fun a ha => by
    obtain ⟨x, hx, rfl⟩ := List.mem_map.1 ha
    have hm := plainV_mem.1 hx
    rcases Decidable.em (∃ y, y ∈ l ∧ y.a = x.a) with ⟨y, hy, e⟩ | hno
    · exact List.mem_map.2 ⟨y, hy, e⟩
    · exfalso
      have : accA l x.a = [] := by
        unfold accA amts
        rw [List.map_eq_nil_iff, List.filter_eq_nil_iff]
        intro y hy
        simp
        exact fun e => hno ⟨y, hy, e⟩
      have h0 : val l x.a = 0 := by unfold val; rw [this]; rfl
      omega
  simpa using this
/-- What Post answers to such a voucher. -/
theorem gl_step {zs : List Int} {wrong : Int} {bal : List Int} {B : Int} (hw : wrong = 0 ∨ wrong = 1) (hB : Bnd B bal) (h0 : 0 ≤ B) (hb : B ≤ 10000000000) (hs : bal.sum = 0) :
    (wrong = 1 → postS bal (glLines zs wrong) = (bal, 10)) ∧
    (wrong = 0 → postS bal (glLines zs wrong) = (addL bal (glLines zs wrong), 0) ∧ Bnd (B + 50000 * 17) (addL bal (glLines zs wrong)) ∧ (addL bal (glLines zs wrong)).sum = 0) := by
  obtain ⟨hS, hsum, hlen⟩ := glLines_small zs (wrong := wrong) (by omega)
  obtain ⟨l, hl⟩ : ∃ l, glLines zs wrong = l := ⟨_, rfl⟩
  rw [hl] at hS hsum hlen ⊢
  have hv : ∀ a, -50000 ≤ val l a ∧ val l a ≤ 50000 := by
    intro a
    subst hl
    have e : val (glLines zs wrong) a = val (glT zs 6) a + val [⟨2, wrong - (amts (glT zs 6)).sum⟩] a := val_app _ _ _
    have h1 : -1500 ≤ val (glT zs 6) a ∧ val (glT zs 6) a ≤ 1500 := by
      have hh := amts_sum_bd (l := (glT zs 6).filter fun x => x.a == a) (B := 250) (fun x hx => by have := glT_bd zs 6 x (List.mem_filter.1 hx).1; omega)
      have h2 := List.length_filter_le (fun x : Lin => x.a == a) (glT zs 6)
      have h3 := glT_len zs 6
      have e2 : val (glT zs 6) a = (amts ((glT zs 6).filter fun x => x.a == a)).sum := rfl
      omega
    have h2 := glT_sum zs 6 (Nat.le_refl _)
    rw [val_cons, val_nil] at e
    simp only at e
    split at e <;> omega
  have hp := hS.plain
  have hpS : Small (plainV (Go.Proofs.Ytnkdbjmfpebcgaa.val l)) := ⟨by have := plainV_len (Go.Proofs.Ytnkdbjmfpebcgaa.val l); omega, fun x hx => by have := plainV_mem.1 hx; omega, fun x hx => by have := plainV_mem.1 hx; have := hv x.a; omega⟩
  have htot := plainV_total hS.acc
  have hnz : ∀ x, x ∈ plainV (Go.Proofs.Ytnkdbjmfpebcgaa.val l) → x.n ≠ 0 := fun x hx => (plainV_mem.1 hx).2.2.2
  constructor
  · intro h1
    refine postS_bad hp (.inr ?_)
    rw [hsum, h1] at htot
    have hso := sum_of (l := amts (plainV (Go.Proofs.Ytnkdbjmfpebcgaa.val l))) (by unfold amts; rw [List.length_map]; exact hpS.len) (fun z hz => by
      obtain ⟨x, hx, rfl⟩ := List.mem_map.1 hz
      exact hpS.amt x hx)
    constructor
    · rcases Nat.eq_zero_or_pos (plainV (Go.Proofs.Ytnkdbjmfpebcgaa.val l)).length with h | h
      · rw [List.eq_nil_of_length_eq_zero h] at htot
        simp [amts] at htot
      · exact h
    · unfold checkL
      rw [hso.1, htot]
      simp
  · intro h1
    rw [hsum, h1] at htot
    have hchk := hpS.check htot hnz
    have hl7 : (plainV (Go.Proofs.Ytnkdbjmfpebcgaa.val l)).length ≤ 12 := by have := plainV_le l; omega
    have hx : ∀ x, x ∈ plainV (Go.Proofs.Ytnkdbjmfpebcgaa.val l) → 0 ≤ x.a ∧ x.a < 17 ∧ -50000 ≤ x.n ∧ x.n ≤ 50000 := fun x hx => by have := hpS.acc x hx; have := hpS.amt x hx; omega
    have hA := addAll_some (plainV (Go.Proofs.Ytnkdbjmfpebcgaa.val l)) bal B hB hx h0 (by have := plainV_len (Go.Proofs.Ytnkdbjmfpebcgaa.val l); omega)
    have hext : addL bal (plainV (Go.Proofs.Ytnkdbjmfpebcgaa.val l)) = addL bal l := addL_ext hB.1 hpS.acc hS.acc fun k hk => plainV_val (by omega) (by omega)
    rw [hext] at hA
    have hpl := plainV_len (Go.Proofs.Ytnkdbjmfpebcgaa.val l)
    refine ⟨postS_some hp ?_ hA.1, ⟨hA.2.1, fun k hk => ?_⟩, ?_⟩
    · rcases Nat.eq_zero_or_pos (plainV (Go.Proofs.Ytnkdbjmfpebcgaa.val l)).length with h | h
      · exact .inl h
      · right
        rw [hchk]
        simp
        omega
    · have := hA.2.2 k hk
      omega
    · rw [addL_sum l bal hB.1 hS.acc, hs, hsum, h1]; rfl
end Go.Proofs.Ytnkdbjmfpebcgaa
