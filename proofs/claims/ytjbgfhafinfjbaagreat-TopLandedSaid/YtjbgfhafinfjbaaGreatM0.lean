/-
  A machine of plain data beside the model: numbers by names: sums of products, and what bounds them. No program in sight.
-/
import Derived.WalkKit
set_option linter.unusedVariables false
set_option linter.unusedSimpArgs false
namespace Go.Proofs.YtjbgfhafinfjbaaGreat.Mc
open Go.RowKit

/-- A sum of products: the names in each product (rising), and its factor. -/
abbrev Poly := List (List Nat × Int)

def mev (ρ : Nat → Int) : List Nat → Int
  | [] => 1
  | i :: m => ρ i * mev ρ m
def pev (ρ : Nat → Int) : Poly → Int
  | [] => 0
  | t :: p => t.2 * mev ρ t.1 + pev ρ p

def ltM : List Nat → List Nat → Bool
  | [], [] => false
  | [], _ :: _ => true
  | _ :: _, [] => false
  | a :: x, b :: y => if a = b then ltM x y else decide (a < b)
def mins (i : Nat) : List Nat → List Nat
  | [] => [i]
  | j :: m => if i ≤ j then i :: j :: m else j :: mins i m
def mmul : List Nat → List Nat → List Nat
  | [], y => y
  | i :: x, y => mins i (mmul x y)
def pins (m : List Nat) (c : Int) : Poly → Poly
  | [] => if c = 0 then [] else [(m, c)]
  | t :: q => if m = t.1 then (if c + t.2 = 0 then q else (m, c + t.2) :: q) else if ltM m t.1 then (m, c) :: t :: q else t :: pins m c q
def padd : Poly → Poly → Poly
  | [], q => q
  | t :: p, q => pins t.1 t.2 (padd p q)
def pscale (k : Int) (p : Poly) : Poly := if k = 0 then [] else p.map fun t => (t.1, k * t.2)
def pmulT (m : List Nat) (c : Int) : Poly → Poly
  | [] => []
  | t :: q => pins (mmul m t.1) (c * t.2) (pmulT m c q)
def pmul : Poly → Poly → Poly
  | [], _ => []
  | t :: p, q => padd (pmulT t.1 t.2 q) (pmul p q)
def plit (n : Int) : Poly := if n = 0 then [] else [([], n)]
def psub (p q : Poly) : Poly := padd (pscale (-1) q) p
def pvar (i : Nat) : Poly := [([i], 1)]

section
variable {ρ : Nat → Int}
theorem mev_mins (i : Nat) : ∀ m, mev ρ (mins i m) = ρ i * mev ρ m
  | [] => rfl
  | j :: m => by
    unfold mins
    split
    · rfl
    · simp only [mev, mev_mins i m]
      rw [← Int.mul_assoc, ← Int.mul_assoc, Int.mul_comm (ρ j)]
theorem mev_mmul : ∀ x y, mev ρ (mmul x y) = mev ρ x * mev ρ y
  | [], y => by simp [mmul, mev]
  | i :: x, y => by rw [mmul, mev_mins, mev_mmul x y, mev, Int.mul_assoc]
theorem pev_pins (m : List Nat) (c : Int) : ∀ q, pev ρ (pins m c q) = c * mev ρ m + pev ρ q
  | [] => by
    unfold pins
    split
    · rename_i h; subst h; simp [pev]
    · rfl
  | t :: q => by
    unfold pins
    split
    · rename_i h
      subst h
      split
      · rename_i h
        simp only [pev]
        have : c * mev ρ t.1 + (t.2 * mev ρ t.1 + pev ρ q) = (c + t.2) * mev ρ t.1 + pev ρ q := by rw [Int.add_mul]; omega
        rw [this, h]; simp
      · simp only [pev]; rw [Int.add_mul]; omega
    · split
      · rfl
      · simp only [pev, pev_pins m c q]; omega
theorem pev_padd : ∀ p q, pev ρ (padd p q) = pev ρ p + pev ρ q
  | [], q => by simp [padd, pev]
  | t :: p, q => by rw [padd, pev_pins, pev_padd p q, pev]; omega
theorem pev_map (k : Int) : ∀ p : Poly, pev ρ (p.map fun t => (t.1, k * t.2)) = k * pev ρ p
  | [] => by simp [pev]
  | t :: p => by
    simp only [List.map_cons, pev, pev_map k p]
    rw [Int.mul_add, Int.mul_assoc]
theorem pev_pscale (k : Int) (p : Poly) : pev ρ (pscale k p) = k * pev ρ p := by
  unfold pscale
  split
  · rename_i h; subst h; simp [pev]
  · exact pev_map k p
theorem pev_pmulT (m : List Nat) (c : Int) : ∀ q, pev ρ (pmulT m c q) = c * mev ρ m * pev ρ q
  | [] => by simp [pmulT, pev]
  | t :: q => by
    rw [pmulT, pev_pins, pev_pmulT m c q, mev_mmul, pev, Int.mul_add]
    congr 1
    rw [Int.mul_assoc, Int.mul_assoc, ← Int.mul_assoc t.2, Int.mul_comm t.2, Int.mul_assoc]
theorem pev_pmul : ∀ p q, pev ρ (pmul p q) = pev ρ p * pev ρ q
  | [], q => by simp [pmul, pev]
  | t :: p, q => by rw [pmul, pev_padd, pev_pmulT, pev_pmul p q, pev, Int.add_mul]
theorem pev_plit (n : Int) : pev ρ (plit n) = n := by
  unfold plit
  split
  · rename_i h; rw [h]; rfl
  · simp [pev, mev]
theorem pev_psub (p q : Poly) : pev ρ (psub p q) = pev ρ p - pev ρ q := by
  rw [psub, pev_padd, pev_pscale]; omega
theorem pev_pvar (i : Nat) : pev ρ (pvar i) = ρ i := by simp [pvar, pev, mev]
end

/-- Plain data. -/
inductive AV where
  | c (v : Value)
  | undef
  | emp
  | agg (cs : List AV)
  | tup (vs : List AV)
  | lit (sz : Nat) (els : List (List AV))
  | own (T sz id i n : Nat)
  | ptr (sz id i off : Nat)
  | lptr (sz : Nat) (els : List (List AV)) (i off : Nat)
  | fn (f : Fn) (first captured : List AV)
  | ifc (t : TypeId) (v : AV)
  | e (p : Poly)
  | row (n : Poly) (xs : List Poly)
  | o (i : Nat)
  | yld (id : Nat)
  | mpv (id : Nat)
  | view (T sz id i n : Nat)
instance : Inhabited AV := ⟨.undef⟩

/-- What is known: bounds of each number, bounds of sums, quotients (0), remainders (1), the greater ones (2) of sums, calls, functions of nothing that say yes, calls of data, blocks of bytes that the world has had from the first, which values by name are texts. -/
class Bk where
  vars : List (Int × Int) := []
  facts : List (Poly × Int × Int) := []
  defs : List (Nat × Poly × Poly × Poly) := []
  ext : List (Nat × List Poly × List Poly) := []
  yes : List Nat := []
  extV : List (Nat × List AV × AV) := []
  glob : List (Nat × List Int) := []
  kinds : List Bool := []
def Bk.var [Bk] (i : Nat) : Int × Int := Bk.vars.getD i (0, 0)
/-- The numbers themselves. -/
class Ev [Bk] where
  xs : List Int
  vars : ∀ i, (Bk.var i).1 ≤ xs.getD i 0 ∧ xs.getD i 0 ≤ (Bk.var i).2
  facts : ∀ t ∈ Bk.facts, t.2.1 ≤ pev (fun i => xs.getD i 0) t.1 ∧ pev (fun i => xs.getD i 0) t.1 ≤ t.2.2
  defs : ∀ t ∈ Bk.defs, (t.1 = 0 → pev (fun i => xs.getD i 0) t.2.2.2 = (pev (fun i => xs.getD i 0) t.2.1).tdiv (pev (fun i => xs.getD i 0) t.2.2.1)) ∧
    (t.1 = 1 → pev (fun i => xs.getD i 0) t.2.2.2 = (pev (fun i => xs.getD i 0) t.2.1).tmod (pev (fun i => xs.getD i 0) t.2.2.1)) ∧
    (t.1 = 2 → pev (fun i => xs.getD i 0) t.2.2.2 = max (pev (fun i => xs.getD i 0) t.2.1) (pev (fun i => xs.getD i 0) t.2.2.1))
  vals : List Value
  ones : ∀ v ∈ vals, v.oneCell' = true
  kin : ∀ i b, Bk.kinds[i]? = some b → (b = true → ∃ s, vals.getD i (.bool false) = .string s) ∧ (b = false → ∃ c, vals.getD i (.bool false) = .bool c)
def Ev.rho [Bk] [Ev] : Nat → Int := fun i => Ev.xs.getD i 0
/-- The values by name, each of one cell. -/
def Ev.val [Bk] [Ev] (i : Nat) : Value := Ev.vals.getD i (.bool false)
theorem Ev.val_one [Bk] [Ev] (i : Nat) : (Ev.val i).oneCell' = true := by
  unfold Ev.val
  rw [List.getD]
  cases h : (Ev.vals)[i]? with
  | none => rfl
  | some v => exact Ev.ones v (List.mem_of_getElem? h)

def imul (a b : Int × Int) : Int × Int := (min (min (a.1 * b.1) (a.1 * b.2)) (min (a.2 * b.1) (a.2 * b.2)), max (max (a.1 * b.1) (a.1 * b.2)) (max (a.2 * b.1) (a.2 * b.2)))
theorem mul_up {x a b y : Int} (h1 : a ≤ x) (h2 : x ≤ b) : x * y ≤ max (a * y) (b * y) := by
  rcases Int.le_total 0 y with h | h
  · exact Int.le_trans (Int.mul_le_mul_of_nonneg_right h2 h) (Int.le_max_right _ _)
  · exact Int.le_trans (Int.mul_le_mul_of_nonpos_right h1 h) (Int.le_max_left _ _)
theorem mul_lo {x a b y : Int} (h1 : a ≤ x) (h2 : x ≤ b) : min (a * y) (b * y) ≤ x * y := by
  rcases Int.le_total 0 y with h | h
  · exact Int.le_trans (Int.min_le_left _ _) (Int.mul_le_mul_of_nonneg_right h1 h)
  · exact Int.le_trans (Int.min_le_right _ _) (Int.mul_le_mul_of_nonpos_right h2 h)
theorem imul_ok {a b : Int × Int} {x y : Int} (hx : a.1 ≤ x ∧ x ≤ a.2) (hy : b.1 ≤ y ∧ y ≤ b.2) : (imul a b).1 ≤ x * y ∧ x * y ≤ (imul a b).2 := by
  have u := mul_up (y := y) hx.1 hx.2
  have l := mul_lo (y := y) hx.1 hx.2
  have u1 := mul_up (y := a.1) hy.1 hy.2
  have l1 := mul_lo (y := a.1) hy.1 hy.2
  have u2 := mul_up (y := a.2) hy.1 hy.2
  have l2 := mul_lo (y := a.2) hy.1 hy.2
  rw [Int.mul_comm b.1, Int.mul_comm b.2, Int.mul_comm y] at u1 l1 u2 l2
  unfold imul
  simp only
  generalize x * y = z at *
  omega

def bndM [Bk] : List Nat → Int × Int
  | [] => (1, 1)
  | i :: m => imul (Bk.var i) (bndM m)
theorem bndM_ok [Bk] [Ev] : ∀ m, (bndM m).1 ≤ mev Ev.rho m ∧ mev Ev.rho m ≤ (bndM m).2
  | [] => ⟨Int.le_refl _, Int.le_refl _⟩
  | i :: m => imul_ok (Ev.vars i) (bndM_ok m)
def bndS [Bk] : Poly → Int × Int
  | [] => (0, 0)
  | t :: p => let b := imul (t.2, t.2) (bndM t.1); let r := bndS p; (b.1 + r.1, b.2 + r.2)
theorem bndS_ok [Bk] [Ev] : ∀ p, (bndS p).1 ≤ pev Ev.rho p ∧ pev Ev.rho p ≤ (bndS p).2
  | [] => ⟨Int.le_refl _, Int.le_refl _⟩
  | t :: p => by
    have h1 := imul_ok (a := (t.2, t.2)) (x := t.2) ⟨Int.le_refl _, Int.le_refl _⟩ (bndM_ok t.1)
    have h2 := bndS_ok p
    simp only [bndS, pev]
    omega
/-- What the facts say of it. -/
def narrow (p : Poly) : List (Poly × Int × Int) → Int × Int → Int × Int
  | [], b => b
  | t :: l, b => narrow p l (if t.1 = p then (max b.1 t.2.1, min b.2 t.2.2) else if pscale (-1) t.1 = p then (max b.1 (-t.2.2), min b.2 (-t.2.1)) else b)
theorem narrow_ok {ρ : Nat → Int} (p : Poly) : ∀ (l : List (Poly × Int × Int)) (b : Int × Int), (∀ t ∈ l, t.2.1 ≤ pev ρ t.1 ∧ pev ρ t.1 ≤ t.2.2) → b.1 ≤ pev ρ p ∧ pev ρ p ≤ b.2 → (narrow p l b).1 ≤ pev ρ p ∧ pev ρ p ≤ (narrow p l b).2
  | [], b, _, h => h
  | t :: l, b, hl, h => by
    refine narrow_ok p l _ (fun t ht => hl t (List.mem_cons_of_mem _ ht)) ?_
    have ht := hl t List.mem_cons_self
    split
    · rename_i e
      rw [e] at ht
      simp only
      omega
    · split
      · rename_i e
        have := pev_pscale (ρ := ρ) (-1) t.1
        rw [e] at this
        simp only
        omega
      · exact h
def content : Poly → Nat
  | [] => 0
  | t :: p => Nat.gcd t.2.natAbs (content p)
def splitC : Poly → Int × Poly
  | ([], c) :: r => (c, r)
  | p => (0, p)
theorem splitC_ok {ρ : Nat → Int} (p : Poly) : pev ρ p = (splitC p).1 + pev ρ (splitC p).2 := by
  unfold splitC
  split
  · simp [pev, mev]
  · simp
/-- Its bounds. -/
def bnd [Bk] (p : Poly) : Int × Int :=
  let c := splitC p
  match c.2 with
  | [] => (c.1, c.1)
  | q =>
    let g := content q
    let r := q.map fun t => (t.1, t.2 / (g : Int))
    if pscale g r = q then let b := narrow r Bk.facts (bndS r); (c.1 + g * b.1, c.1 + g * b.2)
    else let b := narrow q Bk.facts (bndS q); (c.1 + b.1, c.1 + b.2)
theorem bnd_ok [Bk] [Ev] (p : Poly) : (bnd p).1 ≤ pev Ev.rho p ∧ pev Ev.rho p ≤ (bnd p).2 := by
  have hs := splitC_ok (ρ := Ev.rho) p
  unfold bnd
  simp only
  split
  · rename_i h
    rw [h] at hs
    simp only [pev] at hs
    simp only
    omega
  · split
    · rename_i h
      have e := pev_pscale (ρ := Ev.rho) (content (splitC p).2 : Int) ((splitC p).2.map fun t => (t.1, t.2 / (content (splitC p).2 : Int)))
      rw [h] at e
      have k := narrow_ok ((splitC p).2.map fun t => (t.1, t.2 / (content (splitC p).2 : Int))) Bk.facts _ Ev.facts (bndS_ok _)
      have k1 := Int.mul_le_mul_of_nonneg_left k.1 (Int.natCast_nonneg (content (splitC p).2))
      have k2 := Int.mul_le_mul_of_nonneg_left k.2 (Int.natCast_nonneg (content (splitC p).2))
      simp only
      change pev Ev.rho (splitC p).2 = _ * pev Ev.rho _ at e
      constructor
      · rw [hs, e]; exact Int.add_le_add_left k1 _
      · rw [hs, e]; exact Int.add_le_add_left k2 _
    · have k := narrow_ok (splitC p).2 Bk.facts _ Ev.facts (bndS_ok _)
      simp only
      constructor
      · rw [hs]; exact Int.add_le_add_left k.1 _
      · rw [hs]; exact Int.add_le_add_left k.2 _

/-- It fits. -/
def inB [Bk] (p : Poly) : Bool := let b := bnd p; decide (-9223372036854775808 ≤ b.1) && decide (b.2 < 9223372036854775808)
theorem inB_ok [Bk] [Ev] {p : Poly} (h : inB p = true) : -9223372036854775808 ≤ pev Ev.rho p ∧ pev Ev.rho p < 9223372036854775808 := by
  have k := bnd_ok p
  unfold inB at h
  simp only [Bool.and_eq_true, decide_eq_true_eq] at h
  omega

/-- Is it below 0? -/
def ltB [Bk] (p : Poly) : Option Bool := let b := bnd p; if b.2 < 0 then some true else if 0 ≤ b.1 then some false else none
theorem ltB_ok [Bk] [Ev] {p : Poly} {b : Bool} (h : ltB p = some b) : b = decide (pev Ev.rho p < 0) := by
  have k := bnd_ok p
  unfold ltB at h
  simp only at h
  split at h
  · cases h
    symm; rw [decide_eq_true_eq]; omega
  · split at h
    · cases h
      symm; rw [decide_eq_false_iff_not]; omega
    · cases h
/-- Is it 0? -/
def eqB [Bk] (p : Poly) : Option Bool := let b := bnd p; if b.2 < 0 then some false else if 0 < b.1 then some false else if b.1 = 0 ∧ b.2 = 0 then some true else none
theorem eqB_ok [Bk] [Ev] {p : Poly} {b : Bool} (h : eqB p = some b) : b = decide (pev Ev.rho p = 0) := by
  have k := bnd_ok p
  unfold eqB at h
  simp only at h
  split at h
  · cases h
    symm; rw [decide_eq_false_iff_not]; omega
  · split at h
    · cases h
      symm; rw [decide_eq_false_iff_not]; omega
    · split at h
      · cases h
        symm; rw [decide_eq_true_eq]; omega
      · cases h
def findD (k : Nat) (p q : Poly) : List (Nat × Poly × Poly × Poly) → Option Poly
  | [] => none
  | t :: l => if t.1 = k ∧ t.2.1 = p ∧ t.2.2.1 = q then some t.2.2.2 else findD k p q l
theorem findD_ok {k : Nat} {p q r : Poly} : ∀ {l : List (Nat × Poly × Poly × Poly)}, findD k p q l = some r → (k, p, q, r) ∈ l
  | [], h => by cases h
  | t :: l, h => by
    unfold findD at h
    split at h
    · rename_i e
      cases h
      obtain ⟨rfl, rfl, rfl⟩ := e
      exact List.mem_cons_self
    · exact List.mem_cons_of_mem _ (findD_ok h)
/-- It is not 0. -/
def nzB [Bk] (p : Poly) : Bool := let b := bnd p; decide (b.2 < 0) || decide (0 < b.1)
theorem nzB_ok [Bk] [Ev] {p : Poly} (h : nzB p = true) : pev Ev.rho p ≠ 0 := by
  have k := bnd_ok p
  unfold nzB at h
  simp only [Bool.or_eq_true, decide_eq_true_eq] at h
  omega

/-- Nothing is known. -/
abbrev bk0 : Bk := {}
theorem ev0_vars (i : Nat) : (@Bk.var bk0 i).1 ≤ (([] : List Int).getD i 0) ∧ (([] : List Int).getD i 0) ≤ (@Bk.var bk0 i).2 := by
  show ((([] : List (Int × Int)).getD i (0, 0)).1 ≤ _) ∧ (_ ≤ (([] : List (Int × Int)).getD i (0, 0)).2)
  simp
abbrev ev0 : @Ev bk0 := @Ev.mk bk0 [] ev0_vars (fun t h => absurd h List.not_mem_nil) (fun t h => absurd h List.not_mem_nil) [] (fun v h => absurd h List.not_mem_nil) (fun i b h => by cases h)
end Go.Proofs.YtjbgfhafinfjbaaGreat.Mc
