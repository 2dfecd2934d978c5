/-
  A machine of plain data beside the model: it runs over a tree, so that it runs fast. No program in sight.
-/
import Derived.Test.YtjbgfhafinfjbaaGreatMF
set_option linter.unusedVariables false
set_option linter.unusedSimpArgs false
namespace Go.Proofs.YtjbgfhafinfjbaaGreat.Mc
open Go.RowKit

inductive Tr where
  | leaf
  | node (v : Blk) (l r : Tr)
def Tr.get : Tr → AH
  | .leaf, _ => .no
  | .node v _ _, 0 => v
  | .node _ l r, k + 1 => if k % 2 = 0 then l.get (k / 2) else r.get (k / 2)
def Tr.put : Nat → Tr → Nat → Blk → Tr
  | 0, t, _, _ => t
  | _ + 1, .leaf, 0, b => .node b .leaf .leaf
  | _ + 1, .node _ l r, 0, b => .node b l r
  | f + 1, .leaf, k + 1, b => if k % 2 = 0 then .node .no (Tr.put f .leaf (k / 2) b) .leaf else .node .no .leaf (Tr.put f .leaf (k / 2) b)
  | f + 1, .node v l r, k + 1, b => if k % 2 = 0 then .node v (Tr.put f l (k / 2) b) r else .node v l (Tr.put f r (k / 2) b)
theorem Tr.get_leaf [Bk] [Ev] (j : Nat) : Tr.leaf.get j = .no := by cases j <;> rfl
theorem Tr.get_put [Bk] [Ev] (b : Blk) : ∀ (f : Nat) (t : Tr) (k j : Nat), k < f → (Tr.put f t k b).get j = if j = k then b else t.get j
  | 0, t, k, j, h => by omega
  | f + 1, .leaf, 0, j, h => by
    cases j with
    | zero => rfl
    | succ j =>
      rw [if_neg (by omega)]
      simp only [Tr.put, Tr.get]
      split <;> simp [Tr.get_leaf]
  | f + 1, .node v l r, 0, j, h => by
    cases j with
    | zero => rfl
    | succ j =>
      rw [if_neg (by omega)]
      simp only [Tr.put, Tr.get]
  | f + 1, .leaf, k + 1, j, h => by
    simp only [Tr.put]
    split
    · rename_i hk
      cases j with
      | zero => rw [if_neg (by omega)]; rfl
      | succ j =>
        simp only [Tr.get]
        split
        · rename_i hj
          rw [Tr.get_put b f .leaf (k / 2) (j / 2) (by omega), Tr.get_leaf]
          by_cases e : j = k
          · subst e; simp
          · rw [if_neg (by omega), if_neg (by omega)]
        · rename_i hj
          rw [if_neg (by omega)]; try simp [Tr.get_leaf]
    · rename_i hk
      cases j with
      | zero => rw [if_neg (by omega)]; rfl
      | succ j =>
        simp only [Tr.get]
        split
        · rename_i hj
          rw [if_neg (by omega)]; try simp [Tr.get_leaf]
        · rename_i hj
          rw [Tr.get_put b f .leaf (k / 2) (j / 2) (by omega), Tr.get_leaf]
          by_cases e : j = k
          · subst e; simp
          · rw [if_neg (by omega), if_neg (by omega)]
  | f + 1, .node v l r, k + 1, j, h => by
    simp only [Tr.put]
    split
    · rename_i hk
      cases j with
      | zero => rw [if_neg (by omega)]; rfl
      | succ j =>
        simp only [Tr.get]
        split
        · rename_i hj
          rw [Tr.get_put b f l (k / 2) (j / 2) (by omega)]
          by_cases e : j = k
          · subst e; simp
          · rw [if_neg (by omega), if_neg (by omega)]
        · rename_i hj
          rw [if_neg (by omega)]
    · rename_i hk
      cases j with
      | zero => rw [if_neg (by omega)]; rfl
      | succ j =>
        simp only [Tr.get]
        split
        · rename_i hj
          rw [if_neg (by omega)]
        · rename_i hj
          rw [Tr.get_put b f r (k / 2) (j / 2) (by omega)]
          by_cases e : j = k
          · subst e; simp
          · rw [if_neg (by omega), if_neg (by omega)]
def Tr.set (t : Tr) (k : Nat) (b : Blk) : Tr := Tr.put (k + 1) t k b
theorem Tr.get_set [Bk] [Ev] (t : Tr) (k : Nat) (b : Blk) : (t.set k b).get = bset t.get k b := by
  funext j
  rw [Tr.set, Tr.get_put b _ _ _ _ (by omega)]
  rfl
def Tr.ups (t : Tr) : List (Nat × Blk) → Tr
  | [] => t
  | (i, b) :: r => (t.set i b).ups r
theorem Tr.get_ups [Bk] [Ev] : ∀ (u : List (Nat × Blk)) (t : Tr), (t.ups u).get = upsB t.get u
  | [], t => rfl
  | (i, b) :: r, t => by simp only [Tr.ups, upsB]; rw [Tr.get_ups r, Tr.get_set]

/-- Frames as trees. -/
inductive Ft where
  | leaf
  | node (v : AV) (l r : Ft)
def Ft.get : Ft → Nat → Option AV
  | .leaf, _ => none
  | .node v _ _, 0 => some v
  | .node _ l r, k + 1 => if k % 2 = 0 then l.get (k / 2) else r.get (k / 2)
def Ft.put : Nat → Ft → Nat → AV → Ft
  | 0, t, _, _ => t
  | _ + 1, .leaf, _, _ => .leaf
  | _ + 1, .node _ l r, 0, b => .node b l r
  | f + 1, .node v l r, k + 1, b => if k % 2 = 0 then .node v (Ft.put f l (k / 2) b) r else .node v l (Ft.put f r (k / 2) b)
theorem Ft.get_leaf [Bk] [Ev] (j : Nat) : Ft.leaf.get j = none := by cases j <;> rfl
theorem Ft.get_put [Bk] [Ev] (b : AV) : ∀ (f : Nat) (t : Ft) (k j : Nat), k < f → (Ft.put f t k b).get j = if j = k then (t.get k).map (fun _ => b) else t.get j
  | 0, t, k, j, h => by omega
  | f + 1, .leaf, k, j, h => by simp [Ft.put, Ft.get_leaf]
  | f + 1, .node v l r, 0, j, h => by
    cases j with
    | zero => rfl
    | succ j => rw [if_neg (by omega)]; simp only [Ft.put, Ft.get]
  | f + 1, .node v l r, k + 1, j, h => by
    simp only [Ft.put]
    split
    · rename_i hk
      cases j with
      | zero => rw [if_neg (by omega)]; rfl
      | succ j =>
        simp only [Ft.get]
        split
        · rename_i hj
          rw [Ft.get_put b f l (k / 2) (j / 2) (by omega)]
          by_cases e : j = k
          · subst e; simp [hk]
          · rw [if_neg (by omega), if_neg (by omega)]
        · rename_i hj
          rw [if_neg (by omega)]
    · rename_i hk
      cases j with
      | zero => rw [if_neg (by omega)]; rfl
      | succ j =>
        simp only [Ft.get]
        split
        · rename_i hj
          rw [if_neg (by omega)]
        · rename_i hj
          rw [Ft.get_put b f r (k / 2) (j / 2) (by omega)]
          by_cases e : j = k
          · subst e; simp [hk]
          · rw [if_neg (by omega), if_neg (by omega)]
def Ft.set (t : Ft) (d : Option Tmp) (b : AV) : Ft := match d with
  | none => t
  | some k => Ft.put (k + 1) t k b
/-- The way to a place, found once: what reads there, what writes there. -/
structure Ft.G where
  f : Ft → Option AV
structure Ft.H where
  f : Ft → AV → Ft
def Ft.look : Nat → Nat → Ft.G
  | 0, _ => ⟨fun _ => none⟩
  | n + 1, k => if k = 0 then ⟨fun t => Ft.casesOn t none (fun v _ _ => some v)⟩ else if (k - 1) % 2 = 0 then ⟨fun t => Ft.casesOn t none (fun _ l _ => (Ft.look n ((k - 1) / 2)).f l)⟩ else ⟨fun t => Ft.casesOn t none (fun _ _ r => (Ft.look n ((k - 1) / 2)).f r)⟩
def Ft.lay : Nat → Nat → Ft.H
  | 0, _ => ⟨fun t _ => t⟩
  | n + 1, k => if k = 0 then ⟨fun t b => Ft.casesOn t .leaf (fun _ l r => .node b l r)⟩ else if (k - 1) % 2 = 0 then ⟨fun t b => Ft.casesOn t .leaf (fun v l r => .node v ((Ft.lay n ((k - 1) / 2)).f l b) r)⟩ else ⟨fun t b => Ft.casesOn t .leaf (fun v l r => .node v l ((Ft.lay n ((k - 1) / 2)).f r b))⟩
theorem Ft.look_eq [Bk] [Ev] : ∀ (n k : Nat) (t : Ft), k < n → (Ft.look n k).f t = t.get k
  | 0, k, t, h => by omega
  | n + 1, 0, t, h => by cases t <;> rfl
  | n + 1, k + 1, t, h => by
    have e : k + 1 - 1 = k := rfl
    simp only [Ft.look, Nat.add_one_ne_zero, if_false, e]
    split
    · rename_i hk
      cases t with
      | leaf => rfl
      | node v l r => simp only [Ft.get, hk, if_true]; exact Ft.look_eq n _ _ (by omega)
    · rename_i hk
      cases t with
      | leaf => rfl
      | node v l r => simp only [Ft.get, hk, if_false]; exact Ft.look_eq n _ _ (by omega)
theorem Ft.lay_eq [Bk] [Ev] (b : AV) : ∀ (n k : Nat) (t : Ft), k < n → (Ft.lay n k).f t b = Ft.put n t k b
  | 0, k, t, h => by omega
  | n + 1, 0, t, h => by cases t <;> rfl
  | n + 1, k + 1, t, h => by
    have e : k + 1 - 1 = k := rfl
    simp only [Ft.lay, Nat.add_one_ne_zero, if_false, e]
    split
    · rename_i hk
      cases t with
      | leaf => rfl
      | node v l r => simp only [Ft.put, hk, if_true]; rw [Ft.lay_eq b n _ _ (by omega)]
    · rename_i hk
      cases t with
      | leaf => rfl
      | node v l r => simp only [Ft.put, hk, if_false]; rw [Ft.lay_eq b n _ _ (by omega)]
def Ft.gt (t : Ft) (k : Nat) : Option AV := (Ft.look (k + 1) k).f t
def Ft.st (t : Ft) (d : Option Tmp) (b : AV) : Ft := match d with
  | none => t
  | some k => (Ft.lay (k + 1) k).f t b
theorem Ft.gt_eq [Bk] [Ev] (t : Ft) (k : Nat) : t.gt k = t.get k := Ft.look_eq _ _ _ (by omega)
theorem Ft.st_eq [Bk] [Ev] (t : Ft) (d : Option Tmp) (b : AV) : t.st d b = t.set d b := by
  cases d with
  | none => rfl
  | some k => exact Ft.lay_eq b _ _ _ (by omega)
/-- A list as a tree: every second one to each side. -/
def evens : List AV → List AV
  | [] => []
  | [x] => [x]
  | x :: _ :: l => x :: evens l
def odds : List AV → List AV
  | [] => []
  | [_] => []
  | _ :: y :: l => y :: odds l
theorem evens_get [Bk] [Ev] : ∀ (l : List AV) (k : Nat), (evens l)[k]? = l[2 * k]?
  | [], k => by simp [evens]
  | [x], 0 => rfl
  | [x], k + 1 => by simp [evens]
  | x :: _ :: l, 0 => rfl
  | x :: y :: l, k + 1 => by
    simp only [evens, List.getElem?_cons_succ]
    rw [evens_get l k, show 2 * (k + 1) = 2 * k + 2 by omega]
    rfl
theorem odds_get [Bk] [Ev] : ∀ (l : List AV) (k : Nat), (odds l)[k]? = l[2 * k + 1]?
  | [], k => by simp [odds]
  | [x], k => by simp [odds]
  | x :: y :: l, 0 => rfl
  | x :: y :: l, k + 1 => by
    simp only [odds, List.getElem?_cons_succ]
    rw [odds_get l k, show 2 * (k + 1) = 2 * k + 1 + 1 by omega]
    rfl
def Ft.of : Nat → List AV → Ft
  | 0, _ => .leaf
  | _ + 1, [] => .leaf
  | f + 1, x :: l => .node x (Ft.of f (evens l)) (Ft.of f (odds l))
theorem evens_len [Bk] [Ev] : ∀ (l : List AV), (evens l).length ≤ l.length
  | [] => by simp [evens]
  | [x] => by simp [evens]
  | x :: y :: l => by simp [evens]; have := evens_len l; omega
theorem odds_len [Bk] [Ev] : ∀ (l : List AV), (odds l).length ≤ l.length
  | [] => by simp [odds]
  | [x] => by simp [odds]
  | x :: y :: l => by simp [odds]; have := odds_len l; omega
theorem Ft.get_of [Bk] [Ev] : ∀ (f : Nat) (l : List AV) (k : Nat), l.length ≤ f → (Ft.of f l).get k = l[k]?
  | 0, l, k, h => by
    have : l = [] := List.length_eq_zero_iff.1 (by omega)
    subst this; simp [Ft.of, Ft.get_leaf]
  | f + 1, [], k, h => by simp [Ft.of, Ft.get_leaf]
  | f + 1, x :: l, 0, h => rfl
  | f + 1, x :: l, k + 1, h => by
    have h1 := evens_len l
    have h2 := odds_len l
    simp only [List.length_cons] at h
    simp only [Ft.of, Ft.get, List.getElem?_cons_succ]
    split
    · rw [Ft.get_of f _ _ (by omega), evens_get]; congr 1; omega
    · rw [Ft.get_of f _ _ (by omega), odds_get]; congr 1; omega

/-- The tree is the list. -/
def FR (f : List AV) (t : Ft) : Prop := ∀ k, t.get k = f[k]?
theorem FR.set [Bk] [Ev] {f : List AV} {t : Ft} (h : FR f t) (d : Option Tmp) (v : AV) : FR (fset f d v) (t.set d v) := by
  cases d with
  | none => exact h
  | some d =>
    intro k
    simp only [Ft.set, fset]
    rw [Ft.get_put v _ _ _ _ (by omega), List.getElem?_set]
    by_cases e : k = d
    · subst e
      rw [if_pos rfl, if_pos rfl, h k]
      by_cases hl : k < f.length
      · simp [hl]
      · simp [hl]
    · rw [if_neg e, if_neg (fun x => e x.symm)]
      exact h k
theorem FR.st [Bk] [Ev] {f : List AV} {t : Ft} (h : FR f t) (d : Option Tmp) (v : AV) : FR (fset f d v) (t.st d v) := by rw [Ft.st_eq]; exact h.set d v
def aevT (t : Ft) : Operand → AV
  | .tmp k => match t.gt k with | some v => v | none => .undef
  | .const v => ofC v
  | .global g => .c (.pointer (some ⟨g, 0, none⟩))
  | .func k => .fn (.func k) [] []
theorem FR.ev [Bk] [Ev] {f : List AV} {t : Ft} (h : FR f t) : aev f = aevT t := by
  funext o
  cases o with
  | tmp k =>
    simp only [aev, aevT, List.getD, Ft.gt_eq, h k]
    cases f[k]? <;> rfl
  | _ => rfl

structure RT (α : Type) where
  a : α
  t : Tr
  n : Nat
  rd : List Nat
  wr : List Nat
abbrev MT (α : Type) := Tr → Nat → Option (RT α)
/-- The run over trees is the run. -/
def Sim {α β : Type} (R : α → β → Prop) (x : M α) (y : MT β) : Prop := ∀ t n r, y t n = some r → ∃ a, x t.get n = some ⟨a, r.t.get, r.n, r.rd, r.wr⟩ ∧ R a r.a
def tfail {α : Type} : MT α := fun _ _ => none
def tpure {α : Type} (a : α) : MT α := fun t n => some ⟨a, t, n, [], []⟩
def tbind {α β : Type} (x : MT α) (k : α → MT β) : MT β := fun t n =>
  match x t n with
  | none => none
  | some r => match k r.a r.t r.n with
    | none => none
    | some s => some ⟨s.a, s.t, s.n, r.rd ++ s.rd, r.wr ++ s.wr⟩
theorem sim_fail [Bk] [Ev] {α β : Type} {R : α → β → Prop} {x : M α} : Sim R x tfail := fun t n r h => by cases h
theorem sim_pure [Bk] [Ev] {α β : Type} {R : α → β → Prop} {a : α} {b : β} (h : R a b) : Sim R (mpure a) (tpure b) := fun t n r hr => by cases hr; exact ⟨a, rfl, h⟩
theorem sim_bind [Bk] [Ev] {α β γ δ : Type} {R : α → β → Prop} {S : γ → δ → Prop} {x : M α} {y : MT β} {k : α → M γ} {l : β → MT δ} (hx : Sim R x y) (hk : ∀ a b, R a b → Sim S (k a) (l b)) : Sim S (mbind x k) (tbind y l) := by
  intro t n r h
  unfold tbind at h
  cases h1 : y t n with
  | none => rw [h1] at h; cases h
  | some q =>
    rw [h1] at h
    simp only at h
    cases h2 : l q.a q.t q.n with
    | none => rw [h2] at h; cases h
    | some s =>
      rw [h2] at h
      cases h
      obtain ⟨a, e1, hR⟩ := hx t n q h1
      obtain ⟨c, e2, hS⟩ := hk a q.a hR q.t q.n s h2
      refine ⟨c, ?_, hS⟩
      unfold mbind
      rw [e1]
      simp only
      rw [e2]

section
variable {P : Program}
def aopT [Bk] (P : Program) (op : Op) (f : Ft) : MT AV := fun t n =>
  match aopF P op (aevT f) t.get n with
  | none => none
  | some r => some ⟨r.v, t.ups r.ups, if (r.ups.map (·.1)).contains n then n + 1 else n, r.rds, r.ups.map (·.1)⟩
theorem sim_aop [Bk] [Ev] (op : Op) {f : List AV} {g : Ft} (hf : FR f g) : Sim Eq (aopM P op f) (aopT P op g) := by
  intro t n r h
  unfold aopT at h
  unfold aopM
  rw [hf.ev]
  rw [aopF_eq] at h
  cases h1 : aop P op (aevT g) t.get n with
  | none => rw [h1] at h; cases h
  | some q =>
    rw [h1] at h
    cases h
    exact ⟨q.v, by simp [Tr.get_ups], rfl⟩
def astepT [Bk] (P : Program) (call : Fn → List AV → MT AV) (o : Oper) (f : Ft) : MT AV :=
  match calleeA P (aevT f) o.op with
  | some (k, args) => call (.func k) args
  | none => match yieldA (aevT f) o.op with
    | some (id, args) => call (.yield id) args
    | none => aopT P o.op f
def guardT (ops : Array Oper) (o : Oper) (f : Ft) : Option Bool :=
  match o.guard with
  | none => some true
  | some (j, want) => match (ops[j]?).bind (·.dst) with
    | none => some false
    | some d => match f.gt d with
      | some (.c (.bool b)) => some (b == want)
      | some .undef => some false
      | none => some false
      | _ => none
theorem FR.guard [Bk] [Ev] {f : List AV} {g : Ft} (h : FR f g) (ops : Array Oper) (o : Oper) : guardA ops o f = guardT ops o g := by
  unfold guardA guardT
  cases o.guard with
  | none => rfl
  | some p =>
    obtain ⟨j, want⟩ := p
    simp only
    cases (ops[j]?).bind (·.dst) with
    | none => rfl
    | some d =>
      simp only [Ft.gt_eq, h d]
      cases f[d]? with
      | none => rfl
      | some v => cases v with
        | c u => cases u <;> rfl
        | _ => rfl
def aseqT [Bk] (P : Program) (call : Fn → List AV → MT AV) (ops : Array Oper) : List Oper → Ft → MT Ft
  | [], f => tpure f
  | o :: l, f => match guardT ops o f with
    | some true => tbind (astepT P call o f) fun v => aseqT P call ops l (f.st o.dst v)
    | some false => aseqT P call ops l (f.st o.dst .undef)
    | none => tfail
def mlogT (x : MT AV) : MT (AV × Eff) := fun t n =>
  match x t n with
  | none => none
  | some r => some ⟨(r.a, ⟨r.a, (r.wr ++ List.range' n (r.n - n)).map fun id => (id, r.t.get id), r.rd, n, r.n, false⟩), r.t, r.n, r.rd, r.wr⟩
def adrawLT [Bk] (P : Program) (call : Fn → List AV → MT AV) (ops : Array Oper) : List Oper → Ft → MT (Ft × List Eff)
  | [], f => tpure (f, [])
  | o :: l, f => match guardT ops o f with
    | some true => tbind (mlogT (astepT P call o f)) fun v => tbind (adrawLT P call ops l (f.st o.dst v.1)) fun q => tpure (q.1, v.2 :: q.2)
    | some false => tbind (adrawLT P call ops l (f.st o.dst .undef)) fun q => tpure (q.1, ⟨.undef, [], [], 0, 0, true⟩ :: q.2)
    | none => tfail
def adrawT [Bk] (P : Program) (call : Fn → List AV → MT AV) (ops : Array Oper) (f : Ft) : MT Ft :=
  if P.follows .mixedOrders then tbind (adrawLT P call ops ops.toList f) fun q => if drawB ops q.2 then tpure q.1 else tfail else tfail
def mcompT {α : Type} (x : MT α) : MT α := fun t n =>
  match x t n with
  | none => none
  | some r => some ⟨r.a, r.t, r.n, (r.rd.filter fun id => !(decide (n ≤ id) && decide (id < r.n))).eraseDups, (r.wr.filter fun id => !(decide (n ≤ id) && decide (id < r.n))).eraseDups⟩
/-- A frame as a list. -/
def Ft.list (t : Ft) : Nat → Nat → Option (List AV)
  | 0, _ => none
  | n + 1, k => match t.gt k with
    | none => some []
    | some v => match Ft.list t n (k + 1) with
      | none => none
      | some l => some (v :: l)
theorem FR.list [Bk] [Ev] {f : List AV} {t : Ft} (h : FR f t) : ∀ (n k : Nat) (l : List AV), Ft.list t n k = some l → l = f.drop k
  | 0, k, l, hl => by cases hl
  | n + 1, k, l, hl => by
    simp only [Ft.list, Ft.gt_eq, h k] at hl
    cases hk : f[k]? with
    | none =>
      rw [hk] at hl
      cases hl
      have := List.getElem?_eq_none_iff.1 hk
      simp [List.drop_eq_nil_of_le this]
    | some v =>
      rw [hk] at hl
      simp only at hl
      cases hr : Ft.list t n (k + 1) with
      | none => rw [hr] at hl; cases hl
      | some r =>
        rw [hr] at hl
        cases hl
        have := FR.list h n (k + 1) r hr
        obtain ⟨hlt, hv⟩ := List.getElem?_eq_some_iff.1 hk
        rw [List.drop_eq_getElem_cons hlt, hv, this]
def atLT {α : Type} (id : Nat) (g : Blk → Option (α × Blk)) : MT α := fun t n =>
  match g (t.get id) with
  | none => none
  | some (a, b) => some ⟨a, t.set id b, n, [id], [id]⟩
def newLT (f : List AV) (ps : Array Tmp) (as bd : Code) : MT Nat := fun t n =>
  match t.get n with
  | .no => some ⟨n, t.set n (.lp .ready f ps as bd), n + 1, [n], [n]⟩
  | _ => none
theorem sim_at [Bk] [Ev] {α : Type} (id : Nat) (g : Blk → Option (α × Blk)) : Sim Eq (atL id g) (atLT id g) := by
  intro t n r hr
  unfold atLT at hr
  unfold atL
  cases hg : g (t.get id) with
  | none => rw [hg] at hr; cases hr
  | some p =>
    obtain ⟨a, b⟩ := p
    rw [hg] at hr
    cases hr
    exact ⟨a, by simp only [Tr.get_set], rfl⟩
theorem sim_new [Bk] [Ev] (f : List AV) (ps : Array Tmp) (as bd : Code) : Sim Eq (newL f ps as bd) (newLT f ps as bd) := by
  intro t n r hr
  unfold newLT at hr
  unfold newL
  split at hr
  · rename_i hn
    cases hr
    exact ⟨n, by simp only [hn, Tr.get_set], rfl⟩
  · cases hr
def acodeT [Bk] (P : Program) (call : Fn → List AV → MT AV) (tp : Bool) : Nat → Code → Ft → MT (AX × Ft)
  | 0, _, _ => tfail
  | n + 1, .skip, f => tpure (.normal, f)
  | n + 1, .region _ ops draw, f => tbind (if draw then adrawT P call ops f else aseqT P call ops ops.toList f) fun f' => tpure (.normal, f')
  | n + 1, .seq x y, f => tbind (acodeT P call tp n x f) fun q => match q.1 with
    | .normal => acodeT P call tp n y q.2
    | _ => tpure q
  | n + 1, .cond c x y, f => match aevT f c with
    | .c (.bool b) => acodeT P call tp n (if b then x else y) f
    | _ => tfail
  | n + 1, .block id c, f => tbind (acodeT P call tp n c f) fun q => match q.1 with
    | .exit id' => if id' = id then tpure (.normal, q.2) else tpure q
    | _ => tpure q
  | n + 1, .loop c, f => tbind (acodeT P call tp n c f) fun q => match q.1 with
    | .normal => acodeT P call tp n (.loop c) q.2
    | _ => tpure q
  | n + 1, .rangeFunc g ps as bd, f => if tp then match aevT f g with
      | .fn (.func k) [] captured => match Ft.list f 4096 0 with
        | none => tfail
        | some l => tbind (newLT l ps as bd) fun id => tbind (call (.func k) (.yld id :: captured)) fun _ => tbind (atLT id overG) fun x => tpure (x, f)
      | _ => tfail
    else tfail
  | n + 1, .scope c, f => acodeT P call tp n c f
  | n + 1, .label _, f => tpure (.normal, f)
  | n + 1, .exit id, f => tpure (.exit id, f)
  | n + 1, .ret, f => tpure (.ret, f)
  | n + 1, _, _ => tfail
/-- A round. -/
def ayieldT [Bk] (P : Program) (L : Nat) (call : Fn → List AV → MT AV) (id : Nat) (args : List AV) : MT AV :=
  tbind (atLT id getG) fun q => if args.length = q.2.1.size then
    tbind (acodeT P call false L q.2.2.1 (Ft.of (putsA q.1 q.2.1 args).length (putsA q.1 q.2.1 args))) fun r => match r.1 with
      | .normal => tbind (atLT id busyG) fun _ => tbind (acodeT P call false L q.2.2.2 r.2) fun s => atLT id (turnG s.1)
      | _ => tfail
  else tfail
def resAT (P : Program) (f : Ft) (h : AH) : ResultVar → Option AV
  | .tmp t => some ((f.gt t).getD .undef)
  | .cell t ty => cellA P ty h ((f.gt t).getD .undef)
def resultsAT (P : Program) (fn : Func) (f : Ft) (h : AH) : Option AV :=
  (fn.results.toList.mapM (resAT P f h)).map tupOf
def resIdsT1 (f : Ft) : ResultVar → List Nat
  | .tmp _ => []
  | .cell t _ => ptrIds ((f.gt t).getD .undef)
def resIdsT (f : Ft) (l : List ResultVar) : List Nat := l.flatMap (resIdsT1 f)
def resT (P : Program) (fn : Func) (f : Ft) : MT AV := fun t n =>
  match resultsAT P fn f t.get with
  | none => none
  | some v => some ⟨v, t, n, resIdsT f fn.results.toList, []⟩
def cloneT (P : Program) (ty : TypeId) (x : AV) : MT AV := fun t n =>
  match P.underlying ty with
  | some (.slice e) => match P.info? e with
    | some i => match i.zero, elsA t.get x with
      | some z, some els => if z.cells.size = i.size ∧ 0 < i.size ∧ (els.all fun q => q.length == i.size) = true ∧ ownSz x i.size = true ∧ els.length * i.bytes ≤ 140737488355328 ∧ els.length ≤ 1099511627776 ∧ newB t.get n = true ∧ newB t.get (n + 1) = true ∧ (idOf x).contains n = false then
          some ⟨.own e i.size (n + 1) 0 els.length, t.ups [(n, .dead), (n + 1, .cells e i.size els)], n + 2, n :: (n + 1) :: idOf x, [n, n + 1]⟩ else none
      | _, _ => none
    | none => none
  | _ => none
def acallBT [Bk] (P : Program) (L : Nat) (call : Fn → List AV → MT AV) (k : FuncId) (args : List AV) : MT AV :=
  match P.funcs[k]? with
    | none => tfail
    | some fn => match isClone fn, args with
      | some t, [x] => cloneT P t x
      | _, _ => match fn.body with
        | none => tfail
        | some c => if fn.name == "runtime.NumGoroutine" then tfail else
          mcompT (tbind (acodeT P call true L c (Ft.of (args.length + fn.ntmps) (args ++ List.replicate (fn.ntmps - args.length) .undef))) fun q => match q.1 with
            | .exit _ => tfail
            | _ => resT P fn q.2)
def knT [Bk] (k : FuncId) (args : List AV) : MT AV := fun t n =>
  match frzL (frz t.get 16) args with
  | some (as, ids) => match findV k as Bk.extV with
    | some r => some ⟨r, t.ups (ids.map fun id => (id, Blk.dead)), n, ids, ids⟩
    | none => none
  | none => none
def acallT [Bk] (P : Program) (L : Nat) : Nat → Fn → List AV → MT AV
  | 0, _, _ => tfail
  | d + 1, .func k, args => match extA P k args with
    | some v => tpure v
    | none => if knB P k = true then knT k args else acallBT P L (acallT P L d) k args
  | d + 1, .yield id, args => mcompT (ayieldT P L (acallT P L d) id args)
  | _ + 1, _, _ => tfail

variable {cm : Fn → List AV → M AV} {ct : Fn → List AV → MT AV}
theorem sim_step [Bk] [Ev] (hc : ∀ k args, Sim Eq (cm k args) (ct k args)) (o : Oper) {f : List AV} {g : Ft} (hf : FR f g) : Sim Eq (astep P cm o f) (astepT P ct o g) := by
  unfold astep astepT
  rw [hf.ev]
  cases calleeA P (aevT g) o.op with
  | some p => exact hc _ _
  | none =>
    cases yieldA (aevT g) o.op with
    | some p => exact hc _ _
    | none => exact sim_aop _ hf
theorem sim_log [Bk] [Ev] {x : M AV} {y : MT AV} (h : Sim Eq x y) : Sim Eq (mlog x) (mlogT y) := by
  intro t n r hr
  unfold mlogT at hr
  cases h1 : y t n with
  | none => rw [h1] at hr; cases hr
  | some q =>
    rw [h1] at hr
    cases hr
    obtain ⟨a, e1, rfl⟩ := h t n q h1
    refine ⟨_, ?_, rfl⟩
    unfold mlog
    rw [e1]
theorem getE [Bk] [Ev] {ops : Array Oper} {k : Nat} {o : Oper} {l : List Oper} (h : ops.toList.drop k = o :: l) : ops[k]? = some o ∧ ops.toList.drop (k + 1) = l := by
  have h1 : ops.toList[k]? = some o := by
    have := congrArg (·[0]?) h
    simpa using this
  refine ⟨by simpa using h1, ?_⟩
  have := congrArg (List.drop 1) h
  simpa [List.drop_drop, Nat.add_comm] using this
theorem sim_seq [Bk] [Ev] (hc : ∀ k args, Sim Eq (cm k args) (ct k args)) (ops : Array Oper) : ∀ (l : List Oper) (k : Nat) (f : List AV) (g : Ft), ops.toList.drop k = l → FR f g → Sim FR (aseq P cm ops (List.range' k l.length) f) (aseqT P ct ops l g)
  | [], k, f, g, _, hf => sim_pure hf
  | o :: l, k, f, g, hl, hf => by
    obtain ⟨h1, h2⟩ := getE hl
    simp only [List.length_cons, List.range'_succ, aseq, aseqT, h1]
    rw [hf.guard]
    cases guardT ops o g with
    | none => exact sim_fail
    | some b =>
      cases b
      · exact sim_seq hc ops l (k + 1) _ _ h2 (hf.st _ _)
      · exact sim_bind (sim_step hc _ hf) fun v u e => by subst e; exact sim_seq hc ops l (k + 1) _ _ h2 (hf.st _ _)
theorem sim_drawL [Bk] [Ev] (hc : ∀ k args, Sim Eq (cm k args) (ct k args)) (ops : Array Oper) : ∀ (l : List Oper) (k : Nat) (f : List AV) (g : Ft), ops.toList.drop k = l → FR f g → Sim (fun a b => FR a.1 b.1 ∧ a.2 = b.2) (adrawL P cm ops (List.range' k l.length) f) (adrawLT P ct ops l g)
  | [], k, f, g, _, hf => sim_pure ⟨hf, rfl⟩
  | o :: l, k, f, g, hl, hf => by
    obtain ⟨h1, h2⟩ := getE hl
    simp only [List.length_cons, List.range'_succ, adrawL, adrawLT, h1]
    rw [hf.guard]
    cases guardT ops o g with
    | none => exact sim_fail
    | some b =>
      cases b
      · exact sim_bind (sim_drawL hc ops l (k + 1) _ _ h2 (hf.st _ _)) fun a b e => sim_pure ⟨e.1, by simp only; rw [e.2]⟩
      · exact sim_bind (sim_log (sim_step hc _ hf)) fun v u e => by
          subst e
          exact sim_bind (sim_drawL hc ops l (k + 1) _ _ h2 (hf.st _ _)) fun a b e => sim_pure ⟨e.1, by simp only; rw [e.2]⟩
theorem range_zero [Bk] [Ev] (n : Nat) : List.range n = List.range' 0 n := List.range_eq_range'
theorem sim_draw [Bk] [Ev] (hc : ∀ k args, Sim Eq (cm k args) (ct k args)) (ops : Array Oper) {f : List AV} {g : Ft} (hf : FR f g) : Sim FR (adraw P cm ops f) (adrawT P ct ops g) := by
  unfold adraw adrawT
  split
  · have := sim_drawL (P := P) hc ops ops.toList 0 f g (by simp) hf
    rw [range_zero, show ops.size = ops.toList.length by simp]
    refine sim_bind this fun a b e => ?_
    rw [e.2]
    split
    · exact sim_pure e.1
    · exact sim_fail
  · exact sim_fail
theorem sim_comp [Bk] [Ev] {α β : Type} {R : α → β → Prop} {x : M α} {y : MT β} (h : Sim R x y) : Sim R (mcomp x) (mcompT y) := by
  intro t n r hr
  unfold mcompT at hr
  cases h1 : y t n with
  | none => rw [h1] at hr; cases hr
  | some q =>
    rw [h1] at hr
    cases hr
    obtain ⟨a, e1, hR⟩ := h t n q h1
    refine ⟨a, ?_, hR⟩
    unfold mcomp
    rw [e1]
theorem sim_code [Bk] [Ev] (hc : ∀ k args, Sim Eq (cm k args) (ct k args)) {tp : Bool} : ∀ (n : Nat) (c : Code) (f : List AV) (g : Ft), FR f g → Sim (fun a b => a.1 = b.1 ∧ FR a.2 b.2) (acode P cm tp n c f) (acodeT P ct tp n c g)
  | 0, c, f, g, hf => by simp only [acode, acodeT]; exact sim_fail
  | n + 1, c, f, g, hf => by
    cases c with
    | skip => exact sim_pure ⟨rfl, hf⟩
    | region id ops draw =>
      simp only [acode, acodeT]
      refine sim_bind (R := FR) ?_ fun a b e => sim_pure ⟨rfl, e⟩
      cases draw
      · have := sim_seq (P := P) hc ops ops.toList 0 f g (by simp) hf
        rw [range_zero, show ops.size = ops.toList.length by simp]
        exact this
      · exact sim_draw hc _ hf
    | seq x y =>
      simp only [acode, acodeT]
      refine sim_bind (sim_code hc n x f g hf) fun a b e => ?_
      obtain ⟨a1, a2⟩ := a
      obtain ⟨b1, b2⟩ := b
      simp only at e
      obtain ⟨rfl, e2⟩ := e
      cases a1 with
      | normal => exact sim_code hc n y _ _ e2
      | _ => exact sim_pure ⟨rfl, e2⟩
    | cond c x y =>
      simp only [acode, acodeT]
      rw [hf.ev]
      cases aevT g c with
      | c v => cases v with
        | bool b => exact sim_code hc n _ _ _ hf
        | _ => exact sim_fail
      | _ => exact sim_fail
    | scope c => simp only [acode, acodeT]; exact sim_code hc n c f g hf
    | label l => exact sim_pure ⟨rfl, hf⟩
    | block id c =>
      simp only [acode, acodeT]
      refine sim_bind (sim_code hc n c f g hf) fun a b e => ?_
      obtain ⟨a1, a2⟩ := a
      obtain ⟨b1, b2⟩ := b
      simp only at e
      obtain ⟨rfl, e2⟩ := e
      cases a1 with
      | exit id' => simp only; split <;> exact sim_pure ⟨rfl, e2⟩
      | _ => exact sim_pure ⟨rfl, e2⟩
    | loop c =>
      simp only [acode, acodeT]
      refine sim_bind (sim_code hc n c f g hf) fun a b e => ?_
      obtain ⟨a1, a2⟩ := a
      obtain ⟨b1, b2⟩ := b
      simp only at e
      obtain ⟨rfl, e2⟩ := e
      cases a1 with
      | normal => exact sim_code hc n _ _ _ e2
      | _ => exact sim_pure ⟨rfl, e2⟩
    | rangeFunc gg ps as bd =>
      simp only [acode, acodeT]
      rw [hf.ev]
      cases tp with
      | false => exact sim_fail
      | true =>
        cases aevT g gg with
        | fn F first captured =>
          cases F with
          | func k =>
            cases first with
            | nil =>
              simp only [if_true]
              cases hl : Ft.list g 4096 0 with
              | none => exact sim_fail
              | some l =>
                have e := hf.list 4096 0 l hl
                rw [List.drop_zero] at e
                subst e
                refine sim_bind (sim_new _ _ _ _) fun a b e => ?_
                subst e
                refine sim_bind (hc _ _) fun c d e => ?_
                refine sim_bind (sim_at _ _) fun x y e => ?_
                subst e
                exact sim_pure ⟨rfl, hf⟩
            | cons _ _ => exact sim_fail
          | _ => exact sim_fail
        | _ => exact sim_fail
    | exit id => exact sim_pure ⟨rfl, hf⟩
    | ret => exact sim_pure ⟨rfl, hf⟩
    | _ => simp only [acode, acodeT]; exact sim_fail
theorem sim_yield [Bk] [Ev] (hc : ∀ k args, Sim Eq (cm k args) (ct k args)) (L id : Nat) (args : List AV) : Sim Eq (ayield P L cm id args) (ayieldT P L ct id args) := by
  unfold ayield ayieldT
  refine sim_bind (sim_at _ _) fun q q' e => ?_
  subst e
  split
  · refine sim_bind (sim_code hc _ _ _ _ (fun k => Ft.get_of _ _ _ (Nat.le_refl _))) fun a b e => ?_
    obtain ⟨a1, a2⟩ := a
    obtain ⟨b1, b2⟩ := b
    simp only at e
    obtain ⟨rfl, e2⟩ := e
    cases a1 with
    | normal =>
      refine sim_bind (sim_at _ _) fun _ _ _ => sim_bind (sim_code hc _ _ _ _ e2) fun a b e => ?_
      rw [e.1]
      exact sim_at _ _
    | _ => exact sim_fail
  · exact sim_fail
theorem FR.getD [Bk] [Ev] {f : List AV} {g : Ft} (h : FR f g) (t : Nat) : f.getD t .undef = (g.gt t).getD .undef := by rw [List.getD, Ft.gt_eq, h t]
theorem sim_res [Bk] [Ev] (fn : Func) {f : List AV} {g : Ft} (hf : FR f g) : Sim Eq (resM P fn f) (resT P fn g) := by
  have e1 : ∀ h, resultsA P fn f h = resultsAT P fn g h := by
    intro h
    unfold resultsA resultsAT
    have : resA P f h = resAT P g h := by
      funext r
      cases r with
      | tmp t => simp only [resA, resAT, hf.getD]
      | cell t ty => simp only [resA, resAT, hf.getD]
    rw [this]
  have e2 : ∀ l, resIds f l = resIdsT g l := by
    intro l
    unfold resIds resIdsT
    congr 1
    funext r
    cases r with
    | tmp t => rfl
    | cell t ty => simp only [resIds1, resIdsT1, hf.getD]
  intro t n r hr
  unfold resT at hr
  unfold resM
  rw [e1]
  cases h1 : resultsAT P fn g t.get with
  | none => rw [h1] at hr; cases hr
  | some v => rw [h1] at hr; cases hr; exact ⟨v, by simp only [e2], rfl⟩
theorem sim_clone [Bk] [Ev] (ty : TypeId) (x : AV) : Sim Eq (cloneM P ty x) (cloneT P ty x) := by
  intro t n r hr
  unfold cloneT at hr
  unfold cloneM
  split at hr
  · rename_i e he
    split at hr
    · rename_i i hi
      split at hr
      · rename_i z els hz hx
        split at hr
        · rename_i hc
          cases hr
          refine ⟨_, ?_, rfl⟩
          simp only [he, hi, hz, hx]
          rw [if_pos hc]
          simp only [Tr.get_ups]
        · cases hr
      · cases hr
    · cases hr
  · cases hr
theorem sim_callB [Bk] [Ev] (L : Nat) (ih : ∀ k args, Sim Eq (cm k args) (ct k args)) (k : FuncId) (args : List AV) : Sim Eq (acallB P L cm k args) (acallBT P L ct k args) := by
    have plain : ∀ fn : Func, Sim Eq (match fn.body with
        | none => mfail
        | some c => if fn.name == "runtime.NumGoroutine" then mfail else
          mcomp (mbind (acode P cm true L c (args ++ List.replicate (fn.ntmps - args.length) .undef)) fun q => match q.1 with
            | .exit _ => mfail
            | _ => resM P fn q.2)) (match fn.body with
        | none => tfail
        | some c => if fn.name == "runtime.NumGoroutine" then tfail else
          mcompT (tbind (acodeT P ct true L c (Ft.of (args.length + fn.ntmps) (args ++ List.replicate (fn.ntmps - args.length) .undef))) fun q => match q.1 with
            | .exit _ => tfail
            | _ => resT P fn q.2)) := by
      intro fn
      cases fn.body with
      | none => exact sim_fail
      | some c =>
        simp only
        split
        · exact sim_fail
        · refine sim_comp (sim_bind (sim_code ih _ _ _ _ (fun k => Ft.get_of _ _ _ (by rw [List.length_append, List.length_replicate]; omega))) fun a b e => ?_)
          obtain ⟨a1, a2⟩ := a
          obtain ⟨b1, b2⟩ := b
          simp only at e
          obtain ⟨rfl, e2⟩ := e
          cases a1 with
          | exit id => exact sim_fail
          | _ => exact sim_res (P := P) _ e2
    simp only [acallB, acallBT]
    cases P.funcs[k]? with
    | none => exact sim_fail
    | some fn =>
      simp only
      cases isClone fn with
      | none => exact plain fn
      | some t =>
        cases args with
        | nil => exact plain fn
        | cons x l =>
          cases l with
          | nil => exact sim_clone _ _
          | cons y l => exact plain fn

theorem sim_kn [Bk] [Ev] (k : FuncId) (args : List AV) : Sim Eq (knM k args) (knT k args) := by
  intro t n r hr
  unfold knT at hr
  unfold knM
  split at hr
  · rename_i as ids hf
    split at hr
    · rename_i v hv
      cases hr
      refine ⟨v, ?_, rfl⟩
      rw [hf]
      simp only [hv, Tr.get_ups]
    · cases hr
  · cases hr
theorem sim_call [Bk] [Ev] (L : Nat) : ∀ d k args, Sim Eq (acallX P L d k args) (acallT P L d k args)
  | 0, k, args => sim_fail
  | d + 1, .func k, args => by
    have ih := sim_callB (P := P) L (sim_call L d) k args
    simp only [acallX, acallT]
    cases extA P k args with
    | some v => exact sim_pure rfl
    | none =>
      simp only
      split
      · exact sim_kn k args
      · exact ih
  | d + 1, .yield id, args => sim_comp (sim_yield (sim_call L d) L id args)
  | d + 1, .method _, args => sim_fail
  | d + 1, .methodOf _ _, args => sim_fail
  | d + 1, .via _ _ _ _, args => sim_fail

theorem acallT_ok [Bk] [Ev] (hX : ExtOk P) {L d : Nat} {k : FuncId} {args : List AV} {t : Tr} {n : Nat} {r : RT AV} (hr : acallT P L d (.func k) args t n = some r) : ACalls P k args t.get (fun v h' => v = r.a ∧ h' = r.t.get) := by
  obtain ⟨a, e, rfl⟩ := sim_call L d (.func k) args t n r hr
  exact acallX_ok hX e

/-- A run that says yes. -/
def saysYes (o : Option (RT AV)) : Bool := match o with | some r => (match r.a with | .c (.bool b) => b | _ => false) | none => false
theorem saysYes_ok [Bk] [Ev] (hX : ExtOk P) {L d : Nat} {k : FuncId} {args : List AV} {t : Tr} {n : Nat} (h : saysYes (acallT P L d (.func k) args t n) = true) : ∃ h', ACalls P k args t.get (fun v h'' => v = .c (.bool true) ∧ h'' = h') := by
  unfold saysYes at h
  split at h
  · rename_i r hr
    split at h
    · rename_i b hb
      subst h
      exact ⟨r.t.get, (acallT_ok hX hr).mono fun v h' ⟨e1, e2⟩ => ⟨e1.trans hb, e2⟩⟩
    · cases h
  · cases h
end
end Go.Proofs.YtjbgfhafinfjbaaGreat.Mc
