/-
  A machine of plain data beside the model: an operation hangs on what it looks at alone. No program in sight.
-/
import Derived.Test.YtjbgfhafinfjbaaGreatM10
set_option linter.unusedVariables false
set_option linter.unusedSimpArgs false
namespace Go.Proofs.YtjbgfhafinfjbaaGreat.Mc
open Go.RowKit

section
variable {P : Program}

theorem bndA_f [Bk] [Ev] {ρ ρ' : Operand → AV} {d : Nat} {x : Option Operand} (h : ∀ y, x = some y → ρ' y = ρ y) : bndR ρ' d x = bndR ρ d x := by
  cases x with
  | none => rfl
  | some y => simp only [bndR, h y rfl]

theorem aop_f [Bk] [Ev] {op : Op} {ρ ρ' : Operand → AV} {h : AH} {nx : Nat} (ha : ∀ x ∈ op.operands.toList, ρ' x = ρ x) : aop P op ρ' h nx = aop P op ρ h nx := by
  cases op with
  | build t parts =>
    have : (parts.toList.map fun p => (p.1, ρ' p.2)) = parts.toList.map fun p => (p.1, ρ p.2) := List.map_congr_left fun p hp => by
      rw [ha p.2 (by simp [Op.operands]; exact ⟨p.1, by simpa using hp⟩)]
    simp only [aop, this]
  | buildSlice t len parts =>
    have : (parts.toList.map fun p => (p.1, ρ' p.2)) = parts.toList.map fun p => (p.1, ρ p.2) := List.map_congr_left fun p hp => by
      rw [ha p.2 (by simp [Op.operands]; exact ⟨p.1, by simpa using hp⟩)]
    simp only [aop, this]
  | makeFunc fn first captured =>
    have e1 : first.toList.map ρ' = first.toList.map ρ := List.map_congr_left fun p hp => ha p (by simp [Op.operands]; exact .inl (by simpa using hp))
    have e2 : captured.toList.map ρ' = captured.toList.map ρ := List.map_congr_left fun p hp => ha p (by simp [Op.operands]; exact .inr (by simpa using hp))
    simp only [aop, e1, e2]
  | slice t x lo hi mx =>
    have hx := ha x (by simp [Op.operands])
    have e1 : ∀ d, bndR ρ' d lo = bndR ρ d lo := fun d => bndA_f fun y hy => ha y (by subst hy; simp [Op.operands])
    have e2 : ∀ d, bndR ρ' d hi = bndR ρ d hi := fun d => bndA_f fun y hy => ha y (by subst hy; simp [Op.operands])
    have e3 : ∀ y, hi = some y → ρ' y = ρ y := fun y hy => ha y (by subst hy; simp [Op.operands])
    have e4 : ∀ y, mx = some y → ρ' y = ρ y := fun y hy => ha y (by subst hy; simp [Op.operands])
    simp only [aop, hx, e1, e2]
    cases mx with
    | none => rfl
    | some m =>
      cases lo with
      | some l =>
        cases hi with
        | none => rfl
        | some k =>
          have q1 := e1 0
          have q2 : ∀ n, bndR ρ' n (some k) = bndR ρ n (some k) := fun n => e2 n
          have q3 : ∀ n, bndR ρ' n (some m) = bndR ρ n (some m) := fun n => bndA_f fun y hy => e4 y hy
          simp only [q1, q2, q3]
      | none =>
        cases hi with
        | none => rfl
        | some k => simp only [e3 k rfl, e4 m rfl]
  | call c =>
    obtain ⟨callee, args, argTypes⟩ := c
    cases callee with
    | builtin b =>
      have e : ∀ x ∈ args.toList, ρ' x = ρ x := fun x hx => ha x (by simp [Op.operands, Call.operands]; simpa using hx)
      cases b <;> simp only [aop]
      all_goals (rcases hargs : args.toList with _ | ⟨x, _ | ⟨y, _ | ⟨z, _ | ⟨u, r⟩⟩⟩⟩ <;> rw [hargs] at e <;> simp only [List.mem_cons, List.not_mem_nil, or_false, forall_eq_or_imp, forall_eq, implies_true, false_implies] at e <;> (try simp only [e]) <;> (rcases argTypes.toList with _ | ⟨t1, _ | ⟨t2, _ | ⟨t3, q⟩⟩⟩ <;> (try simp only [e])))
    | _ => simp [aop]
  | pick c x y =>
    have h1 := ha c (by simp [Op.operands]); have h2 := ha x (by simp [Op.operands]); have h3 := ha y (by simp [Op.operands])
    simp only [aop, h1, h2, h3]
  | store t x y =>
    have h1 := ha x (by simp [Op.operands]); have h2 := ha y (by simp [Op.operands])
    simp only [aop, h1, h2]
  | binOp bop t x y ty =>
    have h1 := ha x (by simp [Op.operands]); have h2 := ha y (by simp [Op.operands])
    simp only [aop, h1, h2]
  | makeSlice t x y =>
    have h1 := ha x (by simp [Op.operands]); have h2 := ha y (by simp [Op.operands])
    simp only [aop, h1, h2]
  | range t x => have h1 := ha x (by simp [Op.operands]); simp only [aop, h1]
  | next x str => have h1 := ha x (by simp [Op.operands]); simp only [aop, h1]
  | insert t x k y =>
    have h1 := ha x (by simp [Op.operands]); have h2 := ha k (by simp [Op.operands]); have h3 := ha y (by simp [Op.operands])
    simp only [aop, h1, h2, h3]
  | lookup t x k ok =>
    have h1 := ha x (by simp [Op.operands]); have h2 := ha k (by simp [Op.operands])
    simp only [aop, h1, h2]
  | indexAddr t x y =>
    have h1 := ha x (by simp [Op.operands]); have h2 := ha y (by simp [Op.operands])
    simp only [aop, h1, h2]
  | index t x y =>
    have h1 := ha x (by simp [Op.operands]); have h2 := ha y (by simp [Op.operands])
    simp only [aop, h1, h2]
  | move x => have h1 := ha x (by simp [Op.operands]); simp only [aop, h1]
  | assign x => have h1 := ha x (by simp [Op.operands]); simp only [aop, h1]
  | box e x => have h1 := ha x (by simp [Op.operands]); simp only [aop, h1]
  | load t x => have h1 := ha x (by simp [Op.operands]); simp only [aop, h1]
  | nilCheck x => have h1 := ha x (by simp [Op.operands]); simp only [aop, h1]
  | unOp u t x => have h1 := ha x (by simp [Op.operands]); simp only [aop, h1]
  | convert s d x => have h1 := ha x (by simp [Op.operands]); simp only [aop, h1]
  | makeInterface t x => have h1 := ha x (by simp [Op.operands]); simp only [aop, h1]
  | fieldAddr t x k => have h1 := ha x (by simp [Op.operands]); simp only [aop, h1]
  | field t x k => have h1 := ha x (by simp [Op.operands]); simp only [aop, h1]
  | extract x k => have h1 := ha x (by simp [Op.operands]); simp only [aop, h1]
  | typeAssert x t a ok => have h1 := ha x (by simp [Op.operands]); simp only [aop, h1]
  | _ => simp [aop]

theorem newB_h [Bk] [Ev] {h h' : AH} {nx : Nat} (e : h' nx = h nx) : newB h' nx = newB h nx := by unfold newB; rw [e]
theorem elsA_h [Bk] [Ev] {h h' : AH} {x : AV} (e : ∀ id ∈ idOf x, h' id = h id) : elsA h' x = elsA h x := by
  cases x <;> simp only [elsA]
  rename_i T s id i n
  rw [e id (by simp [idOf])]
theorem baseA_h [Bk] [Ev] {h h' : AH} {e sz : Nat} {x : AV} (hh : ∀ id ∈ idOf x, h' id = h id) : baseA h' e sz x = baseA h e sz x := by
  cases x <;> simp only [baseA]
  rename_i T s id i n
  cases i <;> simp only [baseA]
  rw [hh id (by simp [idOf])]
theorem baseA_rd [Bk] [Ev] {h : AH} {e sz : Nat} {x : AV} {els : List (List AV)} {k : List (Nat × Blk)} {rd : List Nat} (hb : baseA h e sz x = some (els, k, rd)) : rd = idOf x ∧ k.map (·.1) = idOf x := by
  unfold baseA at hb
  split at hb
  · simp only [Option.some.injEq, Prod.mk.injEq] at hb
    obtain ⟨rfl, rfl, rfl⟩ := hb
    exact ⟨rfl, rfl⟩
  · split at hb
    · split at hb
      · simp only [Option.some.injEq, Prod.mk.injEq] at hb
        obtain ⟨rfl, rfl, rfl⟩ := hb
        exact ⟨rfl, rfl⟩
      · cases hb
    · cases hb
  · cases hb

theorem appendA_h [Bk] [Ev] {t : TypeId} {x y : AV} {h h' : AH} {nx : Nat} {r : AR} (hr : appendA P t x y h nx = some r) (hag : ∀ id ∈ r.rds, h' id = h id) : appendA P t x y h' nx = some r := by
  have key : ∀ (e sz : Nat) els k rd ys, baseA h e sz x = some (els, k, rd) → (∀ id ∈ nx :: rd ++ idOf y, h' id = h id) → elsA h y = some ys → baseA h' e sz x = baseA h e sz x ∧ elsA h' y = elsA h y ∧ newB h' nx = newB h nx := by
    intro e sz els k rd ys hb hag hy
    have h1 := (baseA_rd hb).1
    subst h1
    exact ⟨baseA_h fun id hid => hag id (by simp [hid]), elsA_h fun id hid => hag id (by simp [hid]), newB_h (hag nx (by simp))⟩
  unfold appendA at hr ⊢
  split at hr
  · rename_i e he
    split at hr
    · rename_i i hi
      split at hr
      · rename_i z hz
        split at hr
        · rename_i els k rd ys hb hy
          split at hr
          · rename_i hc
            cases hr
            obtain ⟨q1, q2, q3⟩ := key e i.size els k rd ys hb hag hy
            simp only [hi, hz, q1, q2, q3, hb, hy]
            rw [if_pos hc]
          · cases hr
        · cases hr
      · cases hr
    · cases hr
  · cases hr

set_option maxHeartbeats 4000000 in
theorem aop_h [Bk] [Ev] {op : Op} {ρ : Operand → AV} {h h' : AH} {nx : Nat} {r : AR} (hr : aop P op ρ h nx = some r) (hag : ∀ id ∈ r.rds, h' id = h id) : aop P op ρ h' nx = some r := by
  have one : ∀ {id : Nat}, (∀ id' ∈ [id], h' id' = h id') → h' id = h id := fun k => k _ (by simp)
  cases op with
  | alloc e =>
    simp only [aop] at hr ⊢
    repeat' split at hr
    all_goals (first | cases hr | skip)
    have e0 := newB_h (one hag)
    simp_all
  | box e x =>
    simp only [aop] at hr ⊢
    repeat' split at hr
    all_goals (first | cases hr | skip)
    have e0 := newB_h (one hag)
    simp_all
  | buildSlice t len parts =>
    simp only [aop] at hr ⊢
    repeat' split at hr
    all_goals (first | cases hr | skip)
    have e0 := newB_h (one hag)
    simp_all
  | makeSlice t x y =>
    simp only [aop] at hr ⊢
    repeat' split at hr
    all_goals (first | cases hr | skip)
    have e0 := newB_h (one hag)
    simp_all
  | range t x =>
    simp only [aop] at hr ⊢
    repeat' split at hr
    all_goals (first | cases hr | skip)
    have e0 := newB_h (one hag)
    simp_all
  | makeMap t rs =>
    simp only [aop] at hr ⊢
    repeat' split at hr
    all_goals (first | cases hr | skip)
    have e0 := newB_h (one hag)
    simp_all
  | next x str =>
    simp only [aop] at hr ⊢
    repeat' split at hr
    all_goals (first | cases hr | skip)
    all_goals (have e0 := one hag; simp_all)
  | insert t x k y =>
    simp only [aop] at hr ⊢
    repeat' split at hr
    all_goals (first | cases hr | skip)
    have e0 := one hag; simp_all
  | lookup t x k ok =>
    simp only [aop] at hr ⊢
    repeat' split at hr
    all_goals (first | cases hr | skip)
    all_goals (have e0 := one hag; simp_all)
  | load t x =>
    simp only [aop] at hr ⊢
    repeat' split at hr
    all_goals (first | cases hr | skip)
    · have e0 := one hag; simp_all
    · simp_all
  | store t x y =>
    simp only [aop] at hr ⊢
    repeat' split at hr
    all_goals (first | cases hr | skip)
    have e0 := one hag
    simp_all
  | nilCheck x =>
    simp only [aop] at hr ⊢
    repeat' split at hr
    all_goals (first | cases hr | skip)
    · have e0 := one hag; simp_all
    all_goals simp_all
  | fieldAddr t x k =>
    simp only [aop] at hr ⊢
    repeat' split at hr
    all_goals (first | cases hr | skip)
    · have e0 := one hag; simp_all
    all_goals simp_all
  | indexAddr t x ix =>
    simp only [aop] at hr ⊢
    repeat' split at hr
    all_goals (first | cases hr | skip)
    · simp_all
    · have e0 := one hag; simp_all
    · have e0 := one hag; simp_all
    · simp_all
    · have e0 := one hag; simp_all
    · simp_all
  | slice t x lo hi mx =>
    simp only [aop] at hr ⊢
    split at hr
    · repeat' split at hr
      all_goals (first | cases hr | skip)
      · have e0 := elsA_h (x := ρ x) hag
        simp_all
      · have e0 := one hag
        simp_all
      · have e0 := one hag
        simp_all
      · simp_all
    · repeat' split at hr
      all_goals (first | cases hr | skip)
      · simp_all
      · have e0 := one hag; simp_all
      · simp_all
  | call c =>
    obtain ⟨callee, args, argTypes⟩ := c
    cases callee with
    | builtin b =>
      cases b with
      | append =>
        simp only [aop] at hr ⊢
        split at hr
        · split at hr
          · rename_i x y t t' h1 h2 e
            first | (rw [if_pos e]; exact appendA_h hr hag) | (rw [h1, h2]; simp only; rw [if_pos e]; exact appendA_h hr hag)
          · cases hr
        · cases hr
      | len =>
        simp only [aop] at hr ⊢
        repeat' split at hr
        all_goals (first | cases hr | skip)
        · rename_i x t h1 h2 _ e hu _ els he
          have e0 := elsA_h (x := ρ x) hag
          simp_all
        · simp_all [elsA]
        · simp_all [elsA]
        · simp_all
      | max => exact hr
      | min => exact hr
      | clear =>
        simp only [aop] at hr ⊢
        repeat' split at hr
        all_goals (first | cases hr | skip)
        · rename_i x t h1 h2 _ e hu _ els he _
          have e0 := elsA_h (x := ρ x) hag
          simp_all
        · have e0 := one hag
          simp_all [elsA]
      | _ => simp [aop] at hr
    | _ => simp [aop] at hr
  | _ => exact hr

theorem aop_ups [Bk] [Ev] {op : Op} {ρ : Operand → AV} {h : AH} {nx : Nat} {r : AR} (hr : aop P op ρ h nx = some r) : ∀ id ∈ r.ups.map (·.1), id ∈ r.rds := by
  cases op with
  | call c =>
    obtain ⟨callee, args, argTypes⟩ := c
    cases callee with
    | builtin b =>
      cases b with
      | append =>
        simp only [aop] at hr
        split at hr
        · split at hr
          · unfold appendA at hr
            repeat' split at hr
            all_goals (first | cases hr | skip)
            rename_i hb _ _
            obtain ⟨q1, q2⟩ := baseA_rd hb
            intro id hid
            simp only [List.map_append, List.mem_append, q2, List.map_cons, List.map_nil, List.mem_singleton] at hid
            rcases hid with h | h
            · simp [q1, h]
            · simp [h]
          · cases hr
        · cases hr
      | _ =>
        simp only [aop] at hr
        try (repeat' split at hr)
        all_goals (first | cases hr | skip)
        all_goals simp
    | _ => simp [aop] at hr
  | _ =>
    simp only [aop] at hr
    try (repeat' split at hr)
    all_goals (first | cases hr | skip)
    all_goals simp
end
end Go.Proofs.YtjbgfhafinfjbaaGreat.Mc
