/-
  'q, v, p = append(q, x.a), append(v, x.b), append(p, x.c)': one region that draws its order: what each of its operations leaves.
-/
import Derived.Test.YtgahhifedgmicaaRegion
import Derived.Test.YtgahhifedgmicaaOwn
import Derived.Deep.AppendLies
set_option linter.unusedVariables false
namespace Go.Proofs.Ytgahhifedgmicaa
open Go.RowKit

/-- Rows that lie in different blocks, or are nil. -/
def Apart (a b : Value) : Prop := a.ownBlock = none ∨ a.ownBlock ≠ b.ownBlock

theorem wp_yield {P : Program} {o : Oper} {a : Act} {w w' : World} {K : Act → World → Prop} {Q : Exit → Act → World → Prop} {v : Value} (h : (execOp a.eval o).run P w = .ok (.value v) w') (hK : K (a.put o.dst v) w') : o.wp P a w K Q := by
  unfold Oper.wp
  rw [h]
  exact hK

theorem grown_refl (w : World) (r : Option Nat) : w.grownBy w r := ⟨rfl, rfl, rfl, Nat.le_refl _, fun _ _ _ => rfl⟩
theorem grown_drew (w : World) (r : Option Nat) : w.grownBy w.drew r := ⟨rfl, rfl, rfl, Nat.le_refl _, fun _ _ _ => rfl⟩
theorem grown_alloc (w : World) (o : Obj) (r : Option Nat) : w.grownBy (w.alloc o) r := ⟨rfl, rfl, rfl, by simp, fun k hk _ => Below.heap_alloc _ _ _ hk⟩

theorem OwnI.kept {w w' : World} {B : Nat} {e : TypeId} {k : Nat} {v : Value} {n : Nat} {zs : List Int} {r : Option Nat} (h : OwnI w B e k v n zs) (g : w.grownBy w' r) (hne : v.ownBlock = none ∨ v.ownBlock ≠ r) : OwnI w' B e k v n zs := World.ownsRow.kept h g hne

/-- One number, in a block of its own, laid since H0. -/
def Lit (w : World) (H0 : Nat) (v : Value) (x : Int) : Prop := ∃ L, v = .slice (some ⟨L, 0, none⟩) 1 1 ∧ H0 ≤ L ∧ L < w.heap.size ∧ CellsAt w L 0 [x]
/-- A row that has grown: in its old block, or in one laid since H0. -/
def Grew (w : World) (B e n H0 : Nat) (a : Value) (zs : List Int) (v : Value) : Prop := OwnI w B e 1 v n zs ∧ ∃ g, v.ownBlock = some g ∧ (a.ownBlock = some g ∨ H0 ≤ g) ∧ g < w.heap.size

theorem Lit.kept {w w' : World} {H0 : Nat} {v : Value} {x : Int} {r : Option Nat} (h : Lit w H0 v x) (g : w.grownBy w' r) (hr : ∀ k, r = some k → k < H0) : Lit w' H0 v x := by
  obtain ⟨L, e, h1, h2, h3⟩ := h
  refine ⟨L, e, h1, Nat.lt_of_lt_of_le h2 g.size, fun i hi => ?_⟩
  rw [World.cell?_of_block (g.block L h2 (fun e => by have := hr L e.symm; omega))]
  exact h3 i hi
theorem Grew.kept {w w' : World} {B e n H0 : Nat} {a : Value} {zs : List Int} {v : Value} {r : Option Nat} (h : Grew w B e n H0 a zs v) (g : w.grownBy w' r) (hr : ∀ k, r = some k → k < H0) (hne : a.ownBlock = none ∨ a.ownBlock ≠ r) : Grew w' B e n H0 a zs v := by
  obtain ⟨h1, k, h2, h3, h4⟩ := h
  refine ⟨h1.kept g ?_, k, h2, h3, Nat.lt_of_lt_of_le h4 g.size⟩
  right
  rw [h2]
  intro e
  rcases h3 with h3 | h3
  · rcases hne with hne | hne
    · rw [hne] at h3; cases h3
    · rw [h3] at hne; exact hne e
  · have := hr k e.symm; omega

/-- What is known all the time. -/
structure App3S (B e H0 X o0 o1 o2 j : Nat) (a b c : Value) (A Bs C : List Int) (x y z : Int) (B0 : Nat) (W1 : World) (L : Nat → Bool) (w : World) : Prop where
  h0 : H0 ≤ w.heap.size
  cx : w.cell? ⟨X, o0, none⟩ = some (.int .i64 x)
  cy : w.cell? ⟨X, o1, none⟩ = some (.int .i64 y)
  cz : w.cell? ⟨X, o2, none⟩ = some (.int .i64 z)
  bel : Below B0 W1 w
  a : L 4 = false → OwnI w B e 1 a j A
  b : L 9 = false → OwnI w B e 1 b j Bs
  c : L 14 = false → OwnI w B e 1 c j C

def App3Φ (B e H0 X o0 o1 o2 j : Nat) (a b c : Value) (A Bs C : List Int) (x y z : Int) : Nat → (Nat → Value) → World → Prop
  | 0, u, _ => u 0 = a
  | 1, u, _ => u 1 = .pointer (some ⟨X, o0, none⟩)
  | 2, u, _ => u 2 = .int .i64 x
  | 3, u, w => Lit w H0 (u 3) x
  | 4, u, w => Grew w B e (j + 1) H0 a (A ++ [x]) (u 4)
  | 5, u, _ => u 5 = b
  | 6, u, _ => u 6 = .pointer (some ⟨X, o1, none⟩)
  | 7, u, _ => u 7 = .int .i64 y
  | 8, u, w => Lit w H0 (u 8) y
  | 9, u, w => Grew w B e (j + 1) H0 b (Bs ++ [y]) (u 9) ∧ (u 4).ownBlock ≠ (u 9).ownBlock
  | 10, u, _ => u 10 = c
  | 11, u, _ => u 11 = .pointer (some ⟨X, o2, none⟩)
  | 12, u, _ => u 12 = .int .i64 z
  | 13, u, w => Lit w H0 (u 13) z
  | 14, u, w => Grew w B e (j + 1) H0 c (C ++ [z]) (u 14) ∧ (u 4).ownBlock ≠ (u 14).ownBlock ∧ (u 9).ownBlock ≠ (u 14).ownBlock
  | 15, u, _ => u 15 = u 4
  | 16, u, _ => u 16 = u 9
  | 17, u, _ => u 17 = u 14
  | _, _, _ => True

/-- Whose block r is: none's, or the row's that op i appends to. -/
structure Touch (H0 : Nat) (a b c : Value) (i : Nat) (r : Option Nat) : Prop where
  lt : ∀ k, r = some k → k < H0
  a : i ≠ 4 → a.ownBlock = none ∨ a.ownBlock ≠ r
  b : i ≠ 9 → b.ownBlock = none ∨ b.ownBlock ≠ r
  c : i ≠ 14 → c.ownBlock = none ∨ c.ownBlock ≠ r

theorem App3.stab {B e H0 X o0 o1 o2 j : Nat} {a b c : Value} {A Bs C : List Int} {x y z : Int} {i : Nat} {r : Option Nat} {w w' : World} (g : w.grownBy w' r) (t : Touch H0 a b c i r) :
    ∀ k (u : Nat → Value), k ≠ i → App3Φ B e H0 X o0 o1 o2 j a b c A Bs C x y z k u w → App3Φ B e H0 X o0 o1 o2 j a b c A Bs C x y z k u w' := by
  intro k u hk h
  match k, hk, h with
  | 0, _, h => exact h
  | 1, _, h => exact h
  | 2, _, h => exact h
  | 3, _, h => exact Lit.kept h g t.lt
  | 4, hk, h => exact Grew.kept h g t.lt (t.a (Ne.symm hk))
  | 5, _, h => exact h
  | 6, _, h => exact h
  | 7, _, h => exact h
  | 8, _, h => exact Lit.kept h g t.lt
  | 9, hk, h => exact ⟨Grew.kept h.1 g t.lt (t.b (Ne.symm hk)), h.2⟩
  | 10, _, h => exact h
  | 11, _, h => exact h
  | 12, _, h => exact h
  | 13, _, h => exact Lit.kept h g t.lt
  | 14, hk, h => exact ⟨Grew.kept h.1 g t.lt (t.c (Ne.symm hk)), h.2⟩
  | 15, _, h => exact h
  | 16, _, h => exact h
  | 17, _, h => exact h
  | k + 18, _, h => exact h
theorem App3.dep {B e H0 X o0 o1 o2 j : Nat} {a b c : Value} {A Bs C : List Int} {x y z : Int} {ops : Array Oper} {D : Nat} (h9 : 4 ∈ ancOf ops D 9) (h14 : 4 ∈ ancOf ops D 14) (h14' : 9 ∈ ancOf ops D 14) (h15 : 4 ∈ ancOf ops D 15) (h16 : 9 ∈ ancOf ops D 16) (h17 : 14 ∈ ancOf ops D 17) :
    ∀ k u u' w, (∀ m, m = k ∨ m ∈ ancOf ops D k → u m = u' m) → App3Φ B e H0 X o0 o1 o2 j a b c A Bs C x y z k u w → App3Φ B e H0 X o0 o1 o2 j a b c A Bs C x y z k u' w := by
  intro k u u' w hu h
  have s := hu k (.inl rfl)
  match k, hu, s, h with
  | 0, _, s, h => simp only [App3Φ] at h ⊢; rw [← s]; exact h
  | 1, _, s, h => simp only [App3Φ] at h ⊢; rw [← s]; exact h
  | 2, _, s, h => simp only [App3Φ] at h ⊢; rw [← s]; exact h
  | 3, _, s, h => simp only [App3Φ] at h ⊢; rw [← s]; exact h
  | 4, _, s, h => simp only [App3Φ] at h ⊢; rw [← s]; exact h
  | 5, _, s, h => simp only [App3Φ] at h ⊢; rw [← s]; exact h
  | 6, _, s, h => simp only [App3Φ] at h ⊢; rw [← s]; exact h
  | 7, _, s, h => simp only [App3Φ] at h ⊢; rw [← s]; exact h
  | 8, _, s, h => simp only [App3Φ] at h ⊢; rw [← s]; exact h
  | 9, hu, s, h => simp only [App3Φ] at h ⊢; rw [← s, ← hu 4 (.inr h9)]; exact h
  | 10, _, s, h => simp only [App3Φ] at h ⊢; rw [← s]; exact h
  | 11, _, s, h => simp only [App3Φ] at h ⊢; rw [← s]; exact h
  | 12, _, s, h => simp only [App3Φ] at h ⊢; rw [← s]; exact h
  | 13, _, s, h => simp only [App3Φ] at h ⊢; rw [← s]; exact h
  | 14, hu, s, h => simp only [App3Φ] at h ⊢; rw [← s, ← hu 4 (.inr h14), ← hu 9 (.inr h14')]; exact h
  | 15, hu, s, h => simp only [App3Φ] at h ⊢; rw [← s, ← hu 4 (.inr h15)]; exact h
  | 16, hu, s, h => simp only [App3Φ] at h ⊢; rw [← s, ← hu 9 (.inr h16)]; exact h
  | 17, hu, s, h => simp only [App3Φ] at h ⊢; rw [← s, ← hu 14 (.inr h17)]; exact h
  | k + 18, _, _, h => exact h

/-- The condition stands behind an operation that lays blocks or writes to one row. -/
theorem App3S.kept {B e H0 X o0 o1 o2 j : Nat} {a b c : Value} {A Bs C : List Int} {x y z : Int} {B0 : Nat} {W1 : World} {L : Nat → Bool} {w w' : World} {i : Nat} {r : Option Nat}
    (h : App3S B e H0 X o0 o1 o2 j a b c A Bs C x y z B0 W1 L w) (g : w.grownBy w' r) (t : Touch H0 a b c i r) (hX : ∀ k, r = some k → k ≠ X ∧ B0 ≤ k) (hXs : X < H0) (hB0 : B0 ≤ H0) :
    App3S B e H0 X o0 o1 o2 j a b c A Bs C x y z B0 W1 (fun k => if k = i then true else L k) w' := by
  have cell : ∀ k, w'.cell? ⟨X, k, none⟩ = w.cell? ⟨X, k, none⟩ := fun k =>
    World.cell?_of_block (g.block X (by have := h.h0; omega) (fun e => (hX X e.symm).1 rfl))
  refine ⟨Nat.le_trans h.h0 g.size, by rw [cell]; exact h.cx, by rw [cell]; exact h.cy, by rw [cell]; exact h.cz, ?_, fun hl => ?_, fun hl => ?_, fun hl => ?_⟩
  · exact h.bel.grown g (Nat.le_trans hB0 h.h0) (fun k hk => (hX k hk).2)
  · by_cases hi : 4 = i
    · simp [hi] at hl
    · rw [if_neg hi] at hl; exact (h.a hl).kept g (t.a (Ne.symm hi))
  · by_cases hi : 9 = i
    · simp [hi] at hl
    · rw [if_neg hi] at hl; exact (h.b hl).kept g (t.b (Ne.symm hi))
  · by_cases hi : 14 = i
    · simp [hi] at hl
    · rw [if_neg hi] at hl; exact (h.c hl).kept g (t.c (Ne.symm hi))
theorem touch_idle (H0 : Nat) (a b c : Value) (i : Nat) : Touch H0 a b c i Option.none :=
  ⟨fun k h => by simp at h, fun _ => by cases h : a.ownBlock <;> simp, fun _ => by cases h : b.ownBlock <;> simp, fun _ => by cases h : c.ownBlock <;> simp⟩
theorem App3S.idle {B e H0 X o0 o1 o2 j : Nat} {a b c : Value} {A Bs C : List Int} {x y z : Int} {B0 : Nat} {W1 : World} {L : Nat → Bool} {w w' : World} {i : Nat}
    (h : App3S B e H0 X o0 o1 o2 j a b c A Bs C x y z B0 W1 L w) (g : w.grownBy w' Option.none) (hXs : X < H0) (hB0 : B0 ≤ H0) :
    App3S B e H0 X o0 o1 o2 j a b c A Bs C x y z B0 W1 (fun k => if k = i then true else L k) w' := h.kept g (touch_idle _ _ _ _ i) (fun k hk => by simp at hk) hXs hB0

/-- Where the rows lie as the region begins. -/
structure App3R (B H0 X : Nat) (a b c : Value) : Prop where
  ra : ∀ k, a.ownBlock = some k → B ≤ k ∧ k < X
  rb : ∀ k, b.ownBlock = some k → B ≤ k ∧ k < X
  rc : ∀ k, c.ownBlock = some k → B ≤ k ∧ k < X
  x : X < H0
  ab : Apart a b
  ac : Apart a c
  bc : Apart b c
  ba : Apart b a
  ca : Apart c a
  cb : Apart c b
theorem App3R.t4 {B H0 X : Nat} {a b c : Value} (h : App3R B H0 X a b c) : Touch H0 a b c 4 a.ownBlock :=
  ⟨fun k hk => by have := h.ra k hk; have := h.x; omega, fun e => absurd rfl e, fun _ => h.ba, fun _ => h.ca⟩
theorem App3R.t9 {B H0 X : Nat} {a b c : Value} (h : App3R B H0 X a b c) : Touch H0 a b c 9 b.ownBlock :=
  ⟨fun k hk => by have := h.rb k hk; have := h.x; omega, fun _ => h.ab, fun e => absurd rfl e, fun _ => h.cb⟩
theorem App3R.t14 {B H0 X : Nat} {a b c : Value} (h : App3R B H0 X a b c) : Touch H0 a b c 14 c.ownBlock :=
  ⟨fun k hk => by have := h.rc k hk; have := h.x; omega, fun _ => h.ac, fun _ => h.bc, fun e => absurd rfl e⟩

/-- A row that grew now, and one that grew before, lie in different blocks. -/
theorem grew_apart {w w1 : World} {B e n m H0 : Nat} {a b : Value} {zs ys : List Int} {v v' : Value} (h : Grew w B e n H0 a zs v) (hg : ∃ g, v'.ownBlock = some g ∧ (b.ownBlock = some g ∨ g = w.heap.size)) (hab : Apart a b) (hb : ∀ k, b.ownBlock = some k → k < H0) : v.ownBlock ≠ v'.ownBlock := by
  obtain ⟨-, g1, e1, h1, h2⟩ := h
  obtain ⟨g2, e2, h3⟩ := hg
  rw [e1, e2]
  intro e
  cases e
  rcases h3 with h3 | h3
  · rcases h1 with h1 | h1
    · rcases hab with hab | hab
      · rw [hab] at h1; cases h1
      · exact hab (h1.trans h3.symm)
    · have := hb _ h3; omega
  · omega

/-- 'append(l, x)', x in a block of its own: at the operation. -/
theorem wp_push {P : Program} (w : World) {o : Oper} {a : Act} {K : Act → World → Prop} {Q : Exit → Act → World → Prop} (s x : Operand) (t : TypeId)
    (ho : o.op = .call { callee := .builtin .append, args := #[s, x], argTypes := #[t, t] })
    (B e H0 : Nat) (E : Elem P t e 1) (v : Value) (n : Nat) (zs : List Int) (hs : a.eval s = v) (hown : OwnI w B e 1 v n zs)
    (lv : Value) (y : Int) (hx : a.eval x = lv) (hl : Lit w H0 lv y) (hn : (n + 1) * 8 ≤ 140737488355328) (hB : B ≤ w.heap.size) (hH : H0 ≤ w.heap.size)
    (h : ∀ v' w', Grew w' B e (n + 1) H0 v (zs ++ [y]) v' → w.grownBy w' v.ownBlock → (∃ g, v'.ownBlock = some g ∧ (v.ownBlock = some g ∨ g = w.heap.size)) → K (a.put o.dst v') w') : o.wp P a w K Q := by
  obtain ⟨ht, ⟨i, z, hi, hz, hsize, hby, hzs⟩, hp⟩ := E
  obtain ⟨L, rfl, hL0, hL1, hc⟩ := hl
  have c0 := hc 0 (by simp)
  refine wp_append_lies w s x t ho B e i z 1 (1 * 8) ht hi hz hsize hby hzs hp v n (ints zs) hs hown ⟨L, 0, none⟩ 1 1 [.int .i64 y] hx rfl ?_ ?_ (by omega) (by unfold maxLen; omega) (by omega) hB w.heap.size rfl ?_
  · intro j u hj
    match j, hj with
    | 0, hj => simp at hj; subst hj; simpa [Addr.add] using c0
    | j + 1, hj => simp at hj
  · intro u hu; simp at hu; subst hu; rfl
  · intro g cap w' hown' hg hat hlt
    refine h _ _ ⟨?_, g, rfl, ?_, hlt⟩ hg ⟨g, rfl, hat⟩
    · rw [OwnI, ints_append]; exact hown'
    · exact hat.imp id fun e => by omega
end Go.Proofs.Ytgahhifedgmicaa
