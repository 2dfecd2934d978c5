/-
  A machine of plain data beside the model: a run out of nothing, as a contract. No program in sight.
-/
import Derived.Test.YtjdofncchfbkmaaM14
set_option linter.unusedVariables false
set_option linter.unusedSimpArgs false
namespace Go.Proofs.Ytjdofncchfbkmaa.Mc
open Go.RowKit

section
variable {P : Program}
theorem HRel.empty [Bk] [Ev] (w : World) : HRel (fun _ => .no) (fun _ => False) (fun _ => .no) w where
  out := fun _ _ h => by cases h
  old := fun _ h => h.elim
  no := fun _ _ => rfl
  dead := fun _ h => by cases h
  cells := fun _ _ _ _ h => by cases h
  inj := fun _ _ _ h => by cases h
theorem Ext.below [Bk] [Ev] {m m' : Nat → St} {w w' : World} (h : Ext m w m' w') (hm : ∀ id b, m id ≠ .at b) : Below w.heap.size w w' :=
  ⟨h.os, h.tape, h.output, h.size, fun k hk => (h.un k hk fun id => hm id k).2⟩
/-- What the machine says of a call on plain data, said of the model. -/
theorem ACalls.plain [Bk] [Ev] {k : FuncId} {args : List AV} {R : AV → AH → Prop} (h : ACalls P k args (fun _ => .no) R) (vs : Array Value) (hl : vs.size = args.length) (w : World) (hv : ∀ (i : Nat) (x : AV), args[i]? = some x → RdL (fun _ => False) w x (vs.getD i Go.undef)) :
    Calls P k vs w fun e w' => ∃ v u m' h', e = .returned v ∧ R u h' ∧ Rd m' (fun _ => False) w' u v ∧ HRel m' (fun _ => False) h' w' ∧ Below w.heap.size w w' := by
  refine (h (fun _ => .no) (fun _ => False) w vs (HRel.empty w) hl fun i x hx => .pure _ _ ((hv i x hx).mono (Nat.le_refl _) fun b _ _ => ⟨?_, rfl⟩)).mono ?_
  · rintro (h | ⟨id, h⟩)
    · exact h
    · cases h
  · rintro e w' ⟨v, u, m', h', h1, h2, h3, h4, h5⟩
    exact ⟨v, u, m', h', h1, h2, h4, h3, h5.below fun id b h => by cases h⟩
theorem leaf_get : Tr.leaf.get = fun _ => Blk.no := by funext j; exact @Tr.get_leaf bk0 ev0 j
theorem ext0 : @ExtOk bk0 ev0 P := fun k ps rs h => absurd h List.not_mem_nil
/-- A run that says yes, out of nothing: the call says yes, and makes but new memory. -/
theorem yes_calls {L d : Nat} {k : FuncId} (h : saysYes (@acallT bk0 P L d k [] .leaf 0) = true) (w : World) : Calls P k #[] w fun e w' => e = .returned (.bool true) ∧ Below w.heap.size w w' := by
  obtain ⟨h', hc⟩ := @saysYes_ok P bk0 ev0 ext0 L d k [] .leaf 0 h
  rw [leaf_get] at hc
  refine (@ACalls.plain P bk0 ev0 k [] _ hc #[] rfl w (by intro i x hx; simp at hx)).mono ?_
  rintro e w' ⟨v, u, m', h'', rfl, ⟨rfl, -⟩, hr, -, hb⟩
  exact ⟨by rw [@Rd.c_inv bk0 ev0 _ _ _ _ _ hr], hb⟩
/-- A run that says yes, by names. -/
theorem yes_calls_by [Bk] [Ev] (hX : ExtOk P) {L d : Nat} {k : FuncId} {args : List AV} (h : saysYes (acallT P L d k args .leaf 0) = true) (vs : Array Value) (hl : vs.size = args.length) (w : World) (hv : ∀ (i : Nat) (x : AV), args[i]? = some x → RdL (fun _ => False) w x (vs.getD i Go.undef)) :
    Calls P k vs w fun e w' => e = .returned (.bool true) ∧ Below w.heap.size w w' := by
  obtain ⟨h', hc⟩ := saysYes_ok hX h
  rw [leaf_get] at hc
  refine (hc.plain vs hl w hv).mono ?_
  rintro e w' ⟨v, u, m', h'', rfl, ⟨rfl, -⟩, hr, -, hb⟩
  exact ⟨by rw [hr.c_inv], hb⟩
end
end Go.Proofs.Ytjdofncchfbkmaa.Mc
