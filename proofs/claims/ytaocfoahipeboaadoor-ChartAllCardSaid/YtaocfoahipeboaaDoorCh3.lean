/-
  chart.Find and the document's Find, at any text: the account of that name, or none.
-/
import Derived.Test.YtaocfoahipeboaaDoorCh2
set_option linter.unusedVariables false
set_option linter.unusedSimpArgs false
namespace Go.Proofs.YtaocfoahipeboaaDoor
open Go.RowKit Mc

def chNm (i : Nat) : ByteArray := ⟨(chNames.getD i []).toArray⟩
abbrev co0 : Bk := { extV := chKn, glob := chGlob }
set_option maxRecDepth 1000000 in
theorem of_runs : (List.range 17).all (fun i => @runsTo co0 Tryd.prog 100000 60 16 [.c (.int .i64 i)] (.c (.string (chNm i)))) = true := by decide +kernel
set_option maxRecDepth 1000000 in
theorem rn_runs : (List.range 17).all (fun i => @runsTo co0 Tryd.prog 100000 60 10 [.c (.int .i64 i)] (.c (.string (chNm i)))) = true := by decide +kernel
theorem ChTab.below {w w' : World} (h : ChTab w) (g : Below w.heap.size w w') : ChTab w' := fun j v hv => (g.cell (p := ⟨0, j, none⟩) h.lt).trans (h j v hv)
theorem ch_run {f : FuncId} {i : Nat} (h : @runsTo co0 Tryd.prog 100000 60 f [.c (.int .i64 i)] (.c (.string (chNm i))) = true) (w : World) (hT : ChTab w) :
    Calls Tryd.prog f #[.int .i64 i] w fun e w' => e = .returned (.string (chNm i)) ∧ Below w.heap.size w w' := by
  let ev : @Ev co0 := evOf co0 [] rfl .nil .nil
  refine (kn_of co0 ev co0 ev rfl h (@ExtL.nil _ co0 ev) (@YesL.nil _ co0 ev) (@ch_known co0 ev rfl) rfl rfl chA w #[.int .i64 i] (fun b hb => hb ▸ hT.lt) (@ChTab.gok co0 w hT rfl) rfl ?_).mono ?_
  · intro j x hx
    rcases j with _ | j
    · cases hx; exact @RdL.c co0 ev _ _ _
    · simp at hx
  · rintro e w' ⟨v, rfl, hr, hb⟩
    cases hr
    exact ⟨rfl, hb⟩
theorem of_calls (i : Nat) (hi : i < 17) (w : World) (hT : ChTab w) : Calls Tryd.prog 16 #[.int .i64 i] w fun e w' => e = .returned (.string (chNm i)) ∧ Below w.heap.size w w' :=
  ch_run (List.all_eq_true.1 of_runs i (List.mem_range.2 hi)) w hT
theorem rn_calls (i : Nat) (hi : i < 17) (w : World) (hT : ChTab w) : Calls Tryd.prog 10 #[.int .i64 i] w fun e w' => e = .returned (.string (chNm i)) ∧ Below w.heap.size w w' :=
  ch_run (List.all_eq_true.1 rn_runs i (List.mem_range.2 hi)) w hT

/-- What is found. -/
def FindR (s : ByteArray) (r : Int) (b : Bool) : Prop := (b = true ∧ ∃ i : Nat, i < 17 ∧ r = i ∧ s = chNm i) ∨ (b = false ∧ r = 0 ∧ ∀ i : Nat, i < 17 → s ≠ chNm i)

theorem str_ne {a b : ByteArray} (h : ¬ a = b) : (a.toList == b.toList) = false := by
  rw [beq_eq_false_iff_ne]
  intro e
  rw [ByteArray.toList_eq, ByteArray.toList_eq] at e
  exact h (ByteArray.ext (Array.ext' e))

set_option maxHeartbeats 800000 in
theorem chart_Find (s : ByteArray) (w : World) (hT : ChTab w) :
    Calls Tryd.prog 7 #[.string s] w fun e w' => (∃ r b, e = .returned (.tuple #[.int .i64 r, .bool b]) ∧ FindR s r b) ∧ Below w.heap.size w w' := by
  go_enter Tryd.func7, Tryd.ntmps7
  go_wp2
  go_loopw [5] (fun i wr => ∃ k : Nat, k ≤ 17 ∧ i = .int .i64 k ∧ Below w.heap.size w wr ∧ Hid (∀ j : Nat, j < k → s ≠ chNm j)) (fun i _ => 17 - (intOf i).toNat)
  case atStart => exact ⟨0, by omega, rfl, Below.refl _ _, fun j hj => absurd hj (by omega)⟩
  case round =>
    obtain ⟨k, hk, rfl, hB, H⟩ := hrel
    by_cases hlt : k < 17
    · have hlt' : (k : Int) < 17 := by omega
      by_cases hs : chNm k = s
      · subst hs
        go_wp2_with (go_at_call 16; refine (of_calls k hlt _ (hT.below hB)).mono ?_; rintro e w' ⟨rfl, hw1⟩)
        go_ret2
        exact ⟨⟨k, true, rfl, .inl ⟨rfl, k, hlt, rfl, rfl⟩⟩, hB.trans (hw1.mono hB.size)⟩
      · have hne := str_ne hs
        go_wp2_with (go_at_call 16; refine (of_calls k hlt _ (hT.below hB)).mono ?_; rintro e w' ⟨rfl, hw1⟩)
        go_round
        case rel =>
          refine ⟨k + 1, by omega, by go_num, hB.trans (hw1.mono hB.size), fun j hj => ?_⟩
          rcases Nat.lt_or_ge j k with h | h
          · exact H.out j h
          · obtain rfl : j = k := by omega
            exact fun e => hs e.symm
        case measure => simp [intOf]; omega
    · have hlt' : ¬ (k : Int) < 17 := by omega
      obtain rfl : k = 17 := by omega
      go_wp2
      go_ret2
      exact ⟨⟨0, .inl ⟨rfl, .inr ⟨rfl, rfl, fun i hi => H.out i hi⟩⟩⟩, hB⟩


set_option maxHeartbeats 800000 in
theorem ref_Find (s : ByteArray) (w : World) (hT : ChTab w) :
    Calls Tryd.prog 8 #[.string s] w fun e w' => (∃ r b, e = .returned (.tuple #[.int .i64 r, .bool b]) ∧ FindR s r b) ∧ Below w.heap.size w w' := by
  go_enter Tryd.func8, Tryd.ntmps8
  go_wp2
  go_loopw [4] (fun i wr => ∃ k : Nat, k ≤ 17 ∧ i = .int .i64 k ∧ Below w.heap.size w wr ∧ Hid (∀ j : Nat, j < k → s ≠ chNm j)) (fun i _ => 17 - (intOf i).toNat)
  case atStart => exact ⟨0, by omega, rfl, Below.refl _ _, fun j hj => absurd hj (by omega)⟩
  case round =>
    obtain ⟨k, hk, rfl, hB, H⟩ := hrel
    by_cases hlt : k < 17
    · have hlt' : (k : Int) < 17 := by omega
      by_cases hs : chNm k = s
      · subst hs
        go_wp2_with (go_at_call 10; refine (rn_calls k hlt _ (hT.below hB)).mono ?_; rintro e w' ⟨rfl, hw1⟩)
        go_ret2
        exact ⟨⟨k, true, rfl, .inl ⟨rfl, k, hlt, rfl, rfl⟩⟩, hB.trans (hw1.mono hB.size)⟩
      · have hne := str_ne hs
        go_wp2_with (go_at_call 10; refine (rn_calls k hlt _ (hT.below hB)).mono ?_; rintro e w' ⟨rfl, hw1⟩)
        go_round
        case rel =>
          refine ⟨k + 1, by omega, by go_num, hB.trans (hw1.mono hB.size), fun j hj => ?_⟩
          rcases Nat.lt_or_ge j k with h | h
          · exact H.out j h
          · obtain rfl : j = k := by omega
            exact fun e => hs e.symm
        case measure => simp [intOf]; omega
    · have hlt' : ¬ (k : Int) < 17 := by omega
      obtain rfl : k = 17 := by omega
      go_wp2
      go_ret2
      exact ⟨⟨0, .inl ⟨rfl, .inr ⟨rfl, rfl, fun i hi => H.out i hi⟩⟩⟩, hB⟩

end Go.Proofs.YtaocfoahipeboaaDoor
