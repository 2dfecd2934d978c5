/-
  The accounts' names; strings.Fields of them all, as a known call of data.
-/
import Derived.Test.YtaocfoahipeboaaDoorCalls
import Derived.Test.YtaocfoahipeboaaDoorChShelf
set_option linter.unusedVariables false
set_option linter.unusedSimpArgs false
namespace Go.Proofs.YtaocfoahipeboaaDoor
open Go.RowKit Mc

/-- All names in one text; each. -/
abbrev chAll : ByteArray := ⟨#[105, 110, 118, 101, 110, 116, 111, 114, 121, 32, 103, 114, 110, 105, 32, 112, 97, 121, 97, 98, 108, 101, 32, 114, 101, 99, 101, 105, 118, 97, 98, 108, 101, 32, 115, 97, 108, 101, 115, 32, 99, 111, 103, 115, 32, 112, 114, 105, 99, 101, 118, 97, 114, 32, 115, 99, 114, 97, 112, 32, 99, 111, 117, 110, 116, 108, 111, 115, 115, 32, 108, 97, 110, 100, 101, 100, 32, 119, 114, 105, 116, 101, 100, 111, 119, 110, 32, 97, 108, 108, 111, 119, 97, 110, 99, 101, 32, 105, 110, 116, 114, 97, 110, 115, 105, 116, 32, 103, 114, 111, 117, 112, 114, 101, 99, 32, 103, 114, 111, 117, 112, 112, 97, 121, 32, 103, 114, 111, 117, 112, 115, 97, 108, 101, 115, 32, 103, 114, 111, 117, 112, 99, 111, 103, 115]⟩
def chNames : List (List UInt8) := [[105, 110, 118, 101, 110, 116, 111, 114, 121] , [103, 114, 110, 105] , [112, 97, 121, 97, 98, 108, 101] , [114, 101, 99, 101, 105, 118, 97, 98, 108, 101] , [115, 97, 108, 101, 115] , [99, 111, 103, 115] , [112, 114, 105, 99, 101, 118, 97, 114] , [115, 99, 114, 97, 112] , [99, 111, 117, 110, 116, 108, 111, 115, 115] , [108, 97, 110, 100, 101, 100] , [119, 114, 105, 116, 101, 100, 111, 119, 110] , [97, 108, 108, 111, 119, 97, 110, 99, 101] , [105, 110, 116, 114, 97, 110, 115, 105, 116] , [103, 114, 111, 117, 112, 114, 101, 99] , [103, 114, 111, 117, 112, 112, 97, 121] , [103, 114, 111, 117, 112, 115, 97, 108, 101, 115] , [103, 114, 111, 117, 112, 99, 111, 103, 115]]
abbrev chFields : AV := .lit 1 (chNames.map fun l => [.c (.string ⟨l.toArray⟩)])
abbrev chGlob : List (Nat × List Int) := [(0, Lib.asciiSpaceTab)]
abbrev chKn : List (Nat × List AV × AV) := [(20, [.c (.string chAll)], chFields)]
theorem ch_fields : Lib.fields chAll.data.toList = chNames := by decide +kernel
theorem ch_ascii : ∀ (j : Nat) (b : UInt8), chAll.data.toList[j]? = some b → b.toNat < 128 := by
  have h : chAll.data.toList.all (fun b => decide (b.toNat < 128)) = true := by decide +kernel
  intro j b hb
  exact of_decide_eq_true (List.all_eq_true.1 h b (List.mem_of_getElem? hb))
theorem ch_at {i j : Nat} {x : AV} (h : at2 (chNames.map fun l => [AV.c (.string ⟨l.toArray⟩)]) i j = some x) : j = 0 ∧ i < 17 ∧ x = .c (.string ⟨(chNames.getD i []).toArray⟩) := by
  unfold at2 at h
  rw [List.getElem?_map] at h
  cases hc : chNames[i]? with
  | none => rw [hc] at h; cases h
  | some l =>
    rw [hc] at h
    simp only [Option.map_some, Option.bind_some] at h
    cases j with
    | succ j => simp at h
    | zero =>
      simp only [List.getElem?_cons_zero, Option.some.injEq] at h
      have hi : i < chNames.length := (List.getElem?_eq_some_iff.1 hc).1
      exact ⟨rfl, hi, by rw [← h, List.getD, hc]; rfl⟩
theorem ch_known [Bk] [Ev] (hg : Bk.glob = chGlob) : KnL Tryd.prog chKn := by
  refine .cons ?_ .nil
  intro A w vs hA hG hl hv
  have hT := hG (0, Lib.asciiSpaceTab) (by rw [hg]; exact List.mem_cons_self)
  obtain ⟨v, e⟩ : ∃ v, vs = #[v] := by
    rcases vs with ⟨l⟩
    match l, hl with
    | [x], _ => exact ⟨x, rfl⟩
  subst e
  have e : v = .string chAll := by
    have h0 : RdL A w (.c (.string chAll)) v := hv 0 _ rfl
    cases h0; rfl
  subst e
  refine (Any.strings_Fields_core Tryd.lays157 (by kernel_rfl) chAll w (by decide +kernel) ch_ascii (fun c hc => (hT.2.2 c (Lib.asciiSpaceTab.getD c 0) (by rw [List.getD, List.getElem?_eq_getElem (by rw [Lib.asciiSpaceTab_length]; exact hc)]; rfl)).trans (by rw [Lib.asciiSpaceTab_at c hc]))).mono ?_
  rintro e w' ⟨rfl, rfl⟩
  rw [ch_fields]
  refine ⟨_, rfl, ?_, (Below.refl _ w).alloc (Nat.le_refl _) _⟩
  refine RdL.lit 1 (chNames.map fun l => [AV.c (.string ⟨l.toArray⟩)]) w.heap.size 0 chNames.length (fun i _ => .string ⟨(chNames.getD i []).toArray⟩) (fun h => Nat.lt_irrefl _ (hA _ h)) ?_ (Nat.le_refl _) ?_ ?_ ?_ ?_
  · rw [World.size_alloc]; exact Nat.lt_succ_self _
  · intro e he
    obtain ⟨l, -, rfl⟩ := List.mem_map.1 he
    rfl
  · intro i j x hx
    obtain ⟨-, -, rfl⟩ := ch_at hx
    rfl
  · intro i j x hx
    obtain ⟨rfl, hi, rfl⟩ := ch_at hx
    rw [World.cell?_alloc_new]
    have hi' : i < chNames.length := hi
    simp [hi', Nat.mul_one]
  · intro i j x hx
    obtain ⟨rfl, hi, rfl⟩ := ch_at hx
    exact .c _
end Go.Proofs.YtaocfoahipeboaaDoor
