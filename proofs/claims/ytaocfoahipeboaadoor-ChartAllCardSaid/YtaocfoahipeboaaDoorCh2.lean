/-
  The laws ChartKinds, ChartNames: which account, and how much of its name, are so many ways; each is run.
-/
import Derived.Test.YtaocfoahipeboaaDoorCh1
set_option linter.unusedVariables false
set_option linter.unusedSimpArgs false
namespace Go.Proofs.YtaocfoahipeboaaDoor
open Go.RowKit Mc

/-- The table lies as it was laid. -/
def ChTab (w : World) : Prop := ∀ (j : Nat) (v : Int), Lib.asciiSpaceTab[j]? = some v → w.cell? ⟨0, j, none⟩ = some (.int .u8 v)
theorem ChTab.lt {w : World} (h : ChTab w) : 0 < w.heap.size := World.block_lt_of_cell? _ _ (h 0 (Lib.asciiSpaceTab.getD 0 0) (by decide +kernel))
abbrev chA : Nat → Prop := fun b => b = 0
theorem ChTab.gok [Bk] {w : World} (h : ChTab w) (hg : Bk.glob = chGlob) : GOk chA w := by
  intro t ht
  rw [hg] at ht
  rcases List.mem_cons.1 ht with rfl | ht
  · exact ⟨rfl, h.lt, h⟩
  · exact absurd ht List.not_mem_nil
abbrev chFull : Int × Int := (-9223372036854775808, 9223372036854775807)
abbrev ckB (k : Int) : Bk := { vars := [chFull], ext := [(6, [pvar 0, plit 17], [plit k])], extV := chKn, glob := chGlob }
abbrev ckRun (k : Int) : Prop := saysYes (@acallF (ckB k) Tryd.prog 100000 60 4 [.e (pvar 0)] .leaf 0) = true
theorem ck_calls {k v : Int} (hv : I64 v) (hk : v % 17 = k) (h : ckRun k) (w : World) (hT : ChTab w) :
    Calls Tryd.prog 4 #[.int .i64 v] w fun e w' => e = .returned (.bool true) ∧ Below w.heap.size w w' := by
  let ev : @Ev (ckB k) := evOf (ckB k) [v] rfl (.cons hv.lo (by have := hv.hi; omega) .nil) .nil
  let _ : Bk := ckB k
  let _ : Ev := ev
  have r0 : pev Ev.rho (pvar 0) = v := pev_pvar 0
  refine @yes_calls_by Tryd.prog (ckB k) ev ⟨@ExtL.cons _ (ckB k) ev _ _ _ _ (@ext_int _ (ckB k) ev _ _ _ fun w => ?_) (@ExtL.nil _ (ckB k) ev), @YesL.nil _ (ckB k) ev, @ch_known (ckB k) ev rfl⟩ _ _ _ _ h #[.int .i64 v] rfl w chA (fun b hb => hb ▸ hT.lt) (@ChTab.gok (ckB k) w hT rfl) ?_
  · simp only [List.map_cons, List.map_nil, r0, pev_plit, ← hk]
    exact place_b v 17 w (by omega) (by omega)
  · intro i x hx
    rcases i with _ | i
    · cases hx; exact RdL.var r0
    · simp at hx
abbrev cnB (k n c : Int) : Bk := { vars := [chFull, chFull, (0, 98)], ext := [(6, [pvar 0, plit 17], [plit k]), (6, [pvar 1, plit n], [plit c]), (6, [pvar 0, plit 99], [pvar 2])], extV := chKn, glob := chGlob }
abbrev cnRun (k n : Int) (c : Nat) : Prop := saysYes (@acallF (cnB k n c) Tryd.prog 100000 60 5 [.e (pvar 0), .e (pvar 1)] .leaf 0) = true
theorem cn_calls {k n v cut : Int} {c : Nat} (hv : I64 v) (hc : I64 cut) (h1 : 1 ≤ n) (h2 : n ≤ 100) (hk : v % 17 = k) (hn : cut % n = c) (h : cnRun k n c) (w : World) (hT : ChTab w) :
    Calls Tryd.prog 5 #[.int .i64 v, .int .i64 cut] w fun e w' => e = .returned (.bool true) ∧ Below w.heap.size w w' := by
  let ev : @Ev (cnB k n c) := evOf (cnB k n c) [v, cut, v % 99] rfl (.cons hv.lo (by have := hv.hi; omega) (.cons hc.lo (by have := hc.hi; omega) (.cons (by omega) (by omega) .nil))) .nil
  let _ : Bk := cnB k n c
  let _ : Ev := ev
  have r0 : pev Ev.rho (pvar 0) = v := pev_pvar 0
  have r1 : pev Ev.rho (pvar 1) = cut := pev_pvar 1
  have r2 : pev Ev.rho (pvar 2) = v % 99 := pev_pvar 2
  refine @yes_calls_by Tryd.prog (cnB k n c) ev ⟨@ExtL.cons _ (cnB k n c) ev _ _ _ _ (@ext_int _ (cnB k n c) ev _ _ _ fun w => ?_) (@ExtL.cons _ (cnB k n c) ev _ _ _ _ (@ext_int _ (cnB k n c) ev _ _ _ fun w => ?_) (@ExtL.cons _ (cnB k n c) ev _ _ _ _ (@ext_int _ (cnB k n c) ev _ _ _ fun w => ?_) (@ExtL.nil _ (cnB k n c) ev))), @YesL.nil _ (cnB k n c) ev, @ch_known (cnB k n c) ev rfl⟩ _ _ _ _ h #[.int .i64 v, .int .i64 cut] rfl w chA (fun b hb => hb ▸ hT.lt) (@ChTab.gok (cnB k n c) w hT rfl) ?_
  · simp only [List.map_cons, List.map_nil, r0, pev_plit, ← hk]
    exact place_b v 17 w (by omega) (by omega)
  · simp only [List.map_cons, List.map_nil, r1, pev_plit, ← hn]
    exact place_b cut n w (by omega) (by omega)
  · simp only [List.map_cons, List.map_nil, r0, r2, pev_plit]
    exact place_b v 99 w (by omega) (by omega)
  · intro i x hx
    rcases i with _ | _ | i
    · cases hx; exact RdL.var r0
    · cases hx; exact RdL.var r1
    · simp at hx
theorem lt17 {p : Int → Prop} (h : p 0 ∧ p 1 ∧ p 2 ∧ p 3 ∧ p 4 ∧ p 5 ∧ p 6 ∧ p 7 ∧ p 8 ∧ p 9 ∧ p 10 ∧ p 11 ∧ p 12 ∧ p 13 ∧ p 14 ∧ p 15 ∧ p 16) (v : Int) : p (v % 17) := by
  obtain ⟨h0, h1, h2, h3, h4, h5, h6, h7, h8, h9, h10, h11, h12, h13, h14, h15, h16⟩ := h
  have : v % 17 = 0 ∨ v % 17 = 1 ∨ v % 17 = 2 ∨ v % 17 = 3 ∨ v % 17 = 4 ∨ v % 17 = 5 ∨ v % 17 = 6 ∨ v % 17 = 7 ∨ v % 17 = 8 ∨ v % 17 = 9 ∨ v % 17 = 10 ∨ v % 17 = 11 ∨ v % 17 = 12 ∨ v % 17 = 13 ∨ v % 17 = 14 ∨ v % 17 = 15 ∨ v % 17 = 16 := by omega
  rcases this with e | e | e | e | e | e | e | e | e | e | e | e | e | e | e | e | e <;> rw [e] <;> assumption
end Go.Proofs.YtaocfoahipeboaaDoor
