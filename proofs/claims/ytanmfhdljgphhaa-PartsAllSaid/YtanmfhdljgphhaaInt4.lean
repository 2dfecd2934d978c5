/-
  parts.order: the places of a list, the greatest first.
-/
import Derived.Test.YtanmfhdljgphhaaInt3
import Derived.Laws.MakeOwn
import Derived.Laws.OwnMore
set_option linter.unusedVariables false
set_option linter.unusedSimpArgs false
namespace Go.Proofs.Ytanmfhdljgphhaa
open Go.RowKit

def zerosA (n : Nat) : Array Value := ((List.replicate n (0 : Int)).map (Value.int .i64)).toArray
theorem make_n (n : Nat) (hn : n ≤ 1000000) (W : World) : (Instr.makeSlice 22 (.int .i64 (n : Int)) (.int .i64 (n : Int))).run Try.prog W = .ok (.slice (some ⟨W.heap.size, 0, none⟩) n n) (W.alloc (.cells (zerosA n) 3)) := by
  obtain ⟨ht, ⟨i, z, hi, hz, hsize, hby, hzs⟩, hp⟩ := elem_Int
  obtain ⟨i', h1, h2, h3, h4⟩ := info_parts (P := Try.prog) (e := 3) (z := .int .i64 0) (size := 1) (bytes := 8) (by kernel_rfl)
  have hr := run_make (P := Try.prog) W 22 3 i' (.int .i64 0) ht h1 h2 .i64 .i64 (n : Int) (n : Int) (by omega) (Int.le_refl _) (by rw [h4]; omega) (by omega)
  rw [h3] at hr
  simp only [Int.toNat_natCast, Nat.mul_one] at hr
  rw [hr]
  have : madeCells (Value.int .i64 0).cells n = zerosA n := by
    apply Array.toList_inj.1
    rw [show (Value.int .i64 0).cells = #[Value.int .i64 0] from rfl, toList_madeCells_one]
    simp [zerosA]
  rw [this]
theorem CellsAt.zeros (W : World) (n : Nat) (t : TypeId) : CellsAt (W.alloc (.cells (zerosA n) t)) W.heap.size 0 (List.replicate n 0) := CellsAt.new W _ t

/-- The places filled in so far. -/
def fillL (n j : Nat) : List Int := fl (List.range j) ++ List.replicate (n - j) 0
theorem fillL_len {n j : Nat} (h : j ≤ n) : (fillL n j).length = n := by simp [fillL, fl]; omega
theorem fillL_step {n j : Nat} (h : j < n) : (fillL n j).set j (j : Int) = fillL n (j + 1) := by
  unfold fillL
  rw [List.set_append, if_neg (by simp [fl]), show (fl (List.range j)).length = j by simp [fl], Nat.sub_self]
  obtain ⟨k, hk⟩ : ∃ k, n - j = k + 1 := ⟨n - j - 1, by omega⟩
  rw [hk, show n - (j + 1) = k by omega, List.replicate_succ, List.set_cons_zero, List.range_succ]
  simp [fl]

set_option maxRecDepth 20000 in
set_option maxHeartbeats 2000000 in
theorem parts_order (g goff gcap : Nat) (rest : List Int) (w : World) (hR : CellsAt w g goff rest) (hg : g < w.heap.size) (hn1 : 1 ≤ rest.length) (h20 : rest.length ≤ 1000000) :
    Calls Try.prog 17 #[.slice (some ⟨g, goff, none⟩) rest.length gcap, .func (.func 18) #[] #[]] w
      fun e w' => e = .returned (.slice (some ⟨w.heap.size + 2, 0, none⟩) rest.length rest.length) ∧ ∃ m : List Nat, m.length = rest.length ∧ Rises (keyN rest) m ∧ Stab (keyN rest) (List.range rest.length) m ∧ CellsAt w' (w.heap.size + 2) 0 (fl m) ∧ Below w.heap.size w w' := by
  have hs := fun (c d B : Nat) (l : List Nat) (W : World) => stable_funcN B 0 c d g goff gcap rest.length rest (by omega) l W
  obtain ⟨n, hN⟩ : ∃ n, rest.length = n := ⟨_, rfl⟩
  have hNh := Lib.hid hN
  rw [hN] at hn1 h20 hs ⊢
  clear hN
  have hmk := make_n n (by omega)
  unfold byRest at hs
  go_enter Try.func17, Try.ntmps17
  go_wp2_with fail
  have hb0 : Below w.heap.size w (((w.alloc (.cells #[.slice (some ⟨g, goff, none⟩) n gcap] 22)).alloc (.cells #[.func (.func 18) #[] #[]] 38)).alloc (.cells (zerosA n) 3)) := (((Below.refl _ _).alloc (Nat.le_refl _) _).alloc (by simp) _).alloc (by simp; omega) _
  have hsz0 : (((w.alloc (.cells #[.slice (some ⟨g, goff, none⟩) n gcap] 22)).alloc (.cells #[.func (.func 18) #[] #[]] 38)).alloc (.cells (zerosA n) 3)).heap.size = w.heap.size + 1 + 1 + 1 := by simp
  have hC0 : CellsAt (((w.alloc (.cells #[.slice (some ⟨g, goff, none⟩) n gcap] 22)).alloc (.cells #[.func (.func 18) #[] #[]] 38)).alloc (.cells (zerosA n) 3)) (w.heap.size + 1 + 1) 0 (fillL n 0) := by
    have := CellsAt.zeros ((w.alloc (.cells #[.slice (some ⟨g, goff, none⟩) n gcap] 22)).alloc (.cells #[.func (.func 18) #[] #[]] 38)) n 3
    simpa [fillL, fl] using this
  have hfz0 : ∀ i, (((w.alloc (.cells #[.slice (some ⟨g, goff, none⟩) n gcap] 22)).alloc (.cells #[.func (.func 18) #[] #[]] 38)).alloc (.cells (zerosA n) 3)).frozen? ⟨w.heap.size + 1 + 1, i, none⟩ = false := fun i => by
    have := World.frozen?_alloc_new ((w.alloc (.cells #[.slice (some ⟨g, goff, none⟩) n gcap] 22)).alloc (.cells #[.func (.func 18) #[] #[]] 38)) (zerosA n) 3 i
    simpa using this
  have he0 : (((w.alloc (.cells #[.slice (some ⟨g, goff, none⟩) n gcap] 22)).alloc (.cells #[.func (.func 18) #[] #[]] 38)).alloc (.cells (zerosA n) 3)).cell? ⟨w.heap.size, 0, none⟩ = some (.slice (some ⟨g, goff, none⟩) n gcap) := by
    rw [World.cell?_alloc_lt _ _ _ (by simp; omega), World.cell?_alloc_lt _ _ _ (by simp)]; simp
  have he1 : (((w.alloc (.cells #[.slice (some ⟨g, goff, none⟩) n gcap] 22)).alloc (.cells #[.func (.func 18) #[] #[]] 38)).alloc (.cells (zerosA n) 3)).cell? ⟨w.heap.size + 1, 0, none⟩ = some (.func (.func 18) #[] #[]) := by
    rw [World.cell?_alloc_lt _ _ _ (by simp)]; simp
  generalize (((w.alloc (.cells #[.slice (some ⟨g, goff, none⟩) n gcap] 22)).alloc (.cells #[.func (.func 18) #[] #[]] 38)).alloc (.cells (zerosA n) 3)) = W0 at *
  have hR0 := hR.below hg hb0
  have hsz0h := Lib.hid hsz0
  have hBlt : w.heap.size + 1 + 1 < W0.heap.size := by omega
  have hslt : w.heap.size + 2 < W0.heap.size := by omega
  clear hsz0 hmk hR
  go_loopw [12] (fun i wr => ∃ j : Nat, j ≤ n ∧ i = .int .i64 (j : Int) ∧ CellsAt wr (w.heap.size + 1 + 1) 0 (fillL n j) ∧ Keep (w.heap.size + 1 + 1) W0 wr) (fun i _ => n - (intOf i).toNat)
  case atStart => exact ⟨0, by omega, rfl, hC0, Keep.refl _ _⟩
  case round =>
    obtain ⟨j, hj, rfl, hC, hK⟩ := hrel
    by_cases hlt : j < n
    · have hltI : (j : Int) < (n : Int) := by omega
      have hj0 : (0 : Int) ≤ (j : Int) := by omega
      have hcell := hC j (by rw [fillL_len hj]; exact hlt)
      rw [Nat.zero_add] at hcell
      have hfr : wr.frozen? ⟨w.heap.size + 1 + 1, j, none⟩ = false := (hK.froz j).trans (hfz0 j)
      have hC2 := CellsAt.put hC (j := j) (by rw [fillL_len hj]; exact hlt) (j : Int)
      rw [fillL_step hlt, Nat.zero_add] at hC2
      have hK2 := hK.set j (.int .i64 (j : Int))
      go_wp2_with fail
      go_roundw
      case rel => exact ⟨j + 1, by omega, by go_num, hC2, hK2⟩
      case measure => simp [intOf]; omega
    · have ej : j = n := by omega
      subst ej
      have hge : ¬ (j : Int) < (j : Int) := by omega
      have hC2 : CellsAt wr (w.heap.size + 1 + 1) 0 (fl (List.range j)) := by simpa [fillL] using hC
      have hb1 : Below w.heap.size w wr := hb0.trans (hK.below hb0.size (by omega))
      have hsr := hK.size
      have hLN : LayN wr (w.heap.size + 1 + 1) 0 (w.heap.size + 1) w.heap.size g goff gcap rest (List.range j) :=
        ⟨hC2, fun i => (hK.froz i).trans (hfz0 i), by omega, ⟨(hK.cell (by omega) (by omega)).trans he1, by rw [hNh.out]; exact (hK.cell (by omega) (by omega)).trans he0, hR0.keep (by have := hb0.size; omega) (by omega) hK, by omega, by omega, by omega, by omega, by omega, by omega⟩, fun x hx => by rw [hNh.out]; exact List.mem_range.1 hx⟩
      have hlr : (List.range j).length = j := List.length_range
      have hs2 := hs (w.heap.size + 1) w.heap.size (w.heap.size + 1 + 1) (List.range j) wr hLN (by rw [hlr]; exact Nat.le_refl _) (by unfold maxLen; omega) (by rw [hlr]; exact h20)
      rw [hlr] at hs2
      clear hs hC hC0 hLN he0 he1 hR0 hC2 hlr
      go_wp2_with fail
      refine hs2.mono ?_
      rintro e w2 ⟨rfl, m, hm1, hm2, hm3, hL, hK3⟩
      go_wp2_with fail
      go_ret
      exact ⟨rfl, m, by simpa using hm1, hm2, hm3, hL.cells, hb1.trans (hK3.below hb1.size (by omega))⟩
end Go.Proofs.Ytanmfhdljgphhaa
