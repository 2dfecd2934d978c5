/-
  Vouchers: the amounts together; lines without those of which something holds.
-/
import Derived.Test.YtnalblnmplnhmaaGreatVou1
import Derived.Lib.SliceRun
set_option linter.unusedVariables false
set_option linter.unusedSimpArgs false
namespace Go.Proofs.YtnalblnmplnhmaaGreat
open Go.RowKit

theorem lit1 {w : World} {y : Int} {t n : Nat} (hn : n = w.heap.size) : CellsAt (w.alloc (.cells #[.int .i64 y] t)) n 0 [y] := by
  subst hn; exact CellsAt.new w [y] t
theorem lit2 {w : World} {x : Lin} {t n : Nat} (hn : n = w.heap.size) : CellsAt (w.alloc (.cells #[.int .i64 x.a, .int .i64 x.n] t)) n 0 [x.a, x.n] := by
  subst hn; exact CellsAt.new w [x.a, x.n] t
def amts (l : List Lin) : List Int := l.map (·.n)

set_option maxHeartbeats 1000000 in
theorem vou_sum (a : Option Addr) (cap : Nat) (l : List Lin) (w : World) (h : Row w 2 a l.length cap (flat2 l)) (hn : l.length ≤ 1000) :
    Calls Tryz.prog 192 #[.slice a l.length cap] w fun e w' => e = .returned (.tuple #[.int .i64 (sumV (amts l)), .int .i64 (sumE (amts l))]) ∧ Below w.heap.size w w' := by
  obtain ⟨hl, hcap, hmax, hall, hat⟩ := h
  unfold maxLen at hmax
  go_enter Tryz.func192, Tryz.ntmps192
  go_wp2
  go_loopw [4, 9] (fun q i wr => ∃ j : Nat, j ≤ l.length ∧ i = .int .i64 j ∧ OwnI wr w.heap.size 3 1 q j (amts (l.take j)) ∧ Below w.heap.size w wr) (fun _ i _ => l.length - (intOf i).toNat)
  case atStart => exact ⟨0, by omega, rfl, OwnI.nil _ _ _ _, Below.refl _ _⟩
  case round =>
    obtain ⟨j, hj, rfl, T, hbel⟩ := hrel
    have hsz := hbel.size
    by_cases hlt : j < l.length
    · obtain ⟨b, off, rfl, hb, hc⟩ : ∃ b off, a = some ⟨b, off, none⟩ ∧ b < w.heap.size ∧ CellsAt w b off (flat2 l) := by
        rcases hat with h0 | h0
        · omega
        · exact h0
      obtain ⟨x, hx⟩ : ∃ x, l[j]? = some x := ⟨l[j], by simp [hlt]⟩
      obtain ⟨c0, c1⟩ := (hc.below hb hbel).line hx
      have hlt' : (j : Int) < (l.length : Int) := by omega
      have hx := Lib.hid hx
      clear hc hat
      go_wp2_with (at_builtin; refine wpList_push _ rfl _ _ 22 rfl w.heap.size 3 1 elem_Int u4 j (amts (l.take j)) rfl ((T.alloc _).alloc _) (wr.heap.size + 1) 0 1 [x.n] rfl rfl (lit1 (y := x.n) (by simp)) ?c1 ?c2 ?_)
      case c1 => omega
      case c2 => simp; omega
      · intro l' w1 hown' hb1
        have e : amts (l.take j) ++ [x.n] = amts (l.take (j + 1)) := by rw [List.take_add_one, hx.out]; simp [amts]
        rw [e] at hown'
        have hs1 : w.heap.size ≤ (wr.alloc (.cells #[.int .i64 x.a, .int .i64 x.n] 131)).heap.size := by simp; omega
        have hbel' := ((hbel.alloc hsz (.cells #[.int .i64 x.a, .int .i64 x.n] 131)).alloc hs1 _).trans hb1
        clear T hb1 e
        go_wp2
        go_roundw
        case rel => exact ⟨j + 1, by omega, by go_num, hown', hbel'⟩
        case measure => simp [intOf]; omega
    · have ej : j = l.length := by omega
      subst ej
      have hge : ¬ ((l.length : Int) < (l.length : Int)) := by omega
      rw [List.take_length] at T
      have hA : AllI (amts l) := by
        intro z hz
        obtain ⟨x, hx, rfl⟩ := List.mem_map.1 hz
        exact (flat2_all hall hx).2
      obtain ⟨l0, cp, rfl, hrow⟩ := T.row hA
      clear T
      go_wp2_with (go_at_call 60; refine (money_Sum _ _ _ _ _ hrow).mono ?_; rintro e w' ⟨rfl, rfl⟩)
      go_ret2
      exact ⟨rfl, hbel⟩

theorem Keep.setCells {b : Nat} {u : World} : ∀ (vs : List Value) (o : Nat) (w : World), Keep b u w → Keep b u (w.setCells b o vs)
  | [], _, _, h => h
  | v :: r, o, w, h => Keep.setCells r (o + 1) _ (h.set o v)
theorem CellsAt.clear {w : World} {b off k : Nat} {zs : List Int} {vs : List Value} (h : CellsAt w b off zs) (hk : zs.length ≤ k) : CellsAt (w.setCells b (off + k) vs) b off zs := by
  intro i hi
  rw [World.cell?_setCells_out b vs (off + k) w ⟨b, off + i, none⟩ (fun _ _ => .inl (by simp only; omega))]
  exact h i hi

/-- 'clear(s)', s of n > 0 lines. -/
theorem run_clear_lines (w : World) (ty : TypeId) (hv : ∀ w, (zeroValue 131).run Tryz.prog w = .ok (.agg #[.int .i64 0, .int .i64 0]) w) (b o n c : Nat) (hn : 0 < n)
    (hc : ∀ j, j < n * 2 → (w.cell? ⟨b, o + j, none⟩).isSome = true) (hf : ∀ j, w.frozen? ⟨b, j, none⟩ = false) :
    (Builtin.clear_ #[132] ty #[.slice (some ⟨b, o, none⟩) n c]).run Tryz.prog w = .ok (.tuple #[]) (w.setCells b o (List.replicate (n * 2) (.int .i64 0))) := by
  have hzc : (Builtin.zeroCells (Value.agg #[.int .i64 0, .int .i64 0]).cells n).toList = List.replicate (n * 2) (.int .i64 0) := by
    simp only [Builtin.zeroCells, Value.cells]
    apply List.ext_getElem
    · simp
    · intro i h1 h2
      simp
      rcases Nat.mod_two_eq_zero_or_one i with h | h <;> simp [h]
  have hst := run_storeCells_cells (P := Tryz.prog) b o (List.replicate (n * 2) (.int .i64 0)) 0 w (by simpa using hc) (by intro j hj; exact hf _) (by intro v hv'; rw [List.eq_of_mem_replicate hv']; rfl)
  simp only [Nat.add_zero] at hst
  obtain ⟨m, rfl⟩ : ∃ m, n = m + 1 := ⟨n - 1, by omega⟩
  have ht : Tryz.prog.underlying 132 = some (.slice 131) := by kernel_rfl
  simp [Builtin.clear_, run_underlying ht, hv, hzc, hst]
theorem zero_Line (w : World) : (zeroValue 131).run Tryz.prog w = .ok (.agg #[.int .i64 0, .int .i64 0]) w := by kernel_rfl
end Go.Proofs.YtnalblnmplnhmaaGreat
