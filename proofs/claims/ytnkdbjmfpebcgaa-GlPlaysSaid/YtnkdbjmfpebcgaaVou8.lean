/-
  A voucher the other way round; the same lines. Their walks.
-/
import Derived.Test.YtnkdbjmfpebcgaaVou6
set_option linter.unusedVariables false
set_option linter.unusedSimpArgs false
namespace Go.Proofs.Ytnkdbjmfpebcgaa
open Go.RowKit

/-- The other way round. -/
def turn1 (x : Lin) : Lin := ⟨x.a, if inB x.n then -x.n else 0⟩
def turnS (l : List Lin) : List Lin := l.map turn1
theorem turnS_len (l : List Lin) : (turnS l).length = l.length := by simp [turnS]
theorem turn1_I {x : Lin} (h : I64 x.a ∧ I64 x.n) : I64 (turn1 x).a ∧ I64 (turn1 x).n := by
  unfold turn1
  refine ⟨h.1, ?_⟩
  by_cases hb : inB x.n = true
  · have := inB_iff.1 hb
    simp only [hb, if_true]
    exact ⟨by omega, by omega⟩
  · simp only [hb]
    exact ⟨by simp, by simp⟩
theorem turnS_I {l : List Lin} (h : AllI (flat2 l)) : AllI (flat2 (turnS l)) := by
  refine flat2_of fun x hx => ?_
  obtain ⟨y, hy, rfl⟩ := List.mem_map.1 hx
  exact turn1_I (flat2_all h hy)

set_option maxRecDepth 20000 in
set_option maxHeartbeats 2000000 in
theorem vou_Turned (a : Option Addr) (cap : Nat) (l : List Lin) (w : World) (h : Row w 2 a l.length cap (flat2 l)) (hn : l.length ≤ 1000000) :
    Calls Try.prog 17 #[.slice a l.length cap] w fun e w' => ∃ v, e = .returned v ∧ OwnI w' w.heap.size 25 2 v l.length (flat2 (turnS l)) ∧ Below w.heap.size w w' := by
  obtain ⟨hl, hcap, hmax, hall, hat⟩ := h
  unfold maxLen at hmax
  go_enter Try.func17, Try.ntmps17
  go_wp2_with fail
  go_loopw [3, 8] (fun q i wr => ∃ j : Nat, j ≤ l.length ∧ i = .int .i64 j ∧ OwnI wr w.heap.size 25 2 q j (flat2 (turnS (l.take j))) ∧ Below w.heap.size w wr) (fun _ i _ => l.length - (intOf i).toNat)
  case atStart => exact ⟨0, by omega, rfl, OwnI.nil _ _ _ _, Below.refl _ _⟩
  case round =>
    obtain ⟨j, hj, rfl, T, hbel⟩ := hrel
    have hsz := hbel.size
    by_cases hlt : j < l.length
    · obtain ⟨b, off, rfl, hb, hc⟩ : ∃ b off, a = some ⟨b, off, none⟩ ∧ b < w.heap.size ∧ CellsAt w b off (flat2 l) := by
        rcases hat with h0 | h0
        · omega
        · exact h0
      obtain ⟨x, hx⟩ : ∃ x, l[j]? = some x := ⟨l[j], by simp [hlt]⟩
      obtain ⟨c0, c1⟩ := (hc.below hb hbel).line hx
      have hlt' : (j : Int) < (l.length : Int) := by omega
      have hxI := flat2_all hall (List.mem_of_getElem? hx)
      have e : flat2 (turnS (l.take j)) ++ [(turn1 x).a, (turn1 x).n] = flat2 (turnS (l.take (j + 1))) := by rw [List.take_add_one, hx, turnS, turnS, ← flat2_snoc]; simp
      have eh := Lib.hid e
      have hx := Lib.hid hx
      have hlen : (turnS (l.take j)).length = j := by rw [turnS_len, List.length_take]; omega
      have hbr : b < wr.heap.size := Nat.lt_of_lt_of_le hb hsz
      have hjl : j ≤ 1000000 := by omega
      clear hc hat e hlen
      cases hin : inB x.n
      · have et : turn1 x = ⟨x.a, 0⟩ := by simp [turn1, hin]
        rw [et] at eh
        clear et
        go_wp2_with (first
          | (go_at_call 26; refine (vou_in _ _).mono ?_; rintro e w' ⟨rfl, rfl⟩)
          | (at_builtin; refine wpList_push _ rfl _ _ 23 rfl w.heap.size 25 2 elem_Line _ j (flat2 (turnS (l.take j))) rfl (T.below (by (repeat (first | assumption | exact Below.refl _ _ | refine ballc ?_ _ | refine bdrew ?_ | refine bdrewN ?_ _ | refine bset ?_ _ _ | refine bsetN ?_ (by omega) _ _ | refine bthen ?_ (by assumption))))) (wr.heap.size + 1) 0 1 [x.a, 0] rfl rfl (lit2 (x := ⟨x.a, 0⟩) (by simp [World.setCell])) ?c1 ?c2 ?_))
        case c1 => omega
        case c2 => simp [World.setCell]; omega
        · intro l' w1 hown' hb1
          rw [eh.out] at hown'
          have hbel' : Below w.heap.size w w1 := Below.trans (by (repeat (first | assumption | exact Below.refl _ _ | refine ballc ?_ _ | refine bdrew ?_ | refine bdrewN ?_ _ | refine bset ?_ _ _ | refine bsetN ?_ (by omega) _ _ | refine bthen ?_ (by assumption)))) hb1
          clear T hb1
          go_wp2
          go_roundw
          case rel => exact ⟨j + 1, by omega, by go_num, hown', hbel'⟩
          case measure => simp [intOf]; omega
      · have et : turn1 x = ⟨x.a, -x.n⟩ := by simp [turn1, hin]
        have hbd := inB_iff.1 hin
        have hng : IntKind.i64.wrap (-x.n) = -x.n := IntWalk.i64_in _ (by omega)
        rw [et] at eh
        clear et
        go_wp2_with (first
          | (go_at_call 26; refine (vou_in _ _).mono ?_; rintro e w' ⟨rfl, rfl⟩)
          | (at_builtin; refine wpList_push _ rfl _ _ 23 rfl w.heap.size 25 2 elem_Line _ j (flat2 (turnS (l.take j))) rfl (T.below (by (repeat (first | assumption | exact Below.refl _ _ | refine ballc ?_ _ | refine bdrew ?_ | refine bdrewN ?_ _ | refine bset ?_ _ _ | refine bsetN ?_ (by omega) _ _ | refine bthen ?_ (by assumption))))) (wr.heap.size + 1) 0 1 [x.a, -x.n] rfl rfl (lit2 (x := ⟨x.a, -x.n⟩) (by simp [World.setCell])) ?c1 ?c2 ?_))
        case c1 => omega
        case c2 => simp [World.setCell]; omega
        · intro l' w1 hown' hb1
          rw [eh.out] at hown'
          have hbel' : Below w.heap.size w w1 := Below.trans (by (repeat (first | assumption | exact Below.refl _ _ | refine ballc ?_ _ | refine bdrew ?_ | refine bdrewN ?_ _ | refine bset ?_ _ _ | refine bsetN ?_ (by omega) _ _ | refine bthen ?_ (by assumption)))) hb1
          clear T hb1
          go_wp2
          go_roundw
          case rel => exact ⟨j + 1, by omega, by go_num, hown', hbel'⟩
          case measure => simp [intOf]; omega
    · have ej : j = l.length := by omega
      subst ej
      have hge : ¬ ((l.length : Int) < (l.length : Int)) := by omega
      rw [List.take_length] at T
      go_wp2_with fail
      go_ret
      exact ⟨_, rfl, T, hbel⟩

set_option maxRecDepth 20000 in
set_option maxHeartbeats 2000000 in
theorem ref_Turned (a : Option Addr) (cap : Nat) (l : List Lin) (w : World) (h : Row w 2 a l.length cap (flat2 l)) (hn : l.length ≤ 1000000) :
    Calls Try.prog 18 #[.slice a l.length cap] w fun e w' => ∃ v, e = .returned v ∧ OwnI w' w.heap.size 25 2 v l.length (flat2 (turnS l)) ∧ Below w.heap.size w w' := by
  obtain ⟨hl, hcap, hmax, hall, hat⟩ := h
  unfold maxLen at hmax
  go_enter Try.func18, Try.ntmps18
  go_wp2_with fail
  go_loopw [3, 4] (fun q i wr => ∃ j : Nat, j ≤ l.length ∧ i = .int .i64 j ∧ OwnI wr w.heap.size 25 2 q j (flat2 (turnS (l.take j))) ∧ Below w.heap.size w wr) (fun _ i _ => l.length - (intOf i).toNat)
  case atStart => exact ⟨0, by omega, rfl, OwnI.nil _ _ _ _, Below.refl _ _⟩
  case round =>
    obtain ⟨j, hj, rfl, T, hbel⟩ := hrel
    have hsz := hbel.size
    by_cases hlt : j < l.length
    · obtain ⟨b, off, rfl, hb, hc⟩ : ∃ b off, a = some ⟨b, off, none⟩ ∧ b < w.heap.size ∧ CellsAt w b off (flat2 l) := by
        rcases hat with h0 | h0
        · omega
        · exact h0
      obtain ⟨x, hx⟩ : ∃ x, l[j]? = some x := ⟨l[j], by simp [hlt]⟩
      obtain ⟨c0, c1⟩ := (hc.below hb hbel).line hx
      have hlt' : (j : Int) < (l.length : Int) := by omega
      have hxI := flat2_all hall (List.mem_of_getElem? hx)
      have e : flat2 (turnS (l.take j)) ++ [(turn1 x).a, (turn1 x).n] = flat2 (turnS (l.take (j + 1))) := by rw [List.take_add_one, hx, turnS, turnS, ← flat2_snoc]; simp
      have eh := Lib.hid e
      have hx := Lib.hid hx
      have hlen : (turnS (l.take j)).length = j := by rw [turnS_len, List.length_take]; omega
      have hbr : b < wr.heap.size := Nat.lt_of_lt_of_le hb hsz
      have hjl : j ≤ 1000000 := by omega
      clear hc hat e hlen
      cases hin : inB x.n
      · have et : turn1 x = ⟨x.a, 0⟩ := by simp [turn1, hin]
        rw [et] at eh
        clear et
        go_wp2_with (first
          | (go_at_call 40; refine (ref_In _ _).mono ?_; rintro e w' ⟨rfl, rfl⟩)
          | (at_builtin; refine wpList_push _ rfl _ _ 23 rfl w.heap.size 25 2 elem_Line _ j (flat2 (turnS (l.take j))) rfl (T.below (by (repeat (first | assumption | exact Below.refl _ _ | refine ballc ?_ _ | refine bdrew ?_ | refine bdrewN ?_ _ | refine bset ?_ _ _ | refine bsetN ?_ (by omega) _ _ | refine bthen ?_ (by assumption))))) (wr.heap.size + 1) 0 1 [x.a, 0] rfl rfl (lit2 (x := ⟨x.a, 0⟩) (by simp [World.setCell])) ?c1 ?c2 ?_))
        case c1 => omega
        case c2 => simp [World.setCell]; omega
        · intro l' w1 hown' hb1
          rw [eh.out] at hown'
          have hbel' : Below w.heap.size w w1 := Below.trans (by (repeat (first | assumption | exact Below.refl _ _ | refine ballc ?_ _ | refine bdrew ?_ | refine bdrewN ?_ _ | refine bset ?_ _ _ | refine bsetN ?_ (by omega) _ _ | refine bthen ?_ (by assumption)))) hb1
          clear T hb1
          go_wp2
          go_roundw
          case rel => exact ⟨j + 1, by omega, by go_num, hown', hbel'⟩
          case measure => simp [intOf]; omega
      · have et : turn1 x = ⟨x.a, -x.n⟩ := by simp [turn1, hin]
        have hbd := inB_iff.1 hin
        have hng : IntKind.i64.wrap (-x.n) = -x.n := IntWalk.i64_in _ (by omega)
        rw [et] at eh
        clear et
        go_wp2_with (first
          | (go_at_call 40; refine (ref_In _ _).mono ?_; rintro e w' ⟨rfl, rfl⟩)
          | (at_builtin; refine wpList_push _ rfl _ _ 23 rfl w.heap.size 25 2 elem_Line _ j (flat2 (turnS (l.take j))) rfl (T.below (by (repeat (first | assumption | exact Below.refl _ _ | refine ballc ?_ _ | refine bdrew ?_ | refine bdrewN ?_ _ | refine bset ?_ _ _ | refine bsetN ?_ (by omega) _ _ | refine bthen ?_ (by assumption))))) (wr.heap.size + 1) 0 1 [x.a, -x.n] rfl rfl (lit2 (x := ⟨x.a, -x.n⟩) (by simp [World.setCell])) ?c1 ?c2 ?_))
        case c1 => omega
        case c2 => simp [World.setCell]; omega
        · intro l' w1 hown' hb1
          rw [eh.out] at hown'
          have hbel' : Below w.heap.size w w1 := Below.trans (by (repeat (first | assumption | exact Below.refl _ _ | refine ballc ?_ _ | refine bdrew ?_ | refine bdrewN ?_ _ | refine bset ?_ _ _ | refine bsetN ?_ (by omega) _ _ | refine bthen ?_ (by assumption)))) hb1
          clear T hb1
          go_wp2
          go_roundw
          case rel => exact ⟨j + 1, by omega, by go_num, hown', hbel'⟩
          case measure => simp [intOf]; omega
    · have ej : j = l.length := by omega
      subst ej
      have hge : ¬ ((l.length : Int) < (l.length : Int)) := by omega
      rw [List.take_length] at T
      go_wp2_with fail
      go_ret
      exact ⟨_, rfl, T, hbel⟩
end Go.Proofs.Ytnkdbjmfpebcgaa
