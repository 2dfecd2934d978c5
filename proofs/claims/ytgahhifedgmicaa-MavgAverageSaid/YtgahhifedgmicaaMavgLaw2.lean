/-
  The moving average: all at one price. The walk.
-/
import Derived.Test.YtgahhifedgmicaaMavgLaw1
import Derived.Test.YtgahhifedgmicaaMavgP2
set_option linter.unusedVariables false
set_option linter.unusedSimpArgs false
namespace Go.Proofs.Ytgahhifedgmicaa
open Go.RowKit

set_option maxRecDepth 20000 in
set_option maxHeartbeats 2000000 in
theorem MavgAverage_walk (price : Int) (l : Option Addr) (n cap : Nat) (zs : List Int) (w : World) (hp : I64 price) (h : Row w 1 l n cap zs) :
    Calls Try.prog 5 #[.int .i64 price, .slice l n cap] w fun e w' => e = .returned (.bool true) ∧ Below w.heap.size w w' := by
  obtain ⟨hl, hcap, hmax, hall, hat⟩ := h
  unfold maxLen at hmax
  have hp1 := place_bd (v := price) (n := 1000) (by omega)
  obtain ⟨p, hpe⟩ : ∃ p, price % 1000 = p := ⟨_, rfl⟩
  have p0 : 0 ≤ p := by omega
  have p1 : p ≤ 999 := by omega
  clear hp1
  go_enter Try.func5, Try.ntmps5
  go_wp2_with (first | (go_at_call 17; refine (Place_calls _ _ _ (by omega) (by omega)).mono ?_; rintro e w' ⟨rfl, rfl⟩))
  clear hpe
  go_loopw [6, 7, 8] (fun a hv i wr => ∃ (j : Nat) (g : Int) (a1 : Option Addr) (c1 : Nat), j ≤ n ∧ j ≤ 60 ∧ i = .int .i64 j ∧ 0 ≤ g ∧ g ≤ 30 * j ∧ hv = .int .i64 g ∧ a = .slice a1 (pot g p).length c1 ∧ Row wr 3 a1 (pot g p).length c1 (flat (pot g p)) ∧ Below w.heap.size w wr) (fun _ _ i _ => 60 - (intOf i).toNat)
  case atStart => exact ⟨0, 0, none, 0, by omega, by omega, rfl, by omega, by omega, rfl, rfl, Row.nil _ _, by (repeat (first | assumption | exact Below.refl _ _ | refine ballc ?_ _ | refine bdrew ?_ | refine bdrewN ?_ _ | refine bset ?_ _ _ | refine bsetN ?_ (by omega) _ _ | refine bthen ?_ (by assumption)))⟩
  case round =>
    obtain ⟨j, g, a1, c1, hj, hj2, rfl, hg0, hg1, rfl, rfl, R1, hbel⟩ := hrel
    have hsz := hbel.size
    by_cases hlt : j < n ∧ j < 60
    · obtain ⟨hlt, hlt2⟩ := hlt
      obtain ⟨b, off, rfl, hb, hc⟩ : ∃ b off, l = some ⟨b, off, none⟩ ∧ b < w.heap.size ∧ CellsAt w b off zs := by
        rcases hat with h0 | h0
        · omega
        · exact h0
      have hcell : wr.cell? ⟨b, off + j, none⟩ = some (.int .i64 (zs.getD j 0)) := (hbel.cell hb).trans (hc j (by omega))
      have hlt' : (j : Int) < (n : Int) := by omega
      have hlt2' : (j : Int) < 60 := by omega
      clear hc hat
      generalize zs.getD j 0 = z at *
      go_wp2_with fail
      refine (Place_calls _ _ _ (by omega) (by omega)).mono ?_
      rintro e w' ⟨rfl, rfl⟩
      have hk := place_bd (v := wrap64 (z.tdiv 2)) (n := 30) (by omega)
      generalize wrap64 (z.tdiv 2) % 30 = d at *
      obtain ⟨q, hq⟩ : ∃ q, 1 + d = q := ⟨_, rfl⟩
      have q0 : 1 ≤ q := by omega
      have q1 : q ≤ 30 := by omega
      have hmb := mul_bd (a := q) (b := p) (n := 30) (m := 999) (by omega) q1 p0 p1
      have hmb2 : q * p ≤ 29970 := hmb.2
      have hmb1 := hmb.1
      clear hk hmb
      have f1 : IntKind.i64.wrap (q * p) = q * p := IntWalk.i64_in _ (by omega)
      have hL := Lib.hid (pot_LR (h := g) (p := p) hg0 (by omega) p0 p1)
      by_cases h2 : z.tmod 2 = 0
      · have hI := Lib.hid (in_pot (h := g) (p := p) (q := q) hg0 (by omega) p0 p1 q0)
        have hx : AllI [(⟨q, q * p, 0⟩ : Lay).q, (⟨q, q * p, 0⟩ : Lay).v, (⟨q, q * p, 0⟩ : Lay).p] := by
          intro y hy
          simp at hy
          rcases hy with rfl | rfl | rfl <;> exact ⟨by omega, by omega⟩
        go_wp2_with fail
        refine (mavg_In_is (x := ⟨q, q * p, 0⟩) R1 hL.out hx hI.out).mono ?_
        rintro e w1 ⟨⟨a3, c3, rfl, R3⟩, hw1⟩
        have hbel' : Below w.heap.size w w1 := by (repeat (first | assumption | exact Below.refl _ _ | refine ballc ?_ _ | refine bdrew ?_ | refine bdrewN ?_ _ | refine bset ?_ _ _ | refine bsetN ?_ (by omega) _ _ | refine bthen ?_ (by assumption)))
        clear hw1 hcell R1 hI hL
        go_wp2_with fail
        case' roundEnd =>
          refine ⟨⟨j + 1, g + q, a3, c3, by omega, by omega, by simp, by omega, by omega, rfl, rfl, R3, hbel'⟩, ?_⟩
          simp [intOf]
          omega
      · by_cases h3 : q ≤ g
        · have hO := Lib.hid (out_pot (h := g) (p := p) (q := q) hg0 (by omega) p0 p1 q0 h3)
          go_wp2_with fail
          refine (mavg_Out_is R1 hL.out (q := q) ⟨by omega, by omega⟩ hO.out).mono ?_
          rintro e w1 ⟨⟨a3, c3, rfl, R3⟩, hw1⟩
          have hbel' : Below w.heap.size w w1 := by (repeat (first | assumption | exact Below.refl _ _ | refine ballc ?_ _ | refine bdrew ?_ | refine bdrewN ?_ _ | refine bset ?_ _ _ | refine bsetN ?_ (by omega) _ _ | refine bthen ?_ (by assumption)))
          clear hw1 hcell R1 hO hL
          go_wp2_with fail
          case' roundEnd =>
            refine ⟨⟨j + 1, g - q, a3, c3, by omega, by omega, by simp, by omega, by omega, rfl, rfl, R3.below (by (repeat (first | assumption | exact Below.refl _ _ | refine ballc ?_ _ | refine bdrew ?_ | refine bdrewN ?_ _ | refine bset ?_ _ _ | refine bsetN ?_ (by omega) _ _ | refine bthen ?_ (by assumption)))), by (repeat (first | assumption | exact Below.refl _ _ | refine ballc ?_ _ | refine bdrew ?_ | refine bdrewN ?_ _ | refine bset ?_ _ _ | refine bsetN ?_ (by omega) _ _ | refine bthen ?_ (by assumption)))⟩, ?_⟩
            simp [intOf]
            omega
        · have hO := Lib.hid (out_pot_short (h := g) (p := p) (q := q) hg0 (by omega) p0 p1 q0 (by omega))
          go_wp2_with fail
          refine (mavg_Out_is R1 hL.out (q := q) ⟨by omega, by omega⟩ hO.out).mono ?_
          rintro e w1 ⟨⟨a3, c3, rfl, R3⟩, hw1⟩
          have hbel' : Below w.heap.size w w1 := by (repeat (first | assumption | exact Below.refl _ _ | refine ballc ?_ _ | refine bdrew ?_ | refine bdrewN ?_ _ | refine bset ?_ _ _ | refine bsetN ?_ (by omega) _ _ | refine bthen ?_ (by assumption)))
          have R4 := R1.below hw1
          clear hw1 hcell R1 R3 hO hL
          go_wp2_with fail
          case' roundEnd =>
            refine ⟨⟨j + 1, g, a1, c1, by omega, by omega, by simp, by omega, by omega, rfl, rfl, R4.below (by (repeat (first | assumption | exact Below.refl _ _ | refine ballc ?_ _ | refine bdrew ?_ | refine bdrewN ?_ _ | refine bset ?_ _ _ | refine bsetN ?_ (by omega) _ _ | refine bthen ?_ (by assumption)))), by (repeat (first | assumption | exact Below.refl _ _ | refine ballc ?_ _ | refine bdrew ?_ | refine bdrewN ?_ _ | refine bset ?_ _ _ | refine bsetN ?_ (by omega) _ _ | refine bthen ?_ (by assumption)))⟩, ?_⟩
            simp [intOf]
            omega
    · have hx : ¬ (j : Int) < (n : Int) ∨ (j : Int) < (n : Int) ∧ ¬ (j : Int) < 60 := by omega
      clear hlt hat
      rcases hx with hx | ⟨hx, hx2⟩
      all_goals
        go_wp2_with (first | (go_at_call 10; refine (mavg_awake _).mono ?_; rintro e w' ⟨rfl, hwa⟩))
        go_ret
        exact ⟨rfl, by (repeat (first | assumption | exact Below.refl _ _ | refine ballc ?_ _ | refine bdrew ?_ | refine bdrewN ?_ _ | refine bset ?_ _ _ | refine bsetN ?_ (by omega) _ _ | refine bthen ?_ (by assumption)))⟩
end Go.Proofs.Ytgahhifedgmicaa
