/-
  Standard cost: what is there is worth its cost; what is above and what is more make the difference. The walk.
-/
import Derived.Test.YtgahhifedgmicaaStdLaw1
set_option linter.unusedVariables false
set_option linter.unusedSimpArgs false
namespace Go.Proofs.Ytgahhifedgmicaa
open Go.RowKit

theorem pot_tot {h c : Int} (h0 : 0 ≤ h) (h1 : h ≤ 1800) (c0 : 0 ≤ c) (c1 : c ≤ 999) : (tot (pot h c)).q = h ∧ (tot (pot h c)).v = h * c ∧ totE (pot h c) = 0 := by
  have L := pot_LR h0 h1 c0 c1
  rw [L.tot.1]
  refine ⟨pot_qs, ?_, L.tot.2⟩
  simp only
  unfold pot
  by_cases hz : h = 0
  · subst hz; simp [vs]
  · simp [hz, vs]

/-- The sums so far. -/
structure Sums (j g c paid gone above more : Int) : Prop where
  g0 : 0 ≤ g
  g1 : g ≤ 20 * j
  c0 : 0 ≤ c
  c1 : c ≤ 99
  p : 0 ≤ paid ∧ paid ≤ 500 * j
  n : 0 ≤ gone ∧ gone ≤ 2000 * j
  a : -(2000 * j) ≤ above ∧ above ≤ 500 * j
  m : -(200000 * j) ≤ more ∧ more ≤ 200000 * j
  e : paid - above + more - gone = g * c

set_option maxRecDepth 20000 in
set_option maxHeartbeats 4000000 in
theorem StdcostKeeps_walk (cost : Int) (l : Option Addr) (n cap : Nat) (zs : List Int) (w : World) (hcst : I64 cost) (h : Row w 1 l n cap zs) :
    Calls Try.prog 7 #[.int .i64 cost, .slice l n cap] w fun e w' => e = .returned (.bool true) ∧ Below w.heap.size w w' := by
  obtain ⟨hl, hcap, hmax, hall, hat⟩ := h
  unfold maxLen at hmax
  have hp1 := place_bd (v := cost) (n := 100) (by omega)
  obtain ⟨p, hpe⟩ : ∃ p, cost % 100 = p := ⟨_, rfl⟩
  have p0 : 0 ≤ p := by omega
  have p1 : p ≤ 99 := by omega
  clear hp1
  go_enter Try.func7, Try.ntmps7
  go_wp2_with (first | (go_at_call 17; refine (Place_calls _ _ _ (by omega) (by omega)).mono ?_; rintro e w' ⟨rfl, rfl⟩))
  clear hpe
  go_loopw [5, 6, 7, 8, 9, 10, 11, 12] (fun cv a qv pv gv av mv i wr => ∃ (j : Nat) (c g paid gone above more : Int) (a1 : Option Addr) (c1 : Nat), j ≤ n ∧ j ≤ 60 ∧ i = .int .i64 j ∧ cv = .int .i64 c ∧ qv = .int .i64 g ∧ pv = .int .i64 paid ∧ gv = .int .i64 gone ∧ av = .int .i64 above ∧ mv = .int .i64 more ∧ Sums j g c paid gone above more ∧ a = .slice a1 (pot g c).length c1 ∧ Row wr 3 a1 (pot g c).length c1 (flat (pot g c)) ∧ Below w.heap.size w wr) (fun _ _ _ _ _ _ _ i _ => 60 - (intOf i).toNat)
  case atStart => exact ⟨0, p, 0, 0, 0, 0, 0, none, 0, by omega, by omega, rfl, rfl, rfl, rfl, rfl, rfl, rfl, ⟨by omega, by omega, by omega, by omega, by omega, by omega, by omega, by omega, by simp⟩, rfl, Row.nil _ _, by (repeat (first | assumption | exact Below.refl _ _ | refine ballc ?_ _ | refine bdrew ?_ | refine bdrewN ?_ _ | refine bset ?_ _ _ | refine bsetN ?_ (by omega) _ _ | refine bthen ?_ (by assumption)))⟩
  case round =>
    obtain ⟨j, c, g, paid, gone, above, more, a1, c1, hj, hj2, rfl, rfl, rfl, rfl, rfl, rfl, rfl, hS, rfl, R1, hbel⟩ := hrel
    have hsz := hbel.size
    by_cases hlt : j < n ∧ j < 60
    · obtain ⟨hlt, hlt2⟩ := hlt
      obtain ⟨b, off, rfl, hb, hc⟩ : ∃ b off, l = some ⟨b, off, none⟩ ∧ b < w.heap.size ∧ CellsAt w b off zs := by
        rcases hat with h0 | h0
        · omega
        · exact h0
      have hcell : wr.cell? ⟨b, off + j, none⟩ = some (.int .i64 (zs.getD j 0)) := (hbel.cell hb).trans (hc j (by omega))
      have hlt' : (j : Int) < (n : Int) := by omega
      have hlt2' : (j : Int) < 60 := by omega
      clear hc hat
      generalize zs.getD j 0 = z at *
      have hk := place_bd (v := z) (n := 1073741824) (by omega)
      obtain ⟨g0, g1, c0, c1', ⟨pp0, pp1⟩, ⟨n0, n1⟩, ⟨a0, a1'⟩, ⟨m0, m1⟩, he⟩ := hS
      have hL := Lib.hid (pot_LR (h := g) (p := c) g0 (by omega) c0 (by omega))
      have hlen : (pot g c).length < 30 := by have := pot_len (h := g) (p := c); omega
      go_wp2_with fail
      refine (Place_calls _ _ _ (by omega) (by omega)).mono ?_
      rintro e w' ⟨rfl, rfl⟩
      generalize z % 1073741824 = k at *
      obtain ⟨k0, k1⟩ := hk
      obtain ⟨q, hq⟩ : ∃ q, 1 + k / 4 % 20 = q := ⟨_, rfl⟩
      have q0 : 1 ≤ q := by omega
      have q1 : q ≤ 20 := by omega
      have hgc := mul_bd (a := g) (b := c) (n := 1200) (m := 99) g0 (by omega) c0 c1'
      have hgc2 : g * c ≤ 118800 := hgc.2
      have hqc := mul_bd (a := q) (b := c) (n := 20) (m := 99) (by omega) q1 c0 c1'
      have hqc2 : q * c ≤ 1980 := hqc.2
      have hgc1 := hgc.1
      have hqc1 := hqc.1
      clear hgc hqc
      by_cases hin : k % 4 = 0 ∨ k % 4 = 1
      · obtain ⟨v, hv⟩ : ∃ v, k / 80 % 500 = v := ⟨_, rfl⟩
        have v0 : 0 ≤ v := by omega
        have v1 : v ≤ 499 := by omega
        have hI := Lib.hid (inC_pot (h := g) (c := c) (q := q) (v := v) g0 (by omega) c0 (by omega) q0 v0 (by omega))
        have hLm := Lib.hid (pot_LR (h := g + q) (p := c) (by omega) (by omega) c0 (by omega))
        have ht := pot_tot (h := g + q) (c := c) (by omega) (by omega) c0 (by omega)
        have hx : AllI [(⟨q, v, 0⟩ : Lay).q, (⟨q, v, 0⟩ : Lay).v, (⟨q, v, 0⟩ : Lay).p] := by
          intro y hy
          simp at hy
          rcases hy with rfl | rfl | rfl <;> exact ⟨by omega, by omega⟩
        have em : (g + q) * c = g * c + q * c := Int.add_mul _ _ _
        have hS' := Lib.hid (show Sums (j + 1) (g + q) c (paid + v) gone (above + (v - q * c)) more from ⟨by omega, by omega, c0, c1', by omega, by omega, by omega, by omega, by rw [em]; omega⟩)
        have f1 : IntKind.i64.wrap ((g + q) * c) = (g + q) * c := IntWalk.i64_in _ (by omega)
        have f2 : IntKind.i64.wrap (paid + v - (above + (v - q * c)) + more - gone) = (g + q) * c := (IntWalk.i64_in _ (by omega)).trans (by omega)
        have ht1 := ht.1
        have ht2 := ht.2.1
        have hth := Lib.hid ht
        clear ht em he
        rcases hin with hin | hin
        all_goals
          go_wp2_with fail
          refine (std_In_is (x := ⟨q, v, 0⟩) R1 hlen hx ⟨by omega, by omega⟩ hI.out hLm.out).mono ?_
          rintro e w1 ⟨⟨a3, c3, rfl, R3⟩, hw1⟩
          have hbel' : Below w.heap.size w w1 := by (repeat (first | assumption | exact Below.refl _ _ | refine ballc ?_ _ | refine bdrew ?_ | refine bdrewN ?_ _ | refine bset ?_ _ _ | refine bsetN ?_ (by omega) _ _ | refine bthen ?_ (by assumption)))
          clear hw1 hcell R1 hI
          go_wp2_with fail
          refine (ref_Total9 a3 c3 (pot (g + q) c) _ R3).mono ?_
          rintro e w2 ⟨rfl, hw2⟩
          have R4 := R3.below hw2
          have hbel2 : Below w.heap.size w w2 := by (repeat (first | assumption | exact Below.refl _ _ | refine ballc ?_ _ | refine bdrew ?_ | refine bdrewN ?_ _ | refine bset ?_ _ _ | refine bsetN ?_ (by omega) _ _ | refine bthen ?_ (by assumption)))
          clear hw2 R3
          go_wp2_with fail
          case' roundEnd =>
            refine ⟨⟨j + 1, c, g + q, paid + v, gone, above + (v - q * c), more, a3, c3, by omega, by omega, by simp, rfl, rfl, rfl, rfl, rfl, rfl, by simpa using hS'.out, rfl, R4.below (by (repeat (first | assumption | exact Below.refl _ _ | refine ballc ?_ _ | refine bdrew ?_ | refine bdrewN ?_ _ | refine bset ?_ _ _ | refine bsetN ?_ (by omega) _ _ | refine bthen ?_ (by assumption)))), by (repeat (first | assumption | exact Below.refl _ _ | refine ballc ?_ _ | refine bdrew ?_ | refine bdrewN ?_ _ | refine bset ?_ _ _ | refine bsetN ?_ (by omega) _ _ | refine bthen ?_ (by assumption)))⟩, ?_⟩
            simp [intOf]
            omega
      · by_cases ho : k % 4 = 2
        · have f0 : IntKind.i64.wrap (q * c) = q * c := IntWalk.i64_in _ (by omega)
          by_cases hqg : q ≤ g
          · have hO := Lib.hid (outC_pot (h := g) (c := c) (q := q) g0 (by omega) c0 (by omega) q0 hqg)
            have hLm := Lib.hid (pot_LR (h := g - q) (p := c) (by omega) (by omega) c0 (by omega))
            have ht := pot_tot (h := g - q) (c := c) (by omega) (by omega) c0 (by omega)
            have em : (g - q) * c = g * c - q * c := Int.sub_mul _ _ _
            have hS' := Lib.hid (show Sums (j + 1) (g - q) c paid (gone + q * c) above more from ⟨by omega, by omega, c0, c1', by omega, by omega, by omega, by omega, by rw [em]; omega⟩)
            have f1 : IntKind.i64.wrap ((g - q) * c) = (g - q) * c := IntWalk.i64_in _ (by omega)
            have f2 : IntKind.i64.wrap (paid - above + more - (gone + q * c)) = (g - q) * c := (IntWalk.i64_in _ (by omega)).trans (by omega)
            have f3 : IntKind.i64.wrap (gone + q * c) = gone + q * c := IntWalk.i64_in _ (by omega)
            have ht1 := ht.1
            have ht2 := ht.2.1
            clear ht em he
            go_wp2_with fail
            refine (std_Out_is R1 hL.out (q := q) (c := c) ⟨by omega, by omega⟩ ⟨by omega, by omega⟩ hO.out hLm.out).mono ?_
            rintro e w1 ⟨⟨a3, c3, rfl, R3⟩, hw1⟩
            have hbel' : Below w.heap.size w w1 := by (repeat (first | assumption | exact Below.refl _ _ | refine ballc ?_ _ | refine bdrew ?_ | refine bdrewN ?_ _ | refine bset ?_ _ _ | refine bsetN ?_ (by omega) _ _ | refine bthen ?_ (by assumption)))
            clear hw1 hcell R1
            go_wp2_with fail
            go_quiet (fail)
            go_wp2_with fail
            refine (ref_Total9 a3 c3 (pot (g - q) c) _ (R3.below (by (repeat (first | assumption | exact Below.refl _ _ | refine ballc ?_ _ | refine bdrew ?_ | refine bdrewN ?_ _ | refine bset ?_ _ _ | refine bsetN ?_ (by omega) _ _ | refine bthen ?_ (by assumption)))))).mono ?_
            rintro e w2 ⟨rfl, hw2⟩
            have R4 := R3.below (show Below w1.heap.size w1 w2 by (repeat (first | assumption | exact Below.refl _ _ | refine ballc ?_ _ | refine bdrew ?_ | refine bdrewN ?_ _ | refine bset ?_ _ _ | refine bsetN ?_ (by omega) _ _ | refine bthen ?_ (by assumption))))
            have hbel2 : Below w.heap.size w w2 := by (repeat (first | assumption | exact Below.refl _ _ | refine ballc ?_ _ | refine bdrew ?_ | refine bdrewN ?_ _ | refine bset ?_ _ _ | refine bsetN ?_ (by omega) _ _ | refine bthen ?_ (by assumption)))
            clear hw2 R3
            go_wp2_with fail
            case' roundEnd =>
              refine ⟨⟨j + 1, c, g - q, paid, gone + q * c, above, more, a3, c3, by omega, by omega, by simp, rfl, rfl, rfl, rfl, rfl, rfl, by simpa using hS'.out, rfl, R4.below (by (repeat (first | assumption | exact Below.refl _ _ | refine ballc ?_ _ | refine bdrew ?_ | refine bdrewN ?_ _ | refine bset ?_ _ _ | refine bsetN ?_ (by omega) _ _ | refine bthen ?_ (by assumption)))), by (repeat (first | assumption | exact Below.refl _ _ | refine ballc ?_ _ | refine bdrew ?_ | refine bdrewN ?_ _ | refine bset ?_ _ _ | refine bsetN ?_ (by omega) _ _ | refine bthen ?_ (by assumption)))⟩, ?_⟩
              simp [intOf]
              omega
          · have hO := Lib.hid (outC_pot_short (h := g) (c := c) (q := q) g0 (by omega) c0 (by omega) q0 (by omega))
            have ht := pot_tot (h := g) (c := c) (by omega) (by omega) c0 (by omega)
            have hS' := Lib.hid (show Sums (j + 1) g c paid gone above more from ⟨by omega, by omega, c0, c1', by omega, by omega, by omega, by omega, he⟩)
            have f1 : IntKind.i64.wrap (g * c) = g * c := IntWalk.i64_in _ (by omega)
            have f2 : IntKind.i64.wrap (paid - above + more - gone) = g * c := (IntWalk.i64_in _ (by omega)).trans (by omega)
            have ht1 := ht.1
            have ht2 := ht.2.1
            clear ht he
            go_wp2_with fail
            refine (std_Out_is R1 hL.out (q := q) (c := c) ⟨by omega, by omega⟩ ⟨by omega, by omega⟩ hO.out hL.out).mono ?_
            rintro e w1 ⟨⟨a3, c3, rfl, R3⟩, hw1⟩
            have hbel' : Below w.heap.size w w1 := by (repeat (first | assumption | exact Below.refl _ _ | refine ballc ?_ _ | refine bdrew ?_ | refine bdrewN ?_ _ | refine bset ?_ _ _ | refine bsetN ?_ (by omega) _ _ | refine bthen ?_ (by assumption)))
            have R2 := R1.below hw1
            clear hw1 hcell R1 R3
            go_wp2_with fail
            refine (ref_Total9 a1 c1 (pot g c) _ (R2.below (by (repeat (first | assumption | exact Below.refl _ _ | refine ballc ?_ _ | refine bdrew ?_ | refine bdrewN ?_ _ | refine bset ?_ _ _ | refine bsetN ?_ (by omega) _ _ | refine bthen ?_ (by assumption)))))).mono ?_
            rintro e w2 ⟨rfl, hw2⟩
            have R4 := R2.below (show Below w1.heap.size w1 w2 by (repeat (first | assumption | exact Below.refl _ _ | refine ballc ?_ _ | refine bdrew ?_ | refine bdrewN ?_ _ | refine bset ?_ _ _ | refine bsetN ?_ (by omega) _ _ | refine bthen ?_ (by assumption))))
            have hbel2 : Below w.heap.size w w2 := by (repeat (first | assumption | exact Below.refl _ _ | refine ballc ?_ _ | refine bdrew ?_ | refine bdrewN ?_ _ | refine bset ?_ _ _ | refine bsetN ?_ (by omega) _ _ | refine bthen ?_ (by assumption)))
            clear hw2 R2
            go_wp2_with fail
            case' roundEnd =>
              refine ⟨⟨j + 1, c, g, paid, gone, above, more, a1, c1, by omega, by omega, by simp, rfl, rfl, rfl, rfl, rfl, rfl, by simpa using hS'.out, rfl, R4.below (by (repeat (first | assumption | exact Below.refl _ _ | refine ballc ?_ _ | refine bdrew ?_ | refine bdrewN ?_ _ | refine bset ?_ _ _ | refine bsetN ?_ (by omega) _ _ | refine bthen ?_ (by assumption)))), by (repeat (first | assumption | exact Below.refl _ _ | refine ballc ?_ _ | refine bdrew ?_ | refine bdrewN ?_ _ | refine bset ?_ _ _ | refine bsetN ?_ (by omega) _ _ | refine bthen ?_ (by assumption)))⟩, ?_⟩
              simp [intOf]
              omega
        · obtain ⟨d, hd⟩ : ∃ d, k / 80 % 100 = d := ⟨_, rfl⟩
          have d0 : 0 ≤ d := by omega
          have d1 : d ≤ 99 := by omega
          have hgd := mul_bd (a := g) (b := d) (n := 1200) (m := 99) g0 (by omega) d0 d1
          have hgd2 : g * d ≤ 118800 := hgd.2
          have hgd1 := hgd.1
          have hV := Lib.hid (revC_pot (h := g) (c := c) (d := d) g0 (by omega) d0 (by omega))
          have hLm := Lib.hid (pot_LR (h := g) (p := d) g0 (by omega) d0 (by omega))
          have ht := pot_tot (h := g) (c := d) g0 (by omega) d0 (by omega)
          have hS' := Lib.hid (show Sums (j + 1) g d paid gone above (more + (g * d - g * c)) from ⟨by omega, by omega, d0, d1, by omega, by omega, by omega, by omega, by omega⟩)
          have f1 : IntKind.i64.wrap (g * d) = g * d := IntWalk.i64_in _ (by omega)
          have f2 : IntKind.i64.wrap (paid - above + (more + (g * d - g * c)) - gone) = g * d := (IntWalk.i64_in _ (by omega)).trans (by omega)
          have ht1 := ht.1
          have ht2 := ht.2.1
          have hn0 : ¬ k % 4 = 0 := fun h => hin (.inl h)
          have hn1 : ¬ k % 4 = 1 := fun h => hin (.inr h)
          clear ht he hgd hin
          go_wp2_with fail
          refine (std_Revalue_is R1 hL.out (c := d) ⟨by omega, by omega⟩ hV.out hLm.out).mono ?_
          rintro e w1 ⟨⟨a3, c3, rfl, R3⟩, hw1⟩
          have hbel' : Below w.heap.size w w1 := by (repeat (first | assumption | exact Below.refl _ _ | refine ballc ?_ _ | refine bdrew ?_ | refine bdrewN ?_ _ | refine bset ?_ _ _ | refine bsetN ?_ (by omega) _ _ | refine bthen ?_ (by assumption)))
          clear hw1 hcell R1
          go_wp2_with fail
          refine (ref_Total9 a3 c3 (pot g d) _ R3).mono ?_
          rintro e w2 ⟨rfl, hw2⟩
          have R4 := R3.below hw2
          have hbel2 : Below w.heap.size w w2 := by (repeat (first | assumption | exact Below.refl _ _ | refine ballc ?_ _ | refine bdrew ?_ | refine bdrewN ?_ _ | refine bset ?_ _ _ | refine bsetN ?_ (by omega) _ _ | refine bthen ?_ (by assumption)))
          clear hw2 R3
          go_wp2_with fail
          case' roundEnd =>
            refine ⟨⟨j + 1, d, g, paid, gone, above, more + (g * d - g * c), a3, c3, by omega, by omega, by simp, rfl, rfl, rfl, rfl, rfl, rfl, by simpa using hS'.out, rfl, R4.below (by (repeat (first | assumption | exact Below.refl _ _ | refine ballc ?_ _ | refine bdrew ?_ | refine bdrewN ?_ _ | refine bset ?_ _ _ | refine bsetN ?_ (by omega) _ _ | refine bthen ?_ (by assumption)))), by (repeat (first | assumption | exact Below.refl _ _ | refine ballc ?_ _ | refine bdrew ?_ | refine bdrewN ?_ _ | refine bset ?_ _ _ | refine bsetN ?_ (by omega) _ _ | refine bthen ?_ (by assumption)))⟩, ?_⟩
            simp [intOf]
            omega
    · have hx : ¬ (j : Int) < (n : Int) ∨ (j : Int) < (n : Int) ∧ ¬ (j : Int) < 60 := by omega
      clear hlt hat
      rcases hx with hx | ⟨hx, hx2⟩
      all_goals
        go_wp2_with (first | (go_at_call 22; refine (std_awake _).mono ?_; rintro e w' ⟨rfl, hwa⟩))
        go_ret
        exact ⟨rfl, by (repeat (first | assumption | exact Below.refl _ _ | refine ballc ?_ _ | refine bdrew ?_ | refine bdrewN ?_ _ | refine bset ?_ _ _ | refine bsetN ?_ (by omega) _ _ | refine bthen ?_ (by assumption)))⟩
end Go.Proofs.Ytgahhifedgmicaa
