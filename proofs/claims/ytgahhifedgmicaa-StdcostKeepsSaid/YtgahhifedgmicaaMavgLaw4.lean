/-
  The moving average: all that came is what went and what is there. The walk.
-/
import Derived.Test.YtgahhifedgmicaaMavg3
import Derived.Test.YtgahhifedgmicaaMavgP3
set_option linter.unusedVariables false
set_option linter.unusedSimpArgs false
namespace Go.Proofs.Ytgahhifedgmicaa
open Go.RowKit

theorem Row.set3 {w : World} {k : Nat} {a : Option Addr} {n cap : Nat} {zs : List Int} (h : Row w k a n cap zs) {g : Nat} (off : Nat) (u : Lay) (ha : n = 0 ∨ ∀ ad, a = some ad → ad.block ≠ g) : Row (set3 w g off u) k a n cap zs :=
  Row.far (b := g) h (by rw [set3_size]; exact Nat.le_refl _) (fun j hj => by unfold Go.Proofs.Ytgahhifedgmicaa.set3; rw [Below.heap_setCell _ _ _ _ hj, Below.heap_setCell _ _ _ _ hj, Below.heap_setCell _ _ _ _ hj]) ha
/-- Its block, if it has any, lies from B on. -/
def From (B n : Nat) (a : Option Addr) : Prop := n = 0 ∨ ∀ ad, a = some ad → B ≤ ad.block
theorem Hold.from_ {w : World} {B : Nat} {a : Option Addr} {n c : Nat} {l : List Lay} (h : Hold w B (.slice a n c) l) : From B n a := by
  obtain ⟨a', cap', e, -, -, h3⟩ := h
  cases e
  rcases h3 with h3 | ⟨b, off, rfl, h4, -⟩
  · exact .inl h3
  · right; rintro ad e; cases e; exact h4
theorem From.mono {B C n : Nat} {a : Option Addr} (h : From B n a) (hc : C ≤ B) : From C n a := h.imp id fun k ad e => Nat.le_trans hc (k ad e)
theorem From.ne {B n g : Nat} {a : Option Addr} (h : From B n a) (hg : g < B) : n = 0 ∨ ∀ ad, a = some ad → ad.block ≠ g := h.imp id fun k ad e => by have := k ad e; omega
theorem Where.from_ {w : World} {a b : Option Addr} {n c B : Nat} (h : Where w a (.slice b n c)) (ha : ∀ ad, a = some ad → B ≤ ad.block) (hB : B ≤ w.heap.size) : ∀ ad, b = some ad → B ≤ ad.block := by
  rintro ad rfl
  rcases h ad n c rfl with e | e
  · exact ha ad e.symm
  · omega

set_option maxRecDepth 20000 in
set_option maxHeartbeats 10000000 in
theorem MavgPlays_walk (l : Option Addr) (n cap : Nat) (zs : List Int) (w : World) (h : Row w 1 l n cap zs) :
    Calls Try.prog 4 #[.slice l n cap] w fun e w' => e = .returned (.bool true) ∧ Below w.heap.size w w' := by
  have h0 := h
  obtain ⟨hl, hcap, hmax, hall, hat⟩ := h
  unfold maxLen at hmax
  go_enter Try.func4, Try.ntmps4
  go_wp2_with fail
  go_loopw [3, 4, 7] (fun a b i wr => ∃ (j : Nat) (m : List Lay) (a1 a2 : Option Addr) (c1 c2 : Nat) (iq iv ip oq ov op : Int), j ≤ n ∧ j ≤ 100 ∧ i = .int .i64 j ∧ a = .slice a1 m.length c1 ∧ b = .slice a2 m.length c2 ∧ Got m j ∧ Row wr 3 a1 m.length c1 (flat m) ∧ Row wr 3 a2 m.length c2 (flat m) ∧ From (w.heap.size + 2) m.length a1 ∧ (∀ ad, a2 = some ad → w.heap.size + 2 ≤ ad.block) ∧ (0 ≤ iq ∧ iq ≤ 20 * j ∧ 0 ≤ iv ∧ iv ≤ 500 * j ∧ -(100 * j) ≤ ip ∧ ip ≤ 100 * j ∧ oq + qs m = iq ∧ ov + vs m = iv ∧ op + ps m = ip) ∧ Cell3 wr w.heap.size iq iv ip ∧ Cell3 wr (w.heap.size + 1) oq ov op ∧ w.heap.size + 2 ≤ wr.heap.size ∧ Below w.heap.size w wr) (fun _ _ i _ => 100 - (intOf i).toNat)
  case atStart =>
    refine ⟨0, [], none, none, 0, 0, 0, 0, 0, 0, 0, 0, by omega, by omega, rfl, rfl, rfl, Got.nil, Row.nil _ _, Row.nil _ _, .inl rfl, (fun ad e => by cases e), (by simp [qs, vs, ps]), ?_, ?_, (by simp), (by (repeat (first | assumption | exact Below.refl _ _ | refine ballc ?_ _ | refine bdrew ?_ | refine bdrewN ?_ _ | refine bset ?_ _ _ | refine bsetN ?_ (by omega) _ _ | refine bthen ?_ (by assumption))))⟩
    · exact ⟨by simp, by simp, by simp, by simp, by simp, by simp⟩
    · exact ⟨by simp, by simp, by simp, by simp, by simp, by simp⟩
  case round =>
    obtain ⟨j, m, a1, a2, c1, c2, iq, iv, ip, oq, ov, op, hj, hj2, rfl, rfl, rfl, hG, R1, R2, F1, F2, hI, CI, CO, hs2, hbel⟩ := hrel
    have hsz := hbel.size
    have hGl := hG.len
    have hbd := hG.bd
    by_cases hlt : j < n ∧ j < 100
    · obtain ⟨hlt, hlt2⟩ := hlt
      obtain ⟨b, off, rfl, hb, hc⟩ : ∃ b off, l = some ⟨b, off, none⟩ ∧ b < w.heap.size ∧ CellsAt w b off zs := by
        rcases hat with h0 | h0
        · omega
        · exact h0
      have hcell : wr.cell? ⟨b, off + j, none⟩ = some (.int .i64 (zs.getD j 0)) := (hbel.cell hb).trans (hc j (by omega))
      have hlt' : (j : Int) < (n : Int) := by omega
      have hlt2' : (j : Int) < 100 := by omega
      have hL9 : m.length < 30 := by omega
      clear hc hat h0
      generalize zs.getD j 0 = z at *
      have hk := place_bd (v := z) (n := 1073741824) (by omega)
      go_wp2_with fail
      refine (Place_calls _ _ _ (by omega) (by omega)).mono ?_
      rintro e w' ⟨rfl, rfl⟩
      generalize z % 1073741824 = k at *
      obtain ⟨k0, k1⟩ := hk
      by_cases h5 : k % 2 = 0
      · obtain ⟨q, hq⟩ : ∃ q, 1 + k / 2 % 20 = q := ⟨_, rfl⟩
        obtain ⟨v, hv⟩ : ∃ v, k / 40 % 500 = v := ⟨_, rfl⟩
        obtain ⟨p, hp⟩ : ∃ p, k / 20000 % 200 - 100 = p := ⟨_, rfl⟩
        have bx : 1 ≤ q ∧ q ≤ 20 ∧ 0 ≤ v ∧ v ≤ 499 ∧ -100 ≤ p ∧ p ≤ 99 := by omega
        obtain ⟨x0, x1, x2, x3, x4, x5⟩ := bx
        have hx : AllI [(⟨q, v, p⟩ : Lay).q, (⟨q, v, p⟩ : Lay).v, (⟨q, v, p⟩ : Lay).p] := by
          intro y hy
          simp at hy
          rcases hy with rfl | rfl | rfl <;> exact ⟨by omega, by omega⟩
        obtain ⟨m', hIn, hG', eq1, eq2, eq3, hl1⟩ : ∃ m', inM m ⟨q, v, p⟩ = (m', 0) ∧ Got m' (j + 1) ∧ qs m' = qs m + q ∧ vs m' = vs m + v ∧ ps m' = ps m + p ∧ m'.length = 1 := by
          obtain ⟨hIn, hG'⟩ := hG.in_ (x := ⟨q, v, p⟩) (by omega) x0 x1 x2 x3 x4 x5
          exact ⟨_, hIn, hG', by simp [qs], by simp [vs], by simp [ps], rfl⟩
        have hIh := Lib.hid hIn
        have hGh := Lib.hid hG
        have hGh' := Lib.hid hG'
        have t1 : (tot m').q = qs m' := by rw [hG'.lr.tot.1]
        have t2 : (tot m').v = vs m' := by rw [hG'.lr.tot.1]
        have t3 : (tot m').p = ps m' := by rw [hG'.lr.tot.1]
        have t4 : totE m' = 0 := hG'.lr.tot.2
        have hl2 : ¬ (1 : Int) < (m'.length : Int) := by omega
        clear hIn hG hG' hl1
        have f1 : IntKind.i64.wrap (iq + q) = iq + q := IntWalk.i64_in _ (by omega)
        have f2 : IntKind.i64.wrap (iv + v) = iv + v := IntWalk.i64_in _ (by omega)
        have f3 : IntKind.i64.wrap (ip + p) = ip + p := IntWalk.i64_in _ (by omega)
        have f4 : IntKind.i64.wrap (iq + q - oq) = (tot m').q := (IntWalk.i64_in _ (by omega)).trans (by omega)
        have f5 : IntKind.i64.wrap (iv + v - ov) = (tot m').v := (IntWalk.i64_in _ (by omega)).trans (by omega)
        have f6 : IntKind.i64.wrap (ip + p - op) = (tot m').p := (IntWalk.i64_in _ (by omega)).trans (by omega)
        have hI' := Lib.hid (show 0 ≤ iq + q ∧ iq + q ≤ 20 * (j + 1) ∧ 0 ≤ iv + v ∧ iv + v ≤ 500 * (j + 1) ∧ -(100 * (j + 1)) ≤ ip + p ∧ ip + p ≤ 100 * (j + 1) ∧ oq + qs m' = iq + q ∧ ov + vs m' = iv + v ∧ op + ps m' = ip + p by omega)
        clear hI hbd eq1 eq2 eq3 t1 t2 t3 t4
        have hg1 : Got m j → LR m := fun h => h.lr
        go_wp2_with fail
        refine (mavg_In a1 c1 m ⟨q, v, p⟩ _ (R1.below (by (repeat (first | assumption | exact Below.refl _ _ | refine ballc ?_ _ | refine bdrew ?_ | refine bdrewN ?_ _ | refine bset ?_ _ _ | refine bsetN ?_ (by omega) _ _ | refine bthen ?_ (by assumption))))) (by omega) hx).mono ?_
        rw [hIh.out]
        rintro e w1 ⟨v1, rfl, hh, hw1⟩
        have hA' : AllI (flat m') := flat_ok hGh'.out.lr.ok
        obtain ⟨a3, c3, rfl, R3⟩ := hh.row hA'
        have F3 := hh.from_.mono (show w.heap.size + 2 ≤ _ by simp; omega)
        obtain ⟨X, lX, -⟩ := res3 hw1
        obtain ⟨r0, r1, r2, z0, z1, z2⟩ := id X
        clear hh
        go_wp2_with fail
        refine (ref_In10w a2 c2 m ⟨q, v, p⟩ _ (R2.below (by (repeat (first | assumption | exact Below.refl _ _ | refine ballc ?_ _ | refine bdrew ?_ | refine bdrewN ?_ _ | refine bset ?_ _ _ | refine bsetN ?_ (by omega) _ _ | refine bthen ?_ (by assumption))))) hL9 hx).mono ?_
        rw [hIh.out]
        rintro e w2 ⟨v2, rfl, ⟨a4, c4, rfl, R4⟩, hw2, hwh⟩
        obtain ⟨X, lX, -⟩ := Cell3.next X lX hw2
        have F4 := Where.from_ hwh F2 (by have := hw1.size; simp at this; omega)
        clear hwh r0 r1 r2 z0 z1 z2
        go_wp2_with fail
        refine (same_is (R3.below (by (repeat (first | assumption | exact Below.refl _ _ | refine ballc ?_ _ | refine bdrew ?_ | refine bdrewN ?_ _ | refine bset ?_ _ _ | refine bsetN ?_ (by omega) _ _ | refine bthen ?_ (by assumption))))) R4).mono ?_
        rintro e w3 ⟨rfl, hw3⟩
        obtain ⟨X, lX, -⟩ := Cell3.next X lX hw3
        obtain ⟨r0, r1, r2, z0, z1, z2⟩ := id X
        have hb3 : Below wr.heap.size wr w3 ∧ Below w1.heap.size w1 w3 ∧ Below w.heap.size w w3 := ⟨by (repeat (first | assumption | exact Below.refl _ _ | refine ballc ?_ _ | refine bdrew ?_ | refine bdrewN ?_ _ | refine bset ?_ _ _ | refine bsetN ?_ (by omega) _ _ | refine bthen ?_ (by assumption))), by (repeat (first | assumption | exact Below.refl _ _ | refine ballc ?_ _ | refine bdrew ?_ | refine bdrewN ?_ _ | refine bset ?_ _ _ | refine bsetN ?_ (by omega) _ _ | refine bthen ?_ (by assumption))), by (repeat (first | assumption | exact Below.refl _ _ | refine ballc ?_ _ | refine bdrew ?_ | refine bdrewN ?_ _ | refine bset ?_ _ _ | refine bsetN ?_ (by omega) _ _ | refine bthen ?_ (by assumption)))⟩
        have R5 := R3.below hb3.2.1
        have R6 := R4.below hw3
        have hbel3 := hb3.2.2
        replace hb3 := hb3.1
        obtain ⟨CI, lI, -⟩ := Cell3.next CI (by omega) hb3
        obtain ⟨CO, lO, -⟩ := Cell3.next CO (by omega) hb3
        obtain ⟨i0, i1, i2, g0, g1, g2⟩ := id CI
        have hs3 := hb3.size
        clear hw1 hw2 hw3 hcell R3 R4
        go_wp2_with fail
        refine (ref_Total9 a3 c3 m' (set3 w3 w.heap.size 0 ⟨iq + q, iv + v, ip + p⟩) (R5.set3 0 ⟨iq + q, iv + v, ip + p⟩ (F3.ne (by omega)))).mono ?_
        rintro e w4 ⟨rfl, hw4⟩
        have CI2 : Cell3 (set3 w3 w.heap.size 0 ⟨iq + q, iv + v, ip + p⟩) w.heap.size (iq + q) (iv + v) (ip + p) := CI.put ⟨iq + q, iv + v, ip + p⟩
        have CO2 := CO.sets (g := w.heap.size) (off := 0) (by omega) ⟨iq + q, iv + v, ip + p⟩
        have R7 := (R5.set3 0 ⟨iq + q, iv + v, ip + p⟩ (F3.ne (g := w.heap.size) (by omega))).below hw4
        have R8 := (R6.set3 0 ⟨iq + q, iv + v, ip + p⟩ ((show From (w.heap.size + 2) m'.length a4 from .inr F4).ne (g := w.heap.size) (by omega))).below hw4
        have hs4 := hw4.size
        rw [set3_size] at hs4
        have hbel4 : Below w.heap.size w w4 := (set3_below hbel3 (Nat.le_refl _) 0 _).trans (hw4.mono (by rw [set3_size]; omega))
        obtain ⟨CI3, -, -⟩ := Cell3.next CI2 (by rw [set3_size]; omega) hw4
        obtain ⟨CO3, -, -⟩ := Cell3.next CO2 (by rw [set3_size]; omega) hw4
        clear hw4 CI2 CO2 R5 R6 i0 i1 i2 g0 g1 g2 r0 r1 r2 z0 z1 z2
        obtain ⟨i0, i1, i2, -, -, -⟩ := id CI3
        obtain ⟨o0, o1, o2, -, -, -⟩ := id CO3
        have lt1 : w.heap.size < w4.heap.size := by omega
        have lt2 : w.heap.size + 1 < w4.heap.size := by omega
        have j0 : ∀ o : Obj, (w4.alloc o).cell? ⟨w.heap.size, 0, none⟩ = some (.int .i64 (iq + q)) := fun o => (World.cell?_alloc_lt _ _ _ lt1).trans i0
        have j1 : ∀ o : Obj, (w4.alloc o).cell? ⟨w.heap.size, 1, none⟩ = some (.int .i64 (iv + v)) := fun o => (World.cell?_alloc_lt _ _ _ lt1).trans i1
        have j2 : ∀ o : Obj, (w4.alloc o).cell? ⟨w.heap.size, 2, none⟩ = some (.int .i64 (ip + p)) := fun o => (World.cell?_alloc_lt _ _ _ lt1).trans i2
        have k0' : ∀ o : Obj, (w4.alloc o).cell? ⟨w.heap.size + 1, 0, none⟩ = some (.int .i64 oq) := fun o => (World.cell?_alloc_lt _ _ _ lt2).trans o0
        have k1' : ∀ o : Obj, (w4.alloc o).cell? ⟨w.heap.size + 1, 1, none⟩ = some (.int .i64 ov) := fun o => (World.cell?_alloc_lt _ _ _ lt2).trans o1
        have k2' : ∀ o : Obj, (w4.alloc o).cell? ⟨w.heap.size + 1, 2, none⟩ = some (.int .i64 op) := fun o => (World.cell?_alloc_lt _ _ _ lt2).trans o2
        clear i0 i1 i2 o0 o1 o2
        go_wp2_with fail
        case' roundEnd =>
          refine ⟨⟨j + 1, m', a3, a4, c3, c4, iq + q, iv + v, ip + p, oq, ov, op, by omega, by omega, by simp, rfl, rfl, by simpa using hGh'.out, R7.below (by (repeat (first | assumption | exact Below.refl _ _ | refine ballc ?_ _ | refine bdrew ?_ | refine bdrewN ?_ _ | refine bset ?_ _ _ | refine bsetN ?_ (by omega) _ _ | refine bthen ?_ (by assumption)))), R8.below (by (repeat (first | assumption | exact Below.refl _ _ | refine ballc ?_ _ | refine bdrew ?_ | refine bdrewN ?_ _ | refine bset ?_ _ _ | refine bsetN ?_ (by omega) _ _ | refine bthen ?_ (by assumption)))), F3, F4, by simpa using hI'.out, (Cell3.next CI3 lt1 (by (repeat (first | assumption | exact Below.refl _ _ | refine ballc ?_ _ | refine bdrew ?_ | refine bdrewN ?_ _ | refine bset ?_ _ _ | refine bsetN ?_ (by omega) _ _ | refine bthen ?_ (by assumption))))).1, (Cell3.next CO3 lt2 (by (repeat (first | assumption | exact Below.refl _ _ | refine ballc ?_ _ | refine bdrew ?_ | refine bdrewN ?_ _ | refine bset ?_ _ _ | refine bsetN ?_ (by omega) _ _ | refine bthen ?_ (by assumption))))).1, by simp; omega, by (repeat (first | assumption | exact Below.refl _ _ | refine ballc ?_ _ | refine bdrew ?_ | refine bdrewN ?_ _ | refine bset ?_ _ _ | refine bsetN ?_ (by omega) _ _ | refine bthen ?_ (by assumption)))⟩, ?_⟩
          simp [intOf]
          omega
      · obtain ⟨q, hq⟩ : ∃ q, 1 + k / 2 % 25 = q := ⟨_, rfl⟩
        have x0 : 1 ≤ q := by omega
        have x1 : q ≤ 25 := by omega
        have hqI : I64 q := ⟨by omega, by omega⟩
        obtain ⟨m', y, e', hO⟩ : ∃ m' y e', outS m q = (m', y, e') := ⟨_, _, _, rfl⟩
        obtain ⟨hG', eq1, eq2, eq3⟩ := hG.out (by omega) x0 hO
        have hbd' := hG'.bd
        have hl1 := hG'.len
        have hOh := Lib.hid hO
        have hGh := Lib.hid hG
        have hGh' := Lib.hid hG'
        have t1 : (tot m').q = qs m' := by rw [hG'.lr.tot.1]
        have t2 : (tot m').v = vs m' := by rw [hG'.lr.tot.1]
        have t3 : (tot m').p = ps m' := by rw [hG'.lr.tot.1]
        have hl2 : ¬ (1 : Int) < (m'.length : Int) := by omega
        have f1 : IntKind.i64.wrap (oq + y.q) = oq + y.q := IntWalk.i64_in _ (by omega)
        have f2 : IntKind.i64.wrap (ov + y.v) = ov + y.v := IntWalk.i64_in _ (by omega)
        have f3 : IntKind.i64.wrap (op + y.p) = op + y.p := IntWalk.i64_in _ (by omega)
        have f4 : IntKind.i64.wrap (iq - (oq + y.q)) = (tot m').q := (IntWalk.i64_in _ (by omega)).trans (by omega)
        have f5 : IntKind.i64.wrap (iv - (ov + y.v)) = (tot m').v := (IntWalk.i64_in _ (by omega)).trans (by omega)
        have f6 : IntKind.i64.wrap (ip - (op + y.p)) = (tot m').p := (IntWalk.i64_in _ (by omega)).trans (by omega)
        have hI' := Lib.hid (show 0 ≤ iq ∧ iq ≤ 20 * (j + 1) ∧ 0 ≤ iv ∧ iv ≤ 500 * (j + 1) ∧ -(100 * (j + 1)) ≤ ip ∧ ip ≤ 100 * (j + 1) ∧ oq + y.q + qs m' = iq ∧ ov + y.v + vs m' = iv ∧ op + y.p + ps m' = ip by omega)
        clear hO hG hG' hI hbd hbd' eq1 eq2 eq3 t1 t2 t3 hl1
        go_wp2_with fail
        refine (mavg_Out a1 c1 m _ (R1.below (by (repeat (first | assumption | exact Below.refl _ _ | refine ballc ?_ _ | refine bdrew ?_ | refine bdrewN ?_ _ | refine bset ?_ _ _ | refine bsetN ?_ (by omega) _ _ | refine bthen ?_ (by assumption))))) hGh.out.lr q hqI).mono ?_
        rw [hOh.out]
        rintro e w1 ⟨v1, rfl, hh, hw1⟩
        have hA' : AllI (flat m') := flat_ok hGh'.out.lr.ok
        obtain ⟨a3, c3, rfl, R3⟩ := hh.row hA'
        have F3 := hh.from_.mono (show w.heap.size + 2 ≤ _ by first | exact hs2 | (simp; omega))
        clear hh
        go_wp2_with fail
        refine (ref_Out10w (R2.below (by (repeat (first | assumption | exact Below.refl _ _ | refine ballc ?_ _ | refine bdrew ?_ | refine bdrewN ?_ _ | refine bset ?_ _ _ | refine bsetN ?_ (by omega) _ _ | refine bthen ?_ (by assumption))))) hGh.out.lr hqI hOh.out).mono ?_
        rintro e w2 ⟨⟨a4, c4, rfl, R4, hwh⟩, hw2⟩
        have F4 := Where.from_ hwh F2 (by have := hw1.size; simp at this ⊢; omega)
        obtain ⟨Y, lY, hl2', hl3', hl4'⟩ := res3 hw2
        obtain ⟨r0, r1, r2, z0, z1, z2⟩ := id Y
        clear hwh
        go_wp2_with fail
        refine (sameLayer_is y _).mono ?_
        rintro e w3 ⟨rfl, hw3⟩
        have hw23 : Below w2.heap.size w2 w3 := by (repeat (first | assumption | exact Below.refl _ _ | refine ballc ?_ _ | refine bdrew ?_ | refine bdrewN ?_ _ | refine bset ?_ _ _ | refine bsetN ?_ (by omega) _ _ | refine bthen ?_ (by assumption)))
        obtain ⟨Y, lY, -⟩ := Cell3.next Y lY hw23
        clear hw23 r0 r1 r2 z0 z1 z2 hl2' hl3' hl4'
        go_wp2_with fail
        refine (same_is (R3.below (by (repeat (first | assumption | exact Below.refl _ _ | refine ballc ?_ _ | refine bdrew ?_ | refine bdrewN ?_ _ | refine bset ?_ _ _ | refine bsetN ?_ (by omega) _ _ | refine bthen ?_ (by assumption))))) (R4.below (by (repeat (first | assumption | exact Below.refl _ _ | refine ballc ?_ _ | refine bdrew ?_ | refine bdrewN ?_ _ | refine bset ?_ _ _ | refine bsetN ?_ (by omega) _ _ | refine bthen ?_ (by assumption)))))).mono ?_
        rintro e w4 ⟨rfl, hw4⟩
        obtain ⟨Y, lY, -⟩ := Cell3.next Y lY hw4
        obtain ⟨r0, r1, r2, z0, z1, z2⟩ := id Y
        have hb3 : Below wr.heap.size wr w4 ∧ Below w1.heap.size w1 w4 ∧ Below w2.heap.size w2 w4 ∧ Below w.heap.size w w4 := ⟨by (repeat (first | assumption | exact Below.refl _ _ | refine ballc ?_ _ | refine bdrew ?_ | refine bdrewN ?_ _ | refine bset ?_ _ _ | refine bsetN ?_ (by omega) _ _ | refine bthen ?_ (by assumption))), by (repeat (first | assumption | exact Below.refl _ _ | refine ballc ?_ _ | refine bdrew ?_ | refine bdrewN ?_ _ | refine bset ?_ _ _ | refine bsetN ?_ (by omega) _ _ | refine bthen ?_ (by assumption))), by (repeat (first | assumption | exact Below.refl _ _ | refine ballc ?_ _ | refine bdrew ?_ | refine bdrewN ?_ _ | refine bset ?_ _ _ | refine bsetN ?_ (by omega) _ _ | refine bthen ?_ (by assumption))), by (repeat (first | assumption | exact Below.refl _ _ | refine ballc ?_ _ | refine bdrew ?_ | refine bdrewN ?_ _ | refine bset ?_ _ _ | refine bsetN ?_ (by omega) _ _ | refine bthen ?_ (by assumption)))⟩
        have R5 := R3.below hb3.2.1
        have R6 := R4.below hb3.2.2.1
        have hbel3 := hb3.2.2.2
        replace hb3 := hb3.1
        obtain ⟨CI, lI, -⟩ := Cell3.next CI (by omega) hb3
        obtain ⟨CO, lO, -⟩ := Cell3.next CO (by omega) hb3
        obtain ⟨i0, i1, i2, g0, g1, g2⟩ := id CO
        have hs3 := hb3.size
        clear hw1 hw2 hw3 hw4 hcell R3 R4
        go_wp2_with fail
        refine (ref_Total9 a3 c3 m' (set3 w4 (w.heap.size + 1) 0 ⟨oq + y.q, ov + y.v, op + y.p⟩) (R5.set3 0 ⟨oq + y.q, ov + y.v, op + y.p⟩ (F3.ne (by omega)))).mono ?_
        rintro e w5 ⟨rfl, hw5⟩
        have CO2 : Cell3 (set3 w4 (w.heap.size + 1) 0 ⟨oq + y.q, ov + y.v, op + y.p⟩) (w.heap.size + 1) (oq + y.q) (ov + y.v) (op + y.p) := CO.put ⟨oq + y.q, ov + y.v, op + y.p⟩
        have CI2 := CI.sets (g := w.heap.size + 1) (off := 0) (by omega) ⟨oq + y.q, ov + y.v, op + y.p⟩
        have R7 := (R5.set3 0 ⟨oq + y.q, ov + y.v, op + y.p⟩ (F3.ne (g := w.heap.size + 1) (by omega))).below hw5
        have R8 := (R6.set3 0 ⟨oq + y.q, ov + y.v, op + y.p⟩ ((show From (w.heap.size + 2) m'.length a4 from .inr F4).ne (g := w.heap.size + 1) (by omega))).below hw5
        have hs4 := hw5.size
        rw [set3_size] at hs4
        have hbel4 : Below w.heap.size w w5 := (set3_below hbel3 (Nat.le_succ _) 0 _).trans (hw5.mono (by rw [set3_size]; omega))
        obtain ⟨CI3, -, -⟩ := Cell3.next CI2 (by rw [set3_size]; omega) hw5
        obtain ⟨CO3, -, -⟩ := Cell3.next CO2 (by rw [set3_size]; omega) hw5
        clear hw5 CI2 CO2 R5 R6 i0 i1 i2 g0 g1 g2 r0 r1 r2 z0 z1 z2
        obtain ⟨i0, i1, i2, -, -, -⟩ := id CI3
        obtain ⟨o0, o1, o2, -, -, -⟩ := id CO3
        have lt1 : w.heap.size < w5.heap.size := by omega
        have lt2 : w.heap.size + 1 < w5.heap.size := by omega
        have j0 : ∀ o : Obj, (w5.alloc o).cell? ⟨w.heap.size, 0, none⟩ = some (.int .i64 iq) := fun o => (World.cell?_alloc_lt _ _ _ lt1).trans i0
        have j1 : ∀ o : Obj, (w5.alloc o).cell? ⟨w.heap.size, 1, none⟩ = some (.int .i64 iv) := fun o => (World.cell?_alloc_lt _ _ _ lt1).trans i1
        have j2 : ∀ o : Obj, (w5.alloc o).cell? ⟨w.heap.size, 2, none⟩ = some (.int .i64 ip) := fun o => (World.cell?_alloc_lt _ _ _ lt1).trans i2
        have k0' : ∀ o : Obj, (w5.alloc o).cell? ⟨w.heap.size + 1, 0, none⟩ = some (.int .i64 (oq + y.q)) := fun o => (World.cell?_alloc_lt _ _ _ lt2).trans o0
        have k1' : ∀ o : Obj, (w5.alloc o).cell? ⟨w.heap.size + 1, 1, none⟩ = some (.int .i64 (ov + y.v)) := fun o => (World.cell?_alloc_lt _ _ _ lt2).trans o1
        have k2' : ∀ o : Obj, (w5.alloc o).cell? ⟨w.heap.size + 1, 2, none⟩ = some (.int .i64 (op + y.p)) := fun o => (World.cell?_alloc_lt _ _ _ lt2).trans o2
        clear i0 i1 i2 o0 o1 o2
        go_wp2_with fail
        case' roundEnd =>
          refine ⟨⟨j + 1, m', a3, a4, c3, c4, iq, iv, ip, oq + y.q, ov + y.v, op + y.p, by omega, by omega, by simp, rfl, rfl, by simpa using hGh'.out, R7.below (by (repeat (first | assumption | exact Below.refl _ _ | refine ballc ?_ _ | refine bdrew ?_ | refine bdrewN ?_ _ | refine bset ?_ _ _ | refine bsetN ?_ (by omega) _ _ | refine bthen ?_ (by assumption)))), R8.below (by (repeat (first | assumption | exact Below.refl _ _ | refine ballc ?_ _ | refine bdrew ?_ | refine bdrewN ?_ _ | refine bset ?_ _ _ | refine bsetN ?_ (by omega) _ _ | refine bthen ?_ (by assumption)))), F3, F4, by simpa using hI'.out, (Cell3.next CI3 lt1 (by (repeat (first | assumption | exact Below.refl _ _ | refine ballc ?_ _ | refine bdrew ?_ | refine bdrewN ?_ _ | refine bset ?_ _ _ | refine bsetN ?_ (by omega) _ _ | refine bthen ?_ (by assumption))))).1, (Cell3.next CO3 lt2 (by (repeat (first | assumption | exact Below.refl _ _ | refine ballc ?_ _ | refine bdrew ?_ | refine bdrewN ?_ _ | refine bset ?_ _ _ | refine bsetN ?_ (by omega) _ _ | refine bthen ?_ (by assumption))))).1, by simp; omega, by (repeat (first | assumption | exact Below.refl _ _ | refine ballc ?_ _ | refine bdrew ?_ | refine bdrewN ?_ _ | refine bset ?_ _ _ | refine bsetN ?_ (by omega) _ _ | refine bthen ?_ (by assumption)))⟩, ?_⟩
          simp [intOf]
          omega
    · have hx : ¬ (j : Int) < (n : Int) ∨ (j : Int) < (n : Int) ∧ ¬ (j : Int) < 100 := by omega
      clear hlt hat
      rcases hx with hx | ⟨hx, hx2⟩
      all_goals
        go_wp2_with (first | (go_at_call 10; refine (mavg_awake _).mono ?_; rintro e w' ⟨rfl, hwa⟩))
        go_ret
        exact ⟨rfl, by (repeat (first | assumption | exact Below.refl _ _ | refine ballc ?_ _ | refine bdrew ?_ | refine bdrewN ?_ _ | refine bset ?_ _ _ | refine bsetN ?_ (by omega) _ _ | refine bthen ?_ (by assumption)))⟩
end Go.Proofs.Ytgahhifedgmicaa
