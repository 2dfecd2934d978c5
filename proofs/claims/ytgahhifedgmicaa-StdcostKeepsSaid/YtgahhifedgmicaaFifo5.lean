/-
  The document's Total, Swing, Right, SameLayer, Same.
-/
import Derived.Test.YtgahhifedgmicaaFifo4
import Derived.Deep.QuietTactic
import Derived.BigQuiet
set_option linter.unusedVariables false
set_option linter.unusedSimpArgs false
namespace Go.Proofs.Ytgahhifedgmicaa
open Go.RowKit

/-- Three cells of a block, not frozen. -/
structure Cell3 (w : World) (b : Nat) (x y z : Int) : Prop where
  c0 : w.cell? ⟨b, 0, none⟩ = some (.int .i64 x)
  c1 : w.cell? ⟨b, 1, none⟩ = some (.int .i64 y)
  c2 : w.cell? ⟨b, 2, none⟩ = some (.int .i64 z)
  f0 : w.frozen? ⟨b, 0, none⟩ = false
  f1 : w.frozen? ⟨b, 1, none⟩ = false
  f2 : w.frozen? ⟨b, 2, none⟩ = false

theorem ref_AddQ (a b : Int) (w : World) : Calls Try.prog 27 #[.int .i64 a, .int .i64 b] w fun e w' => e = .returned (.tuple #[.int .i64 (addV a b), .int .i64 (addE a b)]) ∧ w' = w :=
  (ref_Add a b w).mono fun _ _ h => ⟨h.1, h.2.symm⟩

theorem quiet_same2 {P : Program} {f : FuncId} {args : Array Value} {w : World} {k n : Nat} {v : Value}
    (h : Calls P f args (w.drewN (k + n)) fun e w' => e = .returned v ∧ w' = w.drewN (k + n)) : Calls P f args (w.drewN (k + n)) fun e w'' => e = .returned v ∧ ∃ m, w'' = (w.drewN k).drewN m :=
  h.mono fun _ _ ⟨he, hm⟩ => ⟨he, n, by rw [hm, World.drewN_drewN]⟩

theorem bad_of {zs : List Int} {k : Nat} (e : sumGo 0 (zs.take k) = none) : sumE zs = 2 := by simp [sumE, sumGo_none e]
theorem bad_1 {l : List Lay} {k : Nat} (e : sumGo 0 ((l.map (·.q)).take k) = none) : totOk l = false := by simp [totOk, bad_of e]
theorem bad_2 {l : List Lay} {k : Nat} (e : sumGo 0 ((l.map (·.v)).take k) = none) : totOk l = false := by simp [totOk, bad_of e]
theorem bad_3 {l : List Lay} {k : Nat} (e : sumGo 0 ((l.map (·.p)).take k) = none) : totOk l = false := by simp [totOk, bad_of e]

theorem sumGo_lay {l : List Lay} {j : Nat} {x : Lay} {f : Lay → Int} {n : Int} (hx : l[j]? = some x) (e : sumGo 0 ((l.map f).take j) = some n) :
    sumGo 0 ((l.map f).take (j + 1)) = if addOk n (f x) then some (n + f x) else none := by
  have hj : j < (l.map f).length := by
    rcases Nat.lt_or_ge j l.length with h | h
    · simpa using h
    · rw [List.getElem?_eq_none h] at hx; cases hx
  rw [sumGo_take hj e]
  have : (l.map f).getD j 0 = f x := by rw [List.getD_eq_getElem?_getD, List.getElem?_map, hx]; rfl
  rw [this]

theorem ref_SameLayer (x y : Lay) (w : World) :
    Calls Try.prog 16 #[x.val, y.val] w fun e w' => e = .returned (.bool (decide (x.q = y.q) && decide (x.v = y.v) && decide (x.p = y.p))) ∧ Below w.heap.size w w' := by
  unfold Lay.val
  go_enter Try.func16, Try.ntmps16
  try simp only [List.append_eq, List.cons_append, List.nil_append]
  go_wp2
  all_goals (go_ret; exact ⟨ret_bool (by rw [Bool.eq_iff_iff]; simp_all), by (repeat (first | assumption | exact Below.refl _ _ | refine ballc ?_ _ | refine bdrew ?_ | refine bdrewN ?_ _ | refine bset ?_ _ _ | refine bsetN ?_ (by omega) _ _ | refine bthen ?_ (by assumption)))⟩)

set_option maxHeartbeats 1000000 in
theorem ref_Total9 (a : Option Addr) (cap : Nat) (l : List Lay) (w : World) (h : Row w 3 a l.length cap (flat l)) :
    Calls Try.prog 18 #[.slice a l.length cap] w fun e w' => e = .returned (.tuple #[(tot l).val, .int .i64 (totE l)]) ∧ Below w.heap.size w w' := by
  obtain ⟨hl, hcap, hmax, hall, hat⟩ := h
  unfold maxLen at hmax
  go_enter Try.func18, Try.ntmps18
  obtain ⟨hq, hv, hp⟩ := flat_all hall
  go_wp2
  go_loopw [5] (fun i wr => ∃ (j : Nat) (q v p : Int), j ≤ l.length ∧ i = .int .i64 j ∧ sumGo 0 ((l.map (·.q)).take j) = some q ∧ sumGo 0 ((l.map (·.v)).take j) = some v ∧ sumGo 0 ((l.map (·.p)).take j) = some p ∧
    Cell3 wr w.heap.size 0 0 0 ∧ Cell3 wr (w.heap.size + 1) q v p ∧ w.heap.size + 2 ≤ wr.heap.size ∧ Below w.heap.size w wr) (fun i _ => l.length - (intOf i).toNat)
  case atStart => exact ⟨0, 0, 0, 0, by omega, rfl, rfl, rfl, rfl, ⟨by simp, by simp, by simp, by simp, by simp, by simp⟩, ⟨by simp, by simp, by simp, by simp, by simp, by simp⟩, by simp, by (repeat (first | assumption | exact Below.refl _ _ | refine ballc ?_ _ | refine bdrew ?_ | refine bdrewN ?_ _ | refine bset ?_ _ _ | refine bsetN ?_ (by omega) _ _ | refine bthen ?_ (by assumption)))⟩
  case round =>
    obtain ⟨j, q, v, p, hj, rfl, s1, s2, s3, ⟨r0, r1, r2, z0, z1, z2⟩, ⟨y0, y1, y2, x0, x1, x2⟩, hs2, hbel⟩ := hrel
    have hsz := hbel.size
    by_cases hlt : j < l.length
    · obtain ⟨b, off, rfl, hb, hc⟩ : ∃ b off, a = some ⟨b, off, none⟩ ∧ b < w.heap.size ∧ CellsAt w b off (flat l) := by
        rcases hat with h0 | h0
        · omega
        · exact h0
      obtain ⟨x, hx⟩ : ∃ x, l[j]? = some x := ⟨l[j], by simp [hlt]⟩
      obtain ⟨c0, c1, c2⟩ := lay_cells hc hx hb hbel
      have hlt' : (j : Int) < (l.length : Int) := by omega
      have t1 := sumGo_lay (f := (·.q)) hx s1
      have t2 := sumGo_lay (f := (·.v)) hx s2
      have t3 := sumGo_lay (f := (·.p)) hx s3
      have hx := Lib.hid hx
      clear hc hat s1 s2 s3
      have t1 := Lib.hid t1
      have t2 := Lib.hid t2
      have t3 := Lib.hid t3
      go_wp2_with fail
      go_quiet ((go_at_call 27; refine Calls.quiet_of_same (ref_AddQ _ _ _)))
      change (wr.drewN nq).cell? _ = _ at y0 y1 y2 r0 r1 r2 c0 c1 c2
      change (wr.drewN nq).frozen? _ = _ at x0 x1 x2 z0 z1 z2
      change _ ≤ (wr.drewN nq).heap.size at hs2 hsz
      replace hbel := bdrewN hbel nq
      generalize wr.drewN nq = wr at *
      go_wp2_with fail
      go_quiet ((go_at_call 27; refine Calls.quiet_of_same (ref_AddQ _ _ _)))
      change (wr.drewN nq).cell? _ = _ at y0 y1 y2 r0 r1 r2 c0 c1 c2
      change (wr.drewN nq).frozen? _ = _ at x0 x1 x2 z0 z1 z2
      change _ ≤ (wr.drewN nq).heap.size at hs2 hsz
      replace hbel := bdrewN hbel nq
      generalize wr.drewN nq = wr at *
      go_wp2_with fail
      go_quiet ((go_at_call 27; refine Calls.quiet_of_same (ref_AddQ _ _ _)))
      change (wr.drewN nq).cell? _ = _ at y0 y1 y2 r0 r1 r2 c0 c1 c2
      change (wr.drewN nq).frozen? _ = _ at x0 x1 x2 z0 z1 z2
      change _ ≤ (wr.drewN nq).heap.size at hs2 hsz
      replace hbel := bdrewN hbel nq
      generalize wr.drewN nq = wr at *
      cases k1 : addOk q x.q
      · have k5 := addV_of_not k1
        go_wp2_with fail
        have ht := tot_no (l := l) (bad_1 (by have := t1.out; rw [this, k1]; rfl))
        exact bodyPost_ret (v := .tuple #[Lay.zero.val, .int .i64 2]) (by simp [results, Try.results18, go_sem, r0, r1, r2, z0, z1, z2]) rfl ⟨by rw [ht.1, ht.2], by (repeat (first | assumption | exact Below.refl _ _ | refine ballc ?_ _ | refine bdrew ?_ | refine bdrewN ?_ _ | refine bset ?_ _ _ | refine bsetN ?_ (by omega) _ _ | refine bthen ?_ (by assumption)))⟩
      have m1 := addV_of k1
      cases k2 : addOk v x.v
      · have k5 := addV_of_not k2
        go_wp2_with fail
        have ht := tot_no (l := l) (bad_2 (by have := t2.out; rw [this, k2]; rfl))
        exact bodyPost_ret (v := .tuple #[Lay.zero.val, .int .i64 2]) (by simp [results, Try.results18, go_sem, r0, r1, r2, z0, z1, z2]) rfl ⟨by rw [ht.1, ht.2], by (repeat (first | assumption | exact Below.refl _ _ | refine ballc ?_ _ | refine bdrew ?_ | refine bdrewN ?_ _ | refine bset ?_ _ _ | refine bsetN ?_ (by omega) _ _ | refine bthen ?_ (by assumption)))⟩
      have m2 := addV_of k2
      cases k3 : addOk p x.p
      · have k5 := addV_of_not k3
        go_wp2_with fail
        have ht := tot_no (l := l) (bad_3 (by have := t3.out; rw [this, k3]; rfl))
        exact bodyPost_ret (v := .tuple #[Lay.zero.val, .int .i64 2]) (by simp [results, Try.results18, go_sem, r0, r1, r2, z0, z1, z2]) rfl ⟨by rw [ht.1, ht.2], by (repeat (first | assumption | exact Below.refl _ _ | refine ballc ?_ _ | refine bdrew ?_ | refine bdrewN ?_ _ | refine bset ?_ _ _ | refine bsetN ?_ (by omega) _ _ | refine bthen ?_ (by assumption)))⟩
      have m3 := addV_of k3
      go_wp2_with fail
      case' roundEnd =>
        have t1 := t1.out; have t2 := t2.out; have t3 := t3.out
        rw [k1] at t1; rw [k2] at t2; rw [k3] at t3
        refine ⟨⟨j + 1, q + x.q, v + x.v, p + x.p, hlt, by simp, t1, t2, t3, ⟨by go_simp, by go_simp, by go_simp, by simp [z0], by simp [z1], by simp [z2]⟩, ⟨by go_simp, by go_simp, by go_simp, by simp [x0], by simp [x1], by simp [x2]⟩, by simp; omega, by (repeat (first | assumption | exact Below.refl _ _ | refine ballc ?_ _ | refine bdrew ?_ | refine bdrewN ?_ _ | refine bset ?_ _ _ | refine bsetN ?_ (by omega) _ _ | refine bthen ?_ (by assumption)))⟩, ?_⟩
        simp [intOf]
        omega
    · have ej : j = l.length := by omega
      subst ej
      have hge : ¬ ((l.length : Int) < (l.length : Int)) := by omega
      have e1 : sumGo 0 (l.map (·.q)) = some q := by rw [← s1, List.take_of_length_le (by simp)]
      have e2 : sumGo 0 (l.map (·.v)) = some v := by rw [← s2, List.take_of_length_le (by simp)]
      have e3 : sumGo 0 (l.map (·.p)) = some p := by rw [← s3, List.take_of_length_le (by simp)]
      have ht := tot_yes (l := l) (by simp [totOk, sumE, e1, e2, e3])
      have ht2 : tot l = ⟨q, v, p⟩ := by rw [ht.1]; simp [sumV, e1, e2, e3]
      have hte := ht.2
      clear s1 s2 s3 e1 e2 e3 ht
      go_wp2_with fail
      exact bodyPost_ret (v := .tuple #[.agg #[.int .i64 q, .int .i64 v, .int .i64 p], .int .i64 0]) (by simp [results, Try.results18, go_sem, r0, r1, r2, z0, z1, z2]) rfl ⟨by first | rfl | (rw [ht2, hte]; rfl), by (repeat (first | assumption | exact Below.refl _ _ | refine ballc ?_ _ | refine bdrew ?_ | refine bdrewN ?_ _ | refine bset ?_ _ _ | refine bsetN ?_ (by omega) _ _ | refine bthen ?_ (by assumption)))⟩
end Go.Proofs.Ytgahhifedgmicaa
