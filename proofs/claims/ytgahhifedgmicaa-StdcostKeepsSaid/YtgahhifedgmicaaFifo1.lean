/-
  fifo.Total: all layers together. Its walk.
-/
import Derived.Test.YtgahhifedgmicaaMoney5
import Derived.Test.YtgahhifedgmicaaClone
import Derived.Test.YtgahhifedgmicaaApp3r
import Derived.LoopN
set_option linter.unusedVariables false
set_option linter.unusedSimpArgs false
namespace Go.Proofs.Ytgahhifedgmicaa
open Go.RowKit

/-- A store into a block that the call laid. -/
theorem bset {a b : World} (h : Below a.heap.size a b) (k : Nat) (v : Value) : Below a.heap.size a (b.setCell ⟨a.heap.size, k, none⟩ v) := h.setCell (Nat.le_refl _) v
theorem bsetN {a b : World} {n : Nat} (h : Below a.heap.size a b) (hn : a.heap.size ≤ n) (k : Nat) (v : Value) : Below a.heap.size a (b.setCell ⟨n, k, none⟩ v) := h.setCell hn v

structure Lay where
  q : Int
  v : Int
  p : Int
def Lay.val (x : Lay) : Value := .agg #[.int .i64 x.q, .int .i64 x.v, .int .i64 x.p]
def Lay.zero : Lay := ⟨0, 0, 0⟩
def flat (l : List Lay) : List Int := l.flatMap fun x => [x.q, x.v, x.p]
theorem flat_len (l : List Lay) : (flat l).length = l.length * 3 := by
  induction l with
  | nil => rfl
  | cons x l ih => simp only [flat, List.flatMap_cons, List.length_append, List.length_cons, List.length_nil] at ih ⊢; omega
theorem flat_get (l : List Lay) : ∀ (i : Nat) (x : Lay), l[i]? = some x → (flat l).getD (i * 3) 0 = x.q ∧ (flat l).getD (i * 3 + 1) 0 = x.v ∧ (flat l).getD (i * 3 + 2) 0 = x.p := by
  induction l with
  | nil => intro i x h; simp at h
  | cons y l ih =>
    intro i x h
    cases i with
    | zero => simp at h; subst h; exact ⟨rfl, rfl, rfl⟩
    | succ i =>
      have := ih i x (by simpa using h)
      have e : ∀ k, (flat (y :: l)).getD ((i + 1) * 3 + k) 0 = (flat l).getD (i * 3 + k) 0 := by
        intro k
        show ([y.q, y.v, y.p] ++ flat l).getD ((i + 1) * 3 + k) 0 = _
        rw [List.getD_eq_getElem?_getD, List.getElem?_append_right (by simp; omega), ← List.getD_eq_getElem?_getD]
        congr 1
        simp
        omega
      have e0 := e 0; have e1 := e 1; have e2 := e 2
      simp only [Nat.add_zero] at e0
      rw [e0, e1, e2]
      exact this

theorem flat_all {l : List Lay} (h : AllI (flat l)) : AllI (l.map (·.q)) ∧ AllI (l.map (·.v)) ∧ AllI (l.map (·.p)) := by
  have H : ∀ x, x ∈ l → I64 x.q ∧ I64 x.v ∧ I64 x.p := fun x hx =>
    ⟨h _ (List.mem_flatMap.2 ⟨x, hx, by simp⟩), h _ (List.mem_flatMap.2 ⟨x, hx, by simp⟩), h _ (List.mem_flatMap.2 ⟨x, hx, by simp⟩)⟩
  refine ⟨fun z hz => ?_, fun z hz => ?_, fun z hz => ?_⟩ <;>
    (obtain ⟨x, hx, rfl⟩ := List.mem_map.1 hz; first | exact (H x hx).1 | exact (H x hx).2.1 | exact (H x hx).2.2)

def totOk (l : List Lay) : Bool := decide (sumE (l.map (·.q)) = 0) && decide (sumE (l.map (·.v)) = 0) && decide (sumE (l.map (·.p)) = 0)
def tot (l : List Lay) : Lay := if totOk l then ⟨sumV (l.map (·.q)), sumV (l.map (·.v)), sumV (l.map (·.p))⟩ else .zero
def totE (l : List Lay) : Int := if totOk l then 0 else 2
theorem tot_no {l : List Lay} (h : totOk l = false) : tot l = .zero ∧ totE l = 2 := by simp [tot, totE, h]
theorem tot_yes {l : List Lay} (h : totOk l = true) : tot l = ⟨sumV (l.map (·.q)), sumV (l.map (·.v)), sumV (l.map (·.p))⟩ ∧ totE l = 0 := by simp [tot, totE, h]
theorem sumE_or (l : List Int) : sumE l = 0 ∨ sumE l = 2 := by
  unfold sumE; split <;> simp

/-- The round's state: the three lists so far. -/
structure Tot3 (w : World) (B : Nat) (j : Nat) (l : List Lay) (a b c : Value) : Prop where
  q : OwnI w B 3 1 a j ((l.take j).map (·.q))
  v : OwnI w B 3 1 b j ((l.take j).map (·.v))
  p : OwnI w B 3 1 c j ((l.take j).map (·.p))
  ab : Apart a b
  ac : Apart a c
  bc : Apart b c
  ba : Apart b a
  ca : Apart c a
  cb : Apart c b

set_option maxHeartbeats 1000000 in
theorem fifo_Total (a : Option Addr) (cap : Nat) (l : List Lay) (w : World) (h : Row w 3 a l.length cap (flat l)) (hn : l.length ≤ 1000) :
    Calls Try.prog 33 #[.slice a l.length cap] w fun e w' => e = .returned (.tuple #[(tot l).val, .int .i64 (totE l)]) ∧ Below w.heap.size w w' := by
  obtain ⟨hl, hcap, hmax, hall, hat⟩ := h
  unfold maxLen at hmax
  go_enter Try.func33, Try.ntmps33
  try simp only [List.append_eq, List.cons_append, List.nil_append]
  go_wp2
  go_loopw [4, 5, 6, 16] (fun q v p i wr => ∃ j : Nat, j ≤ l.length ∧ i = .int .i64 j ∧ Tot3 wr (w.heap.size + 1) j l q v p ∧ Below (w.heap.size + 1) (w.alloc (.cells #[.int .i64 0, .int .i64 0, .int .i64 0] 24)) wr) (fun _ _ _ i _ => l.length - (intOf i).toNat)
  case atStart => exact ⟨0, by omega, rfl, ⟨OwnI.nil _ _ _ _, OwnI.nil _ _ _ _, OwnI.nil _ _ _ _, .inl rfl, .inl rfl, .inl rfl, .inl rfl, .inl rfl, .inl rfl⟩, Below.refl _ _⟩
  case round =>
    obtain ⟨j, hj, rfl, T, hbel⟩ := hrel
    have hsz := hbel.size
    simp only [World.size_alloc] at hsz
    by_cases hlt : j < l.length
    · obtain ⟨b, off, rfl, hb, hc⟩ : ∃ b off, a = some ⟨b, off, none⟩ ∧ b < w.heap.size ∧ CellsAt w b off (flat l) := by
        rcases hat with h0 | h0
        · omega
        · exact h0
      obtain ⟨x, hx⟩ : ∃ x, l[j]? = some x := ⟨l[j], by simp [hlt]⟩
      have hg := flat_get l j x hx
      have hfl := flat_len l
      have hcw : ∀ i, i < (flat l).length → wr.cell? ⟨b, off + i, none⟩ = some (.int .i64 ((flat l).getD i 0)) := fun i hi => by
        rw [hbel.cell (by show b < _; omega), World.cell?_alloc_lt _ _ _ hb]; exact hc i hi
      have c0 : wr.cell? ⟨b, off + j * 3, none⟩ = some (.int .i64 x.q) := by rw [hcw (j * 3) (by omega), hg.1]
      have c1 : wr.cell? ⟨b, off + j * 3 + 1, none⟩ = some (.int .i64 x.v) := by rw [Nat.add_assoc, hcw (j * 3 + 1) (by omega), hg.2.1]
      have c2 : wr.cell? ⟨b, off + j * 3 + 2, none⟩ = some (.int .i64 x.p) := by rw [Nat.add_assoc, hcw (j * 3 + 2) (by omega), hg.2.2]
      have hlt' : (j : Int) < (l.length : Int) := by omega
      clear hc hcw hat hg
      have hx := Lib.hid hx
      have hfl := Lib.hid hfl
      go_wp2_with fail
      have hB0 : w.heap.size + 1 ≤ wr.heap.size + 1 := by omega
      have hR : App3R (w.heap.size + 1) (wr.heap.size + 1) wr.heap.size u4 u5 u6 := ⟨World.ownsRow.lt T.q, World.ownsRow.lt T.v, World.ownsRow.lt T.p, by omega, T.ab, T.ac, T.bc, T.ba, T.ca, T.cb⟩
      refine region_app3 24 0 1 2 0 1 2 8 4 5 6 20 _ (w.heap.size + 1) (wr.heap.size + 1) wr.heap.size j (w.heap.size + 1) u4 u5 u6
        ((l.take j).map (·.q)) ((l.take j).map (·.v)) ((l.take j).map (·.p)) x.q x.v x.p (w.alloc (.cells #[.int .i64 0, .int .i64 0, .int .i64 0] 24))
        (by simp) (by decide) (by decide) (by decide) (by decide) (by decide) rfl rfl rfl rfl ?f0 ?f1 ?f2 hR hB0 (Nat.le_refl _) (by omega) (by omega) ?hs ?fin
      case f0 => intro ρ ww hρ; simp [execOp, go_sem, hρ]
      case f1 => intro ρ ww hρ; simp [execOp, go_sem, hρ]
      case f2 => intro ρ ww hρ; simp [execOp, go_sem, hρ]
      case hs => exact ⟨by simp, by simp, by simp, by simp, (hbel.alloc hsz _).drew, fun _ => (T.q.alloc _).drew, fun _ => (T.v.alloc _).drew, fun _ => (T.p.alloc _).drew⟩
      case fin =>
        intro u w' L hS hΦ
        have e4 := hΦ 4 (by omega)
        have e9 := hΦ 9 (by omega)
        have e14 := hΦ 14 (by omega)
        have e15 : u 15 = u 4 := hΦ 15 (by omega)
        have e16 : u 16 = u 9 := hΦ 16 (by omega)
        have e17 : u 17 = u 14 := hΦ 17 (by omega)
        have hb' := hS.bel
        clear hS hΦ
        simp only [puts, app3Slots, Act.put, e15, e16, e17, List.setIfInBounds_toArray, List.set_cons_succ, List.set_cons_zero]
        go_wp2_with fail
        case' roundEnd =>
          have tk : ∀ f : Lay → Int, (l.take (j + 1)).map f = (l.take j).map f ++ [f x] := fun f => by
            rw [List.take_add_one, show l[j]? = some x from hx]
            simp
          refine ⟨⟨j + 1, hlt, by simp, ⟨by rw [tk]; exact e4.1, by rw [tk]; exact e9.1.1, by rw [tk]; exact e14.1.1, .inr e9.2, .inr e14.2.1, .inr e14.2.2, .inr (Ne.symm e9.2), .inr (Ne.symm e14.2.1), .inr (Ne.symm e14.2.2)⟩, hb'⟩, ?_⟩
          simp [intOf]
          omega
    · have ej : j = l.length := by omega
      subst ej
      have hge : ¬ ((l.length : Int) < (l.length : Int)) := by omega
      obtain ⟨hq, hv, hp⟩ := flat_all hall
      obtain ⟨T1, T2, T3, -, -, -, -, -, -⟩ := T
      simp only [List.take_length] at T1 T2 T3
      obtain ⟨a1, p1, rfl, R1⟩ := T1.row hq
      obtain ⟨a2, p2, rfl, R2⟩ := T2.row hv
      obtain ⟨a3, p3, rfl, R3⟩ := T3.row hp
      clear T1 T2 T3 hat hall
      have hl := Lib.hid hl
      have hszl : w.heap.size < wr.heap.size := hsz
      have hszl1 : w.heap.size < wr.heap.size + 1 := by omega
      have hszl2 : w.heap.size < wr.heap.size + 1 + 1 := by omega
      have hszl3 : w.heap.size < wr.heap.size + 1 + 1 + 1 := by omega
      have hszl4 : w.heap.size < wr.heap.size + 1 + 1 + 1 + 1 := by omega
      have r0 : wr.cell? ⟨w.heap.size, 0, none⟩ = some (.int .i64 0) := by rw [hbel.cell (Nat.lt_succ_self _)]; simp
      have r1 : wr.cell? ⟨w.heap.size, 1, none⟩ = some (.int .i64 0) := by rw [hbel.cell (Nat.lt_succ_self _)]; simp
      have r2 : wr.cell? ⟨w.heap.size, 2, none⟩ = some (.int .i64 0) := by rw [hbel.cell (Nat.lt_succ_self _)]; simp
      have z0 : wr.frozen? ⟨w.heap.size, 0, none⟩ = false := by rw [hbel.frozen (Nat.lt_succ_self _)]; simp
      have z1 : wr.frozen? ⟨w.heap.size, 1, none⟩ = false := by rw [hbel.frozen (Nat.lt_succ_self _)]; simp
      have z2 : wr.frozen? ⟨w.heap.size, 2, none⟩ = false := by rw [hbel.frozen (Nat.lt_succ_self _)]; simp
      have hb0 : Below w.heap.size w wr := ((Below.refl _ w).alloc (Nat.le_refl _) _).trans (hbel.mono (by omega))
      clear hbel
      go_wp2_with fail
      refine wp_loop_rounds 4 ?_
      rw [rounds_succ]
      rcases sumE_or (l.map (·.q)) with h1 | h1
      rotate_left
      · go_wp2_with (first | (go_at_call 39; refine (money_Sum _ _ _ _ _ (R1.below (by (repeat (first | assumption | exact Below.refl _ _ | refine ballc ?_ _ | refine bdrew ?_ | refine bdrewN ?_ _ | refine bset ?_ _ _ | refine bsetN ?_ (by omega) _ _ | refine bthen ?_ (by assumption)))))).mono ?_; rintro e w' ⟨rfl, rfl⟩))
        have ht := tot_no (l := l) (by simp [totOk, h1])
        exact bodyPost_ret (v := .tuple #[Lay.zero.val, .int .i64 2]) (by simp [results, Try.results33, go_sem, Lay.val, Lay.zero, hszl, hszl1, hszl2, hszl3, hszl4, r0, r1, r2, z0, z1, z2]) rfl ⟨by rw [ht.1, ht.2], by (repeat (first | assumption | exact Below.refl _ _ | refine ballc ?_ _ | refine bdrew ?_ | refine bdrewN ?_ _ | refine bset ?_ _ _ | refine bsetN ?_ (by omega) _ _ | refine bthen ?_ (by assumption)))⟩
      go_wp2_with (first | (go_at_call 39; refine (money_Sum _ _ _ _ _ (R1.below (by (repeat (first | assumption | exact Below.refl _ _ | refine ballc ?_ _ | refine bdrew ?_ | refine bdrewN ?_ _ | refine bset ?_ _ _ | refine bsetN ?_ (by omega) _ _ | refine bthen ?_ (by assumption)))))).mono ?_; rintro e w' ⟨rfl, rfl⟩))
      rw [rounds_succ]
      rcases sumE_or (l.map (·.v)) with h2 | h2
      rotate_left
      · go_wp2_with (first | (go_at_call 39; refine (money_Sum _ _ _ _ _ (R2.below (by (repeat (first | assumption | exact Below.refl _ _ | refine ballc ?_ _ | refine bdrew ?_ | refine bdrewN ?_ _ | refine bset ?_ _ _ | refine bsetN ?_ (by omega) _ _ | refine bthen ?_ (by assumption)))))).mono ?_; rintro e w' ⟨rfl, rfl⟩))
        have ht := tot_no (l := l) (by simp [totOk, h2])
        exact bodyPost_ret (v := .tuple #[Lay.zero.val, .int .i64 2]) (by simp [results, Try.results33, go_sem, Lay.val, Lay.zero, hszl, hszl1, hszl2, hszl3, hszl4, r0, r1, r2, z0, z1, z2]) rfl ⟨by rw [ht.1, ht.2], by (repeat (first | assumption | exact Below.refl _ _ | refine ballc ?_ _ | refine bdrew ?_ | refine bdrewN ?_ _ | refine bset ?_ _ _ | refine bsetN ?_ (by omega) _ _ | refine bthen ?_ (by assumption)))⟩
      go_wp2_with (first | (go_at_call 39; refine (money_Sum _ _ _ _ _ (R2.below (by (repeat (first | assumption | exact Below.refl _ _ | refine ballc ?_ _ | refine bdrew ?_ | refine bdrewN ?_ _ | refine bset ?_ _ _ | refine bsetN ?_ (by omega) _ _ | refine bthen ?_ (by assumption)))))).mono ?_; rintro e w' ⟨rfl, rfl⟩))
      rw [rounds_succ]
      rcases sumE_or (l.map (·.p)) with h3 | h3
      rotate_left
      · go_wp2_with (first | (go_at_call 39; refine (money_Sum _ _ _ _ _ (R3.below (by (repeat (first | assumption | exact Below.refl _ _ | refine ballc ?_ _ | refine bdrew ?_ | refine bdrewN ?_ _ | refine bset ?_ _ _ | refine bsetN ?_ (by omega) _ _ | refine bthen ?_ (by assumption)))))).mono ?_; rintro e w' ⟨rfl, rfl⟩))
        have ht := tot_no (l := l) (by simp [totOk, h3])
        exact bodyPost_ret (v := .tuple #[Lay.zero.val, .int .i64 2]) (by simp [results, Try.results33, go_sem, Lay.val, Lay.zero, hszl, hszl1, hszl2, hszl3, hszl4, r0, r1, r2, z0, z1, z2]) rfl ⟨by rw [ht.1, ht.2], by (repeat (first | assumption | exact Below.refl _ _ | refine ballc ?_ _ | refine bdrew ?_ | refine bdrewN ?_ _ | refine bset ?_ _ _ | refine bsetN ?_ (by omega) _ _ | refine bthen ?_ (by assumption)))⟩
      go_wp2_with (first | (go_at_call 39; refine (money_Sum _ _ _ _ _ (R3.below (by (repeat (first | assumption | exact Below.refl _ _ | refine ballc ?_ _ | refine bdrew ?_ | refine bdrewN ?_ _ | refine bset ?_ _ _ | refine bsetN ?_ (by omega) _ _ | refine bthen ?_ (by assumption)))))).mono ?_; rintro e w' ⟨rfl, rfl⟩))
      rw [rounds_succ]
      go_wp2_with fail
      have ht := tot_yes (l := l) (by simp [totOk, h1, h2, h3])
      exact bodyPost_ret (v := .tuple #[(tot l).val, .int .i64 0]) (by rw [ht.1]; simp [results, Try.results33, go_sem, Lay.val, hszl, hszl1, hszl2, hszl3, hszl4, r0, r1, r2, z0, z1, z2]) rfl ⟨by rw [ht.2], by (repeat (first | assumption | exact Below.refl _ _ | refine ballc ?_ _ | refine bdrew ?_ | refine bdrewN ?_ _ | refine bset ?_ _ _ | refine bsetN ?_ (by omega) _ _ | refine bthen ?_ (by assumption)))⟩
end Go.Proofs.Ytgahhifedgmicaa
