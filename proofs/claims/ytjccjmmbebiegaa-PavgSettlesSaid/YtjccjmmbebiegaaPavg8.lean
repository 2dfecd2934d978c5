/-
  PavgFree. Its walk.
-/
import Derived.Test.YtjccjmmbebiegaaPavgB
import Derived.Test.YtjccjmmbebiegaaBase
import Derived.IntWalk
set_option linter.unusedVariables false
set_option linter.unusedSimpArgs false
namespace Go.Proofs.Ytjccjmmbebiegaa
open Go.RowKit

theorem pnd_at (d : Pnd) (kk : Nat) (hk : kk < 3) : [d.a, d.b, d.c].getD kk 0 = d.get kk := by
  have h : kk = 0 ∨ kk = 1 ∨ kk = 2 := by omega
  rcases h with rfl | rfl | rfl <;> rfl
theorem pnd_set (d : Pnd) (kk : Nat) (hk : kk < 3) (q : Int) : [d.a, d.b, d.c].set kk (d.get kk + q) = [(d.add kk q).a, (d.add kk q).b, (d.add kk q).c] := by
  have h : kk = 0 ∨ kk = 1 ∨ kk = 2 := by omega
  rcases h with rfl | rfl | rfl <;> rfl
theorem pnd_sum (d : Pnd) (k q : Int) : (d.add k q).a + (d.add k q).b + (d.add k q).c = d.a + d.b + d.c + q := by
  unfold Pnd.add
  split
  · simp only; omega
  · split <;> (simp only; omega)
theorem pnd_ok {d : Pnd} {k q n : Int} (h : PndOk d) (hs : d.a + d.b + d.c + q ≤ n) (hn : n ≤ 1000000) (hq : 0 ≤ d.get k + q) : PndOk (d.add k q) := by
  have h0 := h.a0; have h1 := h.b0; have h2 := h.c0; have h3 := h.a1; have h4 := h.b1; have h5 := h.c1
  unfold Pnd.get at hq
  unfold Pnd.add
  split
  · rw [if_pos ‹_›] at hq; exact ⟨by simp only; omega, by simp only; omega, by simp only; omega, by simp only; omega, by simp only; omega, by simp only; omega⟩
  · rw [if_neg ‹_›] at hq
    split
    · rw [if_pos ‹_›] at hq; exact ⟨by simp only; omega, by simp only; omega, by simp only; omega, by simp only; omega, by simp only; omega, by simp only; omega⟩
    · rw [if_neg ‹_›] at hq; exact ⟨by simp only; omega, by simp only; omega, by simp only; omega, by simp only; omega, by simp only; omega, by simp only; omega⟩
theorem pnd_get_bd {d : Pnd} (h : PndOk d) (k : Int) : 0 ≤ d.get k ∧ d.get k ≤ d.a + d.b + d.c := by
  have h0 := h.a0; have h1 := h.b0; have h2 := h.c0
  unfold Pnd.get
  split
  · omega
  · split <;> omega

/-- What the law holds while it plays. -/
structure FreeI (w : World) (P Q : Nat) (n : Int) (a : Option Addr) (c : Nat) (d : Pnd) : Prop where
  pool : CellP w P (.slice a 1 c) d
  row : Row w 3 a 1 c (flat [⟨n, 3 * n, 0⟩])
  cnt : CellsAt w Q 0 [d.a, d.b, d.c]
  fz : ∀ i, w.frozen? ⟨Q, i, none⟩ = false
  pl : P < w.heap.size
  ql : Q < w.heap.size
  ok : PndOk d
  sum : d.a + d.b + d.c ≤ n
theorem FreeI.below {w w' : World} {P Q : Nat} {n : Int} {a : Option Addr} {c : Nat} {d : Pnd} (h : FreeI w P Q n a c d) (g : Below w.heap.size w w') : FreeI w' P Q n a c d :=
  ⟨h.pool.below g h.pl, h.row.below g, h.cnt.below h.ql g, fun i => (g.frozen (p := ⟨Q, i, none⟩) h.ql).trans (h.fz i), Nat.lt_of_lt_of_le h.pl g.size, Nat.lt_of_lt_of_le h.ql g.size, h.ok, h.sum⟩
/-- Another pool, and one more (or less) of a kind. -/
theorem FreeI.store {w : World} {P Q base : Nat} {n : Int} {a a2 : Option Addr} {c c2 : Nat} {d : Pnd} (h : FreeI w P Q n a c d) (hPQ : P ≠ Q) (hP : P < base) (hQ : Q < base) {kk : Nat} (hk : kk < 3) {q : Int} (hq : 0 ≤ d.get kk + q) (hs : d.a + d.b + d.c + q ≤ n) (hn : n ≤ 1000000)
    (hL : LR [⟨n, 3 * n, 0⟩]) (hH : Hold w base (.slice a2 1 c2) [⟨n, 3 * n, 0⟩]) :
    FreeI (((((w.setCell ⟨P, 0, none⟩ (.slice a2 1 c2)).setCell ⟨P, 1, none⟩ (.int .i64 (d.add kk q).a)).setCell ⟨P, 2, none⟩ (.int .i64 (d.add kk q).b)).setCell ⟨P, 3, none⟩ (.int .i64 (d.add kk q).c)).setCell ⟨Q, kk, none⟩ (.int .i64 (d.get kk + q))) P Q n a2 c2 (d.add kk q) := by
  have hp := (h.pool.put (.slice a2 1 c2) (d.add kk q).a (d.add kk q).b (d.add kk q).c).far hPQ kk (.int .i64 (d.get kk + q))
  have hc := ((((h.cnt.farI (i := 0) (x := .slice a2 1 c2) (Ne.symm hPQ)).farI (i := 1) (x := .int .i64 (d.add kk q).a) (Ne.symm hPQ)).farI (i := 2) (x := .int .i64 (d.add kk q).b) (Ne.symm hPQ)).farI (i := 3) (x := .int .i64 (d.add kk q).c) (Ne.symm hPQ)).putI (j := kk) (by simp; omega) (d.get kk + q)
  rw [pnd_set d kk hk, Nat.zero_add] at hc
  have hH2 : Hold (((((w.setCell ⟨P, 0, none⟩ (.slice a2 1 c2)).setCell ⟨P, 1, none⟩ (.int .i64 (d.add kk q).a)).setCell ⟨P, 2, none⟩ (.int .i64 (d.add kk q).b)).setCell ⟨P, 3, none⟩ (.int .i64 (d.add kk q).c)).setCell ⟨Q, kk, none⟩ (.int .i64 (d.get kk + q))) base (.slice a2 1 c2) [⟨n, 3 * n, 0⟩] := by
    repeat (first | refine Hold.set ?_ (by omega) _ _ | exact hH)
  refine ⟨hp, hH2.rowIs hL.all, hc, fun i => by simpa using h.fz i, by simpa [World.setCell] using h.pl, by simpa [World.setCell] using h.ql, pnd_ok h.ok hs hn hq, ?_⟩
  have := pnd_sum d kk q
  omega

set_option maxRecDepth 20000 in
set_option maxHeartbeats 4000000 in
theorem PavgFree_walk (q : Int) (a0 : Option Addr) (n0 cap0 : Nat) (zs : List Int) (w : World) (hq : I64 q) (h : Row w 1 a0 n0 cap0 zs) :
    Calls Try.prog 4 #[.int .i64 q, .slice a0 n0 cap0] w fun e w' => e = .returned (.bool true) ∧ Below w.heap.size w w' := by
  have hl : zs.length = n0 := by have := h.len; omega
  have hcap := h.le
  have hmax := h.max
  unfold maxLen at hmax
  have hat := Lib.hid h.at_
  have hlh := Lib.hid hl
  clear hl h
  obtain ⟨k, hk⟩ : ∃ k, q % 100 = k := ⟨_, rfl⟩
  have hk0 : 0 ≤ k := by omega
  have hk1 : k < 100 := by omega
  obtain ⟨n, hn⟩ : ∃ n, 1 + k = n := ⟨_, rfl⟩
  have hn0 : 1 ≤ n := by omega
  have hn1 : n ≤ 100 := by omega
  have hL := LR.one (x := ⟨n, 3 * n, 0⟩) (layOk_iff.2 ⟨by simp only; omega, by simp only; omega, by simp only; omega, by simp only; omega, by simp only; omega, by simp only; omega⟩)
  have hI : inM [] ⟨n, 3 * n, 0⟩ = ([⟨n, 3 * n, 0⟩], 0) := by
    have hr : rightL ([] ++ [⟨n, 3 * n, 0⟩]) = true := hL.right
    have e : inS [] ⟨n, 3 * n, 0⟩ = ([⟨n, 3 * n, 0⟩], 0) := by
      unfold inS
      rw [if_neg (by simp only; omega), if_neg (by simp), if_pos hr]
      rfl
    unfold inM
    rw [e]
    simp only [if_true]
    rw [hL.tot.1]
    simp [qs, vs, ps]
  have hIh := Lib.hid hI
  have hLh := Lib.hid hL
  clear hI hL
  go_enter Try.func4, Try.ntmps4
  go_wp2_with (first | (go_at_call 7; refine (Place_calls _ _ _ (by omega) (by omega)).mono ?_; rintro e w' ⟨rfl, rfl⟩))
  refine (pavg_In_is (l := []) (d := ⟨0, 0, 0⟩) (x := ⟨n, 3 * n, 0⟩) (RowNil w) LR.nil (fun z hz => by simp at hz; rcases hz with rfl | rfl | rfl; exact ⟨by omega, by omega⟩; exact ⟨by omega, by omega⟩; exact ⟨by omega, by omega⟩) hIh.out).mono ?_
  rintro e w1 ⟨⟨a1, c1, rfl, H1⟩, hw1⟩
  go_wp2_with fail
  have hb0 : Below w1.heap.size w1 ((w1.alloc (.cells #[.slice a1 1 c1, .int .i64 0, .int .i64 0, .int .i64 0] 26)).alloc (.cells #[.int .i64 0, .int .i64 0, .int .i64 0] 24)) := by (repeat (first | assumption | exact Below.refl _ _ | refine ballc ?_ _ | refine bdrew ?_ | refine bdrewN ?_ _ | refine bset ?_ _ _ | refine bsetN ?_ (by omega) _ _ | refine bthen ?_ (by assumption)))
  have hI0 : FreeI ((w1.alloc (.cells #[.slice a1 1 c1, .int .i64 0, .int .i64 0, .int .i64 0] 26)).alloc (.cells #[.int .i64 0, .int .i64 0, .int .i64 0] 24)) w1.heap.size (w1.heap.size + 1) n a1 c1 ⟨0, 0, 0⟩ := by
    refine ⟨(CellP.new w1 (.slice a1 1 c1) ⟨0, 0, 0⟩ 26).alloc (by simp) _, (H1.rowIs hLh.out.all).below hb0, ?_, fun i => ?_, by simp; omega, by simp, PndOk.zero, by simp only; omega⟩
    · have := CellsAt.new (w1.alloc (.cells #[.slice a1 1 c1, .int .i64 0, .int .i64 0, .int .i64 0] 26)) [0, 0, 0] 24
      rw [World.size_alloc] at this
      exact this
    · have := World.frozen?_alloc_new (w1.alloc (.cells #[.slice a1 1 c1, .int .i64 0, .int .i64 0, .int .i64 0] 26)) #[.int .i64 0, .int .i64 0, .int .i64 0] 24 i
      rw [World.size_alloc] at this
      exact this
  have hbel0 : Below w.heap.size w ((w1.alloc (.cells #[.slice a1 1 c1, .int .i64 0, .int .i64 0, .int .i64 0] 26)).alloc (.cells #[.int .i64 0, .int .i64 0, .int .i64 0] 24)) := hw1.trans (hb0.mono hw1.size)
  have hws := hw1.size
  generalize (w1.alloc (.cells #[.slice a1 1 c1, .int .i64 0, .int .i64 0, .int .i64 0] 26)).alloc (.cells #[.int .i64 0, .int .i64 0, .int .i64 0] 24) = u0 at *
  obtain ⟨P, hP⟩ : ∃ P, w1.heap.size = P := ⟨_, rfl⟩
  obtain ⟨Q, hQ⟩ : ∃ Q, P + 1 = Q := ⟨_, rfl⟩
  rw [hP] at hI0 hws ⊢
  rw [hQ] at hI0 ⊢
  have hPQ : P < Q := by omega
  clear hP hQ H1 hw1 hb0
  go_loopw [9] (fun i wr => ∃ (j : Nat) (d : Pnd) (a : Option Addr) (c : Nat), j ≤ n0 ∧ j ≤ 40 ∧ i = .int .i64 j ∧ FreeI wr P Q n a c d ∧ Below w.heap.size w wr) (fun i _ => n0 - (intOf i).toNat)
  case atStart => exact ⟨0, ⟨0, 0, 0⟩, a1, c1, by omega, by omega, rfl, hI0, hbel0⟩
  case round =>
    obtain ⟨j, d, a, c, hj, hj40, rfl, hF, hbel⟩ := hrel
    obtain ⟨wo, hwo⟩ : ∃ wo : World, wr = wo := ⟨_, rfl⟩
    rw [hwo] at hF hbel ⊢
    clear hwo hI0 hbel0
    have hso := hbel.size
    obtain ⟨da, db, dc⟩ := d
    have hF2 := hF
    obtain ⟨hp, hrow, hcnt, hfz, hpl, hql, hok, hsum⟩ := hF
    simp only at hcnt hsum
    have o0 := hcnt 0 (by simp)
    have o1 := hcnt 1 (by simp)
    have o2 := hcnt 2 (by simp)
    simp at o0 o1 o2
    have ha0 := hok.a0
    have hb0 := hok.b0
    have hc0 := hok.c0
    simp only at ha0 hb0 hc0
    by_cases hlt : j < n0 ∧ j < 40
    · obtain ⟨hlt1, hlt2⟩ := hlt
      have hjI : (j : Int) < (n0 : Int) := by omega
      have hjI2 : (j : Int) < 40 := by omega
      have hj0 : (0 : Int) ≤ (j : Int) := by omega
      obtain ⟨b, off, rfl, hb, hc⟩ : ∃ b off, a0 = some ⟨b, off, none⟩ ∧ b < w.heap.size ∧ CellsAt w b off zs := by
        rcases hat.out with h0 | h0
        · omega
        · exact h0
      have c0 := (hbel.cell (p := ⟨b, off + j, none⟩) hb).trans (hc j (by rw [hlh.out]; exact hlt1))
      obtain ⟨z, hz⟩ : ∃ z, zs.getD j 0 = z := ⟨_, rfl⟩
      rw [hz] at c0
      clear hz hc
      obtain ⟨K, hK⟩ : ∃ K, z % 1048576 = K := ⟨_, rfl⟩
      have hK0 : 0 ≤ K := by omega
      have hK1 : K < 1048576 := by omega
      obtain ⟨kk, hkk⟩ : ∃ kk : Nat, K % 3 = (kk : Int) := ⟨(K % 3).toNat, by omega⟩
      have hkk3 : kk < 3 := by omega
      have hkkI : (kk : Int) < 3 := by omega
      have hkk0 : (0 : Int) ≤ (kk : Int) := by omega
      obtain ⟨M, hM⟩ : ∃ M, K / 6 = M := ⟨_, rfl⟩
      obtain ⟨M2, hM2⟩ : ∃ M2, M % 30 = M2 := ⟨_, rfl⟩
      obtain ⟨m, hm⟩ : ∃ m, 1 + M2 = m := ⟨_, rfl⟩
      have hm1 : 1 ≤ m := by omega
      have hm30 : m ≤ 30 := by omega
      have hM0 : 0 ≤ M := by omega
      have hM1 : M ≤ 1048576 := by omega
      have hM20 : 0 ≤ M2 := by omega
      have hM230 : M2 < 30 := by omega
      obtain ⟨T, hT⟩ : ∃ T, K / 3 = T := ⟨_, rfl⟩
      have hT0 : 0 ≤ T := by omega
      obtain ⟨T2, hT2⟩ : ∃ T2, T % 2 = T2 := ⟨_, rfl⟩
      have hbo : b < wo.heap.size := by omega
      obtain ⟨p0, p1, p2, p3, -, -, -, -⟩ := hp
      simp only at p1 p2 p3
      have hg : ∃ g, Pnd.get ⟨da, db, dc⟩ (kk : Int) = g := ⟨_, rfl⟩
      obtain ⟨g, hg⟩ := hg
      have hgb := pnd_get_bd hok (kk : Int)
      rw [hg] at hgb
      simp only at hgb
      obtain ⟨hgb1, hgb2⟩ := hgb
      have hfr : freeP [⟨n, 3 * n, 0⟩] ⟨da, db, dc⟩ = n - da - db - dc := by simp [freeP, qs]
      by_cases hT3 : T2 = 0
      · subst hT3
        have hW5 : n - da - db - dc < m → waitS [⟨n, 3 * n, 0⟩] ⟨da, db, dc⟩ kk m = (⟨da, db, dc⟩, 5) := fun h => by unfold waitS; rw [if_neg (by omega), hfr, if_pos h]
        have hW0 : ¬ n - da - db - dc < m → waitS [⟨n, 3 * n, 0⟩] ⟨da, db, dc⟩ kk m = (Pnd.add ⟨da, db, dc⟩ kk m, 0) := fun h => by unfold waitS; rw [if_neg (by omega), hfr, if_neg h]
        have hW5h := Lib.hid hW5
        have hWo := Lib.hid hW0
        clear hW5 hW0 hfr
        by_cases hfm : n - da - db - dc < m
        · have hle : decide (m ≤ n - da - db - dc) = false := decide_eq_false (by omega)
          have hle2 : ¬ m ≤ n - da - db - dc := by omega
          have hgh := Lib.hid hg
          clear hg
          go_wp2_with (first | (go_at_call 7; refine (Place_calls _ _ _ (by omega) (by omega)).mono ?_; rintro e w' ⟨rfl, rfl⟩))
          refine (pavg_Wait_is (l := [⟨n, 3 * n, 0⟩]) (d := ⟨da, db, dc⟩) (k := kk) (q := m) hrow hLh.out hok ⟨by omega, by omega⟩ ⟨by omega, by omega⟩ (hW5h.out hfm)).mono ?_
          rintro e w2 ⟨⟨a2, c2, rfl, H2⟩, hw2⟩
          have hs2 := hw2.size
          have hF3 := (hF2.below hw2).below ((Below.refl w2.heap.size w2).alloc (Nat.le_refl _) (.cells #[.slice a2 1 c2, .int .i64 da, .int .i64 db, .int .i64 dc] 26))
          have hb3 : Below w.heap.size w (w2.alloc (.cells #[.slice a2 1 c2, .int .i64 da, .int .i64 db, .int .i64 dc] 26)) := by (repeat (first | assumption | exact Below.refl _ _ | refine ballc ?_ _ | refine bdrew ?_ | refine bdrewN ?_ _ | refine bset ?_ _ _ | refine bsetN ?_ (by omega) _ _ | refine bthen ?_ (by assumption)))
          clear H2 hw2 hF2 hrow hcnt hfz hok hbel
          go_wp2_with fail
          case' roundEnd =>
            refine ⟨⟨j + 1, ⟨da, db, dc⟩, a, c, by omega, by omega, by go_num, hF3, hb3⟩, ?_⟩
            simp [intOf]; omega
        · have hle : decide (m ≤ n - da - db - dc) = true := decide_eq_true (by omega)
          have hle2 : m ≤ n - da - db - dc := by omega
          go_wp2_with (first | (go_at_call 7; refine (Place_calls _ _ _ (by omega) (by omega)).mono ?_; rintro e w' ⟨rfl, rfl⟩))
          refine (pavg_Wait_is (l := [⟨n, 3 * n, 0⟩]) (d := ⟨da, db, dc⟩) (k := kk) (q := m) hrow hLh.out hok ⟨by omega, by omega⟩ ⟨by omega, by omega⟩ (hWo.out hfm)).mono ?_
          obtain ⟨d2, hd2⟩ : ∃ d2, Pnd.add ⟨da, db, dc⟩ kk m = d2 := ⟨_, rfl⟩
          rw [hd2]
          rintro e w2 ⟨⟨a2, c2, rfl, H2⟩, hw2⟩
          have hs2 := hw2.size
          have hu : Below w2.heap.size w2 (w2.alloc (.cells #[.slice a2 1 c2, .int .i64 d2.a, .int .i64 d2.b, .int .i64 d2.c] 26)) := by
            obtain ⟨xa, xb, xc⟩ := d2
            (repeat (first | assumption | exact Below.refl _ _ | refine ballc ?_ _ | refine bdrew ?_ | refine bdrewN ?_ _ | refine bset ?_ _ _ | refine bsetN ?_ (by omega) _ _ | refine bthen ?_ (by assumption)))
          have hFu := (hF2.below hw2).below hu
          have hPr := CellP.new w2 (.slice a2 1 c2) d2 26
          have hst := (hFu.below (Below.refl _ _).drew).store (base := wo.heap.size) (by omega) hpl hql hkk3 (q := m) (by rw [hg]; omega) (by simp only; omega) (by omega) hLh.out ((H2.below hu).below (Below.refl _ _).drew)
          rw [hd2, hg] at hst
          have hbu : Below w.heap.size w (w2.alloc (.cells #[.slice a2 1 c2, .int .i64 d2.a, .int .i64 d2.b, .int .i64 d2.c] 26)) := (hbel.trans (hw2.mono hso)).trans (hu.mono (by omega))
          obtain ⟨xa, xb, xc⟩ := d2
          simp only at hPr hst hFu hbu
          have hsu : w2.heap.size < (w2.alloc (.cells #[.slice a2 1 c2, .int .i64 xa, .int .i64 xb, .int .i64 xc] 26)).heap.size := by simp
          have g0 := hFu.cnt kk (by simp; omega)
          rw [pnd_at ⟨da, db, dc⟩ kk hkk3, hg, Nat.zero_add] at g0
          have f0 := hFu.fz kk
          obtain ⟨x0, x1, x2, x3, -, -, -, -⟩ := hPr
          simp only at x1 x2 x3
          obtain ⟨y0, y1, y2, y3, v0, v1, v2, v3⟩ := hFu.pool
          simp only at y1 y2 y3
          have hbP : w.heap.size ≤ P := hws
          obtain ⟨R, hR⟩ : ∃ R, w2.heap.size = R := ⟨_, rfl⟩
          have hRP : P < R := by omega
          have hRQ : Q < R := by omega
          have hd2h := Lib.hid hd2
          have hgh := Lib.hid hg
          clear hd2 hg hF2 hcnt hfz hrow hok hu H2 hw2 hbel
          go_wp2_with fail
          rw [hR] at hsu x0 x1 x2 x3
          generalize w2.alloc (.cells #[.slice a2 1 c2, .int .i64 xa, .int .i64 xb, .int .i64 xc] 26) = u at *
          have f1 : IntKind.i64.wrap (g + m) = g + m := IntWalk.i64_in _ (by omega)
          have hne : P ≠ Q := by omega
          have hne2 : Q ≠ P := by omega
          refine wp_region_det' 2 [some 93, some 94, some 95, some 96, some 97, some 98, some 99, none, some 100, none] [7, 9] [(0, 1), (0, 0), (0, 1), (0, 1), (0, 1), (0, 1), (0, 1), (0, 0), (1, 1), (1, 1)] (pick [fun w' => w' = u.drew, fun w' => w' = ((((u.drew.setCell ⟨P, 0, none⟩ (.slice a2 1 c2)).setCell ⟨P, 1, none⟩ (.int .i64 (xa))).setCell ⟨P, 2, none⟩ (.int .i64 (xb))).setCell ⟨P, 3, none⟩ (.int .i64 (xc))), fun w' => w' = (((((u.drew.setCell ⟨P, 0, none⟩ (.slice a2 1 c2)).setCell ⟨P, 1, none⟩ (.int .i64 (xa))).setCell ⟨P, 2, none⟩ (.int .i64 (xb))).setCell ⟨P, 3, none⟩ (.int .i64 (xc))).setCell ⟨Q, kk, none⟩ (.int .i64 (g + m)))]) [.int .i64 (kk), .agg #[.slice a2 1 c2, .int .i64 (xa), .int .i64 (xb), .int .i64 (xc)], .int .i64 (kk), .pointer (some ⟨Q, kk, none⟩), .int .i64 (g), .int .i64 (m), .int .i64 (g + m), undef, .pointer (some ⟨Q, kk, none⟩), undef] (by kernel_rfl) (by kernel_rfl) (by kernel_rfl) rfl (by kernel_rfl) (by kernel_rfl) (by kernel_rfl) (by rfl) rfl ?steps ?fin
          case steps =>
            intro ρ hin hout hconst hfun
            have r11 : ρ (.tmp 11) = .int .i64 (kk) := hout 11 rfl
            have r14 : ρ (.tmp 14) = .pointer (some ⟨R, 0, none⟩) := hout 14 rfl
            have r8 : ρ (.tmp 8) = .pointer (some ⟨Q, 0, none⟩) := hout 8 rfl
            have r95 : ρ (.tmp 95) = .int .i64 (kk) := hin 2 95 rfl
            have r96 : ρ (.tmp 96) = .pointer (some ⟨Q, kk, none⟩) := hin 3 96 rfl
            have r12 : ρ (.tmp 12) = .int .i64 (m) := hout 12 rfl
            have r97 : ρ (.tmp 97) = .int .i64 (g) := hin 4 97 rfl
            have r98 : ρ (.tmp 98) = .int .i64 (m) := hin 5 98 rfl
            have r6 : ρ (.tmp 6) = .pointer (some ⟨P, 0, none⟩) := hout 6 rfl
            have r94 : ρ (.tmp 94) = .agg #[.slice a2 1 c2, .int .i64 (xa), .int .i64 (xb), .int .i64 (xc)] := hin 1 94 rfl
            have r93 : ρ (.tmp 93) = .int .i64 (kk) := hin 0 93 rfl
            have r100 : ρ (.tmp 100) = .pointer (some ⟨Q, kk, none⟩) := hin 8 100 rfl
            have r99 : ρ (.tmp 99) = .int .i64 (g + m) := hin 6 99 rfl
            clear hin hout
            refine DetSteps.pure (by decide) (fun ww => Step.value (by simp [execOp, r11])) ?_
            refine DetSteps.load (by decide) (fun s ww h1 h2 hw => by rcases (by omega : s = 0) with rfl <;> (simp only [pick, List.getD_cons_zero, List.getD_cons_succ] at hw; subst hw; exact Step.value (by simp [execOp, go_sem, r14, x0, x1, x2, x3, y0, y1, y2, y3, v0, v1, v2, v3, g0, f0, hne, hne2, hkk3, hkk0, hkkI, f1]))) ?_
            refine DetSteps.pure (by decide) (fun ww => Step.value (by simp [execOp, r11])) ?_
            refine DetSteps.pure (by decide) (fun ww => Step.value (by simp [execOp, go_sem, hconst, r8, r95, x0, x1, x2, x3, y0, y1, y2, y3, v0, v1, v2, v3, g0, f0, hne, hne2, hkk3, hkk0, hkkI, f1])) ?_
            refine DetSteps.load (by decide) (fun s ww h1 h2 hw => by rcases (by omega : s = 0 ∨ s = 1) with rfl | rfl <;> (simp only [pick, List.getD_cons_zero, List.getD_cons_succ] at hw; subst hw; exact Step.value (by simp [execOp, go_sem, r96, x0, x1, x2, x3, y0, y1, y2, y3, v0, v1, v2, v3, g0, f0, hne, hne2, hkk3, hkk0, hkkI, f1]))) ?_
            refine DetSteps.pure (by decide) (fun ww => Step.value (by simp [execOp, r12])) ?_
            refine DetSteps.pure (by decide) (fun ww => Step.value (by simp [execOp, go_sem, r97, r98, x0, x1, x2, x3, y0, y1, y2, y3, v0, v1, v2, v3, g0, f0, hne, hne2, hkk3, hkk0, hkkI, f1])) ?_
            refine DetSteps.store (by decide) (fun ww hw => by simp only [pick, List.getD_cons_zero, List.getD_cons_succ] at hw ⊢; subst hw; exact Step.pred (Step.skip rfl (by simp [execOp, go_sem, r6, r94, x0, x1, x2, x3, y0, y1, y2, y3, v0, v1, v2, v3, g0, f0, hne, hne2, hkk3, hkk0, hkkI, f1] <;> rfl)) rfl) ?_
            refine DetSteps.pure (by decide) (fun ww => Step.value (by simp [execOp, go_sem, hconst, r8, r93, x0, x1, x2, x3, y0, y1, y2, y3, v0, v1, v2, v3, g0, f0, hne, hne2, hkk3, hkk0, hkkI, f1])) ?_
            refine DetSteps.store (by decide) (fun ww hw => by simp only [pick, List.getD_cons_zero, List.getD_cons_succ] at hw ⊢; subst hw; exact Step.pred (Step.skip rfl (by simp [execOp, go_sem, r100, r99, x0, x1, x2, x3, y0, y1, y2, y3, v0, v1, v2, v3, g0, f0, hne, hne2, hkk3, hkk0, hkkI, f1] <;> rfl)) rfl) ?_
            exact True.intro
          case fin =>
            intro wf hw
            simp only [pick, List.getD_cons_zero, List.getD_cons_succ, List.length_cons, List.length_nil] at hw
            subst hw
            simp only [puts, Act.put, List.getD_cons_zero, List.getD_cons_succ, List.setIfInBounds_toArray, List.set_cons_succ, List.set_cons_zero, List.length_cons, List.length_nil]
            have hbE : Below w.heap.size w (((((u.drew.setCell ⟨P, 0, none⟩ (.slice a2 1 c2)).setCell ⟨P, 1, none⟩ (.int .i64 xa)).setCell ⟨P, 2, none⟩ (.int .i64 xb)).setCell ⟨P, 3, none⟩ (.int .i64 xc)).setCell ⟨Q, kk, none⟩ (.int .i64 (g + m))) := by
              repeat (first | refine Below.setCell ?_ (by simp only; omega) _ | exact hbu.drew)
            clear hFu hbu x0 x1 x2 x3 y0 y1 y2 y3 v0 v1 v2 v3 g0 f0 f1
            generalize ((((u.drew.setCell ⟨P, 0, none⟩ (.slice a2 1 c2)).setCell ⟨P, 1, none⟩ (.int .i64 xa)).setCell ⟨P, 2, none⟩ (.int .i64 xb)).setCell ⟨P, 3, none⟩ (.int .i64 xc)).setCell ⟨Q, kk, none⟩ (.int .i64 (g + m)) = uf at *
            go_wp2_with fail
            case' roundEnd =>
              refine ⟨⟨j + 1, ⟨xa, xb, xc⟩, a2, c2, by omega, by omega, by go_num, hst, hbE⟩, ?_⟩
              simp [intOf]; omega
      · have hT4 : T2 = 1 := by omega
        clear hT3
        subst hT4
        have hW5 : g < m → backS ⟨da, db, dc⟩ kk m = (⟨da, db, dc⟩, 5) := fun h => by unfold backS; rw [if_neg (by omega), hg, if_pos h]
        have hW0 : ¬ g < m → backS ⟨da, db, dc⟩ kk m = (Pnd.add ⟨da, db, dc⟩ kk (-m), 0) := fun h => by unfold backS; rw [if_neg (by omega), hg, if_neg h]
        have hW5h := Lib.hid hW5
        have hWo := Lib.hid hW0
        clear hW5 hW0 hfr
        have q0 := hcnt kk (by simp; omega)
        rw [pnd_at ⟨da, db, dc⟩ kk hkk3, hg, Nat.zero_add] at q0
        by_cases hfm : g < m
        · have hle : decide (m ≤ g) = false := decide_eq_false (by omega)
          have hle2 : ¬ m ≤ g := by omega
          have hgh := Lib.hid hg
          clear hg
          go_wp2_with (first | (go_at_call 7; refine (Place_calls _ _ _ (by omega) (by omega)).mono ?_; rintro e w' ⟨rfl, rfl⟩))
          refine (pavg_Back_is (l := [⟨n, 3 * n, 0⟩]) (d := ⟨da, db, dc⟩) (k := kk) (q := m) hrow hLh.out hok ⟨by omega, by omega⟩ ⟨by omega, by omega⟩ (hW5h.out hfm)).mono ?_
          rintro e w2 ⟨⟨a2, c2, rfl, H2⟩, hw2⟩
          have hs2 := hw2.size
          have hqQ : Q < w2.heap.size := by omega
          have q1 : ∀ o : Obj, (w2.alloc o).cell? ⟨Q, kk, none⟩ = some (.int .i64 g) := fun o => (World.cell?_alloc_lt _ _ _ hqQ).trans ((hw2.cell (p := ⟨Q, kk, none⟩) hql).trans q0)
          have hF3 := (hF2.below hw2).below ((Below.refl w2.heap.size w2).alloc (Nat.le_refl _) (.cells #[.slice a2 1 c2, .int .i64 da, .int .i64 db, .int .i64 dc] 26))
          have hb3 : Below w.heap.size w (w2.alloc (.cells #[.slice a2 1 c2, .int .i64 da, .int .i64 db, .int .i64 dc] 26)) := by (repeat (first | assumption | exact Below.refl _ _ | refine ballc ?_ _ | refine bdrew ?_ | refine bdrewN ?_ _ | refine bset ?_ _ _ | refine bsetN ?_ (by omega) _ _ | refine bthen ?_ (by assumption)))
          clear H2 hw2 hF2 hrow hcnt hfz hok hbel
          go_wp2_with fail
          case' roundEnd =>
            refine ⟨⟨j + 1, ⟨da, db, dc⟩, a, c, by omega, by omega, by go_num, hF3, hb3⟩, ?_⟩
            simp [intOf]; omega
        · have hle : decide (m ≤ g) = true := decide_eq_true (by omega)
          have hle2 : m ≤ g := by omega
          go_wp2_with (first | (go_at_call 7; refine (Place_calls _ _ _ (by omega) (by omega)).mono ?_; rintro e w' ⟨rfl, rfl⟩))
          refine (pavg_Back_is (l := [⟨n, 3 * n, 0⟩]) (d := ⟨da, db, dc⟩) (k := kk) (q := m) hrow hLh.out hok ⟨by omega, by omega⟩ ⟨by omega, by omega⟩ (hWo.out hfm)).mono ?_
          obtain ⟨d2, hd2⟩ : ∃ d2, Pnd.add ⟨da, db, dc⟩ kk (-m) = d2 := ⟨_, rfl⟩
          rw [hd2]
          rintro e w2 ⟨⟨a2, c2, rfl, H2⟩, hw2⟩
          have hs2 := hw2.size
          have hqQ : Q < w2.heap.size := by omega
          have q1 : ∀ o : Obj, (w2.alloc o).cell? ⟨Q, kk, none⟩ = some (.int .i64 g) := fun o => (World.cell?_alloc_lt _ _ _ hqQ).trans ((hw2.cell (p := ⟨Q, kk, none⟩) hql).trans q0)
          have hu : Below w2.heap.size w2 (w2.alloc (.cells #[.slice a2 1 c2, .int .i64 d2.a, .int .i64 d2.b, .int .i64 d2.c] 26)) := by
            obtain ⟨xa, xb, xc⟩ := d2
            (repeat (first | assumption | exact Below.refl _ _ | refine ballc ?_ _ | refine bdrew ?_ | refine bdrewN ?_ _ | refine bset ?_ _ _ | refine bsetN ?_ (by omega) _ _ | refine bthen ?_ (by assumption)))
          have hFu := (hF2.below hw2).below hu
          have hPr := CellP.new w2 (.slice a2 1 c2) d2 26
          have hst := (hFu.below (Below.refl _ _).drew).store (base := wo.heap.size) (by omega) hpl hql hkk3 (q := -m) (by rw [hg]; omega) (by simp only; omega) (by omega) hLh.out ((H2.below hu).below (Below.refl _ _).drew)
          rw [hd2, hg, ← Int.sub_eq_add_neg] at hst
          have hbu : Below w.heap.size w (w2.alloc (.cells #[.slice a2 1 c2, .int .i64 d2.a, .int .i64 d2.b, .int .i64 d2.c] 26)) := (hbel.trans (hw2.mono hso)).trans (hu.mono (by omega))
          obtain ⟨xa, xb, xc⟩ := d2
          simp only at hPr hst hFu hbu
          have hsu : w2.heap.size < (w2.alloc (.cells #[.slice a2 1 c2, .int .i64 xa, .int .i64 xb, .int .i64 xc] 26)).heap.size := by simp
          have g0 := hFu.cnt kk (by simp; omega)
          rw [pnd_at ⟨da, db, dc⟩ kk hkk3, hg, Nat.zero_add] at g0
          have f0 := hFu.fz kk
          obtain ⟨x0, x1, x2, x3, -, -, -, -⟩ := hPr
          simp only at x1 x2 x3
          obtain ⟨y0, y1, y2, y3, v0, v1, v2, v3⟩ := hFu.pool
          simp only at y1 y2 y3
          have hbP : w.heap.size ≤ P := hws
          obtain ⟨R, hR⟩ : ∃ R, w2.heap.size = R := ⟨_, rfl⟩
          have hRP : P < R := by omega
          have hRQ : Q < R := by omega
          have hd2h := Lib.hid hd2
          have hgh := Lib.hid hg
          clear hd2 hg hF2 hcnt hfz hrow hok hu H2 hw2 hbel
          go_wp2_with fail
          rw [hR] at hsu x0 x1 x2 x3
          generalize w2.alloc (.cells #[.slice a2 1 c2, .int .i64 xa, .int .i64 xb, .int .i64 xc] 26) = u at *
          have f1 : IntKind.i64.wrap (g - m) = g - m := IntWalk.i64_in _ (by omega)
          have hne : P ≠ Q := by omega
          have hne2 : Q ≠ P := by omega
          refine wp_region_det' 2 [some 126, some 127, some 128, some 129, some 130, some 131, some 132, none, some 133, none] [7, 9] [(0, 1), (0, 0), (0, 1), (0, 1), (0, 1), (0, 1), (0, 1), (0, 0), (1, 1), (1, 1)] (pick [fun w' => w' = u.drew, fun w' => w' = ((((u.drew.setCell ⟨P, 0, none⟩ (.slice a2 1 c2)).setCell ⟨P, 1, none⟩ (.int .i64 (xa))).setCell ⟨P, 2, none⟩ (.int .i64 (xb))).setCell ⟨P, 3, none⟩ (.int .i64 (xc))), fun w' => w' = (((((u.drew.setCell ⟨P, 0, none⟩ (.slice a2 1 c2)).setCell ⟨P, 1, none⟩ (.int .i64 (xa))).setCell ⟨P, 2, none⟩ (.int .i64 (xb))).setCell ⟨P, 3, none⟩ (.int .i64 (xc))).setCell ⟨Q, kk, none⟩ (.int .i64 (g - m)))]) [.int .i64 (kk), .agg #[.slice a2 1 c2, .int .i64 (xa), .int .i64 (xb), .int .i64 (xc)], .int .i64 (kk), .pointer (some ⟨Q, kk, none⟩), .int .i64 (g), .int .i64 (m), .int .i64 (g - m), undef, .pointer (some ⟨Q, kk, none⟩), undef] (by kernel_rfl) (by kernel_rfl) (by kernel_rfl) rfl (by kernel_rfl) (by kernel_rfl) (by kernel_rfl) (by rfl) rfl ?steps ?fin
          case steps =>
            intro ρ hin hout hconst hfun
            have r11 : ρ (.tmp 11) = .int .i64 (kk) := hout 11 rfl
            have r16 : ρ (.tmp 16) = .pointer (some ⟨R, 0, none⟩) := hout 16 rfl
            have r8 : ρ (.tmp 8) = .pointer (some ⟨Q, 0, none⟩) := hout 8 rfl
            have r128 : ρ (.tmp 128) = .int .i64 (kk) := hin 2 128 rfl
            have r129 : ρ (.tmp 129) = .pointer (some ⟨Q, kk, none⟩) := hin 3 129 rfl
            have r12 : ρ (.tmp 12) = .int .i64 (m) := hout 12 rfl
            have r130 : ρ (.tmp 130) = .int .i64 (g) := hin 4 130 rfl
            have r131 : ρ (.tmp 131) = .int .i64 (m) := hin 5 131 rfl
            have r6 : ρ (.tmp 6) = .pointer (some ⟨P, 0, none⟩) := hout 6 rfl
            have r127 : ρ (.tmp 127) = .agg #[.slice a2 1 c2, .int .i64 (xa), .int .i64 (xb), .int .i64 (xc)] := hin 1 127 rfl
            have r126 : ρ (.tmp 126) = .int .i64 (kk) := hin 0 126 rfl
            have r133 : ρ (.tmp 133) = .pointer (some ⟨Q, kk, none⟩) := hin 8 133 rfl
            have r132 : ρ (.tmp 132) = .int .i64 (g - m) := hin 6 132 rfl
            clear hin hout
            refine DetSteps.pure (by decide) (fun ww => Step.value (by simp [execOp, r11])) ?_
            refine DetSteps.load (by decide) (fun s ww h1 h2 hw => by rcases (by omega : s = 0) with rfl <;> (simp only [pick, List.getD_cons_zero, List.getD_cons_succ] at hw; subst hw; exact Step.value (by simp [execOp, go_sem, r16, x0, x1, x2, x3, y0, y1, y2, y3, v0, v1, v2, v3, g0, f0, hne, hne2, hkk3, hkk0, hkkI, f1]))) ?_
            refine DetSteps.pure (by decide) (fun ww => Step.value (by simp [execOp, r11])) ?_
            refine DetSteps.pure (by decide) (fun ww => Step.value (by simp [execOp, go_sem, hconst, r8, r128, x0, x1, x2, x3, y0, y1, y2, y3, v0, v1, v2, v3, g0, f0, hne, hne2, hkk3, hkk0, hkkI, f1])) ?_
            refine DetSteps.load (by decide) (fun s ww h1 h2 hw => by rcases (by omega : s = 0 ∨ s = 1) with rfl | rfl <;> (simp only [pick, List.getD_cons_zero, List.getD_cons_succ] at hw; subst hw; exact Step.value (by simp [execOp, go_sem, r129, x0, x1, x2, x3, y0, y1, y2, y3, v0, v1, v2, v3, g0, f0, hne, hne2, hkk3, hkk0, hkkI, f1]))) ?_
            refine DetSteps.pure (by decide) (fun ww => Step.value (by simp [execOp, r12])) ?_
            refine DetSteps.pure (by decide) (fun ww => Step.value (by simp [execOp, go_sem, r130, r131, x0, x1, x2, x3, y0, y1, y2, y3, v0, v1, v2, v3, g0, f0, hne, hne2, hkk3, hkk0, hkkI, f1])) ?_
            refine DetSteps.store (by decide) (fun ww hw => by simp only [pick, List.getD_cons_zero, List.getD_cons_succ] at hw ⊢; subst hw; exact Step.pred (Step.skip rfl (by simp [execOp, go_sem, r6, r127, x0, x1, x2, x3, y0, y1, y2, y3, v0, v1, v2, v3, g0, f0, hne, hne2, hkk3, hkk0, hkkI, f1] <;> rfl)) rfl) ?_
            refine DetSteps.pure (by decide) (fun ww => Step.value (by simp [execOp, go_sem, hconst, r8, r126, x0, x1, x2, x3, y0, y1, y2, y3, v0, v1, v2, v3, g0, f0, hne, hne2, hkk3, hkk0, hkkI, f1])) ?_
            refine DetSteps.store (by decide) (fun ww hw => by simp only [pick, List.getD_cons_zero, List.getD_cons_succ] at hw ⊢; subst hw; exact Step.pred (Step.skip rfl (by simp [execOp, go_sem, r133, r132, x0, x1, x2, x3, y0, y1, y2, y3, v0, v1, v2, v3, g0, f0, hne, hne2, hkk3, hkk0, hkkI, f1] <;> rfl)) rfl) ?_
            exact True.intro
          case fin =>
            intro wf hw
            simp only [pick, List.getD_cons_zero, List.getD_cons_succ, List.length_cons, List.length_nil] at hw
            subst hw
            simp only [puts, Act.put, List.getD_cons_zero, List.getD_cons_succ, List.setIfInBounds_toArray, List.set_cons_succ, List.set_cons_zero, List.length_cons, List.length_nil]
            have hbE : Below w.heap.size w (((((u.drew.setCell ⟨P, 0, none⟩ (.slice a2 1 c2)).setCell ⟨P, 1, none⟩ (.int .i64 xa)).setCell ⟨P, 2, none⟩ (.int .i64 xb)).setCell ⟨P, 3, none⟩ (.int .i64 xc)).setCell ⟨Q, kk, none⟩ (.int .i64 (g - m))) := by
              repeat (first | refine Below.setCell ?_ (by simp only; omega) _ | exact hbu.drew)
            clear hFu hbu x0 x1 x2 x3 y0 y1 y2 y3 v0 v1 v2 v3 g0 f0 f1
            generalize ((((u.drew.setCell ⟨P, 0, none⟩ (.slice a2 1 c2)).setCell ⟨P, 1, none⟩ (.int .i64 xa)).setCell ⟨P, 2, none⟩ (.int .i64 xb)).setCell ⟨P, 3, none⟩ (.int .i64 xc)).setCell ⟨Q, kk, none⟩ (.int .i64 (g - m)) = uf at *
            go_wp2_with fail
            case' roundEnd =>
              refine ⟨⟨j + 1, ⟨xa, xb, xc⟩, a2, c2, by omega, by omega, by go_num, hst, hbE⟩, ?_⟩
              simp [intOf]; omega
    · have hfr : freeP [⟨n, 3 * n, 0⟩] ⟨da, db, dc⟩ = n - da - db - dc := by simp [freeP, qs]
      have hO : outP [⟨n, 3 * n, 0⟩] ⟨da, db, dc⟩ (n - da - db - dc + 1) = ([⟨n, 3 * n, 0⟩], .zero, 5) := by
        unfold outP; rw [if_neg (by omega), hfr, if_pos (by omega)]
      have hOh := Lib.hid hO
      have hfrh := Lib.hid hfr
      clear hO hfr
      obtain ⟨p0, p1, p2, p3, -, -, -, -⟩ := hp
      simp only at p1 p2 p3
      have hex : (¬ (j : Int) < (n0 : Int)) ∨ ((j : Int) < (n0 : Int) ∧ ¬ (j : Int) < 40) := by omega
      have hF2h := Lib.hid hF2
      clear hlt hF2 hcnt hfz
      have fin : ∀ u4 : Value, True := fun _ => trivial
      rcases hex with hj1 | ⟨hj1, hj2⟩
      all_goals
        go_wp2_with fail
        refine (pavg_Out (a := a) (cap := c) (l := [⟨n, 3 * n, 0⟩]) (d := ⟨da, db, dc⟩) (q := n - da - db - dc + 1) _ hrow hLh.out hok ⟨by omega, by omega⟩).mono ?_
        rw [hOh.out]
        rintro e w2 ⟨v, rfl, hH, hw2⟩
        have hh2 := hH
        obtain ⟨a2, c2, rfl, -⟩ := hH.row hLh.out.all
        unfold poolV Lay.val Lay.zero
        simp only
        go_wp2_with fail
        have hbA : Below w2.heap.size w2 ((w2.alloc (.cells #[.slice a2 1 c2, .int .i64 da, .int .i64 db, .int .i64 dc] 26)).alloc (.cells #[.int .i64 0, .int .i64 0, .int .i64 0] 32)) := by (repeat (first | assumption | exact Below.refl _ _ | refine ballc ?_ _ | refine bdrew ?_ | refine bdrewN ?_ _ | refine bset ?_ _ _ | refine bsetN ?_ (by omega) _ _ | refine bthen ?_ (by assumption)))
        have hFU := (hF2h.out.below hw2).below hbA
        have hbU := (hbel.trans (hw2.mono hso)).trans (hbA.mono (Nat.le_trans hso hw2.size))
        clear hbA hw2 hH hh2 hok hsum o0 o1 o2 p0 p1 p2 p3 hrow hpl hql hbel hF2h hOh
        generalize (w2.alloc (.cells #[.slice a2 1 c2, .int .i64 da, .int .i64 db, .int .i64 dc] 26)).alloc (.cells #[.int .i64 0, .int .i64 0, .int .i64 0] 32) = U at *
        obtain ⟨hp, hrow, hcnt, hfz, hpl, hql, hok, hsum⟩ := hFU
        obtain ⟨p0, p1, p2, p3, -, -, -, -⟩ := hp
        simp only at p1 p2 p3 hcnt hsum
        have o0 := hcnt 0 (by simp)
        have o1 := hcnt 1 (by simp)
        have o2 := hcnt 2 (by simp)
        simp at o0 o1 o2
        obtain ⟨b, off, rfl, hbl, hc⟩ : ∃ b off, a = some ⟨b, off, none⟩ ∧ b < U.heap.size ∧ CellsAt U b off (flat [⟨n, 3 * n, 0⟩]) := by
          rcases hrow.at_ with h0 | h0
          · cases h0
          · exact h0
        have l0 := (hc.lay (j := 0) (x := ⟨n, 3 * n, 0⟩) rfl).1
        simp only [Nat.zero_mul, Nat.add_zero] at l0
        have hAft := @After.cell U
        have hokh := Lib.hid hok
        have hrowh := Lib.hid hrow
        have hc1 := hrow.le
        clear hc hcnt hfz hok hrow
        have g1 : IntKind.i64.wrap (n - da) = n - da := IntWalk.i64_in _ (by omega)
        have g2 : IntKind.i64.wrap (n - da - db) = n - da - db := IntWalk.i64_in _ (by omega)
        have g3 : IntKind.i64.wrap (n - da - db - dc) = n - da - db - dc := IntWalk.i64_in _ (by omega)
        refine wp_region_grow (by kernel_rfl) (by kernel_rfl) ?_
        repeat (go_big_quiet_step ((first
          | (go_at_call 12; exact Calls.grow fun hx => pavg_Free_is (l := [⟨n, 3 * n, 0⟩]) (d := ⟨da, db, dc⟩) (f := n - da - db - dc) (hrowh.out.below hx) hLh.out hokh.out hfrh.out)
          | (go_at_call 13; exact Calls.grow fun hx => pavg_awake _))))
        refine wpQuiet_nil ?_
        intro _ hw'
        obtain ⟨⟨w', hb'⟩, rfl⟩ := hw'
        clear hAft
        go_wp2_with fail
        go_ret
        exact ⟨rfl, hbU.trans (hb'.mono hbU.size)⟩
end Go.Proofs.Ytjccjmmbebiegaa
