/-
  PavgSettles. Its walk.
-/
import Derived.Test.YtjccjmmbebiegaaPavgS
import Derived.Test.YtjccjmmbebiegaaPavg8
import Derived.IntWalk
set_option linter.unusedVariables false
set_option linter.unusedSimpArgs false
namespace Go.Proofs.Ytjccjmmbebiegaa
open Go.RowKit

/-- A pool in a block, and where its layers lie. -/
structure SetI (w : World) (P : Nat) (l : List Lay) (a : Option Addr) (c : Nat) (d : Pnd) : Prop where
  pool : CellP w P (.slice a l.length c) d
  row : Row w 3 a l.length c (flat l)
  pl : P < w.heap.size
theorem SetI.below {w w' : World} {P : Nat} {l : List Lay} {a : Option Addr} {c : Nat} {d : Pnd} (h : SetI w P l a c d) (g : Below w.heap.size w w') : SetI w' P l a c d :=
  ⟨h.pool.below g h.pl, h.row.below g, Nat.lt_of_lt_of_le h.pl g.size⟩
theorem SetI.put {w : World} {P base : Nat} {l m : List Lay} {a a2 : Option Addr} {c c2 : Nat} {d : Pnd} (h : SetI w P l a c d) (x y z : Int) (hP : P < base) (hL : LR m) (hH : Hold w base (.slice a2 m.length c2) m) :
    SetI ((((w.setCell ⟨P, 0, none⟩ (.slice a2 m.length c2)).setCell ⟨P, 1, none⟩ (.int .i64 x)).setCell ⟨P, 2, none⟩ (.int .i64 y)).setCell ⟨P, 3, none⟩ (.int .i64 z)) P m a2 c2 ⟨x, y, z⟩ := by
  have hH2 : Hold ((((w.setCell ⟨P, 0, none⟩ (.slice a2 m.length c2)).setCell ⟨P, 1, none⟩ (.int .i64 x)).setCell ⟨P, 2, none⟩ (.int .i64 y)).setCell ⟨P, 3, none⟩ (.int .i64 z)) base (.slice a2 m.length c2) m := by
    repeat (first | refine Hold.set ?_ (by omega) _ _ | exact hH)
  exact ⟨h.pool.put (.slice a2 m.length c2) x y z, hH2.rowIs hL.all, by simpa [World.setCell] using h.pl⟩

theorem ret_slot {a b : Int} (h : a = b) : Value.int .i64 a = .int .i64 b := by rw [h]
theorem pnd_get_add {d : Pnd} {kk : Nat} (hk : kk < 3) (q : Int) : (d.add kk q).get kk = d.get kk + q := by
  have h : kk = 0 ∨ kk = 1 ∨ kk = 2 := by omega
  rcases h with rfl | rfl | rfl <;> rfl
theorem pnd_get_far {d : Pnd} {kk i : Nat} (hk : kk < 3) (hi : i < 3) (hne : i ≠ kk) (q : Int) : (d.add kk q).get i = d.get i := by
  have h : kk = 0 ∨ kk = 1 ∨ kk = 2 := by omega
  have h' : i = 0 ∨ i = 1 ∨ i = 2 := by omega
  rcases h with rfl | rfl | rfl <;> rcases h' with rfl | rfl | rfl <;> first | rfl | exact absurd rfl hne
theorem pnd_add_zero {d : Pnd} {kk : Nat} (hk : kk < 3) : d.add kk 0 = d := by
  have h : kk = 0 ∨ kk = 1 ∨ kk = 2 := by omega
  obtain ⟨a, b, c⟩ := d
  rcases h with rfl | rfl | rfl <;> simp [Pnd.add]
/-- What has been asked for, behind kk kinds. -/
structure Asks (L : List Int) (d : Pnd) (kk : Nat) : Prop where
  len : L.length = 3
  lo : ∀ i, i < kk → i < 3 → L.getD i 0 = d.get i
  hi : ∀ i, kk ≤ i → i < 3 → 0 ≤ L.getD i 0 ∧ L.getD i 0 ≤ 30 ∧ d.get i = 0
theorem Asks.next {L : List Int} {d : Pnd} {kk : Nat} (h : Asks L d kk) (hk : kk < 3) (m : Int) : Asks (L.set kk m) (d.add kk m) (kk + 1) := by
  have h0 := h.len
  refine ⟨by simpa using h0, fun i hi h3 => ?_, fun i hi h3 => ?_⟩
  · by_cases e : i = kk
    · subst e
      rw [pnd_get_add hk, (h.hi i (Nat.le_refl _) h3).2.2]
      simp [List.getElem?_set, h0, h3]
    · rw [pnd_get_far hk h3 e, ← h.lo i (by omega) h3]
      simp [List.getElem?_set, Ne.symm e]
  · rw [pnd_get_far hk h3 (by omega)]
    have := h.hi i (by omega) h3
    simp only [List.getD_eq_getElem?_getD, List.getElem?_set] at this ⊢
    rw [if_neg (by omega)]
    exact this
theorem Asks.fin {L : List Int} {d : Pnd} (h : Asks L d 3) : L = [d.a, d.b, d.c] := by
  obtain ⟨h1, h2, -⟩ := h
  match L, h1 with
  | [x, y, z], _ =>
    have a := h2 0 (by omega) (by omega)
    have b := h2 1 (by omega) (by omega)
    have c := h2 2 (by omega) (by omega)
    simp [Pnd.get] at a b c
    rw [a, b, c]

set_option maxRecDepth 20000 in
set_option maxHeartbeats 4000000 in
theorem PavgSettles_walk (a0 : Option Addr) (n0 cap0 : Nat) (zs : List Int) (s1 s2 s3 : Int) (w : World) (h : Row w 1 a0 n0 cap0 zs) (hs1 : I64 s1) (hs2 : I64 s2) (hs3 : I64 s3) :
    Calls Try.prog 3 #[.slice a0 n0 cap0, .int .i64 s1, .int .i64 s2, .int .i64 s3] w fun e w' => e = .returned (.bool true) ∧ Below w.heap.size w w' := by
  have hl : zs.length = n0 := by have := h.len; omega
  have hcap := h.le
  have hmax := h.max
  unfold maxLen at hmax
  have hat := Lib.hid h.at_
  have hlh := Lib.hid hl
  clear hl h
  go_enter Try.func3, Try.ntmps3
  go_wp2_with fail
  have hI0 : SetI (w.alloc (.cells #[.slice none 0 0, .int .i64 0, .int .i64 0, .int .i64 0] 26)) w.heap.size (potV 0 0) none 0 ⟨0, 0, 0⟩ :=
    ⟨CellP.new w (.slice none 0 0) ⟨0, 0, 0⟩ 26, Row.nil _ 3, by simp⟩
  have hb0 : Below w.heap.size w (w.alloc (.cells #[.slice none 0 0, .int .i64 0, .int .i64 0, .int .i64 0] 26)) := by (repeat (first | assumption | exact Below.refl _ _ | refine ballc ?_ _ | refine bdrew ?_ | refine bdrewN ?_ _ | refine bset ?_ _ _ | refine bsetN ?_ (by omega) _ _ | refine bthen ?_ (by assumption)))
  obtain ⟨P, hP⟩ : ∃ P, w.heap.size = P := ⟨_, rfl⟩
  have hwP : w.heap.size ≤ P := by omega
  rw [hP] at hI0 ⊢
  clear hP
  generalize w.alloc (.cells #[.slice none 0 0, .int .i64 0, .int .i64 0, .int .i64 0] 26) = u0 at *
  go_loopw [10, 11, 12] (fun q v i wr => ∃ (j : Nat) (Q V : Int) (a : Option Addr) (c : Nat), j ≤ n0 ∧ j ≤ 20 ∧ q = .int .i64 Q ∧ v = .int .i64 V ∧ i = .int .i64 j ∧ 0 ≤ Q ∧ Q ≤ 20 * j ∧ 0 ≤ V ∧ V ≤ 499 * j ∧ (Q = 0 → V = 0) ∧ SetI wr P (potV Q V) a c ⟨0, 0, 0⟩ ∧ Below w.heap.size w wr) (fun _ _ i _ => n0 - (intOf i).toNat)
  case atStart => exact ⟨0, 0, 0, none, 0, by omega, by omega, rfl, rfl, rfl, by omega, by omega, by omega, by omega, fun _ => rfl, hI0, hb0⟩
  case round =>
    obtain ⟨j, Q, V, a, c, hj, hj20, rfl, rfl, rfl, hQ0, hQ1, hV0, hV1, hz, hS, hbel⟩ := hrel
    obtain ⟨wo, hwo⟩ : ∃ wo : World, wr = wo := ⟨_, rfl⟩
    rw [hwo] at hS hbel ⊢
    clear hwo hI0 hb0
    have hso := hbel.size
    have hLh := Lib.hid (potV_LR (q := Q) (v := V) hQ0 (by omega) hV0 (by omega))
    have hpl := hS.pl
    have hSh := Lib.hid hS
    obtain ⟨p0, p1, p2, p3, -, -, -, -⟩ := hS.pool
    simp only at p1 p2 p3
    clear hS
    by_cases hlt : j < n0 ∧ j < 20
    · obtain ⟨hlt1, hlt2⟩ := hlt
      have hjI : (j : Int) < (n0 : Int) := by omega
      have hjI2 : (j : Int) < 20 := by omega
      have hj0 : (0 : Int) ≤ (j : Int) := by omega
      obtain ⟨b, off, rfl, hb, hc⟩ : ∃ b off, a0 = some ⟨b, off, none⟩ ∧ b < w.heap.size ∧ CellsAt w b off zs := by
        rcases hat.out with h0 | h0
        · omega
        · exact h0
      have c0 := (hbel.cell (p := ⟨b, off + j, none⟩) hb).trans (hc j (by rw [hlh.out]; exact hlt1))
      obtain ⟨y, hy⟩ : ∃ y, zs.getD j 0 = y := ⟨_, rfl⟩
      rw [hy] at c0
      clear hy hc
      obtain ⟨K, hK⟩ : ∃ K, y % 10000 = K := ⟨_, rfl⟩
      have hK0 : 0 ≤ K := by omega
      have hK1 : K < 10000 := by omega
      obtain ⟨M, hM⟩ : ∃ M, K % 20 = M := ⟨_, rfl⟩
      have hM0 : 0 ≤ M := by omega
      have hM1 : M < 20 := by omega
      obtain ⟨A, hA⟩ : ∃ A, 1 + M = A := ⟨_, rfl⟩
      have hA0 : 1 ≤ A := by omega
      have hA1 : A ≤ 20 := by omega
      obtain ⟨B, hB⟩ : ∃ B, K / 20 = B := ⟨_, rfl⟩
      have hB0 : 0 ≤ B := by omega
      have hB1 : B ≤ 499 := by omega
      have hI := Lib.hid (in_potV hQ0 (by omega : Q + A ≤ 400) hV0 (by omega : V + B ≤ 20000) hz hA0 hB0)
      have hLh2 := Lib.hid (potV_LR (q := Q + A) (v := V + B) (by omega) (by omega) (by omega) (by omega))
      have hx : AllI [(⟨A, B, 0⟩ : Lay).q, (⟨A, B, 0⟩ : Lay).v, (⟨A, B, 0⟩ : Lay).p] := by
        intro x hx
        simp at hx
        rcases hx with rfl | rfl | rfl <;> exact ⟨by omega, by omega⟩
      have hbo : b < wo.heap.size := by omega
      go_wp2_with (first | (go_at_call 7; refine (Place_calls _ _ _ (by omega) (by omega)).mono ?_; rintro e w' ⟨rfl, rfl⟩))
      refine (pavg_In_is (x := ⟨A, B, 0⟩) (d := ⟨0, 0, 0⟩) hSh.out.row hLh.out hx hI.out).mono ?_
      obtain ⟨m, hm⟩ : ∃ m, potV (Q + A) (V + B) = m := ⟨_, rfl⟩
      rw [hm] at hLh2 ⊢
      rintro e w2 ⟨⟨a2, c2, rfl, H2⟩, hw2⟩
      have hs2 := hw2.size
      have hu : Below w2.heap.size w2 (w2.alloc (.cells #[.slice a2 m.length c2, .int .i64 0, .int .i64 0, .int .i64 0] 26)) := by (repeat (first | assumption | exact Below.refl _ _ | refine ballc ?_ _ | refine bdrew ?_ | refine bdrewN ?_ _ | refine bset ?_ _ _ | refine bsetN ?_ (by omega) _ _ | refine bthen ?_ (by assumption)))
      have hSu := (hSh.out.below hw2).below hu
      have hst := hSu.put (base := wo.heap.size) 0 0 0 hpl hLh2.out (H2.below hu)
      obtain ⟨y0, y1, y2, y3, v0, v1, v2, v3⟩ := hSu.pool
      simp only at y1 y2 y3
      have hPr := CellP.new w2 (.slice a2 m.length c2) ⟨0, 0, 0⟩ 26
      obtain ⟨x0, x1, x2, x3, -, -, -, -⟩ := hPr
      simp only at x1 x2 x3
      have hbE : Below w.heap.size w (((((w2.alloc (.cells #[.slice a2 m.length c2, .int .i64 0, .int .i64 0, .int .i64 0] 26)).setCell ⟨P, 0, none⟩ (.slice a2 m.length c2)).setCell ⟨P, 1, none⟩ (.int .i64 0)).setCell ⟨P, 2, none⟩ (.int .i64 0)).setCell ⟨P, 3, none⟩ (.int .i64 0)) := by
        repeat (first | refine Below.setCell ?_ (by simp only; omega) _ | exact (hbel.trans (hw2.mono hso)).trans (hu.mono (by omega)))
      have hmh := Lib.hid hm
      clear hm hu hSu H2 hw2 hbel hSh
      go_wp2_with fail
      case' roundEnd =>
        refine ⟨⟨j + 1, Q + A, V + B, a2, c2, by omega, by omega, by go_num, by go_num, by go_num, by omega, by omega, by omega, by omega, by omega, by rw [hmh.out]; exact hst, hbE⟩, ?_⟩
        simp [intOf]; omega
    · have hex : (¬ (j : Int) < (n0 : Int)) ∨ ((j : Int) < (n0 : Int) ∧ ¬ (j : Int) < 20) := by omega
      clear hlt p0 p1 p2 p3
      go_upto_region 4 with fail
      go_cut [34] from 27 to 34 (fun s wx => s = .bool false ∧ wo = wx)
      case first =>
        rcases hex with hj1 | ⟨hj1, hj2⟩
        all_goals
          go_wp2_with fail
          go_meet
          case rel => exact ⟨rfl, rfl⟩
      case rest =>
      obtain ⟨rfl, rfl⟩ := hcut
      have hQ400 : Q ≤ 400 := by omega
      have hV20 : V ≤ 20000 := by omega
      clear hex hj hj20 hQ1 hV1
      obtain ⟨t1, ht1⟩ : ∃ t, s1 % 30 = t := ⟨_, rfl⟩
      obtain ⟨t2, ht2⟩ : ∃ t, s2 % 10 = t := ⟨_, rfl⟩
      obtain ⟨t3, ht3⟩ : ∃ t, s3 % 10 = t := ⟨_, rfl⟩
      have ht10 : 0 ≤ t1 ∧ t1 ≤ 30 ∧ 0 ≤ t2 ∧ t2 ≤ 30 ∧ 0 ≤ t3 ∧ t3 ≤ 30 := by omega
      have hzh := Lib.hid hz
      clear hz
      go_wp2_with (first | (go_at_call 7; refine (Place_calls _ _ _ (by omega) (by omega)).mono ?_; rintro e w' ⟨rfl, rfl⟩))
      have hb2 : Below wo.heap.size wo (wo.alloc (.cells #[.int .i64 t1, .int .i64 t2, .int .i64 t3] 24)) := by (repeat (first | assumption | exact Below.refl _ _ | refine ballc ?_ _ | refine bdrew ?_ | refine bdrewN ?_ _ | refine bset ?_ _ _ | refine bsetN ?_ (by omega) _ _ | refine bthen ?_ (by assumption)))
      have hS0 := hSh.out.below hb2
      have hc0 : CellsAt (wo.alloc (.cells #[.int .i64 t1, .int .i64 t2, .int .i64 t3] 24)) wo.heap.size 0 [t1, t2, t3] := CellsAt.new wo [t1, t2, t3] 24
      have hf0 : ∀ i, (wo.alloc (.cells #[.int .i64 t1, .int .i64 t2, .int .i64 t3] 24)).frozen? ⟨wo.heap.size, i, none⟩ = false := fun i => World.frozen?_alloc_new wo #[.int .i64 t1, .int .i64 t2, .int .i64 t3] 24 i
      have hwl0 : wo.heap.size < (wo.alloc (.cells #[.int .i64 t1, .int .i64 t2, .int .i64 t3] 24)).heap.size := by simp
      have hbw : Below w.heap.size w (wo.alloc (.cells #[.int .i64 t1, .int .i64 t2, .int .i64 t3] 24)) := hbel.trans (hb2.mono hso)
      have hA0 : Asks [t1, t2, t3] ⟨0, 0, 0⟩ 0 := ⟨rfl, fun i hi => by omega, fun i _ hi => by
        have h : i = 0 ∨ i = 1 ∨ i = 2 := by omega
        rcases h with rfl | rfl | rfl <;> simp [Pnd.get] <;> omega⟩
      have hNe : (potV Q V).length = 0 ∨ ∀ ad, a = some ad → ad.block ≠ wo.heap.size := by
        rcases hSh.out.row.at_ with h0 | ⟨b, off, rfl, hb, -⟩
        · exact .inl h0
        · right; rintro ad e; cases e; simp only; omega
      clear hb2 hSh hbel ht1 ht2 ht3
      generalize wo.alloc (.cells #[.int .i64 t1, .int .i64 t2, .int .i64 t3] 24) = u0 at *
      obtain ⟨W, hW⟩ : ∃ W, wo.heap.size = W := ⟨_, rfl⟩
      rw [hW] at hc0 hf0 hwl0 hso hpl hNe ⊢
      clear hW
      go_loopw [17, 18] (fun lf k wr => ∃ (kk : Nat) (d : Pnd) (L : List Int) (a : Option Addr) (c : Nat), kk ≤ 3 ∧ k = .int .i64 kk ∧ lf = .int .i64 (Q - d.a - d.b - d.c) ∧ Asks L d kk ∧ 0 ≤ d.a ∧ 0 ≤ d.b ∧ 0 ≤ d.c ∧ d.a + d.b + d.c ≤ Q ∧ SetI wr P (potV Q V) a c d ∧ CellsAt wr W 0 L ∧ (∀ i, wr.frozen? ⟨W, i, none⟩ = false) ∧ W < wr.heap.size ∧ ((potV Q V).length = 0 ∨ ∀ ad, a = some ad → ad.block ≠ W) ∧ Below w.heap.size w wr) (fun _ k _ => 3 - (intOf k).toNat)
      case atStart => exact ⟨0, ⟨0, 0, 0⟩, [t1, t2, t3], a, c, by omega, rfl, by simp, hA0, by simp, by simp, by simp, by simp only; omega, hS0, hc0, hf0, hwl0, hNe, hbw⟩
      case round =>
        obtain ⟨kk, d, L, a, c, hkk, rfl, rfl, hA, ha0, hb0, hc0, hsum, hS, hc, hf, hwl, hNe2, hbel⟩ := hrel
        obtain ⟨ws0, hws0⟩ : ∃ ws0 : World, wr = ws0 := ⟨_, rfl⟩
        rw [hws0] at hS hc hf hwl hbel ⊢
        clear hws0 hS0 hf0 hbw hA0 hwl0 hNe
        have hso2 := hbel.size
        by_cases h3 : kk < 3
        · have hkI : (kk : Int) < 3 := by omega
          have hkI0 : (0 : Int) ≤ (kk : Int) := by omega
          obtain ⟨t, ht⟩ : ∃ t, L.getD kk 0 = t := ⟨_, rfl⟩
          obtain ⟨ht0, ht30, hdk⟩ := hA.hi kk (Nat.le_refl _) h3
          rw [ht] at ht0 ht30
          have c0 := hc kk (by rw [hA.len]; exact h3)
          rw [ht, Nat.zero_add] at c0
          have f0 := hf kk
          obtain ⟨left, hleft⟩ : ∃ left, Q - d.a - d.b - d.c = left := ⟨_, rfl⟩
          have hl0 : 0 ≤ left := by omega
          have hl400 : left ≤ 400 := by omega
          obtain ⟨m, hm⟩ : ∃ m, min t left = m := ⟨_, rfl⟩
          have hm0 : 0 ≤ m := by omega
          have hml : m ≤ left := by omega
          have hAn := Lib.hid (hA.next h3 m)
          have hsz3 := hA.len
          have hdkh := Lib.hid hdk
          have hth := Lib.hid ht
          have hszh := Lib.hid hsz3
          rw [hleft]
          clear ht hdk hA hsz3
          have hPW : P ≠ W := by omega
          have hws1 : w.heap.size ≤ W := by omega
          have hSs : SetI (ws0.setCell ⟨W, kk, none⟩ (.int .i64 m)) P (potV Q V) a c d := ⟨hS.pool.far hPW kk (.int .i64 m), hS.row.far (b := W) (by simp [World.setCell]) (fun j hj => Below.heap_setCell _ _ _ _ hj) hNe2, by simpa [World.setCell] using hS.pl⟩
          have hcs := hc.putI (j := kk) (by rw [hszh.out]; exact h3) m
          rw [Nat.zero_add] at hcs
          have hfs : ∀ i, (ws0.setCell ⟨W, kk, none⟩ (.int .i64 m)).frozen? ⟨W, i, none⟩ = false := fun i => by simpa using hf i
          have hwls : W < (ws0.setCell ⟨W, kk, none⟩ (.int .i64 m)).heap.size := by simpa [World.setCell] using hwl
          have hbs : Below w.heap.size w (ws0.setCell ⟨W, kk, none⟩ (.int .i64 m)) := hbel.setCell (by simp only; omega) _
          go_upto_region 17 with fail
          clear hS hc hf hwl hbel c0 f0 hso2
          generalize ws0.setCell ⟨W, kk, none⟩ (.int .i64 m) = ws at *
          have hso3 := hbs.size
          have c0 := hcs kk (by simp [hszh.out, h3])
          have e0 : (L.set kk m).getD kk 0 = m := by simp [List.getElem?_set, hszh.out, h3]
          rw [e0, Nat.zero_add] at c0
          clear e0
          by_cases hmz : m = 0
          · subst hmz
            go_wp2_with fail
            case' roundEnd =>
              refine ⟨⟨kk + 1, d, L.set kk 0, a, c, by omega, by go_num, by rw [hleft], by have := hAn.out; rwa [pnd_add_zero h3] at this, ha0, hb0, hc0, hsum, hSs, hcs, hfs, hwls, hNe2, hbs⟩, ?_⟩
              simp [intOf]; omega
          · have hm1 : 0 < m := by omega
            have hok : PndOk d := ⟨ha0, hb0, hc0, by omega, by omega, by omega⟩
            have hfree : freeP (potV Q V) d = left := by unfold freeP; rw [potV_qs]; exact hleft
            have hW0 : waitS (potV Q V) d kk m = (d.add kk m, 0) := by
              unfold waitS
              rw [if_neg (by omega), hfree, if_neg (by omega)]
            have hs := pnd_sum d kk m
            have hgd := hdkh.out
            have hmk := hm0
            have hbnd : 0 ≤ (d.add kk m).a ∧ 0 ≤ (d.add kk m).b ∧ 0 ≤ (d.add kk m).c := by
              have := pnd_ok (n := 400) hok (k := kk) (q := m) (by omega) (by omega) (by omega)
              exact ⟨this.a0, this.b0, this.c0⟩
            obtain ⟨d2, hd2⟩ : ∃ d2, d.add kk m = d2 := ⟨_, rfl⟩
            rw [hd2] at hW0 hs hbnd
            have hAn2 := hAn.out
            rw [hd2] at hAn2
            clear hd2 hfree hgd hmk
            have hWh := Lib.hid hW0
            have hokh := Lib.hid hok
            have hlefth := Lib.hid hleft
            clear hW0 hok hleft
            obtain ⟨p0, p1, p2, p3, -, -, -, -⟩ := hSs.pool
            have hpls := hSs.pl
            have hSsh := Lib.hid hSs
            have hRd : Row ws.drew 3 a (potV Q V).length c (flat (potV Q V)) := hSs.row.below (Below.refl _ _).drew
            have hRd2 : Row (ws.alloc (.cells #[.slice none 0 0, .int .i64 0, .int .i64 0, .int .i64 0] 26)).drew 3 a (potV Q V).length c (flat (potV Q V)) := hSs.row.below ((Below.refl _ _).alloc (Nat.le_refl _) _).drew
            have hYa : CellP (ws.alloc (.cells #[.slice none 0 0, .int .i64 0, .int .i64 0, .int .i64 0] 26)).drew ws.heap.size (.slice none 0 0) ⟨0, 0, 0⟩ := (CellP.new ws (.slice none 0 0) ⟨0, 0, 0⟩ 26).below (Below.refl (ws.heap.size + 1) _).drew (by simp)
            have hal : Below ws.heap.size ws (ws.alloc (.cells #[.slice none 0 0, .int .i64 0, .int .i64 0, .int .i64 0] 26)).drew := ((Below.refl _ _).alloc (Nat.le_refl _) _).drew
            have hdr : Below ws.heap.size ws ws.drew := (Below.refl _ _).drew
            clear hSs
            obtain ⟨l0, hl0e⟩ : ∃ l0, potV Q V = l0 := ⟨_, rfl⟩
            rw [hl0e] at hWh hRd hRd2 hNe2 hLh hSsh p0
            have hl0h := Lib.hid hl0e
            clear hl0e
            go_upto_region 18 with fail
            go_cut [19, 20] from 88 to 96 (fun s19 s20 wx => ∃ (a2 : Option Addr) (c2 R : Nat), s19 = .pointer (some ⟨R, 0, none⟩) ∧ s20 = .int .i64 0 ∧ ws.heap.size ≤ R ∧ R < wx.heap.size ∧ CellP wx R (.slice a2 l0.length c2) d2 ∧ Hold wx ws.heap.size (.slice a2 l0.length c2) l0 ∧ Below ws.heap.size ws wx)
            case first =>
              -- [[
              obtain ⟨da, db, dc⟩ := d
              obtain ⟨xa, xb, xc⟩ := d2
              simp only at p1 p2 p3
              go_region_with (go_at_call 9; refine (pavg_Wait_is (l := l0) (d := ⟨da, db, dc⟩) (k := kk) (q := m) (by first | exact hRd | exact hRd2) hLh.out hokh.out ⟨by omega, by omega⟩ ⟨by omega, by omega⟩ hWh.out).mono ?_; rintro e w4 ⟨⟨a2, c2, rfl, hh2⟩, hw4⟩; have hw4s := hw4.size; (first | (have hY := hYa.below hw4 (by simp); obtain ⟨y0, y1, y2, y3, g0, g1, g2, g3⟩ := hY; simp only at y1 y2 y3; have hlt4 : ws.heap.size < w4.heap.size := by simp at hw4s; omega) | skip))
              all_goals
                go_wp2_with fail
                go_meet
                case rel =>
                  first
                    | exact ⟨a2, c2, w4.heap.size, rfl, rfl, by simp at hw4s; omega, by simp, CellP.new w4 (.slice a2 l0.length c2) ⟨xa, xb, xc⟩ 26, (hh2.below ((Below.refl _ _).alloc (Nat.le_refl _) _)).mono (by simp), (hdr.trans (hw4.mono (by simp))).alloc (by simp at hw4s; omega) _⟩
                    | exact ⟨a2, c2, ws.heap.size, rfl, rfl, Nat.le_refl _, by simpa [World.setCell] using hlt4, (hYa.below hw4 (by simp)).put (.slice a2 l0.length c2) xa xb xc, Hold.mono (base := ws.heap.size + 1) (by (refine Hold.set ?_ (by omega) _ _; refine Hold.set ?_ (by omega) _ _; refine Hold.set ?_ (by omega) _ _; refine Hold.set ?_ (by omega) _ _; exact hh2.mono (by simp))) (by omega), (((((hal.trans (hw4.mono (by simp))).setCell (p := ⟨ws.heap.size, 0, none⟩) (by simp) _).setCell (p := ⟨ws.heap.size, 1, none⟩) (by simp) _).setCell (p := ⟨ws.heap.size, 2, none⟩) (by simp) _).setCell (p := ⟨ws.heap.size, 3, none⟩) (by simp) _)⟩
              -- ]]
            case rest =>
            obtain ⟨a2, c2, R, rfl, rfl, hR1, hR2, hX, hH2, hbc⟩ := hcut
            have hsc := hbc.size
            have hS2 := hSsh.out.below hbc
            have hst0 := hS2.put (base := ws.heap.size) d2.a d2.b d2.c hpls hLh.out hH2
            have hN2 := hH2.from_.ne (g := W) (by omega)
            have hcc := hcs.below hwls hbc
            have hfc : ∀ i, wc.frozen? ⟨W, i, none⟩ = false := fun i => (hbc.frozen (p := ⟨W, i, none⟩) hwls).trans (hfs i)
            have hwlc : W < wc.heap.size := by omega
            have hplc : P < wc.heap.size := by omega
            have hbw := hbs.trans (hbc.mono hso3)
            have c1 := (hbc.cell (p := ⟨W, kk, none⟩) hwls).trans c0
            obtain ⟨x0, x1, x2, x3, -, -, -, -⟩ := hX
            obtain ⟨y0, y1, y2, y3, v0, v1, v2, v3⟩ := hS2.pool
            obtain ⟨da, db, dc⟩ := d
            obtain ⟨xa, xb, xc⟩ := d2
            simp only at x1 x2 x3 y1 y2 y3 hst0 hs hbnd
            clear hSsh hS2 hH2 hbc hcs hfs c0 hbs hRd hRd2 hYa hal hdr p0 p1 p2 p3 hokh hWh hdkh
            have hRne : P ≠ R := by omega
            have hRW : W ≠ R := by omega
            have hRP : R ≠ P := by omega
            have hWP : W ≠ P := by omega
            have f1 : IntKind.i64.wrap (left - m) = left - m := IntWalk.i64_in _ (by omega)
            go_upto_region 21 with fail
            go_region
            clear x0 x1 x2 x3 y0 y1 y2 y3 v0 v1 v2 v3 c1 f1
            have hbE : Below w.heap.size w ((((wc.setCell ⟨P, 0, none⟩ (.slice a2 l0.length c2)).setCell ⟨P, 1, none⟩ (.int .i64 xa)).setCell ⟨P, 2, none⟩ (.int .i64 xb)).setCell ⟨P, 3, none⟩ (.int .i64 xc)) := by
              repeat (first | refine Below.setCell ?_ (by simp only; omega) _ | exact hbw)
            have hcE : CellsAt ((((wc.setCell ⟨P, 0, none⟩ (.slice a2 l0.length c2)).setCell ⟨P, 1, none⟩ (.int .i64 xa)).setCell ⟨P, 2, none⟩ (.int .i64 xb)).setCell ⟨P, 3, none⟩ (.int .i64 xc)) W 0 (L.set kk m) := (((hcc.farI hWP).farI hWP).farI hWP).farI hWP
            have hfE : ∀ i, ((((wc.setCell ⟨P, 0, none⟩ (.slice a2 l0.length c2)).setCell ⟨P, 1, none⟩ (.int .i64 xa)).setCell ⟨P, 2, none⟩ (.int .i64 xb)).setCell ⟨P, 3, none⟩ (.int .i64 xc)).frozen? ⟨W, i, none⟩ = false := fun i => by simpa using hfc i
            have hsE : ((((wc.setCell ⟨P, 0, none⟩ (.slice a2 l0.length c2)).setCell ⟨P, 1, none⟩ (.int .i64 xa)).setCell ⟨P, 2, none⟩ (.int .i64 xb)).setCell ⟨P, 3, none⟩ (.int .i64 xc)).heap.size = wc.heap.size := by simp [World.setCell]
            have hwE : W < ((((wc.setCell ⟨P, 0, none⟩ (.slice a2 l0.length c2)).setCell ⟨P, 1, none⟩ (.int .i64 xa)).setCell ⟨P, 2, none⟩ (.int .i64 xb)).setCell ⟨P, 3, none⟩ (.int .i64 xc)).heap.size := by rw [hsE]; exact hwlc
            clear hsE
            generalize (((wc.setCell ⟨P, 0, none⟩ (.slice a2 l0.length c2)).setCell ⟨P, 1, none⟩ (.int .i64 xa)).setCell ⟨P, 2, none⟩ (.int .i64 xb)).setCell ⟨P, 3, none⟩ (.int .i64 xc) = ue at *
            replace hst0 := hst0.below (Below.refl ue.heap.size ue).drew
            replace hbE := hbE.drew
            replace hcE := hcE.below hwE (Below.refl ue.heap.size ue).drew
            replace hfE : ∀ i, ue.drew.frozen? ⟨W, i, none⟩ = false := fun i => by simpa using hfE i
            replace hwE : W < ue.drew.heap.size := by simpa using hwE
            generalize ue.drew = uf at *
            go_wp2_with fail
            case' roundEnd =>
              have hle := hlefth.out
              simp only at hle
              refine ⟨⟨kk + 1, ⟨xa, xb, xc⟩, L.set kk m, a2, c2, by omega, by go_num, ret_slot (by simp only; omega), hAn2, hbnd.1, hbnd.2.1, hbnd.2.2, by simp only; omega, by rw [hl0h.out]; exact hst0, hcE, hfE, hwE, by rw [hl0h.out]; exact hN2, hbE⟩, ?_⟩
              simp [intOf]; omega
        · obtain rfl : kk = 3 := by omega
          have hL3 := hA.fin
          subst hL3
          obtain ⟨A, B, C⟩ := d
          simp only at ha0 hb0 hc0 hsum hc ⊢
          obtain ⟨x, y, z, hse, hx0, hy0, hz0, hxs, hsh, hz3⟩ := sett_potV hQ400 hV0 hV20 hzh.out ha0 hb0 hc0 hsum
          have hok : PndOk ⟨A, B, C⟩ := ⟨ha0, hb0, hc0, by simp only; omega, by simp only; omega, by simp only; omega⟩
          have hseh := Lib.hid hse
          have hshh := Lib.hid hsh
          have hz3h := Lib.hid hz3
          have hLm := Lib.hid (potV_LR (q := Q - A - B - C) (v := V - x - y - z) (by omega) (by omega) (by omega) (by omega))
          obtain ⟨p0, p1, p2, p3, -, -, -, -⟩ := hS.pool
          simp only at p1 p2 p3
          have hrowh := Lib.hid hS.row
          have hpls := hS.pl
          clear hse hsh hz3 hA hS
          go_wp2_with fail
          refine (pavg_Settle_is (d := ⟨A, B, C⟩) hrowh.out hLh.out hok hseh.out).mono ?_
          unfold outV
          simp only
          obtain ⟨m, hm⟩ : ∃ m, potV (Q - A - B - C) (V - x - y - z) = m := ⟨_, rfl⟩
          rw [hm] at hLm ⊢
          have hmh := Lib.hid hm
          clear hm
          rintro e w2 ⟨⟨a2, c2, rfl, H2⟩, hw2⟩
          have hs2 := hw2.size
          have hbA : Below w2.heap.size w2 ((w2.alloc (.cells #[.slice a2 m.length c2, .int .i64 0, .int .i64 0, .int .i64 0] 26)).alloc (.cells #[.int .i64 A, .int .i64 x, .int .i64 0, .int .i64 B, .int .i64 y, .int .i64 0, .int .i64 C, .int .i64 z, .int .i64 0] 34)) := by (repeat (first | assumption | exact Below.refl _ _ | refine ballc ?_ _ | refine bdrew ?_ | refine bdrewN ?_ _ | refine bset ?_ _ _ | refine bsetN ?_ (by omega) _ _ | refine bthen ?_ (by assumption)))
          have hPool := (CellP.new w2 (.slice a2 m.length c2) ⟨0, 0, 0⟩ 26).alloc (by simp) (.cells #[.int .i64 A, .int .i64 x, .int .i64 0, .int .i64 B, .int .i64 y, .int .i64 0, .int .i64 C, .int .i64 z, .int .i64 0] 34)
          have hOut := CellsAt.new (w2.alloc (.cells #[.slice a2 m.length c2, .int .i64 0, .int .i64 0, .int .i64 0] 26)) [A, x, 0, B, y, 0, C, z, 0] 34
          rw [World.size_alloc] at hOut
          have hOut2 : CellsAt ((w2.alloc (.cells #[.slice a2 m.length c2, .int .i64 0, .int .i64 0, .int .i64 0] 26)).alloc (.cells #[.int .i64 A, .int .i64 x, .int .i64 0, .int .i64 B, .int .i64 y, .int .i64 0, .int .i64 C, .int .i64 z, .int .i64 0] 34)) (w2.heap.size + 1) 0 [A, x, 0, B, y, 0, C, z, 0] := hOut
          have hcU := (hc.below hwl hw2).below (by omega) hbA
          have hsU : ((w2.alloc (.cells #[.slice a2 m.length c2, .int .i64 0, .int .i64 0, .int .i64 0] 26)).alloc (.cells #[.int .i64 A, .int .i64 x, .int .i64 0, .int .i64 B, .int .i64 y, .int .i64 0, .int .i64 C, .int .i64 z, .int .i64 0] 34)).heap.size = w2.heap.size + 1 + 1 := by simp
          have hRU := (H2.rowIs hLm.out.all).below hbA
          have hbU := (hbel.trans (hw2.mono hso2)).trans (hbA.mono (by omega))
          clear hOut H2 hw2 hbA hbel hc hf hrowh p0 p1 p2 p3 hNe2 hseh hok hzh hLh hlh hat
          go_upto_region 24 with fail
          generalize (w2.alloc (.cells #[.slice a2 m.length c2, .int .i64 0, .int .i64 0, .int .i64 0] 26)).alloc (.cells #[.int .i64 A, .int .i64 x, .int .i64 0, .int .i64 B, .int .i64 y, .int .i64 0, .int .i64 C, .int .i64 z, .int .i64 0] 34) = U at *
          obtain ⟨R, hR⟩ : ∃ R, w2.heap.size = R := ⟨_, rfl⟩
          rw [hR] at hPool hOut2 hsU ⊢
          have hRl : R < U.heap.size := by omega
          have hOl : R + 1 < U.heap.size := by omega
          have hWl : W < U.heap.size := by omega
          obtain ⟨O, hO⟩ : ∃ O, R + 1 = O := ⟨_, rfl⟩
          rw [hO] at hOut2 hOl ⊢
          clear hR hsU hO
          have o0 := hOut2 0 (by simp)
          have o1 := hOut2 1 (by simp)
          have o3 := hOut2 3 (by simp)
          have o4 := hOut2 4 (by simp)
          have o6 := hOut2 6 (by simp)
          have o7 := hOut2 7 (by simp)
          have q0 := hcU 0 (by simp)
          have q1 := hcU 1 (by simp)
          have q2 := hcU 2 (by simp)
          simp at o0 o1 o3 o4 o6 o7 q0 q1 q2
          clear hOut2 hcU
          go_wp2_with fail
          have rU0 := hPool.c0
          refine wp_loop_rounds 4 ?_
          rw [rounds_succ]
          by_cases hq : 0 < Q
          · obtain ⟨b1, b2, b3, b4, b5, b6⟩ := hshh.out hq
            have hA30 : A ≤ 400 := by omega
            obtain ⟨DA, hDA⟩ : ∃ D, V * A / Q = D := ⟨_, rfl⟩
            obtain ⟨DB, hDB⟩ : ∃ D, V * B / Q = D := ⟨_, rfl⟩
            obtain ⟨DC, hDC⟩ : ∃ D, V * C / Q = D := ⟨_, rfl⟩
            have mA := mul_bd (a := V) (b := A) (n := 20000) (m := 400) hV0 hV20 ha0 (by omega)
            have mB := mul_bd (a := V) (b := B) (n := 20000) (m := 400) hV0 hV20 hb0 (by omega)
            have mC := mul_bd (a := V) (b := C) (n := 20000) (m := 400) hV0 hV20 hc0 (by omega)
            have dA := part_bd_pos (v := V) (q := A) (n := Q) (by omega) ha0 (by omega) hV0
            have dB := part_bd_pos (v := V) (q := B) (n := Q) (by omega) hb0 (by omega) hV0
            have dC := part_bd_pos (v := V) (q := C) (n := Q) (by omega) hc0 (by omega) hV0
            rw [hDA] at b1 b2 dA
            rw [hDB] at b3 b4 dB
            rw [hDC] at b5 b6 dC
            have g1 : IntKind.i64.wrap (V * A) = V * A := IntWalk.i64_in _ (by omega)
            have g2 : IntKind.i64.wrap (V * B) = V * B := IntWalk.i64_in _ (by omega)
            have g3 : IntKind.i64.wrap (V * C) = V * C := IntWalk.i64_in _ (by omega)
            have e1 : IntKind.i64.wrap ((V * A).tdiv Q) = DA := by rw [Int.tdiv_eq_ediv_of_nonneg mA.1, hDA]; exact IntWalk.i64_in _ (by omega)
            have e2 : IntKind.i64.wrap ((V * B).tdiv Q) = DB := by rw [Int.tdiv_eq_ediv_of_nonneg mB.1, hDB]; exact IntWalk.i64_in _ (by omega)
            have e3 : IntKind.i64.wrap ((V * C).tdiv Q) = DC := by rw [Int.tdiv_eq_ediv_of_nonneg mC.1, hDC]; exact IntWalk.i64_in _ (by omega)
            have s1 : IntKind.i64.wrap (DA - 2) = DA - 2 := IntWalk.i64_in _ (by omega)
            have s2 : IntKind.i64.wrap (DB - 2) = DB - 2 := IntWalk.i64_in _ (by omega)
            have s3 : IntKind.i64.wrap (DC - 2) = DC - 2 := IntWalk.i64_in _ (by omega)
            have s4 : IntKind.i64.wrap (DA + 3) = DA + 3 := IntWalk.i64_in _ (by omega)
            have s5 : IntKind.i64.wrap (DB + 3) = DB + 3 := IntWalk.i64_in _ (by omega)
            have s6 : IntKind.i64.wrap (DC + 3) = DC + 3 := IntWalk.i64_in _ (by omega)
            have t1 : decide (x < DA - 2) = false := decide_eq_false (by omega)
            have t2 : decide (y < DB - 2) = false := decide_eq_false (by omega)
            have t3 : decide (z < DC - 2) = false := decide_eq_false (by omega)
            have t4 : decide (DA + 3 < x) = false := decide_eq_false (by omega)
            have t5 : decide (DB + 3 < y) = false := decide_eq_false (by omega)
            have t6 : decide (DC + 3 < z) = false := decide_eq_false (by omega)
            have hQne : Q ≠ 0 := by omega
            have hQd : decide (0 < Q) = true := decide_eq_true hq
            clear hDA hDB hDC mA mB mC dA dB dC b1 b2 b3 b4 b5 b6
            go_wp2_with fail
            go_quiet (fail)
            go_wp2_with fail
            rw [rounds_succ]
            go_wp2_with fail
            go_quiet (fail)
            go_wp2_with fail
            rw [rounds_succ]
            go_wp2_with fail
            go_quiet (fail)
            go_wp2_with fail
            rw [rounds_succ]
            go_wp2_with fail
            refine (ref_Total9 a2 c2 m _ (hRU.below (by (repeat (first | assumption | exact Below.refl _ _ | refine ballc ?_ _ | refine bdrew ?_ | refine bdrewN ?_ _ | refine bset ?_ _ _ | refine bsetN ?_ (by omega) _ _ | refine bthen ?_ (by assumption)))))).mono ?_
            unfold Lay.val
            rintro e w5 ⟨rfl, hw5⟩
            have hw5U : Below U.heap.size U w5 := by (repeat (first | assumption | exact Below.refl _ _ | refine ballc ?_ _ | refine bdrew ?_ | refine bdrewN ?_ _ | refine bset ?_ _ _ | refine bsetN ?_ (by omega) _ _ | refine bthen ?_ (by assumption)))
            have hR5 := hRU.below hw5U
            have hP5 := hPool.below hw5U hRl
            have hb5 := hbU.trans (hw5U.mono hbU.size)
            have hR5l : R < w5.heap.size := by have := hw5U.size; omega
            obtain ⟨r0, r1, r2, r3, -, -, -, -⟩ := hP5
            simp only at r1 r2 r3
            have k0 : ∀ o : Obj, (w5.alloc o).cell? ⟨R, 0, none⟩ = some (.slice a2 m.length c2) := fun o => (World.cell?_alloc_lt _ _ _ hR5l).trans r0
            have k1 : ∀ o : Obj, (w5.alloc o).cell? ⟨R, 1, none⟩ = some (.int .i64 0) := fun o => (World.cell?_alloc_lt _ _ _ hR5l).trans r1
            have k2 : ∀ o : Obj, (w5.alloc o).cell? ⟨R, 2, none⟩ = some (.int .i64 0) := fun o => (World.cell?_alloc_lt _ _ _ hR5l).trans r2
            have k3 : ∀ o : Obj, (w5.alloc o).cell? ⟨R, 3, none⟩ = some (.int .i64 0) := fun o => (World.cell?_alloc_lt _ _ _ hR5l).trans r3
            have u1 : (tot m).q = Q - A - B - C := by rw [hLm.out.tot.1, ← hmh.out, potV_qs]
            have u2 : (tot m).v = V - (x + y + z) := by rw [hLm.out.tot.1]; simp only; rw [← hmh.out, potV_vs hz3h.out]; omega
            have u3 : IntKind.i64.wrap (V - (x + y + z)) = V - (x + y + z) := IntWalk.i64_in _ (by omega)
            have hF : freeP m ⟨0, 0, 0⟩ = Q - A - B - C := by unfold freeP; rw [← hmh.out, potV_qs]; simp
            have hFh := Lib.hid hF
            clear hF rU0 hw5 hw5U r0 r1 r2 r3 hRU hPool o0 o1 o3 o4 o6 o7 q0 q1 q2
            go_wp2_with fail
            refine (pavg_Free_is (d := ⟨0, 0, 0⟩) (hR5.below ((Below.refl w5.heap.size w5).alloc (Nat.le_refl _) _)) hLm.out PndOk.zero hFh.out).mono ?_
            rintro e w6 ⟨rfl, hw6⟩
            have hs6 := hw6.size
            have hl6 : R < w6.heap.size := by simp at hs6; omega
            have n1 := (hw6.cell (p := ⟨R, 1, none⟩) (by simp; omega)).trans (k1 _)
            have n2 := (hw6.cell (p := ⟨R, 2, none⟩) (by simp; omega)).trans (k2 _)
            have n3 := (hw6.cell (p := ⟨R, 3, none⟩) (by simp; omega)).trans (k3 _)
            have hb6 : Below w.heap.size w w6 := by (repeat (first | assumption | exact Below.refl _ _ | refine ballc ?_ _ | refine bdrew ?_ | refine bdrewN ?_ _ | refine bset ?_ _ _ | refine bsetN ?_ (by omega) _ _ | refine bthen ?_ (by assumption)))
            clear hw6 k0 k1 k2 k3 hb5
            go_wp2_with fail
            refine (pavg_awake _).mono ?_
            rintro e w7 ⟨rfl, hw7⟩
            have hb7 : Below w.heap.size w w7 := by (repeat (first | assumption | exact Below.refl _ _ | refine ballc ?_ _ | refine bdrew ?_ | refine bdrewN ?_ _ | refine bset ?_ _ _ | refine bsetN ?_ (by omega) _ _ | refine bthen ?_ (by assumption)))
            go_wp2_with fail
            go_ret
            exact ⟨rfl, hb7⟩
          · have hQd : decide (0 < Q) = false := decide_eq_false hq
            go_wp2_with fail
            go_quiet (fail)
            go_wp2_with fail
            rw [rounds_succ]
            go_wp2_with fail
            go_quiet (fail)
            go_wp2_with fail
            rw [rounds_succ]
            go_wp2_with fail
            go_quiet (fail)
            go_wp2_with fail
            rw [rounds_succ]
            go_wp2_with fail
            refine (ref_Total9 a2 c2 m _ (hRU.below (by (repeat (first | assumption | exact Below.refl _ _ | refine ballc ?_ _ | refine bdrew ?_ | refine bdrewN ?_ _ | refine bset ?_ _ _ | refine bsetN ?_ (by omega) _ _ | refine bthen ?_ (by assumption)))))).mono ?_
            unfold Lay.val
            rintro e w5 ⟨rfl, hw5⟩
            have hw5U : Below U.heap.size U w5 := by (repeat (first | assumption | exact Below.refl _ _ | refine ballc ?_ _ | refine bdrew ?_ | refine bdrewN ?_ _ | refine bset ?_ _ _ | refine bsetN ?_ (by omega) _ _ | refine bthen ?_ (by assumption)))
            have hR5 := hRU.below hw5U
            have hP5 := hPool.below hw5U hRl
            have hb5 := hbU.trans (hw5U.mono hbU.size)
            have hR5l : R < w5.heap.size := by have := hw5U.size; omega
            obtain ⟨r0, r1, r2, r3, -, -, -, -⟩ := hP5
            simp only at r1 r2 r3
            have k0 : ∀ o : Obj, (w5.alloc o).cell? ⟨R, 0, none⟩ = some (.slice a2 m.length c2) := fun o => (World.cell?_alloc_lt _ _ _ hR5l).trans r0
            have k1 : ∀ o : Obj, (w5.alloc o).cell? ⟨R, 1, none⟩ = some (.int .i64 0) := fun o => (World.cell?_alloc_lt _ _ _ hR5l).trans r1
            have k2 : ∀ o : Obj, (w5.alloc o).cell? ⟨R, 2, none⟩ = some (.int .i64 0) := fun o => (World.cell?_alloc_lt _ _ _ hR5l).trans r2
            have k3 : ∀ o : Obj, (w5.alloc o).cell? ⟨R, 3, none⟩ = some (.int .i64 0) := fun o => (World.cell?_alloc_lt _ _ _ hR5l).trans r3
            have u1 : (tot m).q = Q - A - B - C := by rw [hLm.out.tot.1, ← hmh.out, potV_qs]
            have u2 : (tot m).v = V - (x + y + z) := by rw [hLm.out.tot.1]; simp only; rw [← hmh.out, potV_vs hz3h.out]; omega
            have u3 : IntKind.i64.wrap (V - (x + y + z)) = V - (x + y + z) := IntWalk.i64_in _ (by omega)
            have hF : freeP m ⟨0, 0, 0⟩ = Q - A - B - C := by unfold freeP; rw [← hmh.out, potV_qs]; simp
            have hFh := Lib.hid hF
            clear hF rU0 hw5 hw5U r0 r1 r2 r3 hRU hPool o0 o1 o3 o4 o6 o7 q0 q1 q2
            go_wp2_with fail
            refine (pavg_Free_is (d := ⟨0, 0, 0⟩) (hR5.below ((Below.refl w5.heap.size w5).alloc (Nat.le_refl _) _)) hLm.out PndOk.zero hFh.out).mono ?_
            rintro e w6 ⟨rfl, hw6⟩
            have hs6 := hw6.size
            have hl6 : R < w6.heap.size := by simp at hs6; omega
            have n1 := (hw6.cell (p := ⟨R, 1, none⟩) (by simp; omega)).trans (k1 _)
            have n2 := (hw6.cell (p := ⟨R, 2, none⟩) (by simp; omega)).trans (k2 _)
            have n3 := (hw6.cell (p := ⟨R, 3, none⟩) (by simp; omega)).trans (k3 _)
            have hb6 : Below w.heap.size w w6 := by (repeat (first | assumption | exact Below.refl _ _ | refine ballc ?_ _ | refine bdrew ?_ | refine bdrewN ?_ _ | refine bset ?_ _ _ | refine bsetN ?_ (by omega) _ _ | refine bthen ?_ (by assumption)))
            clear hw6 k0 k1 k2 k3 hb5
            go_wp2_with fail
            refine (pavg_awake _).mono ?_
            rintro e w7 ⟨rfl, hw7⟩
            have hb7 : Below w.heap.size w w7 := by (repeat (first | assumption | exact Below.refl _ _ | refine ballc ?_ _ | refine bdrew ?_ | refine bdrewN ?_ _ | refine bset ?_ _ _ | refine bsetN ?_ (by omega) _ _ | refine bthen ?_ (by assumption)))
            go_wp2_with fail
            go_ret
            exact ⟨rfl, hb7⟩
end Go.Proofs.Ytjccjmmbebiegaa
