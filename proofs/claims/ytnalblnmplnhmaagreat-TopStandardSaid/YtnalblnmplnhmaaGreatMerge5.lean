/-
  The library's merge of two parts that lie side by side, at lines.
-/
import Derived.Test.YtnalblnmplnhmaaGreatMerge4
import Derived.Deep.Cut
import Derived.Deep.CutRange
set_option linter.unusedVariables false
set_option linter.unusedSimpArgs false
namespace Go.Proofs.YtnalblnmplnhmaaGreat
open Go.RowKit

/-- Where the search of the merge goes. -/
structure Span (a m e d lo hi : Nat) : Prop where
  al : a ≤ lo
  lh : lo ≤ hi
  hm : hi ≤ m
  hd : hi ≤ d
  le : d + m ≤ e + lo
  lo' : lo = a ∨ d + m = e + lo
  hi' : hi = m ∨ hi = d

theorem merge_cut {α : Type} {key : α → Int} {X Y : List α} {a m e d lo hi S : Nat} (hS : Span a m e d lo hi) (hX : a + X.length = m) (hY : m + Y.length = e) (hlo : lo ≤ S) (hhi : S ≤ hi) (hrX : Rises key X) (hrY : Rises key Y)
    (hA : S = lo ∨ ∃ x y, X[S - 1 - a]? = some x ∧ Y[d - S]? = some y ∧ key x ≤ key y) (hB : S = hi ∨ ∃ x y, X[S - a]? = some x ∧ Y[d - 1 - S]? = some y ∧ key y < key x) :
    ∃ X1 X2 Y1 Y2 : List α, X = X1 ++ X2 ∧ Y = Y1 ++ Y2 ∧ a + X1.length = S ∧ S + X2.length = m ∧ S + Y1.length = d ∧ d + m = S + e - Y2.length ∧ Y2.length ≤ e ∧ (∀ y, y ∈ Y1 → ∀ x, x ∈ X2 → key y < key x) ∧ (∀ x, x ∈ X1 → ∀ y, y ∈ Y2 → key x ≤ key y) := by
  obtain ⟨q1, q2, q3, q4, q5, q6, q7⟩ := hS
  refine ⟨X.take (S - a), X.drop (S - a), Y.take (d - S), Y.drop (d - S), (List.take_append_drop _ _).symm, (List.take_append_drop _ _).symm, by simp; omega, by simp; omega, by simp; omega, by simp; omega, by simp; omega, ?_, ?_⟩
  · rcases hB with h0 | ⟨x, y, hx, hy, hxy⟩
    · rcases q7 with h1 | h1
      · intro y hy x hx
        rw [List.drop_eq_nil_of_le (by omega)] at hx; simp at hx
      · intro y hy
        rw [show d - S = 0 by omega] at hy; simp at hy
    · intro y' hy' x' hx'
      rcases Nat.eq_zero_or_pos (d - S) with h0 | h0
      · rw [h0] at hy'; simp at hy'
      · have b1 := rise_before hrY hy y' (by rw [show d - 1 - S + 1 = d - S by omega]; exact hy')
        have b2 := rise_behind hrX hx x' hx'
        omega
  · rcases hA with h0 | ⟨x, y, hx, hy, hxy⟩
    · rcases q6 with h1 | h1
      · intro x hx
        rw [show S - a = 0 by omega] at hx; simp at hx
      · intro x hx y hy
        rw [List.drop_eq_nil_of_le (by omega)] at hy; simp at hy
    · intro x' hx' y' hy'
      rcases Nat.eq_zero_or_pos (S - a) with h0 | h0
      · rw [h0] at hx'; simp at hx'
      · have b1 := rise_before hrX hx x' (by rw [show S - 1 - a + 1 = S - a by omega]; exact hx')
        have b2 := rise_behind hrY hy y' hy'
        omega

set_option maxRecDepth 100000 in
set_option maxHeartbeats 4000000 in
theorem sym_merge (b off c cap n : Nat) (hn : n ≤ cap) (hm : cap ≤ maxLen) (hnb : n ≤ 1000000) : ∀ (N : Nat) (pre X Y post : List Lin) (a m e : Nat) (w : World), X.length + Y.length ≤ N →
    Lay2 w b off c (pre ++ (X ++ (Y ++ post))) → (pre ++ (X ++ (Y ++ post))).length = n → pre.length = a → a + X.length = m → m + Y.length = e → 1 ≤ X.length → 1 ≤ Y.length → Rises Lin.a X → Rises Lin.a Y →
    Calls Tryz.prog 220 #[.slice (some ⟨b, off, none⟩) n cap, .int .i64 a, .int .i64 m, .int .i64 e, byAcc c] w (Merged b off c pre X Y post w) := by
  intro N
  induction N with
  | zero => intro pre X Y post a m e w hle; intros; omega
  | succ N ih =>
    intro pre X Y post a m e w hle h hN ha hX hY hx1 hy1 hrX hrY
    by_cases hX1 : X.length = 1
    · obtain ⟨x, rfl⟩ := List.length_eq_one_iff.1 hX1
      exact merge_left b off c cap a m e n pre Y post x w h hN hn hm hnb ha hX hY hrY
    by_cases hY1 : Y.length = 1
    · obtain ⟨y, rfl⟩ := List.length_eq_one_iff.1 hY1
      exact merge_right b off c cap a m e n pre X post y w h hN hn hm hnb ha hX hY hX1 hrX
    have hen : e ≤ n := by rw [← hN]; simp; omega
    have hmh := Lib.hid hm
    unfold maxLen at hm
    have ihh := Lib.hid ih
    clear ih
    obtain ⟨kx, hkx⟩ : ∃ kx, X.length = kx := ⟨_, rfl⟩
    obtain ⟨ky, hky⟩ : ∃ ky, Y.length = ky := ⟨_, rfl⟩
    have e0 : IntKind.i64.wrap ((m : Int) - (a : Int)) = (kx : Int) := (IntWalk.i64_in _ (by omega)).trans (by omega)
    have e00 : (m : Int) - (a : Int) = (kx : Int) := by omega
    have hk1 : ¬ (kx : Int) = 1 := by omega
    have hk1B : ((kx : Int) == 1) = false := by rw [beq_eq_false_iff_ne]; exact hk1
    have e1 : IntKind.i64.wrap ((e : Int) - (m : Int)) = (ky : Int) := (IntWalk.i64_in _ (by omega)).trans (by omega)
    have e11 : (e : Int) - (m : Int) = (ky : Int) := by omega
    have hk2 : ¬ (ky : Int) = 1 := by omega
    have hk2B : ((ky : Int) == 1) = false := by rw [beq_eq_false_iff_ne]; exact hk2
    obtain ⟨d, hd⟩ : ∃ d, (a + e) / 2 = d := ⟨_, rfl⟩
    have hdI : ((a : Int) + (e : Int)) / 2 = (d : Int) := by omega
    obtain ⟨nn, hnn⟩ : ∃ nn, d + m = nn := ⟨_, rfl⟩
    have n1 : IntKind.i64.wrap ((d : Int) + (m : Int)) = (nn : Int) := (IntWalk.i64_in _ (by omega)).trans (by omega)
    have n2 : (d : Int) + (m : Int) = (nn : Int) := by omega
    obtain ⟨p, hp⟩ : ∃ p, nn - 1 = p := ⟨_, rfl⟩
    have p1 : IntKind.i64.wrap ((nn : Int) - 1) = (p : Int) := (IntWalk.i64_in _ (by omega)).trans (by omega)
    have p2 : (nn : Int) - 1 = (p : Int) := by omega
    have hpb : p ≤ 2000000 := by omega
    have hnnb : nn ≤ 2000000 := by omega
    have b1 : a + 2 ≤ m := by omega
    have b2 : m + 2 ≤ e := by omega
    have b3 : a + 2 ≤ d := by omega
    have b4 : d + 2 ≤ e := by omega
    have b5 : 2 * d ≤ a + e := by omega
    have b6 : a + e ≤ 2 * d + 1 := by omega
    have hkxh := Lib.hid hkx
    have hkyh := Lib.hid hky
    have hnnh := Lib.hid hnn
    have hph := Lib.hid hp
    have hah := Lib.hid ha
    have hXh := Lib.hid hX
    have hYh := Lib.hid hY
    have hNh := Lib.hid hN
    have hrXh := Lib.hid hrX
    have hrYh := Lib.hid hrY
    have hleh := Lib.hid hle
    clear ha hX hY hN hkx hky hd hnn hp hrX hrY hle hX1 hY1 hx1 hy1
    unfold byAcc
    go_enter Tryz.func220, Tryz.ntmps220
    go_upto_if 140 with fail
    clear e0 e00 hk1 hk1B e1 e11 hk2 hk2B hdI n1 n2
    go_cut [20, 21] from 138 to 146 (fun s r wx => ∃ lo hi : Nat, s = .int .i64 (lo : Int) ∧ r = .int .i64 (hi : Int) ∧ Hid (Span a m e d lo hi) ∧ w = wx)
    case first =>
      have hnn := hnnh.out
      by_cases hmd : d < m
      · have hmdI : (d : Int) < (m : Int) := by omega
        obtain ⟨lo, hlo⟩ : ∃ lo, nn - e = lo := ⟨_, rfl⟩
        have l1 : IntKind.i64.wrap ((nn : Int) - (e : Int)) = (lo : Int) := (IntWalk.i64_in _ (by omega)).trans (by omega)
        have l2 : (nn : Int) - (e : Int) = (lo : Int) := by omega
        have lb : lo ≤ n := by omega
        have hS : Span a m e d lo d := ⟨by omega, by omega, by omega, by omega, by omega, by omega, by omega⟩
        have hSh := Lib.hid hS
        clear hS hlo hnn
        go_wp2_with fail
        go_meet
        case rel => exact ⟨lo, d, rfl, rfl, hSh, rfl⟩
      · have hmdI : ¬ (d : Int) < (m : Int) := by omega
        have hS : Span a m e d a m := ⟨by omega, by omega, by omega, by omega, by omega, by omega, by omega⟩
        have hSh := Lib.hid hS
        clear hS hnn
        go_wp2_with fail
        go_meet
        case rel => exact ⟨a, m, rfl, rfl, hSh, rfl⟩
    case rest =>
    obtain ⟨lo, hi, rfl, rfl, hS, rfl⟩ := hcut
    go_wp2_with fail
    clear p1 p2
    go_loopw [20, 21] (fun i j wr => ∃ S R : Nat, i = .int .i64 (S : Int) ∧ j = .int .i64 (R : Int) ∧ lo ≤ S ∧ S ≤ R ∧ R ≤ hi ∧ Hid (S = lo ∨ ∃ x y, X[S - 1 - a]? = some x ∧ Y[d - S]? = some y ∧ x.a ≤ y.a) ∧ Hid (R = hi ∨ ∃ x y, X[R - a]? = some x ∧ Y[d - 1 - R]? = some y ∧ y.a < x.a) ∧ Lay2 wr b off c (pre ++ (X ++ (Y ++ post))) ∧ Keep b w wr) (fun i j _ => (intOf j - intOf i).toNat)
    case atStart => exact ⟨lo, hi, rfl, rfl, Nat.le_refl _, hS.out.lh, Nat.le_refl _, .inl rfl, .inl rfl, h, Keep.refl _ _⟩
    case round =>
      obtain ⟨S, R, rfl, rfl, hloS, hSR, hRhi, hA, hB, hL, hK⟩ := hrel
      have z1 := hS.out.al
      have z2 := hS.out.hm
      have z3 := hS.out.hd
      have z4 := hS.out.le
      by_cases hlt : S < R
      · have hltI : (S : Int) < (R : Int) := by omega
        obtain ⟨C, hC⟩ : ∃ C : Nat, ((S : Int) + (R : Int)) / 2 = (C : Int) := ⟨(S + R) / 2, by omega⟩
        have hSC : S ≤ C := by omega
        have hCR : C < R := by omega
        have hkX : C - a < X.length := by have := hXh.out; omega
        have hkY : d - 1 - C < Y.length := by have := hYh.out; omega
        obtain ⟨x, hx⟩ : ∃ x, X[C - a]? = some x := ⟨X[C - a], by simp [hkX]⟩
        obtain ⟨y, hy⟩ : ∃ y, Y[d - 1 - C]? = some y := ⟨Y[d - 1 - C], by simp [hkY]⟩
        obtain ⟨q, hq⟩ : ∃ q, p - C = q := ⟨_, rfl⟩
        have hqd : q = m + (d - 1 - C) := by have := hph.out; have := hnnh.out; omega
        have g1 : (pre ++ (X ++ (Y ++ post)))[C]? = some x := by
          have h1 := hah.out
          rw [List.getElem?_append_right (by omega), show C - pre.length = C - a by omega, List.getElem?_append_left hkX, hx]
        have g2 : (pre ++ (X ++ (Y ++ post)))[q]? = some y := by
          have h1 := hah.out
          have h2 := hXh.out
          rw [List.getElem?_append_right (by omega), List.getElem?_append_right (by omega), show q - pre.length - X.length = d - 1 - C by omega, List.getElem?_append_left hkY, hy]
        obtain ⟨x0, x1⟩ := hL.cells.line g1
        obtain ⟨y0, y1⟩ := hL.cells.line g2
        have hqn : q < n := by have := hYh.out; omega
        have hpC : C ≤ p := by have := hph.out; have := hnnh.out; omega
        have hpn : p ≤ 2000000 := by have := hph.out; have := hnnh.out; omega
        have q1 : IntKind.i64.wrap ((p : Int) - (C : Int)) = (p : Int) - (C : Int) := IntWalk.i64_in _ (by omega)
        have q2 : (0 : Int) ≤ (p : Int) - (C : Int) := by omega
        have q3 : (p : Int) - (C : Int) < (n : Int) := by omega
        have q4 : ((p : Int) - (C : Int)).toNat = q := by omega
        have hCn : (C : Int) < (n : Int) := by omega
        have hC0 : (0 : Int) ≤ (C : Int) := by omega
        have c0 := hL.ccell
        have hclt := hL.clt
        have hxh := Lib.hid hx
        have hyh := Lib.hid hy
        have hqh := Lib.hid hq
        have hqdh := Lib.hid hqd
        clear g1 g2 hx hy hq hqd
        go_wp2_with fail
        go_region_held3 (fun w' => Lay2 w' b off c (pre ++ (X ++ (Y ++ post))) ∧ Keep b w w' ∧ c < w'.heap.size ∧ w'.cell? ⟨c, 0, none⟩ = some (.func (.func 147) #[] #[]) ∧ w'.cell? ⟨b, off + q * 2, none⟩ = some (.int .i64 y.a) ∧ w'.cell? ⟨b, off + q * 2 + 1, none⟩ = some (.int .i64 y.n) ∧ w'.cell? ⟨b, off + C * 2, none⟩ = some (.int .i64 x.a) ∧ w'.cell? ⟨b, off + C * 2 + 1, none⟩ = some (.int .i64 x.n))
          (first
            | exact ⟨hL.drew, hK.drew, hclt, c0, y0, y1, x0, x1⟩
            | (go_split_ands; rename_i s1 s2 s3 s4 s5 s6 s7 s8; exact ⟨s1.below hw2, s2.then hw2 h.lt, Nat.lt_of_lt_of_le s3 hw2.size, (hw2.cell s3).trans s4, (hw2.cell s1.lt).trans s5, (hw2.cell s1.lt).trans s6, (hw2.cell s1.lt).trans s7, (hw2.cell s1.lt).trans s8⟩))
          ((first
            | (go_at_call 189; refine (by_cmp y x c _ (by assumption) (by assumption)).mono ?_; rintro e w2 ⟨rfl, hw2⟩)))
        have hS3 := ‹Lay2 _ b off c _ ∧ _›
        clear hL hK x0 x1 y0 y1 c0 hclt
        obtain ⟨s1, s2, s3, s4, s5, s6, s7, s8⟩ := hS3
        by_cases hcmp : y.a < x.a
        · have hdc : (!decide (cmpI y.a x.a < 0)) = false := by simp [cmpI_neg.2 hcmp]
          rw [hdc]
          clear hdc
          go_wp2_with fail
          case' roundEnd =>
            refine ⟨⟨S, C, rfl, rfl, hloS, hSC, by omega, hA, .inr ⟨x, y, hxh.out, hyh.out, hcmp⟩, s1, s2⟩, ?_⟩
            simp [intOf]
            omega
        · have hdc : (!decide (cmpI y.a x.a < 0)) = true := by simp [show ¬ cmpI y.a x.a < 0 from fun h => hcmp (cmpI_neg.1 h)]
          rw [hdc]
          clear hdc
          go_wp2_with fail
          case' roundEnd =>
            refine ⟨⟨C + 1, R, by go_num, rfl, by omega, by omega, hRhi, .inr ⟨x, y, hxh.out, by rw [show d - (C + 1) = d - 1 - C by omega]; exact hyh.out, by omega⟩, hB, s1, s2⟩, ?_⟩
            simp [intOf]
            omega
      · have eSR : S = R := by omega
        subst eSR
        have hge : ¬ (S : Int) < (S : Int) := by omega
        obtain ⟨X1, X2, Y1, Y2, hXs, hYs, l1, l2, l3, l4, l5, h1, h2⟩ := merge_cut (key := Lin.a) hS.out hXh.out hYh.out hloS hRhi hrXh.out hrYh.out hA.out hB.out
        subst hXs
        subst hYs
        obtain ⟨en, hend⟩ : ∃ en, nn - S = en := ⟨_, rfl⟩
        have en1 : IntKind.i64.wrap ((nn : Int) - (S : Int)) = (en : Int) := (IntWalk.i64_in _ (by have := hnnh.out; omega)).trans (by have := hnnh.out; omega)
        have en2 : (nn : Int) - (S : Int) = (en : Int) := by have := hnnh.out; omega
        have m1 : d + X2.length = en := by have := hnnh.out; omega
        have m2 : en + Y2.length = e := by have := hnnh.out; omega
        have m3 : m + Y1.length = en := by have := hnnh.out; omega
        have h1h := Lib.hid h1
        have h2h := Lib.hid h2
        have l1h := Lib.hid l1
        have l2h := Lib.hid l2
        have l3h := Lib.hid l3
        have m1h := Lib.hid m1
        have m2h := Lib.hid m2
        have m3h := Lib.hid m3
        have l6 : (pre ++ X1).length = S := by rw [List.length_append, hah.out]; exact l1
        have l6h := Lib.hid l6
        have l7 := hNh.out
        have l7h := Lib.hid l7
        clear hA hB hS z4 z1 z2 z3 h1 h2 l1 l2 l3 l4 l5 m1 m2 m3 hend l6 l7
        have hewn : en ≤ 2000000 := by have := m2h.out; omega
        go_upto_region 39 with fail
        clear en1 en2 hge
        go_cut [185] from 178 to 185 (fun s wx => (∃ t : Bool, s = .bool t ∧ Hid (t = true ↔ S < m ∧ m < en)) ∧ wr = wx)
        case first =>
          by_cases c1 : S < m
          · have c1I : (S : Int) < (m : Int) := by omega
            by_cases c2 : m < en
            · have c2I : (m : Int) < (en : Int) := by omega
              go_wp2_with fail
              go_meet
              case rel => exact ⟨⟨_, rfl, by simp [c1, c2, Hid]⟩, rfl⟩
            · have c2I : ¬ (m : Int) < (en : Int) := by omega
              go_wp2_with fail
              go_meet
              case rel => exact ⟨⟨_, rfl, by simp [c1, c2, Hid]⟩, rfl⟩
          · have c1I : ¬ (S : Int) < (m : Int) := by omega
            go_wp2_with fail
            go_meet
            case rel => exact ⟨⟨_, rfl, by simp [c1, Hid]⟩, rfl⟩
        case rest =>
        obtain ⟨⟨t, rfl, ht⟩, rfl⟩ := hcut
        go_upto_if 185 with fail
        go_cut [] from 186 to 191 (fun wx => Lay2 wx b off c (pre ++ (X1 ++ (Y1 ++ (X2 ++ (Y2 ++ post))))) ∧ Keep b w wx)
        case first =>
          cases t with
          | true =>
            obtain ⟨c1, c2⟩ := ht.out.1 rfl
            have s1 := rotate_lines b off c cap S m en n (pre ++ X1) X2 Y1 (Y2 ++ post) wr (by simpa using hL) (byAcc c) (by simpa using l7h.out) hn hmh.out hnb l6h.out l2h.out m3h.out (by have := l2h.out; omega) (by have := m3h.out; omega)
            unfold byAcc at s1
            go_wp2_with fail
            refine s1.mono ?_
            rintro r w1 ⟨rfl, hL1, hK1⟩
            go_wp2_with fail
            go_meet
            case rel => exact ⟨by simpa using hL1, hK.trans hK1⟩
          | false =>
            have hl : pre ++ ((X1 ++ X2) ++ ((Y1 ++ Y2) ++ post)) = pre ++ (X1 ++ (Y1 ++ (X2 ++ (Y2 ++ post)))) := by
              by_cases c1 : S < m
              · have c2 : ¬ m < en := fun c2 => by simpa using ht.out.2 ⟨c1, c2⟩
                obtain rfl : Y1 = [] := List.eq_nil_of_length_eq_zero (by have := m3h.out; omega)
                simp
              · obtain rfl : X2 = [] := List.eq_nil_of_length_eq_zero (by have := l2h.out; omega)
                simp
            rw [hl] at hL
            clear hl
            go_wp2_with fail
            go_meet
            case rel => exact ⟨hL, hK⟩
        case rest =>
        obtain ⟨hL1, hK1⟩ := hcut
        clear hL hK
        have hr1 := Rises.app.1 hrXh.out
        have hr2 := Rises.app.1 hrYh.out
        have rx1 := Lib.hid hr1.1
        have rx2 := Lib.hid hr1.2.1
        have ry1 := Lib.hid hr2.1
        have ry2 := Lib.hid hr2.2.1
        clear hr1 hr2
        go_upto_region 41 with fail
        go_cut [199] from 192 to 199 (fun s wx => (∃ t : Bool, s = .bool t ∧ Hid (t = true ↔ a < S ∧ S < d)) ∧ wc = wx)
        case first =>
          by_cases c1 : a < S
          · have c1I : (a : Int) < (S : Int) := by omega
            by_cases c2 : S < d
            · have c2I : (S : Int) < (d : Int) := by omega
              go_wp2_with fail
              go_meet
              case rel => exact ⟨⟨_, rfl, by simp [c1, c2, Hid]⟩, rfl⟩
            · have c2I : ¬ (S : Int) < (d : Int) := by omega
              go_wp2_with fail
              go_meet
              case rel => exact ⟨⟨_, rfl, by simp [c1, c2, Hid]⟩, rfl⟩
          · have c1I : ¬ (a : Int) < (S : Int) := by omega
            go_wp2_with fail
            go_meet
            case rel => exact ⟨⟨_, rfl, by simp [c1, Hid]⟩, rfl⟩
        case rest =>
        obtain ⟨⟨t, rfl, ht⟩, rfl⟩ := hcut
        go_upto_if 199 with fail
        go_cut [] from 200 to 205 (fun wx => ∃ Z1 : List Lin, Hid (a + Z1.length = d) ∧ Hid (Rises Lin.a Z1) ∧ Hid (Stab Lin.a (X1 ++ Y1) Z1) ∧ Lay2 wx b off c (pre ++ (Z1 ++ (X2 ++ (Y2 ++ post)))) ∧ Keep b w wx)
        case first =>
          cases t with
          | true =>
            obtain ⟨c1, c2⟩ := ht.out.1 rfl
            have s1 := ihh.out pre X1 Y1 (X2 ++ (Y2 ++ post)) a S d wc (by have t0 := hleh.out; have := m2h.out; have := m1h.out; have := l1h.out; have := l3h.out; rw [List.length_append, List.length_append] at t0; omega) hL1 (by have := l7h.out; simp at this ⊢; omega) hah.out l1h.out l3h.out (by have := l1h.out; omega) (by have := l3h.out; omega) rx1.out ry1.out
            unfold byAcc at s1
            go_wp2_with fail
            refine s1.mono ?_
            rintro r w1 ⟨rfl, Z1, z1, z2, z3, z4, z5⟩
            have z1h := Lib.hid z1
            have z2h := Lib.hid z2
            have z3h := Lib.hid z3
            clear z1 z2 z3
            go_wp2_with fail
            go_meet
            case rel => exact ⟨Z1, by have := z1h.out; have := l1h.out; have := l3h.out; show _ = _; omega, z2h, z3h, z4, hK1.trans z5⟩
          | false =>
            have hl : Rises Lin.a (X1 ++ Y1) := by
              by_cases c1 : a < S
              · have c2 : ¬ S < d := fun c2 => by simpa using ht.out.2 ⟨c1, c2⟩
                obtain rfl : Y1 = [] := List.eq_nil_of_length_eq_zero (by have := l3h.out; omega)
                rw [List.append_nil]; exact rx1.out
              · obtain rfl : X1 = [] := List.eq_nil_of_length_eq_zero (by have := l1h.out; omega)
                exact ry1.out
            have hlh := Lib.hid hl
            clear hl
            go_wp2_with fail
            go_meet
            case rel => exact ⟨X1 ++ Y1, by have := l1h.out; have := l3h.out; show _ = _; simp; omega, hlh, Stab.refl _, by simpa using hL1, hK1⟩
        case rest =>
        obtain ⟨Z1, k1, k2, k3, hL2, hK2⟩ := hcut
        have fin : ∀ (Z2 : List Lin) (w2 : World), Z2.length = X2.length + Y2.length → Rises Lin.a Z2 → Stab Lin.a (X2 ++ Y2) Z2 → Lay2 w2 b off c (pre ++ (Z1 ++ (Z2 ++ post))) → Keep b w w2 → Merged b off c pre (X1 ++ X2) (Y1 ++ Y2) post w (.returned (.tuple #[])) w2 := by
          intro Z2 w2 t1 t2 t3 t4 t5
          obtain ⟨u1, u2⟩ := merge_two (key := Lin.a) hrXh.out hrYh.out h1h.out h2h.out k2.out k3.out t2 t3
          exact ⟨rfl, Z1 ++ Z2, by have := k1.out; have := l1h.out; have := l3h.out; simp; omega, u1, u2, by simpa using t4, t5⟩
        have finh := Lib.hid fin
        clear fin hL1 hK1
        go_upto_region 43 with fail
        go_cut [213] from 206 to 213 (fun s wx => (∃ t : Bool, s = .bool t ∧ Hid (t = true ↔ d < en ∧ en < e)) ∧ wc = wx)
        case first =>
          by_cases c1 : d < en
          · have c1I : (d : Int) < (en : Int) := by omega
            by_cases c2 : en < e
            · have c2I : (en : Int) < (e : Int) := by omega
              go_wp2_with fail
              go_meet
              case rel => exact ⟨⟨_, rfl, by simp [c1, c2, Hid]⟩, rfl⟩
            · have c2I : ¬ (en : Int) < (e : Int) := by omega
              go_wp2_with fail
              go_meet
              case rel => exact ⟨⟨_, rfl, by simp [c1, c2, Hid]⟩, rfl⟩
          · have c1I : ¬ (d : Int) < (en : Int) := by omega
            go_wp2_with fail
            go_meet
            case rel => exact ⟨⟨_, rfl, by simp [c1, Hid]⟩, rfl⟩
        case rest =>
        obtain ⟨⟨t, rfl, ht⟩, rfl⟩ := hcut
        cases t with
        | true =>
          obtain ⟨c1, c2⟩ := ht.out.1 rfl
          have s1 := ihh.out (pre ++ Z1) X2 Y2 post d en e wc (by have t0 := hleh.out; have := l1h.out; have := l3h.out; have := m1h.out; have := m2h.out; rw [List.length_append, List.length_append] at t0; omega) (by simpa using hL2) (by have t0 := l7h.out; have := k1.out; have := l1h.out; have := l3h.out; simp only [List.length_append] at t0 ⊢; omega) (by have := k1.out; have := hah.out; simp; omega) m1h.out m2h.out (by have := m1h.out; omega) (by have := m2h.out; omega) rx2.out ry2.out
          unfold byAcc at s1
          go_wp2_with fail
          refine s1.mono ?_
          rintro r w1 ⟨rfl, Z2, z1, z2, z3, z4, z5⟩
          have f := finh.out Z2 w1 z1 z2 z3 (by simpa using z4) (hK2.trans z5)
          have fh := Lib.hid f
          clear f z1 z2 z3
          go_wp2_with fail
          exact bodyPost_end (v := .tuple #[]) (by simp [results, Tryz.results220, go_sem]) rfl fh.out
        | false =>
          have hl : Rises Lin.a (X2 ++ Y2) := by
            by_cases c1 : d < en
            · have c2 : ¬ en < e := fun c2 => by simpa using ht.out.2 ⟨c1, c2⟩
              obtain rfl : Y2 = [] := List.eq_nil_of_length_eq_zero (by have := m2h.out; omega)
              rw [List.append_nil]; exact rx2.out
            · obtain rfl : X2 = [] := List.eq_nil_of_length_eq_zero (by have := m1h.out; omega)
              exact ry2.out
          have f := finh.out (X2 ++ Y2) wc (by simp) hl (Stab.refl _) (by simpa using hL2) hK2
          have fh := Lib.hid f
          clear f hl
          go_wp2_with fail
          exact bodyPost_end (v := .tuple #[]) (by simp [results, Tryz.results220, go_sem]) rfl fh.out
end Go.Proofs.YtnalblnmplnhmaaGreat
