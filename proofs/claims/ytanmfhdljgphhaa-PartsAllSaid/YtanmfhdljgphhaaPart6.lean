/-
  PartsFair. Its walk.
-/
import Derived.Test.YtanmfhdljgphhaaPart5
import Derived.BigQuiet
set_option linter.unusedVariables false
set_option linter.unusedSimpArgs false
namespace Go.Proofs.Ytanmfhdljgphhaa
open Go.RowKit

def fairT (zs : List Int) (j : Nat) : List Int := (zs.take j).map fun z => z % 1000
theorem fairT_all (zs : List Int) (j : Nat) : ∀ x, x ∈ fairT zs j → 0 ≤ x ∧ x < 1000 := by
  intro x hx
  obtain ⟨z, -, rfl⟩ := List.mem_map.1 hx
  omega
theorem fairT_len (zs : List Int) (j : Nat) (h : j ≤ zs.length) : (fairT zs j).length = j := by simp [fairT]; omega
theorem fairT_snoc (zs : List Int) (j : Nat) (z : Int) (h : zs[j]? = some z) : fairT zs (j + 1) = fairT zs j ++ [z % 1000] := by
  unfold fairT
  rw [List.take_add_one, h]
  simp
theorem small_I {l : List Int} (h : ∀ x, x ∈ l → 0 ≤ x ∧ x < 1000) : AllI l := fun z hz => ⟨by have := h z hz; omega, by have := h z hz; omega⟩
theorem small_sum {l : List Int} (h : ∀ x, x ∈ l → 0 ≤ x ∧ x < 1000) : 0 ≤ l.sum ∧ l.sum ≤ 1000 * l.length := by
  induction l with
  | nil => simp
  | cons x l ih =>
    have := ih fun y hy => h y (by simp [hy])
    have := h x (by simp)
    simp only [List.sum_cons, List.length_cons]
    omega
theorem small_go : ∀ (l : List Int) (n : Int), (∀ x, x ∈ l → 0 ≤ x ∧ x < 1000) → 0 ≤ n → n + 1000 * l.length ≤ 1000000 → sumGo n l = some (n + l.sum)
  | [], n, _, _, _ => by simp [sumGo]
  | x :: l, n, h, h0, h1 => by
    have hx := h x (by simp)
    simp only [List.length_cons] at h1
    have ho : addOk n x = true := addOk_iff.2 ⟨inB_iff.2 (by omega), inB_iff.2 (by omega), inB_iff.2 (by omega)⟩
    rw [sumGo, if_pos ho, small_go l (n + x) (fun y hy => h y (by simp [hy])) (by omega) (by omega), List.sum_cons]
    congr 1
    omega
theorem fair_ok {l : List Int} {t : Int} (h : ∀ x, x ∈ l → 0 ≤ x ∧ x < 1000) (hl : l.length ≤ 30) (ht : 0 ≤ t) (ht2 : t < 1125899906842624) :
    (l.sum = 0 → badS t l = true) ∧ (l.sum ≠ 0 → badS t l = false ∧ sumE l = 0 ∧ sumV l = l.sum) := by
  have hw : wrongI t = false := by simp [wrongI]; omega
  have hw2 : l.any wrongI = false := by rw [List.any_eq_false]; intro x hx; have := h x hx; simp [wrongI]; omega
  have hg := small_go l 0 h (by omega) (by omega)
  constructor
  · intro h0
    have : l.any someI = false := by
      rw [List.any_eq_false]
      intro x hx
      have := sum_ge l x (fun y hy => (h y hy).1) hx
      have := h x hx
      simp [someI]; omega
    simp [badS, this]
  · intro h0
    have : l.any someI = true := by
      cases hs : l.any someI with
      | true => rfl
      | false =>
        exfalso
        have h1 := List.any_eq_false.1 hs
        have : l.sum = 0 := by
          clear hg hw2 hl hs h0 h
          induction l with
          | nil => rfl
          | cons x l ih =>
            have := h1 x (by simp)
            simp [someI] at this
            rw [List.sum_cons, this, ih fun y hy => h1 y (by simp [hy])]
            rfl
        exact h0 this
    refine ⟨by simp [badS, this, hw, hw2], by simp [sumE, hg], by simp [sumV, hg]⟩
theorem share_of {t s y : Int} (hs : 0 < s) : t * y / s = t / s * y + t % s * y / s := by
  have h := Int.mul_ediv_add_emod t s
  have e : t * y = t % s * y + s * (t / s * y) := by
    conv => lhs; rw [← h]
    rw [Int.add_mul, Int.mul_assoc]
    omega
  rw [e, Int.add_mul_ediv_left _ _ (by omega)]
  omega
theorem getD_mem {l : List Int} {i : Nat} (h : i < l.length) : l.getD i 0 ∈ l := by
  rw [List.getD_eq_getElem?_getD, List.getElem?_eq_getElem h]; exact List.getElem_mem h

set_option maxRecDepth 20000 in
set_option maxHeartbeats 4000000 in
theorem PartsFair_walk (total : Int) (a : Option Addr) (n cap : Nat) (zs : List Int) (w : World) (hh : I64 total) (h : Row w 1 a n cap zs) :
    Calls Try.prog 4 #[.int .i64 total, .slice a n cap] w fun e w' => e = .returned (.bool true) ∧ Below w.heap.size w w' := by
  obtain ⟨hl, hcap, hmax, hall, hat⟩ := h
  have hl : zs.length = n := by omega
  unfold maxLen at hmax
  have hlh := Lib.hid hl
  clear hl
  obtain ⟨t, ht⟩ : ∃ t, total % 1125899906842624 = t := ⟨_, rfl⟩
  have ht0 : 0 ≤ t := by omega
  have ht1 : t < 1125899906842624 := by omega
  go_enter Try.func4, Try.ntmps4
  go_wp2_with (first | (go_at_call 11; refine (Place_calls _ _ _ (by omega) (by omega)).mono ?_; rintro e w' ⟨rfl, rfl⟩))
  go_loopw [6, 7, 8] (fun v s i wr => ∃ j : Nat, j ≤ n ∧ j ≤ 30 ∧ i = .int .i64 j ∧ s = .int .i64 (fairT zs j).sum ∧ OwnI wr w.heap.size 3 1 v j (fairT zs j) ∧ Below w.heap.size w wr) (fun _ _ i _ => n - (intOf i).toNat)
  case atStart => exact ⟨0, by omega, by omega, rfl, rfl, OwnI.nil _ _ _ _, Below.refl _ _⟩
  case round =>
    obtain ⟨j, hj, hj30, rfl, rfl, T, hbel⟩ := hrel
    have hsz := hbel.size
    have hfl : (fairT zs j).length = j := fairT_len _ _ (by have := hlh.out; omega)
    have hsb := small_sum (fairT_all zs j)
    rw [hfl] at hsb
    obtain ⟨S, hS⟩ : ∃ S, (fairT zs j).sum = S := ⟨_, rfl⟩
    rw [hS] at hsb ⊢
    obtain ⟨hS0, hS1⟩ := hsb
    have hSh := Lib.hid hS
    have hflh := Lib.hid hfl
    clear hS hfl
    by_cases hlt : j < n ∧ j < 30
    · obtain ⟨b, off, rfl, hb, hc⟩ : ∃ b off, a = some ⟨b, off, none⟩ ∧ b < w.heap.size ∧ CellsAt w b off zs := by
        rcases hat with h0 | h0
        · omega
        · exact h0
      obtain ⟨z, hz⟩ : ∃ z, zs[j]? = some z := ⟨zs[j]'(by rw [hlh.out]; exact hlt.1), by simp [hlh.out, hlt.1]⟩
      have c0 := (hbel.cell (p := ⟨b, off + j, none⟩) hb).trans (hc j (by rw [hlh.out]; exact hlt.1))
      rw [show zs.getD j 0 = z by simp [List.getD_eq_getElem?_getD, hz]] at c0
      have hlt1 : (j : Int) < (n : Int) := by omega
      have hlt2 : (j : Int) < 30 := by omega
      have hj0 : (0 : Int) ≤ (j : Int) := by omega
      have eh := Lib.hid (fairT_snoc zs j z hz)
      obtain ⟨k, hk⟩ : ∃ k, z % 1000 = k := ⟨_, rfl⟩
      have hk0 : 0 ≤ k := by omega
      have hk1 : k < 1000 := by omega
      rw [hk] at eh
      have eS : Hid ((fairT zs (j + 1)).sum = S + k) := by rw [eh.out, List.sum_append, hSh.out]; simp [Hid]
      have hI := Lib.hid (small_I (fairT_all zs (j + 1)))
      rw [eh.out] at hI
      clear hz hc hat hlt
      go_wp2_with (first
        | (first | (go_at_call 11; refine (Place_calls _ _ _ (by omega) (by omega)).mono ?_; rintro e w' ⟨rfl, rfl⟩))
        | (at_builtin; refine wpList_push _ rfl _ _ 22 rfl w.heap.size 3 1 elem_Int _ j (fairT zs j) rfl (T.alloc _) wr.heap.size 0 1 [k] rfl rfl (CellsAt.new wr [k] 3) ?c1 ?c2 ?_))
      case c1 => omega
      case c2 => simp; omega
      · intro l' w1 hown' hb1
        have hbel' : Below w.heap.size w w1 := Below.trans (by (repeat (first | assumption | exact Below.refl _ _ | refine ballc ?_ _ | refine bdrew ?_ | refine bdrewN ?_ _ | refine bset ?_ _ _ | refine bsetN ?_ (by omega) _ _ | refine bthen ?_ (by assumption)))) hb1
        have hown2 := hown'
        obtain ⟨a1, c1, rfl, R1⟩ := hown'.row hI.out
        obtain ⟨b2, o2, rfl, hb2, hc2⟩ : ∃ b off, a1 = some ⟨b, off, none⟩ ∧ b < w1.heap.size ∧ CellsAt w1 b off (fairT zs j ++ [k]) := by
          rcases R1.at_ with h0 | h0
          · omega
          · exact h0
        have c5 := hc2 j (by rw [List.length_append, hflh.out]; simp)
        rw [show (fairT zs j ++ [k]).getD j 0 = k by rw [List.getD_eq_getElem?_getD, List.getElem?_append_right (by rw [hflh.out]; omega), hflh.out]; simp] at c5
        have hj2 : (j : Int) < (j : Int) + 1 := by omega
        clear T hb1 hc2 R1
        go_wp2_with fail
        go_roundw
        case rel => exact ⟨j + 1, by omega, by omega, by go_num, by rw [eS.out], by rw [eh.out]; exact hown2, hbel'⟩
        case measure => simp [intOf]; omega
    · have hws : fairT zs j = fairT zs 30 := by
        unfold fairT
        congr 1
        rcases Nat.lt_or_ge j 30 with h1 | h1
        · rw [List.take_of_length_le (by have := hlh.out; omega), List.take_of_length_le (by have := hlh.out; omega)]
        · rw [show j = 30 by omega]
      have hall2 := fairT_all zs j
      obtain ⟨a1, c1, rfl, R1⟩ := T.row (small_I (fairT_all zs j))
      clear hws T
      generalize fairT zs j = ws at *
      have hSp := parts_Split a1 c1 ws t wr (by rw [hflh.out]; exact R1) (by rw [hflh.out]; omega)
      rw [hflh.out] at hSp
      have hok := fair_ok hall2 (by rw [hflh.out]; omega) ht0 ht1
      rw [hSh.out] at hok
      have hSph := Lib.hid hSp
      have hokh := Lib.hid hok
      have hall2h := Lib.hid hall2
      clear hSp hok hall2 hat
      have hge : ¬ ((j : Int) < (n : Int)) ∨ ((j : Int) < (n : Int) ∧ ¬ ((j : Int) < 30)) := by omega
      rcases hge with hge | ⟨hge1, hge2⟩
      all_goals
        go_wp2_with fail
        refine hSph.out.mono ?_
        rintro e w1 hS
        by_cases hs0 : S = 0
        · obtain ⟨rfl, hw1⟩ := split_bad hS (hokh.out.1 hs0)
          subst hs0
          have hbel1 : Below w.heap.size w w1 := by (repeat (first | assumption | exact Below.refl _ _ | refine ballc ?_ _ | refine bdrew ?_ | refine bdrewN ?_ _ | refine bset ?_ _ _ | refine bsetN ?_ (by omega) _ _ | refine bthen ?_ (by assumption)))
          clear hS hw1
          go_wp2_with (go_at_call 7; refine (parts_awake _).mono ?_; rintro e w' ⟨rfl, hwa⟩)
          go_ret
          exact ⟨rfl, by (repeat (first | assumption | exact Below.refl _ _ | refine ballc ?_ _ | refine bdrew ?_ | refine bdrewN ?_ _ | refine bset ?_ _ _ | refine bsetN ?_ (by omega) _ _ | refine bthen ?_ (by assumption)))⟩
        · obtain ⟨k1, k2, k3⟩ := hokh.out.2 hs0
          have hO := SplitOk.of k1 k2
          obtain ⟨⟨v, m, rfl, hm1, hm2, hm3, hH⟩, hw1⟩ := split_ok hS k1 k2
          have hF := fair_of hO hm2 hm3
          have hH2 : HoldZ w1 wr.heap.size v (bump (quoL t (sumV ws) ws) (m.take (moreN t (sumV ws) ws))) := hH
          generalize bump (quoL t (sumV ws) ws) (m.take (moreN t (sumV ws) ws)) = A at hF hH2
          rw [k3] at hF
          have hSpos : 0 < S := by omega
          have hsv := Int.emod_nonneg t (show S ≠ 0 by omega)
          have hsv2 := Int.emod_lt_of_pos t hSpos
          have hq0 : 0 ≤ t / S := Int.ediv_nonneg ht0 (by omega)
          have hql : t / S ≤ t := Int.ediv_le_self _ ht0
          have hqm : t / S * S ≤ t := Int.ediv_mul_le _ (by omega)
          have hws1 : ∀ i, i < j → 0 ≤ ws.getD i 0 ∧ ws.getD i 0 < 1000 ∧ ws.getD i 0 ≤ S := fun i hi => by
            have hm := getD_mem (l := ws) (i := i) (by rw [hflh.out]; exact hi)
            have h1 := hall2h.out _ hm
            have h2 := hO.all _ hm
            rw [k3] at h2
            omega
          have hFl := hF.len
          rw [hflh.out] at hFl
          have hA1 : ∀ i, i < j → 0 ≤ A.getD i 0 ∧ A.getD i 0 ≤ t := fun i hi => by
            have hm := getD_mem (l := A) (i := i) (by omega)
            have hn : ∀ z, z ∈ A → 0 ≤ z := fun z hz => by
              obtain ⟨q, hq, rfl⟩ := List.mem_iff_getElem.1 hz
              have h1 := hF.one q (by rw [hflh.out]; omega)
              have h2 := hws1 q (by omega)
              rw [List.getD_eq_getElem?_getD, List.getElem?_eq_getElem hq] at h1
              have h3 : 0 ≤ t * ws.getD q 0 / S := Int.ediv_nonneg (Int.mul_nonneg ht0 h2.1) (by omega)
              simp only [Option.getD_some] at h1
              omega
            have := sum_ge A _ hn hm
            rw [hF.sum] at this
            exact ⟨hn _ hm, this.1⟩
          have hAI : AllI A := fun z hz => by
            obtain ⟨q, hq, rfl⟩ := List.mem_iff_getElem.1 hz
            have h1 := hA1 q (by omega)
            rw [List.getD_eq_getElem?_getD, List.getElem?_eq_getElem hq] at h1
            simp only [Option.getD_some] at h1
            exact ⟨by omega, by omega⟩
          obtain ⟨a3, rfl, R3⟩ := hH2.row hAI (by omega)
          rw [hFl] at R3 ⊢
          have R2 := R1.below hw1
          have hbel1 : Below w.heap.size w w1 := by (repeat (first | assumption | exact Below.refl _ _ | refine ballc ?_ _ | refine bdrew ?_ | refine bdrewN ?_ _ | refine bset ?_ _ _ | refine bsetN ?_ (by omega) _ _ | refine bthen ?_ (by assumption)))
          have hs1 := hbel1.size
          have hFh := Lib.hid hF
          have hws1h := Lib.hid hws1
          have hA1h := Lib.hid hA1
          have hFlh := Lib.hid hFl
          have hSB : ((S : Int) == 0) = false := by rw [beq_eq_false_iff_ne]; exact hs0
          obtain ⟨Q, hQ⟩ : ∃ Q, t / S = Q := ⟨_, rfl⟩
          obtain ⟨R, hR⟩ : ∃ R, t % S = R := ⟨_, rfl⟩
          rw [hQ] at hq0 hql hqm
          rw [hR] at hsv hsv2
          clear hS hm1 hm2 hm3 hH hH2 hw1 hF hws1 hA1 hFl hO k1 k2 k3 R1
          go_wp2_with fail
          go_loopw [11, 12] (fun u i wq => ∃ q : Nat, q ≤ j ∧ i = .int .i64 (q : Int) ∧ u = .int .i64 (A.take q).sum ∧ Below w1.heap.size w1 wq) (fun _ i _ => j - (intOf i).toNat)
          case atStart => exact ⟨0, by omega, rfl, rfl, Below.refl _ _⟩
          case round =>
            obtain ⟨q, hq, rfl, rfl, hb2⟩ := hrel
            have hAS : ∀ q, q ≤ j → 0 ≤ (A.take q).sum ∧ (A.take q).sum ≤ t := by
              intro q hq
              have e : (A.take q).sum + (A.drop q).sum = t := by rw [← List.sum_append, List.take_append_drop, hFh.out.sum]
              have hn : ∀ l : List Int, (∀ z, z ∈ l → z ∈ A) → 0 ≤ l.sum := by
                intro l
                induction l with
                | nil => simp
                | cons z l ih =>
                  intro hl
                  obtain ⟨p, hp, hpe⟩ := List.mem_iff_getElem.1 (hl z (by simp))
                  have h1 := hA1h.out p (by have := hFlh.out; omega)
                  rw [List.getD_eq_getElem?_getD, List.getElem?_eq_getElem hp] at h1
                  simp only [Option.getD_some, hpe] at h1
                  have := ih fun y hy => hl y (by simp [hy])
                  rw [List.sum_cons]; omega
              have h1 := hn (A.take q) fun z hz => List.mem_of_mem_take hz
              have h2 := hn (A.drop q) fun z hz => List.mem_of_mem_drop hz
              omega
            have hASh := Lib.hid hAS
            clear hAS
            by_cases hlt2 : q < j
            · have hlt2I : (q : Int) < (j : Int) := by omega
              have hq0I : (0 : Int) ≤ (q : Int) := by omega
              obtain ⟨b3, o3, rfl, hb3', hc3⟩ : ∃ b off, a3 = some ⟨b, off, none⟩ ∧ b < w1.heap.size ∧ CellsAt w1 b off A := by
                rcases R3.at_ with h0 | h0
                · omega
                · exact h0
              obtain ⟨b4, o4, rfl, hb4', hc4⟩ : ∃ b off, a1 = some ⟨b, off, none⟩ ∧ b < w1.heap.size ∧ CellsAt w1 b off ws := by
                rcases R2.at_ with h0 | h0
                · omega
                · exact h0
              have hc3h := Lib.hid hc3
              have hc4h := Lib.hid hc4
              have x0 := (hb2.cell (p := ⟨b3, o3 + q, none⟩) hb3').trans (hc3 q (by rw [hFlh.out]; exact hlt2))
              have y0 := (hb2.cell (p := ⟨b4, o4 + q, none⟩) hb4').trans (hc4 q (by rw [hflh.out]; exact hlt2))
              have hx1 := hA1h.out q hlt2
              have hy1 := hws1h.out q hlt2
              have hone := hFh.out.one q (by rw [hflh.out]; exact hlt2)
              have hnone := hFh.out.none q (by rw [hflh.out]; exact hlt2)
              have hmono : ∀ p, p < q → ws.getD q 0 ≤ ws.getD p 0 → A.getD q 0 ≤ A.getD p 0 := fun p hp => hFh.out.mono q p hp (by rw [hflh.out]; exact hlt2)
              have hA0 := hASh.out q hq
              have hA2 := hASh.out (q + 1) (by omega)
              have hAs : (A.take (q + 1)).sum = (A.take q).sum + A.getD q 0 := by
                rw [take_snoc (by rw [hFlh.out]; exact hlt2)]; simp
              obtain ⟨x, hx⟩ : ∃ x, A.getD q 0 = x := ⟨_, rfl⟩
              obtain ⟨y, hy⟩ : ∃ y, ws.getD q 0 = y := ⟨_, rfl⟩
              obtain ⟨U, hU⟩ : ∃ U, (A.take q).sum = U := ⟨_, rfl⟩
              rw [hU] at hAs hA0 ⊢
              rw [hx] at x0 hx1 hone hnone hmono hAs
              rw [hy] at y0 hy1 hone hnone hmono
              rw [share_of hSpos, hQ, hR] at hone
              obtain ⟨P, hP⟩ : ∃ P, Q * y = P := ⟨_, rfl⟩
              obtain ⟨V, hV⟩ : ∃ V, R * y = V := ⟨_, rfl⟩
              obtain ⟨M, hM⟩ : ∃ M, V / S = M := ⟨_, rfl⟩
              have hP0 : 0 ≤ P := by rw [← hP]; exact Int.mul_nonneg hq0 hy1.1
              have hP1 : P ≤ t := by rw [← hP]; exact Int.le_trans (Int.mul_le_mul_of_nonneg_left hy1.2.2 hq0) hqm
              have hV0 : 0 ≤ V := by rw [← hV]; exact Int.mul_nonneg hsv hy1.1
              have hV1 : V ≤ 30000 * 1000 := by rw [← hV]; exact Int.mul_le_mul (by omega) (by omega) hy1.1 (by omega)
              have hM0 : 0 ≤ M := by rw [← hM]; exact Int.ediv_nonneg hV0 (by omega)
              have hM1 : M ≤ 30000000 := by rw [← hM]; exact Int.le_trans (Int.ediv_le_self _ hV0) hV1
              rw [hP, hV, hM] at hone
              have wP : IntKind.i64.wrap (Q * y) = P := by rw [hP]; exact IntWalk.i64_in _ (by omega)
              have wV : IntKind.i64.wrap (R * y) = V := by rw [hV]; exact IntWalk.i64_in _ (by omega)
              have hAsh := Lib.hid hAs
              have hmonoh := Lib.hid hmono
              have hxh := Lib.hid hx
              have hyh := Lib.hid hy
              have hU1 : 0 ≤ U ∧ U + x ≤ t := by omega
              obtain ⟨hU2, hU3⟩ := hU1
              have hxx := hx1.1
              clear hAs hmono hx hy hU hc3 hc4 hA0 hA2 hx1
              have hcase : (x = P + M ∧ y ≠ 0) ∨ (x = P + M + 1 ∧ y ≠ 0) ∨ (y = 0 ∧ x = 0) := by
                by_cases hy0 : y = 0
                · exact .inr (.inr ⟨hy0, hnone hy0⟩)
                · rcases hone with h1 | h1
                  · exact .inl ⟨h1, hy0⟩
                  · exact .inr (.inl ⟨h1, hy0⟩)
              obtain ⟨B1, hB1⟩ : ∃ B1 : Bool, (x != P + M) = B1 := ⟨_, rfl⟩
              obtain ⟨B2, hB2⟩ : ∃ B2 : Bool, (x != P + M + 1) = B2 := ⟨_, rfl⟩
              obtain ⟨B3, hB3⟩ : ∃ B3 : Bool, (y == 0) = B3 := ⟨_, rfl⟩
              obtain ⟨B4, hB4⟩ : ∃ B4 : Bool, (x != 0) = B4 := ⟨_, rfl⟩
              have hBs : (B1 = false ∨ B2 = false) ∧ (B3 = false ∨ B4 = false) := by
                rcases hcase with ⟨c1, c2⟩ | ⟨c1, c2⟩ | ⟨c1, c2⟩
                · exact ⟨.inl (by rw [← hB1]; simp [c1]), .inl (by rw [← hB3]; simp [c2])⟩
                · exact ⟨.inr (by rw [← hB2]; simp [c1]), .inl (by rw [← hB3]; simp [c2])⟩
                · subst c1; subst c2
                  have z1 : P = 0 := by rw [← hP]; simp
                  have z2 : V = 0 := by rw [← hV]; simp
                  have z3 : M = 0 := by rw [← hM, z2]; simp
                  exact ⟨.inl (by rw [← hB1, z1, z3]; rfl), .inr (by rw [← hB4]; rfl)⟩
              clear hcase hone hnone
              go_wp2_with fail
              go_quiet (fail)
              go_wp2_with fail
              go_quiet (fail)
              have hbB := Lib.hid hBs
              clear hBs
              rw [hM]
              go_upto_region 21 with fail
              go_cut [131] from 75 to 131 (fun s wx => s = .bool false ∧ Below w1.heap.size w1 wx)
              case first =>
                go_wp2_with fail
                all_goals
                  go_meet
                  case rel =>
                    have := hbB.out
                    refine ⟨?_, by (repeat (first | assumption | exact Below.refl _ _ | refine ballc ?_ _ | refine bdrew ?_ | refine bdrewN ?_ _ | refine bset ?_ _ _ | refine bsetN ?_ (by omega) _ _ | refine bthen ?_ (by assumption)))⟩
                    simp_all
              case rest =>
              obtain ⟨rfl, hb3⟩ := hcut
              clear hB1 hB2 hB3 hB4 hbB wP wV hP hV hM x0 y0 hb2
              go_wp2_with fail
              go_loopw [15] (fun i wq => ∃ p : Nat, p ≤ q ∧ i = .int .i64 (p : Int) ∧ Below w1.heap.size w1 wq) (fun i _ => q - (intOf i).toNat)
              case atStart => exact ⟨0, by omega, rfl, hb3⟩
              case round =>
                obtain ⟨p, hp, rfl, hb5⟩ := hrel
                have x0 := (hb5.cell (p := ⟨b3, o3 + q, none⟩) hb3').trans (hc3h.out q (by rw [hFlh.out]; exact hlt2))
                have y0 := (hb5.cell (p := ⟨b4, o4 + q, none⟩) hb4').trans (hc4h.out q (by rw [hflh.out]; exact hlt2))
                rw [hxh.out] at x0
                rw [hyh.out] at y0
                by_cases hpq : p < q
                · have hpqI : (p : Int) < (q : Int) := by omega
                  have hpjI : (p : Int) < (j : Int) := by omega
                  have hp0I : (0 : Int) ≤ (p : Int) := by omega
                  have z0 := (hb5.cell (p := ⟨b3, o3 + p, none⟩) hb3').trans (hc3h.out p (by rw [hFlh.out]; omega))
                  have u0 := (hb5.cell (p := ⟨b4, o4 + p, none⟩) hb4').trans (hc4h.out p (by rw [hflh.out]; omega))
                  have hmo := hmonoh.out p hpq
                  obtain ⟨z, hz⟩ : ∃ z, A.getD p 0 = z := ⟨_, rfl⟩
                  obtain ⟨u, hu⟩ : ∃ u, ws.getD p 0 = u := ⟨_, rfl⟩
                  rw [hz] at z0 hmo
                  rw [hu] at u0 hmo
                  clear hz hu
                  rcases Int.lt_trichotomy y u with g | g | g
                  · have g1 : decide (y < u) = true := decide_eq_true g
                    have g2 : decide (z < x) = false := decide_eq_false (by have := hmo (by omega); omega)
                    have g3 : (u == y) = false := by rw [beq_eq_false_iff_ne]; omega
                    clear hmo g
                    go_wp2_with fail
                    go_quiet (fail)
                    go_wp2_with fail
                    case' roundEnd =>
                      refine ⟨⟨p + 1, by omega, by go_num, by (repeat (first | assumption | exact Below.refl _ _ | refine ballc ?_ _ | refine bdrew ?_ | refine bdrewN ?_ _ | refine bset ?_ _ _ | refine bsetN ?_ (by omega) _ _ | refine bthen ?_ (by assumption)))⟩, ?_⟩
                      simp [intOf]; omega
                  · subst g
                    have g1 : decide (y < y) = false := decide_eq_false (by omega)
                    have g2 : decide (z < x) = false := decide_eq_false (by have := hmo (by omega); omega)
                    clear hmo
                    go_wp2_with fail
                    go_quiet (fail)
                    go_wp2_with fail
                    case' roundEnd =>
                      refine ⟨⟨p + 1, by omega, by go_num, by (repeat (first | assumption | exact Below.refl _ _ | refine ballc ?_ _ | refine bdrew ?_ | refine bdrewN ?_ _ | refine bset ?_ _ _ | refine bsetN ?_ (by omega) _ _ | refine bthen ?_ (by assumption)))⟩, ?_⟩
                      simp [intOf]; omega
                  · have g1 : decide (y < u) = false := decide_eq_false (by omega)
                    have g3 : (u == y) = false := by rw [beq_eq_false_iff_ne]; omega
                    clear hmo g
                    go_wp2_with fail
                    go_quiet (fail)
                    go_wp2_with fail
                    case' roundEnd =>
                      refine ⟨⟨p + 1, by omega, by go_num, by (repeat (first | assumption | exact Below.refl _ _ | refine ballc ?_ _ | refine bdrew ?_ | refine bdrewN ?_ _ | refine bset ?_ _ _ | refine bsetN ?_ (by omega) _ _ | refine bthen ?_ (by assumption)))⟩, ?_⟩
                      simp [intOf]; omega
                · have ep : p = q := by omega
                  subst ep
                  have hgp : ¬ (p : Int) < (p : Int) := by omega
                  clear x0 y0
                  go_wp2_with fail
                  case' roundEnd =>
                    refine ⟨⟨p + 1, by omega, by go_num, by rw [hAsh.out], hb5⟩, ?_⟩
                    simp [intOf]; omega
            · have eq : q = j := by omega
              subst eq
              have hge5 : ¬ (q : Int) < (q : Int) := by omega
              have hsum : (A.take q).sum = t := by rw [List.take_of_length_le (by rw [hFlh.out]; omega)]; exact hFh.out.sum
              rw [hsum]
              have hbr := hbel1.trans (hb2.mono hs1)
              clear hsum hb2
              go_wp2_with (go_at_call 7; refine (parts_awake _).mono ?_; rintro e w' ⟨rfl, hwa⟩)
              go_ret
              exact ⟨rfl, by (repeat (first | assumption | exact Below.refl _ _ | refine ballc ?_ _ | refine bdrew ?_ | refine bdrewN ?_ _ | refine bset ?_ _ _ | refine bsetN ?_ (by omega) _ _ | refine bthen ?_ (by assumption)))⟩
end Go.Proofs.Ytanmfhdljgphhaa
