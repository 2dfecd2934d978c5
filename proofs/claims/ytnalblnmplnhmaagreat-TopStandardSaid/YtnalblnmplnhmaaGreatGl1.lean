/-
  gl.Post: what it answers; its inner function.
-/
import Derived.Test.YtnalblnmplnhmaaGreatVou7
import Derived.RegionTactic
import Derived.Deep.RegionLaw
set_option linter.unusedVariables false
set_option linter.unusedSimpArgs false
namespace Go.Proofs.YtnalblnmplnhmaaGreat
open Go.RowKit

/-- Balances behind lines; none: one goes out of bounds. -/
def addAll : List Int → List Lin → Option (List Int)
  | bal, [] => some bal
  | bal, x :: m => if addOk (bal.getD x.a.toNat 0) x.n then addAll (bal.set x.a.toNat (bal.getD x.a.toNat 0 + x.n)) m else none
theorem addAll_len : ∀ (m : List Lin) (bal next : List Int), addAll bal m = some next → next.length = bal.length
  | [], bal, next, h => by simp [addAll] at h; rw [h]
  | x :: m, bal, next, h => by
    simp only [addAll] at h
    split at h
    · have := addAll_len m _ _ h
      simpa using this
    · cases h
theorem addAll_snoc : ∀ (m : List Lin) (bal : List Int) (x : Lin), addAll bal (m ++ [x]) = (addAll bal m).bind fun next => if addOk (next.getD x.a.toNat 0) x.n then some (next.set x.a.toNat (next.getD x.a.toNat 0 + x.n)) else none
  | [], bal, x => by simp [addAll]
  | y :: m, bal, x => by
    simp only [List.cons_append, addAll]
    split
    · exact addAll_snoc m _ x
    · rfl
theorem addAll_append : ∀ (m k : List Lin) (bal : List Int), addAll bal (m ++ k) = (addAll bal m).bind fun next => addAll next k
  | [], k, bal => by simp [addAll]
  | y :: m, k, bal => by
    simp only [List.cons_append, addAll]
    split
    · exact addAll_append m k _
    · rfl
theorem addAll_stop {m : List Lin} {j : Nat} {bal next : List Int} {x : Lin} (h : addAll bal (m.take j) = some next) (hx : m[j]? = some x) (ho : addOk (next.getD x.a.toNat 0) x.n = false) : addAll bal m = none := by
  have e : m.take (j + 1) = m.take j ++ [x] := by rw [List.take_add_one, hx]; rfl
  conv => lhs; rw [← List.take_append_drop (j + 1) m]
  rw [addAll_append, e, addAll_snoc, h]
  simp only [Option.bind_some]
  rw [if_neg (by rw [ho]; simp)]
  rfl
/-- What the inner function answers: 10: no such voucher; 2: out of bounds. -/
def postE (bal : List Int) (l : List Lin) : Int := if (plainS l).2 ≠ 0 ∨ (0 < (plainS l).1.length ∧ checkL (plainS l).1 = false) then 10 else match addAll bal (plainS l).1 with | some _ => 0 | none => 2
def postN (bal : List Int) (l : List Lin) : List Int := (addAll bal (plainS l).1).getD bal

set_option maxRecDepth 20000 in
set_option maxHeartbeats 4000000 in
theorem post_fn (b off cap c : Nat) (bal : List Int) (hbal : bal.length = 17) (hcap : 17 ≤ cap) (hmax : cap ≤ maxLen) (a : Option Addr) (lcap : Nat) (l : List Lin) (w : World) (hC : CellsAt w b off bal) (hfz : ∀ i, w.frozen? ⟨b, i, none⟩ = false) (hb : b < w.heap.size)
    (hc : w.cell? ⟨c, 0, none⟩ = some (.slice a l.length lcap)) (hcl : c < w.heap.size) (hR : Row w 2 a l.length lcap (flat2 l)) (h20 : l.length ≤ 1000000) (hI : AllI bal) :
    Calls Tryz.prog 151 #[.slice (some ⟨b, off, none⟩) 17 cap, .pointer (some ⟨c, 0, none⟩)] w fun e w' => e = .returned (.int .i64 (postE bal l)) ∧ (postE bal l = 0 → CellsAt w' b off (postN bal l)) ∧ Keep b w w' := by
  have hPall := plain_all l
  have hPI := plain_I l
  have hPl := vou_Plain a lcap l
  generalize hE : postE bal l = E
  generalize hN : postN bal l = N
  have hEh := Lib.hid hE
  have hNh := Lib.hid hN
  clear hE hN
  obtain ⟨m, e', hP⟩ : ∃ m e', plainS l = (m, e') := ⟨_, _, rfl⟩
  rw [hP] at hPall hPI hPl
  have hPh := Lib.hid hP
  clear hP
  unfold maxLen at hmax
  go_enter Tryz.func151, Tryz.ntmps151
  go_wp2_with fail
  refine (hPl w hR h20).mono ?_
  rintro e w1 ⟨v1, rfl, hh, hw1⟩
  obtain ⟨a1, c1, rfl, R1⟩ := id (hh.row hPI)
  clear hPl hc
  by_cases he : e' = 0
  · subst he
    by_cases hm0 : m.length = 0
    · obtain rfl : m = [] := List.eq_nil_of_length_eq_zero hm0
      have hr : E = 0 := by rw [← hEh.out, postE, hPh.out]; simp [addAll]
      have hn : N = bal := by rw [← hNh.out, postN, hPh.out]; simp [addAll]
      subst hr
      subst hn
      clear hh hm0
      go_wp2_with fail
      refine wp_loop_rounds 1 ?_
      rw [rounds_succ]
      go_wp2_with fail
      go_ret
      first | exact ⟨rfl, hC.below hb hw1, Keep.of hw1 hb⟩ | exact ⟨rfl, fun _ => hC.below hb hw1, Keep.of hw1 hb⟩
    · obtain ⟨g, off1, rfl, hg, hgl, hgc⟩ : ∃ g off1, a1 = some ⟨g, off1, none⟩ ∧ w.heap.size ≤ g ∧ g < w1.heap.size ∧ CellsAt w1 g off1 (flat2 m) := by
        obtain ⟨a', c', e, -, -, h3⟩ := hh
        cases e
        rcases h3 with h3 | ⟨g, off1, rfl, h4, h5, h6, -⟩
        · exact absurd h3 hm0
        · exact ⟨g, off1, rfl, h4, h5, h6⟩
      have hm1 : (0 : Int) < (m.length : Int) := by omega
      cases hck : checkL m
      · have hr : E = 10 := by rw [← hEh.out, postE, hPh.out, if_pos (.inr ⟨by simp only; omega, hck⟩)]
        subst hr
        clear hm0
        go_wp2_with fail
        refine (vou_Check (some ⟨g, off1, none⟩) c1 m _ R1).mono ?_
        rw [hck]
        rintro e w2 ⟨rfl, hw2⟩
        go_wp2_with fail
        go_ret
        exact ⟨rfl, by simp, (Keep.of hw1 hb).then hw2 hb⟩
      · have hE2 : E = match addAll bal m with | some _ => 0 | none => 2 := by
          rw [← hEh.out, postE, hPh.out, if_neg (by simp [hck])]
        have hN2 : N = (addAll bal m).getD bal := by rw [← hNh.out, postN, hPh.out]
        have hE2h := Lib.hid hE2
        have hN2h := Lib.hid hN2
        clear hE2 hN2 hEh hNh hm0
        go_wp2_with fail
        refine (vou_Check (some ⟨g, off1, none⟩) c1 m _ R1).mono ?_
        rw [hck]
        rintro e w2 ⟨rfl, hw2⟩
        have hgc2 := hgc.below hgl hw2
        have hK2 : Keep b w w2 := (Keep.of hw1 hb).then hw2 hb
        have hC2 : CellsAt w2 b off bal := (hC.below hb hw1).below (Nat.lt_of_lt_of_le hb hw1.size) hw2
        have hg2 : g < w2.heap.size := Nat.lt_of_lt_of_le hgl hw2.size
        have hb2 : b < w2.heap.size := Nat.lt_of_lt_of_le hb hK2.size
        have hgb : g ≠ b := by omega
        have hPh2 := Lib.hid hPall
        have hmlen : m.length ≤ 9223372036854775807 := by have h1 := R1.le; have h2 := R1.max; unfold maxLen at h2; omega
        clear hgc hw1 hw2 hh R1 hPall hck hC
        go_wp2_with fail
        go_loopw [27] (fun i wr => ∃ (j : Nat) (next : List Int), j ≤ m.length ∧ i = .int .i64 j ∧ Hid (addAll bal (m.take j) = some next) ∧ CellsAt wr b off next ∧ AllI next ∧ Keep b w2 wr) (fun i _ => m.length - (intOf i).toNat)
        case atStart => exact ⟨0, bal, by omega, rfl, rfl, hC2, hI, Keep.refl _ _⟩
        case round =>
          obtain ⟨j, next, hj, rfl, hA, hCn, hIn, hK⟩ := hrel
          have hbr : b < wr.heap.size := Nat.lt_of_lt_of_le hb2 hK.size
          have hnl : next.length = 17 := by rw [addAll_len _ _ _ hA.out, hbal]
          by_cases hlt : j < m.length
          · have hltI : (j : Int) < (m.length : Int) := by omega
            obtain ⟨⟨xa, xn⟩, hx⟩ : ∃ x, m[j]? = some x := ⟨m[j], by simp [hlt]⟩
            obtain ⟨y0, y1⟩ := hgc2.line hx
            have x0 := (hK.cell (c := g) (i := off1 + j * 2) hg2 hgb).trans y0
            have x1 := (hK.cell (c := g) (i := off1 + j * 2 + 1) hg2 hgb).trans y1
            have hxg := hPh2.out _ (List.mem_of_getElem? hx)
            simp only at hxg x0 x1
            obtain ⟨ka, rfl⟩ : ∃ ka : Nat, xa = (ka : Int) := ⟨xa.toNat, by omega⟩
            have hka : ka < 17 := by omega
            have hkaI : (ka : Int) < 17 := by omega
            have hka0 : (0 : Int) ≤ (ka : Int) := by omega
            have hcell := hCn ka (by omega)
            have hv := hIn.at_ ka
            have hfr : wr.frozen? ⟨b, off + ka, none⟩ = false := (hK.froz _).trans ((hK2.froz _).trans (hfz _))
            obtain ⟨v, hvv⟩ : ∃ v, next.getD ka 0 = v := ⟨_, rfl⟩
            rw [hvv] at hcell hv
            have hxh := Lib.hid hx
            have hvh := Lib.hid hvv
            have hnlh := Lib.hid hnl
            clear hx y0 y1 hvv hxg hnl
            cases hok : addOk v xn
            · have hS := addAll_stop hA.out hxh.out (by show addOk (next.getD ((ka : Int)).toNat 0) xn = false; rw [Int.toNat_natCast, hvh.out]; exact hok)
              have hr : E = 2 := by rw [hE2h.out, hS]
              subst hr
              go_wp2_with fail
              go_region_law (first | (go_simp; go_at_call 95; refine (add_no hok _).mono ?_; rintro e w' ⟨rfl, rfl⟩))
              all_goals
                go_wp2_with fail
                go_ret
                refine ⟨rfl, by simp, ?_⟩
                exact hK2.trans (((hK.set (off + ka) (.int .i64 0)).then (ballc (Below.refl _ _) _) hb2).drew)
            · have hbd := addOk_bd hok
              have hA2 : Hid (addAll bal (m.take (j + 1)) = some (next.set ka (v + xn))) := by
                rw [Hid, List.take_add_one, hxh.out]
                simp only [Option.toList_some]
                rw [addAll_snoc, hA.out]
                simp only [Option.bind_some]
                show (if addOk (next.getD ((ka : Int)).toNat 0) xn = true then some (next.set ((ka : Int)).toNat (next.getD ((ka : Int)).toNat 0 + xn)) else none) = _
                rw [Int.toNat_natCast, hvh.out, if_pos hok]
              have hI2 : AllI (next.set ka (v + xn)) := fun z hz => by
                rcases List.mem_or_eq_of_mem_set hz with h | rfl
                · exact hIn z h
                · exact ⟨by omega, by omega⟩
              have hWK := ((hK.set (off + ka) (.int .i64 (v + xn))).then (ballc (Below.refl _ _) (.cells #[.int .i64 (ka : Int), .int .i64 xn] 131)) hb2).drew
              have hC3 := (CellsAt.put hCn (j := ka) (by rw [hnlh.out]; omega) (v + xn)).below (by simpa [World.setCell] using hbr) (ballc (Below.refl _ _) (.cells #[.int .i64 (ka : Int), .int .i64 xn] 131))
              have hI2h := Lib.hid hI2
              clear hI2
              go_wp2_with fail
              go_region_law (first | (go_simp; go_at_call 95; refine (add_ok hok _).mono ?_; rintro e w' ⟨rfl, rfl⟩))
              all_goals
                go_wp2_with fail
                case' roundEnd =>
                  refine ⟨⟨j + 1, next.set ka (v + xn), by omega, by go_num, hA2, hC3, hI2h.out, hWK⟩, ?_⟩
                  simp [intOf]
                  omega
          · have ej : j = m.length := by omega
            subst ej
            have hge : ¬ (m.length : Int) < (m.length : Int) := by omega
            have hA1 := hA.out
            rw [List.take_length] at hA1
            have hr : E = 0 := by rw [hE2h.out, hA1]
            have hn : N = next := by rw [hN2h.out, hA1]; rfl
            subst hr
            subst hn
            clear hA1
            go_wp2_with fail
            go_ret
            first | exact ⟨rfl, hCn, hK2.trans hK⟩ | exact ⟨rfl, fun _ => hCn, hK2.trans hK⟩
  · have hr : E = 10 := by rw [← hEh.out, postE, hPh.out, if_pos (.inl he)]
    subst hr
    go_wp2_with fail
    go_ret
    exact ⟨rfl, by simp, Keep.of hw1 hb⟩
end Go.Proofs.YtnalblnmplnhmaaGreat
