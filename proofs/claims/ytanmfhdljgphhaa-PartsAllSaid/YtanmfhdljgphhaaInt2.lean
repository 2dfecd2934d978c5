/-
  Insertion sort of places. Its walk.
-/
import Derived.Test.YtanmfhdljgphhaaInt1
import Derived.Test.YtanmfhdljgphhaaSortP
import Derived.IntWalk
import Derived.RegionTactic
import Derived.ChangeAlike
import Derived.Deep.RegionHeld3
set_option linter.unusedVariables false
set_option linter.unusedSimpArgs false
namespace Go.Proofs.Ytanmfhdljgphhaa
open Go.RowKit

def fl (l : List Nat) : List Int := l.map fun (n : Nat) => (n : Int)
theorem fl_len (l : List Nat) : (fl l).length = l.length := by simp [fl]
theorem fl_get {l : List Nat} {i x : Nat} (h : l[i]? = some x) : (fl l).getD i 0 = (x : Int) := by
  rw [List.getD_eq_getElem?_getD, fl, List.getElem?_map, h]; rfl
theorem fl_set (l : List Nat) (i x : Nat) : (fl l).set i (x : Int) = fl (l.set i x) := by simp [fl, List.map_set]
theorem CellsAt.nat {w : World} {b off : Nat} {l : List Nat} {j x : Nat} (hc : CellsAt w b off (fl l)) (hx : l[j]? = some x) : w.cell? ⟨b, off + j, none⟩ = some (.int .i64 (x : Int)) := by
  have hj : j < l.length := by
    rcases Nat.lt_or_ge j l.length with h | h
    · exact h
    · rw [List.getElem?_eq_none h] at hx; cases hx
  rw [hc j (by rw [fl_len]; exact hj), fl_get hx]
/-- The comparison that is handed on. -/
def byRest (c d : Nat) : Value := .func (.func 26) #[] #[.pointer (some ⟨c, 0, none⟩), .pointer (some ⟨d, 0, none⟩)]
/-- By what the places are put in order: the greatest first. -/
def keyN (rest : List Int) (x : Nat) : Int := -(rest.getD x 0)
theorem cmp_key {rest : List Int} {x y : Nat} : cmpI (rest.getD y 0) (rest.getD x 0) < 0 ↔ keyN rest x < keyN rest y := by
  rw [cmpI_neg]; unfold keyN; omega

/-- Places in a block that may be written; what the comparison reads elsewhere. -/
structure LayN (w : World) (b off c d g goff gcap : Nat) (rest : List Int) (l : List Nat) : Prop where
  cells : CellsAt w b off (fl l)
  fz : ∀ i, w.frozen? ⟨b, i, none⟩ = false
  lt : b < w.heap.size
  env : Env w b c d g goff gcap rest
  all : ∀ x, x ∈ l → x < rest.length
section
variable {w w' : World} {b off c d g goff gcap : Nat} {rest : List Int} {l : List Nat}
theorem LayN.drew (h : LayN w b off c d g goff gcap rest l) : LayN w.drew b off c d g goff gcap rest l := ⟨h.cells, h.fz, h.lt, ⟨h.env.fn, h.env.sl, h.env.row, h.env.cl, h.env.dl, h.env.gl, h.env.cn, h.env.dn, h.env.gn⟩, h.all⟩
theorem LayN.below (h : LayN w b off c d g goff gcap rest l) (k : Below w.heap.size w w') : LayN w' b off c d g goff gcap rest l :=
  ⟨h.cells.below h.lt k, fun i => (k.frozen (p := ⟨b, i, none⟩) h.lt).trans (h.fz i), Nat.lt_of_lt_of_le h.lt k.size, h.env.keep (Keep.of k h.lt), h.all⟩
theorem LayN.drewN (h : LayN w b off c d g goff gcap rest l) (n : Nat) : LayN (w.drewN n) b off c d g goff gcap rest l := h.below (below_drewN (Below.refl _ _) n)
theorem LayN.set (h : LayN w b off c d g goff gcap rest l) {i : Nat} (hi : i < l.length) {x : Nat} (hx : x < rest.length) : LayN (w.setCell ⟨b, off + i, none⟩ (.int .i64 (x : Int))) b off c d g goff gcap rest (l.set i x) :=
  ⟨by rw [← fl_set]; exact CellsAt.put h.cells (by rw [fl_len]; exact hi) _, fun j => by rw [World.frozen?_setCell]; exact h.fz j, by simpa [World.setCell] using h.lt, h.env.keep ((Keep.refl b w).set _ _), fun y hy => by
    rcases List.mem_or_eq_of_mem_set hy with h' | rfl
    · exact h.all y h'
    · exact hx⟩
end

set_option maxRecDepth 20000 in
set_option maxHeartbeats 2000000 in
theorem ins_sortN (b off c cap a e : Nat) (d g goff gcap : Nat) (rest : List Int) (hrm : rest.length ≤ 1000000) (pre seg post : List Nat) (w : World) (h : LayN w b off c d g goff gcap rest (pre ++ seg ++ post)) (n : Nat) (hN : (pre ++ seg ++ post).length = n) (hn : n ≤ cap) (hm : cap ≤ maxLen) (hnb : n ≤ 1000000)
    (ha : pre.length = a) (he : a + seg.length = e) :
    Calls Try.prog 36 #[.slice (some ⟨b, off, none⟩) n cap, .int .i64 a, .int .i64 e, byRest c d] w
      fun r w' => r = .returned (.tuple #[]) ∧ ∃ seg' : List Nat, seg'.length = seg.length ∧ Rises (keyN rest) seg' ∧ Stab (keyN rest) seg seg' ∧ LayN w' b off c d g goff gcap rest (pre ++ seg' ++ post) ∧ Keep b w w' := by
  unfold maxLen at hm
  have hae : e ≤ n := by rw [← hN, ← he, ← ha]; simp
  have hNh := Lib.hid hN
  have hah := Lib.hid ha
  have heh := Lib.hid he
  clear hN ha he
  unfold byRest
  go_enter Try.func36, Try.ntmps36
  cases seg with
  | nil =>
    have hge : ¬ (a : Int) + 1 < (e : Int) := by have := heh.out; simp at this; omega
    have hw1 : IntKind.i64.wrap ((a : Int) + 1) = (a : Int) + 1 := IntWalk.i64_in _ (by have := heh.out; simp at this; omega)
    have hw2 : wrap64 ((a : Int) + 1) = (a : Int) + 1 := by unfold wrap64; have := heh.out; simp at this; omega
    go_wp2_with fail
    refine wp_loop_rounds 1 ?_
    rw [rounds_succ]
    go_wp2_with fail
    exact bodyPost_end (v := .tuple #[]) (by simp [results, Try.results36, go_sem]) rfl ⟨rfl, [], rfl, Rises.nil, Stab.refl _, h, Keep.refl _ _⟩
  | cons s0 seg0 =>
    have hlt0 : a + 1 ≤ e := by have := heh.out; simp at this; omega
    go_wp2_with fail
    go_loopw [8] (fun i wr => ∃ (k K : Nat) (P : List Nat), 1 ≤ k ∧ K ≤ e ∧ Hid (a + k = K) ∧ i = .int .i64 (K : Int) ∧ Hid (P.length = k) ∧ Rises (keyN rest) P ∧ Stab (keyN rest) ((s0 :: seg0).take k) P ∧ LayN wr b off c d g goff gcap rest (pre ++ P ++ (s0 :: seg0).drop k ++ post) ∧ Keep b w wr) (fun i _ => e - (intOf i).toNat)
    case atStart =>
      exact ⟨1, a + 1, [s0], by omega, by omega, rfl, by go_num, rfl, Rises.one _, Stab.refl _, by simpa using h, Keep.refl _ _⟩
    case round =>
      obtain ⟨k, K, P, hk1, hk2, hkK, rfl, hP, hR, hS, hL, hK⟩ := hrel
      by_cases hlt : K < e
      · have hltI : (K : Int) < (e : Int) := by omega
        obtain ⟨x, R, hx⟩ : ∃ x R, (s0 :: seg0).drop k = x :: R := by
          cases hd : (s0 :: seg0).drop k with
          | nil => have := heh.out; have := hkK.out; rw [List.drop_eq_nil_iff] at hd; omega
          | cons x R => exact ⟨x, R, rfl⟩
        have hxh := Lib.hid hx
        rw [hx] at hL
        clear hx
        go_wp2_with fail
        go_loopw [9] (fun j wr => ∃ (J : Nat) (P1 P2 : List Nat), Hid (P = P1 ++ P2) ∧ (∀ z, z ∈ P2 → keyN rest x < keyN rest z) ∧ j = .int .i64 (J : Int) ∧ Hid (a + P1.length = J) ∧ J ≤ K ∧ LayN wr b off c d g goff gcap rest (pre ++ P1 ++ x :: (P2 ++ R ++ post)) ∧ Keep b w wr) (fun j _ => (intOf j).toNat)
        case atStart =>
          exact ⟨K, P, [], by simp [Hid], by simp, rfl, by rw [Hid, hP.out]; exact hkK.out, by omega, by simpa using hL, hK⟩
        case round =>
          obtain ⟨J, P1, P2, hP12, h2, rfl, hJ, hle, hL, hK⟩ := hrel
          rcases split_last P1 with rfl | ⟨A, y, rfl⟩
          · obtain rfl : a = J := hJ.out
            clear hJ
            go_wp2_with fail
            go_quiet (fail)
            go_wp2_with fail
            case' roundEnd =>
              obtain ⟨q1, q2, q3, q4, q5⟩ := ins_round (key := keyN rest) hxh.out hP.out hR hS hP12.out h2 (by simp)
              refine ⟨⟨k + 1, K + 1, [] ++ x :: P2, by omega, by omega, by have := hkK.out; show _ = _; omega, by go_num, q1, q2, q3, ?_, ?_⟩, ?_⟩
              · rw [q4]; have t := hL.drewN nq; simpa using t
              · exact hK.drewN _
              · simp [intOf]; omega
          · obtain ⟨m, hm⟩ : ∃ m, a + A.length = m := ⟨_, rfl⟩
            obtain rfl : J = m + 1 := by have := hJ.out; simp at this; omega
            rw [show ((m + 1 : Nat) : Int) = (m : Int) + 1 from by simp]
            have hmn2 : m + 1 < n := by omega
            have hL2 : LayN wr b off c d g goff gcap rest ((pre ++ A) ++ y :: x :: (P2 ++ R ++ post)) := by simpa using hL
            have hpl : (pre ++ A).length + 1 = m + 1 := by have := hah.out; simp; omega
            have ham : (a : Int) ≤ (m : Int) := by omega
            have hmh := Lib.hid hm
            clear hm hJ
            have x0 := hL2.cells.nat (get_snd (A := pre ++ A) (B := P2 ++ R ++ post) (x := x) (y := y) hpl)
            have y0 := hL2.cells.nat (get_fst (A := pre ++ A) (B := P2 ++ R ++ post) (x := x) (y := y) hpl)
            rw [Nat.add_sub_cancel] at y0
            have hxr := hL2.all x (by simp)
            have hyr := hL2.all y (by simp)
            have hd1 : decide ((a : Int) < (m : Int) + 1) = true := decide_eq_true (by omega)
            have hd4 : IntKind.i64.wrap ((m : Int) + 1 - 1) = (m : Int) := (IntWalk.i64_in _ (by omega)).trans (by omega)
            have hd10 : IntKind.i64.wrap (m : Int) = (m : Int) := IntWalk.i64_in _ (by omega)
            have hd5 : (0 : Int) ≤ (m : Int) + 1 := by omega
            have hd6 : (0 : Int) ≤ (m : Int) := by omega
            have hd7 : (m : Int) < (n : Int) := by omega
            have hd8 : ((m : Int) + 1).toNat = m + 1 := by omega
            have hd9 : (m : Int).toNat = m := by omega
            have hd3 : (a : Int) < (m : Int) + 1 := by omega
            have hmnI : (m : Int) + 1 < (n : Int) := by omega
            go_wp2_with fail
            have hEnv := hL2.drew.env
            have hcmpW := fun (W : World) (h : Env W b c d g goff gcap rest) => ord_cmp x y W h hxr hyr hrm
            obtain ⟨cv, hcv⟩ : ∃ cv, cmpI (rest.getD y 0) (rest.getD x 0) = cv := ⟨_, rfl⟩
            rw [hcv] at hcmpW
            have hcvh := Lib.hid hcv
            clear hcv
            go_region_held3 (fun w' => LayN w' b off c d g goff gcap rest ((pre ++ A) ++ y :: x :: (P2 ++ R ++ post)) ∧ Keep b w w' ∧ Env w' b c d g goff gcap rest ∧ w'.cell? ⟨b, off + (m + 1), none⟩ = some (.int .i64 (x : Int)) ∧ w'.cell? ⟨b, off + m, none⟩ = some (.int .i64 (y : Int)))
              (first
                | exact ⟨hL2.drew, hK.drew, hL2.drew.env, x0, y0⟩
                | (go_split_ands; rename_i s1 s2 s3 s4 s5; exact ⟨s1.below hw2, s2.then hw2 h.lt, (s1.below hw2).env, (hw2.cell s1.lt).trans s4, (hw2.cell s1.lt).trans s5⟩))
              ((first
                | (go_at_call 26; refine (hcmpW _ (by assumption)).mono ?_; rintro e w2 ⟨rfl, hw2⟩)))
            have hS3 := ‹LayN _ b off c d g goff gcap rest _ ∧ _›
            clear hL hL2 hK x0 y0 hEnv hcmpW
            obtain ⟨s1, s2, -, s3, s4⟩ := hS3
            have hf1 := s1.fz (off + (m + 1))
            have hf3 := s1.fz (off + m)
            by_cases hcmp : keyN rest x < keyN rest y
            · have hdc : cv < 0 := by rw [← hcvh.out]; exact cmp_key.2 hcmp
              go_wp2_with fail
              go_region
              all_goals
                go_wp2_with fail
                case' roundEnd =>
                  have hl1 : m + 1 < (pre ++ A ++ y :: x :: (P2 ++ R ++ post)).length := by simp at hpl ⊢; omega
                  have t1 := (s1.set (i := m + 1) hl1 hyr).set (i := m) (by rw [List.length_set]; omega) hxr
                  have t2 := swap_next (A := pre ++ A) (B := P2 ++ R ++ post) (x := x) (y := y) hpl
                  rw [Nat.add_sub_cancel] at t2
                  rw [t2] at t1
                  have t3 := (s2.set (off + (m + 1)) (.int .i64 (y : Int))).set (off + m) (.int .i64 (x : Int))
                  refine ⟨⟨m, A, y :: P2, by rw [Hid, hP12.out]; simp, ins_step (P1 := A) h2 hcmp, by go_num, hmh.out, by omega, ?_, ?_⟩, ?_⟩
                  · have t4 := t1.drew; simpa using t4
                  · exact t3.drew
                  · simp [intOf]
            · have hdc : ¬ cv < 0 := fun h => hcmp (cmp_key.1 (by rw [hcvh.out]; exact h))
              go_wp2_with fail
              case' roundEnd =>
                have h1 : ∀ z, z ∈ A ++ [y] → keyN rest z ≤ keyN rest x := fun z hz => by
                  have := Rises.last (key := keyN rest) (a := A) (y := y) ((Rises.app.1 (show Rises (keyN rest) ((A ++ [y]) ++ P2) by rw [← hP12.out]; exact hR)).1) z hz
                  omega
                obtain ⟨q1, q2, q3, q4, q5⟩ := ins_round (key := keyN rest) hxh.out hP.out hR hS hP12.out h2 h1
                refine ⟨⟨k + 1, K + 1, (A ++ [y]) ++ x :: P2, by omega, by omega, by have := hkK.out; show _ = _; omega, by go_num, q1, q2, q3, ?_, ?_⟩, ?_⟩
                · rw [q4]; exact (show LayN w2 b off c d g goff gcap rest _ by simpa using s1)
                · exact s2
                · simp [intOf]; omega
      · have hke : K = e := by omega
        have hge : ¬ (K : Int) < (e : Int) := by omega
        go_wp2_with fail
        have hdk : (s0 :: seg0).drop k = [] := by have := heh.out; have := hkK.out; exact List.drop_eq_nil_of_le (by omega)
        have htk : (s0 :: seg0).take k = s0 :: seg0 := by have := heh.out; have := hkK.out; exact List.take_of_length_le (by omega)
        rw [htk] at hS
        rw [hdk] at hL
        exact bodyPost_end (v := .tuple #[]) (by simp [results, Try.results36, go_sem]) rfl ⟨rfl, P, by have := heh.out; have := hP.out; have := hkK.out; simp at *; omega, hR, hS, by simpa using hL, hK⟩
end Go.Proofs.Ytanmfhdljgphhaa
