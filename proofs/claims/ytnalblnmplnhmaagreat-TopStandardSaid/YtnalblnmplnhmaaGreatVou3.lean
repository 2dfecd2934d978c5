/-
  The library's DeleteFunc at lines.
-/
import Derived.Test.YtnalblnmplnhmaaGreatVou2
set_option linter.unusedVariables false
set_option linter.unusedSimpArgs false
namespace Go.Proofs.YtnalblnmplnhmaaGreat
open Go.RowKit

theorem filter_step {l L : List Lin} {q : Lin → Bool} {i j : Nat} {x : Lin} (hx : l[j]? = some x) (ht : L.take i = (l.take j).filter q) (hd : L.drop j = l.drop j) (hij : i < j) (hL : L.length = l.length) :
    (q x = false → L.take i = (l.take (j + 1)).filter q ∧ L.drop (j + 1) = l.drop (j + 1)) ∧
    (q x = true → (L.set i x).take (i + 1) = (l.take (j + 1)).filter q ∧ (L.set i x).drop (j + 1) = l.drop (j + 1)) ∧ j < l.length := by
  have hj : j < l.length := by
    rcases Nat.lt_or_ge j l.length with h | h
    · exact h
    · rw [List.getElem?_eq_none h] at hx; cases hx
  have hd' : L.drop (j + 1) = l.drop (j + 1) := by
    have := congrArg (List.drop 1) hd
    simpa [List.drop_drop, Nat.add_comm] using this
  have hf : (l.take (j + 1)).filter q = (l.take j).filter q ++ [x].filter q := by rw [List.take_add_one, hx, List.filter_append]; rfl
  refine ⟨fun h => ⟨by rw [hf, ht]; simp [h], hd'⟩, fun h => ⟨?_, ?_⟩, hj⟩
  · rw [hf, ← ht, List.take_add_one, List.getElem?_set_self (by omega)]
    simp [h, List.take_set]
    rw [List.set_eq_of_length_le (by simp; omega)]
  · rw [List.drop_set]
    simp only [hd']
    split
    · rfl
    · omega

set_option maxRecDepth 20000 in
set_option maxHeartbeats 2000000 in
theorem delete_func {F : FuncId} {p : Lin → Bool} (hF : Pred F p) (b off cap : Nat) (l : List Lin) (w : World) (hcs : CellsAt w b off (flat2 l)) (hfz : ∀ i, w.frozen? ⟨b, i, none⟩ = false) (hb : b < w.heap.size) (hn : l.length ≤ cap) (hm : cap ≤ maxLen) (hA : AllI (flat2 l)) :
    Calls Tryz.prog 148 #[.slice (some ⟨b, off, none⟩) l.length cap, .func (.func F) #[] #[]] w
      fun e w' => e = .returned (.slice (some ⟨b, off, none⟩) (l.filter (fun x => !p x)).length cap) ∧ CellsAt w' b off (flat2 (l.filter (fun x => !p x))) ∧ Keep b w w' := by
  have hR : Row w 2 (some ⟨b, off, none⟩) l.length cap (flat2 l) := ⟨flat2_len l, hn, hm, hA, .inr ⟨b, off, rfl, hb, hcs⟩⟩
  have hidx := idx_func hF (some ⟨b, off, none⟩) cap l
  have hFh := Lib.hid hF.ask
  have hent := hF.ent
  clear hF
  obtain ⟨n, hN⟩ : ∃ n, l.length = n := ⟨_, rfl⟩
  rw [hN] at hn hR hidx ⊢
  have hNh := Lib.hid hN
  unfold maxLen at hm
  go_enter Tryz.func148, Tryz.ntmps148
  cases hi : l.findIdx? p with
  | none =>
    have hno : idxP p l = -1 := by simp [idxP, hi]
    have hall := List.findIdx?_eq_none_iff.1 hi
    have hfl : l.filter (fun x => !p x) = l := List.filter_eq_self.2 fun x hx => by simp [hall x hx]
    clear hi hN
    go_wp2_with fail
    refine (hidx w hR).mono ?_
    rw [hno]
    rintro e w1 ⟨rfl, hw1⟩
    clear hno
    go_wp2_with fail
    go_ret
    rw [hfl]
    exact ⟨by rw [hNh.out]; rfl, hcs.below hb hw1, Keep.of hw1 hb⟩
  | some k =>
    obtain ⟨hk, hpk, hbef⟩ := List.findIdx?_eq_some_iff_getElem.1 hi
    have hno : idxP p l = (k : Int) := by simp [idxP, hi]
    have hkn : k < n := by omega
    have hkI : ¬ (k : Int) = -1 := by omega
    have hkB : ((k : Int) == -1) = false := by simp
    have hf0 : l.take k = (l.take (k + 1)).filter (fun x => !p x) := by
      rw [List.take_succ_eq_append_getElem hk, List.filter_append]
      have h1 : (l.take k).filter (fun x => !p x) = l.take k := List.filter_eq_self.2 fun x hx => by
        obtain ⟨i, hi1, rfl⟩ := List.mem_take_iff_getElem.1 hx
        have := hbef i (by omega)
        simpa using this
      rw [h1]
      simp [hpk]
    clear hi hbef hN hpk
    go_wp2_with fail
    refine (hidx w hR).mono ?_
    rw [hno]
    rintro e w1 ⟨rfl, hw1⟩
    have hcs1 := hcs.below hb hw1
    have hK1 := Keep.of hw1 hb
    clear hno hidx hR hw1
    go_wp2_with fail
    go_loopw [5, 6] (fun i j wr => ∃ (ki kj : Nat) (L : List Lin), i = .int .i64 (ki : Int) ∧ j = .int .i64 (kj : Int) ∧ ki < kj ∧ kj ≤ n ∧ Hid (L.length = n) ∧ Hid (L.take ki = (l.take kj).filter (fun x => !p x)) ∧ Hid (L.drop kj = l.drop kj) ∧ CellsAt wr b off (flat2 L) ∧ Keep b w wr) (fun _ j _ => n - (intOf j).toNat)
    case atStart => exact ⟨k, k + 1, l, rfl, by go_num, by omega, by omega, hNh.out, hf0, rfl, hcs1, hK1⟩
    case round =>
      obtain ⟨ki, kj, L, rfl, rfl, hij, hjn, hL, hT, hD, hC, hK⟩ := hrel
      have hfz1 : ∀ i, wr.frozen? ⟨b, i, none⟩ = false := fun i => (hK.froz i).trans (hfz i)
      have hb1 : b < wr.heap.size := Nat.lt_of_lt_of_le hb hK.size
      by_cases hlt : kj < n
      · have hltI : (kj : Int) < (n : Int) := by omega
        obtain ⟨x, hx⟩ : ∃ x, l[kj]? = some x := ⟨l[kj]'(by rw [hNh.out]; omega), by simp [hNh.out, hlt]⟩
        have hxL : L[kj]? = some x := by
          have := congrArg List.head? hD.out
          rw [List.head?_drop, List.head?_drop, hx] at this
          exact this
        obtain ⟨f1, f2, -⟩ := filter_step hx hT.out hD.out hij (by rw [hL.out, hNh.out])
        obtain ⟨c0, c1⟩ := hC.line hxL
        have hxh := Lib.hid hx
        have f1h := Lib.hid f1
        have f2h := Lib.hid f2
        have hxLh := Lib.hid hxL
        clear hx f1 f2 hxL
        go_wp2_with fail
        refine (hFh.out x _).mono ?_
        rintro e w2 ⟨rfl, hw2⟩
        have hC2 := hC.below hb1 (show Below wr.heap.size wr w2 by (repeat (first | assumption | exact Below.refl _ _ | refine ballc ?_ _ | refine bdrew ?_ | refine bdrewN ?_ _ | refine bset ?_ _ _ | refine bsetN ?_ (by omega) _ _ | refine bthen ?_ (by assumption))))
        have hK2 := hK.then (show Below wr.heap.size wr w2 by (repeat (first | assumption | exact Below.refl _ _ | refine ballc ?_ _ | refine bdrew ?_ | refine bdrewN ?_ _ | refine bset ?_ _ _ | refine bsetN ?_ (by omega) _ _ | refine bthen ?_ (by assumption)))) hb
        have v0 : w2.cell? ⟨wr.heap.size, 0, none⟩ = some (.int .i64 x.a) := (hw2.cell (by simp)).trans (by simp)
        have v1 : w2.cell? ⟨wr.heap.size, 1, none⟩ = some (.int .i64 x.n) := (hw2.cell (by simp)).trans (by simp)
        cases hp : p x
        · have f := f2h.out (by simp [hp])
          have fh := Lib.hid f
          clear f
          have hkiI : (ki : Int) < (n : Int) := by omega
          have g0 := hC2.line (j := ki) (x := L[ki]'(by rw [hL.out]; omega)) (by simp [hL.out])
          have g1 : ∀ i, w2.frozen? ⟨b, i, none⟩ = false := fun i => (hK2.froz i).trans (hfz i)
          have hset := set2_line hC2 (i := ki) (by rw [hL.out]; omega) x
          have hKs := hK2.set2 (off + ki * 2) x
          obtain ⟨g2, g3⟩ := g0
          go_wp2_with fail
          case' roundEnd =>
            refine ⟨⟨ki + 1, kj + 1, L.set ki x, by go_num, by go_num, by omega, by omega, by rw [Hid, List.length_set]; exact hL.out, fh.out.1, fh.out.2, hset, hKs⟩, ?_⟩
            simp [intOf]
            omega
        · have f := f1h.out (by simp [hp])
          have fh := Lib.hid f
          clear f
          go_wp2_with fail
          case' roundEnd =>
            refine ⟨⟨ki, kj + 1, L, rfl, by go_num, by omega, by omega, hL, fh.out.1, fh.out.2, hC2, hK2⟩, ?_⟩
            simp [intOf]
            omega
      · have hkj : kj = n := by omega
        subst hkj
        have hge : ¬ (kj : Int) < (kj : Int) := by omega
        have hkiI : (ki : Int) ≤ (kj : Int) := by omega
        have hne : ¬ cap = ki := by omega
        have hkc : ki ≤ cap := by omega
        have hkcI : (ki : Int) ≤ (cap : Int) := by omega
        have hTl : L.take ki = l.filter (fun x => !p x) := by rw [hT.out, List.take_of_length_le (by rw [hNh.out]; omega)]
        have hlen : (l.filter (fun x => !p x)).length = ki := by rw [← hTl, List.length_take, hL.out]; omega
        have hcl : ∀ ty, (Builtin.clear_ #[132] ty #[.slice (some ⟨b, off + ki * 2, none⟩) (kj - ki) (cap - ki)]).run Tryz.prog wr = .ok (.tuple #[]) (wr.setCells b (off + ki * 2) (List.replicate ((kj - ki) * 2) (.int .i64 0))) := fun ty =>
          run_clear_lines wr ty zero_Line b (off + ki * 2) (kj - ki) (cap - ki) (by omega) (fun j hj => by rw [show off + ki * 2 + j = off + (ki * 2 + j) by omega, hC (ki * 2 + j) (by rw [flat2_len, hL.out]; omega)]; rfl) hfz1
        have hCk : CellsAt wr b off (flat2 (L.take ki)) := by
          refine CellsAt.of_lines fun j x hx => ?_
          have hj : j < ki := by
            rcases Nat.lt_or_ge j ki with h | h
            · exact h
            · rw [List.getElem?_eq_none (by rw [List.length_take]; omega)] at hx; cases hx
          rw [List.getElem?_take_of_lt hj] at hx
          exact hC.line hx
        rw [hTl] at hCk
        have hCe := hCk.clear (k := ki * 2) (vs := List.replicate ((kj - ki) * 2) (.int .i64 0)) (by rw [flat2_len, hlen]; omega)
        have hKe := hK.setCells (List.replicate ((kj - ki) * 2) (.int .i64 0)) (off + ki * 2)
        have hlh := Lib.hid hlen
        clear hlen hTl
        go_wp2_with fail
        go_ret
        exact ⟨by rw [hlh.out]; rfl, hCe, hKe⟩
end Go.Proofs.YtnalblnmplnhmaaGreat
