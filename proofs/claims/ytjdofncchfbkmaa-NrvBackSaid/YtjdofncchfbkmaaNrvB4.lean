/-
  The law NrvBack, of all numbers.
-/
import Derived.Test.YtjdofncchfbkmaaNrvB20
import Derived.Test.YtjdofncchfbkmaaNrvB21
import Derived.Test.YtjdofncchfbkmaaNrvB22
import Derived.Test.YtjdofncchfbkmaaNrvB23
import Derived.Test.YtjdofncchfbkmaaNrvB30
import Derived.Test.YtjdofncchfbkmaaNrvB31
import Derived.Test.YtjdofncchfbkmaaNrvB32
import Derived.Test.YtjdofncchfbkmaaNrvB33
set_option linter.unusedVariables false
set_option linter.unusedSimpArgs false
namespace Go.Proofs.Ytjdofncchfbkmaa
open Go.RowKit Mc

theorem nb_do : ∀ i, i < 20 → nbDo i := lt20 ⟨nb_do0, nb_do1, nb_do2, nb_do3, nb_do4, nb_do5, nb_do6, nb_do7, nb_do8, nb_do9, nb_do10, nb_do11, nb_do12, nb_do13, nb_do14, nb_do15, nb_do16, nb_do17, nb_do18, nb_do19⟩
theorem nb_ma : ∀ i, i < 20 → nbMk i 0 0 := lt20 ⟨nb_ma0, nb_ma1, nb_ma2, nb_ma3, nb_ma4, nb_ma5, nb_ma6, nb_ma7, nb_ma8, nb_ma9, nb_ma10, nb_ma11, nb_ma12, nb_ma13, nb_ma14, nb_ma15, nb_ma16, nb_ma17, nb_ma18, nb_ma19⟩
theorem nb_mb : ∀ i, i < 20 → nbMk i 1 1000 := lt20 ⟨nb_mb0, nb_mb1, nb_mb2, nb_mb3, nb_mb4, nb_mb5, nb_mb6, nb_mb7, nb_mb8, nb_mb9, nb_mb10, nb_mb11, nb_mb12, nb_mb13, nb_mb14, nb_mb15, nb_mb16, nb_mb17, nb_mb18, nb_mb19⟩
theorem nb_mc : ∀ i, i < 20 → i = 0 ∨ nbMk i (-1000) (-1) := lt20 ⟨.inl rfl, .inr nb_mc1, .inr nb_mc2, .inr nb_mc3, .inr nb_mc4, .inr nb_mc5, .inr nb_mc6, .inr nb_mc7, .inr nb_mc8, .inr nb_mc9, .inr nb_mc10, .inr nb_mc11, .inr nb_mc12, .inr nb_mc13, .inr nb_mc14, .inr nb_mc15, .inr nb_mc16, .inr nb_mc17, .inr nb_mc18, .inr nb_mc19⟩
theorem nb_run : ∀ m, m < 20 → nbRun m := lt20 ⟨nb_run0, nb_run1, nb_run2, nb_run3, nb_run4, nb_run5, nb_run6, nb_run7, nb_run8, nb_run9, nb_run10, nb_run11, nb_run12, nb_run13, nb_run14, nb_run15, nb_run16, nb_run17, nb_run18, nb_run19⟩

theorem nbU_bd {q n : Int} (N : Int) (x : Nat → Int) (hn : q % 100 + 1 = n) (i : Nat) (hi : i < 20) : (i = 0 → 0 ≤ pev (fun i => (nbXs q n N x).getD i 0) (nbU i)) ∧ -1000 ≤ pev (fun i => (nbXs q n N x).getD i 0) (nbU i) ∧ pev (fun i => (nbXs q n N x).getD i 0) (nbU i) ≤ 1000 := by
  have hz : ∀ j, j < 20 → 0 ≤ (nbXs q n N x).getD (42 + j) 0 ∧ (nbXs q n N x).getD (42 + j) 0 ≤ 1000 := fun j hj => by
    rw [nbXs_d q n N x j hj]; exact nbZ_bd (by omega) (by omega) (by omega)
  cases i with
  | zero =>
    unfold nbU
    rw [pev_pvar]
    have := hz 0 (by omega)
    rw [show 42 + 0 = 42 from rfl] at this
    exact ⟨fun _ => this.1, by omega, this.2⟩
  | succ i =>
    unfold nbU
    rw [pev_psub, pev_pvar, pev_pvar]
    have h1 := hz i (by omega)
    have h2 := hz (i + 1) (by omega)
    rw [show 42 + (i + 1) = 43 + i by omega] at h2
    exact ⟨fun h => by omega, by omega, by omega⟩
section
variable {q n N : Int} {x : Nat → Int} (hq : I64 q) (hn : q % 100 + 1 = n) (hN : 21 ≤ N) (hN' : N ≤ 9223372036854775807) (hx : ∀ i, I64 (x i))
include hq hn hN hN' hx
theorem nbBnd' : BndL nbV (nbXs q n N x) := nbBnd hq (by omega) (by omega) hN hN' hx
abbrev nbE0 : @Ev nb0 := evMax nb0 (nbXs q n N x) (nbMax q n N x) (nbBnd' hq hn hN hN' hx) .nil
abbrev nbE1 : @Ev nb1 := evMax nb1 (nbXs q n N x) (nbMax q n N x) (nbBnd' hq hn hN hN' hx) .nil
abbrev nbEF (i : Nat) (a b : Int) (h1 : a ≤ pev (fun i => (nbXs q n N x).getD i 0) (nbU i)) (h2 : pev (fun i => (nbXs q n N x).getD i 0) (nbU i) ≤ b) : @Ev (nbF i a b) := evMax (nbF i a b) (nbXs q n N x) (nbMax q n N x) (nbBnd' hq hn hN hN' hx) (.cons h1 h2 .nil)
theorem nb_E0 : @NbE nb0 (nbE0 hq hn hN hN' hx) q n x := @NbE.mk nb0 (nbE0 hq hn hN hN' hx) q n x (pev_pvar 0) (pev_pvar 1) (fun i hi => (pev_pvar _).trans (nbXs_x q n N x i hi)) (fun i hi => (pev_pvar _).trans (nbXs_p q n N x i hi)) (fun i hi => (pev_pvar _).trans (nbXs_d q n N x i hi))
theorem nb_E1 : @NbE nb1 (nbE1 hq hn hN hN' hx) q n x := @NbE.mk nb1 (nbE1 hq hn hN hN' hx) q n x (pev_pvar 0) (pev_pvar 1) (fun i hi => (pev_pvar _).trans (nbXs_x q n N x i hi)) (fun i hi => (pev_pvar _).trans (nbXs_p q n N x i hi)) (fun i hi => (pev_pvar _).trans (nbXs_d q n N x i hi))
theorem nb_EF (i : Nat) (a b : Int) (h1 : a ≤ pev (fun i => (nbXs q n N x).getD i 0) (nbU i)) (h2 : pev (fun i => (nbXs q n N x).getD i 0) (nbU i) ≤ b) : @NbE (nbF i a b) (nbEF hq hn hN hN' hx i a b h1 h2) q n x := @NbE.mk (nbF i a b) (nbEF hq hn hN hN' hx i a b h1 h2) q n x (pev_pvar 0) (pev_pvar 1) (fun i hi => (pev_pvar _).trans (nbXs_x q n N x i hi)) (fun i hi => (pev_pvar _).trans (nbXs_p q n N x i hi)) (fun i hi => (pev_pvar _).trans (nbXs_d q n N x i hi))
theorem nb_known : @KnL nb1 (nbE1 hq hn hN hN' hx) Try.prog nbK := by
  have y0 : @YesL nb0 (nbE0 hq hn hN hN' hx) Try.prog [9] := @YesL.cons _ nb0 (nbE0 hq hn hN hN' hx) _ _ nrv_awake (@YesL.nil _ nb0 (nbE0 hq hn hN hN' hx))
  have k0 : @KnL nb0 (nbE0 hq hn hN hN' hx) Try.prog [] := @KnL.nil _ nb0 (nbE0 hq hn hN hN' hx)
  have x0 : @ExtL nb0 (nbE0 hq hn hN hN' hx) Try.prog nbX := @nbX_ok nb0 (nbE0 hq hn hN hN' hx) q n x (nb_E0 hq hn hN hN' hx) hn
  refine @KnL.cons _ nb1 (nbE1 hq hn hN hN' hx) _ _ _ _ (kn_of nb0 (nbE0 hq hn hN hN' hx) nb1 (nbE1 hq hn hN hN' hx) rfl nb_st x0 y0 k0) (@KnL.flat nb1 (nbE1 hq hn hN hN' hx) _ _ _ fun i hi => ?_)
  have hi : i < 20 := List.mem_range.1 hi
  have mark : ∀ a b : Int, a ≤ pev (fun i => (nbXs q n N x).getD i 0) (nbU i) → pev (fun i => (nbXs q n N x).getD i 0) (nbU i) ≤ b → nbMk i a b → @KnOk nb1 (nbE1 hq hn hN hN' hx) Try.prog 12 [nbS (nbD i) (nbM i) (nbP (i + 1)), .c (.int .i64 0)] (.tup [nbS (nbD (i + 1)) (nbM (i + 1)) (nbP (i + 1)), .c (.int .i64 0)]) := by
    intro a b h1 h2 hm
    exact kn_of (nbF i a b) (nbEF hq hn hN hN' hx i a b h1 h2) nb1 (nbE1 hq hn hN hN' hx) rfl hm (@nbX_ok (nbF i a b) (nbEF hq hn hN hN' hx i a b h1 h2) q n x (nb_EF hq hn hN hN' hx i a b h1 h2) hn)
      (@YesL.cons _ (nbF i a b) (nbEF hq hn hN hN' hx i a b h1 h2) _ _ nrv_awake (@YesL.nil _ (nbF i a b) (nbEF hq hn hN hN' hx i a b h1 h2))) (@KnL.nil _ (nbF i a b) (nbEF hq hn hN hN' hx i a b h1 h2))
  refine @KnL.cons _ nb1 (nbE1 hq hn hN hN' hx) _ _ _ _ (kn_of nb0 (nbE0 hq hn hN hN' hx) nb1 (nbE1 hq hn hN hN' hx) rfl (nb_do i hi) x0 y0 k0) (@KnL.cons _ nb1 (nbE1 hq hn hN hN' hx) _ _ _ _ ?_ (@KnL.nil _ nb1 (nbE1 hq hn hN hN' hx)))
  obtain ⟨b0, b1, b2⟩ := nbU_bd N x hn i hi
  by_cases h0 : pev (fun i => (nbXs q n N x).getD i 0) (nbU i) = 0
  · exact mark 0 0 (by omega) (by omega) (nb_ma i hi)
  · by_cases h1 : 0 < pev (fun i => (nbXs q n N x).getD i 0) (nbU i)
    · exact mark 1 1000 (by omega) b2 (nb_mb i hi)
    · rcases nb_mc i hi with e | hm
      · have := b0 e; omega
      · exact mark (-1000) (-1) b1 (by omega) hm
end

theorem NrvBack_walk (q : Int) (a : Option Addr) (n cap : Nat) (zs : List Int) (w : World) (hq : I64 q) (h : Row w 1 a n cap zs) :
    Calls Try.prog 4 #[.int .i64 q, .slice a n cap] w fun e w' => e = .returned (.bool true) ∧ Below w.heap.size w w' := by
  obtain ⟨hlen, hcap, hmax, hall, hat⟩ := h
  unfold maxLen at hmax
  obtain ⟨x, hxe⟩ : ∃ x : Nat → Int, x = fun i => zs.getD i 0 := ⟨_, rfl⟩
  have hx : ∀ i, I64 (x i) := by
    intro i
    rw [hxe]
    show I64 (zs.getD i 0)
    rcases Nat.lt_or_ge i zs.length with hi | hi
    · have e : zs.getD i 0 = zs[i] := by simp [hi]
      rw [e]; exact hall _ (List.getElem_mem hi)
    · have e : zs.getD i 0 = 0 := by simp [List.getElem?_eq_none hi]
      rw [e]; exact ⟨by omega, by omega⟩
  obtain ⟨N, hNe⟩ : ∃ N : Int, N = max 21 n := ⟨_, rfl⟩
  have hN : 21 ≤ N := by omega
  have hN' : N ≤ 9223372036854775807 := by omega
  obtain ⟨k, hn⟩ : ∃ k, q % 100 + 1 = k := ⟨_, rfl⟩
  have run : nbRun (min n 21) := by
    by_cases h20 : n < 20
    · rw [Nat.min_eq_left (by omega)]; exact nb_run n h20
    · by_cases h21 : n = 20
      · subst h21; exact nb_run20
      · rw [Nat.min_eq_right (by omega)]; exact nb_run21
  have E1 := nb_E1 hq hn hN hN' hx
  have hrow : @RdL nb1 (nbE1 hq hn hN hN' hx) (fun _ => False) w (nbRow (min n 21)) (.slice a n cap) := by
    have hNn : pev (@Ev.rho nb1 (nbE1 hq hn hN hN' hx)) (if min n 21 < 21 then plit (min n 21 : Nat) else pvar 62) = n := by
      by_cases h20 : n < 21
      · rw [Nat.min_eq_left (by omega), if_pos h20, pev_plit]
      · rw [Nat.min_eq_right (by omega), if_neg (by omega), pev_pvar]
        show N = n
        omega
    rcases hat with h0 | ⟨b, off, rfl, hb, hc⟩
    · subst h0
      exact @RdL.row0 nb1 (nbE1 hq hn hN hN' hx) _ _ _ _ _ _ hNn
    · refine @RdL.row nb1 (nbE1 hq hn hN hN' hx) _ _ _ _ b off n cap hNn hcap (fun h => h) hb ?_
      intro j p hp hj
      rw [List.getElem?_map] at hp
      cases hr : (List.range (min (min n 21) 20))[j]? with
      | none => rw [hr] at hp; cases hp
      | some j' =>
        rw [hr] at hp
        cases hp
        obtain ⟨hj', e⟩ := List.getElem?_eq_some_iff.1 hr
        rw [List.getElem_range] at e
        subst e
        rw [List.length_range] at hj'
        rw [@NbE.x0 nb1 (nbE1 hq hn hN hN' hx) q k x E1 j (by omega), hxe]
        exact hc j (by omega)
  have r0 := @NbE.q0 nb1 (nbE1 hq hn hN hN' hx) q k x E1
  exact yes_by nb1 (nbE1 hq hn hN hN' hx) run (@nbX_ok nb1 (nbE1 hq hn hN hN' hx) q k x E1 hn) (@YesL.cons _ nb1 (nbE1 hq hn hN hN' hx) _ _ nrv_awake (@YesL.nil _ nb1 (nbE1 hq hn hN hN' hx))) (nb_known hq hn hN hN' hx) [.int .i64 q, .slice a n cap] rfl w
    (@ArgL.cons nb1 (nbE1 hq hn hN hN' hx) _ _ _ _ _ (@RdL.var nb1 (nbE1 hq hn hN hN' hx) _ _ _ _ r0) (@ArgL.cons nb1 (nbE1 hq hn hN hN' hx) _ _ _ _ _ hrow (@ArgL.nil nb1 (nbE1 hq hn hN hN' hx) _)))
end Go.Proofs.Ytjdofncchfbkmaa
