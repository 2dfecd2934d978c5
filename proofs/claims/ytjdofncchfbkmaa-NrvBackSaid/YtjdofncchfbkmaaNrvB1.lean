/-
  The law NrvBack: its numbers by name: n, each price, what is written down behind each; the state as data. Each round's two calls are known calls; the law's run knows no more than them.
-/
import Derived.Test.YtjdofncchfbkmaaCalls
import Derived.Test.YtjdofncchfbkmaaNrv1
import Derived.Test.YtjdofncchfbkmaaNrvAwake
set_option linter.unusedVariables false
set_option linter.unusedSimpArgs false
namespace Go.Proofs.Ytjdofncchfbkmaa
open Go.RowKit Mc

/-- The state: so much is written down, at that price. -/
abbrev nbS (d m p : AV) : AV := (.agg [(.c (.int .i64 2)), (.c (.int .i64 3)), (.lit 1 [[(.c (.int .i64 1))], [(.c (.int .i64 2))], [(.c (.int .i64 3))], [(.c (.int .i64 0))]]), (.lit 1 [[(.lit 1 [[(.c (.int .i64 1))], [(.c (.int .i64 2))], [(.c (.int .i64 3))], [(.c (.int .i64 4))]])], [(.lit 1 [[(.c (.int .i64 1))], [(.c (.int .i64 2))], [(.c (.int .i64 3))], [(.c (.int .i64 4))]])]]), (.lit 1 [[(.lit 1 [[(.c (.int .i64 10))], [(.c (.int .i64 10))], [(.c (.int .i64 10))], [(.c (.int .i64 10))]])], [(.lit 1 [[(.c (.int .i64 10))], [(.c (.int .i64 10))], [(.c (.int .i64 10))], [(.c (.int .i64 10))]])]]), (.lit 8 [[(.c (.int .i64 1)), (.c (.bool false)), (.lit 4 [[(.lit 3 [[(.e [([1], 1)]), (.e [([1], 10)]), (.c (.int .i64 0))]]), (.c (.int .i64 0)), (.c (.int .i64 0)), (.c (.int .i64 0))], [.emp, (.c (.int .i64 0)), (.c (.int .i64 0)), (.c (.int .i64 0))], [.emp, (.c (.int .i64 0)), (.c (.int .i64 0)), (.c (.int .i64 0))], [.emp, (.c (.int .i64 0)), (.c (.int .i64 0)), (.c (.int .i64 0))], [.emp, (.c (.int .i64 0)), (.c (.int .i64 0)), (.c (.int .i64 0))], [.emp, (.c (.int .i64 0)), (.c (.int .i64 0)), (.c (.int .i64 0))], [.emp, (.c (.int .i64 0)), (.c (.int .i64 0)), (.c (.int .i64 0))], [.emp, (.c (.int .i64 0)), (.c (.int .i64 0)), (.c (.int .i64 0))]]), (.lit 1 [[(.e [([1], 10)])], [(.e [([1], (-10))])], [(.c (.int .i64 0))], [(.c (.int .i64 0))], [(.c (.int .i64 0))], [(.c (.int .i64 0))], [(.c (.int .i64 0))], [(.c (.int .i64 0))], [(.c (.int .i64 0))], [(.c (.int .i64 0))], [d], [m], [(.c (.int .i64 0))], [(.c (.int .i64 0))], [(.c (.int .i64 0))], [(.c (.int .i64 0))], [(.c (.int .i64 0))]]), (.lit 11 [[(.c (.int .i64 0)), (.e [([1], 10)]), (.c (.int .i64 0)), (.c (.int .i64 0)), (.c (.int .i64 0)), (.c (.int .i64 0)), (.c (.int .i64 0)), (.c (.int .i64 0)), (.c (.int .i64 0)), (.c (.int .i64 0)), (.c (.int .i64 0))], [(.c (.int .i64 0)), (.c (.int .i64 0)), (.c (.int .i64 0)), (.c (.int .i64 0)), (.c (.int .i64 0)), (.c (.int .i64 0)), (.c (.int .i64 0)), (.c (.int .i64 0)), (.c (.int .i64 0)), (.c (.int .i64 0)), (.c (.int .i64 0))], [(.c (.int .i64 0)), (.c (.int .i64 0)), (.c (.int .i64 0)), (.c (.int .i64 0)), (.c (.int .i64 0)), (.c (.int .i64 0)), (.c (.int .i64 0)), (.c (.int .i64 0)), (.c (.int .i64 0)), (.c (.int .i64 0)), (.c (.int .i64 0))], [(.c (.int .i64 0)), (.c (.int .i64 0)), (.c (.int .i64 0)), (.c (.int .i64 0)), (.c (.int .i64 0)), (.c (.int .i64 0)), (.c (.int .i64 0)), (.c (.int .i64 0)), (.c (.int .i64 0)), (.c (.int .i64 0)), (.c (.int .i64 0))]]), (.lit 1 [[p], [(.c (.int .i64 (-1)))], [(.c (.int .i64 (-1)))], [(.c (.int .i64 (-1)))]]), (.lit 1 [[d], [(.c (.int .i64 0))], [(.c (.int .i64 0))], [(.c (.int .i64 0))]]), .emp], [(.c (.int .i64 1)), (.c (.bool false)), (.lit 4 [[.emp, (.c (.int .i64 0)), (.c (.int .i64 0)), (.c (.int .i64 0))], [.emp, (.c (.int .i64 0)), (.c (.int .i64 0)), (.c (.int .i64 0))], [.emp, (.c (.int .i64 0)), (.c (.int .i64 0)), (.c (.int .i64 0))], [.emp, (.c (.int .i64 0)), (.c (.int .i64 0)), (.c (.int .i64 0))], [.emp, (.c (.int .i64 0)), (.c (.int .i64 0)), (.c (.int .i64 0))], [.emp, (.c (.int .i64 0)), (.c (.int .i64 0)), (.c (.int .i64 0))], [.emp, (.c (.int .i64 0)), (.c (.int .i64 0)), (.c (.int .i64 0))], [.emp, (.c (.int .i64 0)), (.c (.int .i64 0)), (.c (.int .i64 0))]]), (.lit 1 [[(.c (.int .i64 0))], [(.c (.int .i64 0))], [(.c (.int .i64 0))], [(.c (.int .i64 0))], [(.c (.int .i64 0))], [(.c (.int .i64 0))], [(.c (.int .i64 0))], [(.c (.int .i64 0))], [(.c (.int .i64 0))], [(.c (.int .i64 0))], [(.c (.int .i64 0))], [(.c (.int .i64 0))], [(.c (.int .i64 0))], [(.c (.int .i64 0))], [(.c (.int .i64 0))], [(.c (.int .i64 0))], [(.c (.int .i64 0))]]), (.lit 11 [[(.c (.int .i64 0)), (.c (.int .i64 0)), (.c (.int .i64 0)), (.c (.int .i64 0)), (.c (.int .i64 0)), (.c (.int .i64 0)), (.c (.int .i64 0)), (.c (.int .i64 0)), (.c (.int .i64 0)), (.c (.int .i64 0)), (.c (.int .i64 0))], [(.c (.int .i64 0)), (.c (.int .i64 0)), (.c (.int .i64 0)), (.c (.int .i64 0)), (.c (.int .i64 0)), (.c (.int .i64 0)), (.c (.int .i64 0)), (.c (.int .i64 0)), (.c (.int .i64 0)), (.c (.int .i64 0)), (.c (.int .i64 0))], [(.c (.int .i64 0)), (.c (.int .i64 0)), (.c (.int .i64 0)), (.c (.int .i64 0)), (.c (.int .i64 0)), (.c (.int .i64 0)), (.c (.int .i64 0)), (.c (.int .i64 0)), (.c (.int .i64 0)), (.c (.int .i64 0)), (.c (.int .i64 0))], [(.c (.int .i64 0)), (.c (.int .i64 0)), (.c (.int .i64 0)), (.c (.int .i64 0)), (.c (.int .i64 0)), (.c (.int .i64 0)), (.c (.int .i64 0)), (.c (.int .i64 0)), (.c (.int .i64 0)), (.c (.int .i64 0)), (.c (.int .i64 0))]]), (.lit 1 [[(.c (.int .i64 (-1)))], [(.c (.int .i64 (-1)))], [(.c (.int .i64 (-1)))], [(.c (.int .i64 (-1)))]]), (.lit 1 [[(.c (.int .i64 0))], [(.c (.int .i64 0))], [(.c (.int .i64 0))], [(.c (.int .i64 0))]]), .emp]]), (.lit 8 [[(.c (.int .i64 0)), (.c (.int .i64 0)), (.c (.int .i64 0)), (.e [([1], 1)]), (.e [([1], 10)]), (.e [([1], 1)]), (.e [([1], 10)]), (.c (.int .i64 0))]]), .emp, .emp, (.c (.int .i64 0))])
abbrev nbO (p : AV) : AV := .agg [.c (.int .i64 10), .c (.int .i64 0), .c (.int .i64 0), .c (.int .i64 0), .c (.int .i64 0), .c (.int .i64 0), p, .c (.int .i64 0), .emp]
def nbD : Nat → AV
  | 0 => .c (.int .i64 0)
  | i + 1 => .e (pvar (42 + i))
def nbM : Nat → AV
  | 0 => .c (.int .i64 0)
  | i + 1 => .e (pscale (-1) (pvar (42 + i)))
def nbP : Nat → AV
  | 0 => .c (.int .i64 10)
  | i + 1 => .e (pvar (22 + i))
/-- By how much more is written down. -/
def nbU : Nat → Poly
  | 0 => pvar 42
  | i + 1 => psub (pvar (43 + i)) (pvar (42 + i))
abbrev full : Int × Int := (-9223372036854775808, 9223372036854775807)
abbrev nbV : List (Int × Int) := full :: (1, 100) :: ((List.range 20).map (fun _ => full) ++ ((List.range 20).map (fun _ => (0, 19)) ++ ((List.range 20).map (fun _ => (0, 1000)) ++ [(21, 9223372036854775807)])))
abbrev nbXi (i : Nat) : List (Nat × List Poly × List Poly) := [(6, [pvar (2 + i), plit 20], [pvar (22 + i)]), (7, [pscale 10 (pvar 1), pvar 1, pvar (22 + i)], [pvar (42 + i)])]
abbrev nbX : List (Nat × List Poly × List Poly) := (6, [pvar 0, plit 100], [psub (pvar 1) (plit 1)]) :: (List.range 20).flatMap nbXi
abbrev nbDf : List (Nat × Poly × Poly × Poly) := (List.range 20).map fun i => (2, psub (pscale 10 (pvar 1)) (pmul (pvar 1) (pvar (22 + i))), [], pvar (42 + i))
abbrev nb0 : Bk := { vars := nbV, ext := nbX, defs := nbDf, yes := [9] }
abbrev nbF (i : Nat) (a b : Int) : Bk := { vars := nbV, facts := [(nbU i, a, b)], ext := nbX, defs := nbDf, yes := [9] }
abbrev nbKi (i : Nat) : List (Nat × List AV × AV) := [(11, [nbS (nbD i) (nbM i) (nbP i), nbO (nbP (i + 1))], .tup [nbS (nbD i) (nbM i) (nbP (i + 1)), .c (.int .i64 0)]),
  (12, [nbS (nbD i) (nbM i) (nbP (i + 1)), .c (.int .i64 0)], .tup [nbS (nbD (i + 1)) (nbM (i + 1)) (nbP (i + 1)), .c (.int .i64 0)])]
abbrev nbK : List (Nat × List AV × AV) := (10, [.c (.int .i64 0), .e (pvar 1), .e (pscale 10 (pvar 1)), .c (.int .i64 10)], nbS (nbD 0) (nbM 0) (nbP 0)) :: (List.range 20).flatMap nbKi
abbrev nb1 : Bk := { vars := nbV, ext := nbX, defs := nbDf, yes := [9], extV := nbK }
abbrev nbDo (i : Nat) : Prop := @runsTo nb0 Try.prog 100000 60 11 [nbS (nbD i) (nbM i) (nbP i), nbO (nbP (i + 1))] (.tup [nbS (nbD i) (nbM i) (nbP (i + 1)), .c (.int .i64 0)]) = true
abbrev nbMk (i : Nat) (a b : Int) : Prop := @runsTo (nbF i a b) Try.prog 100000 60 12 [nbS (nbD i) (nbM i) (nbP (i + 1)), .c (.int .i64 0)] (.tup [nbS (nbD (i + 1)) (nbM (i + 1)) (nbP (i + 1)), .c (.int .i64 0)]) = true
abbrev nbRow (m : Nat) : AV := .row (if m < 21 then plit m else pvar 62) ((List.range (min m 20)).map fun i => pvar (2 + i))
abbrev nbRun (m : Nat) : Prop := saysYes (@acallF nb1 Try.prog 100000 60 4 [.e (pvar 0), nbRow m] .leaf 0) = true

/-- The numbers. -/
abbrev nbZ (n p : Int) : Int := max (10 * n - n * p) 0
abbrev nbXs (q n N : Int) (x : Nat → Int) : List Int := q :: n :: ((List.range 20).map x ++ ((List.range 20).map (fun i => x i % 20) ++ ((List.range 20).map (fun i => nbZ n (x i % 20)) ++ [N])))
theorem lt20 {p : Nat → Prop} (h : p 0 ∧ p 1 ∧ p 2 ∧ p 3 ∧ p 4 ∧ p 5 ∧ p 6 ∧ p 7 ∧ p 8 ∧ p 9 ∧ p 10 ∧ p 11 ∧ p 12 ∧ p 13 ∧ p 14 ∧ p 15 ∧ p 16 ∧ p 17 ∧ p 18 ∧ p 19) : ∀ i, i < 20 → p i := by
  intro i hi
  obtain ⟨h0, h1, h2, h3, h4, h5, h6, h7, h8, h9, h10, h11, h12, h13, h14, h15, h16, h17, h18, h19⟩ := h
  have : i = 0 ∨ i = 1 ∨ i = 2 ∨ i = 3 ∨ i = 4 ∨ i = 5 ∨ i = 6 ∨ i = 7 ∨ i = 8 ∨ i = 9 ∨ i = 10 ∨ i = 11 ∨ i = 12 ∨ i = 13 ∨ i = 14 ∨ i = 15 ∨ i = 16 ∨ i = 17 ∨ i = 18 ∨ i = 19 := by omega
  rcases this with rfl | rfl | rfl | rfl | rfl | rfl | rfl | rfl | rfl | rfl | rfl | rfl | rfl | rfl | rfl | rfl | rfl | rfl | rfl | rfl <;> assumption
theorem nbXs_x (q n N : Int) (x : Nat → Int) : ∀ i, i < 20 → (nbXs q n N x).getD (2 + i) 0 = x i := lt20 ⟨rfl, rfl, rfl, rfl, rfl, rfl, rfl, rfl, rfl, rfl, rfl, rfl, rfl, rfl, rfl, rfl, rfl, rfl, rfl, rfl⟩
theorem nbXs_p (q n N : Int) (x : Nat → Int) : ∀ i, i < 20 → (nbXs q n N x).getD (22 + i) 0 = x i % 20 := lt20 ⟨rfl, rfl, rfl, rfl, rfl, rfl, rfl, rfl, rfl, rfl, rfl, rfl, rfl, rfl, rfl, rfl, rfl, rfl, rfl, rfl⟩
theorem nbXs_d (q n N : Int) (x : Nat → Int) : ∀ i, i < 20 → (nbXs q n N x).getD (42 + i) 0 = nbZ n (x i % 20) := lt20 ⟨rfl, rfl, rfl, rfl, rfl, rfl, rfl, rfl, rfl, rfl, rfl, rfl, rfl, rfl, rfl, rfl, rfl, rfl, rfl, rfl⟩

theorem BndL.app {l m : List (Int × Int)} {xs ys : List Int} (h : BndL l xs) (k : BndL m ys) : BndL (l ++ m) (xs ++ ys) := by
  induction h with
  | nil => exact k
  | cons h1 h2 _ ih => exact .cons h1 h2 ih
theorem BndL.map {a b : Int} {f : Nat → Int} (l : List Nat) (h : ∀ i ∈ l, a ≤ f i ∧ f i ≤ b) : BndL (l.map fun _ => (a, b)) (l.map f) := by
  induction l with
  | nil => exact .nil
  | cons i l ih => exact .cons (h i List.mem_cons_self).1 (h i List.mem_cons_self).2 (ih fun j hj => h j (List.mem_cons_of_mem _ hj))
theorem MaxL.map {ρ : Nat → Int} {p q r : Nat → Poly} (l : List Nat) (h : ∀ i ∈ l, pev ρ (r i) = max (pev ρ (p i)) (pev ρ (q i))) : MaxL ρ (l.map fun i => (2, p i, q i, r i)) := by
  induction l with
  | nil => exact .nil
  | cons i l ih => exact .cons (h i List.mem_cons_self) (ih fun j hj => h j (List.mem_cons_of_mem _ hj))
theorem ExtL.app [Bk] [Ev] {P : Program} {l m : List (Nat × List Poly × List Poly)} (h : ExtL P l) (k : ExtL P m) : ExtL P (l ++ m) := fun a b c hm => (List.mem_append.1 hm).elim (h a b c) (k a b c)
theorem ExtL.flat [Bk] [Ev] {P : Program} {f : Nat → List (Nat × List Poly × List Poly)} (l : List Nat) (h : ∀ i ∈ l, ExtL P (f i)) : ExtL P (l.flatMap f) := fun a b c hm => by
  obtain ⟨i, hi, hm⟩ := List.mem_flatMap.1 hm
  exact h i hi a b c hm
theorem KnL.flat [Bk] [Ev] {P : Program} {f : Nat → List (Nat × List AV × AV)} (l : List Nat) (h : ∀ i ∈ l, KnL P (f i)) : KnL P (l.flatMap f) := fun a b c hm => by
  obtain ⟨i, hi, hm⟩ := List.mem_flatMap.1 hm
  exact h i hi a b c hm

theorem nbZ_bd {n p : Int} (h1 : 1 ≤ n) (h2 : n ≤ 100) (h3 : 0 ≤ p) : 0 ≤ nbZ n p ∧ nbZ n p ≤ 1000 := by
  have : 0 ≤ n * p := Int.mul_nonneg (by omega) h3
  unfold nbZ
  generalize n * p = np at *
  omega
theorem nbBnd {q n N : Int} {x : Nat → Int} (hq : I64 q) (hn : 1 ≤ n) (hn' : n ≤ 100) (hN : 21 ≤ N) (hN' : N ≤ 9223372036854775807) (hx : ∀ i, I64 (x i)) : BndL nbV (nbXs q n N x) := by
  refine .cons hq.lo (by have := hq.hi; omega) (.cons hn hn' (BndL.app (BndL.map _ fun i _ => ⟨(hx i).lo, by have := (hx i).hi; omega⟩) (BndL.app (BndL.map _ fun i _ => ⟨by omega, by omega⟩) (BndL.app (BndL.map _ fun i _ => nbZ_bd hn hn' (by omega)) (.cons hN hN' .nil)))))
theorem nbMax (q n N : Int) (x : Nat → Int) : MaxL (fun i => (nbXs q n N x).getD i 0) nbDf := by
  refine MaxL.map _ fun i hi => ?_
  have hi : i < 20 := List.mem_range.1 hi
  rw [pev_pvar, pev_psub, pev_pscale, pev_pmul, pev_pvar, pev_pvar, nbXs_d _ _ _ _ i hi, nbXs_p _ _ _ _ i hi]
  rfl
/-- What the books' numbers are. -/
structure NbE [Bk] [Ev] (q n : Int) (x : Nat → Int) : Prop where
  q0 : pev Ev.rho (pvar 0) = q
  n0 : pev Ev.rho (pvar 1) = n
  x0 : ∀ i, i < 20 → pev Ev.rho (pvar (2 + i)) = x i
  p0 : ∀ i, i < 20 → pev Ev.rho (pvar (22 + i)) = x i % 20
  d0 : ∀ i, i < 20 → pev Ev.rho (pvar (42 + i)) = nbZ n (x i % 20)
theorem nbX_ok [Bk] [Ev] {q n : Int} {x : Nat → Int} (h : NbE q n x) (hn : q % 100 + 1 = n) : ExtL Try.prog nbX := by
  refine .cons (ext_int fun w => ?_) (ExtL.flat _ fun i hi => ?_)
  · simp only [List.map_cons, List.map_nil, h.q0, h.n0, pev_plit, pev_psub, ← hn, Int.add_sub_cancel]
    exact place_b q 100 w (by omega) (by omega)
  · have hi : i < 20 := List.mem_range.1 hi
    refine .cons (ext_int fun w => ?_) (.cons (ext_int fun w => ?_) .nil)
    · simp only [List.map_cons, List.map_nil, h.x0 i hi, h.p0 i hi, pev_plit]
      exact place_b (x i) 20 w (by omega) (by omega)
    · simp only [List.map_cons, List.map_nil, h.n0, h.p0 i hi, h.d0 i hi, pev_pscale]
      have hp0 : 0 ≤ x i % 20 := by omega
      have hp1 : x i % 20 < 20 := by omega
      have hn1 : 1 ≤ n ∧ n ≤ 100 := by omega
      have e : tgtS (10 * n) n (x i % 20) = nbZ n (x i % 20) := by
        have : 0 ≤ n * (x i % 20) := Int.mul_nonneg (by omega) hp0
        unfold tgtS nbZ
        rw [if_neg (by omega)]
        generalize n * (x i % 20) = np at *
        split <;> omega
      exact e ▸ nrv_Target _ _ _ w ⟨by omega, by omega⟩ ⟨by omega, by omega⟩ ⟨by omega, by omega⟩
end Go.Proofs.Ytjdofncchfbkmaa
