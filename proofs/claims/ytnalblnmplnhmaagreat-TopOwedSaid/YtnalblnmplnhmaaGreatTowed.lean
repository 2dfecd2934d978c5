/-
  TopOwed: what is kept from head to head; the steps keep it; the law.
-/
import Derived.Test.YtnalblnmplnhmaaGreatPowedlaw
import Derived.Test.YtnalblnmplnhmaaGreatPostLaw
import Derived.Test.YtnalblnmplnhmaaGreatPat
import Derived.Test.YtnalblnmplnhmaaGreatSteady
set_option linter.unusedVariables false
set_option linter.unusedSimpArgs false
namespace Go.Proofs.YtnalblnmplnhmaaGreat
open Go.RowKit Mc

/-- stock.Post on a state of one entity and one item. -/
theorem ck_post1 {m c d : Int} {pools : List PoolD} {b r : List Int} {rc : List RcD} {sa : List SaD} {l : List Lin} (hb : b.length = 17) (hB : ∀ a : Nat, a < 17 → -144115188075855872 ≤ b.getD a 0 ∧ b.getD a 0 ≤ 144115188075855872) (h : Small l) (hs : (amts l).sum = 0) :
    CK Tryz.prog 67 [oneA m c pools (intsR b) r (rcsR rc) (sasR sa) d, .i 0, .lit 2 (linsR l)] (.tup [oneA m c pools (intsR (adds b l)) r (rcsR rc) (sasR sa) d, .i 0]) :=
  ck_PostOk (S := oneS m c pools b r rc sa d) (e := 0) (x := { now := 1, closed := false, pools := pools, bal := b, rolls := [r], prices := [-1], down := [0], ahead := [] }) (by simp [oneS]) (by omega) rfl hb hB h hs
theorem adds_len (b : List Int) (l : List Lin) : (adds b l).length = 17 := by simp [adds]
theorem adds_get (b : List Int) (l : List Lin) {k : Nat} (hk : k < 17) : (adds b l).getD k 0 = b.getD k 0 + vtot l k := by
  unfold adds
  rw [List.getD, List.getElem?_map, List.getElem?_range hk]; rfl
theorem some_of {b : List Int} {k : Nat} {v : Int} (hk : k < b.length) (h : b.getD k 0 = v) : b[k]? = some v := by
  rw [List.getD, List.getElem?_eq_getElem hk] at h
  rw [List.getElem?_eq_getElem hk, ← h]; rfl
theorem list11 {l : List Int} (h : l.length = 11) : ∃ r0 r1 r2 r3 r4 r5 r6 r7 r8 r9 r10, l = [r0, r1, r2, r3, r4, r5, r6, r7, r8, r9, r10] := by
  match l, h with
  | [r0, r1, r2, r3, r4, r5, r6, r7, r8, r9, r10], _ => exact ⟨_, _, _, _, _, _, _, _, _, _, _, rfl⟩
/-- Layers that came, each small. -/
def Came (L : List Lay) : Prop := ∀ x ∈ L, 1 ≤ x.q ∧ x.q ≤ 20 ∧ 0 ≤ x.v ∧ x.v ≤ 899 ∧ x.p = 0
theorem came_sums : ∀ {L : List Lay}, Came L → 0 ≤ qs L ∧ qs L ≤ 20 * L.length ∧ 0 ≤ vs L ∧ vs L ≤ 899 * L.length ∧ ps L = 0 ∧ aps L = 0
  | [], _ => by simp [qs, vs, ps, aps, absum]
  | x :: L, h => by
    have ih := came_sums (L := L) fun y hy => h y (List.mem_cons_of_mem _ hy)
    have hx := h x List.mem_cons_self
    have e : aps (x :: L) = max x.p (-x.p) + aps L := by unfold aps; rw [List.map_cons, absum_cons]
    rw [qs_cons, vs_cons, ps_cons, e, List.length_cons]
    omega
theorem came_LR {L : List Lay} (h : Came L) (hl : L.length ≤ 30) : LR L := by
  have := came_sums h
  exact ⟨hl, fun x hx => layOk_iff.2 (by have := h x hx; omega), by omega, by omega, by omega⟩
theorem came_sw : ∀ {L : List Lay}, Came L → ∀ v ∈ sw L, v = 0 := by
  intro L h v hv
  obtain ⟨x, hx, rfl⟩ := List.mem_map.1 hv
  have := h x hx
  omega
theorem sum_zeros : ∀ {l : List Int}, (∀ v ∈ l, v = 0) → sumGo 0 l = some 0
  | [], _ => rfl
  | v :: l, h => by
    have hv : v = 0 := h v List.mem_cons_self
    subst hv
    unfold sumGo
    have : addOk 0 0 = true := by decide +kernel
    rw [if_pos this]
    exact sum_zeros fun y hy => h y (List.mem_cons_of_mem _ hy)
theorem ck_steady1 {m c d : Int} {L : List Lay} {b r : List Int} {rc : List RcD} {sa : List SaD} (h : Came L) (hl : L.length ≤ 30) : CK Tryz.prog 160 [oneA m c [⟨L, 0, 0, 0⟩, ⟨[], 0, 0, 0⟩] (intsR b) r (rcsR rc) (sasR sa) d, .i 0, .i 0] (.c (.bool true)) := by
  have hz : ∀ v ∈ sw L ++ sw [], v = 0 := by
    intro v hv
    simp only [sw, List.map_nil, List.append_nil] at hv
    exact came_sw h v hv
  have hS := ck_Sum (sw L ++ sw []) (fun v hv => by rw [hz v hv]; exact ⟨by omega, by omega⟩)
  have e := sumV_some (sum_zeros hz)
  rw [e.1, e.2] at hS
  exact Steady.walk (S := oneS m c [⟨L, 0, 0, 0⟩, ⟨[], 0, 0, 0⟩] b r rc sa d) (e := 0) (item := 0) (p0 := ⟨L, 0, 0, 0⟩) (p1 := ⟨[], 0, 0, 0⟩) (n := 0) (f := 0) ⟨by omega, by omega⟩ ⟨by omega, by omega⟩ (At_one0 (cl_rcs _) (cl_sas _) hl (by simp)) (At_one1 (cl_rcs _) (cl_sas _) hl (by simp)) (came_LR h hl) (came_LR (L := []) (fun x hx => absurd hx List.not_mem_nil) (by simp)) hS (.inl rfl)
theorem ck_part1 {v q n : Int} (hv : 0 ≤ v) (hv' : v ≤ 288230376151711744) (hq : 0 ≤ q) (hq' : q ≤ n) (hn : 1 ≤ n) (hn' : n ≤ 288230376151711744) : CK Tryz.prog 165 [.i v, .i q, .i n] (.i (v * q / n)) :=
  ⟨cl_cons (.c _) (cl_cons (.c _) (cl_cons (.c _) cl_nil)), .c _, @kn_c bk0 ev0 _ [.int .i64 v, .int .i64 q, .int .i64 n] _ fun w => ppart_b w hv hv' hq hq' hn hn' rfl⟩
theorem part_small {v q n : Int} (hv : 0 ≤ v) (hq : 0 ≤ q) (hq' : q ≤ n) (hn : 1 ≤ n) : 0 ≤ v * q / n ∧ v * q / n ≤ v := by
  refine ⟨Int.ediv_nonneg (Int.mul_nonneg hv hq) (by omega), ?_⟩
  have h1 : v * q ≤ v * n := Int.mul_le_mul_of_nonneg_left hq' hv
  have h2 := Int.ediv_le_ediv (show 0 < n by omega) h1
  rwa [Int.mul_ediv_cancel _ (by omega)] at h2

namespace Owed
/-- What is kept. -/
structure Kept (m : Int) (n : Nat) (got dif : Int) (pools : List PoolD) (b r : List Int) (rc : List RcD) (d : Int) : Prop where
  m13 : m = 1 ∨ m = 2 ∨ m = 3
  pool : ∃ L, pools = [⟨L, 0, 0, 0⟩, ⟨[], 0, 0, 0⟩] ∧ (m = 1 → L.length ≤ 30 ∧ Came L) ∧ (m ≠ 1 → L = [] ∨ ∃ k v : Int, L = [⟨k, v, 0⟩] ∧ 1 ≤ k ∧ k ≤ 20 * n ∧ 0 ≤ v ∧ v ≤ 899 * n)
  bl : b.length = 17
  b0 : b.getD 0 0 = got
  b6 : b.getD 6 0 = dif
  b2 : b.getD 2 0 = -b.getD 1 0 - got - dif
  bb : ∀ k, k < 17 → -(2000 * (n : Int)) ≤ b.getD k 0 ∧ b.getD k 0 ≤ 2000 * n
  rl : r.length = 11
  rb : ∀ v ∈ r, -(1000 * (n : Int)) ≤ v ∧ v ≤ 1000 * n
  rcl : rc.length ≤ 40
  rcb : ∀ x ∈ rc, x.entity = 0 ∧ x.item = 0 ∧ 0 ≤ x.opn ∧ x.opn ≤ 20 ∧ 0 ≤ x.accrued ∧ x.accrued ≤ 899
  db : 0 ≤ d ∧ d ≤ n
theorem Kept.more {m : Int} {n : Nat} {got dif : Int} {pools : List PoolD} {b r : List Int} {rc : List RcD} {d : Int} (h : Kept m n got dif pools b r rc d) : Kept m (n + 1) got dif pools b r rc d := by
  obtain ⟨h1, ⟨L, e, p1, p2⟩, h3, h4, h5, h6, h7, h8, h9, h10, h11, h12⟩ := h
  refine ⟨h1, ⟨L, e, p1, fun hm => ?_⟩, h3, h4, h5, h6, fun k hk => ?_, h8, fun v hv => ?_, h10, h11, by omega⟩
  · rcases p2 hm with h | ⟨k, v, h, g⟩
    · exact .inl h
    · exact .inr ⟨k, v, h, by omega⟩
  · have := h7 k hk; omega
  · have := h9 v hv; omega
/-- Goods come. -/
theorem rec_step {m : Int} {n : Nat} {got dif : Int} {pools : List PoolD} {b r : List Int} {rc : List RcD} {d q a : Int} (K : Kept m n got dif pools b r rc d) (hn : n < 60) (hq : 1 ≤ q ∧ q ≤ 20) (ha : 0 ≤ a ∧ a ≤ 899) :
    (∃ pools2 b2 r2 rc2 d2, CK Tryz.prog 11 [oneA m 10 pools (intsR b) r (rcsR rc) [] d, opAv 1 0 0 0 0 q a 0] (.tup [oneA m 10 pools2 (intsR b2) r2 (rcsR rc2) [] d2, .i 0]) ∧ Kept m (n + 1) (got + a) dif pools2 b2 r2 rc2 d2 ∧ b2.getD 1 0 = b.getD 1 0 - a) ∨
    (∃ f : Int, 1 ≤ f ∧ f ≤ 20 ∧ CK Tryz.prog 11 [oneA m 10 pools (intsR b) r (rcsR rc) [] d, opAv 1 0 0 0 0 q a 0] (.tup [oneA m 10 pools (intsR b) r (rcsR rc) [] d, .i f])) := by
  have K0 := K
  obtain ⟨hm, ⟨L, rfl, p1, p2⟩, hbl, hb0, hb6, hb2, hbb, hrl, hrb, hrcl, hrcb, hdb⟩ := K
  obtain ⟨r0, r1, r2, r3, r4, r5, r6, r7, r8, r9, r10, rfl⟩ := list11 hrl
  have hC : CK Tryz.prog 19 [opAv 1 0 0 0 0 q a 0] (.c (.bool true)) := Check_receive (e := 0) (item := 0) (loc := 0) (by omega) (by omega) (by omega) (by omega) (by omega)
  have k0 := hrb r0 (by simp); have k1 := hrb r1 (by simp); have k2 := hrb r2 (by simp); have k3 := hrb r3 (by simp); have k4 := hrb r4 (by simp); have k5 := hrb r5 (by simp); have k6 := hrb r6 (by simp); have k7 := hrb r7 (by simp); have k8 := hrb r8 (by simp); have k9 := hrb r9 (by simp); have k10 := hrb r10 (by simp)
  rcases (by omega : rc.length = 40 ∨ rc.length ≤ 39) with h40 | h39
  · right
    exact ⟨6, by omega, by omega, Rec_full hq ha (by omega) (by omega) (by omega) (by omega) (by omega) (by omega) (by omega) (by omega) (by omega) (by omega) (by omega) (by omega) rfl h40 hC⟩
  have hB : ∀ k : Nat, k < 17 → -144115188075855872 ≤ b.getD k 0 ∧ b.getD k 0 ≤ 144115188075855872 := fun k hk => by have := hbb k hk; omega
  have hSm : Small [⟨0, a⟩, ⟨6, 0⟩, ⟨1, -a⟩] := by
    refine ⟨?_, by simp⟩
    intro x hx
    simp only [List.mem_cons, List.not_mem_nil, or_false] at hx
    rcases hx with rfl | rfl | rfl <;> simp only <;> omega
  have hsum : (amts [⟨0, a⟩, ⟨6, 0⟩, ⟨1, -a⟩]).sum = 0 := by simp [amts]; omega
  have tk : ∀ k : Nat, vtot [⟨0, a⟩, ⟨6, 0⟩, ⟨1, -a⟩] k = (if k = 0 then a else 0) + (if k = 1 then -a else 0) := by
    intro k
    rw [vtot_cons, vtot_cons, vtot_cons]
    simp only [vtot, List.filter_nil, List.map_nil, List.sum_nil, Int.add_zero, ite_self]
    have e0 : ((0 : Int) = (k : Int)) = (k = 0) := by simp; omega
    have e1 : ((1 : Int) = (k : Int)) = (k = 1) := by simp; omega
    simp only [e0, e1]
    split <;> split <;> omega
  have kept : ∀ (L2 : List Lay) (d' : Int), d' = 1 + d → (m = 1 → L2.length ≤ 30 ∧ Came L2) → (m ≠ 1 → L2 = [] ∨ ∃ k v : Int, L2 = [⟨k, v, 0⟩] ∧ 1 ≤ k ∧ k ≤ 20 * (n + 1 : Nat) ∧ 0 ≤ v ∧ v ≤ 899 * (n + 1 : Nat)) →
      Kept m (n + 1) (got + a) dif [⟨L2, 0, 0, 0⟩, ⟨[], 0, 0, 0⟩] (adds b [⟨0, a⟩, ⟨6, 0⟩, ⟨1, -a⟩]) [r0, a + r1, r2, r3, r4, r5, r6, r7, r8, r9, r10] (rc ++ [⟨0, 0, 0, q, a, q, a, 0⟩]) d' := by
    intro L2 d' hd' q1 q2
    refine ⟨hm, ⟨L2, rfl, q1, q2⟩, adds_len _ _, ?_, ?_, ?_, ?_, rfl, ?_, by simp; omega, ?_, by omega⟩
    · rw [adds_get _ _ (by omega), tk, hb0]; simp
    · rw [adds_get _ _ (by omega), tk, hb6]; simp
    · rw [adds_get _ _ (by omega), adds_get _ _ (by omega), tk, tk, hb2]; simp; omega
    · intro k hk
      rw [adds_get _ _ hk, tk]
      have := hbb k hk
      split <;> split <;> omega
    · intro v hv
      simp only [List.mem_cons, List.not_mem_nil, or_false] at hv
      rcases hv with rfl | rfl | rfl | rfl | rfl | rfl | rfl | rfl | rfl | rfl | rfl <;> omega
    · intro x hx
      rcases List.mem_append.1 hx with hx | hx
      · exact hrcb x hx
      · rw [List.mem_singleton] at hx
        subst hx
        exact ⟨rfl, rfl, by simp only; omega⟩
  have g1 : (adds b [⟨0, a⟩, ⟨6, 0⟩, ⟨1, -a⟩]).getD 1 0 = b.getD 1 0 - a := by rw [adds_get _ _ (by omega), tk]; simp; omega
  have snoc : ∀ (pl : List PoolD) (d' : Int), oneA m 10 pl (intsR (adds b [⟨0, a⟩, ⟨6, 0⟩, ⟨1, -a⟩])) [r0, a + r1, r2, r3, r4, r5, r6, r7, r8, r9, r10] (rcsR rc ++ [rowI [0, 0, 0, q, a, q, a, 0]]) [] d' = oneA m 10 pl (intsR (adds b [⟨0, a⟩, ⟨6, 0⟩, ⟨1, -a⟩])) [r0, a + r1, r2, r3, r4, r5, r6, r7, r8, r9, r10] (rcsR (rc ++ [⟨0, 0, 0, q, a, q, a, 0⟩])) [] d' := by
    intro pl d'
    rw [← rcs_snoc]; rfl
  rcases hm with rfl | hm
  · -- the first in
    obtain ⟨hL, hcm⟩ := p1 rfl
    rcases (by omega : L.length = 30 ∨ L.length ≤ 29) with h30 | h29
    · right
      refine ⟨6, by omega, by omega, Rec_1f hq ha (by omega) (by omega) (by omega) (by omega) (by omega) (by omega) (by omega) (by omega) (by omega) (by omega) (by omega) (by omega) h39 hL hC ?_⟩
      have := ck_fifoIn (came_LR hcm hL) ⟨q, a, 0⟩ (by intro v hv; simp at hv; rcases hv with rfl | rfl | rfl <;> exact ⟨by omega, by omega⟩)
      rw [show inS L ⟨q, a, 0⟩ = (L, 6) by rw [inS, if_neg (by simp only; omega), if_pos (by omega)]] at this
      exact this
    · left
      have hc2 : Came (L ++ [⟨q, a, 0⟩]) := by
        intro x hx
        rcases List.mem_append.1 hx with hx | hx
        · exact hcm x hx
        · rw [List.mem_singleton] at hx
          subst hx
          exact ⟨hq.1, hq.2, ha.1, ha.2, rfl⟩
      have hl2 : (L ++ [(⟨q, a, 0⟩ : Lay)]).length ≤ 30 := by simp; omega
      have hsm := came_sums hc2
      have hI := ck_fifoIn (came_LR hcm hL) ⟨q, a, 0⟩ (by intro v hv; simp at hv; rcases hv with rfl | rfl | rfl <;> exact ⟨by omega, by omega⟩)
      rw [inS_ok (came_LR hc2 hl2)] at hI
      refine ⟨_, _, _, _, _, ?_, kept (L ++ [⟨q, a, 0⟩]) _ rfl (fun _ => ⟨hl2, hc2⟩) (fun h => absurd rfl h), g1⟩
      have := Rec_1 (d := d) (b := b) (rc := rc) (b2 := adds b [⟨0, a⟩, ⟨6, 0⟩, ⟨1, -a⟩]) (r0 := r0) (r1 := r1) (r2 := r2) (r3 := r3) (r4 := r4) (r5 := r5) (r6 := r6) (r7 := r7) (r8 := r8) (r9 := r9) (r10 := r10) (L := L) (L2 := L ++ [⟨q, a, 0⟩]) hq ha (by omega) (by omega) (by omega) (by omega) (by omega) (by omega) (by omega) (by omega) (by omega) (by omega) (by omega) (by omega) h39 hL (by omega) (by omega) (by omega) hl2 rfl rfl rfl hC hI (ck_fifoTotal (came_LR hc2 hl2)) (ck_fifoTotal (l := []) (came_LR (L := []) (fun x hx => absurd hx List.not_mem_nil) (by simp))) (ck_steady1 (sa := []) hc2 hl2) (ck_post1 (sa := []) hbl hB hSm hsum)
      rw [snoc] at this
      exact this
  · have hm1 : m ≠ 1 := by rcases hm with rfl | rfl <;> decide
    left
    rcases p2 hm1 with rfl | ⟨k, v, rfl, hk0, hk1, hv0, hv1⟩
    · refine ⟨_, _, _, _, _, ?_, kept [⟨q, a, 0⟩] _ rfl (fun h => absurd h hm1) (fun _ => .inr ⟨q, a, rfl, by omega, by omega, by omega, by omega⟩), g1⟩
      rw [← snoc]
      rcases hm with rfl | rfl
      · exact Rec_2e hq ha (by omega) (by omega) (by omega) (by omega) (by omega) (by omega) (by omega) (by omega) (by omega) (by omega) (by omega) (by omega) h39 rfl rfl rfl hC (ck_post1 (sa := []) hbl hB hSm hsum)
      · exact Rec_3e hq ha (by omega) (by omega) (by omega) (by omega) (by omega) (by omega) (by omega) (by omega) (by omega) (by omega) (by omega) (by omega) h39 rfl rfl rfl hC (ck_post1 (sa := []) hbl hB hSm hsum)
    · refine ⟨_, _, _, _, _, ?_, kept [⟨q + k, a + v, 0⟩] _ rfl (fun h => absurd h hm1) (fun _ => .inr ⟨q + k, a + v, rfl, by omega, by omega, by omega, by omega⟩), g1⟩
      rw [← snoc]
      rcases hm with rfl | rfl
      · exact Rec_2l hq ha (by omega) (by omega) (by omega) (by omega) (by omega) (by omega) (by omega) (by omega) (by omega) (by omega) (by omega) (by omega) h39 (by omega) (by omega) rfl rfl rfl rfl rfl hC (ck_post1 (sa := []) hbl hB hSm hsum)
      · exact Rec_3l hq ha (by omega) (by omega) (by omega) (by omega) (by omega) (by omega) (by omega) (by omega) (by omega) (by omega) (by omega) (by omega) h39 (by omega) (by omega) rfl rfl rfl rfl rfl hC (ck_post1 (sa := []) hbl hB hSm hsum)
/-- An invoice comes. -/
theorem inv_step {m : Int} {n : Nat} {got dif : Int} {pools : List PoolD} {b r : List Int} {rc : List RcD} {d q a ref : Int} (K : Kept m n got dif pools b r rc d) (hn : n < 60) (hq : 1 ≤ q ∧ q ≤ 20) (ha : 0 ≤ a ∧ a ≤ 899) (hr : 0 ≤ ref ∧ ref ≤ 9) :
    (∃ (b2 : List Int) (rc2 : List RcD) (d2 : Int) (x y : RcD), CK Tryz.prog 11 [oneA m 10 pools (intsR b) r (rcsR rc) [] d, opAv 2 0 0 0 0 q a ref] (.tup [oneA m 10 pools (intsR b2) r (rcsR rc2) [] d2, .i 0]) ∧ Kept m (n + 1) got (dif + a - (x.accrued - y.accrued)) pools b2 r rc2 d2 ∧
      ref < rc.length ∧ rc2.length = rc.length ∧ rc[ref.toNat]? = some x ∧ rc2[ref.toNat]? = some y ∧ (0 ≤ x.accrued ∧ x.accrued ≤ 899) ∧ (0 ≤ y.accrued ∧ y.accrued ≤ 899)) ∨
    (∃ f : Int, 1 ≤ f ∧ f ≤ 20 ∧ CK Tryz.prog 11 [oneA m 10 pools (intsR b) r (rcsR rc) [] d, opAv 2 0 0 0 0 q a ref] (.tup [oneA m 10 pools (intsR b) r (rcsR rc) [] d, .i f])) := by
  have K0 := K
  obtain ⟨hm, hpool, hbl, hb0, hb6, hb2, hbb, hrl, hrb, hrcl, hrcb, hdb⟩ := K
  have hp : pools.length = 2 := by obtain ⟨L, e, -⟩ := hpool; rw [e]; rfl
  obtain ⟨r0, r1, r2, r3, r4, r5, r6, r7, r8, r9, r10, rfl⟩ := list11 hrl
  have hC : CK Tryz.prog 19 [opAv 2 0 0 0 0 q a ref] (.c (.bool true)) := Check_invoice (by omega) (by omega) (by omega)
  have k0 := hrb r0 (by simp); have k1 := hrb r1 (by simp); have k2 := hrb r2 (by simp); have k3 := hrb r3 (by simp); have k4 := hrb r4 (by simp); have k5 := hrb r5 (by simp); have k6 := hrb r6 (by simp); have k7 := hrb r7 (by simp); have k8 := hrb r8 (by simp); have k9 := hrb r9 (by simp); have k10 := hrb r10 (by simp)
  rcases (by omega : (rc.length : Int) ≤ ref ∨ ref < rc.length) with hge | hlt
  · right
    exact ⟨4, by omega, by omega, Inv_none hq ha (by omega) (by omega) (by omega) (by omega) (by omega) (by omega) (by omega) (by omega) (by omega) (by omega) (by omega) (by omega) hp hr hrcl hge hC⟩
  have hlt' : ref.toNat < rc.length := by omega
  obtain ⟨x, hx⟩ : ∃ x, rc[ref.toNat]? = some x := ⟨_, List.getElem?_eq_getElem hlt'⟩
  obtain ⟨x0, x1, x2, x3, x4, x5⟩ := hrcb x (List.mem_of_getElem? hx)
  rcases (by omega : x.opn < q ∨ q = x.opn ∨ q < x.opn) with hs | hs
  · right
    exact ⟨5, by omega, by omega, Inv_short hq ha (by omega) (by omega) (by omega) (by omega) (by omega) (by omega) (by omega) (by omega) (by omega) (by omega) (by omega) (by omega) hp hr hrcl hx hlt x0 x1 ⟨x2, x3⟩ ⟨x4, x5⟩ hs hC⟩
  left
  have hB : ∀ k : Nat, k < 17 → -144115188075855872 ≤ b.getD k 0 ∧ b.getD k 0 ≤ 144115188075855872 := fun k hk => by have := hbb k hk; omega
  have kept : ∀ (y : Int) (op' ac' : Int), 0 ≤ y → y ≤ x.accrued → 0 ≤ op' → op' ≤ 20 → ac' = x.accrued - y → ∀ d', d' = 1 + d →
      Small [⟨1, y⟩, ⟨6, a - y⟩, ⟨2, -a⟩] ∧ (amts [⟨1, y⟩, ⟨6, a - y⟩, ⟨2, -a⟩]).sum = 0 ∧ Kept m (n + 1) got (dif + a - (x.accrued - ac')) pools (adds b [⟨1, y⟩, ⟨6, a - y⟩, ⟨2, -a⟩]) [r0, r1, r2, r3, r4, r5, r6, r7, r8, r9, r10] (rc.set ref.toNat ⟨0, 0, x.loc, x.qty, x.value, op', ac', x.back⟩) d' := by
    intro y op' ac' y0 y1 o0 o1 hac d' hd'
    have tk : ∀ k : Nat, vtot [⟨1, y⟩, ⟨6, a - y⟩, ⟨2, -a⟩] k = (if k = 1 then y else 0) + (if k = 6 then a - y else 0) + (if k = 2 then -a else 0) := by
      intro k
      rw [vtot_cons, vtot_cons, vtot_cons]
      simp only [vtot, List.filter_nil, List.map_nil, List.sum_nil, Int.add_zero]
      have e1 : ((1 : Int) = (k : Int)) = (k = 1) := by simp; omega
      have e2 : ((6 : Int) = (k : Int)) = (k = 6) := by simp; omega
      have e3 : ((2 : Int) = (k : Int)) = (k = 2) := by simp; omega
      simp only [e1, e2, e3]
      omega
    refine ⟨⟨?_, by simp⟩, by simp [amts]; omega, ⟨hm, ?_, adds_len _ _, ?_, ?_, ?_, ?_, rfl, ?_, by simp; omega, ?_, by omega⟩⟩
    · intro z hz
      simp only [List.mem_cons, List.not_mem_nil, or_false] at hz
      rcases hz with rfl | rfl | rfl <;> simp only <;> omega
    · exact (K0.more).pool
    · rw [adds_get _ _ (by omega), tk, hb0]; simp
    · rw [adds_get _ _ (by omega), tk, hb6]; simp; omega
    · rw [adds_get _ _ (by omega), adds_get _ _ (by omega), tk, tk, hb2]; simp; omega
    · intro k hk
      rw [adds_get _ _ hk, tk]
      have := hbb k hk
      split <;> split <;> split <;> omega
    · intro v hv
      have := hrb v hv
      omega
    · intro z hz
      rcases List.mem_or_eq_of_mem_set hz with hz | rfl
      · exact hrcb z hz
      · exact ⟨rfl, rfl, by simp only; omega⟩
  have setEq : ∀ (op' ac' : Int) (b2 : List Int) (d' : Int), oneA m 10 pools (intsR b2) [r0, r1, r2, r3, r4, r5, r6, r7, r8, r9, r10] ((rcsR rc).set ref.toNat (rowI [0, 0, x.loc, x.qty, x.value, op', ac', x.back])) [] d' = oneA m 10 pools (intsR b2) [r0, r1, r2, r3, r4, r5, r6, r7, r8, r9, r10] (rcsR (rc.set ref.toNat ⟨0, 0, x.loc, x.qty, x.value, op', ac', x.back⟩)) [] d' := by
    intro op' ac' b2 d'
    rw [← rcs_set]; rfl
  have setGet : ∀ z : RcD, (rc.set ref.toNat z)[ref.toNat]? = some z := fun z => by rw [List.getElem?_set_self hlt']
  rcases hs with hs | hs
  · obtain ⟨s1, s2, s3⟩ := kept x.accrued 0 0 x4 (by omega) (by omega) (by omega) (by omega) _ rfl
    refine ⟨_, _, _, x, ⟨0, 0, x.loc, x.qty, x.value, 0, 0, x.back⟩, ?_, s3, hlt, by simp, hx, setGet _, ⟨x4, x5⟩, ⟨by simp, by simp⟩⟩
    rw [← setEq]
    exact Inv_all hq ha (by omega) (by omega) (by omega) (by omega) (by omega) (by omega) (by omega) (by omega) (by omega) (by omega) (by omega) (by omega) hp hr hrcl hx hlt x0 x1 ⟨x2, x3⟩ ⟨x4, x5⟩ hs rfl rfl rfl hC (ck_post1 (sa := []) hbl hB s1 s2)
  · have hpb := part_small (v := x.accrued) (q := q) (n := x.opn) x4 (by omega) (by omega) (by omega)
    have hM := ck_part1 (v := x.accrued) (q := q) (n := x.opn) x4 (by omega) (by omega) (by omega) (by omega) (by omega)
    generalize x.accrued * q / x.opn = y at hpb hM
    obtain ⟨s1, s2, s3⟩ := kept y (x.opn - q) (x.accrued - y) hpb.1 hpb.2 (by omega) (by omega) rfl _ rfl
    refine ⟨_, _, _, x, ⟨0, 0, x.loc, x.qty, x.value, x.opn - q, x.accrued - y, x.back⟩, ?_, s3, hlt, by simp, hx, setGet _, ⟨x4, x5⟩, ⟨by simp only; omega, by simp only; omega⟩⟩
    rw [← setEq]
    exact Inv_some hq ha (by omega) (by omega) (by omega) (by omega) (by omega) (by omega) (by omega) (by omega) (by omega) (by omega) (by omega) (by omega) hp hr hrcl hx hlt x0 x1 ⟨x2, x3⟩ ⟨x4, x5⟩ hs hpb rfl rfl rfl rfl rfl hC hM (ck_post1 (sa := []) hbl hB s1 s2)
theorem kept0 (m : Int) (hm : m = 1 ∨ m = 2 ∨ m = 3) : Kept m 0 0 0 [⟨[], 0, 0, 0⟩, ⟨[], 0, 0, 0⟩] zeros17 zeros11 [] 0 := by
  have z17 : ∀ k : Nat, zeros17.getD k 0 = 0 := by
    intro k
    by_cases hk : k < 17
    · have : ∀ k : Fin 17, zeros17.getD k 0 = 0 := by decide
      exact this ⟨k, hk⟩
    · rw [List.getD, List.getElem?_eq_none (by simp [zeros17]; omega)]; rfl
  refine ⟨hm, ⟨[], rfl, fun _ => ⟨by simp, fun x hx => absurd hx List.not_mem_nil⟩, fun _ => .inl rfl⟩, rfl, rfl, rfl, rfl, fun k _ => ?_, rfl, ?_, by simp, fun x hx => absurd hx List.not_mem_nil, by omega⟩
  · rw [z17]; omega
  · intro v hv
    simp [zeros11] at hv
    omega
set_option maxHeartbeats 2000000
theorem walk0 (oA oRO oRE oIO oIE oX oXr oY oYr : Option (RT Out))
    (rA : @arunT bk_A Tryz.prog (@acallN bk_A Tryz.prog 100000 60) 100000 100 body (Ft.of 153 fi_A) (trOf bi_A) 0 = oA) (tA : stopB oA = true) (kA : (eqL (slotB [some 10] 16) (lOf oA) fo_A && blksB [some 10] (oT oA).get [some 10] bo_A) = true)
    (rRO : @arunT bk_RO Tryz.prog (@acallN bk_RO Tryz.prog 100000 60) 100000 100 (oCode oA) (Ft.of 153 fi_RO) (trOf bi_RO) 1 = oRO) (tRO : doneB oRO 0 = true) (kRO : (eqL (slotB [some 0] 16) (lOf oRO) fo_RO && blksB [some 0] (oT oRO).get [some 0] bo_RO) = true)
    (rRE : @arunT bk_RE Tryz.prog (@acallN bk_RE Tryz.prog 100000 60) 100000 100 (oCode oA) (Ft.of 153 fi_RE) (trOf bi_RE) 1 = oRE) (tRE : doneB oRE 0 = true) (kRE : (eqL (slotB [some 0] 16) (lOf oRE) fo_RE && blksB [some 0] (oT oRE).get [some 0] bo_RE) = true)
    (rIO : @arunT bk_IO Tryz.prog (@acallN bk_IO Tryz.prog 100000 60) 100000 100 (oCode oA) (Ft.of 153 fi_IO) (trOf bi_IO) 1 = oIO) (tIO : doneB oIO 0 = true) (kIO : (eqL (slotB [some 0] 16) (lOf oIO) fo_IO && blksB [some 0] (oT oIO).get [some 0] bo_IO) = true)
    (rIE : @arunT bk_IE Tryz.prog (@acallN bk_IE Tryz.prog 100000 60) 100000 100 (oCode oA) (Ft.of 153 fi_IE) (trOf bi_IE) 1 = oIE) (tIE : doneB oIE 0 = true) (kIE : (eqL (slotB [some 0] 16) (lOf oIE) fo_IE && blksB [some 0] (oT oIE).get [some 0] bo_IE) = true)
    (rX : @arunT bk_X Tryz.prog (@acallN bk_X Tryz.prog 100000 60) 100000 100 (oCode oA) (Ft.of 153 fi_X) (trOf bi_X) 1 = oX) (tX : doneB oX 2 = true) (kX : (eqL (slotB [some 0] 16) (lOf oX) fo_X && blksB [some 0] (oT oX).get [some 0] bo_X) = true)
    (rXr : @aresT bk_Xr Tryz.prog (@acallN bk_Xr Tryz.prog 100000 60) 100000 (oK oA) (.exit 0) (Ft.of 153 fi_Xr) (trOf bi_Xr) 1 = oXr) (tXr : doneB oXr 1 = true) (kXr : resultsA Tryz.prog Tryz.f6 (lOf oXr) (oT oXr).get = some (.c (.bool true)))
    (rY : @arunT bk_Y Tryz.prog (@acallN bk_Y Tryz.prog 100000 60) 100000 100 (oCode oA) (Ft.of 153 fi_Y) (trOf bi_Y) 1 = oY) (tY : doneB oY 2 = true) (kY : (eqL (slotB [some 0] 16) (lOf oY) fo_Y && blksB [some 0] (oT oY).get [some 0] bo_Y) = true)
    (rYr : @aresT bk_Yr Tryz.prog (@acallN bk_Yr Tryz.prog 100000 60) 100000 (oK oA) (.exit 0) (Ft.of 153 fi_Yr) (trOf bi_Yr) 1 = oYr) (tYr : doneB oYr 1 = true) (kYr : resultsA Tryz.prog Tryz.f6 (lOf oYr) (oT oYr).get = some (.c (.bool true)))
    {me : Int} {z : List Int} (hme : I64 me) (hz : z.length ≤ 9223372036854775807) (hzI : AllI z) : CK Tryz.prog 6 [.i me, .lit 1 (intsR z)] (.c (.bool true)) := by
  refine CK.of_body Tryz.func6 (c := body) (by kernel_rfl) (cl_cons (.c _) (cl_cons (cl_ints _).lit cl_nil)) (.c _) fun A w0 a0 => ?_
  intro mm w a pr
  rw [Tryz.ntmps6] at pr
  obtain ⟨m, hm⟩ : ∃ m, m = 1 + me % 3 := ⟨_, rfl⟩
  have hm13 : m = 1 ∨ m = 2 ∨ m = 3 := by omega
  refine go_A body oA rA tA kA hme hz hm (Start_one (by omega)) (pr := pr) ?_
  intro mm w a pr
  refine loop_rule (fun n a w => ∃ (j : Nat) (_ : j ≤ 60) (got dif : Int) (pools : List PoolD) (b r : List Int) (rc : List RcD) (d : Int), n = 60 - j ∧ (-(899 * (j : Int)) ≤ got ∧ got ≤ 899 * j) ∧ (-(2000 * (j : Int)) ≤ dif ∧ dif ≤ 2000 * j) ∧ Kept m j got dif pools b r rc d ∧ ∃ mm, @Pre bk0 ev0 A w0 a0 mm w a (headF z got dif j) (hOf (headB (oneRow m 10 pools (intsR b) r (rcsR rc) [] d)))) ?_ (n := 60) ⟨0, by omega, 0, 0, _, _, _, [], 0, rfl, by omega, by omega, kept0 m hm13, _, pr⟩
  rintro nn a w ⟨j, hj, got, dif, pools, b, r, rc, d, rfl, hgot, hdif, K, mm, pr⟩
  rcases (by omega : (z.length : Int) ≤ j ∨ ((j : Int) < z.length ∧ j = 60) ∨ ((j : Int) < z.length ∧ j < 60)) with h | ⟨h, h60⟩ | ⟨h, h60⟩
  · refine go_X (oCode oA) oX rX tX kX (by omega) (by omega) (by omega) hz h pr ?_
    intro mm w a pr
    exact go_Xr oA oXr rXr tXr kXr (by omega) (by omega) (by omega) hz h pr
  · refine go_Y (oCode oA) oY rY tY kY (by omega) (by omega) (by omega) hz h (by omega) pr ?_
    intro mm w a pr
    exact go_Yr oA oYr rYr tYr kYr (by omega) (by omega) (by omega) hz h (by omega) pr
  · have hlt : j < z.length := by omega
    obtain ⟨v, hv⟩ : ∃ v, z[j]? = some v := ⟨_, List.getElem?_eq_getElem hlt⟩
    have hvI : I64 v := hzI v (List.mem_of_getElem? hv)
    have hv' : z[(j : Int).toNat]? = some v := by simpa using hv
    have bl := K.bl
    have b0 := K.b0
    have b6 := K.b6
    have b2 := K.b2
    have g1 := K.bb 1 (by omega)
    have next : ∀ (got' dif' i2 : Int) (pools2 : List PoolD) (bb r2 : List Int) (rc2 : List RcD) (d2 : Int), i2 = 1 + (j : Int) → (got - 0 ≤ got' ∧ got' ≤ got + 899) → (dif - 2000 ≤ dif' ∧ dif' ≤ dif + 2000) → Kept m (j + 1) got' dif' pools2 bb r2 rc2 d2 → ∀ (mm : Nat → St) (w : World) (a : Act), @Pre bk0 ev0 A w0 a0 mm w a (headF z got' dif' i2) (hOf (headB (oneRow m 10 pools2 (intsR bb) r2 (rcsR rc2) [] d2))) →
        ∃ n', n' < 60 - j ∧ ∃ (j' : Nat) (_ : j' ≤ 60) (got dif : Int) (pools : List PoolD) (b r : List Int) (rc : List RcD) (d : Int), n' = 60 - j' ∧ (-(899 * (j' : Int)) ≤ got ∧ got ≤ 899 * j') ∧ (-(2000 * (j' : Int)) ≤ dif ∧ dif ≤ 2000 * j') ∧ Kept m j' got dif pools b r rc d ∧ ∃ mm, @Pre bk0 ev0 A w0 a0 mm w a (headF z got dif j') (hOf (headB (oneRow m 10 pools (intsR b) r (rcsR rc) [] d))) := by
      intro got' dif' i2 pools2 bb r2 rc2 d2 hi2 hg hd K2 mm w a pr
      have e : i2 = ((j + 1 : Nat) : Int) := by rw [hi2]; simp; omega
      rw [e] at pr
      exact ⟨60 - (j + 1), by omega, j + 1, by omega, got', dif', pools2, bb, r2, rc2, d2, rfl, by omega, by omega, K2, mm, pr⟩
    rcases (by omega : v % 16777216 % 2 = 0 ∨ v % 16777216 % 2 = 1) with hpar | hpar
    · have ha : 0 ≤ v % 16777216 / 40 % 900 ∧ v % 16777216 / 40 % 900 ≤ 899 := by omega
      rcases rec_step (q := 1 + v % 16777216 / 2 % 20) (a := v % 16777216 / 40 % 900) K h60 (by omega) ha with ⟨pools2, bb, r2, rc2, d2, hT, K2, hg1⟩ | ⟨f, f1, f2, hT⟩
      · have c2 := K2.b2
        rw [hg1] at c2
        refine go_RO (oCode oA) oRO rRO tRO kRO (g := b.getD 1 0 - v % 16777216 / 40 % 900) (by omega) (by omega) (by omega) h hz hvI hv' (by omega) hpar K2.bl rfl rfl rfl rfl (some_of (by rw [K2.bl]; omega) K2.b0) (some_of (by rw [K2.bl]; omega) hg1) (some_of (by rw [K2.bl]; omega) c2) (some_of (by rw [K2.bl]; omega) K2.b6) hT pr ?_
        intro mm w a pr
        exact next _ _ _ _ _ _ _ _ rfl (by omega) (by omega) K2 mm w a pr
      · refine go_RE (oCode oA) oRE rRE tRE kRE (g := b.getD 1 0) (by omega) (by omega) (by omega) h hz hvI hv' (by omega) hpar ⟨f1, f2⟩ bl rfl rfl rfl (some_of (by rw [bl]; omega) b0) (some_of (by rw [bl]; omega) rfl) (some_of (by rw [bl]; omega) b2) (some_of (by rw [bl]; omega) b6) hT pr ?_
        intro mm w a pr
        exact next _ _ _ _ _ _ _ _ rfl (by omega) (by omega) K.more mm w a pr
    · have ha : 0 ≤ v % 16777216 / 160 % 600 ∧ v % 16777216 / 160 % 600 ≤ 899 := by omega
      rcases inv_step (q := 1 + v % 16777216 / 20 % 8) (a := v % 16777216 / 160 % 600) (ref := v % 16777216 / 2 % 10) K h60 (by omega) ha (by omega) with ⟨bb, rc2, d2, x, y, hT, K2, hlt2, hl2, hxx, hyy, hxa, hya⟩ | ⟨f, f1, f2, hT⟩
      · have c2 := K2.b2
        have g2 := K2.bb 1 (by omega)
        refine go_IO (oCode oA) oIO rIO tIO kIO (g := bb.getD 1 0) (by omega) (by omega) (by omega) h hz hvI hv' (by omega) hpar K.rcl hl2 hlt2 hxx hyy hxa hya K2.bl rfl rfl rfl rfl (some_of (by rw [K2.bl]; omega) K2.b0) (some_of (by rw [K2.bl]; omega) rfl) (some_of (by rw [K2.bl]; omega) c2) (some_of (by rw [K2.bl]; omega) K2.b6) hT pr ?_
        intro mm w a pr
        exact next _ _ _ _ _ _ _ _ rfl (by omega) (by omega) K2 mm w a pr
      · refine go_IE (oCode oA) oIE rIE tIE kIE (g := b.getD 1 0) (by omega) (by omega) (by omega) h hz hvI hv' (by omega) hpar ⟨f1, f2⟩ bl rfl rfl rfl (some_of (by rw [bl]; omega) b0) (some_of (by rw [bl]; omega) rfl) (some_of (by rw [bl]; omega) b2) (some_of (by rw [bl]; omega) b6) hT pr ?_
        intro mm w a pr
        exact next _ _ _ _ _ _ _ _ rfl (by omega) (by omega) K.more mm w a pr
theorem law {me : Int} {z : List Int} (hme : I64 me) (hz : z.length ≤ 9223372036854775807) (hzI : AllI z) : CK Tryz.prog 6 [.i me, .lit 1 (intsR z)] (.c (.bool true)) :=
  walk0 s_A s_RO s_RE s_IO s_IE s_X s_Xr s_Y s_Yr rfl end_A look_A rfl end_RO look_RO rfl end_RE look_RE rfl end_IO look_IO rfl end_IE look_IE rfl end_X look_X rfl end_Xr res_Xr rfl end_Y look_Y rfl end_Yr res_Yr hme hz hzI
end Owed
/-- What a contract over closed data says of values. -/
theorem calls_of_ck {k : FuncId} {xs : List AV} (h : CK Tryz.prog k xs (.c (.bool true))) (w : World) (vs : Array Value) (hl : vs.size = xs.length) (hv : ∀ (i : Nat) (x : AV), xs[i]? = some x → @RdL bk0 ev0 (fun _ => False) w x (vs.getD i Go.undef)) : Calls Tryz.prog k vs w fun e w' => e = .returned (.bool true) ∧ Below w.heap.size w w' := by
  refine (h.ok (fun _ => False) w vs (fun _ h => h.elim) (fun t h => absurd h List.not_mem_nil) hl hv).mono ?_
  rintro e w' ⟨v, rfl, h1, h2⟩
  cases h1
  exact ⟨rfl, h2⟩
theorem rdl_ints {w : World} {a : Option Addr} {n cap : Nat} {z : List Int} (h : Row w 1 a n cap z) : @RdL bk0 ev0 (fun _ => False) w (.lit 1 (intsR z)) (.slice a n cap) := by
  obtain ⟨h1, h2, h3, h4, h5⟩ := h
  have e : n = z.length := by omega
  subst e
  rw [ints_lit]
  have hl : (z.map fun v => [v]).length = z.length := by simp
  rw [← hl] at h2 ⊢
  refine rdl_of_row (by intro r hr; obtain ⟨x, -, rfl⟩ := List.mem_map.1 hr; rfl) h2 h3 ?_
  rw [hl, flat1_r]
  rcases h5 with h5 | ⟨b, off, h5, h6, h7⟩
  · exact .inl h5
  · exact .inr ⟨b, off, h5, fun h => h, h6, fun i hi => h7 i (by omega)⟩
theorem TopOwed_walk (a0 : Int) (a1 : Option Addr) (len1 cap1 : Nat) (z1 : List Int) (w : World) (h0 : I64 a0) (h1 : Row w 1 a1 len1 cap1 z1) : Calls Tryz.prog 6 #[.int .i64 a0, .slice a1 len1 cap1] w fun e w' => e = .returned (.bool true) ∧ Below w.heap.size w w' := by
  have hl : z1.length = len1 := by have := h1.len; omega
  refine calls_of_ck (Owed.law h0 (z := z1) ?_ h1.all) w _ rfl ?_
  · have h2 := h1.le
    have h3 := h1.max
    unfold maxLen at h3
    omega
  · intro i x hx
    match i, hx with
    | 0, hx => cases hx; exact rdl_i
    | 1, hx => cases hx; exact rdl_ints h1
end Go.Proofs.YtnalblnmplnhmaaGreat
