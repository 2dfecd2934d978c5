/-
  TopStandard: what is kept from head to head; the steps keep it.
-/
import Derived.Test.YtnalblnmplnhmaaGreatPstdlaw
import Derived.Test.YtnalblnmplnhmaaGreatOne
import Derived.Test.YtnalblnmplnhmaaGreatPcheck2
set_option linter.unusedVariables false
set_option linter.unusedSimpArgs false
namespace Go.Proofs.YtnalblnmplnhmaaGreat
open Go.RowKit Mc

theorem vtot_abs : ∀ (l : List Lin) (a : Int), -absum (amts l) ≤ vtot l a ∧ vtot l a ≤ absum (amts l)
  | [], a => by simp [vtot, amts, absum]
  | x :: l, a => by
    have ih := vtot_abs l a
    have e : amts (x :: l) = x.n :: amts l := rfl
    have := absum_nonneg (amts l)
    rw [vtot_cons, e, absum_cons]
    split <;> omega
namespace Stdl
/-- What is kept. -/
structure Kept (k : Nat) (c n paid gone lost : Int) (pools : List PoolD) (b r : List Int) (rc : List RcD) (sa : List SaD) (d : Int) : Prop where
  hc : 0 ≤ c ∧ c ≤ 39
  pool : (n = 0 ∧ pools = [⟨[], 0, 0, 0⟩, ⟨[], 0, 0, 0⟩]) ∨ (1 ≤ n ∧ pools = [⟨[⟨n, c * n, 0⟩], 0, 0, 0⟩, ⟨[], 0, 0, 0⟩])
  hn : n ≤ 15 * k
  hpaid : 0 ≤ paid ∧ paid ≤ 699 * k
  hgone : 0 ≤ gone ∧ gone ≤ 585 * k
  hlost : -(36000 * (k : Int)) ≤ lost ∧ lost ≤ 36000 * k
  bl : b.length = 17
  b0 : b.getD 0 0 = c * n
  b1 : b.getD 1 0 = -paid
  b5 : b.getD 5 0 = gone
  b6 : b.getD 6 0 = paid - c * n - gone - lost
  b8 : b.getD 8 0 = lost
  bb : ∀ j : Nat, j < 17 → -(100000 * (k : Int)) ≤ b.getD j 0 ∧ b.getD j 0 ≤ 100000 * k
  rl : r.length = 11
  rb : ∀ v ∈ r, -(100000 * (k : Int)) ≤ v ∧ v ≤ 100000 * k
  rcl : rc.length ≤ 40
  sal : sa.length ≤ 40
  db : 0 ≤ d ∧ d ≤ k
theorem Kept.more {k : Nat} {c n paid gone lost : Int} {pools : List PoolD} {b r : List Int} {rc : List RcD} {sa : List SaD} {d : Int} (K : Kept k c n paid gone lost pools b r rc sa d) : Kept (k + 1) c n paid gone lost pools b r rc sa d := by
  obtain ⟨h1, h2, h3, h4, h5, h6, h7, h8, h9, h10, h11, h12, h13, h14, h15, h16, h17, h18⟩ := K
  refine ⟨h1, h2, by omega, by omega, by omega, by omega, h7, h8, h9, h10, h11, h12, fun j hj => ?_, h14, fun v hv => ?_, h16, h17, by omega⟩
  · have := h13 j hj; omega
  · have := h15 v hv; omega
/-- Behind a voucher. -/
theorem Kept.next {k : Nat} {c n paid gone lost : Int} {pools : List PoolD} {b r : List Int} {rc : List RcD} {sa : List SaD} {d : Int} (K : Kept k c n paid gone lost pools b r rc sa d) {l : List Lin} (hl : absum (amts l) ≤ 100000) {c' n' paid' gone' lost' : Int} {pools' : List PoolD} {r' : List Int} {rc' : List RcD} {sa' : List SaD} {d' : Int}
    (hc : 0 ≤ c' ∧ c' ≤ 39) (hp : (n' = 0 ∧ pools' = [⟨[], 0, 0, 0⟩, ⟨[], 0, 0, 0⟩]) ∨ (1 ≤ n' ∧ pools' = [⟨[⟨n', c' * n', 0⟩], 0, 0, 0⟩, ⟨[], 0, 0, 0⟩])) (hn : n' ≤ 15 * (k + 1 : Nat)) (hpaid : 0 ≤ paid' ∧ paid' ≤ 699 * (k + 1 : Nat)) (hgone : 0 ≤ gone' ∧ gone' ≤ 585 * (k + 1 : Nat)) (hlost : -(36000 * ((k + 1 : Nat) : Int)) ≤ lost' ∧ lost' ≤ 36000 * (k + 1 : Nat))
    (e0 : c * n + vtot l 0 = c' * n') (e1 : -paid + vtot l 1 = -paid') (e5 : gone + vtot l 5 = gone') (e6 : paid - c * n - gone - lost + vtot l 6 = paid' - c' * n' - gone' - lost') (e8 : lost + vtot l 8 = lost') (rl : r'.length = 11) (rb : ∀ v ∈ r', -(100000 * ((k + 1 : Nat) : Int)) ≤ v ∧ v ≤ 100000 * (k + 1 : Nat)) (rcl : rc'.length ≤ 40) (sal : sa'.length ≤ 40) (hd : d' = 1 + d) :
    Kept (k + 1) c' n' paid' gone' lost' pools' (adds b l) r' rc' sa' d' := by
  have db := K.db
  refine ⟨hc, hp, hn, hpaid, hgone, hlost, adds_len _ _, ?_, ?_, ?_, ?_, ?_, fun j hj => ?_, rl, rb, rcl, sal, by omega⟩
  · rw [adds_get _ _ (by omega), K.b0]; exact e0
  · rw [adds_get _ _ (by omega), K.b1]; exact e1
  · rw [adds_get _ _ (by omega), K.b5]; exact e5
  · rw [adds_get _ _ (by omega), K.b6]; exact e6
  · rw [adds_get _ _ (by omega), K.b8]; exact e8
  · rw [adds_get _ _ hj]
    have h1 := K.bb j hj
    have h2 := vtot_abs l j
    omega
theorem vtot_nil (a : Int) : vtot [] a = 0 := rfl
/-- Goods come. -/
theorem rec_step {k : Nat} {c n paid gone lost : Int} {pools : List PoolD} {b r : List Int} {rc : List RcD} {sa : List SaD} {d q a : Int} (K : Kept k c n paid gone lost pools b r rc sa d) (hk : k < 60) (hq : 1 ≤ q ∧ q ≤ 15) (ha : 0 ≤ a ∧ a ≤ 699) :
    (∃ pools2 b2 r2 rc2 sa2 d2, CK Tryz.prog 11 [oneA 4 c pools (intsR b) r (rcsR rc) (sasR sa) d, opAv 1 0 0 0 0 q a 0] (.tup [oneA 4 c pools2 (intsR b2) r2 (rcsR rc2) (sasR sa2) d2, .i 0]) ∧ Kept (k + 1) c (n + q) (paid + a) gone lost pools2 b2 r2 rc2 sa2 d2) ∨ (∃ f : Int, 1 ≤ f ∧ f ≤ 20 ∧ CK Tryz.prog 11 [oneA 4 c pools (intsR b) r (rcsR rc) (sasR sa) d, opAv 1 0 0 0 0 q a 0] (.tup [oneA 4 c pools (intsR b) r (rcsR rc) (sasR sa) d, .i f])) := by
  have hc := K.hc
  have hp := K.pool
  have hnk := K.hn
  have hpaid := K.hpaid
  have hgone := K.hgone
  have hlost := K.hlost
  have hrb := K.rb
  have hrcl := K.rcl
  have hsal := K.sal
  have hdb := K.db
  have hB : ∀ j : Nat, j < 17 → -144115188075855872 ≤ b.getD j 0 ∧ b.getD j 0 ≤ 144115188075855872 := fun j hj => by have := K.bb j hj; omega
  obtain ⟨r0, r1, r2, r3, r4, r5, r6, r7, r8, r9, r10, rfl⟩ := list11 K.rl
  have k0 := hrb r0 (by simp); have k1 := hrb r1 (by simp); have k2 := hrb r2 (by simp); have k3 := hrb r3 (by simp); have k4 := hrb r4 (by simp); have k5 := hrb r5 (by simp); have k6 := hrb r6 (by simp); have k7 := hrb r7 (by simp); have k8 := hrb r8 (by simp); have k9 := hrb r9 (by simp); have k10 := hrb r10 (by simp)
  have Hcq := mul_bd hc.1 hc.2 (show 0 ≤ q by omega) hq.2
  have hC : CK Tryz.prog 19 [opAv 1 0 0 0 0 q a 0] (.c (.bool true)) := Check_receive (e := 0) (item := 0) (loc := 0) (by omega) (by omega) (by omega) (by omega) (by omega)
  rcases (by omega : rc.length = 40 ∨ rc.length ≤ 39) with h40 | h39
  · right
    rcases hp with ⟨rfl, rfl⟩ | ⟨h1, rfl⟩
    · exact ⟨6, by omega, by omega, Std_rec_fulle (b2 := b) hc hq ha (by omega) (by omega) (by omega) (by omega) (by omega) (by omega) (by omega) (by omega) (by omega) (by omega) (by omega) (by omega) h40 hsal hC⟩
    · exact ⟨6, by omega, by omega, Std_rec_full (b2 := b) hc hq ha (by omega) (by omega) (by omega) (by omega) (by omega) (by omega) (by omega) (by omega) (by omega) (by omega) (by omega) (by omega) h40 hsal (by omega) rfl hC⟩
  · left
    have hSm : Small [⟨0, c * q⟩, ⟨6, a - c * q⟩, ⟨1, -a⟩] := by
      refine ⟨?_, by simp⟩
      intro x hx
      simp only [List.mem_cons, List.not_mem_nil, or_false] at hx
      rcases hx with rfl | rfl | rfl <;> simp only <;> omega
    have hsum : (amts [⟨0, c * q⟩, ⟨6, a - c * q⟩, ⟨1, -a⟩]).sum = 0 := by simp [amts]; try omega
    have habs : absum (amts [⟨0, c * q⟩, ⟨6, a - c * q⟩, ⟨1, -a⟩]) ≤ 100000 := by simp [amts, absum]; omega
    have snoc : ∀ (pl : List PoolD) (d' : Int), oneA 4 c pl (intsR (adds b [⟨0, c * q⟩, ⟨6, a - c * q⟩, ⟨1, -a⟩])) [r0, c * q + r1, r2, r3, r4, r5, r6, r7, r8, r9, r10] (rcsR rc ++ [rowI [0, 0, 0, q, a, q, a, 0]]) (sasR sa) d' = oneA 4 c pl (intsR (adds b [⟨0, c * q⟩, ⟨6, a - c * q⟩, ⟨1, -a⟩])) [r0, c * q + r1, r2, r3, r4, r5, r6, r7, r8, r9, r10] (rcsR (rc ++ [⟨0, 0, 0, q, a, q, a, 0⟩])) (sasR sa) d' := by
      intro pl d'
      rw [← rcs_snoc]; rfl
    rcases hp with ⟨rfl, rfl⟩ | ⟨h1, rfl⟩
    · have W := Std_rec_e (d := d) (b := b) (b2 := adds b [⟨0, c * q⟩, ⟨6, a - c * q⟩, ⟨1, -a⟩]) (rc := rc) (sa := sa) (r0 := r0) (r1 := r1) (r2 := r2) (r3 := r3) (r4 := r4) (r5 := r5) (r6 := r6) (r7 := r7) (r8 := r8) (r9 := r9) (r10 := r10) hc hq ha (by omega) (by omega) (by omega) (by omega) (by omega) (by omega) (by omega) (by omega) (by omega) (by omega) (by omega) (by omega) h39 hsal rfl rfl rfl rfl rfl hC (ck_post1 K.bl hB hSm hsum)
      rw [snoc] at W
      refine ⟨_, _, _, _, _, _, W, K.next habs hc (.inr ⟨by omega, ?_⟩) (by omega) (by omega) (by omega) (by omega) ?_ (by simp [vtot_cons, vtot_nil]; try omega) (by simp [vtot_cons, vtot_nil]; try omega) ?_ (by simp [vtot_cons, vtot_nil]; try omega) rfl (by intro v hv; simp only [List.mem_cons, List.not_mem_nil, or_false] at hv; rcases hv with rfl | rfl | rfl | rfl | rfl | rfl | rfl | rfl | rfl | rfl | rfl <;> omega) (by simp; omega) hsal rfl⟩
      · rw [Int.zero_add]
      · rw [Int.zero_add]; simp [vtot_cons, vtot_nil]
      · rw [Int.zero_add]; simp [vtot_cons, vtot_nil]; omega
    · have W := Std_rec_l (n := n) (d := d) (b := b) (b2 := adds b [⟨0, c * q⟩, ⟨6, a - c * q⟩, ⟨1, -a⟩]) (rc := rc) (sa := sa) (r0 := r0) (r1 := r1) (r2 := r2) (r3 := r3) (r4 := r4) (r5 := r5) (r6 := r6) (r7 := r7) (r8 := r8) (r9 := r9) (r10 := r10) hc hq ha (by omega) (by omega) (by omega) (by omega) (by omega) (by omega) (by omega) (by omega) (by omega) (by omega) (by omega) (by omega) h39 hsal (by omega) rfl rfl rfl rfl (n' := n + q) (by omega) (v' := c * (n + q)) (by rw [Int.mul_add]; omega) rfl rfl hC (ck_post1 K.bl hB hSm hsum)
      rw [snoc] at W
      refine ⟨_, _, _, _, _, _, W, K.next habs hc (.inr ⟨by omega, rfl⟩) (by omega) (by omega) (by omega) (by omega) ?_ (by simp [vtot_cons, vtot_nil]; try omega) (by simp [vtot_cons, vtot_nil]; try omega) ?_ (by simp [vtot_cons, vtot_nil]; try omega) rfl (by intro v hv; simp only [List.mem_cons, List.not_mem_nil, or_false] at hv; rcases hv with rfl | rfl | rfl | rfl | rfl | rfl | rfl | rfl | rfl | rfl | rfl <;> omega) (by simp; omega) hsal rfl⟩
      · rw [Int.mul_add]; simp [vtot_cons, vtot_nil]
      · rw [Int.mul_add]; simp [vtot_cons, vtot_nil]; omega
/-- Goods go. -/
theorem sell_step {k : Nat} {c n paid gone lost : Int} {pools : List PoolD} {b r : List Int} {rc : List RcD} {sa : List SaD} {d q a : Int} (K : Kept k c n paid gone lost pools b r rc sa d) (hk : k < 60) (hq : 1 ≤ q ∧ q ≤ 15) :
    (∃ pools2 b2 r2 rc2 sa2 d2, CK Tryz.prog 11 [oneA 4 c pools (intsR b) r (rcsR rc) (sasR sa) d, opAv 4 0 0 0 0 q 1 0] (.tup [oneA 4 c pools2 (intsR b2) r2 (rcsR rc2) (sasR sa2) d2, .i 0]) ∧ Kept (k + 1) c (n - q) paid (gone + c * q) lost pools2 b2 r2 rc2 sa2 d2) ∨ (∃ f : Int, 1 ≤ f ∧ f ≤ 20 ∧ CK Tryz.prog 11 [oneA 4 c pools (intsR b) r (rcsR rc) (sasR sa) d, opAv 4 0 0 0 0 q 1 0] (.tup [oneA 4 c pools (intsR b) r (rcsR rc) (sasR sa) d, .i f])) := by
  have hc := K.hc
  have hp := K.pool
  have hnk := K.hn
  have hpaid := K.hpaid
  have hgone := K.hgone
  have hlost := K.hlost
  have hrb := K.rb
  have hrcl := K.rcl
  have hsal := K.sal
  have hdb := K.db
  have hB : ∀ j : Nat, j < 17 → -144115188075855872 ≤ b.getD j 0 ∧ b.getD j 0 ≤ 144115188075855872 := fun j hj => by have := K.bb j hj; omega
  obtain ⟨r0, r1, r2, r3, r4, r5, r6, r7, r8, r9, r10, rfl⟩ := list11 K.rl
  have k0 := hrb r0 (by simp); have k1 := hrb r1 (by simp); have k2 := hrb r2 (by simp); have k3 := hrb r3 (by simp); have k4 := hrb r4 (by simp); have k5 := hrb r5 (by simp); have k6 := hrb r6 (by simp); have k7 := hrb r7 (by simp); have k8 := hrb r8 (by simp); have k9 := hrb r9 (by simp); have k10 := hrb r10 (by simp)
  have Hcq := mul_bd hc.1 hc.2 (show 0 ≤ q by omega) hq.2
  have hC : CK Tryz.prog 19 [opAv 4 0 0 0 0 q 1 0] (.c (.bool true)) := Check_sell (e := 0) (item := 0) (loc := 0) (by omega) (by omega) (by omega) (by omega) (by omega)
  rcases (by omega : sa.length = 40 ∨ sa.length ≤ 39) with h40 | h39
  · right
    rcases hp with ⟨rfl, rfl⟩ | ⟨h1, rfl⟩
    · exact ⟨6, by omega, by omega, Std_sell_fulle (a := 0) (b2 := b) hc hq (by omega) (by omega) (by omega) (by omega) (by omega) (by omega) (by omega) (by omega) (by omega) (by omega) (by omega) (by omega) (by omega) hrcl h40 hC⟩
    · exact ⟨6, by omega, by omega, Std_sell_full (a := 0) (b2 := b) hc hq (by omega) (by omega) (by omega) (by omega) (by omega) (by omega) (by omega) (by omega) (by omega) (by omega) (by omega) (by omega) (by omega) hrcl h40 (by omega) rfl hC⟩
  rcases hp with ⟨rfl, rfl⟩ | ⟨h1, rfl⟩
  · exact .inr ⟨5, by omega, by omega, Std_sell_e (a := 0) (b2 := b) hc hq (by omega) (by omega) (by omega) (by omega) (by omega) (by omega) (by omega) (by omega) (by omega) (by omega) (by omega) (by omega) (by omega) hrcl h39 hC⟩
  rcases (by omega : n < q ∨ q = n ∨ q < n) with hlt | hlt
  · exact .inr ⟨5, by omega, by omega, Std_sell_s (a := 0) (b2 := b) hc hq (by omega) (by omega) (by omega) (by omega) (by omega) (by omega) (by omega) (by omega) (by omega) (by omega) (by omega) (by omega) (by omega) hrcl h39 (by omega) hlt rfl hC⟩
  · left
    have hSm : Small [⟨3, 1⟩, ⟨4, -1⟩, ⟨5, c * q⟩, ⟨0, -(c * q)⟩] := by
      refine ⟨?_, by simp⟩
      intro x hx
      simp only [List.mem_cons, List.not_mem_nil, or_false] at hx
      rcases hx with rfl | rfl | rfl | rfl <;> simp only <;> omega
    have hsum : (amts [⟨3, 1⟩, ⟨4, -1⟩, ⟨5, c * q⟩, ⟨0, -(c * q)⟩]).sum = 0 := by simp [amts]; try omega
    have habs : absum (amts [⟨3, 1⟩, ⟨4, -1⟩, ⟨5, c * q⟩, ⟨0, -(c * q)⟩]) ≤ 100000 := by simp [amts, absum]; omega
    have snoc : ∀ (pl : List PoolD) (r' : List Int) (d' : Int), oneA 4 c pl (intsR (adds b [⟨3, 1⟩, ⟨4, -1⟩, ⟨5, c * q⟩, ⟨0, -(c * q)⟩])) r' (rcsR rc) (sasR sa ++ [[.i 0, .i 0, .i 0, .i q, .i 0, .i (c * q), .i 0, .i 1, .c (.bool false)]]) d' = oneA 4 c pl (intsR (adds b [⟨3, 1⟩, ⟨4, -1⟩, ⟨5, c * q⟩, ⟨0, -(c * q)⟩])) r' (rcsR rc) (sasR (sa ++ [⟨0, 0, 0, q, 0, c * q, 0, 1, false⟩])) d' := by
      intro pl r' d'
      rw [← sas_snoc]; rfl
    rcases hlt with rfl | hlt
    · have W := Std_sell_a (a := 0) (n := q) (d := d) (b := b) (rc := rc) (sa := sa) (r0 := r0) (r1 := r1) (r2 := r2) (r3 := r3) (r4 := r4) (r5 := r5) (r6 := r6) (r7 := r7) (r8 := r8) (r9 := r9) (r10 := r10) (b2 := adds b [⟨3, 1⟩, ⟨4, -1⟩, ⟨5, c * q⟩, ⟨0, -(c * q)⟩]) hc hq (by omega) (by omega) (by omega) (by omega) (by omega) (by omega) (by omega) (by omega) (by omega) (by omega) (by omega) (by omega) (by omega) hrcl h39 (by omega) rfl rfl rfl rfl rfl rfl hC (ck_post1 K.bl hB hSm hsum)
      rw [snoc] at W
      refine ⟨_, _, _, _, _, _, W, K.next habs hc (.inl ⟨by omega, rfl⟩) (by omega) (by omega) (by omega) (by omega) ?_ (by simp [vtot_cons, vtot_nil]; try omega) (by simp [vtot_cons, vtot_nil]; try omega) ?_ (by simp [vtot_cons, vtot_nil]; try omega) rfl (by intro v hv; simp only [List.mem_cons, List.not_mem_nil, or_false] at hv; rcases hv with rfl | rfl | rfl | rfl | rfl | rfl | rfl | rfl | rfl | rfl | rfl <;> omega) hrcl (by simp; omega) rfl⟩
      · rw [Int.sub_self, Int.mul_zero]; simp [vtot_cons, vtot_nil]; omega
      · rw [Int.sub_self, Int.mul_zero]; simp [vtot_cons, vtot_nil]; omega
    · have Hle := Int.mul_le_mul_of_nonneg_left (show q ≤ n by omega) hc.1
      have W := Std_sell_p (a := 0) (n := n) (d := d) (b := b) (rc := rc) (sa := sa) (r0 := r0) (r1 := r1) (r2 := r2) (r3 := r3) (r4 := r4) (r5 := r5) (r6 := r6) (r7 := r7) (r8 := r8) (r9 := r9) (r10 := r10) (b2 := adds b [⟨3, 1⟩, ⟨4, -1⟩, ⟨5, c * q⟩, ⟨0, -(c * q)⟩]) hc hq (by omega) (by omega) (by omega) (by omega) (by omega) (by omega) (by omega) (by omega) (by omega) (by omega) (by omega) (by omega) (by omega) hrcl h39 (by omega) hlt rfl rfl rfl (n' := n - q) rfl (v' := c * (n - q)) (by rw [Int.mul_sub]) rfl rfl hC (ck_post1 K.bl hB hSm hsum)
      rw [snoc] at W
      refine ⟨_, _, _, _, _, _, W, K.next habs hc (.inr ⟨by omega, rfl⟩) (by omega) (by omega) (by omega) (by omega) ?_ (by simp [vtot_cons, vtot_nil]; try omega) (by simp [vtot_cons, vtot_nil]; try omega) ?_ (by simp [vtot_cons, vtot_nil]; try omega) rfl (by intro v hv; simp only [List.mem_cons, List.not_mem_nil, or_false] at hv; rcases hv with rfl | rfl | rfl | rfl | rfl | rfl | rfl | rfl | rfl | rfl | rfl <;> omega) hrcl (by simp; omega) rfl⟩
      · rw [Int.mul_sub]; simp [vtot_cons, vtot_nil]; omega
      · rw [Int.mul_sub]; simp [vtot_cons, vtot_nil]; omega
/-- A count. -/
theorem count_step {k : Nat} {c n paid gone lost : Int} {pools : List PoolD} {b r : List Int} {rc : List RcD} {sa : List SaD} {d q a : Int} (K : Kept k c n paid gone lost pools b r rc sa d) (hk : k < 60) (hq : 1 ≤ q ∧ q ≤ 15) :
    (∃ pools2 b2 r2 rc2 sa2 d2, CK Tryz.prog 11 [oneA 4 c pools (intsR b) r (rcsR rc) (sasR sa) d, opAv 7 0 0 0 0 q 0 0] (.tup [oneA 4 c pools2 (intsR b2) r2 (rcsR rc2) (sasR sa2) d2, .i 0]) ∧ Kept (k + 1) c q paid gone (lost + (c * n - c * q)) pools2 b2 r2 rc2 sa2 d2) := by
  have hc := K.hc
  have hp := K.pool
  have hnk := K.hn
  have hpaid := K.hpaid
  have hgone := K.hgone
  have hlost := K.hlost
  have hrb := K.rb
  have hrcl := K.rcl
  have hsal := K.sal
  have hdb := K.db
  have hB : ∀ j : Nat, j < 17 → -144115188075855872 ≤ b.getD j 0 ∧ b.getD j 0 ≤ 144115188075855872 := fun j hj => by have := K.bb j hj; omega
  obtain ⟨r0, r1, r2, r3, r4, r5, r6, r7, r8, r9, r10, rfl⟩ := list11 K.rl
  have k0 := hrb r0 (by simp); have k1 := hrb r1 (by simp); have k2 := hrb r2 (by simp); have k3 := hrb r3 (by simp); have k4 := hrb r4 (by simp); have k5 := hrb r5 (by simp); have k6 := hrb r6 (by simp); have k7 := hrb r7 (by simp); have k8 := hrb r8 (by simp); have k9 := hrb r9 (by simp); have k10 := hrb r10 (by simp)
  have Hcq := mul_bd hc.1 hc.2 (show 0 ≤ q by omega) hq.2
  have hC : CK Tryz.prog 19 [opAv 7 0 0 0 0 q 0 0] (.c (.bool true)) := Check_count (e := 0) (item := 0) (loc := 0) (by omega) (by omega) (by omega) (by omega)
  rcases hp with ⟨rfl, rfl⟩ | ⟨h1, rfl⟩
  · rw [Int.mul_zero] at *
    have hSm : Small [⟨0, c * q⟩, ⟨6, 0⟩, ⟨8, -(c * q)⟩] := by
      refine ⟨?_, by simp⟩
      intro x hx
      simp only [List.mem_cons, List.not_mem_nil, or_false] at hx
      rcases hx with rfl | rfl | rfl <;> simp only <;> omega
    have hsum : (amts [⟨0, c * q⟩, ⟨6, 0⟩, ⟨8, -(c * q)⟩]).sum = 0 := by simp [amts]; try omega
    have habs : absum (amts [⟨0, c * q⟩, ⟨6, 0⟩, ⟨8, -(c * q)⟩]) ≤ 100000 := by simp [amts, absum]; omega
    have W := Std_count_new (a := 0) (d := d) (b := b) (rc := rc) (sa := sa) (r0 := r0) (r1 := r1) (r2 := r2) (r3 := r3) (r4 := r4) (r5 := r5) (r6 := r6) (r7 := r7) (r8 := r8) (r9 := r9) (r10 := r10) (b2 := adds b [⟨0, c * q⟩, ⟨6, 0⟩, ⟨8, -(c * q)⟩]) hc hq (by omega) (by omega) (by omega) (by omega) (by omega) (by omega) (by omega) (by omega) (by omega) (by omega) (by omega) (by omega) (by omega) hrcl hsal rfl rfl rfl rfl rfl hC (ck_post1 K.bl hB hSm hsum)
    refine ⟨_, _, _, _, _, _, W, K.next habs hc (.inr ⟨by omega, rfl⟩) (by omega) (by omega) (by omega) (by omega) ?_ (by simp [vtot_cons, vtot_nil]; try omega) (by simp [vtot_cons, vtot_nil]; try omega) ?_ (by simp [vtot_cons, vtot_nil]; try omega) rfl (by intro v hv; simp only [List.mem_cons, List.not_mem_nil, or_false] at hv; rcases hv with rfl | rfl | rfl | rfl | rfl | rfl | rfl | rfl | rfl | rfl | rfl <;> omega) hrcl hsal rfl⟩
    · rw [Int.mul_zero]; simp [vtot_cons, vtot_nil]
    · rw [Int.mul_zero]; simp [vtot_cons, vtot_nil]; omega
  have Hcn := mul_bd hc.1 hc.2 (show 0 ≤ n by omega) (show n ≤ 900 by omega)
  rcases (by omega : q = n ∨ q < n ∨ n < q) with rfl | hlt | hlt
  · have W := Std_count_eq (a := 0) (n := q) (d := d) (b := b) (rc := rc) (sa := sa) (r0 := r0) (r1 := r1) (r2 := r2) (r3 := r3) (r4 := r4) (r5 := r5) (r6 := r6) (r7 := r7) (r8 := r8) (r9 := r9) (r10 := r10) (b2 := b) hc hq (by omega) (by omega) (by omega) (by omega) (by omega) (by omega) (by omega) (by omega) (by omega) (by omega) (by omega) (by omega) (by omega) hrcl hsal (by omega) rfl rfl rfl hC
    refine ⟨_, _, _, _, _, _, W, ?_⟩
    rw [Int.sub_self, Int.add_zero]
    have K2 := K.more
    refine { K2 with db := by omega }
  · have Hle := Int.mul_le_mul_of_nonneg_left (show q ≤ n by omega) hc.1
    have hSm : Small [⟨8, c * n - c * q⟩, ⟨0, c * q - c * n⟩] := by
      refine ⟨?_, by simp⟩
      intro x hx
      simp only [List.mem_cons, List.not_mem_nil, or_false] at hx
      rcases hx with rfl | rfl <;> simp only <;> omega
    have hsum : (amts [⟨8, c * n - c * q⟩, ⟨0, c * q - c * n⟩]).sum = 0 := by simp [amts]; try omega
    have habs : absum (amts [⟨8, c * n - c * q⟩, ⟨0, c * q - c * n⟩]) ≤ 100000 := by simp [amts, absum]; omega
    have W := Std_count_less (a := 0) (n := n) (d := d) (b := b) (rc := rc) (sa := sa) (r0 := r0) (r1 := r1) (r2 := r2) (r3 := r3) (r4 := r4) (r5 := r5) (r6 := r6) (r7 := r7) (r8 := r8) (r9 := r9) (r10 := r10) (b2 := adds b [⟨8, c * n - c * q⟩, ⟨0, c * q - c * n⟩]) hc hq (by omega) (by omega) (by omega) (by omega) (by omega) (by omega) (by omega) (by omega) (by omega) (by omega) (by omega) (by omega) (by omega) hrcl hsal (by omega) hlt rfl rfl rfl rfl rfl rfl hC (ck_post1 K.bl hB hSm hsum)
    refine ⟨_, _, _, _, _, _, W, K.next habs hc (.inr ⟨by omega, rfl⟩) (by omega) (by omega) (by omega) (by omega) (by simp [vtot_cons, vtot_nil]; try omega) (by simp [vtot_cons, vtot_nil]; try omega) (by simp [vtot_cons, vtot_nil]; try omega) (by simp [vtot_cons, vtot_nil]; try omega) (by simp [vtot_cons, vtot_nil]; try omega) rfl (by intro v hv; simp only [List.mem_cons, List.not_mem_nil, or_false] at hv; rcases hv with rfl | rfl | rfl | rfl | rfl | rfl | rfl | rfl | rfl | rfl | rfl <;> omega) hrcl hsal rfl⟩
  · have Hle := Int.mul_le_mul_of_nonneg_left (show n ≤ q by omega) hc.1
    have hSm : Small [⟨0, c * q - c * n⟩, ⟨6, 0⟩, ⟨8, c * n - c * q⟩] := by
      refine ⟨?_, by simp⟩
      intro x hx
      simp only [List.mem_cons, List.not_mem_nil, or_false] at hx
      rcases hx with rfl | rfl | rfl <;> simp only <;> omega
    have hsum : (amts [⟨0, c * q - c * n⟩, ⟨6, 0⟩, ⟨8, c * n - c * q⟩]).sum = 0 := by simp [amts]; try omega
    have habs : absum (amts [⟨0, c * q - c * n⟩, ⟨6, 0⟩, ⟨8, c * n - c * q⟩]) ≤ 100000 := by simp [amts, absum]; omega
    have W := Std_count_more (a := 0) (n := n) (d := d) (b := b) (rc := rc) (sa := sa) (r0 := r0) (r1 := r1) (r2 := r2) (r3 := r3) (r4 := r4) (r5 := r5) (r6 := r6) (r7 := r7) (r8 := r8) (r9 := r9) (r10 := r10) (b2 := adds b [⟨0, c * q - c * n⟩, ⟨6, 0⟩, ⟨8, c * n - c * q⟩]) hc hq (by omega) (by omega) (by omega) (by omega) (by omega) (by omega) (by omega) (by omega) (by omega) (by omega) (by omega) (by omega) (by omega) hrcl hsal (by omega) hlt rfl rfl rfl rfl rfl rfl hC (ck_post1 K.bl hB hSm hsum)
    refine ⟨_, _, _, _, _, _, W, K.next habs hc (.inr ⟨by omega, rfl⟩) (by omega) (by omega) (by omega) (by omega) (by simp [vtot_cons, vtot_nil]; try omega) (by simp [vtot_cons, vtot_nil]; try omega) (by simp [vtot_cons, vtot_nil]; try omega) (by simp [vtot_cons, vtot_nil]; try omega) (by simp [vtot_cons, vtot_nil]; try omega) rfl (by intro v hv; simp only [List.mem_cons, List.not_mem_nil, or_false] at hv; rcases hv with rfl | rfl | rfl | rfl | rfl | rfl | rfl | rfl | rfl | rfl | rfl <;> omega) hrcl hsal rfl⟩
/-- Another cost. -/
theorem rev_step {k : Nat} {c n paid gone lost : Int} {pools : List PoolD} {b r : List Int} {rc : List RcD} {sa : List SaD} {d q a : Int} (K : Kept k c n paid gone lost pools b r rc sa d) (hk : k < 60) (ha : 0 ≤ a ∧ a ≤ 39) :
    (∃ pools2 b2 r2 rc2 sa2 d2, CK Tryz.prog 11 [oneA 4 c pools (intsR b) r (rcsR rc) (sasR sa) d, opAv 9 0 0 0 0 0 a 0] (.tup [oneA 4 a pools2 (intsR b2) r2 (rcsR rc2) (sasR sa2) d2, .i 0]) ∧ Kept (k + 1) a n paid gone lost pools2 b2 r2 rc2 sa2 d2) := by
  have hc := K.hc
  have hp := K.pool
  have hnk := K.hn
  have hpaid := K.hpaid
  have hgone := K.hgone
  have hlost := K.hlost
  have hrb := K.rb
  have hrcl := K.rcl
  have hsal := K.sal
  have hdb := K.db
  have hB : ∀ j : Nat, j < 17 → -144115188075855872 ≤ b.getD j 0 ∧ b.getD j 0 ≤ 144115188075855872 := fun j hj => by have := K.bb j hj; omega
  obtain ⟨r0, r1, r2, r3, r4, r5, r6, r7, r8, r9, r10, rfl⟩ := list11 K.rl
  have k0 := hrb r0 (by simp); have k1 := hrb r1 (by simp); have k2 := hrb r2 (by simp); have k3 := hrb r3 (by simp); have k4 := hrb r4 (by simp); have k5 := hrb r5 (by simp); have k6 := hrb r6 (by simp); have k7 := hrb r7 (by simp); have k8 := hrb r8 (by simp); have k9 := hrb r9 (by simp); have k10 := hrb r10 (by simp)
  have hC : CK Tryz.prog 19 [opAv 9 0 0 0 0 0 a 0] (.c (.bool true)) := Check_revalue (e := 0) (item := 0) (by omega) (by omega) (by omega)
  rcases hp with ⟨rfl, rfl⟩ | ⟨h1, rfl⟩
  · have W0 := 0
    have hSm : Small [⟨0, 0⟩, ⟨6, 0⟩] := by
      refine ⟨?_, by simp⟩
      intro x hx
      simp only [List.mem_cons, List.not_mem_nil, or_false] at hx
      rcases hx with rfl | rfl <;> simp only <;> omega
    have hsum : (amts [⟨0, 0⟩, ⟨6, 0⟩]).sum = 0 := by simp [amts]; try omega
    have habs : absum (amts [⟨0, 0⟩, ⟨6, 0⟩]) ≤ 100000 := by simp [amts, absum]
    have W := Std_rev_e (q := 1) (c := c) (d := d) (b := b) (rc := rc) (sa := sa) (r0 := r0) (r1 := r1) (r2 := r2) (r3 := r3) (r4 := r4) (r5 := r5) (r6 := r6) (r7 := r7) (r8 := r8) (r9 := r9) (r10 := r10) (b2 := adds b [⟨0, 0⟩, ⟨6, 0⟩]) hc (by omega) ha (by omega) (by omega) (by omega) (by omega) (by omega) (by omega) (by omega) (by omega) (by omega) (by omega) (by omega) (by omega) hrcl hsal rfl hC (ck_post1 K.bl hB hSm hsum)
    refine ⟨_, _, _, _, _, _, W, K.next habs ha (.inl ⟨rfl, rfl⟩) (by omega) (by omega) (by omega) (by omega) ?_ (by simp [vtot_cons, vtot_nil]; try omega) (by simp [vtot_cons, vtot_nil]; try omega) ?_ (by simp [vtot_cons, vtot_nil]; try omega) rfl (by intro v hv; simp only [List.mem_cons, List.not_mem_nil, or_false] at hv; rcases hv with rfl | rfl | rfl | rfl | rfl | rfl | rfl | rfl | rfl | rfl | rfl <;> omega) hrcl hsal rfl⟩
    · rw [Int.mul_zero, Int.mul_zero]; simp [vtot_cons, vtot_nil]
    · rw [Int.mul_zero, Int.mul_zero]; simp [vtot_cons, vtot_nil]
  · have Hcn := mul_bd hc.1 hc.2 (show 0 ≤ n by omega) (show n ≤ 900 by omega)
    have Han := mul_bd ha.1 ha.2 (show 0 ≤ n by omega) (show n ≤ 900 by omega)
    have hSm : Small [⟨0, a * n - c * n⟩, ⟨6, c * n - a * n⟩] := by
      refine ⟨?_, by simp⟩
      intro x hx
      simp only [List.mem_cons, List.not_mem_nil, or_false] at hx
      rcases hx with rfl | rfl <;> simp only <;> omega
    have hsum : (amts [⟨0, a * n - c * n⟩, ⟨6, c * n - a * n⟩]).sum = 0 := by simp [amts]; try omega
    have habs : absum (amts [⟨0, a * n - c * n⟩, ⟨6, c * n - a * n⟩]) ≤ 100000 := by simp [amts, absum]; omega
    have W := Std_rev_l (q := 1) (n := n) (c := c) (d := d) (b := b) (rc := rc) (sa := sa) (r0 := r0) (r1 := r1) (r2 := r2) (r3 := r3) (r4 := r4) (r5 := r5) (r6 := r6) (r7 := r7) (r8 := r8) (r9 := r9) (r10 := r10) (b2 := adds b [⟨0, a * n - c * n⟩, ⟨6, c * n - a * n⟩]) hc (by omega) ha (by omega) (by omega) (by omega) (by omega) (by omega) (by omega) (by omega) (by omega) (by omega) (by omega) (by omega) (by omega) hrcl hsal (by omega) rfl rfl rfl rfl rfl rfl hC (ck_post1 K.bl hB hSm hsum)
    refine ⟨_, _, _, _, _, _, W, K.next habs ha (.inr ⟨by omega, rfl⟩) (by omega) (by omega) (by omega) (by omega) (by simp [vtot_cons, vtot_nil]; try omega) (by simp [vtot_cons, vtot_nil]; try omega) (by simp [vtot_cons, vtot_nil]; try omega) (by simp [vtot_cons, vtot_nil]; try omega) (by simp [vtot_cons, vtot_nil]; try omega) rfl (by intro v hv; simp only [List.mem_cons, List.not_mem_nil, or_false] at hv; rcases hv with rfl | rfl | rfl | rfl | rfl | rfl | rfl | rfl | rfl | rfl | rfl <;> omega) hrcl hsal rfl⟩
theorem kept0 : Kept 0 10 0 0 0 0 [⟨[], 0, 0, 0⟩, ⟨[], 0, 0, 0⟩] zeros17 zeros11 [] [] 0 := by
  have z17 : ∀ k : Nat, zeros17.getD k 0 = 0 := by
    intro k
    by_cases hk : k < 17
    · have : ∀ k : Fin 17, zeros17.getD k 0 = 0 := by decide
      exact this ⟨k, hk⟩
    · rw [List.getD, List.getElem?_eq_none (by simp [zeros17]; omega)]; rfl
  refine ⟨by omega, .inl ⟨rfl, rfl⟩, by omega, by omega, by omega, by omega, rfl, rfl, rfl, rfl, rfl, rfl, fun k _ => ?_, rfl, ?_, by simp, by simp, by omega⟩
  · rw [z17]; omega
  · intro v hv
    simp [zeros11] at hv
    omega
set_option maxHeartbeats 4000000
theorem walk0 (oA oR0O oR0E oR1O oR1E oSO oSE oCO oVO oX oXr oY oYr : Option (RT Out))
    (rA : @arunT bk_A Tryz.prog (@acallN bk_A Tryz.prog 100000 60) 100000 100 body (Ft.of 156 fi_A) (trOf bi_A) 0 = oA) (tA : stopB oA = true) (kA : (eqL (slotB [some 9] 16) (lOf oA) fo_A && blksB [some 9] (oT oA).get [some 9] bo_A) = true)
    (rR0O : @arunT bk_R0O Tryz.prog (@acallN bk_R0O Tryz.prog 100000 60) 100000 100 (oCode oA) (Ft.of 156 fi_R0O) (trOf bi_R0O) 1 = oR0O) (tR0O : doneB oR0O 0 = true) (kR0O : (eqL (slotB [some 0] 16) (lOf oR0O) fo_R0O && blksB [some 0] (oT oR0O).get [some 0] bo_R0O) = true)
    (rR0E : @arunT bk_R0E Tryz.prog (@acallN bk_R0E Tryz.prog 100000 60) 100000 100 (oCode oA) (Ft.of 156 fi_R0E) (trOf bi_R0E) 1 = oR0E) (tR0E : doneB oR0E 0 = true) (kR0E : (eqL (slotB [some 0] 16) (lOf oR0E) fo_R0E && blksB [some 0] (oT oR0E).get [some 0] bo_R0E) = true)
    (rR1O : @arunT bk_R1O Tryz.prog (@acallN bk_R1O Tryz.prog 100000 60) 100000 100 (oCode oA) (Ft.of 156 fi_R1O) (trOf bi_R1O) 1 = oR1O) (tR1O : doneB oR1O 0 = true) (kR1O : (eqL (slotB [some 0] 16) (lOf oR1O) fo_R1O && blksB [some 0] (oT oR1O).get [some 0] bo_R1O) = true)
    (rR1E : @arunT bk_R1E Tryz.prog (@acallN bk_R1E Tryz.prog 100000 60) 100000 100 (oCode oA) (Ft.of 156 fi_R1E) (trOf bi_R1E) 1 = oR1E) (tR1E : doneB oR1E 0 = true) (kR1E : (eqL (slotB [some 0] 16) (lOf oR1E) fo_R1E && blksB [some 0] (oT oR1E).get [some 0] bo_R1E) = true)
    (rSO : @arunT bk_SO Tryz.prog (@acallN bk_SO Tryz.prog 100000 60) 100000 100 (oCode oA) (Ft.of 156 fi_SO) (trOf bi_SO) 1 = oSO) (tSO : doneB oSO 0 = true) (kSO : (eqL (slotB [some 0] 16) (lOf oSO) fo_SO && blksB [some 0] (oT oSO).get [some 0] bo_SO) = true)
    (rSE : @arunT bk_SE Tryz.prog (@acallN bk_SE Tryz.prog 100000 60) 100000 100 (oCode oA) (Ft.of 156 fi_SE) (trOf bi_SE) 1 = oSE) (tSE : doneB oSE 0 = true) (kSE : (eqL (slotB [some 0] 16) (lOf oSE) fo_SE && blksB [some 0] (oT oSE).get [some 0] bo_SE) = true)
    (rCO : @arunT bk_CO Tryz.prog (@acallN bk_CO Tryz.prog 100000 60) 100000 100 (oCode oA) (Ft.of 156 fi_CO) (trOf bi_CO) 1 = oCO) (tCO : doneB oCO 0 = true) (kCO : (eqL (slotB [some 0] 16) (lOf oCO) fo_CO && blksB [some 0] (oT oCO).get [some 0] bo_CO) = true)
    (rVO : @arunT bk_VO Tryz.prog (@acallN bk_VO Tryz.prog 100000 60) 100000 100 (oCode oA) (Ft.of 156 fi_VO) (trOf bi_VO) 1 = oVO) (tVO : doneB oVO 0 = true) (kVO : (eqL (slotB [some 0] 16) (lOf oVO) fo_VO && blksB [some 0] (oT oVO).get [some 0] bo_VO) = true)
    (rX : @arunT bk_X Tryz.prog (@acallN bk_X Tryz.prog 100000 60) 100000 100 (oCode oA) (Ft.of 156 fi_X) (trOf bi_X) 1 = oX) (tX : doneB oX 2 = true) (kX : (eqL (slotB [some 0] 16) (lOf oX) fo_X && blksB [some 0] (oT oX).get [some 0] bo_X) = true)
    (rXr : @aresT bk_Xr Tryz.prog (@acallN bk_Xr Tryz.prog 100000 60) 100000 (oK oA) (.exit 0) (Ft.of 156 fi_Xr) (trOf bi_Xr) 1 = oXr) (tXr : doneB oXr 1 = true) (kXr : resultsA Tryz.prog Tryz.f7 (lOf oXr) (oT oXr).get = some (.c (.bool true)))
    (rY : @arunT bk_Y Tryz.prog (@acallN bk_Y Tryz.prog 100000 60) 100000 100 (oCode oA) (Ft.of 156 fi_Y) (trOf bi_Y) 1 = oY) (tY : doneB oY 2 = true) (kY : (eqL (slotB [some 0] 16) (lOf oY) fo_Y && blksB [some 0] (oT oY).get [some 0] bo_Y) = true)
    (rYr : @aresT bk_Yr Tryz.prog (@acallN bk_Yr Tryz.prog 100000 60) 100000 (oK oA) (.exit 0) (Ft.of 156 fi_Yr) (trOf bi_Yr) 1 = oYr) (tYr : doneB oYr 1 = true) (kYr : resultsA Tryz.prog Tryz.f7 (lOf oYr) (oT oYr).get = some (.c (.bool true)))
    {z : List Int} (hz : z.length ≤ 9223372036854775807) (hzI : AllI z) : CK Tryz.prog 7 [.lit 1 (intsR z)] (.c (.bool true)) := by
  refine CK.of_body Tryz.func7 (c := body) (by kernel_rfl) (cl_cons (cl_ints _).lit cl_nil) (.c _) fun A w0 a0 => ?_
  intro mm w a pr
  rw [Tryz.ntmps7] at pr
  refine go_A body oA rA tA kA hz (Start_one (by omega)) (pr := pr) ?_
  intro mm w a pr
  refine loop_rule (fun n1 a w => ∃ (j : Nat) (_ : j ≤ 60) (c n paid gone lost : Int) (pools : List PoolD) (b r : List Int) (rc : List RcD) (sa : List SaD) (d : Int), n1 = 60 - j ∧ Kept j c n paid gone lost pools b r rc sa d ∧ ∃ mm, @Pre bk0 ev0 A w0 a0 mm w a (headF z c n paid gone lost j) (hOf (headB (oneRw 4 c pools (intsR b) r (rcsR rc) (sasR sa) d)))) ?_ (n := 60) ⟨0, by omega, 10, 0, 0, 0, 0, _, _, _, [], [], 0, rfl, kept0, _, pr⟩
  rintro nn a w ⟨j, hj, c, n, paid, gone, lost, pools, b, r, rc, sa, d, rfl, K, mm, pr⟩
  have hc := K.hc
  have hp := K.pool
  have hnk := K.hn
  have hpaid := K.hpaid
  have hgone := K.hgone
  have hlost := K.hlost
  have hn0 : 0 ≤ n := by rcases hp with ⟨h, -⟩ | ⟨h, -⟩ <;> omega
  rcases (by omega : (z.length : Int) ≤ j ∨ ((j : Int) < z.length ∧ j = 60) ∨ ((j : Int) < z.length ∧ j < 60)) with h | ⟨h, h60⟩ | ⟨h, h60⟩
  · refine go_X (oCode oA) oX rX tX kX (by omega) hz h pr ?_
    intro mm w a pr
    exact go_Xr oA oXr rXr tXr kXr (by omega) hz h pr
  · refine go_Y (oCode oA) oY rY tY kY (by omega) hz h (by omega) pr ?_
    intro mm w a pr
    exact go_Yr oA oYr rYr tYr kYr (by omega) hz h (by omega) pr
  · have hlt : j < z.length := by omega
    obtain ⟨v, hv⟩ : ∃ v, z[j]? = some v := ⟨_, List.getElem?_eq_getElem hlt⟩
    have hvI : I64 v := hzI v (List.mem_of_getElem? hv)
    have hv' : z[(j : Int).toNat]? = some v := by simpa using hv
    have next : ∀ (c n paid gone lost i2 : Int) (pools : List PoolD) (b r : List Int) (rc : List RcD) (sa : List SaD) (d : Int), i2 = 1 + (j : Int) → Kept (j + 1) c n paid gone lost pools b r rc sa d → ∀ (mm : Nat → St) (w : World) (a : Act), @Pre bk0 ev0 A w0 a0 mm w a (headF z c n paid gone lost i2) (hOf (headB (oneRw 4 c pools (intsR b) r (rcsR rc) (sasR sa) d))) →
        ∃ n', n' < 60 - j ∧ ∃ (j' : Nat) (_ : j' ≤ 60) (c n paid gone lost : Int) (pools : List PoolD) (b r : List Int) (rc : List RcD) (sa : List SaD) (d : Int), n' = 60 - j' ∧ Kept j' c n paid gone lost pools b r rc sa d ∧ ∃ mm, @Pre bk0 ev0 A w0 a0 mm w a (headF z c n paid gone lost j') (hOf (headB (oneRw 4 c pools (intsR b) r (rcsR rc) (sasR sa) d))) := by
      intro c n paid gone lost i2 pools b r rc sa d hi2 K2 mm w a pr
      have e : i2 = ((j + 1 : Nat) : Int) := by rw [hi2]; simp; omega
      rw [e] at pr
      exact ⟨60 - (j + 1), by omega, j + 1, by omega, c, n, paid, gone, lost, pools, b, r, rc, sa, d, rfl, K2, mm, pr⟩
    rcases (by omega : v % 16777216 % 5 = 0 ∨ v % 16777216 % 5 = 1 ∨ v % 16777216 % 5 = 2 ∨ v % 16777216 % 5 = 3 ∨ v % 16777216 % 5 = 4) with hpar | hpar | hpar | hpar | hpar
    · rcases rec_step (q := (1 + v % 16777216 / 5 % 15)) (a := (v % 16777216 / 75 % 700)) K h60 (by omega) (by omega) with ⟨pools2, bb, r2, rc2, sa2, d2, hT, K2⟩ | ⟨f, f1, f2, hT⟩
      ·
        refine go_R0O (oCode oA) oR0O rR0O tR0O kR0O hc (by omega) (by omega) (by omega) (by omega) (by omega) h hz hvI hv' hpar K2.bl rfl rfl rfl (eI := c * (n + (1 + v % 16777216 / 5 % 15))) (by first | omega | (simp only [Int.mul_add, Int.mul_sub, Int.mul_one]; omega)) (eG := -(paid + (v % 16777216 / 75 % 700))) (by omega) (eV := (paid + (v % 16777216 / 75 % 700)) - c * (n + (1 + v % 16777216 / 5 % 15)) - gone - lost) (by first | omega | (simp only [Int.mul_add, Int.mul_sub, Int.mul_one]; omega)) rfl (some_of (by rw [K2.bl]; omega) K2.b0) (some_of (by rw [K2.bl]; omega) K2.b1) (some_of (by rw [K2.bl]; omega) K2.b5) (some_of (by rw [K2.bl]; omega) K2.b6) (some_of (by rw [K2.bl]; omega) K2.b8) hT pr ?_
        intro mm w a pr
        exact next _ _ _ _ _ _ _ _ _ _ _ _ rfl K2 mm w a pr
      · refine go_R0E (oCode oA) oR0E rR0E tR0E kR0E hc (by omega) (by omega) (by omega) (by omega) (by omega) h hz hvI hv' hpar ⟨f1, f2⟩ K.bl rfl (eI := c * n) (by omega) (eG := -paid) (by omega) (eV := paid - c * n - gone - lost) (by omega) rfl (some_of (by rw [K.bl]; omega) K.b0) (some_of (by rw [K.bl]; omega) K.b1) (some_of (by rw [K.bl]; omega) K.b5) (some_of (by rw [K.bl]; omega) K.b6) (some_of (by rw [K.bl]; omega) K.b8) hT pr ?_
        intro mm w a pr
        exact next _ _ _ _ _ _ _ _ _ _ _ _ rfl K.more mm w a pr
    · rcases rec_step (q := (1 + v % 16777216 / 5 % 15)) (a := (v % 16777216 / 75 % 700)) K h60 (by omega) (by omega) with ⟨pools2, bb, r2, rc2, sa2, d2, hT, K2⟩ | ⟨f, f1, f2, hT⟩
      ·
        refine go_R1O (oCode oA) oR1O rR1O tR1O kR1O hc (by omega) (by omega) (by omega) (by omega) (by omega) h hz hvI hv' hpar K2.bl rfl rfl rfl (eI := c * (n + (1 + v % 16777216 / 5 % 15))) (by first | omega | (simp only [Int.mul_add, Int.mul_sub, Int.mul_one]; omega)) (eG := -(paid + (v % 16777216 / 75 % 700))) (by omega) (eV := (paid + (v % 16777216 / 75 % 700)) - c * (n + (1 + v % 16777216 / 5 % 15)) - gone - lost) (by first | omega | (simp only [Int.mul_add, Int.mul_sub, Int.mul_one]; omega)) rfl (some_of (by rw [K2.bl]; omega) K2.b0) (some_of (by rw [K2.bl]; omega) K2.b1) (some_of (by rw [K2.bl]; omega) K2.b5) (some_of (by rw [K2.bl]; omega) K2.b6) (some_of (by rw [K2.bl]; omega) K2.b8) hT pr ?_
        intro mm w a pr
        exact next _ _ _ _ _ _ _ _ _ _ _ _ rfl K2 mm w a pr
      · refine go_R1E (oCode oA) oR1E rR1E tR1E kR1E hc (by omega) (by omega) (by omega) (by omega) (by omega) h hz hvI hv' hpar ⟨f1, f2⟩ K.bl rfl (eI := c * n) (by omega) (eG := -paid) (by omega) (eV := paid - c * n - gone - lost) (by omega) rfl (some_of (by rw [K.bl]; omega) K.b0) (some_of (by rw [K.bl]; omega) K.b1) (some_of (by rw [K.bl]; omega) K.b5) (some_of (by rw [K.bl]; omega) K.b6) (some_of (by rw [K.bl]; omega) K.b8) hT pr ?_
        intro mm w a pr
        exact next _ _ _ _ _ _ _ _ _ _ _ _ rfl K.more mm w a pr
    · rcases sell_step (q := (1 + v % 16777216 / 5 % 15)) (a := 0) K h60 (by omega) with ⟨pools2, bb, r2, rc2, sa2, d2, hT, K2⟩ | ⟨f, f1, f2, hT⟩
      ·
        refine go_SO (oCode oA) oSO rSO tSO kSO hc (by omega) (by omega) (by omega) (by omega) (by omega) h hz hvI hv' hpar K2.bl rfl rfl (gone2 := gone + c * (1 + v % 16777216 / 5 % 15)) (by simp only [Int.mul_add, Int.mul_one]; omega) (eI := c * (n - (1 + v % 16777216 / 5 % 15))) (by first | omega | (simp only [Int.mul_add, Int.mul_sub, Int.mul_one]; omega)) (eG := -paid) (by omega) (eC := (gone + c * (1 + v % 16777216 / 5 % 15))) (by first | omega | (simp only [Int.mul_add, Int.mul_sub, Int.mul_one]; omega)) (eV := paid - c * (n - (1 + v % 16777216 / 5 % 15)) - (gone + c * (1 + v % 16777216 / 5 % 15)) - lost) (by first | omega | (simp only [Int.mul_add, Int.mul_sub, Int.mul_one]; omega)) rfl (some_of (by rw [K2.bl]; omega) K2.b0) (some_of (by rw [K2.bl]; omega) K2.b1) (some_of (by rw [K2.bl]; omega) K2.b5) (some_of (by rw [K2.bl]; omega) K2.b6) (some_of (by rw [K2.bl]; omega) K2.b8) hT pr ?_
        intro mm w a pr
        exact next _ _ _ _ _ _ _ _ _ _ _ _ rfl K2 mm w a pr
      · refine go_SE (oCode oA) oSE rSE tSE kSE hc (by omega) (by omega) (by omega) (by omega) (by omega) h hz hvI hv' hpar ⟨f1, f2⟩ K.bl rfl (eI := c * n) (by omega) (eG := -paid) (by omega) (eV := paid - c * n - gone - lost) (by omega) rfl (some_of (by rw [K.bl]; omega) K.b0) (some_of (by rw [K.bl]; omega) K.b1) (some_of (by rw [K.bl]; omega) K.b5) (some_of (by rw [K.bl]; omega) K.b6) (some_of (by rw [K.bl]; omega) K.b8) hT pr ?_
        intro mm w a pr
        exact next _ _ _ _ _ _ _ _ _ _ _ _ rfl K.more mm w a pr
    · obtain ⟨pools2, bb, r2, rc2, sa2, d2, hT, K2⟩ := count_step (q := (1 + v % 16777216 / 5 % 15)) (a := 0) K h60 (by omega)
      ·
        refine go_CO (oCode oA) oCO rCO tCO kCO hc (by omega) (by omega) (by omega) (by omega) (by omega) h hz hvI hv' hpar K2.bl rfl (lost2 := lost + (c * n - c * (1 + v % 16777216 / 5 % 15))) (by simp only [Int.mul_add, Int.mul_one]; omega) (eI := c * (1 + v % 16777216 / 5 % 15)) (by first | omega | (simp only [Int.mul_add, Int.mul_sub, Int.mul_one]; omega)) (eG := -paid) (by omega) (eV := paid - c * (1 + v % 16777216 / 5 % 15) - gone - (lost + (c * n - c * (1 + v % 16777216 / 5 % 15)))) (by first | omega | (simp only [Int.mul_add, Int.mul_sub, Int.mul_one]; omega)) (eL := (lost + (c * n - c * (1 + v % 16777216 / 5 % 15)))) (by first | omega | (simp only [Int.mul_add, Int.mul_sub, Int.mul_one]; omega)) rfl (some_of (by rw [K2.bl]; omega) K2.b0) (some_of (by rw [K2.bl]; omega) K2.b1) (some_of (by rw [K2.bl]; omega) K2.b5) (some_of (by rw [K2.bl]; omega) K2.b6) (some_of (by rw [K2.bl]; omega) K2.b8) hT pr ?_
        intro mm w a pr
        exact next _ _ _ _ _ _ _ _ _ _ _ _ rfl K2 mm w a pr
    · obtain ⟨pools2, bb, r2, rc2, sa2, d2, hT, K2⟩ := rev_step (q := 1) (a := (v % 16777216 / 75 % 40)) K h60 (by omega)
      ·
        refine go_VO (oCode oA) oVO rVO tVO kVO hc (by omega) (by omega) (by omega) (by omega) (by omega) h hz hvI hv' hpar K2.bl rfl  (eI := (v % 16777216 / 75 % 40) * n) (by first | omega | (rw [Int.mul_comm (v % 16777216 / 75 % 40) n]; omega)) (eG := -paid) (by omega) (eV := paid - (v % 16777216 / 75 % 40) * n - gone - lost) (by first | omega | (rw [Int.mul_comm (v % 16777216 / 75 % 40) n]; omega)) rfl (some_of (by rw [K2.bl]; omega) K2.b0) (some_of (by rw [K2.bl]; omega) K2.b1) (some_of (by rw [K2.bl]; omega) K2.b5) (some_of (by rw [K2.bl]; omega) K2.b6) (some_of (by rw [K2.bl]; omega) K2.b8) hT pr ?_
        intro mm w a pr
        exact next _ _ _ _ _ _ _ _ _ _ _ _ rfl K2 mm w a pr
theorem law {z : List Int} (hz : z.length ≤ 9223372036854775807) (hzI : AllI z) : CK Tryz.prog 7 [.lit 1 (intsR z)] (.c (.bool true)) :=
  walk0 s_A s_R0O s_R0E s_R1O s_R1E s_SO s_SE s_CO s_VO s_X s_Xr s_Y s_Yr rfl end_A look_A rfl end_R0O look_R0O rfl end_R0E look_R0E rfl end_R1O look_R1O rfl end_R1E look_R1E rfl end_SO look_SO rfl end_SE look_SE rfl end_CO look_CO rfl end_VO look_VO rfl end_X look_X rfl end_Xr res_Xr rfl end_Y look_Y rfl end_Yr res_Yr hz hzI
end Stdl
theorem TopStandard_walk (a1 : Option Addr) (len1 cap1 : Nat) (z1 : List Int) (w : World) (h1 : Row w 1 a1 len1 cap1 z1) : Calls Tryz.prog 7 #[.slice a1 len1 cap1] w fun e w' => e = .returned (.bool true) ∧ Below w.heap.size w w' := by
  have hl : z1.length = len1 := by have := h1.len; omega
  refine calls_of_ck (Stdl.law (z := z1) ?_ h1.all) w _ rfl ?_
  · have h2 := h1.le
    have h3 := h1.max
    unfold maxLen at h3
    omega
  · intro i x hx
    match i, hx with
    | 0, hx => cases hx; exact rdl_ints h1
end Go.Proofs.YtnalblnmplnhmaaGreat
