/-
  What a split comes to: all of it, fairly. No program in sight.
-/
import Derived.Test.YtanmfhdljgphhaaPart3
set_option linter.unusedVariables false
set_option linter.unusedSimpArgs false
namespace Go.Proofs.Ytanmfhdljgphhaa

theorem getD_set (l : List Int) (i j : Nat) (v : Int) (hi : i < l.length) : (l.set i v).getD j 0 = if i = j then v else l.getD j 0 := by
  rw [List.getD_eq_getElem?_getD, List.getD_eq_getElem?_getD, List.getElem?_set]
  by_cases h : i = j
  · subst h; simp [hi]
  · simp [h]
theorem bump_get : ∀ (ps : List Nat) (l : List Int) (i : Nat), (∀ p, p ∈ ps → p < l.length) → (bump l ps).getD i 0 = l.getD i 0 + (ps.count i : Int)
  | [], l, i, h => by simp [bump]
  | p :: ps, l, i, h => by
    have hp := h p (by simp)
    have ih := bump_get ps (l.set p (l.getD p 0 + 1)) i (fun q hq => by rw [List.length_set]; exact h q (by simp [hq]))
    have e : bump l (p :: ps) = bump (l.set p (l.getD p 0 + 1)) ps := rfl
    rw [e, ih, getD_set _ _ _ _ hp, List.count_cons]
    by_cases hpi : p = i
    · subst hpi; simp; omega
    · simp [hpi]
theorem sum_set (l : List Int) : ∀ (i : Nat) (v : Int), i < l.length → (l.set i v).sum = l.sum - l.getD i 0 + v := by
  induction l with
  | nil => intro i v h; simp at h
  | cons x l ih =>
    intro i v h
    cases i with
    | zero => simp; omega
    | succ i =>
      have := ih i v (by simpa using h)
      simp only [List.set_cons_succ, List.sum_cons, this]
      simp
      omega
theorem bump_sum : ∀ (ps : List Nat) (l : List Int), (∀ p, p ∈ ps → p < l.length) → (bump l ps).sum = l.sum + (ps.length : Int)
  | [], l, h => by simp [bump]
  | p :: ps, l, h => by
    have hp := h p (by simp)
    have ih := bump_sum ps (l.set p (l.getD p 0 + 1)) (fun q hq => by rw [List.length_set]; exact h q (by simp [hq]))
    have e : bump l (p :: ps) = bump (l.set p (l.getD p 0 + 1)) ps := rfl
    rw [e, ih, sum_set _ _ _ hp, List.length_cons]
    omega
theorem quo_rem (t s : Int) : ∀ (ws : List Int), t * ws.sum = (quoL t s ws).sum * s + (remL t s ws).sum
  | [] => by simp [quoL, remL]
  | x :: ws => by
    have ih := quo_rem t s ws
    have h := Int.mul_ediv_add_emod (t * x) s
    simp only [quoL, remL, List.map_cons, List.sum_cons] at ih ⊢
    rw [Int.mul_add, Int.add_mul, ih]
    have e : s * (t * x / s) = t * x / s * s := Int.mul_comm _ _
    omega
theorem stab_range {n : Nat} {key : Nat → Int} {m : List Nat} (h : Stab key (List.range n) m) : m.Nodup ∧ ∀ i, i ∈ m ↔ i < n := by
  refine ⟨?_, fun i => (Stab.mem h).trans List.mem_range⟩
  rw [List.nodup_iff_count]
  intro a
  have hk := h (key a)
  have c1 : m.count a = (m.filter fun x => key x == key a).count a := by rw [List.count_filter]; simp
  have c2 : (List.range n).count a = ((List.range n).filter fun x => key x == key a).count a := by rw [List.count_filter]; simp
  rw [c1, hk, ← c2]
  exact List.nodup_iff_count.1 List.nodup_range a
/-- Who comes ahead of one of the first is one of the first. -/
theorem first_of {n : Nat} {key : Nat → Int} {m : List Nat} (hr : Rises key m) (hs : Stab key (List.range n) m) {L i k : Nat} (hi : i ∈ m.take L) (hk : k < n) (h : key k < key i ∨ (key k = key i ∧ k < i)) : k ∈ m.take L := by
  have hm : m = m.take L ++ m.drop L := (List.take_append_drop L m).symm
  have hkm : k ∈ m := ((stab_range hs).2 k).2 hk
  rw [hm] at hkm
  rcases List.mem_append.1 hkm with h1 | h1
  · exact h1
  · exfalso
    rw [hm] at hr
    have hle := (Rises.app.1 hr).2.2 i hi k h1
    have he : key k = key i ∧ k < i := by
      rcases h with h | h
      · omega
      · exact h
    have hf := hs (key i)
    rw [hm, List.filter_append] at hf
    have hp : ((List.range n).filter fun x => key x == key i).Pairwise (· < ·) := (List.pairwise_lt_range (n := n)).filter _
    rw [← hf] at hp
    have := (List.pairwise_append.1 hp).2.2 i (List.mem_filter.2 ⟨hi, by simp⟩) k (List.mem_filter.2 ⟨h1, by simp [he.1]⟩)
    omega
/-- How many get one more. -/
def moreN (t s : Int) (ws : List Int) : Nat := (min (t - (quoL t s ws).sum) ws.length).toNat
theorem rem_le (t s : Int) (hs : 0 < s) : ∀ (ws : List Int), 0 ≤ (remL t s ws).sum ∧ (remL t s ws).sum ≤ (s - 1) * ws.length
  | [] => by simp [remL]
  | x :: ws => by
    have ih := rem_le t s hs ws
    have h1 := Int.emod_nonneg (t * x) (show s ≠ 0 by omega)
    have h2 := Int.emod_lt_of_pos (t * x) hs
    simp only [remL, List.map_cons, List.sum_cons, List.length_cons] at ih ⊢
    have e : (s - 1) * ((ws.length + 1 : Nat) : Int) = (s - 1) * (ws.length : Int) + (s - 1) := by rw [Int.natCast_add, Int.mul_add]; simp
    omega
theorem more_ok {t s : Int} {ws : List Int} (h : SplitOk t ws s) : (moreN t s ws : Int) = t - (quoL t s ws).sum ∧ moreN t s ws ≤ ws.length ∧ (moreN t s ws : Int) * s = (remL t s ws).sum := by
  have hs : 0 < s := by have := h.s0; omega
  have a := h.left ws.length
  rw [List.take_length] at a
  have b := quo_rem t s ws
  rw [h.sum] at b
  have c := rem_le t s hs ws
  have e : (t - (quoL t s ws).sum) * s = (remL t s ws).sum := by rw [Int.sub_mul]; omega
  have d : t - (quoL t s ws).sum ≤ ws.length := by
    rcases Int.lt_or_le (ws.length : Int) (t - (quoL t s ws).sum) with h1 | h1
    · exfalso
      have h2 : (ws.length : Int) * s ≤ (t - (quoL t s ws).sum) * s := Int.mul_le_mul_of_nonneg_right (by omega) (by omega)
      have h3 : ((ws.length : Int) + 1) * s ≤ (t - (quoL t s ws).sum) * s := Int.mul_le_mul_of_nonneg_right (by omega) (by omega)
      have h4 : (s - 1) * (ws.length : Int) = (ws.length : Int) * s - (ws.length : Int) := by rw [Int.sub_mul, Int.mul_comm]; omega
      rw [Int.add_mul] at h3
      omega
    · exact h1
  have f : (moreN t s ws : Int) = t - (quoL t s ws).sum := by unfold moreN; omega
  exact ⟨f, by omega, by rw [f]; exact e⟩
theorem quoL_get {t s : Int} {ws : List Int} {i : Nat} (hi : i < ws.length) : (quoL t s ws).getD i 0 = t * ws.getD i 0 / s := by
  simp [quoL, List.getD_eq_getElem?_getD, hi]
theorem remL_get {t s : Int} {ws : List Int} {i : Nat} (hi : i < ws.length) : (remL t s ws).getD i 0 = t * ws.getD i 0 % s := by
  simp [remL, List.getD_eq_getElem?_getD, hi]
theorem quoL_len (t s : Int) (ws : List Int) : (quoL t s ws).length = ws.length := by simp [quoL]
theorem remL_len (t s : Int) (ws : List Int) : (remL t s ws).length = ws.length := by simp [remL]

theorem nodup_sub : ∀ (l m : List Nat), l.Nodup → (∀ x, x ∈ l → x ∈ m) → l.length ≤ m.length
  | [], m, _, _ => by simp
  | x :: l, m, h, hm => by
    have h' := List.nodup_cons.1 h
    have hx := hm x (by simp)
    have ih := nodup_sub l (m.erase x) h'.2 fun y hy => (List.mem_erase_of_ne (by rintro rfl; exact h'.1 hy)).2 (hm y (by simp [hy]))
    rw [List.length_erase_of_mem hx] at ih
    have := List.length_pos_of_mem hx
    simp only [List.length_cons]
    omega

/-- What each has got. -/
structure Fair (t s : Int) (ws A : List Int) : Prop where
  len : A.length = ws.length
  sum : A.sum = t
  one : ∀ i, i < ws.length → A.getD i 0 = t * ws.getD i 0 / s ∨ A.getD i 0 = t * ws.getD i 0 / s + 1
  none : ∀ i, i < ws.length → ws.getD i 0 = 0 → A.getD i 0 = 0
  mono : ∀ i k, k < i → i < ws.length → ws.getD i 0 ≤ ws.getD k 0 → A.getD i 0 ≤ A.getD k 0

/-- If all that is left is nothing but at some places, the first are among these. -/
theorem sum_pos_count (l : List Int) (s : Int) (hl : ∀ z, z ∈ l → 0 ≤ z ∧ z < s) : l.sum ≤ (s - 1) * ((l.filter fun z => decide (0 < z)).length : Int) := by
  induction l with
  | nil => simp
  | cons z l ih =>
    have ih := ih fun y hy => hl y (by simp [hy])
    have hz := hl z (by simp)
    by_cases h : 0 < z
    · rw [List.filter_cons_of_pos (by simpa using h), List.sum_cons, List.length_cons]
      have e : (s - 1) * (((l.filter fun z => decide (0 < z)).length + 1 : Nat) : Int) = (s - 1) * ((l.filter fun z => decide (0 < z)).length : Int) + (s - 1) := by rw [Int.natCast_add, Int.mul_add]; simp
      omega
    · rw [List.filter_cons_of_neg (by simpa using h), List.sum_cons]
      omega
theorem filter_range_get (l : List Int) (p : Int → Bool) : ((List.range l.length).filter fun i => p (l.getD i 0)).length = (l.filter p).length := by
  have : l = (List.range l.length).map fun i => l.getD i 0 := by
    apply List.ext_getElem
    · simp
    · intro i h1 h2
      simp [List.getD_eq_getElem?_getD, h1]
  conv => rhs; rw [this]
  rw [List.filter_map, List.length_map]
  rfl
theorem fair_of {t s : Int} {ws : List Int} {m : List Nat} (h : SplitOk t ws s) (hr : Rises (keyN (remL t s ws)) m) (hs : Stab (keyN (remL t s ws)) (List.range ws.length) m) :
    Fair t s ws (bump (quoL t s ws) (m.take (moreN t s ws))) := by
  have hs0 : 0 < s := by have := h.s0; omega
  obtain ⟨nd, mem⟩ := stab_range hs
  obtain ⟨L1, L2, L3⟩ := more_ok h
  obtain ⟨L, hL⟩ : ∃ L, moreN t s ws = L := ⟨_, rfl⟩
  rw [hL] at L1 L2 L3 ⊢
  have hml : m.length = ws.length := by
    have := (List.perm_ext_iff_of_nodup nd List.nodup_range).2 fun i => (mem i).trans List.mem_range.symm
    rw [this.length_eq, List.length_range]
  have hin : ∀ p, p ∈ m.take L → p < (quoL t s ws).length := fun p hp => by rw [quoL_len]; exact (mem p).1 (List.mem_of_mem_take hp)
  have hcnt : ∀ i, (m.take L).count i = if i ∈ m.take L then 1 else 0 := fun i => by
    have h1 := List.nodup_iff_count.1 (nd.sublist (List.take_sublist L m)) i
    by_cases h2 : i ∈ m.take L
    · have := List.count_pos_iff.2 h2
      rw [if_pos h2]; omega
    · rw [if_neg h2, List.count_eq_zero.2 h2]
  have hget : ∀ i, i < ws.length → (bump (quoL t s ws) (m.take L)).getD i 0 = t * ws.getD i 0 / s + if i ∈ m.take L then 1 else 0 := fun i hi => by
    rw [bump_get _ _ _ hin, quoL_get hi, hcnt]
    split <;> rfl
  have hwpos : ∀ i, i < ws.length → 0 ≤ ws.getD i 0 := fun i hi => by
    have : ws.getD i 0 ∈ ws := by rw [List.getD_eq_getElem?_getD, List.getElem?_eq_getElem hi]; exact List.getElem_mem hi
    exact (h.all _ this).1
  have hkey : ∀ i, i < ws.length → keyN (remL t s ws) i = -(t * ws.getD i 0 % s) := fun i hi => by unfold keyN; rw [remL_get hi]
  have hpos : ∀ i, i ∈ m.take L → 0 < t * ws.getD i 0 % s := by
    intro i hi
    have hiw : i < ws.length := (mem i).1 (List.mem_of_mem_take hi)
    rcases Int.lt_or_le 0 (t * ws.getD i 0 % s) with h1 | h1
    · exact h1
    · exfalso
      have h0 := Int.emod_nonneg (t * ws.getD i 0) (show s ≠ 0 by omega)
      have hsub : ∀ k, k ∈ ((List.range ws.length).filter fun k => decide (0 < (remL t s ws).getD k 0)) → k ∈ (m.take L).erase i := by
        intro k hk
        obtain ⟨hk1, hk2⟩ := List.mem_filter.1 hk
        have hkw := List.mem_range.1 hk1
        simp only [decide_eq_true_eq] at hk2
        rw [remL_get hkw] at hk2
        have : k ∈ m.take L := first_of hr hs hi hkw (.inl (by rw [hkey k hkw, hkey i hiw]; omega))
        exact (List.Nodup.mem_erase_iff (nd.sublist (List.take_sublist L m))).2 ⟨by rintro rfl; omega, this⟩
      have hlen : ((List.range ws.length).filter fun k => decide (0 < (remL t s ws).getD k 0)).length ≤ ((m.take L).erase i).length := by
        have nd2 : ((List.range ws.length).filter fun k => decide (0 < (remL t s ws).getD k 0)).Nodup := List.nodup_range.filter _
        exact nodup_sub _ _ nd2 hsub
      have hl2 : ((m.take L).erase i).length + 1 = L := by
        rw [List.length_erase_of_mem hi, List.length_take]
        have := List.length_pos_of_mem hi
        rw [List.length_take] at this
        omega
      have hc := sum_pos_count (remL t s ws) s (fun z hz => by
        obtain ⟨x, hx, rfl⟩ := List.mem_map.1 hz
        exact ⟨Int.emod_nonneg _ (by omega), Int.emod_lt_of_pos _ hs0⟩)
      have e1 := filter_range_get (remL t s ws) fun z => decide (0 < z)
      rw [remL_len] at e1
      rw [← e1] at hc
      obtain ⟨c, hcE⟩ : ∃ c, ((List.range ws.length).filter fun k => decide (0 < (remL t s ws).getD k 0)).length = c := ⟨_, rfl⟩
      rw [hcE] at hc hlen
      have h5 : (s - 1) * (c : Int) ≤ (s - 1) * ((L : Int) - 1) := Int.mul_le_mul_of_nonneg_left (by omega) (by omega)
      have h6 : (s - 1) * ((L : Int) - 1) = (L : Int) * s - s - L + 1 := by rw [Int.sub_mul, Int.mul_sub, Int.mul_comm s]; omega
      have hL1 : 1 ≤ L := by omega
      omega
  refine ⟨by rw [bump_len, quoL_len], ?_, fun i hi => ?_, fun i hi h0 => ?_, fun i k hki hi hle => ?_⟩
  · rw [bump_sum _ _ hin, List.length_take, hml]
    omega
  · rw [hget i hi]
    split <;> omega
  · rw [hget i hi, h0]
    have : i ∉ m.take L := fun hm => by have := hpos i hm; rw [h0] at this; simp at this
    rw [if_neg this]
    simp
  · have hk : k < ws.length := by omega
    rw [hget i hi, hget k hk]
    have hq : t * ws.getD i 0 / s ≤ t * ws.getD k 0 / s := Int.ediv_le_ediv hs0 (Int.mul_le_mul_of_nonneg_left hle h.t0)
    by_cases hiL : i ∈ m.take L
    · rw [if_pos hiL]
      by_cases hqe : t * ws.getD i 0 / s = t * ws.getD k 0 / s
      · have d1 := Int.mul_ediv_add_emod (t * ws.getD i 0) s
        have d2 := Int.mul_ediv_add_emod (t * ws.getD k 0) s
        have d3 : t * ws.getD i 0 ≤ t * ws.getD k 0 := Int.mul_le_mul_of_nonneg_left hle h.t0
        rw [hqe] at d1
        have hkL : k ∈ m.take L := first_of hr hs hiL hk (by
          rw [hkey k hk, hkey i hi]
          rcases Int.lt_or_le (t * ws.getD i 0 % s) (t * ws.getD k 0 % s) with g | g
          · exact .inl (by omega)
          · exact .inr ⟨by omega, hki⟩)
        rw [if_pos hkL]
        omega
      · split <;> omega
    · rw [if_neg hiL]
      split <;> omega

/-- All alike. -/
theorem even_ok (k : Nat) (t : Int) (hk : 1 ≤ k) (hk2 : k ≤ 1000) (ht : 0 ≤ t) (ht2 : t ≤ 1152921504606846976 / 8) : badS t (List.replicate k 7) = false ∧ sumE (List.replicate k 7) = 0 := by
  have hg : ∀ (k : Nat) (n : Int), 0 ≤ n → n + 7 * k ≤ 1000000 → sumGo n (List.replicate k 7) = some (n + 7 * k) := by
    intro k
    induction k with
    | zero => intro n _ _; simp [sumGo]
    | succ k ih =>
      intro n h0 h1
      have : addOk n 7 = true := addOk_iff.2 ⟨inB_iff.2 (by omega), by decide +kernel, inB_iff.2 (by omega)⟩
      rw [List.replicate_succ, sumGo, if_pos this, ih (n + 7) (by omega) (by omega)]
      congr 1
      omega
  refine ⟨?_, by unfold sumE; rw [hg k 0 (by omega) (by omega)]; rfl⟩
  unfold badS
  have h1 : wrongI t = false := by simp [wrongI]; omega
  have h2 : (List.replicate k (7 : Int)).any wrongI = false := by
    rw [List.any_eq_false]; intro x hx; rw [List.eq_of_mem_replicate hx]; decide
  have h3 : (List.replicate k (7 : Int)).any someI = true := List.any_eq_true.2 ⟨7, List.mem_replicate.2 ⟨by omega, rfl⟩, by decide⟩
  rw [h1, h2, h3]
  rfl
theorem even_law {k : Nat} {t : Int} {m : List Nat} (hk : 1 ≤ k) (hk2 : k ≤ 1000) (ht : 0 ≤ t) (ht2 : t ≤ 1152921504606846976 / 8)
    (hr : Rises (keyN (remL t (sumV (List.replicate k 7)) (List.replicate k 7))) m) (hs : Stab (keyN (remL t (sumV (List.replicate k 7)) (List.replicate k 7))) (List.range (List.replicate k (7 : Int)).length) m) (i : Nat) (hi : i < k) :
    (bump (quoL t (sumV (List.replicate k 7)) (List.replicate k 7)) (m.take (moreN t (sumV (List.replicate k 7)) (List.replicate k 7)))).getD i 0 = t / k + if (i : Int) < t % k then 1 else 0 := by
  obtain ⟨hb, he⟩ := even_ok k t hk hk2 ht ht2
  have hO := SplitOk.of hb he
  obtain ⟨L1, L2, L3⟩ := more_ok hO
  have hm : m = List.range k := by
    have hg : ∀ i, i < (List.replicate k (7 : Int)).length → (remL t (sumV (List.replicate k 7)) (List.replicate k 7)).getD i 0 = t * 7 % (sumV (List.replicate k 7)) := fun i hi => by
      rw [remL_get hi]; congr 2; simp at hi; simp [List.getD_eq_getElem?_getD, hi]
    have := places_same hg hr hs
    rwa [List.length_replicate] at this
  subst hm
  have hsum : (List.replicate k (7 : Int)).sum = 7 * k := by simp [List.sum_replicate_int]; omega
  have hV : sumV (List.replicate k 7) = 7 * (k : Int) := by rw [← hO.sum, hsum]
  rw [hV] at L1 L2 L3 ⊢
  have hq : ∀ j, j < k → (quoL t (7 * (k : Int)) (List.replicate k 7)).getD j 0 = t / k := fun j hj => by
    rw [quoL_get (by simpa using hj)]
    have : (List.replicate k (7 : Int)).getD j 0 = 7 := by simp [List.getD_eq_getElem?_getD, hj]
    rw [this, Int.mul_comm, Int.mul_ediv_mul_of_pos _ _ (by omega)]
  have hqs : (quoL t (7 * (k : Int)) (List.replicate k 7)).sum = k * (t / k) := by
    have : quoL t (7 * (k : Int)) (List.replicate k 7) = List.replicate k (t / k) := by
      unfold quoL
      rw [List.map_replicate, Int.mul_comm, Int.mul_ediv_mul_of_pos _ _ (by omega)]
    rw [this]
    simp [List.sum_replicate_int]
  have hdm := Int.mul_ediv_add_emod t k
  have hL : (moreN t (7 * (k : Int)) (List.replicate k 7) : Int) = t % k := by rw [L1, hqs]; omega
  have hlt := Int.emod_lt_of_pos t (show (0 : Int) < k by omega)
  have hge := Int.emod_nonneg t (show (k : Int) ≠ 0 by omega)
  rw [List.take_range, bump_get _ _ _ (fun p hp => by rw [quoL_len, List.length_replicate]; have := List.mem_range.1 hp; omega), hq i hi]
  congr 1
  by_cases hc : (i : Int) < t % k
  · have h1 := List.nodup_iff_count.1 (List.nodup_range (n := min (moreN t (7 * (k : Int)) (List.replicate k 7)) k)) i
    have h2 := List.count_pos_iff.2 (List.mem_range.2 (show i < min (moreN t (7 * (k : Int)) (List.replicate k 7)) k by omega))
    rw [if_pos hc]
    omega
  · rw [if_neg hc, List.count_eq_zero.2 (fun hm => by have := List.mem_range.1 hm; omega)]; rfl
end Go.Proofs.Ytanmfhdljgphhaa
