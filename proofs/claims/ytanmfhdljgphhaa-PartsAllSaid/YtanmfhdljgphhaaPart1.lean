/-
  parts.Split: the questions asked of a number; what comes of a split.
-/
import Derived.Test.YtanmfhdljgphhaaInt4
set_option linter.unusedVariables false
set_option linter.unusedSimpArgs false
namespace Go.Proofs.Ytanmfhdljgphhaa
open Go.RowKit

/-- Function F asks p of a number. -/
structure PredI (F : FuncId) (p : Int → Bool) : Prop where
  ent : ∀ (args : Array Value) (W : World), (callFunc F args).run Try.prog W = .ok (.enter F args) W
  ask : ∀ (x : Int) (W : World), Calls Try.prog F #[.int .i64 x] W fun e w' => e = .returned (.bool (p x)) ∧ W = w'
def wrongI (v : Int) : Bool := decide (v < 0) || decide (288230376151711744 < v)
def someI (v : Int) : Bool := decide (v ≠ 0)
theorem predI_1 : PredI 12 wrongI := by
  refine ⟨fun args W => by kernel_rfl, fun x W => ?_⟩
  by_cases h1 : x < 0
  all_goals
    by_cases h2 : 288230376151711744 < x
    all_goals
      go_enter Try.func12, Try.ntmps12
      go_wp2_with fail
      go_ret
      exact ⟨ret_bool (by simp [wrongI, h1, h2]), rfl⟩
theorem predI_2 : PredI 13 someI := by
  refine ⟨fun args W => by kernel_rfl, fun x W => ?_⟩
  go_enter Try.func13, Try.ntmps13
  go_wp2_with fail
  go_ret
  exact ⟨ret_bool (by rw [Bool.eq_iff_iff]; simp [someI]), rfl⟩

def idxI (p : Int → Bool) (l : List Int) : Int := match l.findIdx? p with | some i => (i : Int) | none => -1
theorem idxI_at {p : Int → Bool} {l : List Int} {j : Nat} {x : Int} (hx : l[j]? = some x) (hp : p x = true) (ht : (l.take j).all (fun y => !p y) = true) : idxI p l = j := by
  have : l.findIdx? p = some j := by
    rw [List.findIdx?_eq_some_iff_getElem]
    obtain ⟨hj, rfl⟩ := List.getElem?_eq_some_iff.1 hx
    refine ⟨hj, hp, fun i hi => ?_⟩
    have := List.all_eq_true.1 ht l[i] (List.mem_take_iff_getElem.2 ⟨i, by omega, rfl⟩)
    simpa using this
  simp [idxI, this]
theorem idxI_none {p : Int → Bool} {l : List Int} (h : l.all (fun y => !p y) = true) : idxI p l = -1 := by
  have : l.findIdx? p = none := by
    rw [List.findIdx?_eq_none_iff]
    intro x hx
    have := List.all_eq_true.1 h x hx
    simpa using this
  simp [idxI, this]
theorem idx_funcI {F : FuncId} {p : Int → Bool} (hF : PredI F p) (a : Option Addr) (n cap : Nat) (l : List Int) (w : World) (h : Row w 1 a n cap l) :
    Calls Try.prog 21 #[.slice a n cap, .func (.func F) #[] #[]] w fun e w' => e = .returned (.int .i64 (idxI p l)) ∧ w = w' := by
  go_enter Try.func21, Try.ntmps21
  obtain ⟨hl, hcap, hmax, hall, hat⟩ := h
  unfold maxLen at hmax
  have hl : l.length = n := by omega
  have hlh := Lib.hid hl
  clear hl
  have hent := hF.ent
  have hFh := Lib.hid hF.ask
  clear hF
  go_wp2_with fail
  go_loop [8] (fun i => ∃ j : Nat, j ≤ n ∧ i = .int .i64 j ∧ Hid ((l.take j).all (fun y => !p y) = true)) (fun i => n - (intOf i).toNat)
  case atStart => exact ⟨0, by omega, rfl, rfl⟩
  case round =>
    obtain ⟨j, hj, rfl, T⟩ := hrel
    by_cases hlt : j < n
    · obtain ⟨b, off, rfl, hb, hc⟩ : ∃ b off, a = some ⟨b, off, none⟩ ∧ b < w.heap.size ∧ CellsAt w b off l := by
        rcases hat with h0 | h0
        · omega
        · exact h0
      have hjl : j < l.length := by rw [hlh.out]; exact hlt
      obtain ⟨x, hx⟩ : ∃ x, l[j]? = some x := ⟨l[j], by simp [hjl]⟩
      have c0 : w.cell? ⟨b, off + j, none⟩ = some (.int .i64 x) := by rw [hc j hjl, List.getD_eq_getElem?_getD, hx]; rfl
      have hlt' : (j : Int) < (n : Int) := by omega
      have hxh := Lib.hid hx
      have hj0 : (0 : Int) ≤ (j : Int) := by omega
      clear hc hat hx hjl
      go_wp2_with fail
      refine (hFh.out x _).mono ?_
      rintro e w' ⟨rfl, rfl⟩
      cases hp : p x
      · have T2 : Hid ((l.take (j + 1)).all (fun y => !p y) = true) := by
          rw [Hid, List.take_add_one, hxh.out]
          simp only [Option.toList_some, List.all_append, T.out, List.all_cons, List.all_nil, hp]
          rfl
        go_wp2_with fail
        go_round
        case rel => exact ⟨j + 1, by omega, by go_num, T2⟩
        case measure => simp [intOf]; omega
      · go_wp2_with fail
        go_ret
        exact ⟨ret_int (idxI_at hxh.out hp T.out).symm, rfl⟩
    · have ej : j = n := by omega
      subst ej
      have hge : ¬ ((j : Int) < (j : Int)) := by omega
      go_wp2_with fail
      go_ret
      have T := T.out
      rw [List.take_of_length_le (by rw [hlh.out]; omega)] at T
      exact ⟨ret_int (idxI_none T).symm, rfl⟩
theorem contains_funcI {F : FuncId} {p : Int → Bool} (hF : PredI F p) (a : Option Addr) (n cap : Nat) (l : List Int) (w : World) (h : Row w 1 a n cap l) :
    Calls Try.prog 14 #[.slice a n cap, .func (.func F) #[] #[]] w fun e w' => e = .returned (.bool (l.any p)) ∧ w = w' := by
  have hi : (decide (0 ≤ idxI p l)) = l.any p := by
    unfold idxI
    cases he : l.findIdx? p with
    | none =>
      have := List.findIdx?_eq_none_iff.1 he
      have h2 : l.any p = false := by rw [List.any_eq_false]; intro x hx; simpa using this x hx
      rw [h2]; rfl
    | some i =>
      obtain ⟨hi, hp, -⟩ := List.findIdx?_eq_some_iff_getElem.1 he
      have h2 : l.any p = true := List.any_eq_true.2 ⟨l[i], List.getElem_mem hi, hp⟩
      rw [h2]; simp
  have hih := Lib.hid hi
  clear hi
  go_enter Try.func14, Try.ntmps14
  go_wp2_with fail
  refine (idx_funcI hF a n cap l _ h).mono ?_
  rintro e w' ⟨rfl, rfl⟩
  go_wp2_with fail
  go_ret
  exact ⟨ret_bool hih.out, rfl⟩

/-- May it not be split? -/
def badS (t : Int) (ws : List Int) : Bool := wrongI t || ws.any wrongI || !(ws.any someI)
/-- What each gets at first, and what is left of each. -/
def quoL (t s : Int) (ws : List Int) : List Int := ws.map fun x => t * x / s
def remL (t s : Int) (ws : List Int) : List Int := ws.map fun x => t * x % s
/-- One more for each of these places. -/
def bump (l : List Int) (ps : List Nat) : List Int := ps.foldl (fun l i => l.set i (l.getD i 0 + 1)) l
theorem bump_snoc (l : List Int) (ps : List Nat) (i : Nat) : bump l (ps ++ [i]) = (bump l ps).set i ((bump l ps).getD i 0 + 1) := by simp [bump, List.foldl_append]
theorem bump_len (l : List Int) (ps : List Nat) : (bump l ps).length = l.length := by
  induction ps generalizing l with
  | nil => rfl
  | cons i ps ih => simp only [bump, List.foldl_cons] at ih ⊢; rw [ih]; simp
theorem quo_bd {t s x : Int} (ht : 0 ≤ t) (hs : 0 < s) (hx : 0 ≤ x) (hxs : x ≤ s) : 0 ≤ t * x / s ∧ t * x / s ≤ t ∧ 0 ≤ t * x % s ∧ t * x % s < s := by
  refine ⟨Int.ediv_nonneg (Int.mul_nonneg ht hx) (by omega), ?_, Int.emod_nonneg _ (by omega), Int.emod_lt_of_pos _ hs⟩
  apply Int.ediv_le_of_le_mul hs
  exact Int.mul_le_mul_of_nonneg_left hxs ht
theorem quo_sum {t s : Int} (ht : 0 ≤ t) (hs : 0 < s) : ∀ (ws : List Int), (∀ x, x ∈ ws → 0 ≤ x) → 0 ≤ (quoL t s ws).sum ∧ (quoL t s ws).sum * s ≤ t * ws.sum
  | [], _ => by simp [quoL]
  | x :: ws, h => by
    have ih := quo_sum ht hs ws fun y hy => h y (by simp [hy])
    have hx := h x (by simp)
    have h1 : 0 ≤ t * x / s := Int.ediv_nonneg (Int.mul_nonneg ht hx) (by omega)
    have h2 : t * x / s * s ≤ t * x := Int.ediv_mul_le _ (by omega)
    simp only [quoL, List.map_cons, List.sum_cons] at ih ⊢
    rw [Int.add_mul, Int.mul_add]
    omega
theorem sumGo_sum : ∀ (l : List Int) (n s : Int), sumGo n l = some s → s = n + l.sum
  | [], n, s, h => by simp [sumGo] at h; simp [h]
  | z :: l, n, s, h => by
    simp only [sumGo] at h
    split at h
    · have := sumGo_sum l _ _ h
      rw [List.sum_cons]
      omega
    · cases h
theorem sumGo_in (l : List Int) : ∀ n s : Int, inB n = true → sumGo n l = some s → inB s = true := by
  induction l with
  | nil => intro n s hn h; simp [sumGo] at h; subst h; exact hn
  | cons z l ih =>
    intro n s hn h
    simp only [sumGo] at h
    split at h
    · rename_i k; exact ih _ _ (addOk_iff.1 k).2.2 h
    · cases h
theorem sum_ge : ∀ (l : List Int) (x : Int), (∀ y, y ∈ l → 0 ≤ y) → x ∈ l → x ≤ l.sum ∧ 0 ≤ l.sum
  | [], x, _, hx => by simp at hx
  | y :: l, x, h, hx => by
    have hy := h y (by simp)
    have h0 : 0 ≤ l.sum := by
      clear hx
      induction l with
      | nil => simp
      | cons z l ih =>
        rw [List.sum_cons]
        have := ih fun u hu => h u (by simp at hu ⊢; rcases hu with rfl | hu <;> simp [*])
        have := h z (by simp)
        omega
    rw [List.sum_cons]
    rcases List.mem_cons.1 hx with rfl | hx
    · omega
    · have := sum_ge l x (fun u hu => h u (by simp [hu])) hx
      omega
/-- What a good split rests on. -/
structure SplitOk (t : Int) (ws : List Int) (s : Int) : Prop where
  t0 : 0 ≤ t
  t1 : t ≤ 288230376151711744
  s0 : 1 ≤ s
  s1 : s ≤ 288230376151711744
  all : ∀ x, x ∈ ws → 0 ≤ x ∧ x ≤ s
  sum : ws.sum = s
theorem SplitOk.of {t : Int} {ws : List Int} (h : badS t ws = false) (he : sumE ws = 0) : SplitOk t ws (sumV ws) := by
  simp only [badS, Bool.or_eq_false_iff, Bool.not_eq_false'] at h
  obtain ⟨⟨h1, h2⟩, h3⟩ := h
  simp [wrongI] at h1
  have hall : ∀ x, x ∈ ws → 0 ≤ x := fun x hx => by
    have := List.any_eq_false.1 h2 x hx
    simp [wrongI] at this
    omega
  obtain ⟨s, hs⟩ : ∃ s, sumGo 0 ws = some s := by
    unfold sumE at he
    cases hg : sumGo 0 ws with
    | none => rw [hg] at he; simp at he
    | some s => exact ⟨s, rfl⟩
  have hV : sumV ws = s := by simp [sumV, hs]
  have hsum := sumGo_sum ws 0 s hs
  have hin := inB_iff.1 (sumGo_in ws 0 s (by decide +kernel) hs)
  obtain ⟨x, hx, hx0⟩ := List.any_eq_true.1 h3
  simp [someI] at hx0
  have h4 := sum_ge ws x hall hx
  have h5 := hall x hx
  rw [hV]
  exact ⟨by omega, by omega, by omega, by omega, fun y hy => ⟨hall y hy, by have := sum_ge ws y hall hy; omega⟩, by omega⟩
theorem SplitOk.left {t s : Int} {ws : List Int} (h : SplitOk t ws s) (j : Nat) : 0 ≤ (quoL t s (ws.take j)).sum ∧ (quoL t s (ws.take j)).sum ≤ t := by
  have a := quo_sum h.t0 (show 0 < s by have := h.s0; omega) (ws.take j) fun x hx => (h.all x (List.mem_of_mem_take hx)).1
  refine ⟨a.1, ?_⟩
  have hle : (ws.take j).sum ≤ s := by
    have e : (ws.take j).sum + (ws.drop j).sum = s := by rw [← List.sum_append, List.take_append_drop, h.sum]
    have : ∀ l : List Int, (∀ y, y ∈ l → 0 ≤ y) → 0 ≤ l.sum := by
      intro l
      induction l with
      | nil => simp
      | cons z l ih => intro hl; rw [List.sum_cons]; have := ih fun u hu => hl u (by simp [hu]); have := hl z (by simp); omega
    have := this (ws.drop j) fun y hy => (h.all y (List.mem_of_mem_drop hy)).1
    omega
  have h2 : t * (ws.take j).sum ≤ t * s := Int.mul_le_mul_of_nonneg_left hle h.t0
  have h3 : (quoL t s (ws.take j)).sum * s ≤ t * s := by omega
  exact Int.le_of_mul_le_mul_right h3 (by have := h.s0; omega)
theorem SplitOk.md {t s x : Int} {ws : List Int} (h : SplitOk t ws s) (hx : x ∈ ws) : mdQ t x s = t * x / s ∧ mdR t x s = t * x % s := by
  have hb := h.all x hx
  have q := quo_bd h.t0 (show 0 < s by have := h.s0; omega) hb.1 hb.2
  have := h.t0; have := h.t1; have := h.s0
  simp only [mdQ, mdR]
  rw [if_neg (by omega), if_neg (by omega), if_neg (by omega), if_neg (by omega)]
  exact ⟨rfl, rfl⟩
theorem quoL_snoc (t s : Int) {ws : List Int} {j : Nat} (hj : j < ws.length) : quoL t s (ws.take (j + 1)) = quoL t s (ws.take j) ++ [t * ws.getD j 0 / s] := by
  rw [take_snoc hj]; simp [quoL]
theorem remL_snoc (t s : Int) {ws : List Int} {j : Nat} (hj : j < ws.length) : remL t s (ws.take (j + 1)) = remL t s (ws.take j) ++ [t * ws.getD j 0 % s] := by
  rw [take_snoc hj]; simp [remL]
/-- A list filled in so far. -/
def padL (n : Nat) (l : List Int) : List Int := l ++ List.replicate (n - l.length) 0
theorem padL_len {n : Nat} {l : List Int} (h : l.length ≤ n) : (padL n l).length = n := by simp [padL]; omega
theorem padL_set {n : Nat} {l : List Int} {z : Int} (h : l.length < n) : (padL n l).set l.length z = padL n (l ++ [z]) := by
  unfold padL
  rw [List.set_append, if_neg (by omega), Nat.sub_self]
  obtain ⟨k, hk⟩ : ∃ k, n - l.length = k + 1 := ⟨n - l.length - 1, by omega⟩
  rw [hk, List.replicate_succ, List.set_cons_zero]
  simp
  omega
theorem padL_full {n : Nat} {l : List Int} (h : l.length = n) : padL n l = l := by simp [padL, h]
end Go.Proofs.Ytanmfhdljgphhaa
