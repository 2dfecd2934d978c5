/-
  Vouchers: the questions asked of a line; the first line of which one is true; lines without those of which it is.
-/
import Derived.Test.YtnalblnmplnhmaaGreatSort3
set_option linter.unusedVariables false
set_option linter.unusedSimpArgs false
namespace Go.Proofs.YtnalblnmplnhmaaGreat
open Go.RowKit

def isAcc (a : Int) : Bool := decide (0 ≤ a) && decide (a < 17)
theorem isAcc_iff {a : Int} : isAcc a = true ↔ 0 ≤ a ∧ a < 17 := by simp [isAcc]
theorem vou_is (a : Int) (w : World) : Calls Tryz.prog 143 #[.int .i64 a] w fun e w' => e = .returned (.bool (isAcc a)) ∧ w = w' := by
  by_cases h0 : 0 ≤ a
  all_goals
    by_cases h1 : a < 17
    all_goals
      go_enter Tryz.func143, Tryz.ntmps143
      go_wp2_with fail
      go_ret
      exact ⟨ret_bool (by simp [isAcc, h0, h1]), rfl⟩
theorem vou_in (v : Int) (w : World) : Calls Tryz.prog 144 #[.int .i64 v] w fun e w' => e = .returned (.bool (inB v)) ∧ w = w' := by
  go_enter Tryz.func144, Tryz.ntmps144
  go_wp2
  all_goals (go_ret; exact ⟨ret_bool (by simp [inB]; try omega), rfl⟩)

/-- Function F asks p of a line. -/
structure Pred (F : FuncId) (p : Lin → Bool) : Prop where
  ent : ∀ (args : Array Value) (W : World), (callFunc F args).run Tryz.prog W = .ok (.enter F args) W
  ask : ∀ (x : Lin) (W : World), Calls Tryz.prog F #[x.val] W fun e w' => e = .returned (.bool (p x)) ∧ Below W.heap.size W w'

def badP (x : Lin) : Bool := !(isAcc x.a) || !(inB x.n)
def badC (x : Lin) : Bool := !(isAcc x.a) || decide (x.n = 0) || !(inB x.n)
def zeroN (x : Lin) : Bool := decide (x.n = 0)
def badT (x : Lin) : Bool := !(inB x.n)
def noDeb (x : Lin) : Bool := decide (x.n ≤ 0)

theorem pred_P1 : Pred 142 badP := by
  refine ⟨fun args W => by kernel_rfl, fun x W => ?_⟩
  unfold Lin.val
  cases h1 : isAcc x.a
  all_goals
    cases h2 : inB x.n
    all_goals
      go_enter Tryz.func142, Tryz.ntmps142
      go_wp2_with (first | (go_at_call 143; refine (vou_is _ _).mono ?_; rw [h1]; rintro e w' ⟨rfl, rfl⟩) | (go_at_call 144; refine (vou_in _ _).mono ?_; rw [h2]; rintro e w' ⟨rfl, rfl⟩))
      go_ret
      exact ⟨ret_bool (by simp [badP, h1, h2]), by (repeat (first | assumption | exact Below.refl _ _ | refine ballc ?_ _ | refine bdrew ?_ | refine bdrewN ?_ _ | refine bset ?_ _ _ | refine bsetN ?_ (by omega) _ _ | refine bthen ?_ (by assumption)))⟩
theorem pred_C1 : Pred 191 badC := by
  refine ⟨fun args W => by kernel_rfl, fun x W => ?_⟩
  unfold Lin.val
  cases h1 : isAcc x.a
  all_goals
    cases h2 : inB x.n
    all_goals
      by_cases h3 : x.n = 0
      all_goals
        go_enter Tryz.func191, Tryz.ntmps191
        go_wp2_with (first | (go_at_call 143; refine (vou_is _ _).mono ?_; rw [h1]; rintro e w' ⟨rfl, rfl⟩) | (go_at_call 144; refine (vou_in _ _).mono ?_; rw [h2]; rintro e w' ⟨rfl, rfl⟩))
        go_ret
        exact ⟨ret_bool (by simp [badC, h1, h2, h3]), by (repeat (first | assumption | exact Below.refl _ _ | refine ballc ?_ _ | refine bdrew ?_ | refine bdrewN ?_ _ | refine bset ?_ _ _ | refine bsetN ?_ (by omega) _ _ | refine bthen ?_ (by assumption)))⟩
theorem pred_P3 : Pred 149 zeroN := by
  refine ⟨fun args W => by kernel_rfl, fun x W => ?_⟩
  unfold Lin.val
  go_enter Tryz.func149, Tryz.ntmps149
  go_wp2_with fail
  go_ret
  exact ⟨ret_bool (by rw [Bool.eq_iff_iff]; simp [zeroN]), by (repeat (first | assumption | exact Below.refl _ _ | refine ballc ?_ _ | refine bdrew ?_ | refine bdrewN ?_ _ | refine bset ?_ _ _ | refine bsetN ?_ (by omega) _ _ | refine bthen ?_ (by assumption)))⟩

/-- The first of which p holds; -1: none. -/
def idxP (p : Lin → Bool) (l : List Lin) : Int := match l.findIdx? p with | some i => (i : Int) | none => -1
theorem all_take2 {l : List Lin} {j : Nat} {x : Lin} {f : Lin → Bool} (hx : l[j]? = some x) : (l.take (j + 1)).all f = ((l.take j).all f && f x) := by
  rw [List.take_add_one, hx]
  simp
theorem idxP_at {p : Lin → Bool} {l : List Lin} {j : Nat} {x : Lin} (hx : l[j]? = some x) (hp : p x = true) (ht : (l.take j).all (fun y => !p y) = true) : idxP p l = j := by
  have : l.findIdx? p = some j := by
    rw [List.findIdx?_eq_some_iff_getElem]
    obtain ⟨hj, rfl⟩ := List.getElem?_eq_some_iff.1 hx
    refine ⟨hj, hp, fun i hi => ?_⟩
    have := List.all_eq_true.1 ht l[i] (List.mem_take_iff_getElem.2 ⟨i, by omega, rfl⟩)
    simpa using this
  simp [idxP, this]
theorem idxP_none {p : Lin → Bool} {l : List Lin} (h : l.all (fun y => !p y) = true) : idxP p l = -1 := by
  have : l.findIdx? p = none := by
    rw [List.findIdx?_eq_none_iff]
    intro x hx
    have := List.all_eq_true.1 h x hx
    simpa using this
  simp [idxP, this]

theorem idx_func {F : FuncId} {p : Lin → Bool} (hF : Pred F p) (a : Option Addr) (cap : Nat) (l : List Lin) (w : World) (h : Row w 2 a l.length cap (flat2 l)) :
    Calls Tryz.prog 187 #[.slice a l.length cap, .func (.func F) #[] #[]] w fun e w' => e = .returned (.int .i64 (idxP p l)) ∧ Below w.heap.size w w' := by
  go_enter Tryz.func187, Tryz.ntmps187
  obtain ⟨hl, hcap, hmax, hall, hat⟩ := h
  unfold maxLen at hmax
  have hent := hF.ent
  have hFh := Lib.hid hF.ask
  clear hF
  go_wp2_with fail
  go_loopw [8] (fun i wr => ∃ j : Nat, j ≤ l.length ∧ i = .int .i64 j ∧ Hid ((l.take j).all (fun y => !p y) = true) ∧ Below w.heap.size w wr) (fun i _ => l.length - (intOf i).toNat)
  case atStart => exact ⟨0, by omega, rfl, rfl, Below.refl _ _⟩
  case round =>
    obtain ⟨j, hj, rfl, T, hbel⟩ := hrel
    have hsz := hbel.size
    by_cases hlt : j < l.length
    · obtain ⟨b, off, rfl, hb, hc⟩ : ∃ b off, a = some ⟨b, off, none⟩ ∧ b < w.heap.size ∧ CellsAt w b off (flat2 l) := by
        rcases hat with h0 | h0
        · omega
        · exact h0
      obtain ⟨x, hx⟩ : ∃ x, l[j]? = some x := ⟨l[j], by simp [hlt]⟩
      obtain ⟨c0, c1⟩ := (hc.below hb hbel).line hx
      have hlt' : (j : Int) < (l.length : Int) := by omega
      have hx := Lib.hid hx
      clear hc hat
      go_wp2_with fail
      refine (hFh.out x _).mono ?_
      rintro e w1 ⟨rfl, hw1⟩
      cases hp : p x
      · go_wp2_with fail
        case' roundEnd =>
          refine ⟨⟨j + 1, hlt, by simp, by rw [Hid, all_take2 hx.out, T.out, hp]; rfl, hbel.trans (hw1.mono hsz)⟩, ?_⟩
          simp [intOf]
          omega
      · go_wp2_with fail
        go_ret
        exact ⟨ret_int (idxP_at hx.out hp T.out).symm, hbel.trans (hw1.mono hsz)⟩
    · have ej : j = l.length := by omega
      subst ej
      have hge : ¬ ((l.length : Int) < (l.length : Int)) := by omega
      go_wp2_with fail
      go_ret
      have T := T.out
      rw [List.take_length] at T
      exact ⟨ret_int (idxP_none T).symm, hbel⟩

theorem contains_func {F : FuncId} {p : Lin → Bool} (hF : Pred F p) (a : Option Addr) (cap : Nat) (l : List Lin) (w : World) (h : Row w 2 a l.length cap (flat2 l)) :
    Calls Tryz.prog 141 #[.slice a l.length cap, .func (.func F) #[] #[]] w fun e w' => e = .returned (.bool (l.any p)) ∧ Below w.heap.size w w' := by
  have hi : (decide (0 ≤ idxP p l)) = l.any p := by
    unfold idxP
    cases he : l.findIdx? p with
    | none =>
      have := List.findIdx?_eq_none_iff.1 he
      have h2 : l.any p = false := by rw [List.any_eq_false]; intro x hx; simpa using this x hx
      rw [h2]; rfl
    | some i =>
      obtain ⟨hi, hp, -⟩ := List.findIdx?_eq_some_iff_getElem.1 he
      have h2 : l.any p = true := List.any_eq_true.2 ⟨l[i], List.getElem_mem hi, hp⟩
      rw [h2]; simp
  have hih := Lib.hid hi
  clear hi
  go_enter Tryz.func141, Tryz.ntmps141
  go_wp2_with fail
  refine (idx_func hF a cap l _ h).mono ?_
  rintro e w1 ⟨rfl, hw1⟩
  go_wp2_with fail
  go_ret
  exact ⟨ret_bool hih.out, hw1⟩
end Go.Proofs.YtnalblnmplnhmaaGreat
