/-
  fifo.has.
-/
import Derived.Test.YtgahhifedgmicaaFifo7
set_option linter.unusedVariables false
set_option linter.unusedSimpArgs false
namespace Go.Proofs.Ytgahhifedgmicaa
open Go.RowKit

/-- Where the whole has a sum, each part at the head has. -/
theorem sumGo_some_take {l : List Int} {s : Int} (k : Nat) (e : sumGo 0 l = some s) : ∃ t, sumGo 0 (l.take k) = some t := by
  cases h : sumGo 0 (l.take k) with
  | none => rw [sumGo_none h] at e; cases e
  | some t => exact ⟨t, rfl⟩

theorem sumGo_sum (l : List Int) : ∀ (n s : Int), sumGo n l = some s → s = n + l.sum := by
  induction l with
  | nil => intro n s h; simp [sumGo] at h; simp [h]
  | cons z l ih =>
    intro n s h
    simp only [sumGo] at h
    split at h
    · have := ih _ _ h
      rw [this, List.sum_cons]
      omega
    · cases h
theorem sum_nonneg {l : List Int} (h : ∀ z, z ∈ l → 0 ≤ z) : 0 ≤ l.sum := by
  induction l with
  | nil => simp
  | cons z l ih =>
    have h1 := h z (by simp)
    have h2 := ih fun y hy => h y (by simp [hy])
    rw [List.sum_cons]
    omega
theorem take_sum_le {l : List Int} (h : ∀ z, z ∈ l → 0 ≤ z) (k : Nat) : (l.take k).sum ≤ l.sum := by
  have e : l.sum = (l.take k).sum + (l.drop k).sum := by rw [← List.sum_append, List.take_append_drop]
  have := sum_nonneg (l := l.drop k) fun z hz => h z (List.mem_of_mem_drop hz)
  omega
theorem prefix_le {l : List Lay} {f : Lay → Int} {s t : Int} {k : Nat} (h : ∀ x, x ∈ l → 0 ≤ f x) (hs : sumGo 0 (l.map f) = some s) (ht : sumGo 0 ((l.map f).take k) = some t) : t ≤ s := by
  have a := sumGo_sum _ _ _ hs
  have b := sumGo_sum _ _ _ ht
  have c := take_sum_le (l := l.map f) (fun z hz => by obtain ⟨x, hx, rfl⟩ := List.mem_map.1 hz; exact h x hx) k
  omega
/-- The next sum: it is there, and no more than the whole. -/
theorem next_sum {l : List Lay} {f : Lay → Int} {s t : Int} {j : Nat} {x : Lay} (h : ∀ x, x ∈ l → 0 ≤ f x) (hs : sumGo 0 (l.map f) = some s) (hx : l[j]? = some x) (ht : sumGo 0 ((l.map f).take j) = some t) :
    sumGo 0 ((l.map f).take (j + 1)) = some (t + f x) ∧ t + f x ≤ s := by
  have a := sumGo_lay hx ht
  obtain ⟨u, hu⟩ := sumGo_some_take (j + 1) hs
  rw [hu] at a
  split at a
  · cases a
    exact ⟨hu, prefix_le h hs hu⟩
  · cases a
theorem qpos {l : List Lay} (hok : l.all layOk = true) : ∀ x, x ∈ l → 0 ≤ x.q := fun x hx => by
  have := layOk_iff.1 (List.all_eq_true.1 hok x hx); omega

set_option maxHeartbeats 1000000 in
theorem fifo_has (a : Option Addr) (cap : Nat) (l : List Lay) (w : World) (h : Row w 3 a l.length cap (flat l)) (hok : l.all layOk = true) (s : Int) (hs : sumGo 0 (l.map (·.q)) = some s) (q0 : Int) (hq : 1 ≤ q0) (hq' : q0 ≤ 9223372036854775807) :
    Calls Try.prog 37 #[.slice a l.length cap, .int .i64 q0] w fun e w' => e = .returned (.bool (decide (q0 ≤ s))) ∧ Below w.heap.size w w' := by
  obtain ⟨hl, hcap, hmax, hall, hat⟩ := h
  unfold maxLen at hmax
  go_enter Try.func37, Try.ntmps37
  go_wp2
  go_loopw [1, 9] (fun n i wr => ∃ (j : Nat) (t : Int), j ≤ l.length ∧ i = .int .i64 j ∧ n = .int .i64 (q0 - t) ∧ sumGo 0 ((l.map (·.q)).take j) = some t ∧ 0 ≤ t ∧ t < q0 ∧ Below w.heap.size w wr) (fun _ i _ => l.length - (intOf i).toNat)
  case atStart => exact ⟨0, 0, by omega, rfl, by simp, rfl, by omega, by omega, by (repeat (first | assumption | exact Below.refl _ _ | refine ballc ?_ _ | refine bdrew ?_ | refine bdrewN ?_ _ | refine bset ?_ _ _ | refine bsetN ?_ (by omega) _ _ | refine bthen ?_ (by assumption)))⟩
  case round =>
    obtain ⟨j, t, hj, rfl, rfl, s1, ht0, ht1, hbel⟩ := hrel
    have hsz := hbel.size
    by_cases hlt : j < l.length
    · obtain ⟨b, off, rfl, hb, hc⟩ : ∃ b off, a = some ⟨b, off, none⟩ ∧ b < w.heap.size ∧ CellsAt w b off (flat l) := by
        rcases hat with h0 | h0
        · omega
        · exact h0
      obtain ⟨x, hx⟩ : ∃ x, l[j]? = some x := ⟨l[j], by simp [hlt]⟩
      obtain ⟨c0, c1, c2⟩ := lay_cells hc hx hb hbel
      have hlt' : (j : Int) < (l.length : Int) := by omega
      obtain ⟨t1, t2⟩ := next_sum (f := (·.q)) (qpos hok) hs hx s1
      obtain ⟨k1, k2, -, -, -, -⟩ := layOk_iff.1 (all_at hok hx)
      have hx := Lib.hid hx
      clear hc hat s1 hok
      have t1 := Lib.hid t1
      have hs := Lib.hid hs
      go_wp2_with fail
      case' roundEnd =>
        rename_i hh
        have hh : q0 - t - min (max x.q 0) (q0 - t) ≠ 0 := by simpa using hh
        have e : q0 - t - min (max x.q 0) (q0 - t) = q0 - (t + x.q) := by omega
        refine ⟨⟨j + 1, t + x.q, hlt, by simp, by rw [e], t1.out, by omega, by omega, by (repeat (first | assumption | exact Below.refl _ _ | refine ballc ?_ _ | refine bdrew ?_ | refine bdrewN ?_ _ | refine bset ?_ _ _ | refine bsetN ?_ (by omega) _ _ | refine bthen ?_ (by assumption)))⟩, ?_⟩
        simp [intOf]
        omega
      · rename_i hh
        have hh : q0 - t - min (max x.q 0) (q0 - t) = 0 := by simpa using hh
        go_ret
        exact ⟨ret_bool (by simp; omega), by (repeat (first | assumption | exact Below.refl _ _ | refine ballc ?_ _ | refine bdrew ?_ | refine bdrewN ?_ _ | refine bset ?_ _ _ | refine bsetN ?_ (by omega) _ _ | refine bthen ?_ (by assumption)))⟩
    · have ej : j = l.length := by omega
      subst ej
      have hge : ¬ ((l.length : Int) < (l.length : Int)) := by omega
      have e1 : t = s := by
        rw [List.take_of_length_le (by simp)] at s1
        rw [s1] at hs
        exact Option.some.inj hs
      subst e1
      clear s1 hs
      go_wp2_with fail
      go_ret
      exact ⟨ret_bool (by simp; omega), by (repeat (first | assumption | exact Below.refl _ _ | refine ballc ?_ _ | refine bdrew ?_ | refine bdrewN ?_ _ | refine bset ?_ _ _ | refine bsetN ?_ (by omega) _ _ | refine bthen ?_ (by assumption)))⟩
end Go.Proofs.Ytgahhifedgmicaa
