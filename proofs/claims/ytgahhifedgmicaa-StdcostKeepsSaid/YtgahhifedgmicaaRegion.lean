/-
  A region that draws its order, by an invariant: each operation leaves a fact on its value; the facts of the others stand. No order is looked at.
-/
import Derived.Orders
import Derived.WalkKit
set_option linter.unusedVariables false
namespace Go.Proofs.Ytgahhifedgmicaa
open Go.RowKit

section
variable {P : Program} {Q : Exit → Act → World → Prop}

def upd (u : Nat → Value) (i : Nat) (v : Value) : Nat → Value := fun j => if j = i then v else u j
theorem upd_same (u : Nat → Value) (i : Nat) (v : Value) : upd u i v i = v := by simp [upd]
theorem upd_other (u : Nat → Value) {i j : Nat} (v : Value) (h : j ≠ i) : upd u i v j = u j := by simp [upd, h]

/-- What operation i waits for. -/
def preOf (ops : Array Oper) (i : Nat) : List Nat := ((ops[i]?).map fun o => (o.after.toList.filter (Region.binds .any)).map (·.on)).getD []
/-- The region is well laid: no guards, each waits for earlier ones alone. -/
def laidWell (ops : Array Oper) : Bool := (List.range ops.size).all fun i => ((ops[i]?).map fun o => o.guard.isNone).getD false && (preOf ops i).all (fun j => decide (j < i))

theorem mem_preOf {ops : Array Oper} {i : Nat} {o : Oper} (ho : ops[i]? = some o) {e : Edge} (he : e ∈ o.after) (hb : Region.binds .any e = true) : e.on ∈ preOf ops i := by
  simp only [preOf, ho, Option.map_some, Option.getD_some, List.mem_map, List.mem_filter]
  exact ⟨e, ⟨by simpa using he, hb⟩, rfl⟩

/-- What operation i waits for, and what that waits for, n deep. -/
def ancOf (ops : Array Oper) : Nat → Nat → List Nat
  | 0, _ => []
  | n + 1, i => preOf ops i ++ (preOf ops i).flatMap (ancOf ops n)
theorem anc_listed {ops : Array Oper} {listed : Array Bool} (down : ∀ i, listed.getD i false = true → ∀ j, j ∈ preOf ops i → listed.getD j false = true) :
    ∀ n i, listed.getD i false = true → ∀ j, j ∈ ancOf ops n i → listed.getD j false = true := by
  intro n
  induction n with
  | zero => intro i _ j hj; simp [ancOf] at hj
  | succ n ih =>
    intro i hi j hj
    simp only [ancOf, List.mem_append, List.mem_flatMap] at hj
    rcases hj with hj | ⟨k, hk, hj⟩
    · exact down i hi j hj
    · exact ih k (down i hi k hk) j hj
theorem anc_listed' {ops : Array Oper} {listed : Array Bool} (down : ∀ i, listed.getD i false = true → ∀ j, j ∈ preOf ops i → listed.getD j false = true) {i : Nat} (hp : ∀ j, j ∈ preOf ops i → listed.getD j false = true) :
    ∀ n, ∀ j, j ∈ ancOf ops n i → listed.getD j false = true := by
  intro n
  cases n with
  | zero => intro j hj; simp [ancOf] at hj
  | succ n =>
    intro j hj
    simp only [ancOf, List.mem_append, List.mem_flatMap] at hj
    rcases hj with hj | ⟨k, hk, hj⟩
    · exact hp j hj
    · exact anc_listed down n k (hp k hk) j hj

/-- The state in the midst of the region. -/
structure Mid (ops : Array Oper) (fr : (Nat → Value) → Act) (u0 : Nat → Value) (Φ : Nat → (Nat → Value) → World → Prop) (S : (Nat → Bool) → World → Prop) (listed : Array Bool) (a : Act) (w : World) : Prop where
  size : listed.size = ops.size
  down : ∀ i, listed.getD i false = true → ∀ j, j ∈ preOf ops i → listed.getD j false = true
  u : ∃ u : Nat → Value, a = fr u ∧ (∀ i, listed.getD i false = true → Φ i u w) ∧ (∀ i, i < ops.size → listed.getD i false = false → u i = u0 i)
  s : S (fun i => listed.getD i false) w

theorem getD_set {l : Array Bool} {i j : Nat} (hi : i < l.size) : (l.setIfInBounds i true).getD j false = if i = j then true else l.getD j false := by
  by_cases h : i = j
  · subst h; simp [hi]
  · simp [Array.getElem?_setIfInBounds_ne h, h]

theorem count_set {l : Array Bool} {i : Nat} (hi : i < l.size) (hf : l.getD i true = false) : (l.setIfInBounds i true).toList.count false + 1 = l.toList.count false := by
  rw [Array.toList_setIfInBounds]
  have hi' : i < l.toList.length := by simpa using hi
  have e : l.toList[i] = false := by
    have : l[i] = false := by simpa [hi] using hf
    simpa using this
  have h2 : ∀ (m : List Bool) (i : Nat) (h : i < m.length), m[i] = false → (m.set i true).count false + 1 = m.count false := by
    intro m
    induction m with
    | nil => intro i h; simp at h
    | cons b m ih =>
      intro i h hb
      cases i with
      | zero => simp at hb; subst hb; simp
      | succ i =>
        have := ih i (by simpa using h) (by simpa using hb)
        simp only [List.set_cons_succ, List.count_cons]
        omega
  exact h2 _ _ hi' e

/-- One operation's duty: in every world that meets S, its predecessors' facts at hand, those that wait for it not yet come up, it leaves a value of its own fact, and what the others said stands. -/
def Duty (D : Nat) (P : Program) (ops : Array Oper) (fr : (Nat → Value) → Act) (u0 : Nat → Value) (Φ : Nat → (Nat → Value) → World → Prop) (S : (Nat → Bool) → World → Prop) (Q : Exit → Act → World → Prop) (i : Nat) : Prop :=
  ∀ o, ops[i]? = some o → ∀ (u : Nat → Value) (w : World) (L : Nat → Bool), S L w → L i = false → (∀ j ∈ ancOf ops D i, L j = true) → (∀ j ∈ ancOf ops D i, Φ j u w) → (∀ j, j < ops.size → i ∈ ancOf ops D j → u j = u0 j) → u i = u0 i →
    ∀ K : Act → World → Prop, (∀ v w', Φ i (upd u i v) w' → S (fun k => if k = i then true else L k) w' → (∀ j x, j ≠ i → Φ j x w → Φ j x w') → K ((fr u).put o.dst v) w') → o.wp P (fr u) w K Q

theorem ready_iff {ops : Array Oper} {listed : Array Bool} {i : Nat} (h : i ∈ Region.ready .any ops listed) :
    i < ops.size ∧ listed.getD i true = false ∧ ∀ o, ops[i]? = some o → ∀ e ∈ o.after, Region.binds .any e = true → listed.getD e.on false = true := by
  obtain ⟨h1, o, ho, h2⟩ := mem_ready.1 h
  have hi : i < ops.size := by
    rcases Nat.lt_or_ge i ops.size with g | g
    · exact g
    · rw [Array.getElem?_eq_none g] at ho; cases ho
  refine ⟨hi, h1, fun o' ho' e he hb => ?_⟩
  rw [ho] at ho'
  cases ho'
  exact h2 e he hb

theorem wpAny_all (D : Nat) {ops : Array Oper} {fr : (Nat → Value) → Act} {u0 : Nat → Value} {Φ : Nat → (Nat → Value) → World → Prop} {S : (Nat → Bool) → World → Prop}
    (hw : laidWell ops = true)
    (hput : ∀ i o u v, ops[i]? = some o → (fr u).put o.dst v = fr (upd u i v))
    (hdep : ∀ j u u' w, (∀ k, k = j ∨ k ∈ ancOf ops D j → u k = u' k) → Φ j u w → Φ j u' w)
    (duty : ∀ i, i < ops.size → Duty D P ops fr u0 Φ S Q i)
    (fin : ∀ u w L, S L w → (∀ i, i < ops.size → L i = true) → (∀ i, i < ops.size → Φ i u w) → Q .normal (fr u) w) :
    ∀ (fuel : Nat) (listed : Array Bool) (a : Act) (w : World), listed.toList.count false ≤ fuel → Mid ops fr u0 Φ S listed a w → wpAny P .any ops Q fuel listed a w := by
  have hwell : ∀ i, i < ops.size → (∀ o, ops[i]? = some o → o.guard = none) ∧ ∀ j ∈ preOf ops i, j < i := by
    intro i hi
    have h := List.all_eq_true.1 hw i (List.mem_range.2 hi)
    simp only [Bool.and_eq_true] at h
    refine ⟨fun o ho => ?_, fun j hj => by simpa using List.all_eq_true.1 h.2 j hj⟩
    have h1 := h.1
    rw [ho] at h1
    simpa using h1
  have done : ∀ listed a w, Region.ready .any ops listed = [] → Mid ops fr u0 Φ S listed a w → Q .normal a w := by
    intro listed a w hr hm
    have all : ∀ n i, i < n → i < ops.size → listed.getD i false = true := by
      intro n
      induction n with
      | zero => intro i h; omega
      | succ n ih =>
        intro i hin hi
        cases hl : listed.getD i false with
        | true => rfl
        | false =>
          exfalso
          have hmem : i ∈ Region.ready .any ops listed := by
            refine mem_ready.2 ⟨?_, ops[i], by simp [hi], fun e he hb => ?_⟩
            · have : i < listed.size := by rw [hm.size]; exact hi
              simp [this] at hl ⊢
              exact hl
            · have hp := mem_preOf (ops := ops) (i := i) (by simp [hi]) he hb
              exact ih e.on (by have := (hwell i hi).2 _ hp; omega) (by have := (hwell i hi).2 _ hp; omega)
          rw [hr] at hmem
          cases hmem
    obtain ⟨u, rfl, hu, -⟩ := hm.u
    exact fin u w _ hm.s (fun i hi => all (i + 1) i (by omega) hi) fun i hi => hu i (all (i + 1) i (by omega) hi)
  intro fuel
  induction fuel with
  | zero =>
    intro listed a w hc hm
    have hr : Region.ready .any ops listed = [] := by
      cases hr : Region.ready .any ops listed with
      | nil => rfl
      | cons i r =>
        exfalso
        have hi := ready_iff (ops := ops) (listed := listed) (i := i) (by rw [hr]; exact List.mem_cons_self)
        have := count_set (l := listed) (i := i) (by rw [hm.size]; exact hi.1) hi.2.1
        omega
    exact ⟨hr, done listed a w hr hm⟩
  | succ fuel ih =>
    intro listed a w hc hm
    refine ⟨fun hr => done listed a w hr hm, fun i hi => ?_⟩
    obtain ⟨hlt, hf, hpre⟩ := ready_iff hi
    have hls : i < listed.size := by rw [hm.size]; exact hlt
    have hff : listed.getD i false = false := by simp [hls] at hf ⊢; exact hf
    have ho : ops[i]? = some ops[i] := by simp [hlt]
    obtain ⟨u, rfl, hu, hn⟩ := hm.u
    have hpre' : ∀ j ∈ preOf ops i, listed.getD j false = true := by
      intro j hj
      simp only [preOf, ho, Option.map_some, Option.getD_some, List.mem_map, List.mem_filter] at hj
      obtain ⟨e, ⟨he, hb⟩, rfl⟩ := hj
      exact hpre _ ho e (by simpa using he) hb
    unfold wpOp
    simp only [ho]
    have hg := (hwell i hlt).1 _ ho
    have hwant : Region.wanted ops[i] (yielded ops (fr u).tmps) = true := by simp [Region.wanted, hg]
    rw [if_pos hwant]
    refine .inl ?_
    refine duty i hlt _ ho u w _ hm.s hff (fun j hj => anc_listed' hm.down hpre' D j hj) (fun j hj => hu j (anc_listed' hm.down hpre' D j hj)) (fun j hj hij => ?_) (hn i hlt hff) _ ?_
    · refine hn j hj ?_
      cases hl : listed.getD j false with
      | false => rfl
      | true => exact absurd (anc_listed hm.down D j hl i hij) (by rw [hff]; simp)
    · intro v w' hΦ hS hst
      refine ih _ _ _ ?_ ⟨?_, ?_, ⟨upd u i v, hput i _ u v ho, ?_, ?_⟩, ?_⟩
      · have := count_set hls hf
        omega
      · simpa using hm.size
      · intro k hk j hj
        rw [getD_set hls] at hk ⊢
        by_cases hij : i = j
        · simp [hij]
        · rw [if_neg hij]
          by_cases hik : i = k
          · subst hik; exact hpre' j hj
          · rw [if_neg hik] at hk; exact hm.down k hk j hj
      · intro k hk
        rw [getD_set hls] at hk
        by_cases hik : k = i
        · subst hik; exact hΦ
        · rw [if_neg (fun e => hik e.symm)] at hk
          refine hst k _ hik (hdep k u _ w (fun m hm' => (upd_other u v ?_).symm) (hu k hk))
          rintro rfl
          rcases hm' with hm' | hm'
          · exact hik hm'.symm
          · have := anc_listed hm.down D k hk _ hm'
            rw [hff] at this
            cases this
      · intro k hk hkf
        rw [getD_set hls] at hkf
        by_cases hik : k = i
        · subst hik; simp at hkf
        · rw [if_neg (fun e => hik e.symm)] at hkf
          simp only [upd, if_neg hik]
          exact hn k hk hkf
      · have e : (fun k => (listed.setIfInBounds i true).getD k false) = (fun k => if k = i then true else listed.getD k false) := by
          funext k
          rw [getD_set hls]
          by_cases hk : i = k
          · simp [hk]
          · rw [if_neg hk, if_neg (fun e => hk e.symm)]
        rw [e]
        exact hS

/-- The region's frame: the values laid into the operations' slots. -/
def puts (a : Act) : List (Option Tmp) → Nat → (Nat → Value) → Act
  | [], _, _ => a
  | d :: ds, k, u => puts (a.put d (u k)) ds (k + 1) u
theorem put_same (a : Act) (d : Tmp) (v v' : Value) : (a.put (some d) v).put (some d) v' = a.put (some d) v' := by
  simp [Act.put]
/-- No slot twice. -/
def slotsApart : List (Option Tmp) → Bool
  | [] => true
  | d :: ds => (d.isNone || !ds.contains d) && slotsApart ds
theorem puts_put_far (ds : List (Option Tmp)) : ∀ (a : Act) (k : Nat) (u : Nat → Value) (d : Option Tmp) (v : Value), (d = none ∨ d ∉ ds) → puts (a.put d v) ds k u = (puts a ds k u).put d v := by
  induction ds with
  | nil => intro a k u d v _; rfl
  | cons x ds ih =>
    intro a k u d v h
    simp only [puts]
    have hx : (a.put d v).put x (u k) = (a.put x (u k)).put d v := by
      rcases h with rfl | h
      · rfl
      · exact Act.put_comm a v (u k) (fun y hy e => h (by rw [hy, ← e]; exact List.mem_cons_self))
    rw [hx]
    exact ih _ _ _ _ _ (h.imp id fun h m => h (List.mem_cons_of_mem _ m))
theorem puts_upd (ds : List (Option Tmp)) (hd : slotsApart ds = true) : ∀ (a : Act) (k : Nat) (u : Nat → Value) (i : Nat) (d : Option Tmp) (v : Value), ds[i]? = some d → (puts a ds k u).put d v = puts a ds k (upd u (k + i) v) := by
  have far : ∀ (ds : List (Option Tmp)) (a : Act) (k : Nat) (u : Nat → Value) (i : Nat) (v : Value), i < k → puts a ds k (upd u i v) = puts a ds k u := by
    intro ds
    induction ds with
    | nil => intro a k u i v _; rfl
    | cons x ds ih =>
      intro a k u i v h
      simp only [puts]
      rw [upd_other u v (by omega), ih _ _ _ _ _ (by omega)]
  induction ds with
  | nil => intro a k u i d v h; simp at h
  | cons x ds ih =>
    intro a k u i d v h
    simp only [slotsApart, Bool.and_eq_true] at hd
    cases i with
    | zero =>
      simp only [List.getElem?_cons_zero, Option.some.injEq] at h
      subst h
      simp only [puts, Nat.add_zero]
      rw [upd_same, far _ _ _ _ _ _ (by omega)]
      have hx : x = none ∨ x ∉ ds := by
        have := hd.1
        cases x with
        | none => exact .inl rfl
        | some y => right; simpa using this
      rw [← puts_put_far ds _ _ _ _ _ hx]
      congr 1
      cases x with
      | none => rfl
      | some y => exact put_same _ _ _ _
    | succ i =>
      simp only [List.getElem?_cons_succ] at h
      simp only [puts]
      rw [ih hd.2 _ _ _ _ _ _ h, upd_other u v (by omega), show k + 1 + i = k + (i + 1) by omega]
/-- What stands in the slots as the region begins. -/
def starts (a : Act) (ds : List (Option Tmp)) (k : Nat) : Value := match ds[k]? with | some (some d) => a.tmps.getD d undef | _ => undef
theorem put_self (a : Act) (d : Tmp) : a.put (some d) (a.tmps.getD d undef) = a := by
  obtain ⟨t, df⟩ := a
  simp only [Act.put, Act.mk.injEq, and_true]
  rcases Nat.lt_or_ge d t.size with h | h
  · apply Array.ext
    · simp
    · intro i h1 h2
      rw [Array.getElem_setIfInBounds (by simpa using h1)]
      split
      · rename_i e; subst e; simp
      · rfl
  · exact Array.setIfInBounds_eq_of_size_le h
theorem puts_same (a : Act) : ∀ (ds : List (Option Tmp)) (k : Nat) (u : Nat → Value), (∀ i d, ds[i]? = some (some d) → u (k + i) = a.tmps.getD d undef) → puts a ds k u = a := by
  intro ds
  induction ds with
  | nil => intro k u _; rfl
  | cons x ds ih =>
    intro k u h
    simp only [puts]
    have hx : a.put x (u k) = a := by
      cases x with
      | none => rfl
      | some d => rw [show u k = a.tmps.getD d undef from h 0 d rfl]; exact put_self a d
    rw [hx]
    exact ih (k + 1) u fun i d hi => by rw [show k + 1 + i = k + (i + 1) by omega]; exact h (i + 1) d hi
theorem puts_starts (a : Act) (ds : List (Option Tmp)) : puts a ds 0 (starts a ds) = a := by
  refine puts_same a ds 0 _ fun i d hi => ?_
  simp only [Nat.zero_add, starts, hi]

theorem puts_size (ds : List (Option Tmp)) : ∀ (a : Act) (k : Nat) (u : Nat → Value), (puts a ds k u).tmps.size = a.tmps.size := by
  induction ds with
  | nil => intro a k u; rfl
  | cons x ds ih =>
    intro a k u
    simp only [puts]
    rw [ih]
    cases x <;> simp [Act.put]
theorem puts_eval_out (ds : List (Option Tmp)) : ∀ (a : Act) (k : Nat) (u : Nat → Value) (t : Nat), ds.contains (some t) = false → (puts a ds k u).eval (.tmp t) = a.eval (.tmp t) := by
  induction ds with
  | nil => intro a k u t _; rfl
  | cons x ds ih =>
    intro a k u t h
    simp only [List.contains_cons, Bool.or_eq_false_iff] at h
    simp only [puts]
    rw [ih _ _ _ _ h.2]
    refine Act.eval_put fun d hd e => ?_
    cases e
    subst hd
    simp at h
theorem puts_eval_in (ds : List (Option Tmp)) : ∀ (a : Act) (k : Nat) (u : Nat → Value) (i : Nat) (t : Nat), slotsApart ds = true → ds[i]? = some (some t) → t < a.tmps.size → (puts a ds k u).eval (.tmp t) = u (k + i) := by
  induction ds with
  | nil => intro a k u i t _ h; simp at h
  | cons x ds ih =>
    intro a k u i t hd h ht
    simp only [slotsApart, Bool.and_eq_true] at hd
    simp only [puts]
    cases i with
    | zero =>
      simp only [List.getElem?_cons_zero, Option.some.injEq] at h
      subst h
      rw [puts_eval_out _ _ _ _ _ (by simpa using hd.1)]
      simp [Act.put, Act.eval, ht]
    | succ i =>
      rw [ih _ _ _ i t hd.2 (by simpa using h) (by cases x <;> simpa [Act.put] using ht)]
      congr 1
      omega

/-- One operation's duty, written out. -/
def DutyO (D : Nat) (P : Program) (ops : Array Oper) (fr : (Nat → Value) → Act) (u0 : Nat → Value) (Φ : Nat → (Nat → Value) → World → Prop) (S : (Nat → Bool) → World → Prop) (Q : Exit → Act → World → Prop) (i : Nat) (o : Oper) : Prop :=
  ∀ (u : Nat → Value) (w : World) (L : Nat → Bool), S L w → L i = false → (∀ j ∈ ancOf ops D i, L j = true) → (∀ j ∈ ancOf ops D i, Φ j u w) → (∀ j, j < ops.size → i ∈ ancOf ops D j → u j = u0 j) →
    ∀ K : Act → World → Prop, (∀ v w', Φ i (upd u i v) w' → S (fun k => if k = i then true else L k) w' → (∀ j x, j ≠ i → Φ j x w → Φ j x w') → K ((fr u).put o.dst v) w') → o.wp P (fr u) w K Q
/-- All operations' duties. -/
def Duties (D : Nat) (P : Program) (ops : Array Oper) (fr : (Nat → Value) → Act) (u0 : Nat → Value) (Φ : Nat → (Nat → Value) → World → Prop) (S : (Nat → Bool) → World → Prop) (Q : Exit → Act → World → Prop) : List Oper → Nat → Prop
  | [], _ => True
  | o :: r, k => DutyO D P ops fr u0 Φ S Q k o ∧ Duties D P ops fr u0 Φ S Q r (k + 1)
theorem duties_at {D : Nat} {ops : Array Oper} {fr : (Nat → Value) → Act} {u0 : Nat → Value} {Φ : Nat → (Nat → Value) → World → Prop} {S : (Nat → Bool) → World → Prop} :
    ∀ (l : List Oper) (k i : Nat) (o : Oper), Duties D P ops fr u0 Φ S Q l k → l[i]? = some o → DutyO D P ops fr u0 Φ S Q (k + i) o := by
  intro l
  induction l with
  | nil => intro k i o _ h; simp at h
  | cons x l ih =>
    intro k i o hd h
    cases i with
    | zero => simp only [List.getElem?_cons_zero, Option.some.injEq] at h; subst h; exact hd.1
    | succ i =>
      have := ih (k + 1) i o hd.2 (by simpa using h)
      rw [show k + (i + 1) = k + 1 + i by omega]; exact this

theorem wp_region_all (D : Nat) {id : Nat} {l : List Oper} {a : Act} {w : World} (ds : List (Option Tmp)) (Φ : Nat → (Nat → Value) → World → Prop) (S : (Nat → Bool) → World → Prop)
    (hm : P.follows .mixedOrders = true) (hw : laidWell l.toArray = true) (hds : l.map (·.dst) = ds) (hd : slotsApart ds = true) (hs : S (fun _ => false) w.drew)
    (hdep : ∀ j u u' w, (∀ k, k = j ∨ k ∈ ancOf l.toArray D j → u k = u' k) → Φ j u w → Φ j u' w)
    (duty : Duties D P l.toArray (puts a ds 0) (starts a ds) Φ S Q l 0)
    (fin : ∀ u w L, S L w → (∀ i, i < l.length → L i = true) → (∀ i, i < l.length → Φ i u w) → Q .normal (puts a ds 0 u) w) : (Code.region id l.toArray true).wp P Q a w := by
  subst hds
  refine wp_region_any hm ?_
  refine wpAny_all D (fr := puts a (l.map (·.dst)) 0) (u0 := starts a (l.map (·.dst))) (Φ := Φ) (S := S) hw ?_ hdep (fun i hi o ho u w L hS hL hA h1 h2 _ K hK => by
      have := duties_at l 0 i o duty (by simpa using ho)
      rw [Nat.zero_add] at this
      exact this u w L hS hL hA h1 h2 K hK) (fun u w L hS hA h => fin u w L hS (fun i hi => hA i (by simpa using hi)) fun i hi => h i (by simpa using hi)) _ _ _ _ ?_ ?_
  · intro i o u v ho
    have := puts_upd (l.map (·.dst)) hd a 0 u i o.dst v (by rw [List.getElem?_map]; rw [List.getElem?_toArray] at ho; rw [ho]; rfl)
    rwa [Nat.zero_add] at this
  · simp
  · refine ⟨by simp, ?_, ⟨starts a (l.map (·.dst)), (puts_starts _ _).symm, ?_, fun _ _ _ => rfl⟩, ?_⟩
    · intro i hi
      exfalso
      rw [Array.getD_eq_getD_getElem?, Array.getElem?_replicate] at hi
      split at hi <;> simp at hi
    · intro i hi
      exfalso
      rw [Array.getD_eq_getD_getElem?, Array.getElem?_replicate] at hi
      split at hi <;> simp at hi
    · have e : (fun i => (Array.replicate l.toArray.size false).getD i false) = (fun _ => false) := by
        funext i
        rw [Array.getD_eq_getD_getElem?, Array.getElem?_replicate]
        split <;> rfl
      rw [e]; exact hs
end
end Go.Proofs.Ytgahhifedgmicaa
