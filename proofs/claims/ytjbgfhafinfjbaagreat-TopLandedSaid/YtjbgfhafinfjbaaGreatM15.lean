/-
  A machine of plain data beside the model: a run out of nothing, as a contract. No program in sight.
-/
import Derived.Test.YtjbgfhafinfjbaaGreatMG
set_option linter.unusedVariables false
set_option linter.unusedSimpArgs false
namespace Go.Proofs.YtjbgfhafinfjbaaGreat.Mc
open Go.RowKit

section
variable {P : Program}
theorem HRel.none [Bk] [Ev] {A : Nat → Prop} {w : World} (hA : ∀ b, A b → b < w.heap.size) (hg : GOk A w) : HRel (fun _ => .no) A (fun _ => .no) w where
  out := fun _ _ h => by cases h
  old := hA
  no := fun _ _ => rfl
  dead := fun _ h => by cases h
  cells := fun _ _ _ _ h => by cases h
  inj := fun _ _ _ h => by cases h
  glob := hg
  others := fun _ _ h hB => by subst h; exact absurd hB (by simp [Blk.other])
theorem GOk.none [Bk] {A : Nat → Prop} {w : World} (h : Bk.glob = []) : GOk A w := fun t ht => absurd (h ▸ ht : t ∈ []) List.not_mem_nil
theorem Ext.below [Bk] [Ev] {m m' : Nat → St} {w w' : World} (h : Ext m w m' w') (hm : ∀ id b, m id ≠ .at b) : Below w.heap.size w w' :=
  ⟨h.os, h.tape, h.output, h.size, fun k hk => (h.un k hk fun id => hm id k).2⟩
/-- What the machine says of a call on plain data, said of the model. -/
theorem ACalls.plain [Bk] [Ev] {k : FuncId} {args : List AV} {R : AV → AH → Prop} (h : ACalls P k args (fun _ => .no) R) (vs : Array Value) (hl : vs.size = args.length) (w : World) (A : Nat → Prop) (hA : ∀ b, A b → b < w.heap.size) (hg : GOk A w) (hv : ∀ (i : Nat) (x : AV), args[i]? = some x → RdL A w x (vs.getD i Go.undef)) :
    Calls P k vs w fun e w' => ∃ v u m' h', e = .returned v ∧ R u h' ∧ Rd m' A w' u v ∧ HRel m' A h' w' ∧ Below w.heap.size w w' := by
  refine (h (fun _ => .no) A w vs (HRel.none hA hg) hl fun i x hx => .pure _ _ ((hv i x hx).mono (Nat.le_refl _) fun b _ hb => ⟨?_, rfl⟩)).mono ?_
  · rintro (h | ⟨id, h⟩)
    · exact hb h
    · cases h
  · rintro e w' ⟨v, u, m', h', h1, h2, h3, h4, h5⟩
    exact ⟨v, u, m', h', h1, h2, h4, h3, h5.below fun id b h => by cases h⟩
theorem leaf_get : Tr.leaf.get = fun _ => Blk.no := by funext j; exact @Tr.get_leaf bk0 ev0 j
theorem ext0 : @ExtOk bk0 ev0 P := ⟨fun k ps rs h => absurd h List.not_mem_nil, fun k h => absurd h List.not_mem_nil, fun k as r h => absurd h List.not_mem_nil⟩
/-- A run that says yes, out of nothing: the call says yes, and makes but new memory. -/
theorem yes_calls {L d : Nat} {k : FuncId} (h : saysYes (@acallF bk0 P L d k [] .leaf 0) = true) (w : World) : Calls P k #[] w fun e w' => e = .returned (.bool true) ∧ Below w.heap.size w w' := by
  obtain ⟨h', hc⟩ := @saysYes_ok P bk0 ev0 ext0 L d k [] .leaf 0 (@saysYes_F P bk0 L d k [] .leaf 0 h)
  rw [leaf_get] at hc
  refine (@ACalls.plain P bk0 ev0 k [] _ hc #[] rfl w (fun _ => False) (fun _ h => h.elim) (fun t ht => absurd ht List.not_mem_nil) (by intro i x hx; simp at hx)).mono ?_
  rintro e w' ⟨v, u, m', h'', rfl, ⟨rfl, -⟩, hr, -, hb⟩
  exact ⟨by rw [@Rd.c_inv bk0 ev0 _ _ _ _ _ hr], hb⟩
/-- A run that says yes, by names. -/
theorem yes_calls_by [Bk] [Ev] (hX : ExtOk P) {L d : Nat} {k : FuncId} {args : List AV} (h : saysYes (acallF P L d k args .leaf 0) = true) (vs : Array Value) (hl : vs.size = args.length) (w : World) (A : Nat → Prop) (hA : ∀ b, A b → b < w.heap.size) (hg : GOk A w) (hv : ∀ (i : Nat) (x : AV), args[i]? = some x → RdL A w x (vs.getD i Go.undef)) :
    Calls P k vs w fun e w' => e = .returned (.bool true) ∧ Below w.heap.size w w' := by
  obtain ⟨h', hc⟩ := saysYes_ok hX (saysYes_F h)
  rw [leaf_get] at hc
  refine (hc.plain vs hl w A hA hg hv).mono ?_
  rintro e w' ⟨v, u, m', h'', rfl, ⟨rfl, -⟩, hr, -, hb⟩
  exact ⟨by rw [hr.c_inv], hb⟩
theorem ev_vars : ∀ {l : List (Int × Int)} {xs : List Int}, l.length = xs.length → (∀ t ∈ l.zip xs, t.1.1 ≤ t.2 ∧ t.2 ≤ t.1.2) → ∀ i, (l.getD i (0, 0)).1 ≤ xs.getD i 0 ∧ xs.getD i 0 ≤ (l.getD i (0, 0)).2
  | [], [], _, _, i => by simp
  | [], _ :: _, h, _, _ => by simp at h
  | _ :: _, [], h, _, _ => by simp at h
  | a :: l, x :: xs, h, hb, 0 => hb (a, x) (by simp)
  | a :: l, x :: xs, h, hb, i + 1 => by
    simp only [List.getD_cons_succ]
    exact ev_vars (by simpa using h) (fun t ht => hb t (by rw [List.zip_cons_cons]; exact List.mem_cons_of_mem _ ht)) i
/-- The bounds, one by one; the facts, one by one. -/
inductive BndL : List (Int × Int) → List Int → Prop
  | nil : BndL [] []
  | cons {a b x : Int} {l : List (Int × Int)} {xs : List Int} (h1 : a ≤ x) (h2 : x ≤ b) (h : BndL l xs) : BndL ((a, b) :: l) (x :: xs)
theorem BndL.len {l : List (Int × Int)} {xs : List Int} (h : BndL l xs) : l.length = xs.length := by induction h <;> simp_all
theorem BndL.all {l : List (Int × Int)} {xs : List Int} (h : BndL l xs) : ∀ t ∈ l.zip xs, t.1.1 ≤ t.2 ∧ t.2 ≤ t.1.2 := by
  induction h with
  | nil => intro t ht; simp at ht
  | cons h1 h2 _ ih =>
    intro t ht
    rw [List.zip_cons_cons] at ht
    rcases List.mem_cons.1 ht with rfl | ht
    · exact ⟨h1, h2⟩
    · exact ih t ht
inductive FctL (ρ : Nat → Int) : List (Poly × Int × Int) → Prop
  | nil : FctL ρ []
  | cons {p : Poly} {a b : Int} {l : List (Poly × Int × Int)} (h1 : a ≤ pev ρ p) (h2 : pev ρ p ≤ b) (h : FctL ρ l) : FctL ρ ((p, a, b) :: l)
theorem FctL.all {ρ : Nat → Int} {l : List (Poly × Int × Int)} (h : FctL ρ l) : ∀ t ∈ l, t.2.1 ≤ pev ρ t.1 ∧ pev ρ t.1 ≤ t.2.2 := by
  induction h with
  | nil => intro t ht; exact absurd ht List.not_mem_nil
  | cons h1 h2 _ ih =>
    intro t ht
    rcases List.mem_cons.1 ht with rfl | ht
    · exact ⟨h1, h2⟩
    · exact ih t ht
/-- The greater ones, one by one. -/
inductive MaxL (ρ : Nat → Int) : List (Nat × Poly × Poly × Poly) → Prop
  | nil : MaxL ρ []
  | cons {p q r : Poly} {l : List (Nat × Poly × Poly × Poly)} (h1 : pev ρ r = max (pev ρ p) (pev ρ q)) (h : MaxL ρ l) : MaxL ρ ((2, p, q, r) :: l)
theorem MaxL.all {ρ : Nat → Int} {l : List (Nat × Poly × Poly × Poly)} (h : MaxL ρ l) : ∀ t ∈ l, (t.1 = 0 → pev ρ t.2.2.2 = (pev ρ t.2.1).tdiv (pev ρ t.2.2.1)) ∧ (t.1 = 1 → pev ρ t.2.2.2 = (pev ρ t.2.1).tmod (pev ρ t.2.2.1)) ∧ (t.1 = 2 → pev ρ t.2.2.2 = max (pev ρ t.2.1) (pev ρ t.2.2.1)) := by
  induction h with
  | nil => intro t ht; exact absurd ht List.not_mem_nil
  | cons h1 _ ih =>
    intro t ht
    rcases List.mem_cons.1 ht with rfl | ht
    · refine ⟨fun h => ?_, fun h => ?_, fun _ => h1⟩
      · simp at h
      · simp at h
    · exact ih t ht
abbrev evMax (b : Bk) (xs : List Int) (hd : MaxL (fun i => xs.getD i 0) b.defs) (hb : BndL b.vars xs) (hf : FctL (fun i => xs.getD i 0) b.facts) (hk : b.kinds = [] := by rfl) : @Ev b :=
  @Ev.mk b xs (ev_vars hb.len hb.all) hf.all hd.all [] (fun v h => absurd h List.not_mem_nil) (fun i c h => by rw [hk] at h; cases h)
/-- Quotients, remainders, the greater ones, one by one. -/
inductive DefL (ρ : Nat → Int) : List (Nat × Poly × Poly × Poly) → Prop
  | nil : DefL ρ []
  | quo {p q r : Poly} {l : List (Nat × Poly × Poly × Poly)} (h1 : pev ρ r = (pev ρ p).tdiv (pev ρ q)) (h : DefL ρ l) : DefL ρ ((0, p, q, r) :: l)
  | rem {p q r : Poly} {l : List (Nat × Poly × Poly × Poly)} (h1 : pev ρ r = (pev ρ p).tmod (pev ρ q)) (h : DefL ρ l) : DefL ρ ((1, p, q, r) :: l)
  | great {p q r : Poly} {l : List (Nat × Poly × Poly × Poly)} (h1 : pev ρ r = max (pev ρ p) (pev ρ q)) (h : DefL ρ l) : DefL ρ ((2, p, q, r) :: l)
theorem DefL.all {ρ : Nat → Int} {l : List (Nat × Poly × Poly × Poly)} (h : DefL ρ l) : ∀ t ∈ l, (t.1 = 0 → pev ρ t.2.2.2 = (pev ρ t.2.1).tdiv (pev ρ t.2.2.1)) ∧ (t.1 = 1 → pev ρ t.2.2.2 = (pev ρ t.2.1).tmod (pev ρ t.2.2.1)) ∧ (t.1 = 2 → pev ρ t.2.2.2 = max (pev ρ t.2.1) (pev ρ t.2.2.1)) := by
  induction h with
  | nil => intro t ht; exact absurd ht List.not_mem_nil
  | quo h1 _ ih =>
    intro t ht
    rcases List.mem_cons.1 ht with rfl | ht
    · exact ⟨fun _ => h1, fun h => by simp at h, fun h => by simp at h⟩
    · exact ih t ht
  | rem h1 _ ih =>
    intro t ht
    rcases List.mem_cons.1 ht with rfl | ht
    · exact ⟨fun h => by simp at h, fun _ => h1, fun h => by simp at h⟩
    · exact ih t ht
  | great h1 _ ih =>
    intro t ht
    rcases List.mem_cons.1 ht with rfl | ht
    · exact ⟨fun h => by simp at h, fun h => by simp at h, fun _ => h1⟩
    · exact ih t ht
abbrev evDef (b : Bk) (xs : List Int) (hd : DefL (fun i => xs.getD i 0) b.defs) (hb : BndL b.vars xs) (hf : FctL (fun i => xs.getD i 0) b.facts) (hk : b.kinds = [] := by rfl) : @Ev b :=
  @Ev.mk b xs (ev_vars hb.len hb.all) hf.all hd.all [] (fun v h => absurd h List.not_mem_nil) (fun i c h => by rw [hk] at h; cases h)
/-- The numbers of a book that knows no quotients. -/
abbrev evOf (b : Bk) (xs : List Int) (hd : b.defs = []) (hb : BndL b.vars xs) (hf : FctL (fun i => xs.getD i 0) b.facts) (hk : b.kinds = [] := by rfl) : @Ev b :=
  @Ev.mk b xs (ev_vars hb.len hb.all) hf.all (fun t h => absurd (hd ▸ h : t ∈ []) List.not_mem_nil) [] (fun v h => absurd h List.not_mem_nil) (fun i c h => by rw [hk] at h; cases h)
/-- .. that knows values by name. -/
abbrev evVal (b : Bk) (xs : List Int) (vals : List Value) (ho : ∀ v ∈ vals, v.oneCell' = true) (hd : b.defs = []) (hb : BndL b.vars xs) (hf : FctL (fun i => xs.getD i 0) b.facts) (hk : ∀ i c, b.kinds[i]? = some c → (c = true → ∃ s, vals.getD i (.bool false) = .string s) ∧ (c = false → ∃ d, vals.getD i (.bool false) = .bool d)) : @Ev b :=
  @Ev.mk b xs (ev_vars hb.len hb.all) hf.all (fun t h => absurd (hd ▸ h : t ∈ []) List.not_mem_nil) vals ho hk
/-- A function of nothing that says yes, as a known call. -/
theorem ext_yes [Bk] [Ev] {k : FuncId} (hc : ∀ w, Calls P k #[] w fun e w' => e = .returned (.bool true) ∧ Below w.heap.size w w') (h : AH) : ACalls P k [] h (fun v h' => v = .c (.bool true) ∧ h' = h) := by
  intro m A w vs H hl hv
  have e : vs = #[] := by apply Array.eq_empty_of_size_eq_zero; simpa using hl
  subst e
  refine (hc w).mono ?_
  rintro e w' ⟨rfl, hb⟩
  exact ⟨_, _, m, h, rfl, ⟨rfl, rfl⟩, H.below hb, .pure _ _ (.c _), Ext.of_below H hb⟩
theorem toPs_vals [Bk] [Ev] {m : Nat → St} {A : Nat → Prop} {w : World} : ∀ {args : List AV} {ps : List Poly} {l : List Value}, toPs args = some ps → l.length = args.length → (∀ (i : Nat) (x : AV), args[i]? = some x → Rd m A w x (l.getD i Go.undef)) → l = ps.map fun p => Value.int .i64 (pev Ev.rho p)
  | [], ps, l, h, hl, _ => by
    cases h
    exact List.length_eq_zero_iff.1 hl
  | x :: args, ps, [], h, hl, _ => by simp at hl
  | x :: args, ps, v :: l, h, hl, hv => by
    unfold toPs at h
    split at h
    · rename_i p q hp hq
      cases h
      have h1 := toP_ok hp (hv 0 x rfl)
      have h2 := toPs_vals (l := l) hq (by simpa using hl) (fun i y hy => hv (i + 1) y hy)
      simp only [List.getD_cons_zero] at h1
      rw [List.map_cons, ← h2, ← h1]
    · cases h
/-- A call of numbers that hands back a number, as a known call. -/
theorem ext_int [Bk] [Ev] {k : FuncId} {ps : List Poly} {r : Poly} (hc : ∀ w, Calls P k ((ps.map fun p => Value.int .i64 (pev Ev.rho p)).toArray) w fun e w' => e = .returned (.int .i64 (pev Ev.rho r)) ∧ Below w.heap.size w w') (args : List AV) (h : AH) (ha : toPs args = some ps) :
    ACalls P k args h (fun v h' => v = tupOf ([r].map mkE) ∧ h' = h) := by
  intro m A w vs H hl hv
  have e : vs = (ps.map fun p => Value.int .i64 (pev Ev.rho p)).toArray := by
    apply Array.ext'
    rw [← toPs_vals (l := vs.toList) ha (by simpa using hl) (fun i x hx => by have := hv i x hx; simpa [List.getD] using this)]
  subst e
  refine (hc w).mono ?_
  rintro e w' ⟨rfl, hb⟩
  exact ⟨_, _, m, h, rfl, ⟨rfl, rfl⟩, H.below hb, .pure _ _ (RdL_mkE _ _ r), Ext.of_below H hb⟩
/-- A call of numbers that hands back numbers, as a known call. -/
theorem ext_tup [Bk] [Ev] {k : FuncId} {ps rs : List Poly} (hc : ∀ w, Calls P k ((ps.map fun p => Value.int .i64 (pev Ev.rho p)).toArray) w fun e w' => e = .returned (.tuple ((rs.map fun p => Value.int .i64 (pev Ev.rho p)).toArray)) ∧ Below w.heap.size w w') (hr : rs.length ≠ 1) (args : List AV) (h : AH) (ha : toPs args = some ps) :
    ACalls P k args h (fun v h' => v = tupOf (rs.map mkE) ∧ h' = h) := by
  intro m A w vs H hl hv
  have e : vs = (ps.map fun p => Value.int .i64 (pev Ev.rho p)).toArray := by
    apply Array.ext'
    rw [← toPs_vals (l := vs.toList) ha (by simpa using hl) (fun i x hx => by have := hv i x hx; simpa [List.getD] using this)]
  subst e
  have ht : tupOf (rs.map mkE) = .tup (rs.map mkE) := by
    rcases rs with _ | ⟨a, _ | ⟨b, l⟩⟩
    · rfl
    · exact absurd rfl hr
    · rfl
  rw [ht]
  refine (hc w).mono ?_
  rintro e w' ⟨rfl, hb⟩
  refine ⟨_, .tup (rs.map mkE), m, h, rfl, ⟨rfl, rfl⟩, H.below hb, .pure _ _ (.tup _ _ (by simp) ?_), Ext.of_below H hb⟩
  intro i x hx
  rw [List.getElem?_map] at hx
  cases hp : rs[i]? with
  | none => rw [hp] at hx; cases hx
  | some p =>
    rw [hp] at hx
    cases hx
    have : ((rs.map fun p => Value.int .i64 (pev Ev.rho p)).toArray).getD i Go.undef = .int .i64 (pev Ev.rho p) := by simp [hp]
    rw [this]
    exact RdL_mkE _ _ p
/-- The known calls, one by one. -/
def ExtL [Bk] [Ev] (P : Program) (l : List (Nat × List Poly × List Poly)) : Prop := ∀ k ps rs, (k, ps, rs) ∈ l → ∀ args h, toPs args = some ps → ACalls P k args h (fun v h' => v = tupOf (rs.map mkE) ∧ h' = h)
theorem ExtL.nil [Bk] [Ev] : ExtL P [] := fun k ps rs h => absurd h List.not_mem_nil
theorem ExtL.cons [Bk] [Ev] {k : Nat} {ps rs : List Poly} {l : List (Nat × List Poly × List Poly)} (h : ∀ args h, toPs args = some ps → ACalls P k args h (fun v h' => v = tupOf (rs.map mkE) ∧ h' = h)) (hl : ExtL P l) : ExtL P ((k, ps, rs) :: l) := by
  intro k' ps' rs' hm
  rcases List.mem_cons.1 hm with e | hm
  · cases e; exact h
  · exact hl _ _ _ hm
def YesL [Bk] [Ev] (P : Program) (l : List Nat) : Prop := ∀ k, k ∈ l → ∀ h, ACalls P k [] h (fun v h' => v = .c (.bool true) ∧ h' = h)
theorem YesL.nil [Bk] [Ev] : YesL P [] := fun k h => absurd h List.not_mem_nil
theorem YesL.cons [Bk] [Ev] {k : Nat} {l : List Nat} (hc : ∀ w, Calls P k #[] w fun e w' => e = .returned (.bool true) ∧ Below w.heap.size w w') (hl : YesL P l) : YesL P (k :: l) := by
  intro k' hm h
  rcases List.mem_cons.1 hm with e | hm
  · cases e; exact ext_yes hc h
  · exact hl _ hm h
def KnL [Bk] [Ev] (P : Program) (l : List (Nat × List AV × AV)) : Prop := ∀ k as r, (k, as, r) ∈ l → KnOk P k as r
theorem KnL.nil [Bk] [Ev] : KnL P [] := fun k as r h => absurd h List.not_mem_nil
theorem KnL.cons [Bk] [Ev] {k : Nat} {as : List AV} {r : AV} {l : List (Nat × List AV × AV)} (h : KnOk P k as r) (hl : KnL P l) : KnL P ((k, as, r) :: l) := by
  intro k' as' r' hm
  rcases List.mem_cons.1 hm with e | hm
  · cases e; exact h
  · exact hl _ _ _ hm
/-- The book does not matter where the numbers are the same. -/
theorem RdL.cast (b1 : Bk) (e1 : @Ev b1) (b2 : Bk) (e2 : @Ev b2) (hxs : @Ev.xs b1 e1 = @Ev.xs b2 e2) (hvs : @Ev.vals b1 e1 = @Ev.vals b2 e2) {A : Nat → Prop} {w : World} {x : AV} {v : Value} (h : @RdL b1 e1 A w x v) : @RdL b2 e2 A w x v := by
  have hρ : @Ev.rho b1 e1 = @Ev.rho b2 e2 := by funext i; unfold Ev.rho; rw [hxs]
  induction h with
  | c v => exact .c v
  | undef => exact .undef
  | emp a => exact .emp a
  | agg cs vs hl h1 _ ih => exact .agg cs vs hl h1 ih
  | tup cs vs hl _ ih => exact .tup cs vs hl ih
  | lit sz els b off cap vs hm hb hc hsz h1 hv _ ih => exact .lit sz els b off cap vs hm hb hc hsz h1 hv ih
  | lit0 sz a cap => exact .lit0 sz a cap
  | lptr sz els i0 j0 b off vs hm hb hsz h1 hv _ ih => exact .lptr sz els i0 j0 b off vs hm hb hsz h1 hv ih
  | fn f xs ys vs us hl hk _ _ ih1 ih2 => exact .fn f xs ys vs us hl hk ih1 ih2
  | ifc t x v _ ih => exact .ifc t x v ih
  | e p => rw [hρ]; exact .e p
  | row n xs b off len cap hn hc hm hb hv => exact .row n xs b off len cap (by rw [← hρ]; exact hn) hc hm hb (by rw [← hρ]; exact hv)
  | row0 n xs a cap hn => exact .row0 n xs a cap (by rw [← hρ]; exact hn)
  | o i =>
    have e : @Ev.val b1 e1 i = @Ev.val b2 e2 i := by unfold Ev.val; rw [hvs]
    rw [e]; exact .o i
theorem eqL_get {r : AV → AV → Bool} : ∀ {a b : List AV}, eqL r a b = true → a.length = b.length ∧ ∀ (i : Nat) (y : AV), b[i]? = some y → ∃ x, a[i]? = some x ∧ r x y = true
  | [], [], _ => ⟨rfl, fun i y h => by simp at h⟩
  | [], _ :: _, h => by cases h
  | _ :: _, [], h => by cases h
  | x :: l, y :: m, h => by
    unfold eqL at h
    rw [Bool.and_eq_true] at h
    obtain ⟨h1, h2⟩ := eqL_get h.2
    refine ⟨by simp [h1], ?_⟩
    intro i z hz
    cases i with
    | zero => cases hz; exact ⟨x, rfl, h.1⟩
    | succ i => exact h2 i z (by simpa using hz)
theorem eqLL_get {r : AV → AV → Bool} : ∀ {a b : List (List AV)}, eqLL r a b = true → a.length = b.length ∧ ∀ (i : Nat) (y : List AV), b[i]? = some y → ∃ x, a[i]? = some x ∧ eqL r x y = true
  | [], [], _ => ⟨rfl, fun i y h => by simp at h⟩
  | [], _ :: _, h => by cases h
  | _ :: _, [], h => by cases h
  | x :: l, y :: m, h => by
    unfold eqLL at h
    rw [Bool.and_eq_true] at h
    obtain ⟨h1, h2⟩ := eqLL_get h.2
    refine ⟨by simp [h1], ?_⟩
    intro i z hz
    cases i with
    | zero => cases hz; exact ⟨x, rfl, h.1⟩
    | succ i => exact h2 i z (by simpa using hz)
/-- What reads as the one reads as the other, by what the book knows. -/
def avLe [Bk] : Nat → AV → AV → Bool
  | 0, _, _ => false
  | k + 1, x, y => match x with
    | .c v => match y with
      | .c u => vEq v u
      | .e p => match v with
        | .int .i64 n => eqB (psub p (plit n)) == some true
        | _ => false
      | _ => false
    | .e q => match y with
      | .e p => decide (p = q) || eqB (psub p q) == some true
      | .c (.int .i64 n) => eqB (psub q (plit n)) == some true
      | _ => false
    | .undef => match y with | .undef => true | _ => false
    | .emp => match y with | .emp => true | .lit _ [] => true | _ => false
    | .agg a => match y with | .agg b => eqL (avLe k) a b | _ => false
    | .tup a => match y with | .tup b => eqL (avLe k) a b | _ => false
    | .lit s a => match y with | .lit s' b => decide (s = s') && eqLL (avLe k) a b | _ => false
    | .row n a => match y with | .row n' b => decide (n = n') && decide (a = b) | _ => false
    | .o i => match y with | .o j => decide (i = j) | _ => false
    | _ => false
theorem avLe_one [Bk] {k : Nat} {x y : AV} (h : avLe k x y = true) (h1 : x.one = true) : y.one = true := by
  cases k with
  | zero => cases h
  | succ k =>
    unfold avLe at h
    split at h
    · split at h
      · rw [← vEq_ok h]; exact h1
      · rfl
      · cases h
    · split at h
      · rfl
      · rfl
      · cases h
    · simp [AV.one] at h1
    · split at h
      · rfl
      · rfl
      · cases h
    · simp [AV.one] at h1
    · simp [AV.one] at h1
    · split at h
      · rfl
      · cases h
    · split at h
      · rfl
      · cases h
    · split at h
      · rfl
      · cases h
    · cases h
theorem avLe_ok [Bk] [Ev] {A : Nat → Prop} {w : World} : ∀ {k : Nat} {x y : AV} {v : Value}, avLe k x y = true → RdL A w x v → RdL A w y v
  | 0, x, y, v, h, _ => by cases h
  | k + 1, x, y, v, h, hr => by
    have ih : ∀ {x y : AV} {v : Value}, avLe k x y = true → RdL A w x v → RdL A w y v := avLe_ok
    have pe : ∀ {p q : Poly}, (eqB (psub p q) == some true) = true → pev Ev.rho p = pev Ev.rho q := by
      intro p q hpq
      have := eqB_ok (eq_of_beq hpq)
      rw [pev_psub] at this
      have := of_decide_eq_true this.symm
      omega
    unfold avLe at h
    split at h
    · rename_i u
      split at h
      · rw [← vEq_ok h]; exact hr
      · rename_i p
        split at h
        · rename_i n
          cases hr
          have := pe h
          rw [pev_plit] at this
          rw [← this]; exact .e p
        · cases h
      · cases h
    · rename_i q
      split at h
      · rename_i p
        cases hr
        rw [Bool.or_eq_true] at h
        rcases h with h | h
        · rw [← of_decide_eq_true h]; exact .e p
        · rw [← pe h]; exact .e p
      · rename_i n
        cases hr
        have := pe h
        rw [pev_plit] at this
        rw [this]; exact .c _
      · cases h
    · split at h
      · exact hr
      · cases h
    · split at h
      · exact hr
      · cases hr; exact .lit0 _ _ 0
      · cases h
    · split at h
      · obtain ⟨h1, h2⟩ := eqL_get h
        cases hr with
        | agg _ vs hl h3 h4 =>
          refine .agg _ vs (by rw [hl, h1]) ?_ ?_
          · intro i y hy
            obtain ⟨x, g1, g2⟩ := h2 i y hy
            exact avLe_one g2 (h3 i x g1)
          · intro i y hy
            obtain ⟨x, g1, g2⟩ := h2 i y hy
            exact ih g2 (h4 i x g1)
      · cases h
    · split at h
      · obtain ⟨h1, h2⟩ := eqL_get h
        cases hr with
        | tup _ vs hl h4 =>
          refine .tup _ vs (by rw [hl, h1]) ?_
          intro i y hy
          obtain ⟨x, g1, g2⟩ := h2 i y hy
          exact ih g2 (h4 i x g1)
      · cases h
    · rename_i s a
      split at h
      · rename_i s' b
        rw [Bool.and_eq_true, decide_eq_true_eq] at h
        obtain ⟨rfl, h⟩ := h
        obtain ⟨h1, h2⟩ := eqLL_get h
        have find : ∀ (i j : Nat) (y : AV), at2 b i j = some y → ∃ x, at2 a i j = some x ∧ avLe k x y = true := by
          intro i j y hy
          unfold at2 at hy
          cases hb : b[i]? with
          | none => rw [hb] at hy; cases hy
          | some e =>
            rw [hb] at hy
            obtain ⟨e', g1, g2⟩ := h2 i e hb
            obtain ⟨-, l2⟩ := eqL_get g2
            obtain ⟨x, q1, q2⟩ := l2 j y hy
            exact ⟨x, by unfold at2; rw [g1]; exact q1, q2⟩
        cases hr with
        | lit _ _ bb off cap vs hA hb hc hsz h3 hv h4 =>
          rw [h1]
          refine .lit s b bb off cap vs hA hb (by rw [← h1]; exact hc) ?_ ?_ ?_ ?_
          · intro e he
            obtain ⟨i, hi⟩ := List.mem_iff_getElem?.1 he
            obtain ⟨e', g1, g2⟩ := h2 i e hi
            rw [← (eqL_get g2).1]
            exact hsz e' (List.mem_of_getElem? g1)
          · intro i j y hy
            obtain ⟨x, g1, g2⟩ := find i j y hy
            exact avLe_one g2 (h3 i j x g1)
          · intro i j y hy
            obtain ⟨x, g1, g2⟩ := find i j y hy
            exact hv i j x g1
          · intro i j y hy
            obtain ⟨x, g1, g2⟩ := find i j y hy
            exact ih g2 (h4 i j x g1)
        | lit0 _ a0 cap =>
          have e : b = [] := List.length_eq_zero_iff.1 h1.symm
          subst e
          exact .lit0 _ a0 cap
      · cases h
    · split at h
      · rw [Bool.and_eq_true, decide_eq_true_eq, decide_eq_true_eq] at h
        obtain ⟨rfl, rfl⟩ := h
        exact hr
      · cases h
    · split at h
      · rw [decide_eq_true_eq] at h; subst h; exact hr
      · cases h
    · cases h
/-- A run out of plain data to plain data. -/
def runsTo [Bk] (P : Program) (L d : Nat) (k : FuncId) (as : List AV) (r : AV) : Bool :=
  match acallF P L d k as .leaf 0 with
  | some q => (match frz q.t.get 16 q.a with
    | some p => avLe 16 p.1 r
    | none => false)
  | none => false
/-- Such a run, as a known call of another book of the same numbers. -/
theorem kn_of (b : Bk) (ev : @Ev b) (b2 : Bk) (ev2 : @Ev b2) (hxs : @Ev.xs b ev = @Ev.xs b2 ev2) {L d : Nat} {k : FuncId} {as : List AV} {r : AV} (h : @runsTo b P L d k as r = true) (hx : @ExtL b ev P b.ext) (hy : @YesL b ev P b.yes) (hk : @KnL b ev P b.extV) (hgl : b.glob = b2.glob := by rfl) (hvs : @Ev.vals b ev = @Ev.vals b2 ev2 := by rfl) : @KnOk b2 ev2 P k as r := by
  intro A w vs hA hG hl hv
  unfold runsTo at h
  split at h
  · rename_i q hq
    split at h
    · rename_i p hp
      obtain ⟨p1, js⟩ := p
      have hc := @acallT_ok P b ev ⟨hx, hy, hk⟩ L d k as .leaf 0 q (@acallF_le P b L d k as _ _ _ hq)
      rw [leaf_get] at hc
      have hG1 : @GOk b A w := fun t ht => hG t (show t ∈ b2.glob from hgl ▸ ht)
      have H0 : @HRel b ev (fun _ => .no) A (fun _ => .no) w := @HRel.none b ev A w hA hG1
      refine (hc (fun _ => .no) A w vs H0 hl fun i x hi => @Rd.pure b ev (fun _ => .no) A w x _ ?_).mono ?_
      · have := RdL.cast b2 ev2 b ev hxs.symm hvs.symm (hv i x hi)
        refine @RdL.mono b ev _ _ _ _ (Nat.le_refl _) (fun c _ hc => ⟨?_, rfl⟩) _ _ this
        rintro (h | ⟨id, h⟩)
        · exact hc h
        · cases h
      · rintro e w' ⟨v, u, m', h', rfl, ⟨rfl, rfl⟩, H', hr, hE⟩
        have h1 := @frz_ok b ev m' A q.t.get w' H' js 16 q.a p1 js v hp (fun id h => h) hr
        have h2 := RdL.cast b ev b2 ev2 hxs hvs (@avLe_ok b ev _ _ 16 p1 r v h h1)
        refine ⟨v, rfl, @RdL.mono b2 ev2 _ _ _ _ (Nat.le_refl _) (fun c _ hc => ⟨fun h => hc (.inl h), rfl⟩) _ _ h2, ?_⟩
        exact @Ext.below b ev _ _ _ _ hE fun id b h => by cases h
    · cases h
  · cases h
/-- The arguments, one by one. -/
def ArgL [Bk] [Ev] (w : World) (args : List AV) (vs : List Value) : Prop := ∀ (i : Nat) (x : AV), args[i]? = some x → RdL (fun _ => False) w x (vs.getD i Go.undef)
theorem ArgL.nil [Bk] [Ev] {w : World} : ArgL w [] [] := fun i x h => by simp at h
theorem ArgL.cons [Bk] [Ev] {w : World} {x : AV} {args : List AV} {v : Value} {vs : List Value} (h : RdL (fun _ => False) w x v) (hl : ArgL w args vs) : ArgL w (x :: args) (v :: vs) := by
  intro i y hy
  cases i with
  | zero => cases hy; exact h
  | succ i => exact hl i y hy
theorem RdL.var [Bk] [Ev] {A : Nat → Prop} {w : World} {i : Nat} {v : Int} (h : pev Ev.rho (pvar i) = v) : RdL A w (.e (pvar i)) (.int .i64 v) := h ▸ .e _
/-- A run that says yes, by names, its parts one by one. -/
theorem yes_by (b : Bk) (ev : @Ev b) {L d : Nat} {k : FuncId} {args : List AV} (h : saysYes (@acallF b P L d k args .leaf 0) = true) (hx : @ExtL b ev P b.ext) (hy : @YesL b ev P b.yes) (hk : @KnL b ev P b.extV) (vs : List Value) (hl : vs.length = args.length) (w : World) (hv : @ArgL b ev w args vs) (hg : b.glob = [] := by rfl) :
    Calls P k vs.toArray w fun e w' => e = .returned (.bool true) ∧ Below w.heap.size w w' :=
  @yes_calls_by P b ev ⟨hx, hy, hk⟩ L d k args h vs.toArray (by simpa using hl) w (fun _ => False) (fun _ h => h.elim) (@GOk.none b _ _ hg) (fun i x hx => by have := hv i x hx; simpa [List.getD] using this)
end
end Go.Proofs.YtjbgfhafinfjbaaGreat.Mc
