/-
  A machine of plain data beside the model: code, calls. No program in sight.
-/
import Derived.Test.YtglcnlkojlfheaaGreatM7
set_option linter.unusedVariables false
set_option linter.unusedSimpArgs false
namespace Go.Proofs.YtglcnlkojlfheaaGreat.Mc
open Go.RowKit

/-- What the machine says of an end, said of the model's. -/
def Lift [Bk] [Ev] (Q : Exit → List AV → AH → Prop) (m : Nat → St) (A : Nat → Prop) (w : World) : Exit → Act → World → Prop := fun e a' w' => ∃ m' f' h', Q e f' h' ∧ HRel m' A h' w' ∧ FRel m' A w' f' a' ∧ Ext m w m' w'
theorem Lift.back [Bk] [Ev] {Q : Exit → List AV → AH → Prop} {m m1 : Nat → St} {A : Nat → Prop} {w w1 : World} {e : Exit} {a' : Act} {w' : World} (E : Ext m w m1 w1) (h : Lift Q m1 A w1 e a' w') : Lift Q m A w e a' w' := by
  obtain ⟨m', f', h', h1, h2, h3, h4⟩ := h
  exact ⟨m', f', h', h1, h2, h3, E.trans h4⟩

def AWP [Bk] [Ev] (P : Program) (c : Code) (Q : Exit → List AV → AH → Prop) (f : List AV) (h : AH) : Prop :=
  ∀ m A w a, HRel m A h w → FRel m A w f a → c.wp P (Lift Q m A w) a w

theorem least_ex {p : Nat → Prop} (h : ∃ n, p n) : ∃ n, p n ∧ ∀ k, p k → n ≤ k := by
  obtain ⟨n, hn⟩ := h
  induction n using Nat.strongRecOn with
  | _ n ih =>
    by_cases hk : ∃ k, k < n ∧ p k
    · obtain ⟨k, h1, h2⟩ := hk
      exact ih k h1 h2
    · refine ⟨n, hn, fun k hp => ?_⟩
      rcases Nat.lt_or_ge k n with h | h
      · exact absurd ⟨k, h, hp⟩ hk
      · exact h
theorem least_fn {α : Type} (J : Nat → α → Prop) : ∃ μ : α → Nat, ∀ x, (∃ n, J n x) → J (μ x) x ∧ ∀ n, J n x → μ x ≤ n := by
  classical
  refine ⟨fun x => if h : ∃ n, J n x then Classical.choose (least_ex h) else 0, fun x hx => ?_⟩
  have e : (if h : ∃ n, J n x then Classical.choose (least_ex h) else 0) = Classical.choose (least_ex hx) := dif_pos hx
  simp only [e]
  exact Classical.choose_spec (least_ex hx)

section
variable {P : Program} {Q : Exit → List AV → AH → Prop} {f : List AV} {h : AH}

theorem AWP.mono [Bk] [Ev] {c : Code} {Q' : Exit → List AV → AH → Prop} (k : AWP P c Q f h) (hq : ∀ e f h, Q e f h → Q' e f h) : AWP P c Q' f h :=
  fun m A w a H F => wp_mono (k m A w a H F) fun e a w ⟨m', f', h', h1, h2⟩ => ⟨m', f', h', hq _ _ _ h1, h2⟩
theorem AWP.skip [Bk] [Ev] (k : Q .normal f h) : AWP P .skip Q f h := fun m A w a H F => wp_skip ⟨m, f, h, k, H, F, Ext.refl _ _⟩
theorem AWP.exit [Bk] [Ev] {id : Nat} (k : Q (.exit id) f h) : AWP P (.exit id) Q f h := fun m A w a H F => wp_exit ⟨m, f, h, k, H, F, Ext.refl _ _⟩
theorem AWP.ret [Bk] [Ev] (k : Q .ret f h) : AWP P .ret Q f h := fun m A w a H F => wp_ret ⟨m, f, h, k, H, F, Ext.refl _ _⟩
def thenA (N : List AV → AH → Prop) (Q : Exit → List AV → AH → Prop) : Exit → List AV → AH → Prop
  | .normal, f, h => N f h
  | e, f, h => Q e f h
theorem AWP.seq [Bk] [Ev] {x y : Code} (k : AWP P x (thenA (AWP P y Q) Q) f h) : AWP P (.seq x y) Q f h := by
  intro m A w a H F
  refine wp_seq (wp_mono (k m A w a H F) ?_)
  rintro e a1 w1 ⟨m1, f1, h1, q, H1, F1, E1⟩
  cases e with
  | normal => exact wp_mono (q m1 A w1 a1 H1 F1) fun e a w hl => hl.back E1
  | _ => exact ⟨m1, f1, h1, q, H1, F1, E1⟩
theorem AWP.cond [Bk] [Ev] {c : Operand} {x y : Code} {b : Bool} (hc : aev f c = .c (.bool b)) (k : AWP P (if b then x else y) Q f h) : AWP P (.cond c x y) Q f h := by
  intro m A w a H F
  have := F.eval c
  rw [hc] at this
  exact wp_cond this.bool (k m A w a H F)
def inBlockA (id : Nat) (Q : Exit → List AV → AH → Prop) : Exit → List AV → AH → Prop
  | .exit id', f, h => if id' = id then Q .normal f h else Q (.exit id') f h
  | e, f, h => Q e f h
theorem AWP.block [Bk] [Ev] {id : Nat} {c : Code} (k : AWP P c (inBlockA id Q) f h) : AWP P (.block id c) Q f h := by
  intro m A w a H F
  refine wp_block (wp_mono (k m A w a H F) ?_)
  rintro e a1 w1 ⟨m1, f1, h1, q, H1, F1, E1⟩
  cases e with
  | exit id' =>
    simp only [inBlockA] at q
    simp only [Exit.inBlock]
    split
    · rename_i e; rw [if_pos e] at q; exact ⟨m1, f1, h1, q, H1, F1, E1⟩
    · rename_i e; rw [if_neg e] at q; exact ⟨m1, f1, h1, q, H1, F1, E1⟩
  | _ => exact ⟨m1, f1, h1, q, H1, F1, E1⟩
/-- A loop: I holds at each round's head, μ goes down. -/
theorem AWP.loop [Bk] [Ev] {c : Code} (I : Nat → List AV → AH → Prop) (n : Nat) (h0 : I n f h) (round : ∀ n f h, I n f h → AWP P c (thenA (fun f' h' => ∃ n', n' < n ∧ I n' f' h') Q) f h) : AWP P (.loop c) Q f h := by
  intro m A w a H F
  let J : Nat → Act → World → Prop := fun n a' w' => ∃ m1 f1 h1, I n f1 h1 ∧ HRel m1 A h1 w' ∧ FRel m1 A w' f1 a' ∧ Ext m w m1 w'
  obtain ⟨μ, hμ⟩ := least_fn (fun n (p : Act × World) => J n p.1 p.2)
  refine wp_loop (fun a' w' => ∃ n, J n a' w') (fun a' w' => μ (a', w')) ⟨n, m, f, h, h0, H, F, Ext.refl _ _⟩ ?_
  intro a1 w1 hex
  obtain ⟨m1, f1, h1, hI, H1, F1, E1⟩ := (hμ (a1, w1) hex).1
  refine wp_mono (round _ f1 h1 hI m1 A w1 a1 H1 F1) ?_
  rintro e a2 w2 ⟨m2, f2, h2, q, H2, F2, E2⟩
  cases e with
  | normal =>
    obtain ⟨n', hlt, hI'⟩ := q
    have hJ : J n' a2 w2 := ⟨m2, f2, h2, hI', H2, F2, E1.trans E2⟩
    exact ⟨⟨n', hJ⟩, Nat.lt_of_le_of_lt ((hμ (a2, w2) ⟨n', hJ⟩).2 n' hJ) hlt⟩
  | _ => exact ⟨m2, f2, h2, q, H2, F2, E1.trans E2⟩

/-- One operation, whatever it is. -/
def StepOk [Bk] [Ev] (P : Program) (o : Oper) (f : List AV) (h : AH) (R : AV → AH → Prop) : Prop :=
  ∀ m A w a, HRel m A h w → FRel m A w f a → ∀ (K : Act → World → Prop) (Q : Exit → Act → World → Prop), (∀ v h' x w' m', R v h' → HRel m' A h' w' → Rd m' A w' v x → Ext m w m' w' → K (a.put o.dst x) w') → o.wp P a w K Q
theorem OpOk.step [Bk] [Ev] {o : Oper} {r : AR} (k : OpOk P o f h r) : StepOk P o f h (fun v h' => v = r.v ∧ h' = upsB h r.ups) := by
  intro m A w a H F K Q hK
  obtain ⟨x, w', m', hr, h1, h2, h3⟩ := k m A w a H F
  unfold Oper.wp
  rcases hr with hr | ⟨hr, rfl⟩
  · rw [hr]; exact hK _ _ x w' m' ⟨rfl, rfl⟩ h1 h2 h3
  · rw [hr]; exact hK _ _ _ w' m' ⟨rfl, rfl⟩ h1 h2 h3
theorem StepOk.mono [Bk] [Ev] {o : Oper} {R R' : AV → AH → Prop} (k : StepOk P o f h R) (hr : ∀ v h, R v h → R' v h) : StepOk P o f h R' :=
  fun m A w a H F K Q hK => k m A w a H F K Q fun v h' x w' m' hR => hK v h' x w' m' (hr _ _ hR)

/-- Whether an operation is wanted. -/
def guardA (ops : Array Oper) (o : Oper) (f : List AV) : Option Bool :=
  match o.guard with
  | none => some true
  | some (j, want) => match (ops[j]?).bind (·.dst) with
    | none => some false
    | some d => match f[d]? with
      | some (.c (.bool b)) => some (b == want)
      | some .undef => some false
      | none => some false
      | _ => none
theorem guardA_ok [Bk] [Ev] {m : Nat → St} {A : Nat → Prop} {w : World} {a : Act} {ops : Array Oper} {o : Oper} {b : Bool} (F : FRel m A w f a) (hg : guardA ops o f = some b) : Region.wanted o (yielded ops a.tmps) = b := by
  unfold guardA at hg
  unfold Region.wanted
  cases ho : o.guard with
  | none => simp [ho] at hg ⊢; exact hg
  | some p =>
    obtain ⟨j, want⟩ := p
    simp only [ho] at hg ⊢
    unfold yielded
    cases hd : (ops[j]?).bind (·.dst) with
    | none => simp [hd] at hg ⊢; exact hg
    | some d =>
      simp only [hd, Option.bind_some] at hg ⊢
      have hsz := F.size
      split at hg
      · rename_i q hf
        cases hg
        have h1 := F.rd d _ hf
        have hlt : d < a.tmps.size := by rw [hsz]; exact (List.getElem?_eq_some_iff.1 hf).1
        have h2 := h1.c_inv
        have : a.tmps[d]? = some (.bool q) := by simpa [hlt] using h2
        rw [this]
        cases q <;> cases want <;> rfl
      · rename_i hf
        cases hg
        have h1 := F.rd d _ hf
        have hlt : d < a.tmps.size := by rw [hsz]; exact (List.getElem?_eq_some_iff.1 hf).1
        have h2 : a.tmps.getD d Go.undef = Go.undef := by
          generalize a.tmps.getD d Go.undef = u at h1
          cases h1 with | pure _ _ h => cases h; rfl
        have : a.tmps[d]? = some Go.undef := by simpa [hlt] using h2
        rw [this]
        rfl
      · rename_i hf
        cases hg
        have : a.tmps.size ≤ d := by rw [hsz]; exact List.getElem?_eq_none_iff.1 hf
        rw [Array.getElem?_eq_none this]
        rfl
      · cases hg

/-- Operations one behind the other. -/
def ASeq [Bk] [Ev] (P : Program) (ops : Array Oper) (Q : Exit → List AV → AH → Prop) (l : List Nat) (f : List AV) (h : AH) : Prop :=
  ∀ m A w a, HRel m A h w → FRel m A w f a → wpOps P ops (Lift Q m A w) l a w
theorem ASeq.nil [Bk] [Ev] {ops : Array Oper} (k : Q .normal f h) : ASeq P ops Q [] f h := fun m A w a H F => ⟨m, f, h, k, H, F, Ext.refl _ _⟩
theorem Oper.wp_mono2 [Bk] [Ev] {o : Oper} {a : Act} {w : World} {K K' : Act → World → Prop} {Q Q' : Exit → Act → World → Prop} (hk : ∀ a w, K a w → K' a w) (hq : ∀ e a w, Q e a w → Q' e a w) (hh : o.wp P a w K Q) : o.wp P a w K' Q' := by
  unfold Oper.wp at *
  generalize (execOp a.eval o).run P w = r at *
  cases r with
  | ok n w' =>
    cases n <;> simp only [Oper.upon] at hh ⊢ <;> first | exact hk _ _ hh | exact hh.elim | skip
    · refine hh.mono ?_
      intro e w'' he
      cases e with
      | returned v => exact hk _ _ he
      | panicked ch => exact hq _ _ _ he
      | outgrown => obtain ⟨a0, w0, h0⟩ := he; exact ⟨a0, w0, hq _ _ _ h0⟩
    · exact hh.mono fun v w'' h => hk _ _ h
  | halt h w' => cases h <;> simp only [Oper.upon] at hh ⊢ <;> first | exact hq _ _ _ hh | exact hh.elim
theorem wpOps_mono [Bk] [Ev] {ops : Array Oper} {Q Q' : Exit → Act → World → Prop} (hq : ∀ e a w, Q e a w → Q' e a w) : ∀ (l : List Nat) (a : Act) (w : World), wpOps P ops Q l a w → wpOps P ops Q' l a w
  | [], a, w, h => hq _ _ _ h
  | i :: l, a, w, h => by
    simp only [wpOps] at h ⊢
    split at h
    · exact wpOps_mono hq l _ _ h
    · rename_i o ho
      split at h
      · rename_i hw
        rw [if_pos hw]
        rcases h with h | ⟨h1, a0, w0, h2⟩
        · exact .inl (Oper.wp_mono2 (fun a w h => wpOps_mono hq l a w h) hq h)
        · exact .inr ⟨h1, a0, w0, hq _ _ _ h2⟩
      · rename_i hw
        rw [if_neg hw]
        exact wpOps_mono hq l _ _ h
theorem ASeq.cons [Bk] [Ev] {ops : Array Oper} {i : Nat} {l : List Nat} {o : Oper} {R : AV → AH → Prop} (ho : ops[i]? = some o) (hg : guardA ops o f = some true) (hs : StepOk P o f h R) (k : ∀ v h', R v h' → ASeq P ops Q l (fset f o.dst v) h') : ASeq P ops Q (i :: l) f h := by
  intro m A w a H F
  simp only [wpOps, ho]
  rw [if_pos (guardA_ok F hg)]
  refine .inl (hs m A w a H F _ _ ?_)
  intro v h' x w' m' hR H' hx E
  exact wpOps_mono (fun e a w hl => hl.back E) l _ _ (k v h' hR m' A w' _ H' (F.put E hx o.dst))
theorem ASeq.pass [Bk] [Ev] {ops : Array Oper} {i : Nat} {l : List Nat} {o : Oper} (ho : ops[i]? = some o) (hg : guardA ops o f = some false) (k : ASeq P ops Q l (fset f o.dst .undef) h) : ASeq P ops Q (i :: l) f h := by
  intro m A w a H F
  simp only [wpOps, ho]
  rw [if_neg (by rw [guardA_ok F hg]; simp)]
  exact k m A w _ H (F.put (Ext.refl _ _) (.pure _ _ .undef) o.dst)
theorem AWP.region [Bk] [Ev] {id : Nat} {ops : Array Oper} (k : ASeq P ops Q (List.range ops.size) f h) : AWP P (.region id ops false) Q f h :=
  fun m A w a H F => wp_region (k m A w a H F)

/-- A call, by the machine. -/
def ACalls [Bk] [Ev] (P : Program) (F : FuncId) (args : List AV) (h : AH) (R : AV → AH → Prop) : Prop :=
  ∀ m A w vs, HRel m A h w → vs.size = args.length → (∀ (i : Nat) (x : AV), args[i]? = some x → Rd m A w x (vs.getD i Go.undef)) →
    Calls P F vs w fun e w' => ∃ v u m' h', e = .returned v ∧ R u h' ∧ HRel m' A h' w' ∧ Rd m' A w' u v ∧ Ext m w m' w'
theorem ACalls.mono [Bk] [Ev] {F : FuncId} {args : List AV} {R R' : AV → AH → Prop} (k : ACalls P F args h R) (hr : ∀ v h, R v h → R' v h) : ACalls P F args h R' :=
  fun m A w vs H hl hv => (k m A w vs H hl hv).mono fun e w' ⟨v, u, m', h', h1, h2, h3⟩ => ⟨v, u, m', h', h1, hr _ _ h2, h3⟩

/-- What a function hands back. -/
def cellA (P : Program) (ty : TypeId) (h : AH) : AV → Option AV
  | .ptr sz id i off => match h id with
    | .cells _ s els => if s = sz then (els[i]?).bind fun e => partA P ty e off else none
    | _ => none
  | _ => none
def resA (P : Program) (f : List AV) (h : AH) : ResultVar → Option AV
  | .tmp t => some (f.getD t .undef)
  | .cell t ty => cellA P ty h (f.getD t .undef)
def tupOf : List AV → AV
  | [v] => v
  | vs => .tup vs
def resultsA (P : Program) (fn : Func) (f : List AV) (h : AH) : Option AV :=
  (fn.results.toList.mapM (resA P f h)).map tupOf
def resV (tmps : Array Value) : ResultVar → Sem Value
  | .tmp t => pure (tmps.getD t Go.undef)
  | .cell a t => do loadVar t (← asAddr (tmps.getD a Go.undef))
theorem results_eq [Bk] [Ev] (fn : Func) (tmps : Array Value) : results fn tmps = (do let vs ← fn.results.mapM (resV tmps); pure (if h : vs.size = 1 then vs[0] else .tuple vs)) := by
  unfold results
  congr 1
theorem resA_ok [Bk] [Ev] {m : Nat → St} {A : Nat → Prop} {w : World} {a : Act} (H : HRel m A h w) (F : FRel m A w f a) {r : ResultVar} {x : AV} (hr : resA P f h r = some x) :
    ∃ v, (resV a.tmps r).run P w = .ok v w ∧ Rd m A w x v := by
  cases r with
  | tmp t =>
    simp only [resA, Option.some.injEq] at hr
    subst hr
    exact ⟨a.tmps.getD t Go.undef, rfl, F.eval (.tmp t)⟩
  | cell t ty =>
    simp only [resA] at hr
    have h1 := F.eval (.tmp t)
    simp only [aev, Act.eval] at h1
    unfold cellA at hr
    split at hr
    · rename_i sz id i off hf
      rw [hf] at h1
      split at hr
      · rename_i T s els hh
        split at hr
        · rename_i hs
          subst hs
          cases he : els[i]? with
          | none => simp [he] at hr
          | some e =>
            simp only [he, Option.bind_some] at hr
            obtain ⟨b, cs, g1, g2, g3, g4, g5⟩ := H.block hh he
            have hv := h1.at_ptr g1
            obtain ⟨u, r1, r2⟩ := loadVar_ok (P := P) (m := m) (A := A) (w := w) (b := b) (o0 := i * s) (vs := fun j => cs.getD (i * s + j) Go.undef) hr (by
              intro j y hy
              have ha : at2 els i j = some y := by simp [at2, he, hy]
              obtain ⟨k1, k2⟩ := g5 i j y ha
              refine ⟨k1, ?_, k2⟩
              have := (at2_len ha g4).2.2
              have hlt : i * s + j < cs.size := by omega
              simp [World.cell?, g2, hlt])
            refine ⟨u, ?_, r2⟩
            simp only [resV, hv]
            simp [asAddr, r1]
        · cases hr
      · cases hr
    · cases hr
theorem resultsA_ok [Bk] [Ev] {m : Nat → St} {A : Nat → Prop} {w : World} {a : Act} {fn : Func} (H : HRel m A h w) (F : FRel m A w f a) {x : AV} (hr : resultsA P fn f h = some x) : ∃ v, (results fn a.tmps).run P w = .ok v w ∧ Rd m A w x v := by
  have key : ∀ (l : List ResultVar) (xs : List AV), l.mapM (resA P f h) = some xs → ∃ vs : List Value, (l.mapM (resV a.tmps)).run P w = .ok vs w ∧ vs.length = xs.length ∧ ∀ (i : Nat) (x : AV), xs[i]? = some x → Rd m A w x (vs.getD i Go.undef) := by
    intro l
    induction l with
    | nil => intro xs h; simp at h; subst h; exact ⟨[], by simp, rfl, by intro i x h; simp at h⟩
    | cons r l ih =>
      intro xs hx
      rw [List.mapM_cons] at hx
      cases h1 : resA P f h r with
      | none => simp [h1] at hx
      | some y =>
        cases h2 : l.mapM (resA P f h) with
        | none => simp [h1, h2] at hx
        | some ys =>
          simp [h1, h2] at hx
          subst hx
          obtain ⟨v, r1, r2⟩ := resA_ok H F h1
          obtain ⟨vs, q1, q2, q3⟩ := ih ys h2
          refine ⟨v :: vs, ?_, by simp [q2], ?_⟩
          · rw [List.mapM_cons]
            simp only [Sem.run_bind, r1, Result.andThen_ok, q1]
            rfl
          · intro i x hi
            cases i with
            | zero => simp at hi; subst hi; exact r2
            | succ i => exact q3 i x (by simpa using hi)
  unfold resultsA at hr
  cases hm : fn.results.toList.mapM (resA P f h) with
  | none => simp [hm] at hr
  | some xs =>
    simp only [hm, Option.map_some, Option.some.injEq] at hr
    obtain ⟨vs, q1, q2, q3⟩ := key _ _ hm
    have harr : (fn.results.mapM (resV a.tmps)).run P w = .ok vs.toArray w := by
      rw [← Array.toArray_toList (xs := fn.results), List.mapM_toArray]
      simp [q1]
    refine ⟨if h : vs.toArray.size = 1 then vs.toArray[0] else .tuple vs.toArray, ?_, ?_⟩
    · rw [results_eq]
      simp only [Sem.run_bind, harr, Result.andThen_ok]
      rfl
    · subst hr
      by_cases h1 : xs.length = 1
      · obtain ⟨v, rfl⟩ := List.length_eq_one_iff.1 h1
        obtain ⟨u, rfl⟩ := List.length_eq_one_iff.1 (q2.trans h1)
        simpa [tupOf] using q3 0 v rfl
      · have hl : vs.length ≠ 1 := by omega
        rw [dif_neg (by simpa using hl)]
        have : tupOf xs = .tup xs := by
          match xs, h1 with
          | [], _ => rfl
          | [v], h => simp at h
          | _ :: _ :: _, _ => rfl
        rw [this]
        exact .tup _ _ (by simp [q2]) (fun i x hi => by simpa [List.getD] using q3 i x hi)

/-- A body walked by the machine is a call. -/
def bodyA (P : Program) (fn : Func) (R : AV → AH → Prop) : Exit → List AV → AH → Prop
  | .normal, f, h | .ret, f, h => ∃ x, resultsA P fn f h = some x ∧ R x h
  | _, _, _ => False
theorem ACalls.of_body [Bk] [Ev] {F : FuncId} {fn : Func} {c : Code} {args : List AV} {R : AV → AH → Prop} (hf : P.funcs[F]? = some fn) (hb : fn.body = some c)
    (k : AWP P c (bodyA P fn R) (args ++ List.replicate (fn.ntmps - args.length) .undef) h) : ACalls P F args h R := by
  intro m A w vs H hl hv
  have FR : FRel m A w (args ++ List.replicate (fn.ntmps - args.length) .undef) { tmps := vs ++ Array.replicate (fn.ntmps - vs.size) Go.undef, defers := [] } := by
    refine ⟨by simp [hl], ?_, rfl⟩
    intro i x hx
    rcases Nat.lt_or_ge i args.length with h | h
    · rw [List.getElem?_append_left h] at hx
      have := hv i x hx
      have hlt : i < vs.size := by omega
      simpa [Array.getElem?_append, hlt] using this
    · rw [List.getElem?_append_right h, List.getElem?_replicate] at hx
      split at hx
      · cases hx
        have hge : ¬ i < vs.size := by omega
        have : (vs ++ Array.replicate (fn.ntmps - vs.size) Go.undef).getD i Go.undef = Go.undef := by
          simp [Array.getElem?_append, hge, Array.getElem?_replicate]
          split <;> rfl
        simp only [this]
        exact .pure _ _ .undef
      · cases hx
  refine calls_of_wp hf hb (wp_mono (k m A w _ H FR) ?_)
  rintro e a' w' ⟨m', f', h', q, H', F', E'⟩
  have fin : ∀ x, resultsA P fn f' h' = some x → R x h' → a'.defers = [] ∧ ∃ v, (results fn a'.tmps).run P w' = .ok v w' ∧ ∃ v_1 u m'' h'', Ending.returned v = Ending.returned v_1 ∧ R u h'' ∧ HRel m'' A h'' w' ∧ Rd m'' A w' u v_1 ∧ Ext m w m'' w' := by
    intro x hx hR
    obtain ⟨v, r1, r2⟩ := resultsA_ok H' F' hx
    exact ⟨F'.defers, v, r1, v, x, m', h', rfl, hR, H', r2, E'⟩
  cases e with
  | normal => obtain ⟨x, hx, hR⟩ := q; exact fin x hx hR
  | ret => obtain ⟨x, hx, hR⟩ := q; exact fin x hx hR
  | _ => exact q.elim

def recvB (P : Program) (t : TypeId) (pr : Bool) : Bool := match P.underlying t with
  | some (.pointer _) => pr
  | some _ => !pr
  | none => false
/-- The function behind a method of an interface's value. -/
def methodA (P : Program) (t : TypeId) (name : String) : Option FuncId :=
  match P.info? t with
  | some i => match i.methods.find? (·.name == name) with
    | some m => match m.func with
      | some (k, pr) => if m.path.toList.isEmpty && recvB P t pr then some k else none
      | none => none
    | none => none
  | none => none
theorem method_run [Bk] [Ev] {t : TypeId} {name : String} {k : FuncId} (hk : methodA P t name = some k) (n : Nat) (v : Value) (w : World) : (method (n + 1) t v name).run P w = .ok (k, v) w := by
  unfold methodA at hk
  split at hk
  · rename_i i hi
    split at hk
    · rename_i mm hm
      split at hk
      · rename_i k' pr hf
        split at hk
        · rename_i hc
          cases hk
          rw [Bool.and_eq_true] at hc
          have hp : mm.path.toList = [] := by simpa using hc.1
          have hu := hc.2
          unfold method
          simp only [Sem.run_bind, typeInfo, program, Sem.run, hi, Result.andThen_ok]
          simp only [hm, Sem.run_bind, Sem.run_pure, hp, follow, Result.andThen_ok, hf]
          unfold recvB at hu
          split at hu
          · rename_i e he
            subst hu
            simp [receiverAt, run_underlying he, Place.get]
          · rename_i d hne he
            have : pr = false := by simpa using hu
            subst this
            cases d <;> first | (exact absurd rfl (hne _)) | simp [receiverAt, run_underlying he, Place.get]
          · cases hu
        · cases hk
      · cases hk
    · cases hk
  · cases hk

/-- Which function an operation calls, with what. -/
def calleeA (P : Program) (ρ : Operand → AV) : Op → Option (FuncId × List AV)
  | .call { callee := .value g, args, .. } => match ρ g with
    | .fn (.func k) first captured => some (k, first ++ args.toList.map ρ ++ captured)
    | _ => none
  | .call { callee := .invoke g name, args, .. } => match ρ g with
    | .ifc t v => match methodA P t name with
      | some k => some (k, v :: args.toList.map ρ)
      | none => none
    | _ => none
  | _ => none
theorem callFunc_enter [Bk] [Ev] {k : FuncId} {fn : Func} {c : Code} (hk : P.funcs[k]? = some fn) (hb : fn.body = some c) (hn : (fn.name == "runtime.NumGoroutine") = false) (args : Array Value) (w : World) : (callFunc k args).run P w = .ok (.enter k args) w := by
  simp only [beq_eq_false_iff_ne, ne_eq] at hn
  simp [callFunc, program, Sem.run, hk, hb, hn]
theorem StepOk.call [Bk] [Ev] {o : Oper} {k : FuncId} {args : List AV} {R : AV → AH → Prop} {fn : Func} {c : Code} (hc : calleeA P (aev f) o.op = some (k, args)) (hk : P.funcs[k]? = some fn) (hb : fn.body = some c) (hn : (fn.name == "runtime.NumGoroutine") = false) (hR : ACalls P k args h R) : StepOk P o f h R := by
  intro m A w a H F K Q hK
  unfold calleeA at hc
  split at hc
  · rename_i g cargs ctys ho
    split at hc
    · rename_i k' first captured hg
      simp only [Option.some.injEq, Prod.mk.injEq] at hc
      obtain ⟨rfl, rfl⟩ := hc
      have h1 := F.eval g
      rw [hg] at h1
      obtain ⟨vs, us, hv, hl1, hl2, r1, r2⟩ : ∃ vs us, a.eval g = .func (.func k') vs us ∧ vs.size = first.length ∧ us.size = captured.length ∧ (∀ (i : Nat) (x : AV), first[i]? = some x → Rd m A w x (vs.getD i Go.undef)) ∧ ∀ (i : Nat) (x : AV), captured[i]? = some x → Rd m A w x (us.getD i Go.undef) := by
        generalize a.eval g = u at h1
        cases h1 with
        | pure _ _ h => cases h with | fn _ _ _ vs us hl hk' h g => exact ⟨vs, us, rfl, hl, hk', fun i x hx => .pure _ _ (h i x hx), fun i x hx => .pure _ _ (g i x hx)⟩
        | fn _ _ _ vs us hl hk' h g => exact ⟨vs, us, rfl, hl, hk', h, g⟩
      have hexec : (execOp a.eval o).run P w = .ok (.enter k' (vs ++ cargs.map a.eval ++ us)) w := by
        simp only [execOp, ho, resolve, Sem.run_bind]
        simp only [hv, Deferred.ofValue]
        simp [invoke, callFunc_enter hk hb hn]
      unfold Oper.wp
      rw [hexec]
      refine (hR m A w _ H (by simp [hl1, hl2]) ?_).mono ?_
      · intro i x hx
        rcases Nat.lt_or_ge i first.length with h | h
        · rw [List.append_assoc, List.getElem?_append_left h] at hx
          have := r1 i x hx
          have hlt : i < vs.size := by omega
          have e : (vs ++ cargs.map a.eval ++ us).getD i Go.undef = vs.getD i Go.undef := by
            have h2 : i < vs.size + cargs.size := by omega
            simp [Array.getElem?_append, hlt, h2]
          rw [e]; exact this
        · rw [List.append_assoc, List.getElem?_append_right h] at hx
          rcases Nat.lt_or_ge (i - first.length) cargs.toList.length with h2 | h2
          · rw [List.getElem?_append_left (by simpa using h2)] at hx
            have := map_rel F cargs _ _ hx
            have e : (vs ++ cargs.map a.eval ++ us).getD i Go.undef = (cargs.map a.eval).getD (i - first.length) Go.undef := by
              have hge : ¬ i < first.length := by omega
              have h3 : i - first.length < cargs.size := by simpa using h2
              simp [Array.getElem?_append, hge, h3, hl1]
            rw [e]; exact this
          · rw [List.getElem?_append_right (by simpa using h2)] at hx
            have := r2 _ _ hx
            have e : (vs ++ cargs.map a.eval ++ us).getD i Go.undef = us.getD (i - first.length - (cargs.toList.map (aev f)).length) Go.undef := by
              have hge : ¬ i < first.length := by omega
              have h3 : ¬ i - first.length < cargs.size := by simp at h2; omega
              simp [Array.getElem?_append, hge, h3, hl1, Nat.sub_sub]
            rw [e]; exact this
      · rintro e w' ⟨v, u, m', h', rfl, hRu, H', hx, E⟩
        exact hK u h' v w' m' hRu H' hx E
    · cases hc
  · rename_i g name cargs ctys ho
    split at hc
    · rename_i t v hg
      split at hc
      · rename_i k' hm
        simp only [Option.some.injEq, Prod.mk.injEq] at hc
        obtain ⟨rfl, rfl⟩ := hc
        have h1 := F.eval g
        rw [hg] at h1
        obtain ⟨u, hu, hr⟩ := h1.ifc_inv
        have hm' : (method (P.types.size + Made.depth) t u name).run P w = .ok (k', u) w := method_run hm (P.types.size + 99) u w
        have hexec : (execOp a.eval o).run P w = .ok (.enter k' (#[u] ++ cargs.map a.eval)) w := by
          simp only [execOp, ho, resolve, Sem.run_bind, Sem.run_pure, Result.andThen_ok]
          simp only [invoke, hu]
          simp only [Array.getElem?_append, Sem.run_bind]
          simp only [callMethod, program]
          have hext : (cargs.map a.eval).extract 0 cargs.size = cargs.map a.eval := by
            apply Array.ext'
            simp
            exact List.take_of_length_le (by simp)
          simp [Sem.run, hm', callFunc_enter hk hb hn, hext]
        unfold Oper.wp
        rw [hexec]
        refine (hR m A w _ H (by simp; omega) ?_).mono ?_
        · intro i x hx
          cases i with
          | zero => simp at hx; subst hx; simpa [Array.getElem?_append] using hr
          | succ i =>
            have := map_rel F cargs i x (by simpa using hx)
            have e : (#[u] ++ cargs.map a.eval).getD (i + 1) Go.undef = (cargs.map a.eval).getD i Go.undef := by simp [Array.getElem?_append]
            rw [e]; exact this
        · rintro e w' ⟨v', u', m', h', rfl, hRu, H', hx, E⟩
          exact hK u' h' v' w' m' hRu H' hx E
      · cases hc
    · cases hc
  · cases hc
end
end Go.Proofs.YtglcnlkojlfheaaGreat.Mc
