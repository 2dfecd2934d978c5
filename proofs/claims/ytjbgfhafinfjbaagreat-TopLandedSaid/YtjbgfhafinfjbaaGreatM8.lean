/-
  A machine of plain data beside the model: code, calls. No program in sight.
-/
import Derived.Test.YtjbgfhafinfjbaaGreatM7
import Derived.OrdersIn
import Derived.RangeFuncRecord
set_option linter.unusedVariables false
set_option linter.unusedSimpArgs false
namespace Go.Proofs.YtjbgfhafinfjbaaGreat.Mc
open Go.RowKit

/-- What is deferred beside what was: marks of new loops over functions. -/
def NewM (w : World) (a a' : Act) : Prop := ∀ d ∈ a'.defers, d ∈ a.defers ∨ ∃ D, d.target = .collected D ∧ w.heap.size ≤ D
theorem NewM.same {w : World} {a a' : Act} (h : a'.defers = a.defers) : NewM w a a' := fun d hd => .inl (h ▸ hd)
theorem NewM.refl (w : World) (a : Act) : NewM w a a := .same rfl
theorem put_defers (a : Act) (d : Option Tmp) (v : Value) : (a.put d v).defers = a.defers := by cases d <;> rfl
theorem NewM.put (w : World) (a : Act) (d : Option Tmp) (v : Value) : NewM w a (a.put d v) := .same (by cases d <;> rfl)
theorem NewM.trans {w w1 : World} {a a1 a2 : Act} (h : NewM w a a1) (hs : w.heap.size ≤ w1.heap.size) (k : NewM w1 a1 a2) : NewM w a a2 := by
  intro d hd
  rcases k d hd with h1 | ⟨D, h1, h2⟩
  · exact h d h1
  · exact .inr ⟨D, h1, Nat.le_trans hs h2⟩
/-- What the machine says of an end, said of the model's. -/
def Lift [Bk] [Ev] (Q : Exit → List AV → AH → Prop) (m : Nat → St) (A : Nat → Prop) (w : World) (a : Act) : Exit → Act → World → Prop := fun e a' w' => ∃ m' f' h', Q e f' h' ∧ HRel m' A h' w' ∧ FRel m' A w' f' a' ∧ Ext m w m' w' ∧ NewM w a a'
theorem Lift.back [Bk] [Ev] {Q : Exit → List AV → AH → Prop} {m m1 : Nat → St} {A : Nat → Prop} {w w1 : World} {a a1 : Act} {e : Exit} {a' : Act} {w' : World} (E : Ext m w m1 w1) (N : NewM w a a1) (h : Lift Q m1 A w1 a1 e a' w') : Lift Q m A w a e a' w' := by
  obtain ⟨m', f', h', h1, h2, h3, h4, h5⟩ := h
  exact ⟨m', f', h', h1, h2, h3, E.trans h4, N.trans E.size h5⟩

/-- The fence that lets all in: in a round of the loop r, or in none. -/
def fw (r : Option Nat) : Fence := { Fence.wide with round := r }
theorem fw_calls {P : Program} {r : Option Nat} {n : Nat} {f : FuncId} {args : Array Value} {w : World} {R : Ending → World → Prop} : CallsIn (fw r) n P f args w R ↔ Calls P f args w R := callsIn_wide (n := n)
theorem not_defer {P : Program} {a : Act} {o : Oper} {w w' : World} {x : Next} (h : (execOp a.eval o).run P w = .ok x w') (hx : ∀ d, x ≠ .defer d) : ∀ c, o.op ≠ .defer c := by
  intro c hc
  simp only [execOp, hc, Sem.run_bind] at h
  cases hr : (resolve a.eval c o.type).run P w with
  | ok d w2 =>
    rw [hr] at h
    simp at h
    exact hx _ h.1.symm
  | halt e w2 => rw [hr] at h; cases h
theorem wpIn_exec {P : Program} {r : Option Nat} {n : Nat} {a : Act} {o : Oper} {w w' : World} {v : Value} {K : Act → World → Prop} {Q : Exit → Act → World → Prop} (h : (execOp a.eval o).run P w = .ok (.value v) w') (hK : K (a.put o.dst v) w') : o.wpIn (fw r) n P a w K Q := by
  refine ⟨fun _ _ => trivial, ?_⟩
  rw [Oper.semAt_eq _ _ _ (not_defer h (fun d e => by cases e)), h]
  exact hK
theorem wpIn_skipped {P : Program} {r : Option Nat} {n : Nat} {a : Act} {o : Oper} {w w' : World} {K : Act → World → Prop} {Q : Exit → Act → World → Prop} (h : (execOp a.eval o).run P w = .ok .skip w') (hK : K (a.put o.dst Go.undef) w') : o.wpIn (fw r) n P a w K Q := by
  refine ⟨fun _ _ => trivial, ?_⟩
  rw [Oper.semAt_eq _ _ _ (not_defer h (fun d e => by cases e)), h]
  exact hK
theorem wpIn_enter {P : Program} {r : Option Nat} {n : Nat} {a : Act} {o : Oper} {w w' : World} {f : FuncId} {args : Array Value} {K : Act → World → Prop} {Q : Exit → Act → World → Prop} (h : (execOp a.eval o).run P w = .ok (.enter f args) w')
    (hK : Calls P f args w' fun e w'' => ∃ v, e = .returned v ∧ K (a.put o.dst v) w'') : o.wpIn (fw r) n P a w K Q := by
  refine ⟨fun _ _ => trivial, ?_⟩
  rw [Oper.semAt_eq _ _ _ (not_defer h (fun d e => by cases e)), h]
  refine ⟨fun h => (by cases h), fw_calls.2 (hK.mono ?_)⟩
  rintro e w'' ⟨v, rfl, hk⟩
  exact hk

theorem wpIn_round {P : Program} {r : Option Nat} {n : Nat} {a : Act} {o : Oper} {w w' : World} {l : Nat} {f : FuncId} {tmps : Array Value} {assign body : Code} {K : Act → World → Prop} {Q : Exit → Act → World → Prop} (h : (execOp a.eval o).run P w = .ok (.round l f tmps assign body) w')
    (hK : RoundIn (fw r) (n - 1) P l f tmps assign body w' fun e w'' => ∃ v, e = .returned v ∧ K (a.put o.dst v) w'') : o.wpIn (fw r) n P a w K Q := by
  refine ⟨fun _ _ => trivial, ?_⟩
  rw [Oper.semAt_eq _ _ _ (not_defer h (fun d e => by cases e)), h]
  refine ⟨fun h => (by cases h), hK.mono ?_⟩
  rintro e w'' ⟨v, rfl, hk⟩
  exact hk

/-- What a code does. tp: it stands in no round of a loop over a function. -/
def AWP [Bk] [Ev] (P : Program) (tp : Bool) (c : Code) (Q : Exit → List AV → AH → Prop) (f : List AV) (h : AH) : Prop :=
  ∀ r m A w a, (tp = true → r = none) → HRel m A h w → FRel m A w f a → c.wpIn (fw r) 9 P (Lift Q m A w a) a w

theorem least_ex {p : Nat → Prop} (h : ∃ n, p n) : ∃ n, p n ∧ ∀ k, p k → n ≤ k := by
  obtain ⟨n, hn⟩ := h
  induction n using Nat.strongRecOn with
  | _ n ih =>
    by_cases hk : ∃ k, k < n ∧ p k
    · obtain ⟨k, h1, h2⟩ := hk
      exact ih k h1 h2
    · refine ⟨n, hn, fun k hp => ?_⟩
      rcases Nat.lt_or_ge k n with h | h
      · exact absurd ⟨k, h, hp⟩ hk
      · exact h
theorem least_fn {α : Type} (J : Nat → α → Prop) : ∃ μ : α → Nat, ∀ x, (∃ n, J n x) → J (μ x) x ∧ ∀ n, J n x → μ x ≤ n := by
  classical
  refine ⟨fun x => if h : ∃ n, J n x then Classical.choose (least_ex h) else 0, fun x hx => ?_⟩
  have e : (if h : ∃ n, J n x then Classical.choose (least_ex h) else 0) = Classical.choose (least_ex hx) := dif_pos hx
  simp only [e]
  exact Classical.choose_spec (least_ex hx)

section
variable {P : Program} {Q : Exit → List AV → AH → Prop} {f : List AV} {h : AH} {tp : Bool}

theorem AWP.mono [Bk] [Ev] {c : Code} {Q' : Exit → List AV → AH → Prop} (k : AWP P tp c Q f h) (hq : ∀ e f h, Q e f h → Q' e f h) : AWP P tp c Q' f h :=
  fun r m A w a hr H F => wpIn_mono (k r m A w a hr H F) fun e a w ⟨m', f', h', h1, h2⟩ => ⟨m', f', h', hq _ _ _ h1, h2⟩
theorem AWP.skip [Bk] [Ev] (k : Q .normal f h) : AWP P tp .skip Q f h := fun r m A w a hr H F => wpIn_skip ⟨m, f, h, k, H, F, Ext.refl _ _, NewM.refl _ _⟩
theorem AWP.exit [Bk] [Ev] {id : Nat} (k : Q (.exit id) f h) : AWP P tp (.exit id) Q f h := fun r m A w a hr H F => wpIn_exit ⟨m, f, h, k, H, F, Ext.refl _ _, NewM.refl _ _⟩
theorem AWP.ret [Bk] [Ev] (k : Q .ret f h) : AWP P tp .ret Q f h := fun r m A w a hr H F => wpIn_ret ⟨m, f, h, k, H, F, Ext.refl _ _, NewM.refl _ _⟩
def thenA (N : List AV → AH → Prop) (Q : Exit → List AV → AH → Prop) : Exit → List AV → AH → Prop
  | .normal, f, h => N f h
  | e, f, h => Q e f h
theorem AWP.seq [Bk] [Ev] {x y : Code} (k : AWP P tp x (thenA (AWP P tp y Q) Q) f h) : AWP P tp (.seq x y) Q f h := by
  intro r m A w a hr H F
  refine wpIn_seq (wpIn_mono (k r m A w a hr H F) ?_)
  rintro e a1 w1 ⟨m1, f1, h1, q, H1, F1, E1, N1⟩
  cases e with
  | normal => exact wpIn_mono (q r m1 A w1 a1 hr H1 F1) fun e a w hl => hl.back E1 N1
  | _ => exact ⟨m1, f1, h1, q, H1, F1, E1, N1⟩
theorem AWP.cond [Bk] [Ev] {c : Operand} {x y : Code} {b : Bool} (hc : aev f c = .c (.bool b)) (k : AWP P tp (if b then x else y) Q f h) : AWP P tp (.cond c x y) Q f h := by
  intro r m A w a hr H F
  have := F.eval c
  rw [hc] at this
  exact wpIn_cond this.bool (k r m A w a hr H F)
def inBlockA (id : Nat) (Q : Exit → List AV → AH → Prop) : Exit → List AV → AH → Prop
  | .exit id', f, h => if id' = id then Q .normal f h else Q (.exit id') f h
  | e, f, h => Q e f h
theorem AWP.block [Bk] [Ev] {id : Nat} {c : Code} (k : AWP P tp c (inBlockA id Q) f h) : AWP P tp (.block id c) Q f h := by
  intro r m A w a hr H F
  refine wpIn_block (wpIn_mono (k r m A w a hr H F) ?_)
  rintro e a1 w1 ⟨m1, f1, h1, q, H1, F1, E1, N1⟩
  cases e with
  | exit id' =>
    simp only [inBlockA] at q
    simp only [Exit.inBlock]
    split
    · rename_i e; rw [if_pos e] at q; exact ⟨m1, f1, h1, q, H1, F1, E1, N1⟩
    · rename_i e; rw [if_neg e] at q; exact ⟨m1, f1, h1, q, H1, F1, E1, N1⟩
  | _ => exact ⟨m1, f1, h1, q, H1, F1, E1, N1⟩
/-- A scope out of which and in which nothing jumps to a label. -/
theorem stepR_scope {P : Program} {b : Frame} {a : Act} {k : List Item} {cs : List Frame} {w : World} {c : Code} : step P (lone (b.atR a (.code (.scope c) :: k)) cs w) = .next (lone (b.atR a (.code c :: .inScope c :: k)) cs w) :=
  step_lone_go (by simp [stepG, stepG.exec, Frame.atR])
theorem stepR_inScope {P : Program} {b : Frame} {a : Act} {k : List Item} {cs : List Frame} {w : World} {c : Code} : step P (lone (b.atR a (.inScope c :: k)) cs w) = .next (lone (b.atR a k) cs w) :=
  step_lone_go (by simp [stepG, stepG.exec, Frame.atR])
theorem wpIn_scope {P : Program} {F : Fence} {n : Nat} {Q : Exit → Act → World → Prop} {a : Act} {w : World} {c : Code} (h : c.wpIn F n P (fun e a w => (∀ l, e ≠ .goto l) ∧ Q e a w) a w) : (Code.scope c).wpIn F n P Q a w := by
  intro b k cs hro hb hr
  have h0 : (lone (b.atR a (.code (.scope c) :: k)) cs w).fenced P F := fenced_calm hb hr rfl
  obtain ⟨e, a₁, w₁, ⟨hg, hq⟩, harr⟩ := h b (.inScope c :: k) cs hro hb hr
  cases e with
  | normal => exact ⟨.normal, a₁, w₁, hq, .head h0 stepR_scope (StepsIn.trans harr (.one (fenced_calm hb hr rfl) stepR_inScope))⟩
  | exit id =>
    have hx : exitTo id (.inScope c :: k) = exitTo id k := by simp [exitTo]
    exact ⟨.exit id, a₁, w₁, hq, fun k' hk => .head h0 stepR_scope (harr.1 k' (by rw [hx]; exact hk)),
      fun hr' hk => let ⟨k₁, h1, h2⟩ := harr.2 hr' (by rw [hx]; exact hk); ⟨k₁, h1, .head h0 stepR_scope h2⟩⟩
  | goto l => exact absurd rfl (hg l)
  | ret => exact ⟨_, a₁, w₁, hq, .of_steps (.one h0 stepR_scope) harr⟩
  | panic ch => exact ⟨_, a₁, w₁, hq, .of_steps (.one h0 stepR_scope) harr⟩
  | outgrown => exact ⟨_, a₁, w₁, hq, .of_steps (.one h0 stepR_scope) harr⟩
theorem AWP.scope [Bk] [Ev] {c : Code} (k : AWP P tp c (fun e f h => (∀ l, e ≠ .goto l) ∧ Q e f h) f h) : AWP P tp (.scope c) Q f h := by
  intro r m A w a hr H F
  refine wpIn_scope (wpIn_mono (k r m A w a hr H F) ?_)
  rintro e a1 w1 ⟨m1, f1, h1, ⟨q0, q⟩, H1, F1, E1, N1⟩
  exact ⟨q0, m1, f1, h1, q, H1, F1, E1, N1⟩
theorem AWP.label [Bk] [Ev] {l : Nat} (k : Q .normal f h) : AWP P tp (.label l) Q f h := fun r m A w a hr H F => wpIn_label ⟨m, f, h, k, H, F, Ext.refl _ _, NewM.refl _ _⟩
/-- A loop: I holds at each round's head, μ goes down. -/
theorem AWP.loop [Bk] [Ev] {c : Code} (I : Nat → List AV → AH → Prop) (n : Nat) (h0 : I n f h) (round : ∀ n f h, I n f h → AWP P tp c (thenA (fun f' h' => ∃ n', n' < n ∧ I n' f' h') Q) f h) : AWP P tp (.loop c) Q f h := by
  intro r m A w a hr H F
  let J : Nat → Act → World → Prop := fun n a' w' => ∃ m1 f1 h1, I n f1 h1 ∧ HRel m1 A h1 w' ∧ FRel m1 A w' f1 a' ∧ Ext m w m1 w' ∧ NewM w a a'
  obtain ⟨μ, hμ⟩ := least_fn (fun n (p : Act × World) => J n p.1 p.2)
  refine wpIn_loop (fun a' w' => ∃ n, J n a' w') (fun a' w' => μ (a', w')) ⟨n, m, f, h, h0, H, F, Ext.refl _ _, NewM.refl _ _⟩ ?_
  intro a1 w1 hex
  obtain ⟨m1, f1, h1, hI, H1, F1, E1, N1⟩ := (hμ (a1, w1) hex).1
  refine wpIn_mono (round _ f1 h1 hI r m1 A w1 a1 hr H1 F1) ?_
  rintro e a2 w2 ⟨m2, f2, h2, q, H2, F2, E2, N2⟩
  cases e with
  | normal =>
    obtain ⟨n', hlt, hI'⟩ := q
    have hJ : J n' a2 w2 := ⟨m2, f2, h2, hI', H2, F2, E1.trans E2, N1.trans E1.size N2⟩
    exact ⟨⟨n', hJ⟩, Nat.lt_of_le_of_lt ((hμ (a2, w2) ⟨n', hJ⟩).2 n' hJ) hlt⟩
  | _ => exact ⟨m2, f2, h2, q, H2, F2, E1.trans E2, N1.trans E1.size N2⟩

/-- One operation, whatever it is. -/
def StepOk [Bk] [Ev] (P : Program) (o : Oper) (f : List AV) (h : AH) (R : AV → AH → Prop) : Prop :=
  ∀ r m A w a, HRel m A h w → FRel m A w f a → ∀ (K : Act → World → Prop) (Q : Exit → Act → World → Prop), (∀ v h' x w' m', R v h' → HRel m' A h' w' → Rd m' A w' v x → Ext m w m' w' → K (a.put o.dst x) w') → o.wpIn (fw r) 9 P a w K Q
theorem OpOk.step [Bk] [Ev] {o : Oper} {r : AR} (k : OpOk P o f h r) : StepOk P o f h (fun v h' => v = r.v ∧ h' = upsB h r.ups) := by
  intro r' m A w a H F K Q hK
  obtain ⟨x, w', m', hr, h1, h2, h3⟩ := k m A w a H F
  rcases hr with hr | ⟨hr, rfl⟩
  · exact wpIn_exec hr (hK _ _ x w' m' ⟨rfl, rfl⟩ h1 h2 h3)
  · exact wpIn_skipped hr (hK _ _ _ w' m' ⟨rfl, rfl⟩ h1 h2 h3)
theorem StepOk.mono [Bk] [Ev] {o : Oper} {R R' : AV → AH → Prop} (k : StepOk P o f h R) (hr : ∀ v h, R v h → R' v h) : StepOk P o f h R' :=
  fun r m A w a H F K Q hK => k r m A w a H F K Q fun v h' x w' m' hR => hK v h' x w' m' (hr _ _ hR)

/-- Whether an operation is wanted. -/
def guardA (ops : Array Oper) (o : Oper) (f : List AV) : Option Bool :=
  match o.guard with
  | none => some true
  | some (j, want) => match (ops[j]?).bind (·.dst) with
    | none => some false
    | some d => match f[d]? with
      | some (.c (.bool b)) => some (b == want)
      | some .undef => some false
      | none => some false
      | _ => none
theorem guardA_ok [Bk] [Ev] {m : Nat → St} {A : Nat → Prop} {w : World} {a : Act} {ops : Array Oper} {o : Oper} {b : Bool} (F : FRel m A w f a) (hg : guardA ops o f = some b) : Region.wanted o (yielded ops a.tmps) = b := by
  unfold guardA at hg
  unfold Region.wanted
  cases ho : o.guard with
  | none => simp [ho] at hg ⊢; exact hg
  | some p =>
    obtain ⟨j, want⟩ := p
    simp only [ho] at hg ⊢
    unfold yielded
    cases hd : (ops[j]?).bind (·.dst) with
    | none => simp [hd] at hg ⊢; exact hg
    | some d =>
      simp only [hd, Option.bind_some] at hg ⊢
      have hsz := F.size
      split at hg
      · rename_i q hf
        cases hg
        have h1 := F.rd d _ hf
        have hlt : d < a.tmps.size := by rw [hsz]; exact (List.getElem?_eq_some_iff.1 hf).1
        have h2 := h1.c_inv
        have : a.tmps[d]? = some (.bool q) := by simpa [hlt] using h2
        rw [this]
        cases q <;> cases want <;> rfl
      · rename_i hf
        cases hg
        have h1 := F.rd d _ hf
        have hlt : d < a.tmps.size := by rw [hsz]; exact (List.getElem?_eq_some_iff.1 hf).1
        have h2 : a.tmps.getD d Go.undef = Go.undef := by
          generalize a.tmps.getD d Go.undef = u at h1
          cases h1 with | pure _ _ h => cases h; rfl
        have : a.tmps[d]? = some Go.undef := by simpa [hlt] using h2
        rw [this]
        rfl
      · rename_i hf
        cases hg
        have : a.tmps.size ≤ d := by rw [hsz]; exact List.getElem?_eq_none_iff.1 hf
        rw [Array.getElem?_eq_none this]
        rfl
      · cases hg

/-- Operations one behind the other. -/
def ASeq [Bk] [Ev] (P : Program) (ops : Array Oper) (Q : Exit → List AV → AH → Prop) (l : List Nat) (f : List AV) (h : AH) : Prop :=
  ∀ r m A w a, HRel m A h w → FRel m A w f a → wpOpsIn (fw r) 9 P ops (Lift Q m A w a) l a w
theorem ASeq.nil [Bk] [Ev] {ops : Array Oper} (k : Q .normal f h) : ASeq P ops Q [] f h := fun r m A w a H F => ⟨m, f, h, k, H, F, Ext.refl _ _, NewM.refl _ _⟩
theorem Oper.wpIn_mono2 [Bk] [Ev] {r : Option Nat} {n : Nat} {o : Oper} {a : Act} {w : World} {K K' : Act → World → Prop} {Q Q' : Exit → Act → World → Prop} (hk : ∀ a w, K a w → K' a w) (hq : ∀ e a w, Q e a w → Q' e a w) (hh : o.wpIn (fw r) n P a w K Q) : o.wpIn (fw r) n P a w K' Q' := by
  unfold Oper.wpIn at *
  refine ⟨hh.1, ?_⟩
  have hh := hh.2
  have lets : LetsOut Q → LetsOut Q' := fun ⟨a0, w0, h0⟩ => ⟨a0, w0, hq _ _ _ h0⟩
  generalize (o.semAt (fw r).round a.eval).run P w = x at *
  cases x with
  | ok n w' =>
    cases n <;> simp only [Oper.uponIn] at hh ⊢ <;>
      first
        | exact hk _ _ hh
        | exact hh.elim
        | exact ⟨hh.1, CallsIn.mono hh.2 (fun e w'' he => by cases e <;> first | exact hk _ _ he | exact hq _ _ _ he | exact lets he)⟩
        | exact ⟨hh.1, RowsIn.mono hh.2 (fun _ _ he => hk _ _ he)⟩
        | exact ⟨hh.1, RoundIn.mono hh.2 (fun e w'' he => by cases e <;> first | exact hk _ _ he | exact hq _ _ _ he | exact lets he)⟩
  | halt h w' => cases h <;> simp only [Oper.uponIn] at hh ⊢ <;> first | exact hq _ _ _ hh | exact hh.elim
theorem wpOpsIn_mono [Bk] [Ev] {r : Option Nat} {n : Nat} {ops : Array Oper} {Q Q' : Exit → Act → World → Prop} (hq : ∀ e a w, Q e a w → Q' e a w) : ∀ (l : List Nat) (a : Act) (w : World), wpOpsIn (fw r) n P ops Q l a w → wpOpsIn (fw r) n P ops Q' l a w
  | [], a, w, h => hq _ _ _ h
  | i :: l, a, w, h => by
    simp only [wpOpsIn] at h ⊢
    split at h
    · exact wpOpsIn_mono hq l _ _ h
    · rename_i o ho
      split at h
      · rename_i hw
        rw [if_pos hw]
        exact Oper.wpIn_mono2 (fun a w h => wpOpsIn_mono hq l a w h) hq h
      · rename_i hw
        rw [if_neg hw]
        exact ⟨h.1, wpOpsIn_mono hq l _ _ h.2⟩
theorem ASeq.cons [Bk] [Ev] {ops : Array Oper} {i : Nat} {l : List Nat} {o : Oper} {R : AV → AH → Prop} (ho : ops[i]? = some o) (hg : guardA ops o f = some true) (hs : StepOk P o f h R) (k : ∀ v h', R v h' → ASeq P ops Q l (fset f o.dst v) h') : ASeq P ops Q (i :: l) f h := by
  intro r m A w a H F
  simp only [wpOpsIn, ho]
  rw [if_pos (guardA_ok F hg)]
  refine hs r m A w a H F _ _ ?_
  intro v h' x w' m' hR H' hx E
  exact wpOpsIn_mono (fun e a1 w1 hl => hl.back E (NewM.put w a o.dst x)) l _ _ (k v h' hR r m' A w' _ H' (F.put E hx o.dst))
theorem ASeq.pass [Bk] [Ev] {ops : Array Oper} {i : Nat} {l : List Nat} {o : Oper} (ho : ops[i]? = some o) (hg : guardA ops o f = some false) (k : ASeq P ops Q l (fset f o.dst .undef) h) : ASeq P ops Q (i :: l) f h := by
  intro r m A w a H F
  simp only [wpOpsIn, ho]
  rw [if_neg (by rw [guardA_ok F hg]; simp)]
  exact ⟨fun _ _ => trivial, wpOpsIn_mono (fun e a1 w1 hl => hl.back (Ext.refl _ _) (NewM.put w a o.dst Go.undef)) l _ _ (k r m A w _ H (F.put (Ext.refl _ _) (.pure _ _ .undef) o.dst))⟩
theorem AWP.region [Bk] [Ev] {id : Nat} {ops : Array Oper} (k : ASeq P ops Q (List.range ops.size) f h) : AWP P tp (.region id ops false) Q f h :=
  fun r m A w a _ H F => wpIn_region (k r m A w a H F)

/-- A call, by the machine. -/
def ACalls [Bk] [Ev] (P : Program) (F : FuncId) (args : List AV) (h : AH) (R : AV → AH → Prop) : Prop :=
  ∀ m A w vs, HRel m A h w → vs.size = args.length → (∀ (i : Nat) (x : AV), args[i]? = some x → Rd m A w x (vs.getD i Go.undef)) →
    Calls P F vs w fun e w' => ∃ v u m' h', e = .returned v ∧ R u h' ∧ HRel m' A h' w' ∧ Rd m' A w' u v ∧ Ext m w m' w'
theorem ACalls.mono [Bk] [Ev] {F : FuncId} {args : List AV} {R R' : AV → AH → Prop} (k : ACalls P F args h R) (hr : ∀ v h, R v h → R' v h) : ACalls P F args h R' :=
  fun m A w vs H hl hv => (k m A w vs H hl hv).mono fun e w' ⟨v, u, m', h', h1, h2, h3⟩ => ⟨v, u, m', h', h1, hr _ _ h2, h3⟩

/-- What a function hands back. -/
def cellA (P : Program) (ty : TypeId) (h : AH) : AV → Option AV
  | .ptr sz id i off => match h id with
    | .cells _ s els => if s = sz then (els[i]?).bind fun e => partA P ty e off else none
    | _ => none
  | _ => none
def resA (P : Program) (f : List AV) (h : AH) : ResultVar → Option AV
  | .tmp t => some (f.getD t .undef)
  | .cell t ty => cellA P ty h (f.getD t .undef)
def tupOf : List AV → AV
  | [v] => v
  | vs => .tup vs
def resultsA (P : Program) (fn : Func) (f : List AV) (h : AH) : Option AV :=
  (fn.results.toList.mapM (resA P f h)).map tupOf
def resV (tmps : Array Value) : ResultVar → Sem Value
  | .tmp t => pure (tmps.getD t Go.undef)
  | .cell a t => do loadVar t (← asAddr (tmps.getD a Go.undef))
theorem results_eq [Bk] [Ev] (fn : Func) (tmps : Array Value) : results fn tmps = (do let vs ← fn.results.mapM (resV tmps); pure (if h : vs.size = 1 then vs[0] else .tuple vs)) := by
  unfold results
  congr 1
theorem resA_ok [Bk] [Ev] {m : Nat → St} {A : Nat → Prop} {w : World} {a : Act} (H : HRel m A h w) (F : FRel m A w f a) {r : ResultVar} {x : AV} (hr : resA P f h r = some x) :
    ∃ v, (resV a.tmps r).run P w = .ok v w ∧ Rd m A w x v := by
  cases r with
  | tmp t =>
    simp only [resA, Option.some.injEq] at hr
    subst hr
    exact ⟨a.tmps.getD t Go.undef, rfl, F.eval (.tmp t)⟩
  | cell t ty =>
    simp only [resA] at hr
    have h1 := F.eval (.tmp t)
    simp only [aev, Act.eval] at h1
    unfold cellA at hr
    split at hr
    · rename_i sz id i off hf
      rw [hf] at h1
      split at hr
      · rename_i T s els hh
        split at hr
        · rename_i hs
          subst hs
          cases he : els[i]? with
          | none => simp [he] at hr
          | some e =>
            simp only [he, Option.bind_some] at hr
            obtain ⟨b, cs, g1, g2, g3, g4, g5⟩ := H.block hh he
            have hv := h1.at_ptr g1
            obtain ⟨u, r1, r2⟩ := loadVar_ok (P := P) (m := m) (A := A) (w := w) (b := b) (o0 := i * s) (vs := fun j => cs.getD (i * s + j) Go.undef) hr (by
              intro j y hy
              have ha : at2 els i j = some y := by simp [at2, he, hy]
              obtain ⟨k1, k2⟩ := g5 i j y ha
              refine ⟨k1, ?_, k2⟩
              have := (at2_len ha g4).2.2
              have hlt : i * s + j < cs.size := by omega
              simp [World.cell?, g2, hlt])
            refine ⟨u, ?_, r2⟩
            simp only [resV, hv]
            simp [asAddr, r1]
        · cases hr
      · cases hr
    · cases hr
theorem resultsA_ok [Bk] [Ev] {m : Nat → St} {A : Nat → Prop} {w : World} {a : Act} {fn : Func} (H : HRel m A h w) (F : FRel m A w f a) {x : AV} (hr : resultsA P fn f h = some x) : ∃ v, (results fn a.tmps).run P w = .ok v w ∧ Rd m A w x v := by
  have key : ∀ (l : List ResultVar) (xs : List AV), l.mapM (resA P f h) = some xs → ∃ vs : List Value, (l.mapM (resV a.tmps)).run P w = .ok vs w ∧ vs.length = xs.length ∧ ∀ (i : Nat) (x : AV), xs[i]? = some x → Rd m A w x (vs.getD i Go.undef) := by
    intro l
    induction l with
    | nil => intro xs h; simp at h; subst h; exact ⟨[], by simp, rfl, by intro i x h; simp at h⟩
    | cons r l ih =>
      intro xs hx
      rw [List.mapM_cons] at hx
      cases h1 : resA P f h r with
      | none => simp [h1] at hx
      | some y =>
        cases h2 : l.mapM (resA P f h) with
        | none => simp [h1, h2] at hx
        | some ys =>
          simp [h1, h2] at hx
          subst hx
          obtain ⟨v, r1, r2⟩ := resA_ok H F h1
          obtain ⟨vs, q1, q2, q3⟩ := ih ys h2
          refine ⟨v :: vs, ?_, by simp [q2], ?_⟩
          · rw [List.mapM_cons]
            simp only [Sem.run_bind, r1, Result.andThen_ok, q1]
            rfl
          · intro i x hi
            cases i with
            | zero => simp at hi; subst hi; exact r2
            | succ i => exact q3 i x (by simpa using hi)
  unfold resultsA at hr
  cases hm : fn.results.toList.mapM (resA P f h) with
  | none => simp [hm] at hr
  | some xs =>
    simp only [hm, Option.map_some, Option.some.injEq] at hr
    obtain ⟨vs, q1, q2, q3⟩ := key _ _ hm
    have harr : (fn.results.mapM (resV a.tmps)).run P w = .ok vs.toArray w := by
      rw [← Array.toArray_toList (xs := fn.results), List.mapM_toArray]
      simp [q1]
    refine ⟨if h : vs.toArray.size = 1 then vs.toArray[0] else .tuple vs.toArray, ?_, ?_⟩
    · rw [results_eq]
      simp only [Sem.run_bind, harr, Result.andThen_ok]
      rfl
    · subst hr
      by_cases h1 : xs.length = 1
      · obtain ⟨v, rfl⟩ := List.length_eq_one_iff.1 h1
        obtain ⟨u, rfl⟩ := List.length_eq_one_iff.1 (q2.trans h1)
        simpa [tupOf] using q3 0 v rfl
      · have hl : vs.length ≠ 1 := by omega
        rw [dif_neg (by simpa using hl)]
        have : tupOf xs = .tup xs := by
          match xs, h1 with
          | [], _ => rfl
          | [v], h => simp at h
          | _ :: _ :: _, _ => rfl
        rw [this]
        exact .tup _ _ (by simp [q2]) (fun i x hi => by simpa [List.getD] using q3 i x hi)

/-- A body walked by the machine is a call. -/
def bodyA (P : Program) (fn : Func) (R : AV → AH → Prop) : Exit → List AV → AH → Prop
  | .normal, f, h | .ret, f, h => ∃ x, resultsA P fn f h = some x ∧ R x h
  | _, _, _ => False
theorem RdL.cells [Bk] [Ev] {A : Nat → Prop} {w w' : World} (hs : w.heap.size ≤ w'.heap.size) (hc : ∀ b, b < w.heap.size → ¬ A b → ∀ o, w'.cell? ⟨b, o, none⟩ = w.cell? ⟨b, o, none⟩) {x : AV} {v : Value} (h : RdL A w x v) : RdL A w' x v := by
  induction h with
  | c v => exact .c v
  | undef => exact .undef
  | emp a => exact .emp a
  | agg cs vs hl h1 _ ih => exact .agg cs vs hl h1 ih
  | tup cs vs hl _ ih => exact .tup cs vs hl ih
  | lit sz els b off cap vs hm hb hcap hsz h1 hv _ ih =>
    exact .lit sz els b off cap vs hm (Nat.lt_of_lt_of_le hb hs) hcap hsz h1 (fun i j x hx => (hc b hb hm _).trans (hv i j x hx)) ih
  | lit0 sz a cap => exact .lit0 sz a cap
  | lptr sz els i0 j0 b off vs hm hb hsz h1 hv _ ih =>
    exact .lptr sz els i0 j0 b off vs hm (Nat.lt_of_lt_of_le hb hs) hsz h1 (fun i j x hx => (hc b hb hm _).trans (hv i j x hx)) ih
  | fn f xs ys vs us hl hk _ _ ih1 ih2 => exact .fn f xs ys vs us hl hk ih1 ih2
  | ifc t x v _ ih => exact .ifc t x v ih
  | e p => exact .e p
  | row n xs b off len cap hn hcap hm hb hv => exact .row n xs b off len cap hn hcap hm (Nat.lt_of_lt_of_le hb hs) fun j p hx hj => (hc b hb hm _).trans (hv j p hx hj)
  | row0 n xs a cap hn => exact .row0 n xs a cap hn
  | o i => exact .o i
/-- The world with the mark's block shut. -/
def shut (w : World) (D : Nat) : World := w.putObj D (.deferred none)
theorem shut_cell {w : World} {D : Nat} {ds : Option (List Deferred)} (hD : w.heap[D]? = some (.deferred ds)) (b o : Nat) : (shut w D).cell? ⟨b, o, none⟩ = w.cell? ⟨b, o, none⟩ := by
  by_cases e : b = D
  · subst e
    have := World.putObj_heap_same (w := w) (o := .deferred none) (Array.getElem?_eq_some_iff.1 hD).1
    simp [World.cell?, shut, this, hD]
  · exact World.cell?_of_block (a := ⟨b, o, none⟩) (World.putObj_heap_other e)
theorem Rd.shut [Bk] [Ev] {m : Nat → St} {A : Nat → Prop} {w : World} {D : Nat} {ds : Option (List Deferred)} (hD : w.heap[D]? = some (.deferred ds)) (hn : ∀ id, m id ≠ .at D) {x : AV} {v : Value} (h : Rd m A w x v) : Rd m A (shut w D) x v := by
  have hsz : (Mc.shut w D).heap.size = w.heap.size := World.putObj_size
  induction h with
  | pure x v h => exact .pure x v (h.cells (by rw [hsz]; exact Nat.le_refl _) fun b _ _ o => shut_cell hD b o)
  | agg cs vs hl h1 _ ih => exact .agg cs vs hl h1 ih
  | tup cs vs hl _ ih => exact .tup cs vs hl ih
  | own T sz id i n b cap hm hb hn' hc hr =>
    refine .own T sz id i n b cap hm (by rw [hsz]; exact hb) hn' hc (hr.trans ?_)
    have : (Mc.shut w D).heap[b]? = w.heap[b]? := World.putObj_heap_other (by rintro rfl; exact hn id hm)
    simp [rowSize, this]
  | ownv T sz id i a hm => exact .ownv T sz id i a hm
  | ownd T sz id i n a n' cap hm => exact .ownd T sz id i n a n' cap hm
  | ptr sz id i off b hm hb => exact .ptr sz id i off b hm (by rw [hsz]; exact hb)
  | ptrd sz id i off a hm => exact .ptrd sz id i off a hm
  | fn f xs ys vs us hl hk _ _ ih1 ih2 => exact .fn f xs ys vs us hl hk ih1 ih2
  | ifc t x v _ ih => exact .ifc t x v ih
  | yld id b hm => exact .yld id b hm
  | yldd id b hm => exact .yldd id b hm
  | mpv id b hm => exact .mpv id b hm
  | mpvd id b hm => exact .mpvd id b hm
  | view T sz id i n b cap hm => exact .view T sz id i n b cap hm
  | viewd T sz id i n a cap hm => exact .viewd T sz id i n a cap hm
theorem HRel.shut [Bk] [Ev] {m : Nat → St} {A : Nat → Prop} {w : World} {D : Nat} {ds : Option (List Deferred)} (H : HRel m A h w) (hD : w.heap[D]? = some (.deferred ds)) (hn : ∀ id, m id ≠ .at D) : HRel m A h (shut w D) := by
  have hsz : (Mc.shut w D).heap.size = w.heap.size := World.putObj_size
  have hot : ∀ b, b ≠ D → (Mc.shut w D).heap[b]? = w.heap[b]? := fun b e => World.putObj_heap_other e
  refine ⟨H.out, fun b hb => by rw [hsz]; exact H.old b hb, H.no, H.dead, ?_, H.inj, ?_, ?_⟩
  · intro id T sz els hh
    obtain hv | ⟨b, cs, h1, h2, h3, h4, h5⟩ := H.cells id T sz els hh
    · exact .inl hv
    · exact .inr ⟨b, cs, h1, (hot b (by rintro rfl; exact hn id h1)).trans h2, h3, h4, fun i j x hx => ⟨(h5 i j x hx).1, (h5 i j x hx).2.shut hD hn⟩⟩
  · intro t ht
    obtain ⟨h1, h2, h3⟩ := H.glob t ht
    exact ⟨h1, by rw [hsz]; exact h2, fun j v hv => (shut_cell hD t.1 j).trans (h3 j v hv)⟩
  · intro id B hh hB
    obtain ⟨b, h1, h2⟩ := H.others id B hh hB
    have hb := hot b (by rintro rfl; exact hn id h1)
    refine ⟨b, h1, ?_⟩
    cases B with
    | lp st f ps as bd =>
      obtain ⟨L, k1, k2, k3, k4, k5, k6, k7, k8⟩ := h2
      exact ⟨L, hb.trans k1, k2, k3, k4, k5, k6, k7, fun i x hx => (k8 i x hx).shut hD hn⟩
    | it s pos => exact hb.trans h2
    | mp es =>
      obtain ⟨ms, clock, k1, k2, k3⟩ := h2
      refine ⟨ms, clock, hb.trans k1, k2, fun i k x hx => ?_⟩
      obtain ⟨e, g1, g2, g3⟩ := k3 i k x hx
      exact ⟨e, g1, g2, g3.shut hD hn⟩
    | _ => exact h2
theorem Ext.shut [Bk] [Ev] {m m' : Nat → St} {w w' : World} {D : Nat} (E : Ext m w m' w') (hD : w.heap.size ≤ D) (hn : ∀ id, m' id ≠ .at D) : Ext m w m' (shut w' D) := by
  have hsz : (Mc.shut w' D).heap.size = w'.heap.size := World.putObj_size
  have hot : ∀ b, b ≠ D → (Mc.shut w' D).heap[b]? = w'.heap[b]? := fun b e => World.putObj_heap_other e
  refine ⟨E.os, E.tape, E.output, by rw [hsz]; exact E.size, E.at_, E.dead, E.virt, ?_, ?_⟩
  · intro b hb hu
    obtain ⟨h1, h2⟩ := E.un b hb hu
    exact ⟨h1, (hot b (by omega)).trans h2⟩
  · intro id b h1 h2
    have := hot b (by rintro rfl; exact hn id h2)
    have := E.rows id b h1 h2
    simp only [rowSize] at *
    rw [hot b (by rintro rfl; exact hn id h2)]
    exact this
def shuts (w : World) : List Nat → World
  | [] => w
  | D :: Ds => shuts (shut w D) Ds
theorem shuts_ok [Bk] [Ev] {m m0 : Nat → St} {A : Nat → Prop} {w0 : World} : ∀ (Ds : List Nat) (w : World), HRel m A h w → Ds.Nodup → (∀ D ∈ Ds, w.heap[D]? = some (.deferred (some [])) ∧ ∀ id, m id ≠ .at D) → (∀ D ∈ Ds, w0.heap.size ≤ D) → Ext m0 w0 m w →
    HRel m A h (shuts w Ds) ∧ Ext m0 w0 m (shuts w Ds) ∧ ∀ (x : AV) (v : Value), Rd m A w x v → Rd m A (shuts w Ds) x v
  | [], w, H, _, _, _, E => ⟨H, E, fun _ _ h => h⟩
  | D :: Ds, w, H, hnd, hD, hs, E => by
    obtain ⟨k1, k2⟩ := hD D List.mem_cons_self
    rw [List.nodup_cons] at hnd
    obtain ⟨r1, r2, r3⟩ := shuts_ok Ds (shut w D) (H.shut k1 k2) hnd.2 (fun D' hm => by
      obtain ⟨q1, q2⟩ := hD D' (List.mem_cons_of_mem _ hm)
      exact ⟨(World.putObj_heap_other (by rintro rfl; exact hnd.1 hm)).trans q1, q2⟩) (fun D' hm => hs D' (List.mem_cons_of_mem _ hm)) (E.shut (hs D List.mem_cons_self) k2)
    exact ⟨r1, r2, fun x v h => r3 x v (h.shut k1 k2)⟩
theorem leaves_marks {F : Fence} {n : Nat} {fn : Func} {tmps : Array Value} {R : Ending → World → Prop} : ∀ (Ds : List Nat) (w : World), Ds.Nodup → (∀ D ∈ Ds, w.heap[D]? = some (.deferred (some []))) → (∃ v, (results fn tmps).run P (shuts w Ds) = .ok v (shuts w Ds) ∧ R (.returned v) (shuts w Ds)) → LeavesInM F n P fn tmps R (Ds.map mark) .returning w
  | [], w, _, _, h => h
  | D :: Ds, w, hnd, hD, h => by
    rw [List.nodup_cons] at hnd
    refine ⟨by simp, .inl ⟨D, shut w D, rfl, run_takeDeferred (hD D List.mem_cons_self), ?_⟩⟩
    exact leaves_marks Ds (shut w D) hnd.2 (fun D' hm => (World.putObj_heap_other (by rintro rfl; exact hnd.1 hm)).trans (hD D' (List.mem_cons_of_mem _ hm))) h
theorem ACalls.of_body [Bk] [Ev] {F : FuncId} {fn : Func} {c : Code} {args : List AV} {R : AV → AH → Prop} (hf : P.funcs[F]? = some fn) (hb : fn.body = some c)
    (k : AWP P true c (bodyA P fn R) (args ++ List.replicate (fn.ntmps - args.length) .undef) h) : ACalls P F args h R := by
  intro m A w vs H hl hv
  have FR : FRel m A w (args ++ List.replicate (fn.ntmps - args.length) .undef) { tmps := vs ++ Array.replicate (fn.ntmps - vs.size) Go.undef, defers := [] } := by
    refine ⟨by simp [hl], ?_, Marks.nil _ _⟩
    intro i x hx
    rcases Nat.lt_or_ge i args.length with h | h
    · rw [List.getElem?_append_left h] at hx
      have := hv i x hx
      have hlt : i < vs.size := by omega
      simpa [Array.getElem?_append, hlt] using this
    · rw [List.getElem?_append_right h, List.getElem?_replicate] at hx
      split at hx
      · cases hx
        have hge : ¬ i < vs.size := by omega
        have : (vs ++ Array.replicate (fn.ntmps - vs.size) Go.undef).getD i Go.undef = Go.undef := by
          simp [Array.getElem?_append, hge, Array.getElem?_replicate]
          split <;> rfl
        simp only [this]
        exact .pure _ _ .undef
      · cases hx
  refine fw_calls (r := none) (n := 9) |>.1 (callsIn_of_wp_marks hf hb trivial (wpIn_mono (k none m A w _ (fun _ => rfl) H FR) ?_))
  rintro e a' w' ⟨m', f', h', q, H', F', E', N'⟩
  have fin : ∀ x, resultsA P fn f' h' = some x → R x h' → LeavesInM (fw none) 9 P fn a'.tmps (fun e w' => ∃ v u m' h', e = .returned v ∧ R u h' ∧ HRel m' A h' w' ∧ Rd m' A w' u v ∧ Ext m w m' w') a'.defers .returning w' := by
    intro x hx hR
    obtain ⟨Ds, d1, d2, d3⟩ := F'.defers
    have d4 : ∀ D ∈ Ds, w.heap.size ≤ D := by
      intro D hD
      rcases N' (mark D) (by rw [d1]; exact List.mem_map_of_mem hD) with h1 | ⟨D', h1, h2⟩
      · exact absurd h1 List.not_mem_nil
      · simp only [mark, Target.collected.injEq] at h1
        omega
    obtain ⟨r1, r2, r3⟩ := shuts_ok Ds w' H' d2 d3 d4 E'
    have F'' : FRel m' A (shuts w' Ds) f' { tmps := a'.tmps, defers := [] } := ⟨F'.size, fun i x hx => r3 _ _ (F'.rd i x hx), Marks.nil _ _⟩
    obtain ⟨v, s1, s2⟩ := resultsA_ok r1 F'' hx
    rw [d1]
    exact leaves_marks Ds w' d2 (fun D hD => (d3 D hD).1) ⟨v, s1, v, x, m', h', rfl, hR, r1, s2, r2⟩
  cases e with
  | normal => obtain ⟨x, hx, hR⟩ := q; exact fin x hx hR
  | ret => obtain ⟨x, hx, hR⟩ := q; exact fin x hx hR
  | _ => exact q.elim

def recvB (P : Program) (t : TypeId) (pr : Bool) : Bool := match P.underlying t with
  | some (.pointer _) => pr
  | some _ => !pr
  | none => false
/-- The function behind a method of an interface's value. -/
def methodA (P : Program) (t : TypeId) (name : String) : Option FuncId :=
  match P.info? t with
  | some i => match i.methods.find? (·.name == name) with
    | some m => match m.func with
      | some (k, pr) => if m.path.toList.isEmpty && recvB P t pr then some k else none
      | none => none
    | none => none
  | none => none
theorem method_run [Bk] [Ev] {t : TypeId} {name : String} {k : FuncId} (hk : methodA P t name = some k) (n : Nat) (v : Value) (w : World) : (method (n + 1) t v name).run P w = .ok (k, v) w := by
  unfold methodA at hk
  split at hk
  · rename_i i hi
    split at hk
    · rename_i mm hm
      split at hk
      · rename_i k' pr hf
        split at hk
        · rename_i hc
          cases hk
          rw [Bool.and_eq_true] at hc
          have hp : mm.path.toList = [] := by simpa using hc.1
          have hu := hc.2
          unfold method
          simp only [Sem.run_bind, typeInfo, program, Sem.run, hi, Result.andThen_ok]
          simp only [hm, Sem.run_bind, Sem.run_pure, hp, follow, Result.andThen_ok, hf]
          unfold recvB at hu
          split at hu
          · rename_i e he
            subst hu
            simp [receiverAt, run_underlying he, Place.get]
          · rename_i d hne he
            have : pr = false := by simpa using hu
            subst this
            cases d <;> first | (exact absurd rfl (hne _)) | simp [receiverAt, run_underlying he, Place.get]
          · cases hu
        · cases hk
      · cases hk
    · cases hk
  · cases hk

/-- Which function an operation calls, with what. -/
def calleeA (P : Program) (ρ : Operand → AV) : Op → Option (FuncId × List AV)
  | .call { callee := .value g, args, .. } => match ρ g with
    | .fn (.func k) first captured => some (k, first ++ args.toList.map ρ ++ captured)
    | _ => none
  | .call { callee := .invoke g name, args, .. } => match ρ g with
    | .ifc t v => match methodA P t name with
      | some k => some (k, v :: args.toList.map ρ)
      | none => none
    | _ => none
  | _ => none
theorem callFunc_enter [Bk] [Ev] {k : FuncId} {fn : Func} {c : Code} (hk : P.funcs[k]? = some fn) (hb : fn.body = some c) (hn : (fn.name == "runtime.NumGoroutine") = false) (args : Array Value) (w : World) : (callFunc k args).run P w = .ok (.enter k args) w := by
  simp only [beq_eq_false_iff_ne, ne_eq] at hn
  simp [callFunc, program, Sem.run, hk, hb, hn]
theorem StepOk.call [Bk] [Ev] {o : Oper} {k : FuncId} {args : List AV} {R : AV → AH → Prop} {fn : Func} {c : Code} (hc : calleeA P (aev f) o.op = some (k, args)) (hk : P.funcs[k]? = some fn) (hb : fn.body = some c) (hn : (fn.name == "runtime.NumGoroutine") = false) (hR : ACalls P k args h R) : StepOk P o f h R := by
  intro r' m A w a H F K Q hK
  unfold calleeA at hc
  split at hc
  · rename_i g cargs ctys ho
    split at hc
    · rename_i k' first captured hg
      simp only [Option.some.injEq, Prod.mk.injEq] at hc
      obtain ⟨rfl, rfl⟩ := hc
      have h1 := F.eval g
      rw [hg] at h1
      obtain ⟨vs, us, hv, hl1, hl2, r1, r2⟩ : ∃ vs us, a.eval g = .func (.func k') vs us ∧ vs.size = first.length ∧ us.size = captured.length ∧ (∀ (i : Nat) (x : AV), first[i]? = some x → Rd m A w x (vs.getD i Go.undef)) ∧ ∀ (i : Nat) (x : AV), captured[i]? = some x → Rd m A w x (us.getD i Go.undef) := by
        generalize a.eval g = u at h1
        cases h1 with
        | pure _ _ h => cases h with | fn _ _ _ vs us hl hk' h g => exact ⟨vs, us, rfl, hl, hk', fun i x hx => .pure _ _ (h i x hx), fun i x hx => .pure _ _ (g i x hx)⟩
        | fn _ _ _ vs us hl hk' h g => exact ⟨vs, us, rfl, hl, hk', h, g⟩
      have hexec : (execOp a.eval o).run P w = .ok (.enter k' (vs ++ cargs.map a.eval ++ us)) w := by
        simp only [execOp, ho, resolve, Sem.run_bind]
        simp only [hv, Deferred.ofValue]
        simp [invoke, callFunc_enter hk hb hn]
      refine wpIn_enter hexec ((hR m A w _ H (by simp [hl1, hl2]) ?_).mono ?_)
      · intro i x hx
        rcases Nat.lt_or_ge i first.length with h | h
        · rw [List.append_assoc, List.getElem?_append_left h] at hx
          have := r1 i x hx
          have hlt : i < vs.size := by omega
          have e : (vs ++ cargs.map a.eval ++ us).getD i Go.undef = vs.getD i Go.undef := by
            have h2 : i < vs.size + cargs.size := by omega
            simp [Array.getElem?_append, hlt, h2]
          rw [e]; exact this
        · rw [List.append_assoc, List.getElem?_append_right h] at hx
          rcases Nat.lt_or_ge (i - first.length) cargs.toList.length with h2 | h2
          · rw [List.getElem?_append_left (by simpa using h2)] at hx
            have := map_rel F cargs _ _ hx
            have e : (vs ++ cargs.map a.eval ++ us).getD i Go.undef = (cargs.map a.eval).getD (i - first.length) Go.undef := by
              have hge : ¬ i < first.length := by omega
              have h3 : i - first.length < cargs.size := by simpa using h2
              simp [Array.getElem?_append, hge, h3, hl1]
            rw [e]; exact this
          · rw [List.getElem?_append_right (by simpa using h2)] at hx
            have := r2 _ _ hx
            have e : (vs ++ cargs.map a.eval ++ us).getD i Go.undef = us.getD (i - first.length - (cargs.toList.map (aev f)).length) Go.undef := by
              have hge : ¬ i < first.length := by omega
              have h3 : ¬ i - first.length < cargs.size := by simp at h2; omega
              simp [Array.getElem?_append, hge, h3, hl1, Nat.sub_sub]
            rw [e]; exact this
      · rintro e w' ⟨v, u, m', h', rfl, hRu, H', hx, E⟩
        exact ⟨v, rfl, hK u h' v w' m' hRu H' hx E⟩
    · cases hc
  · rename_i g name cargs ctys ho
    split at hc
    · rename_i t v hg
      split at hc
      · rename_i k' hm
        simp only [Option.some.injEq, Prod.mk.injEq] at hc
        obtain ⟨rfl, rfl⟩ := hc
        have h1 := F.eval g
        rw [hg] at h1
        obtain ⟨u, hu, hr⟩ := h1.ifc_inv
        have hm' : (method (P.types.size + Made.depth) t u name).run P w = .ok (k', u) w := method_run hm (P.types.size + 99) u w
        have hexec : (execOp a.eval o).run P w = .ok (.enter k' (#[u] ++ cargs.map a.eval)) w := by
          simp only [execOp, ho, resolve, Sem.run_bind, Sem.run_pure, Result.andThen_ok]
          simp only [invoke, hu]
          simp only [Array.getElem?_append, Sem.run_bind]
          simp only [callMethod, program]
          have hext : (cargs.map a.eval).extract 0 cargs.size = cargs.map a.eval := by
            apply Array.ext'
            simp
            exact List.take_of_length_le (by simp)
          simp [Sem.run, hm', callFunc_enter hk hb hn, hext]
        refine wpIn_enter hexec ((hR m A w _ H (by simp; omega) ?_).mono ?_)
        · intro i x hx
          cases i with
          | zero => simp at hx; subst hx; simpa [Array.getElem?_append] using hr
          | succ i =>
            have := map_rel F cargs i x (by simpa using hx)
            have e : (#[u] ++ cargs.map a.eval).getD (i + 1) Go.undef = (cargs.map a.eval).getD i Go.undef := by simp [Array.getElem?_append]
            rw [e]; exact this
        · rintro e w' ⟨v', u', m', h', rfl, hRu, H', hx, E⟩
          exact ⟨v', rfl, hK u' h' v' w' m' hRu H' hx E⟩
      · cases hc
    · cases hc
  · cases hc
end
end Go.Proofs.YtjbgfhafinfjbaaGreat.Mc
