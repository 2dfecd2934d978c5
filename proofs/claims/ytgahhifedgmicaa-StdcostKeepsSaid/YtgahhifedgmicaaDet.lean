/-
  A region that draws its order, each of whose operations has one value whatever the order, and whose stores come in one order: no order is looked at.
-/
import Derived.Test.YtgahhifedgmicaaRegion
set_option linter.unusedVariables false
namespace Go.Proofs.Ytgahhifedgmicaa
open Go.RowKit

section
variable {P : Program} {Q : Exit → Act → World → Prop}

/-- With the operands as ρ has them, in world w: the operation leaves v, and world w'. -/
def Step (P : Program) (o : Oper) (ρ : Operand → Value) (w : World) (v : Value) (w' : World) : Prop :=
  ∀ a : Act, execOp a.eval o = execOp ρ o → ∀ (K : Act → World → Prop) (Q : Exit → Act → World → Prop), K (a.put o.dst v) w' → o.wp P a w K Q
theorem Step.value {o : Oper} {ρ : Operand → Value} {w w' : World} {v : Value} (h : (execOp ρ o).run P w = .ok (.value v) w') : Step P o ρ w v w' := by
  intro a e K Q hK
  unfold Oper.wp
  rw [e, h]
  exact hK
theorem Step.skip {o : Oper} {ρ : Operand → Value} {w w' : World} {v : Value} (hd : o.dst = none) (h : (execOp ρ o).run P w = .ok .skip w') : Step P o ρ w v w' := by
  intro a e K Q hK
  unfold Oper.wp
  rw [e, h]
  rw [hd] at hK
  show K (a.put o.dst undef) w'
  rw [hd]
  exact hK
theorem Step.call {o : Oper} {ρ : Operand → Value} {w w1 w' : World} {v : Value} {f : FuncId} {args : Array Value} (h : (execOp ρ o).run P w = .ok (.enter f args) w1) (c : Calls P f args w1 fun e w2 => e = .returned v ∧ w2 = w') : Step P o ρ w v w' := by
  intro a e K Q hK
  unfold Oper.wp
  rw [e, h]
  exact Calls.mono c fun e w2 ⟨h1, h2⟩ => by subst h1; subst h2; exact hK

/-- The same, of the world behind it only a fact. -/
def StepP (P : Program) (o : Oper) (ρ : Operand → Value) (w : World) (v : Value) (B : World → Prop) : Prop :=
  ∀ a : Act, execOp a.eval o = execOp ρ o → ∀ (K : Act → World → Prop) (Q : Exit → Act → World → Prop), (∀ w', B w' → K (a.put o.dst v) w') → o.wp P a w K Q
theorem Step.pred {o : Oper} {ρ : Operand → Value} {w w' : World} {v : Value} {B : World → Prop} (h : Step P o ρ w v w') (hB : B w') : StepP P o ρ w v B :=
  fun a e K Q hK => h a e K Q (hK w' hB)
theorem StepP.call {o : Oper} {ρ : Operand → Value} {w w1 : World} {v : Value} {B : World → Prop} {f : FuncId} {args : Array Value} (h : (execOp ρ o).run P w = .ok (.enter f args) w1) (c : Calls P f args w1 fun e w2 => e = .returned v ∧ B w2) : StepP P o ρ w v B := by
  intro a e K Q hK
  unfold Oper.wp
  rw [e, h]
  exact Calls.mono c fun e w2 ⟨h1, h2⟩ => by subst h1; exact hK w2 h2

/-- Every slot that an operation looks at is none of the region's, or was laid by one that it waits for. -/
def cleanB (D : Nat) (ops : Array Oper) (ds : List (Option Tmp)) : Bool :=
  (List.range ops.size).all fun i => ((ops[i]?).map fun o => o.op.operands.toList.all fun x =>
    match x with
    | .tmp t => !ds.contains (some t) || (ancOf ops D i).any fun k => decide (ds[k]? = some (some t))
    | _ => true).getD false
/-- How many stores lie behind operation i, at least and at most. -/
def winB (D : Nat) (ops : Array Oper) (stores : List Nat) (win : List (Nat × Nat)) : Bool :=
  decide (stores.Nodup) && stores.all (fun s => decide (s < ops.size)) && (List.range ops.size).all fun i => match win[i]? with
    | some (lo, hi) => (stores.take lo).all (fun s => (ancOf ops D i).contains s) && (stores.drop hi).all (fun s => s == i || (ancOf ops D s).contains i) && decide (lo ≤ stores.length)
    | none => false
def stage (stores : List Nat) (L : Nat → Bool) : Nat := (stores.filter L).length
theorem stage_ge (stores : List Nat) (L : Nat → Bool) : ∀ lo, lo ≤ stores.length → (∀ s ∈ stores.take lo, L s = true) → lo ≤ stage stores L := by
  unfold stage
  induction stores with
  | nil => intro lo h _; simpa using h
  | cons s r ih =>
    intro lo h hl
    cases lo with
    | zero => omega
    | succ lo =>
      have h1 := hl s (by simp)
      have := ih lo (by simpa using h) fun t ht => hl t (by simp [ht])
      simp only [List.filter_cons, h1, if_true, List.length_cons]
      omega
theorem stage_le (stores : List Nat) (L : Nat → Bool) : ∀ hi, (∀ s ∈ stores.drop hi, L s = false) → stage stores L ≤ hi := by
  intro hi h
  unfold stage
  conv => lhs; rw [← List.take_append_drop hi stores]
  rw [List.filter_append, List.length_append]
  have e : (stores.drop hi).filter L = [] := List.filter_eq_nil_iff.2 fun s hs => by rw [h s hs]; simp
  rw [e]
  have := List.length_filter_le L (stores.take hi)
  have := List.length_take_le hi stores
  simp
  omega
theorem stage_all (stores : List Nat) (L : Nat → Bool) (h : ∀ s ∈ stores, L s = true) : stage stores L = stores.length := by
  unfold stage
  rw [List.filter_eq_self.2 h]
theorem stage_out (stores : List Nat) (L : Nat → Bool) (i : Nat) (h : i ∉ stores) : stage stores (fun k => if k = i then true else L k) = stage stores L := by
  unfold stage
  congr 1
  refine List.filter_congr fun s hs => ?_
  rw [if_neg (fun (e : s = i) => h (by rw [← e]; exact hs))]
theorem stage_in (stores : List Nat) (L : Nat → Bool) (i : Nat) (hn : stores.Nodup) (h : i ∈ stores) (hf : L i = false) : stage stores (fun k => if k = i then true else L k) = stage stores L + 1 := by
  induction stores with
  | nil => cases h
  | cons s r ih =>
    have hn' := List.nodup_cons.1 hn
    unfold stage at ih ⊢
    by_cases e : s = i
    · subst e
      have := stage_out r L s hn'.1
      unfold stage at this
      simp only [List.filter_cons, hf, if_true, List.length_cons, this, Bool.false_eq_true, if_false]
    · have hm : i ∈ r := by
        rcases List.mem_cons.1 h with h | h
        · exact absurd h.symm e
        · exact h
      have := ih hn'.2 hm
      simp only [List.filter_cons, if_neg e]
      split
      · simp only [List.length_cons, this]
      · exact this

/-- What each operation does, at each number of stores that may lie behind it. -/
def DetSteps (P : Program) (W : Nat → World → Prop) (stores : List Nat) (ρ : Operand → Value) : List Oper → List Value → List (Nat × Nat) → Nat → Prop
  | [], _, _, _ => True
  | o :: l, vs, ws, i => (∀ s w, (ws.headD (0, 0)).1 ≤ s → s ≤ (ws.headD (0, 0)).2 → W s w → StepP P o ρ w (vs.headD undef) (W (if stores.contains i then s + 1 else s))) ∧ DetSteps P W stores ρ l vs.tail ws.tail (i + 1)
theorem det_at {W : Nat → World → Prop} {stores : List Nat} {ρ : Operand → Value} : ∀ (l : List Oper) (vs : List Value) (ws : List (Nat × Nat)) (k i : Nat) (o : Oper) (lo hi : Nat), DetSteps P W stores ρ l vs ws k → l[i]? = some o → ws[i]? = some (lo, hi) →
    ∀ s w, lo ≤ s → s ≤ hi → W s w → StepP P o ρ w (vs.getD i undef) (W (if stores.contains (k + i) then s + 1 else s)) := by
  intro l
  induction l with
  | nil => intro vs ws k i o lo hi _ h; simp at h
  | cons x l ih =>
    intro vs ws k i o lo hi hd h hw s w h1 h2 hW
    cases i with
    | zero =>
      simp only [List.getElem?_cons_zero, Option.some.injEq] at h
      subst h
      cases ws with
      | nil => simp at hw
      | cons y ws =>
        simp only [List.getElem?_cons_zero, Option.some.injEq] at hw
        subst hw
        have := hd.1 s w h1 h2 hW
        cases vs <;> simpa using this
    | succ i =>
      cases ws with
      | nil => simp at hw
      | cons y ws =>
        have := ih vs.tail ws (k + 1) i o lo hi hd.2 (by simpa using h) (by simpa using hw) s w h1 h2 hW
        rw [show k + (i + 1) = k + 1 + i by omega]
        cases vs <;> simpa using this

theorem puts_congr (ds : List (Option Tmp)) : ∀ (a : Act) (k : Nat) (u u' : Nat → Value), (∀ i, i < ds.length → u (k + i) = u' (k + i)) → puts a ds k u = puts a ds k u' := by
  induction ds with
  | nil => intro a k u u' _; rfl
  | cons x ds ih =>
    intro a k u u' h
    simp only [puts]
    have h0 := h 0 (by simp)
    rw [Nat.add_zero] at h0
    rw [h0]
    exact ih _ _ _ _ fun i hi => by rw [show k + 1 + i = k + (i + 1) by omega]; exact h (i + 1) (by simpa using hi)

theorem eval_far (a b : Act) (t : Tmp) (hs : a.tmps.size = b.tmps.size) (ht : ¬ t < a.tmps.size) : a.eval (.tmp t) = b.eval (.tmp t) := by
  simp [Act.eval, ht, hs ▸ ht]

theorem wp_region_det (D : Nat) {id : Nat} {l : List Oper} {a : Act} {w : World} (ds : List (Option Tmp)) (stores : List Nat) (win : List (Nat × Nat)) (W : Nat → World → Prop) (vals : List Value)
    (hm : P.follows .mixedOrders = true) (hw : laidWell l.toArray = true) (hsel : Region.noSelect l.toArray = true) (hds : l.map (·.dst) = ds) (hd : slotsApart ds = true) (hc : cleanB D l.toArray ds = true) (hwin : winB D l.toArray stores win = true)
    (h0 : W 0 w.drew) (steps : DetSteps P W stores (puts a ds 0 fun k => vals.getD k undef).eval l vals win 0)
    (fin : ∀ w', W stores.length w' → Q .normal (puts a ds 0 fun k => vals.getD k undef) w') : (Code.region id l.toArray true).wp P Q a w := by
  simp only [winB, Bool.and_eq_true, decide_eq_true_eq] at hwin
  obtain ⟨⟨hnd, hin⟩, hwin⟩ := hwin
  refine wp_region_all D ds (fun i u _ => u i = vals.getD i undef) (fun L w' => (∀ i, L i = true → ∀ j ∈ ancOf l.toArray D i, L j = true) ∧ W (stage stores L) w') hm hw hds hd ?_ (fun j u u' w hu h => by rw [← hu j (.inl rfl)]; exact h) ?_ ?_
  · refine ⟨fun i h => (by cases h), ?_⟩
    rw [show stage stores (fun _ => false) = 0 from Nat.le_zero.1 (stage_le stores _ 0 fun s _ => rfl)]
    exact h0
  · have key : ∀ (i : Nat) (o : Oper), l[i]? = some o → DutyO D P l.toArray (puts a ds 0) (starts a ds) (fun i u _ => u i = vals.getD i undef) (fun L w' => (∀ i, L i = true → ∀ j ∈ ancOf l.toArray D i, L j = true) ∧ W (stage stores L) w') Q i o := by
      intro i o ho u w' L hS hL hanc hpre hpost K hK
      obtain ⟨hdown, hWs⟩ := hS
      have hi : i < l.length := by
        rcases Nat.lt_or_ge i l.length with h | h
        · exact h
        · rw [List.getElem?_eq_none h] at ho; cases ho
      have hwi := List.all_eq_true.1 hwin i (List.mem_range.2 (by simpa using hi))
      cases hw2 : win[i]? with
      | none => rw [hw2] at hwi; simp at hwi
      | some y =>
        obtain ⟨lo, hi'⟩ := y
        rw [hw2] at hwi
        simp only [Bool.and_eq_true, decide_eq_true_eq] at hwi
        obtain ⟨⟨hlo, hhi⟩, hle⟩ := hwi
        have s1 : lo ≤ stage stores L := stage_ge stores L lo hle fun s hs => hanc s (by simpa using List.all_eq_true.1 hlo s hs)
        have s2 : stage stores L ≤ hi' := stage_le stores L hi' fun s hs => by
          have := List.all_eq_true.1 hhi s hs
          simp only [Bool.or_eq_true, beq_iff_eq] at this
          rcases this with rfl | h
          · exact hL
          · cases hLs : L s with
            | false => rfl
            | true => have := hdown s hLs i (by simpa using h); rw [hL] at this; cases this
        have st := det_at l vals win 0 i o lo hi' steps ho hw2 _ w' s1 s2 hWs
        rw [Nat.zero_add] at st
        refine st (puts a ds 0 u) ?_ K Q ?_
        · refine execOp_congr o ?_ ?_
          · intro cs b e
            have := hsel
            simp only [Region.noSelect] at this
            have hm := Array.all_eq_true'.1 this o (by simpa using List.mem_of_getElem? ho)
            rw [e] at hm
            simp at hm
          · intro x hx
            cases x with
            | tmp t =>
              by_cases ht : t < a.tmps.size
              · have hcl := List.all_eq_true.1 hc i (List.mem_range.2 (by simpa using hi))
                rw [show l.toArray[i]? = some o by simpa using ho] at hcl
                simp only [Option.map_some, Option.getD_some] at hcl
                have := List.all_eq_true.1 hcl (.tmp t) (by simpa using hx)
                simp only [Bool.or_eq_true, Bool.not_eq_true'] at this
                rcases this with h | h
                · rw [puts_eval_out _ _ _ _ _ h, puts_eval_out _ _ _ _ _ h]
                · obtain ⟨k, hk, hk2⟩ := List.any_eq_true.1 h
                  have hk2 := of_decide_eq_true hk2
                  rw [puts_eval_in _ _ _ _ k t hd hk2 ht, puts_eval_in _ _ _ _ k t hd hk2 ht]
                  simpa using hpre k hk
              · exact eval_far _ _ _ (by rw [puts_size, puts_size]) (by rw [puts_size]; exact ht)
            | _ => rfl
        · intro w2 hW2
          refine hK _ _ (by simp [upd]) ⟨?_, ?_⟩ (fun j x _ h => h)
          · intro k hk j hj
            by_cases hki : k = i
            · subst hki
              by_cases hjk : j = k
              · simp [hjk]
              · simp only [if_neg hjk]; exact hanc j hj
            · simp only [if_neg hki] at hk
              by_cases hji : j = i
              · simp [hji]
              · simp only [if_neg hji]; exact hdown k hk j hj
          · by_cases hin : i ∈ stores
            · rw [stage_in stores L i hnd hin hL]; rwa [if_pos (by simpa using hin)] at hW2
            · rw [stage_out stores L i hin]; rwa [if_neg (by simpa using hin)] at hW2
    have all : ∀ (r : List Oper) (k : Nat), (∀ i o, r[i]? = some o → l[k + i]? = some o) → Duties D P l.toArray (puts a ds 0) (starts a ds) (fun i u _ => u i = vals.getD i undef) (fun L w' => (∀ i, L i = true → ∀ j ∈ ancOf l.toArray D i, L j = true) ∧ W (stage stores L) w') Q r k := by
      intro r
      induction r with
      | nil => intro k _; trivial
      | cons x r ih =>
        intro k h
        exact ⟨key k x (by have := h 0 x rfl; simpa using this), ih (k + 1) fun i o hi => by rw [show k + 1 + i = k + (i + 1) by omega]; exact h (i + 1) o (by simpa using hi)⟩
    exact all l 0 fun i o h => by rw [Nat.zero_add]; exact h
  · intro u w' L hS hA hΦ
    have hlen : ds.length = l.length := by rw [← hds]; simp
    have e : puts a ds 0 u = puts a ds 0 fun k => vals.getD k undef := puts_congr ds a 0 _ _ fun i hi => by rw [Nat.zero_add]; exact hΦ i (by omega)
    have es : stage stores L = stores.length := stage_all stores L fun s hs => by
      refine hA s ?_
      have := List.all_eq_true.1 hin s hs
      simpa using this
    rw [e]
    exact fin w' (es ▸ hS.2)

/-- As above; of the frame only what its slots hold is told. -/
theorem wp_region_det' (D : Nat) {id : Nat} {l : List Oper} {a : Act} {w : World} (ds : List (Option Tmp)) (stores : List Nat) (win : List (Nat × Nat)) (W : Nat → World → Prop) (vals : List Value)
    (hm : P.follows .mixedOrders = true) (hw : laidWell l.toArray = true) (hsel : Region.noSelect l.toArray = true) (hds : l.map (·.dst) = ds) (hd : slotsApart ds = true) (hc : cleanB D l.toArray ds = true) (hwin : winB D l.toArray stores win = true)
    (hsz : (ds.all fun d => match d with | some t => decide (t < a.tmps.size) | none => true) = true)
    (h0 : W 0 w.drew)
    (steps : ∀ ρ : Operand → Value, (∀ k t, ds[k]? = some (some t) → ρ (.tmp t) = vals.getD k undef) → (∀ t, ds.contains (some t) = false → ρ (.tmp t) = a.eval (.tmp t)) → (∀ v, ρ (.const v) = v) → (∀ f, ρ (.func f) = .func (.func f) #[] #[]) → DetSteps P W stores ρ l vals win 0)
    (fin : ∀ w', W stores.length w' → Q .normal (puts a ds 0 fun k => vals.getD k undef) w') : (Code.region id l.toArray true).wp P Q a w := by
  refine wp_region_det D ds stores win W vals hm hw hsel hds hd hc hwin h0 (steps _ ?_ ?_ ?_ ?_) fin
  · intro k t h
    have ht := List.all_eq_true.1 hsz (some t) (List.mem_of_getElem? h)
    simp only [decide_eq_true_eq] at ht
    have := puts_eval_in ds a 0 (fun k => vals.getD k undef) k t hd h ht
    rwa [Nat.zero_add] at this
  · intro t h
    exact puts_eval_out _ _ _ _ _ h
  · intro v; rfl
  · intro f; rfl
theorem DetSteps.pure {W : Nat → World → Prop} {stores : List Nat} {ρ : Operand → Value} {o : Oper} {l : List Oper} {v : Value} {vs : List Value} {lh : Nat × Nat} {ws : List (Nat × Nat)} {i : Nat} (hs : stores.contains i = false)
    (h : ∀ w, Step P o ρ w v w) (t : DetSteps P W stores ρ l vs ws (i + 1)) : DetSteps P W stores ρ (o :: l) (v :: vs) (lh :: ws) i := by
  refine ⟨fun s w _ _ hW => ?_, t⟩
  rw [hs]; exact (h w).pred hW
theorem DetSteps.load {W : Nat → World → Prop} {stores : List Nat} {ρ : Operand → Value} {o : Oper} {l : List Oper} {v : Value} {vs : List Value} {lo hi : Nat} {ws : List (Nat × Nat)} {i : Nat} (hs : stores.contains i = false)
    (h : ∀ s w, lo ≤ s → s ≤ hi → W s w → Step P o ρ w v w) (t : DetSteps P W stores ρ l vs ws (i + 1)) : DetSteps P W stores ρ (o :: l) (v :: vs) ((lo, hi) :: ws) i := by
  refine ⟨fun s w h1 h2 hW => ?_, t⟩
  rw [hs]; exact (h s w h1 h2 hW).pred hW
theorem DetSteps.call {W : Nat → World → Prop} {stores : List Nat} {ρ : Operand → Value} {o : Oper} {l : List Oper} {v : Value} {vs : List Value} {lo hi : Nat} {ws : List (Nat × Nat)} {i : Nat} (hs : stores.contains i = false)
    (h : ∀ s w, lo ≤ s → s ≤ hi → W s w → StepP P o ρ w v (W s)) (t : DetSteps P W stores ρ l vs ws (i + 1)) : DetSteps P W stores ρ (o :: l) (v :: vs) ((lo, hi) :: ws) i := by
  refine ⟨fun s w h1 h2 hW => ?_, t⟩
  rw [hs]; exact h s w h1 h2 hW
theorem DetSteps.store {W : Nat → World → Prop} {stores : List Nat} {ρ : Operand → Value} {o : Oper} {l : List Oper} {v : Value} {vs : List Value} {n : Nat} {ws : List (Nat × Nat)} {i : Nat} (hs : stores.contains i = true)
    (h : ∀ w, W n w → StepP P o ρ w v (W (n + 1))) (t : DetSteps P W stores ρ l vs ws (i + 1)) : DetSteps P W stores ρ (o :: l) (v :: vs) ((n, n) :: ws) i := by
  refine ⟨fun s w h1 h2 hW => ?_, t⟩
  have : s = n := Nat.le_antisymm h2 h1
  subst this
  rw [hs]; exact h w hW
/-- What is known of the world behind so many stores. -/
def pick (l : List (World → Prop)) (s : Nat) : World → Prop := l.getD s fun _ => False
end
end Go.Proofs.Ytgahhifedgmicaa
