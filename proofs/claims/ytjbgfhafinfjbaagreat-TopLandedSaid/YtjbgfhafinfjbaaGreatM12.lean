/-
  A machine of plain data beside the model: it runs code; what it says is so. No program in sight.
-/
import Derived.Test.YtjbgfhafinfjbaaGreatM11
import Derived.Test.YtjbgfhafinfjbaaGreatML
set_option linter.unusedVariables false
set_option linter.unusedSimpArgs false
namespace Go.Proofs.YtjbgfhafinfjbaaGreat.Mc
open Go.RowKit

structure Rs (α : Type) where
  a : α
  h : AH
  n : Nat
  rd : List Nat
  wr : List Nat
abbrev M (α : Type) := AH → Nat → Option (Rs α)
def mfail {α : Type} : M α := fun _ _ => none
def mpure {α : Type} (a : α) : M α := fun h n => some ⟨a, h, n, [], []⟩
def mbind {α β : Type} (x : M α) (k : α → M β) : M β := fun h n =>
  match x h n with
  | none => none
  | some r => match k r.a r.h r.n with
    | none => none
    | some s => some ⟨s.a, s.h, s.n, r.rd ++ s.rd, r.wr ++ s.wr⟩

structure Loc {α : Type} (x : M α) (h : AH) (n : Nat) (r : Rs α) : Prop where
  le : n ≤ r.n
  frame : ∀ id, id ∉ r.wr → ¬ (n ≤ id ∧ id < r.n) → r.h id = h id
  sub : ∀ id ∈ r.wr, id ∈ r.rd
  again : ∀ h2 : AH, (∀ id ∈ r.rd, h2 id = h id) → (∀ id, n ≤ id → id < r.n → h2 id = h id) → ∃ r2, x h2 n = some r2 ∧ r2.a = r.a ∧ r2.n = r.n ∧ r2.rd = r.rd ∧ r2.wr = r.wr ∧
    (∀ id, (id ∈ r.wr ∨ (n ≤ id ∧ id < r.n)) → r2.h id = r.h id) ∧ ∀ id, id ∉ r.wr → ¬ (n ≤ id ∧ id < r.n) → r2.h id = h2 id
def Local {α : Type} (x : M α) : Prop := ∀ h n r, x h n = some r → Loc x h n r

theorem local_fail [Bk] [Ev] {α : Type} : Local (mfail : M α) := fun h n r hr => by cases hr
theorem local_pure [Bk] [Ev] {α : Type} (a : α) : Local (mpure a) := fun h n r hr => by
  cases hr
  exact ⟨Nat.le_refl _, fun _ _ _ => rfl, fun _ h => h, fun h2 _ _ => ⟨_, rfl, rfl, rfl, rfl, rfl, fun id hid => by rcases hid with hid | hid; simp at hid; simp only at hid; omega, fun _ _ _ => rfl⟩⟩
theorem local_bind [Bk] [Ev] {α β : Type} {x : M α} {k : α → M β} (hx : Local x) (hk : ∀ a, Local (k a)) : Local (mbind x k) := by
  intro h n t ht
  unfold mbind at ht
  cases h1 : x h n with
  | none => rw [h1] at ht; cases ht
  | some r =>
    rw [h1] at ht
    simp only at ht
    cases h2 : k r.a r.h r.n with
    | none => rw [h2] at ht; cases ht
    | some s =>
      rw [h2] at ht
      cases ht
      have L1 := hx h n r h1
      have L2 := hk r.a r.h r.n s h2
      have l1 := L1.le
      have l2 := L2.le
      refine ⟨Nat.le_trans L1.le L2.le, ?_, ?_, ?_⟩
      · intro id hid hr
        simp only [List.mem_append, not_or] at hid
        rw [L2.frame id hid.2 (by simp only at hr; omega), L1.frame id hid.1 (by simp only at hr; omega)]
      · intro id hid
        simp only [List.mem_append] at hid ⊢
        exact hid.imp (L1.sub id) (L2.sub id)
      · intro g hrd hrg
        simp only [List.mem_append] at hrd
        simp only at hrg
        obtain ⟨r2, e1, e2, e3, e4, e5, e6, e7⟩ := L1.again g (fun id hid => hrd id (.inl hid)) (fun id a b => hrg id a (by omega))
        have ag : ∀ id, (id ∈ s.rd ∨ (r.n ≤ id ∧ id < s.n)) → r2.h id = r.h id := by
          intro id hid
          by_cases hw : id ∈ r.wr ∨ (n ≤ id ∧ id < r.n)
          · exact e6 id hw
          · simp only [not_or] at hw
            rw [e7 id hw.1 hw.2, L1.frame id hw.1 hw.2]
            rcases hid with hid | hid
            · exact hrd id (.inr hid)
            · exact hrg id (by omega) hid.2
        obtain ⟨s2, d1, d2, d3, d4, d5, d6, d7⟩ := L2.again r2.h (fun id hid => ag id (.inl hid)) (fun id a b => ag id (.inr ⟨a, b⟩))
        refine ⟨⟨s2.a, s2.h, s2.n, r2.rd ++ s2.rd, r2.wr ++ s2.wr⟩, ?_, d2, d3, by rw [e4, d4], by rw [e5, d5], ?_, ?_⟩
        · unfold mbind
          rw [e1]
          simp only
          rw [e2, e3, d1]
        · intro id hid
          simp only [List.mem_append] at hid
          simp only at hid ⊢
          by_cases hw : id ∈ s.wr ∨ (r.n ≤ id ∧ id < s.n)
          · exact d6 id hw
          · simp only [not_or] at hw
            rw [d7 id hw.1 hw.2, L2.frame id hw.1 hw.2]
            refine e6 id ?_
            rcases hid with (hid | hid) | hid
            · exact .inl hid
            · exact absurd hid hw.1
            · exact .inr ⟨hid.1, by omega⟩
        · intro id hid hr
          simp only [List.mem_append, not_or] at hid
          simp only at hr ⊢
          rw [d7 id hid.2 (by omega), e7 id hid.1 (by omega)]

section
variable {P : Program}

def aopM [Bk] (P : Program) (op : Op) (f : List AV) : M AV := fun h n =>
  match aop P op (aev f) h n with
  | none => none
  | some r => some ⟨r.v, upsB h r.ups, if (r.ups.map (·.1)).contains n then n + 1 else n, r.rds, r.ups.map (·.1)⟩
theorem local_aop [Bk] [Ev] (op : Op) (f : List AV) : Local (aopM P op f) := by
  intro h n t ht
  unfold aopM at ht
  cases h1 : aop P op (aev f) h n with
  | none => rw [h1] at ht; cases ht
  | some r =>
    rw [h1] at ht
    simp only [Option.some.injEq] at ht
    subst ht
    have hrange : ∀ id, n ≤ id → id < (if (r.ups.map (·.1)).contains n then n + 1 else n) → id ∈ r.ups.map (·.1) := by
      intro id a b
      split at b
      · rename_i hc
        have : id = n := by omega
        subst this
        simpa using hc
      · omega
    refine ⟨by simp only; split <;> omega, fun id hid _ => upsB_not hid, aop_ups h1, ?_⟩
    intro g hrd _
    have h2 := aop_h h1 hrd
    refine ⟨⟨r.v, upsB g r.ups, _, r.rds, r.ups.map (·.1)⟩, by unfold aopM; rw [h2], rfl, rfl, rfl, rfl, ?_, fun id hid _ => upsB_not hid⟩
    intro id hid
    rcases hid with hid | hid
    · exact upsB_in hid
    · exact upsB_in (hrange id hid.1 hid.2)

def astep [Bk] (P : Program) (call : Fn → List AV → M AV) (o : Oper) (f : List AV) : M AV :=
  match calleeA P (aev f) o.op with
  | some (k, args) => call (.func k) args
  | none => match yieldA (aev f) o.op with
    | some (id, args) => call (.yield id) args
    | none => aopM P o.op f

def aseq [Bk] (P : Program) (call : Fn → List AV → M AV) (ops : Array Oper) : List Nat → List AV → M (List AV)
  | [], f => mpure f
  | i :: l, f => match ops[i]? with
    | none => mfail
    | some o => match guardA ops o f with
      | some true => mbind (astep P call o f) fun v => aseq P call ops l (fset f o.dst v)
      | some false => aseq P call ops l (fset f o.dst .undef)
      | none => mfail

def mlog (x : M AV) : M (AV × Eff) := fun h n =>
  match x h n with
  | none => none
  | some r => some ⟨(r.a, ⟨r.a, (r.wr ++ List.range' n (r.n - n)).map fun id => (id, r.h id), r.rd, n, r.n, false⟩), r.h, r.n, r.rd, r.wr⟩
theorem local_log [Bk] [Ev] {x : M AV} (hx : Local x) : Local (mlog x) := by
  intro h n t ht
  unfold mlog at ht
  cases h1 : x h n with
  | none => rw [h1] at ht; cases ht
  | some r =>
    rw [h1] at ht
    simp only [Option.some.injEq] at ht
    subst ht
    have L := hx h n r h1
    refine ⟨L.le, L.frame, L.sub, ?_⟩
    intro g a b
    obtain ⟨r2, e1, e2, e3, e4, e5, e6, e7⟩ := L.again g a b
    refine ⟨⟨(r2.a, ⟨r2.a, (r2.wr ++ List.range' n (r2.n - n)).map fun id => (id, r2.h id), r2.rd, n, r2.n, false⟩), r2.h, r2.n, r2.rd, r2.wr⟩, by unfold mlog; rw [e1], ?_, e3, e4, e5, e6, e7⟩
    simp only
    rw [e2, e3, e4, e5]
    congr 2
    refine List.map_congr_left fun id hid => ?_
    rw [e6 id]
    rw [List.mem_append, List.mem_range'_1] at hid
    rcases hid with hid | hid
    · exact .inl hid
    · exact .inr ⟨hid.1, by have := L.le; omega⟩

def adrawL [Bk] (P : Program) (call : Fn → List AV → M AV) (ops : Array Oper) : List Nat → List AV → M (List AV × List Eff)
  | [], f => mpure (f, [])
  | i :: l, f => match ops[i]? with
    | none => mfail
    | some o => match guardA ops o f with
      | some true => mbind (mlog (astep P call o f)) fun v => mbind (adrawL P call ops l (fset f o.dst v.1)) fun q => mpure (q.1, v.2 :: q.2)
      | some false => mbind (adrawL P call ops l (fset f o.dst .undef)) fun q => mpure (q.1, ⟨.undef, [], [], 0, 0, true⟩ :: q.2)
      | none => mfail
def adraw [Bk] (P : Program) (call : Fn → List AV → M AV) (ops : Array Oper) (f : List AV) : M (List AV) :=
  if P.follows .mixedOrders then mbind (adrawL P call ops (List.range ops.size) f) fun q => if drawB ops q.2 then mpure q.1 else mfail else mfail

def mcomp {α : Type} (x : M α) : M α := fun h n =>
  match x h n with
  | none => none
  | some r => some ⟨r.a, r.h, r.n, (r.rd.filter fun id => !(decide (n ≤ id) && decide (id < r.n))).eraseDups, (r.wr.filter fun id => !(decide (n ≤ id) && decide (id < r.n))).eraseDups⟩
theorem local_comp [Bk] [Ev] {α : Type} {x : M α} (hx : Local x) : Local (mcomp x) := by
  intro h n t ht
  unfold mcomp at ht
  cases h1 : x h n with
  | none => rw [h1] at ht; cases ht
  | some r =>
    rw [h1] at ht
    simp only [Option.some.injEq] at ht
    subst ht
    have L := hx h n r h1
    have hm : ∀ (l : List Nat) id, id ∈ (l.filter fun id => !(decide (n ≤ id) && decide (id < r.n))).eraseDups ↔ id ∈ l ∧ ¬ (n ≤ id ∧ id < r.n) := by
      intro l id
      rw [List.mem_eraseDups, List.mem_filter]
      constructor <;> rintro ⟨a, b⟩ <;> refine ⟨a, ?_⟩ <;> simp at b ⊢ <;> omega
    refine ⟨L.le, ?_, ?_, ?_⟩
    · intro id hid hr
      simp only [hm] at hid
      exact L.frame id (fun hw => hid ⟨hw, hr⟩) hr
    · intro id hid
      simp only [hm] at hid ⊢
      exact ⟨L.sub id hid.1, hid.2⟩
    · intro g a b
      simp only [hm] at a
      obtain ⟨r2, e1, e2, e3, e4, e5, e6, e7⟩ := L.again g (fun id hid => by
        by_cases hr : n ≤ id ∧ id < r.n
        · exact b id hr.1 hr.2
        · exact a id ⟨hid, hr⟩) b
      refine ⟨⟨r2.a, r2.h, r2.n, (r2.rd.filter fun id => !(decide (n ≤ id) && decide (id < r2.n))).eraseDups, (r2.wr.filter fun id => !(decide (n ≤ id) && decide (id < r2.n))).eraseDups⟩, by unfold mcomp; rw [e1], e2, e3, ?_, ?_, ?_, ?_⟩
      · simp only; rw [e4, e3]
      · simp only; rw [e5, e3]
      · intro id hid
        simp only [hm] at hid
        exact e6 id (hid.imp And.left _root_.id)
      · intro id hid hr
        simp only [hm] at hid
        exact e7 id (fun hw => hid ⟨hw, hr⟩) hr

inductive AX where
  | normal | exit (id : Nat) | ret
def AX.to : AX → Exit
  | .normal => .normal
  | .exit id => .exit id
  | .ret => .ret

/-- One block looked at, and turned. -/
def atL {α : Type} (id : Nat) (g : Blk → Option (α × Blk)) : M α := fun h n =>
  match g (h id) with
  | none => none
  | some (a, b) => some ⟨a, bset h id b, n, [id], [id]⟩
theorem local_at [Bk] [Ev] {α : Type} (id : Nat) (g : Blk → Option (α × Blk)) : Local (atL id g) := by
  intro h n r hr
  unfold atL at hr
  cases hg : g (h id) with
  | none => rw [hg] at hr; cases hr
  | some p =>
    obtain ⟨a, b⟩ := p
    rw [hg] at hr
    cases hr
    refine ⟨Nat.le_refl _, fun k hk _ => bset_other _ _ (by simpa using hk), fun k hk => hk, ?_⟩
    intro g2 h1 _
    have e : g2 id = h id := h1 id (by simp)
    refine ⟨⟨a, bset g2 id b, n, [id], [id]⟩, by unfold atL; rw [e, hg], rfl, rfl, rfl, rfl, ?_, fun k hk _ => bset_other _ _ (by simpa using hk)⟩
    intro k hk
    rcases hk with hk | hk
    · simp only [List.mem_singleton] at hk
      subst hk
      simp [bset_same]
    · simp only at hk; omega
def newL (f : List AV) (ps : Array Tmp) (as bd : Code) : M Nat := fun h n =>
  match h n with
  | .no => some ⟨n, bset h n (.lp .ready f ps as bd), n + 1, [n], [n]⟩
  | _ => none
theorem local_new [Bk] [Ev] (f : List AV) (ps : Array Tmp) (as bd : Code) : Local (newL f ps as bd) := by
  intro h n r hr
  unfold newL at hr
  split at hr
  · rename_i hn
    cases hr
    refine ⟨by simp, fun k hk _ => bset_other _ _ (by simpa using hk), fun k hk => hk, ?_⟩
    intro g2 h1 _
    have e : g2 n = .no := (h1 n (by simp)).trans hn
    refine ⟨⟨n, bset g2 n (.lp .ready f ps as bd), n + 1, [n], [n]⟩, by unfold newL; rw [e], rfl, rfl, rfl, rfl, ?_, fun k hk _ => bset_other _ _ (by simpa using hk)⟩
    intro k hk
    have : k = n := by
      rcases hk with hk | hk
      · simpa using hk
      · simp only at hk; omega
    subst this
    simp [bset_same]
  · cases hr
def getG : Blk → Option ((List AV × Array Tmp × Code × Code) × Blk)
  | .lp .ready f ps as bd => some ((f, ps, as, bd), .lp .ready f ps as bd)
  | _ => none
def busyG : Blk → Option (Unit × Blk)
  | .lp .ready f ps as bd => some ((), .lp .busy f ps as bd)
  | _ => none
def turnG (x : AX) : Blk → Option (AV × Blk)
  | .lp .busy f ps as bd => match x with
    | .normal => some (.c (.bool true), .lp .ready f ps as bd)
    | .ret => some (.c (.bool false), .lp (.done .ret) f ps as bd)
    | .exit i => some (.c (.bool false), .lp (.done (.exit i)) f ps as bd)
  | _ => none
def overG : Blk → Option (AX × Blk)
  | .lp .ready _ _ _ _ => some (.normal, .dead)
  | .lp (.done .ret) _ _ _ _ => some (.ret, .dead)
  | .lp (.done (.exit i)) _ _ _ _ => some (.exit i, .dead)
  | _ => none

def acode [Bk] (P : Program) (call : Fn → List AV → M AV) (tp : Bool) : Nat → Code → List AV → M (AX × List AV)
  | 0, _, _ => mfail
  | n + 1, .skip, f => mpure (.normal, f)
  | n + 1, .region _ ops draw, f => mbind (if draw then adraw P call ops f else aseq P call ops (List.range ops.size) f) fun f' => mpure (.normal, f')
  | n + 1, .seq x y, f => mbind (acode P call tp n x f) fun q => match q.1 with
    | .normal => acode P call tp n y q.2
    | _ => mpure q
  | n + 1, .cond c x y, f => match aev f c with
    | .c (.bool b) => acode P call tp n (if b then x else y) f
    | _ => mfail
  | n + 1, .block id c, f => mbind (acode P call tp n c f) fun q => match q.1 with
    | .exit id' => if id' = id then mpure (.normal, q.2) else mpure q
    | _ => mpure q
  | n + 1, .loop c, f => mbind (acode P call tp n c f) fun q => match q.1 with
    | .normal => acode P call tp n (.loop c) q.2
    | _ => mpure q
  | n + 1, .rangeFunc g ps as bd, f => if tp then match aev f g with
      | .fn (.func k) [] captured => mbind (newL f ps as bd) fun id => mbind (call (.func k) (.yld id :: captured)) fun _ => mbind (atL id overG) fun x => mpure (x, f)
      | _ => mfail
    else mfail
  | n + 1, .scope c, f => acode P call tp n c f
  | n + 1, .label _, f => mpure (.normal, f)
  | n + 1, .exit id, f => mpure (.exit id, f)
  | n + 1, .ret, f => mpure (.ret, f)
  | n + 1, _, _ => mfail
/-- A round. -/
def ayield [Bk] (P : Program) (L : Nat) (call : Fn → List AV → M AV) (id : Nat) (args : List AV) : M AV :=
  mbind (atL id getG) fun q => if args.length = q.2.1.size then
    mbind (acode P call false L q.2.2.1 (putsA q.1 q.2.1 args)) fun r => match r.1 with
      | .normal => mbind (atL id busyG) fun _ => mbind (acode P call false L q.2.2.2 r.2) fun s => atL id (turnG s.1)
      | _ => mfail
  else mfail

def ptrIds : AV → List Nat
  | .ptr _ id _ _ => [id]
  | _ => []
def resIds1 (f : List AV) : ResultVar → List Nat
  | .tmp _ => []
  | .cell t _ => ptrIds (f.getD t .undef)
def resIds (f : List AV) (l : List ResultVar) : List Nat := l.flatMap (resIds1 f)
def resM (P : Program) (fn : Func) (f : List AV) : M AV := fun h n =>
  match resultsA P fn f h with
  | none => none
  | some v => some ⟨v, h, n, resIds f fn.results.toList, []⟩
theorem resultsA_h [Bk] [Ev] {fn : Func} {f : List AV} {h h' : AH} (hag : ∀ id ∈ resIds f fn.results.toList, h' id = h id) : resultsA P fn f h' = resultsA P fn f h := by
  unfold resultsA
  congr 1
  have : ∀ r ∈ fn.results.toList, resA P f h' r = resA P f h r := by
    intro r hr
    cases r with
    | tmp t => rfl
    | cell t ty =>
      simp only [resA]
      cases hf : f.getD t .undef with
      | ptr sz id i off =>
        have : h' id = h id := by
          refine hag id ?_
          unfold resIds
          rw [List.mem_flatMap]
          refine ⟨_, hr, ?_⟩
          simp only [resIds1, hf, ptrIds]
          simp
        simp only [cellA, this]
      | _ => rfl
  revert this
  generalize fn.results.toList = l
  intro this
  induction l with
  | nil => rfl
  | cons r l ih =>
    rw [List.mapM_cons, List.mapM_cons, this r (by simp), ih (fun r hr => this r (by simp [hr]))]
theorem local_res [Bk] [Ev] (fn : Func) (f : List AV) : Local (resM P fn f) := by
  intro h n t ht
  unfold resM at ht
  cases h1 : resultsA P fn f h with
  | none => rw [h1] at ht; cases ht
  | some v =>
    rw [h1] at ht
    simp only [Option.some.injEq] at ht
    subst ht
    refine ⟨Nat.le_refl _, fun _ _ _ => rfl, fun _ h => by simp at h, fun g a b => ⟨⟨v, g, n, _, []⟩, by unfold resM; rw [resultsA_h a, h1], rfl, rfl, rfl, rfl, fun id hid => by rcases hid with hid | hid; simp at hid; simp only at hid; omega, fun _ _ _ => rfl⟩⟩

structure CallOk [Bk] [Ev] (P : Program) (call : Fn → List AV → M AV) : Prop where
  loc : ∀ k args, Local (call k args)
  ok : ∀ k args h n r, call (.func k) args h n = some r → ∃ fn c, P.funcs[k]? = some fn ∧ fn.body = some c ∧ (fn.name == "runtime.NumGoroutine") = false ∧ ACalls P k args h (fun v h' => v = r.a ∧ h' = r.h)
  yl : ∀ id args h n r, call (.yield id) args h n = some r → AYields P id args h (fun v h' => v = r.a ∧ h' = r.h)

variable {call : Fn → List AV → M AV}

theorem local_step [Bk] [Ev] (hc : CallOk P call) (o : Oper) (f : List AV) : Local (astep P call o f) := by
  unfold astep
  split
  · exact hc.loc _ _
  · split
    · exact hc.loc _ _
    · exact local_aop _ _
theorem local_seq [Bk] [Ev] (hc : CallOk P call) (ops : Array Oper) : ∀ (l : List Nat) (f : List AV), Local (aseq P call ops l f)
  | [], f => local_pure f
  | i :: l, f => by
    simp only [aseq]
    split
    · exact local_fail
    · split
      · exact local_bind (local_step hc _ _) fun v => local_seq hc ops l _
      · exact local_seq hc ops l _
      · exact local_fail
theorem local_drawL [Bk] [Ev] (hc : CallOk P call) (ops : Array Oper) : ∀ (l : List Nat) (f : List AV), Local (adrawL P call ops l f)
  | [], f => local_pure _
  | i :: l, f => by
    simp only [adrawL]
    split
    · exact local_fail
    · split
      · exact local_bind (local_log (local_step hc _ _)) fun v => local_bind (local_drawL hc ops l _) fun q => local_pure _
      · exact local_bind (local_drawL hc ops l _) fun q => local_pure _
      · exact local_fail
theorem local_draw [Bk] [Ev] (hc : CallOk P call) (ops : Array Oper) (f : List AV) : Local (adraw P call ops f) := by
  unfold adraw
  split
  · refine local_bind (local_drawL hc ops _ _) fun q => ?_
    split
    · exact local_pure _
    · exact local_fail
  · exact local_fail
theorem local_code [Bk] [Ev] (hc : CallOk P call) {tp : Bool} : ∀ (n : Nat) (c : Code) (f : List AV), Local (acode P call tp n c f)
  | 0, c, f => by simp only [acode]; exact local_fail
  | n + 1, c, f => by
    cases c with
    | skip => exact local_pure _
    | region id ops draw =>
      simp only [acode]
      refine local_bind ?_ fun _ => local_pure _
      split
      · exact local_draw hc _ _
      · exact local_seq hc _ _ _
    | seq x y =>
      simp only [acode]
      refine local_bind (local_code hc n x f) fun q => ?_
      split
      · exact local_code hc n y _
      · exact local_pure _
    | cond c x y =>
      simp only [acode]
      split
      · exact local_code hc n _ _
      · exact local_fail
    | block id c =>
      simp only [acode]
      refine local_bind (local_code hc n c f) fun q => ?_
      split
      · split <;> exact local_pure _
      · exact local_pure _
    | loop c =>
      simp only [acode]
      refine local_bind (local_code hc n c f) fun q => ?_
      split
      · exact local_code hc n _ _
      · exact local_pure _
    | rangeFunc g ps as bd =>
      simp only [acode]
      split
      · split
        · exact local_bind (local_new _ _ _ _) fun id => local_bind (hc.loc _ _) fun _ => local_bind (local_at _ _) fun x => local_pure _
        · exact local_fail
      · exact local_fail
    | scope c => simp only [acode]; exact local_code hc n c f
    | label l => exact local_pure _
    | exit id => exact local_pure _
    | ret => exact local_pure _
    | _ => simp only [acode]; exact local_fail

theorem local_yield [Bk] [Ev] (hc : CallOk P call) (L id : Nat) (args : List AV) : Local (ayield P L call id args) := by
  unfold ayield
  refine local_bind (local_at _ _) fun q => ?_
  split
  · refine local_bind (local_code hc _ _ _) fun r => ?_
    split
    · exact local_bind (local_at _ _) fun _ => local_bind (local_code hc _ _ _) fun s => local_at _ _
    · exact local_fail
  · exact local_fail

theorem bind_inv [Bk] [Ev] {α β : Type} {x : M α} {k : α → M β} {h : AH} {n : Nat} {t : Rs β} (ht : mbind x k h n = some t) : ∃ r s, x h n = some r ∧ k r.a r.h r.n = some s ∧ t.a = s.a ∧ t.h = s.h ∧ t.n = s.n := by
  unfold mbind at ht
  cases h1 : x h n with
  | none => rw [h1] at ht; cases ht
  | some r =>
    rw [h1] at ht
    simp only at ht
    cases h2 : k r.a r.h r.n with
    | none => rw [h2] at ht; cases ht
    | some s =>
      rw [h2] at ht
      cases ht
      exact ⟨r, s, rfl, h2, rfl, rfl, rfl⟩

theorem astep_ok [Bk] [Ev] (hc : CallOk P call) {o : Oper} {f : List AV} {h : AH} {n : Nat} {r : Rs AV} (hr : astep P call o f h n = some r) : StepOk P o f h (fun v h' => v = r.a ∧ h' = r.h) := by
  unfold astep at hr
  cases hk : calleeA P (aev f) o.op with
  | some p =>
    obtain ⟨k, args⟩ := p
    simp only [hk] at hr
    obtain ⟨fn, c, h1, h2, h3, h4⟩ := hc.ok k args h n r hr
    exact StepOk.call hk h1 h2 h3 h4
  | none =>
    simp only [hk] at hr
    cases hy : yieldA (aev f) o.op with
    | some p =>
      obtain ⟨id, args⟩ := p
      simp only [hy] at hr
      exact StepOk.yields hy (hc.yl id args h n r hr)
    | none =>
      simp only [hy] at hr
      unfold aopM at hr
      cases h1 : aop P o.op (aev f) h n with
      | none => rw [h1] at hr; cases hr
      | some q =>
        rw [h1] at hr
        simp only [Option.some.injEq] at hr
        subst hr
        exact (aop_ok h1).step

theorem aseq_ok [Bk] [Ev] (hc : CallOk P call) {ops : Array Oper} {Q : Exit → List AV → AH → Prop} : ∀ (l : List Nat) (f : List AV) (h : AH) (n : Nat) (r : Rs (List AV)), aseq P call ops l f h n = some r → Q .normal r.a r.h → ASeq P ops Q l f h
  | [], f, h, n, r, hr, hq => by cases hr; exact ASeq.nil hq
  | i :: l, f, h, n, r, hr, hq => by
    simp only [aseq] at hr
    cases ho : ops[i]? with
    | none => simp only [ho] at hr; cases hr
    | some o =>
      simp only [ho] at hr
      cases hg : guardA ops o f with
      | none => simp only [hg] at hr; cases hr
      | some b =>
        simp only [hg] at hr
        cases b with
        | true =>
          simp only at hr
          obtain ⟨r1, s, h1, h2, e1, e2, e3⟩ := bind_inv hr
          refine ASeq.cons ho hg (astep_ok hc h1) ?_
          rintro v h' ⟨rfl, rfl⟩
          exact aseq_ok hc l _ _ _ s h2 (by rw [← e1, ← e2]; exact hq)
        | false =>
          simp only at hr
          exact ASeq.pass ho hg (aseq_ok hc l _ _ _ r hr hq)

theorem aev_tmp [Bk] [Ev] {ops : Array Oper} {o : Oper} {f f' : List AV} (ht : ∀ t ∈ footT ops o, f'[t]? = f[t]?) : ∀ x ∈ o.op.operands.toList, aev f' x = aev f x := by
  intro x hx
  cases x with
  | tmp t =>
    have : t ∈ footT ops o := by
      unfold footT tmpsOf
      rw [List.mem_append, List.mem_filterMap]
      exact .inl ⟨_, hx, rfl⟩
    simp only [aev, List.getD, ht t this]
  | _ => rfl
theorem guardA_f [Bk] [Ev] {ops : Array Oper} {o : Oper} {f f' : List AV} (ht : ∀ t ∈ footT ops o, f'[t]? = f[t]?) : guardA ops o f' = guardA ops o f := by
  unfold guardA
  cases hg : o.guard with
  | none => rfl
  | some p =>
    obtain ⟨j, want⟩ := p
    simp only
    cases hd : (ops[j]?).bind (·.dst) with
    | none => rfl
    | some d =>
      have : d ∈ footT ops o := by
        unfold footT guardTmp
        rw [List.mem_append, hg]
        simp [hd]
      simp only [ht d this]
theorem calleeA_f [Bk] [Ev] {op : Op} {f f' : List AV} (ha : ∀ x ∈ op.operands.toList, aev f' x = aev f x) : calleeA P (aev f') op = calleeA P (aev f) op := by
  unfold calleeA
  split
  · rename_i g args tys
    have h1 : aev f' g = aev f g := ha g (by simp [Op.operands, Call.operands])
    have h2 : args.toList.map (aev f') = args.toList.map (aev f) := List.map_congr_left fun x hx => ha x (by simp [Op.operands, Call.operands]; right; simpa using hx)
    rw [h1, h2]
  · rename_i g name args tys
    have h1 : aev f' g = aev f g := ha g (by simp [Op.operands, Call.operands])
    have h2 : args.toList.map (aev f') = args.toList.map (aev f) := List.map_congr_left fun x hx => ha x (by simp [Op.operands, Call.operands]; right; simpa using hx)
    rw [h1, h2]
  · rfl
theorem yieldA_f [Bk] [Ev] {op : Op} {f f' : List AV} (ha : ∀ x ∈ op.operands.toList, aev f' x = aev f x) : yieldA (aev f') op = yieldA (aev f) op := by
  unfold yieldA
  split
  · rename_i g args tys
    have h1 : aev f' g = aev f g := ha g (by simp [Op.operands, Call.operands])
    have h2 : args.toList.map (aev f') = args.toList.map (aev f) := List.map_congr_left fun x hx => ha x (by simp [Op.operands, Call.operands]; right; simpa using hx)
    rw [h1, h2]
  · rfl
theorem astep_f [Bk] [Ev] {o : Oper} {f f' : List AV} (ha : ∀ x ∈ o.op.operands.toList, aev f' x = aev f x) : astep P call o f' = astep P call o f := by
  unfold astep
  rw [calleeA_f ha, yieldA_f ha]
  have : aopM P o.op f' = aopM P o.op f := by funext h n; unfold aopM; rw [aop_f (ρ := aev f) (ρ' := aev f') ha]
  rw [this]

theorem upsB_map [Bk] [Ev] (g : AH) : ∀ (l : List Nat) (h : AH) (id : Nat), upsB h (l.map fun id => (id, g id)) id = if id ∈ l then g id else h id
  | [], h, id => by simp [upsB]
  | i :: l, h, id => by
    simp only [List.map_cons, upsB]
    rw [upsB_map g l]
    by_cases h1 : id ∈ l
    · simp [h1]
    · by_cases h2 : id = i
      · subst h2; simp [h1, bset]
      · simp [h1, h2, bset]

theorem does_step [Bk] [Ev] (hc : CallOk P call) {ops : Array Oper} {o : Oper} {f : List AV} {h : AH} {n : Nat} {r : Rs AV} (hg : guardA ops o f = some true) (hr : astep P call o f h n = some r) :
    Does P ops o ⟨r.a, (r.wr ++ List.range' n (r.n - n)).map fun id => (id, r.h id), r.rd, n, r.n, false⟩ f h := by
  intro f' h' hl ht hrd hrg
  simp only [Bool.false_eq_true, if_false]
  refine ⟨by rw [guardA_f ht]; exact hg, ?_⟩
  have L := local_step hc o f h n r hr
  obtain ⟨r2, e1, e2, e3, e4, e5, e6, e7⟩ := L.again h' hrd hrg
  rw [← astep_f (f' := f') (aev_tmp ht)] at e1
  refine (astep_ok hc e1).mono ?_
  rintro v h'' ⟨rfl, rfl⟩
  refine ⟨e2, ?_⟩
  funext id
  rw [upsB_map r.h]
  have hm : id ∈ r.wr ++ List.range' n (r.n - n) ↔ (id ∈ r.wr ∨ (n ≤ id ∧ id < r.n)) := by
    rw [List.mem_append, List.mem_range'_1]
    have := L.le
    constructor
    · rintro (h | h)
      · exact .inl h
      · exact .inr ⟨h.1, by omega⟩
    · rintro (h | h)
      · exact .inl h
      · exact .inr ⟨h.1, by omega⟩
  by_cases hid : id ∈ r.wr ∨ (n ≤ id ∧ id < r.n)
  · rw [if_pos (hm.2 hid)]; exact e6 id hid
  · rw [if_neg (fun h => hid (hm.1 h))]
    simp only [not_or] at hid
    exact e7 id hid.1 hid.2

theorem adrawL_ok [Bk] [Ev] (hc : CallOk P call) {ops : Array Oper} : ∀ (l : List Nat) (f : List AV) (h : AH) (n : Nat) (r : Rs (List AV × List Eff)), adrawL P call ops l f h n = some r →
    r.a.2.length = l.length ∧ Run P ops ((l.zip r.a.2).map fun p => (ops.getD p.1 default, p.2)) (f, h) ∧ fin ((l.zip r.a.2).map fun p => (ops.getD p.1 default, p.2)) (f, h) = (r.a.1, r.h)
  | [], f, h, n, r, hr => by cases hr; exact ⟨rfl, trivial, rfl⟩
  | i :: l, f, h, n, r, hr => by
    simp only [adrawL] at hr
    cases ho : ops[i]? with
    | none => simp only [ho] at hr; cases hr
    | some o =>
      simp only [ho] at hr
      have hoi : ops.getD i default = o := by simp [ho]
      cases hg : guardA ops o f with
      | none => simp only [hg] at hr; cases hr
      | some b =>
        simp only [hg] at hr
        cases b with
        | true =>
          simp only at hr
          obtain ⟨r1, s, h1, h2, e1, e2, e3⟩ := bind_inv hr
          obtain ⟨r2, s2, h3, h4, d1, d2, d3⟩ := bind_inv h2
          cases h4
          unfold mlog at h1
          cases h5 : astep P call o f h n with
          | none => rw [h5] at h1; cases h1
          | some q =>
            rw [h5] at h1
            simp only [Option.some.injEq] at h1
            subst h1
            obtain ⟨k1, k2, k3⟩ := adrawL_ok hc l _ _ _ r2 h3
            have hd := does_step hc hg h5
            have L := local_step hc o f h n q h5
            have happ : app (o, ⟨q.a, (q.wr ++ List.range' n (q.n - n)).map fun id => (id, q.h id), q.rd, n, q.n, false⟩) (f, h) = (fset f o.dst q.a, q.h) := by
              simp only [app, Prod.mk.injEq, true_and]
              funext id
              rw [upsB_map q.h]
              split
              · rfl
              · rename_i hid
                rw [List.mem_append, List.mem_range'_1, not_or] at hid
                have := L.le
                exact (L.frame id hid.1 (by omega)).symm
            rw [e1, d1, e2, d2]
            refine ⟨by simp [k1], ?_, ?_⟩
            · simp only [List.zip_cons_cons, List.map_cons, Run, hoi]
              exact ⟨hd, by rw [happ]; exact k2⟩
            · simp only [List.zip_cons_cons, List.map_cons, hoi]
              show fin _ (app _ _) = _
              rw [happ]; exact k3
        | false =>
          simp only at hr
          obtain ⟨r1, s, h1, h2, e1, e2, e3⟩ := bind_inv hr
          cases h2
          obtain ⟨k1, k2, k3⟩ := adrawL_ok hc l _ _ _ r1 h1
          rw [e1, e2]
          refine ⟨by simp [k1], ?_, ?_⟩
          · simp only [List.zip_cons_cons, List.map_cons, Run, hoi]
            refine ⟨?_, k2⟩
            intro f' h' hl ht hrd hrg
            simp only [if_true]
            exact ⟨by rw [guardA_f ht]; exact hg, trivial, trivial⟩
          · simp only [List.zip_cons_cons, List.map_cons, hoi]
            exact k3

theorem adraw_ok [Bk] [Ev] (hc : CallOk P call) {tp : Bool} {id : Nat} {ops : Array Oper} {Q : Exit → List AV → AH → Prop} {f : List AV} {h : AH} {n : Nat} {r : Rs (List AV)} (hr : adraw P call ops f h n = some r) (hq : Q .normal r.a r.h) : AWP P tp (.region id ops true) Q f h := by
  unfold adraw at hr
  by_cases hm : P.follows .mixedOrders = true
  · rw [if_pos hm] at hr
    obtain ⟨r1, s, h1, h2, e1, e2, e3⟩ := bind_inv hr
    by_cases hb : drawB ops r1.a.2 = true
    · rw [if_pos hb] at h2
      cases h2
      obtain ⟨k1, k2, k3⟩ := adrawL_ok hc _ _ _ _ r1 h1
      rw [List.length_range] at k1
      have hz : ((List.range ops.size).zip r1.a.2).map (fun p => (ops.getD p.1 default, p.2)) = (List.range ops.size).map (itemOf ops r1.a.2) := by
        apply List.ext_getElem?
        intro j
        rw [List.getElem?_map, List.getElem?_map]
        by_cases hj : j < ops.size
        · have h1 : (List.range ops.size)[j]? = some j := by simp [hj]
          have h2 : r1.a.2[j]? = some r1.a.2[j] := by simp [List.getElem?_eq_getElem (show j < r1.a.2.length by omega)]
          rw [(List.getElem?_zip_eq_some (z := (j, r1.a.2[j]))).2 ⟨h1, h2⟩, h1]
          simp [itemOf, List.getD, h2]
        · have h1 : (List.range ops.size)[j]? = none := by simp; omega
          have h2 : ((List.range ops.size).zip r1.a.2)[j]? = none := by
            rw [List.getElem?_eq_none]; simp; omega
          rw [h1, h2]; rfl
      rw [hz] at k2 k3
      rw [e1, e2] at hq
      exact AWP.draw hm r1.a.2 k1 hb k2 k3 hq
    · rw [if_neg hb] at h2; cases h2
  · rw [if_neg hm] at hr; cases hr

theorem acode_ok [Bk] [Ev] (hc : CallOk P call) {tp : Bool} : ∀ (k : Nat) (c : Code) (Q : Exit → List AV → AH → Prop) (f : List AV) (h : AH) (n : Nat) (r : Rs (AX × List AV)), acode P call tp k c f h n = some r → Q r.a.1.to r.a.2 r.h → AWP P tp c Q f h
  | 0, c, Q, f, h, n, r, hr, hq => by simp only [acode] at hr; cases hr
  | k + 1, c, Q, f, h, n, r, hr, hq => by
    cases c with
    | skip => cases hr; exact AWP.skip hq
    | region id ops draw =>
      simp only [acode] at hr
      obtain ⟨r1, s, h1, h2, e1, e2, e3⟩ := bind_inv hr
      cases h2
      rw [e1, e2] at hq
      cases draw with
      | true =>
        simp only [if_true] at h1
        exact adraw_ok hc h1 hq
      | false =>
        simp only [Bool.false_eq_true, if_false] at h1
        exact AWP.region (aseq_ok hc _ _ _ _ _ h1 hq)
    | seq x y =>
      simp only [acode] at hr
      obtain ⟨r1, s, h1, h2, e1, e2, e3⟩ := bind_inv hr
      refine AWP.seq (acode_ok hc k x _ f h n r1 h1 ?_)
      cases hx : r1.a.1 with
      | normal =>
        simp only [hx] at h2
        exact acode_ok hc k y Q _ _ _ s h2 (by rw [← e1, ← e2]; exact hq)
      | _ =>
        simp only [hx] at h2
        cases h2
        rw [e1, e2, hx] at hq; exact hq
    | cond c x y =>
      simp only [acode] at hr
      cases hv : aev f c with
      | c v =>
        cases v with
        | bool b => simp only [hv] at hr; exact AWP.cond hv (acode_ok hc k _ Q f h n r hr hq)
        | _ => simp only [hv] at hr; cases hr
      | _ => simp only [hv] at hr; cases hr
    | block id c =>
      simp only [acode] at hr
      obtain ⟨r1, s, h1, h2, e1, e2, e3⟩ := bind_inv hr
      refine AWP.block (acode_ok hc k c _ f h n r1 h1 ?_)
      cases hx : r1.a.1 with
      | exit id' =>
        simp only [hx] at h2
        simp only [AX.to, inBlockA]
        by_cases hid : id' = id
        · rw [if_pos hid] at h2 ⊢
          cases h2
          rw [e1, e2] at hq; exact hq
        · rw [if_neg hid] at h2 ⊢
          cases h2
          rw [e1, e2, hx] at hq; exact hq
      | _ =>
        simp only [hx] at h2
        cases h2
        rw [e1, e2, hx] at hq; exact hq
    | scope c =>
      simp only [acode] at hr
      have hg : ∀ l, r.a.1.to ≠ .goto l := by intro l; cases r.a.1 <;> simp [AX.to]
      exact AWP.scope (acode_ok hc k c _ f h n r hr ⟨hg, hq⟩)
    | label l => cases hr; exact AWP.label hq
    | loop c =>
      -- by the number of rounds that are left
      have key : ∀ (k : Nat) (f : List AV) (h : AH) (n : Nat) (r : Rs (AX × List AV)), acode P call tp k (.loop c) f h n = some r → Q r.a.1.to r.a.2 r.h → (∀ k' c' Q f h n r, k' < k → acode P call tp k' c' f h n = some r → Q r.a.1.to r.a.2 r.h → AWP P tp c' Q f h) → AWP P tp (.loop c) Q f h := by
        intro k f h n r hr hq ih
        refine AWP.loop (fun m f h => ∃ n r, acode P call tp m (.loop c) f h n = some r ∧ Q r.a.1.to r.a.2 r.h ∧ m ≤ k) k ⟨n, r, hr, hq, Nat.le_refl _⟩ ?_
        rintro m f1 h1 ⟨n1, r1, hr1, hq1, hm⟩
        cases m with
        | zero => simp only [acode] at hr1; cases hr1
        | succ m =>
          simp only [acode] at hr1
          obtain ⟨r2, s, g1, g2, e1, e2, e3⟩ := bind_inv hr1
          refine ih m c _ f1 h1 n1 r2 (by omega) g1 ?_
          cases hx : r2.a.1 with
          | normal =>
            simp only [hx] at g2
            exact ⟨m, by omega, _, s, g2, by rw [← e1, ← e2]; exact hq1, by omega⟩
          | _ =>
            simp only [hx] at g2
            cases g2
            rw [e1, e2, hx] at hq1; exact hq1
      exact key (k + 1) f h n r hr hq fun k' c' Q f h n r hk => acode_ok hc k' c' Q f h n r
    | rangeFunc g ps as bd =>
      simp only [acode] at hr
      cases tp with
      | false => simp only [Bool.false_eq_true, if_false] at hr; cases hr
      | true =>
        simp only [if_true] at hr
        cases hv : aev f g with
        | fn F first captured =>
          cases F with
          | func kk =>
            cases first with
            | nil =>
              simp only [hv] at hr
              obtain ⟨r1, s1, g1, g2, e1, e2, e3⟩ := bind_inv hr
              obtain ⟨r2, s2, g3, g4, d1, d2, d3⟩ := bind_inv g2
              obtain ⟨r3, s3, g5, g6, c1, c2, c3⟩ := bind_inv g4
              cases g6
              unfold newL at g1
              split at g1
              · rename_i hn
                cases g1
                obtain ⟨fn, c, h1, h2, h3, h4⟩ := hc.ok _ _ _ _ r2 g3
                refine AWP.rangeFunc hv h1 h2 h3 hn (h4.mono ?_)
                rintro v h' ⟨rfl, rfl⟩
                unfold atL at g5
                rw [e1, d1, c1, e2, d2, c2] at hq
                unfold overA
                cases hb : r2.h n with
                | lp st f0 ps0 as0 bd0 =>
                  rw [hb] at g5
                  cases st with
                  | ready => simp only [overG] at g5; cases g5; exact hq
                  | busy => simp only [overG] at g5; cases g5
                  | done c0 =>
                    cases c0 with
                    | ret => simp only [overG] at g5; cases g5; exact hq
                    | exit i => simp only [overG] at g5; cases g5; exact hq
                    | _ => simp only [overG] at g5; cases g5
                | _ => rw [hb] at g5; simp only [overG] at g5; cases g5
              · cases g1
            | cons _ _ => simp only [hv] at hr; cases hr
          | _ => simp only [hv] at hr; cases hr
        | _ => simp only [hv] at hr; cases hr
    | exit id => cases hr; exact AWP.exit hq
    | ret => cases hr; exact AWP.ret hq
    | _ => simp only [acode] at hr; cases hr
  termination_by k => k
  decreasing_by all_goals omega

theorem at_inv {α : Type} {id : Nat} {g : Blk → Option (α × Blk)} {h : AH} {n : Nat} {r : Rs α} (hr : atL id g h n = some r) : ∃ b, g (h id) = some (r.a, b) ∧ r.h = bset h id b := by
  unfold atL at hr
  cases hg : g (h id) with
  | none => rw [hg] at hr; cases hr
  | some p =>
    obtain ⟨a, b⟩ := p
    rw [hg] at hr
    cases hr
    exact ⟨b, rfl, rfl⟩
theorem ayield_ok [Bk] [Ev] (hc : CallOk P call) {L id : Nat} {args : List AV} {h : AH} {n : Nat} {r : Rs AV} (hr : ayield P L call id args h n = some r) : AYields P id args h (fun v h' => v = r.a ∧ h' = r.h) := by
  unfold ayield at hr
  obtain ⟨r1, s1, g1, g2, e1, e2, -⟩ := bind_inv hr
  obtain ⟨b1, q1, q2⟩ := at_inv g1
  cases hb : h id with
  | lp st f ps as bd =>
    rw [hb] at q1
    cases st with
    | ready =>
      simp only [getG, Option.some.injEq, Prod.mk.injEq] at q1
      obtain ⟨q1, rfl⟩ := q1
      have hsame : bset h id (.lp .ready f ps as bd) = h := by
        funext k
        by_cases e : k = id
        · subst e; rw [bset_same, hb]
        · rw [bset_other _ _ e]
      rw [hsame] at q2
      rw [← q1] at g2
      simp only at g2
      by_cases hl : args.length = ps.size
      · rw [if_pos hl] at g2
        obtain ⟨r2, s2, g3, g4, d1, d2, -⟩ := bind_inv g2
        rw [q2] at g3
        refine AYields.of_body hb hl (acode_ok hc L as _ _ h _ r2 g3 ?_)
        cases hx : r2.a.1 with
        | normal =>
          simp only [hx] at g4
          obtain ⟨r3, s3, g5, g6, c1, c2, -⟩ := bind_inv g4
          obtain ⟨b3, k1, k2⟩ := at_inv g5
          obtain ⟨r4, s4, g7, g8, i1, i2, -⟩ := bind_inv g6
          obtain ⟨b4, k3, k4⟩ := at_inv g8
          cases hb2 : r2.h id with
          | lp st' f' ps' as' bd' =>
            rw [hb2] at k1
            cases st' with
            | ready =>
              simp only [busyG, Option.some.injEq, Prod.mk.injEq] at k1
              obtain ⟨-, rfl⟩ := k1
              rw [k2] at g7
              refine ⟨rfl, f', ps', as', bd', rfl, acode_ok hc L bd _ _ _ _ r4 g7 ?_⟩
              cases hb3 : r4.h id with
              | lp st3 f3 ps3 as3 bd3 =>
                rw [hb3] at k3
                cases st3 with
                | busy =>
                  have fin : s4.a = r.a ∧ s4.h = r.h := ⟨by rw [e1, d1, c1, i1], by rw [e2, d2, c2, i2]⟩
                  cases hx4 : r4.a.1 <;> (rw [hx4] at k3; simp only [turnG, Option.some.injEq, Prod.mk.injEq] at k3; obtain ⟨k3, rfl⟩ := k3; exact ⟨f3, ps3, as3, bd3, hb3, k3.trans fin.1, k4.symm.trans fin.2⟩)
                | _ => simp [turnG] at k3
              | _ => rw [hb3] at k3; simp [turnG] at k3
            | _ => simp [busyG] at k1
          | _ => rw [hb2] at k1; simp [busyG] at k1
        | _ => simp only [hx] at g4; cases g4
      · rw [if_neg hl] at g2; cases g2
    | _ => simp [getG] at q1
  | _ => rw [hb] at q1; simp [getG] at q1
end
end Go.Proofs.YtjbgfhafinfjbaaGreat.Mc
