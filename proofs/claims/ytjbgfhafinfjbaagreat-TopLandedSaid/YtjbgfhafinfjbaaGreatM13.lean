/-
  A machine of plain data beside the model: slices.Clone, whatever the slice; calls with it. No program in sight.
-/
import Derived.Test.YtjbgfhafinfjbaaGreatM12
import Derived.Laws.Cover3
set_option linter.unusedVariables false
set_option linter.unusedSimpArgs false
namespace Go.Proofs.YtjbgfhafinfjbaaGreat.Mc
open Go.RowKit

section
variable {P : Program}

/-- A number is passed over. -/
theorem HRel.waste [Bk] [Ev] {h : AH} {m : Nat → St} {A : Nat → Prop} {w : World} (H : HRel m A h w) {id : Nat} (hid : h id = .no) :
    HRel (sset m id .dead) A (bset h id .dead) w ∧ Ext m w (sset m id .dead) w := by
  have hmid := H.no id hid
  have ne : ∀ {k : Nat} {s : St}, m k = s → s ≠ .no → k ≠ id := by rintro k s h1 h2 rfl; rw [hmid] at h1; exact h2 h1.symm
  have E : Ext m w (sset m id .dead) w := by
    refine ⟨rfl, rfl, rfl, Nat.le_refl _, ?_, ?_, ?_, ?_, fun _ _ _ _ => rfl⟩
    · intro k b hb; exact .inl (by rw [sset, if_neg (ne hb (by simp))]; exact hb)
    · intro k hk
      unfold sset; split
      · rfl
      · exact hk
    · intro k hk; exact .inl (by rw [sset, if_neg (ne hk (by simp))]; exact hk)
    · intro b hb hu
      refine ⟨?_, rfl⟩
      intro k
      unfold sset; split
      · intro e; cases e
      · exact hu k
  refine ⟨⟨?_, H.old, ?_, ?_, ?_, ?_, H.glob.ext H.out E, H.others_to E fun id' B hk hB => ?_⟩, E⟩
  · intro k b hb
    unfold sset at hb; split at hb
    · cases hb
    · exact H.out k b hb
  · intro k hk
    unfold bset at hk; unfold sset; split at hk
    · cases hk
    · rename_i hne; rw [if_neg hne]; exact H.no k hk
  · intro k hk
    unfold bset at hk; unfold sset; split at hk
    · rename_i he; rw [if_pos he]
    · rename_i hne; rw [if_neg hne]; exact H.dead k hk
  · intro k T' sz' els' hk
    unfold bset at hk; split at hk
    · cases hk
    · rename_i hne
      obtain ⟨g1, g2⟩ | ⟨b, cs, g1, g2, g3, g4, g5⟩ := H.cells k T' sz' els' hk
      · exact .inl ⟨by simp [sset, hne, g1], g2⟩
      · exact .inr ⟨b, cs, by simp [sset, hne, g1], g2, g3, g4, fun i j x hx => ⟨(g5 i j x hx).1, (g5 i j x hx).2.ext E⟩⟩
  · intro i j b hi hj
    unfold sset at hi hj
    split at hi
    · cases hi
    · split at hj
      · cases hj
      · exact H.inj i j b hi hj
  · unfold bset at hk; split at hk
    · subst hk; exact absurd hB (by simp [Blk.other])
    · rename_i hne
      exact ⟨hk, fun b hb => ⟨by simp [sset, hne, hb], rfl⟩⟩

/-- Is a slice nil? Whatever is said, if it is then it is empty. -/
theorem step_slice_nil [Bk] [Ev] {o : Oper} {f : List AV} {h : AH} {t e ty : TypeId} {x : Operand} {els : List (List AV)} (ho : o.op = .binOp .eql t x (.const (.slice none 0 0)) ty) (ht : P.underlying t = some (.slice e)) (he : elsA h (aev f x) = some els) :
    StepOk P o f h (fun v h' => h' = h ∧ (v = .c (.bool true) ∧ els = [] ∨ v = .c (.bool false))) := by
  intro r' m A w a H F K Q hK
  have h1 := F.eval x
  have hv : ∃ ad cap, a.eval x = .slice ad els.length cap ∧ (ad = none → els = []) := by
    generalize aev f x = y at h1 he
    generalize a.eval x = v at h1
    cases y with
    | emp =>
      simp only [elsA, Option.some.injEq] at he; subst he
      cases h1 with | pure _ _ hr => cases hr with | emp a => exact ⟨a, 0, rfl, fun _ => rfl⟩
    | lit s els' =>
      simp only [elsA, Option.some.injEq] at he; subst he
      obtain ⟨rfl, a, cap, rfl⟩ | ⟨b, off, cap, vs, rfl, -⟩ := h1.lit_inv
      · exact ⟨a, cap, rfl, fun _ => rfl⟩
      · exact ⟨_, cap, rfl, fun h => by cases h⟩
    | own T s id i n =>
      simp only [elsA] at he
      split at he
      · rename_i T' sz' els0 hh
        split at he
        · rename_i hc
          obtain ⟨rfl, rfl, hle⟩ := hc
          cases he
          have hlen : ((els0.drop i).take n).length = n := by simp; omega
          rw [hlen]
          rcases H.cells id _ _ _ hh with ⟨hv, rfl⟩ | ⟨b, cs, g1, g2, g3, g4, g5⟩
          · cases h1 with
            | pure _ _ h => cases h
            | own _ _ _ _ _ b _ hm => rw [hv] at hm; cases hm
            | ownv _ _ _ _ a hm => exact ⟨a, 0, rfl, fun _ => by simp⟩
            | ownd _ _ _ _ _ _ _ _ hm => rw [hv] at hm; cases hm
          · obtain ⟨cap, rfl, -⟩ := h1.at_own g1
            exact ⟨_, cap, rfl, fun h => by cases h⟩
        · cases he
      · cases he
    | _ => simp [elsA] at he
  obtain ⟨ad, cap, hv, hnil⟩ := hv
  have hexec : (execOp a.eval o).run P w = .ok (.value (.bool ad.isNone)) w := by
    have : (Op.equal t (.slice ad els.length cap) (.slice none 0 0)).run P w = .ok ad.isNone w := run_equal_slice_nil w t e ad els.length cap ht
    have hc : a.eval (.const (.slice none 0 0)) = .slice none 0 0 := rfl
    simp [execOp, ho, hv, hc, eqGuard, binOp, this]
  refine wpIn_exec hexec ?_
  cases ad with
  | none => exact hK (.c (.bool true)) h (.bool true) w m ⟨rfl, .inl ⟨rfl, hnil rfl⟩⟩ H (.pure _ _ (.c _)) (Ext.refl _ _)
  | some ad => exact hK (.c (.bool false)) h (.bool false) w m ⟨rfl, .inr rfl⟩ H (.pure _ _ (.c _)) (Ext.refl _ _)

theorem op_buildSlice0 [Bk] [Ev] {o : Oper} {f : List AV} {h : AH} {t e : TypeId} {i : TypeInfo} {nx : Nat} (ho : o.op = .buildSlice t 0 #[]) (ht : P.underlying t = some (.slice e)) (hi : P.info? e = some i) (hnx : h nx = .no) :
    OpOk P o f h ⟨.own e i.size nx 0 0, [(nx, .cells e i.size [])], [nx]⟩ := by
  intro m A w a H F
  obtain ⟨q1, q2, q3⟩ := own_new H (T := e) (sz := i.size) (n := 0) (cap := 0) (els := []) (cs := #[]) hnx rfl (Nat.le_refl _) (Nat.zero_le _) (by simp) (by simp) (by intro i j x hx; simp [at2] at hx)
  refine ⟨_, _, _, .inl ?_, by simpa [upsB] using q1, q3, q2⟩
  simp [execOp, ho, Instr.buildSlice, run_underlying ht, sizeOf, typeInfo, hi, Instr.fill, newRow]
  rw [show (Array.map (fun _ : Nat => (default : Value)) (Array.range 0)) = #[] from by apply Array.ext'; simp]

structure CloneF (fn : Func) (t : TypeId) : Prop where
  body : ∃ (i0 i1 i2 i3 : Nat) (o0 o1 o2 o3 o4 o5 o6 o7 : Oper), fn.body = some (.seq (.region i0 #[o0] false) (.seq (.seq (.region i1 #[o1, o2] false) (.cond (.tmp 4) (.seq (.region i2 #[o3] false) .ret) .skip)) (.seq (.region i3 #[o4, o5, o6, o7] false) .ret))) ∧
    o0.dst = some 2 ∧ o0.op = .assign (.const (.slice none 0 0)) ∧ o1.dst = some 3 ∧ o1.op = .move (.tmp 0) ∧ o2.dst = some 4 ∧ (∃ ty, o2.op = .binOp .eql t (.tmp 3) (.const (.slice none 0 0)) ty) ∧
    o3.dst = some 2 ∧ o3.op = .assign (.const (.slice none 0 0)) ∧ o4.dst = some 5 ∧ o4.op = .buildSlice t 0 #[] ∧ o5.dst = some 6 ∧ o5.op = .move (.tmp 0) ∧ o6.dst = some 7 ∧ o6.op = .call { callee := .builtin .append, args := #[.tmp 5, .tmp 6], argTypes := #[t, t] } ∧ o7.dst = some 2 ∧ o7.op = .assign (.tmp 7) ∧
    o0.guard = none ∧ o1.guard = none ∧ o2.guard = none ∧ o3.guard = none ∧ o4.guard = none ∧ o5.guard = none ∧ o6.guard = none ∧ o7.guard = none
  tmps : fn.ntmps = 8
  res : fn.results = #[.tmp 2]
  name : (fn.name == "runtime.NumGoroutine") = false

theorem guard_none [Bk] [Ev] {ops : Array Oper} {o : Oper} {f : List AV} (h : o.guard = none) : guardA ops o f = some true := by unfold guardA; rw [h]

theorem clone_ok [Bk] [Ev] {k : FuncId} {fn : Func} {t e : TypeId} {i : TypeInfo} {z : Value} {x : AV} {h : AH} {els : List (List AV)} {nx : Nat} (hk : P.funcs[k]? = some fn) (hf : CloneF fn t) (ht : P.underlying t = some (.slice e)) (hi : P.info? e = some i) (hz : i.zero = some z) (hzs : z.cells.size = i.size) (hs0 : 0 < i.size)
    (hx : elsA h x = some els) (hes : ∀ q ∈ els, q.length = i.size) (hyo : ∀ T s id j n, x = .own T s id j n → s = i.size) (hb : els.length * i.bytes ≤ 140737488355328) (hm : els.length ≤ 1099511627776) (hnx : h nx = .no) (hnx1 : h (nx + 1) = .no) (hid : nx ∉ idOf x) :
    ACalls P k [x] h (fun v h' => v = .own e i.size (nx + 1) 0 els.length ∧ h' = upsB h [(nx, .dead), (nx + 1, .cells e i.size els)]) := by
  obtain ⟨i0, i1, i2, i3, o0, o1, o2, o3, o4, o5, o6, o7, hbody, d0, p0, d1, p1, d2, ⟨ty, p2⟩, d3, p3, d4, p4, d5, p5, d6, p6, d7, p7, g0, g1, g2, g3, g4, g5, g6, g7⟩ := hf.body
  have hres : ∀ (f : List AV) (h : AH), resultsA P fn f h = some (f.getD 2 .undef) := by
    intro f h
    simp [resultsA, hf.res, resA, tupOf]
  have key : ACalls P k [x] h (fun v h' => (v = .emp ∧ h' = h ∧ els = []) ∨ (v = .own e i.size (nx + 1) 0 els.length ∧ h' = upsB h [(nx, .dead), (nx + 1, .cells e i.size els)])) := by
    refine ACalls.of_body hk hbody ?_
    rw [hf.tmps]
    show AWP P _ _ _ [x, .undef, .undef, .undef, .undef, .undef, .undef, .undef] _
    refine AWP.seq (AWP.region ?_)
    refine ASeq.cons (o := o0) rfl (guard_none g0) (op_assign p0).step ?_
    rintro v h' ⟨rfl, rfl⟩
    refine ASeq.nil ?_
    rw [d0]
    show AWP P _ _ _ [x, .undef, .emp, .undef, .undef, .undef, .undef, .undef] _
    refine AWP.seq (AWP.seq (AWP.region ?_))
    refine ASeq.cons (o := o1) rfl (guard_none g1) (op_move p1).step ?_
    rintro v h' ⟨hv1, rfl⟩
    rw [d1, show v = x from hv1]
    show ASeq P _ _ [1] [x, .undef, .emp, x, .undef, .undef, .undef, .undef] _
    refine ASeq.cons (o := o2) rfl (guard_none g2) (step_slice_nil p2 ht hx) ?_
    rintro v h' ⟨rfl, ⟨rfl, hnil⟩ | rfl⟩
    · rw [d2]
      refine ASeq.nil ?_
      show AWP P _ _ _ [x, .undef, .emp, x, .c (.bool true), .undef, .undef, .undef] _
      refine AWP.cond (b := true) rfl ?_
      refine AWP.seq (AWP.region ?_)
      refine ASeq.cons (o := o3) rfl (guard_none g3) (op_assign p3).step ?_
      rintro v h'' ⟨rfl, rfl⟩
      rw [d3]
      refine ASeq.nil ?_
      show AWP P _ _ _ [x, .undef, .emp, x, .c (.bool true), .undef, .undef, .undef] _
      refine AWP.ret ?_
      exact ⟨.emp, by rw [hres]; rfl, .inl ⟨rfl, rfl, hnil⟩⟩
    · rw [d2]
      refine ASeq.nil ?_
      show AWP P _ _ _ [x, .undef, .emp, x, .c (.bool false), .undef, .undef, .undef] _
      refine AWP.cond (b := false) rfl ?_
      refine AWP.skip ?_
      show AWP P _ _ _ _ _
      refine AWP.seq (AWP.region ?_)
      refine ASeq.cons (o := o4) rfl (guard_none g4) (op_buildSlice0 p4 ht hi hnx).step ?_
      rintro v h'' ⟨rfl, rfl⟩
      rw [d4]
      show ASeq P _ _ [1, 2, 3] [x, .undef, .emp, x, .c (.bool false), .own e i.size nx 0 0, .undef, .undef] _
      refine ASeq.cons (o := o5) rfl (guard_none g5) (op_move p5).step ?_
      rintro v h'' ⟨hv5, rfl⟩
      rw [d5, show v = x from hv5]
      show ASeq P _ _ [2, 3] [x, .undef, .emp, x, .c (.bool false), .own e i.size nx 0 0, x, .undef] _
      have hx' : elsA (upsB h' [(nx, .cells e i.size [])]) x = some els := by
        rw [elsA_h (x := x) (h := h')]
        · exact hx
        · intro id hid'
          simp only [upsB]
          exact bset_other _ _ (by rintro rfl; exact hid hid')
      have hap := op_append (P := P) (o := o6) (f := [x, .undef, .emp, x, .c (.bool false), .own e i.size nx 0 0, x, .undef]) (h := upsB h' [(nx, .cells e i.size [])]) (els := []) (ys := els) (k := [(nx, .dead)]) (rd := [nx]) (nx := nx + 1) p6 ht hi hz hzs hs0
        (by simp [aev, baseA, upsB, bset]) hx' hes hyo (by simpa using hb) (by simpa using hm) (by simp only [upsB, List.append_nil]; rw [bset_other _ _ (by omega)]; exact hnx1)
      refine ASeq.cons (o := o6) rfl (guard_none g6) hap.step ?_
      rintro v h'' ⟨rfl, rfl⟩
      rw [d6]
      refine ASeq.cons (o := o7) rfl (guard_none g7) (op_assign p7).step ?_
      rintro v h'' ⟨rfl, rfl⟩
      rw [d7]
      refine ASeq.nil ?_
      refine AWP.ret ?_
      refine ⟨_, hres _ _, .inr ⟨?_, ?_⟩⟩
      · simp [fset, aev]
      · simp only [List.nil_append, upsB, List.cons_append, List.append_nil]
        funext id
        by_cases h1 : id = nx + 1
        · simp [bset, h1]
        · by_cases h2 : id = nx
          · simp [bset, h2]
          · simp [bset, h1, h2]
  intro m A w vs H hl hv
  refine (key m A w vs H hl hv).mono ?_
  rintro ed w' ⟨v, u, m', h', rfl, hR, H', hr, E⟩
  rcases hR with ⟨rfl, rfl, rfl⟩ | ⟨rfl, rfl⟩
  · obtain ⟨H1, E1⟩ := H'.waste hnx
    obtain ⟨H2, E2⟩ := H1.virtual (id := nx + 1) (by rw [bset_other _ _ (by omega)]; exact hnx1) e i.size
    obtain ⟨a0, rfl⟩ : ∃ a0, v = .slice a0 0 0 := by
      cases hr with | pure _ _ hr => cases hr with | emp a0 => exact ⟨a0, rfl⟩
    exact ⟨_, _, _, _, rfl, ⟨rfl, rfl⟩, H2, .ownv e i.size (nx + 1) 0 a0 (by simp [sset]), (E.trans E1).trans E2⟩
  · exact ⟨v, _, m', _, rfl, ⟨rfl, rfl⟩, H', hr, E⟩

/-- Is the function slices.Clone, at which slices? -/
def cloneOps (l : List Oper) : List (Option Tmp × Op × Bool) := l.map fun o => (o.dst, o.op, o.guard.isNone)
def isClone (fn : Func) : Option TypeId :=
  if fn.ntmps = 8 then match fn.results.toList with
    | [.tmp 2] => if fn.name == "runtime.NumGoroutine" then none else match fn.body with
      | some (.seq (.region _ q0 false) (.seq (.seq (.region _ q1 false) (.cond (.tmp 4) (.seq (.region _ q2 false) .ret) .skip)) (.seq (.region _ q3 false) .ret))) =>
        match q0.toList, q1.toList, q2.toList, q3.toList with
        | [⟨some 2, .assign (.const (.slice none 0 0)), _, _, _, none⟩], [⟨some 3, .move (.tmp 0), _, _, _, none⟩, ⟨some 4, .binOp .eql t (.tmp 3) (.const (.slice none 0 0)) _, _, _, _, none⟩], [⟨some 2, .assign (.const (.slice none 0 0)), _, _, _, none⟩],
          [⟨some 5, .buildSlice t1 0 ps, _, _, _, none⟩, ⟨some 6, .move (.tmp 0), _, _, _, none⟩, ⟨some 7, .call ⟨.builtin .append, as, ts⟩, _, _, _, none⟩, ⟨some 2, .assign (.tmp 7), _, _, _, none⟩] =>
          match ps.toList, as.toList, ts.toList with
          | [], [.tmp 5, .tmp 6], [t2, t3] => if t1 = t ∧ t2 = t ∧ t3 = t then some t else none
          | _, _, _ => none
        | _, _, _, _ => none
      | _ => none
    | _ => none
  else none
theorem arr0 [Bk] [Ev] {α : Type} {l : Array α} (h : l.toList = []) : l = #[] := by cases l; simp_all
theorem arr4 [Bk] [Ev] {α : Type} {l : Array α} {x y z u : α} (h : l.toList = [x, y, z, u]) : l = #[x, y, z, u] := by cases l; simp_all
theorem isClone_ok [Bk] [Ev] {fn : Func} {t : TypeId} (h : isClone fn = some t) : CloneF fn t := by
  unfold isClone at h
  split at h
  · rename_i hn
    split at h
    · rename_i hr
      split at h
      · cases h
      · rename_i hname
        split at h
        · rename_i i0 q0 i1 q1 i2 q2 i3 q3 hb
          split at h
          · rename_i e0 e1 e2 e3
            split at h
            · rename_i e4 e5 e6
              split at h
              · rename_i hc
                obtain ⟨rfl, rfl, rfl⟩ := hc
                cases h
                have := arr1 e0; have := arr2 e1; have := arr1 e2; have := arr4 e3; have := arr0 e4; have := arr2 e5; have := arr2 e6
                subst_vars
                exact ⟨⟨i0, i1, i2, i3, _, _, _, _, _, _, _, _, hb, rfl, rfl, rfl, rfl, rfl, ⟨_, rfl⟩, rfl, rfl, rfl, rfl, rfl, rfl, rfl, rfl, rfl, rfl, rfl, rfl, rfl, rfl, rfl, rfl, rfl, rfl⟩, hn, arr1 hr, by simpa using hname⟩
              · cases h
            · cases h
          · cases h
        · cases h
    · cases h
  · cases h

def cloneM (P : Program) (t : TypeId) (x : AV) : M AV := fun h n =>
  match P.underlying t with
  | some (.slice e) => match P.info? e with
    | some i => match i.zero, elsA h x with
      | some z, some els => if z.cells.size = i.size ∧ 0 < i.size ∧ (els.all fun q => q.length == i.size) = true ∧ ownSz x i.size = true ∧ els.length * i.bytes ≤ 140737488355328 ∧ els.length ≤ 1099511627776 ∧ newB h n = true ∧ newB h (n + 1) = true ∧ (idOf x).contains n = false then
          some ⟨.own e i.size (n + 1) 0 els.length, upsB h [(n, .dead), (n + 1, .cells e i.size els)], n + 2, n :: (n + 1) :: idOf x, [n, n + 1]⟩ else none
      | _, _ => none
    | none => none
  | _ => none
theorem local_clone [Bk] [Ev] (t : TypeId) (x : AV) : Local (cloneM P t x) := by
  intro h n r hr
  have hr0 := hr
  unfold cloneM at hr
  split at hr
  · rename_i e he
    split at hr
    · rename_i i hi
      split at hr
      · rename_i z els hz hx
        split at hr
        · rename_i hc
          cases hr
          refine ⟨by simp, fun id hid _ => upsB_not (by simpa using hid), fun id hid => by simp at hid ⊢; rcases hid with h | h <;> simp [h], ?_⟩
          intro g hrd hrg
          have e1 : elsA g x = elsA h x := elsA_h fun id hid => hrd id (by simp [hid])
          have e2 : newB g n = newB h n := newB_h (hrd n (by simp))
          have e3 : newB g (n + 1) = newB h (n + 1) := newB_h (hrd (n + 1) (by simp))
          refine ⟨⟨.own e i.size (n + 1) 0 els.length, upsB g [(n, .dead), (n + 1, .cells e i.size els)], n + 2, n :: (n + 1) :: idOf x, [n, n + 1]⟩, ?_, rfl, rfl, rfl, rfl, ?_, fun id hid _ => upsB_not (by simpa using hid)⟩
          · unfold cloneM
            simp only [he, hi, hz, e1, hx, e2, e3]
            rw [if_pos hc]
          · intro id hid
            refine upsB_in ?_
            rcases hid with hid | hid
            · simpa using hid
            · simp only at hid; simp; omega
        · cases hr
      · cases hr
    · cases hr
  · cases hr

def toPs : List AV → Option (List Poly)
  | [] => some []
  | x :: l => match toP x, toPs l with
    | some p, some q => some (p :: q)
    | _, _ => none
def findX (k : Nat) (ps : List Poly) : List (Nat × List Poly × List Poly) → Option (List Poly)
  | [] => none
  | t :: l => if t.1 = k ∧ t.2.1 = ps then some t.2.2 else findX k ps l
theorem findX_ok {k : Nat} {ps rs : List Poly} : ∀ {l : List (Nat × List Poly × List Poly)}, findX k ps l = some rs → (k, ps, rs) ∈ l
  | [], h => by cases h
  | t :: l, h => by
    unfold findX at h
    split at h
    · rename_i e
      cases h
      obtain ⟨rfl, rfl⟩ := e
      exact List.mem_cons_self
    · exact List.mem_cons_of_mem _ (findX_ok h)
/-- A datum whose own blocks are read out; what blocks these are. -/
def frzL (r : AV → Option (AV × List Nat)) : List AV → Option (List AV × List Nat)
  | [] => some ([], [])
  | x :: l => match r x with
    | none => none
    | some (y, i) => match frzL r l with
      | none => none
      | some (m, j) => some (y :: m, i ++ j)
def frzE (r : AV → Option (AV × List Nat)) : List (List AV) → Option (List (List AV) × List Nat)
  | [] => some ([], [])
  | e :: l => match frzL r e with
    | none => none
    | some (y, i) => match frzE r l with
      | none => none
      | some (m, j) => some (y :: m, i ++ j)
def frz (h : AH) : Nat → AV → Option (AV × List Nat)
  | 0, _ => none
  | k + 1, x => match x with
    | .agg cs => match frzL (frz h k) cs with
      | some (m, i) => some (.agg m, i)
      | none => none
    | .tup cs => match frzL (frz h k) cs with
      | some (m, i) => some (.tup m, i)
      | none => none
    | .own _ sz id i n => match h id with
      | .cells _ s els => if s = sz ∧ i + n ≤ els.length then match frzE (frz h k) ((els.drop i).take n) with
          | some (m, js) => some (.lit sz m, id :: js)
          | none => none
        else none
      | _ => none
    | .c v => some (.c v, [])
    | .undef => some (.undef, [])
    | .emp => some (.emp, [])
    | .lit sz els => some (.lit sz els, [])
    | .e p => some (.e p, [])
    | .row n xs => some (.row n xs, [])
    | .o i => some (.o i, [])
    | _ => none
theorem frzL_get {r : AV → Option (AV × List Nat)} : ∀ {cs m : List AV} {js : List Nat}, frzL r cs = some (m, js) → m.length = cs.length ∧ ∀ (i : Nat) (y : AV), m[i]? = some y → ∃ x is, cs[i]? = some x ∧ r x = some (y, is) ∧ ∀ id ∈ is, id ∈ js
  | [], m, js, h => by cases h; exact ⟨rfl, fun i y hy => by simp at hy⟩
  | x :: l, m, js, h => by
    unfold frzL at h
    split at h
    · cases h
    · rename_i y i hx
      split at h
      · cases h
      · rename_i m' j hl
        cases h
        obtain ⟨h1, h2⟩ := frzL_get hl
        refine ⟨by simp [h1], ?_⟩
        intro k z hz
        cases k with
        | zero => cases hz; exact ⟨x, i, rfl, hx, fun id hid => List.mem_append_left _ hid⟩
        | succ k =>
          obtain ⟨x', is, g1, g2, g3⟩ := h2 k z (by simpa using hz)
          exact ⟨x', is, by simpa using g1, g2, fun id hid => List.mem_append_right _ (g3 id hid)⟩
theorem frzE_get {r : AV → Option (AV × List Nat)} : ∀ {cs m : List (List AV)} {js : List Nat}, frzE r cs = some (m, js) → m.length = cs.length ∧ ∀ (i : Nat) (y : List AV), m[i]? = some y → ∃ x is, cs[i]? = some x ∧ frzL r x = some (y, is) ∧ ∀ id ∈ is, id ∈ js
  | [], m, js, h => by cases h; exact ⟨rfl, fun i y hy => by simp at hy⟩
  | x :: l, m, js, h => by
    unfold frzE at h
    split at h
    · cases h
    · rename_i y i hx
      split at h
      · cases h
      · rename_i m' j hl
        cases h
        obtain ⟨h1, h2⟩ := frzE_get hl
        refine ⟨by simp [h1], ?_⟩
        intro k z hz
        cases k with
        | zero => cases hz; exact ⟨x, i, rfl, hx, fun id hid => List.mem_append_left _ hid⟩
        | succ k =>
          obtain ⟨x', is, g1, g2, g3⟩ := h2 k z (by simpa using hz)
          exact ⟨x', is, by simpa using g1, g2, fun id hid => List.mem_append_right _ (g3 id hid)⟩
theorem frzL_h {r r' : AV → Option (AV × List Nat)} : ∀ {cs m : List AV} {js : List Nat}, frzL r cs = some (m, js) → (∀ x y is, r x = some (y, is) → (∀ id ∈ is, id ∈ js) → r' x = some (y, is)) → frzL r' cs = some (m, js)
  | [], m, js, h, _ => by cases h; rfl
  | x :: l, m, js, h, hr => by
    unfold frzL at h ⊢
    split at h
    · cases h
    · rename_i y i hx
      split at h
      · cases h
      · rename_i m' j hl
        cases h
        rw [hr x y i hx fun id hid => List.mem_append_left _ hid, frzL_h hl fun x y is hx hs => hr x y is hx fun id hid => List.mem_append_right _ (hs id hid)]
theorem frzE_h {r r' : AV → Option (AV × List Nat)} : ∀ {cs m : List (List AV)} {js : List Nat}, frzE r cs = some (m, js) → (∀ x y is, r x = some (y, is) → (∀ id ∈ is, id ∈ js) → r' x = some (y, is)) → frzE r' cs = some (m, js)
  | [], m, js, h, _ => by cases h; rfl
  | x :: l, m, js, h, hr => by
    unfold frzE at h ⊢
    split at h
    · cases h
    · rename_i y i hx
      split at h
      · cases h
      · rename_i m' j hl
        cases h
        rw [frzL_h hx fun x y is hx hs => hr x y is hx fun id hid => List.mem_append_left _ (hs id hid), frzE_h hl fun x y is hx hs => hr x y is hx fun id hid => List.mem_append_right _ (hs id hid)]
theorem frz_h {h h' : AH} : ∀ {k : Nat} {x y : AV} {js : List Nat}, frz h k x = some (y, js) → (∀ id ∈ js, h' id = h id) → frz h' k x = some (y, js)
  | 0, x, y, js, hf, _ => by cases hf
  | k + 1, x, y, js, hf, hh => by
    have ih : ∀ x y is, frz h k x = some (y, is) → (∀ id ∈ is, id ∈ js) → frz h' k x = some (y, is) := fun x y is hx hs => frz_h hx fun id hid => hh id (hs id hid)
    cases x with
    | agg cs =>
      simp only [frz] at hf ⊢
      split at hf
      · rename_i m i hm
        cases hf
        rw [frzL_h hm ih]
      · cases hf
    | tup cs =>
      simp only [frz] at hf ⊢
      split at hf
      · rename_i m i hm
        cases hf
        rw [frzL_h hm ih]
      · cases hf
    | own T sz id i n =>
      simp only [frz] at hf ⊢
      split at hf
      · rename_i T' s els he
        split at hf
        · rename_i hc
          split at hf
          · rename_i m ks hm
            cases hf
            rw [hh id List.mem_cons_self, he]
            simp only
            rw [if_pos hc, frzE_h hm fun x y is hx hs => ih x y is hx fun id hid => List.mem_cons_of_mem _ (hs id hid)]
          · cases hf
        · cases hf
      · cases hf
    | ptr => cases hf
    | lptr => cases hf
    | fn => cases hf
    | ifc => cases hf
    | _ => exact hf
theorem frz_one {h : AH} {k : Nat} {x y : AV} {js : List Nat} (hf : frz h k x = some (y, js)) (h1 : x.one = true) : y.one = true := by
  cases k with
  | zero => cases hf
  | succ k =>
    cases x with
    | agg cs => simp [AV.one] at h1
    | tup cs => simp [AV.one] at h1
    | own T sz id i n =>
      simp only [frz] at hf
      split at hf
      · split at hf
        · split at hf
          · cases hf; rfl
          · cases hf
        · cases hf
      · cases hf
    | c v => cases hf; exact h1
    | undef => simp [AV.one] at h1
    | ptr => cases hf
    | lptr => cases hf
    | fn => cases hf
    | ifc => cases hf
    | yld => cases hf
    | mpv => cases hf
    | view => cases hf
    | _ => cases hf; rfl

/-- These blocks are let go. -/
def killS (m : Nat → St) (K : List Nat) : Nat → St := fun id => if id ∈ K then .dead else m id
theorem killS_at {m : Nat → St} {K : List Nat} {id b : Nat} (h : killS m K id = .at b) : id ∉ K ∧ m id = .at b := by
  unfold killS at h
  split at h
  · cases h
  · exact ⟨‹_›, h⟩
theorem killA {m : Nat → St} {K : List Nat} {A : Nat → Prop} {b : Nat} (h : Av (killS m K) A b) : Av m A b := by
  rcases h with h | ⟨id, h⟩
  · exact .inl h
  · exact .inr ⟨id, (killS_at h).2⟩
theorem frz_ok [Bk] [Ev] {m : Nat → St} {A : Nat → Prop} {h : AH} {w : World} (H : HRel m A h w) (K : List Nat) : ∀ {k : Nat} {x y : AV} {js : List Nat} {v : Value}, frz h k x = some (y, js) → (∀ id ∈ js, id ∈ K) → Rd m A w x v → RdL (Av (killS m K) A) w y v
  | 0, x, y, js, v, hf, _, _ => by cases hf
  | k + 1, x, y, js, v, hf, hK, hr => by
    have ih : ∀ {x y : AV} {is : List Nat} {v : Value}, frz h k x = some (y, is) → (∀ id ∈ is, id ∈ js) → Rd m A w x v → RdL (Av (killS m K) A) w y v := fun hx hs hv => frz_ok H K hx (fun id hid => hK id (hs id hid)) hv
    have base : ∀ {x : AV} {v : Value}, RdL (Av m A) w x v → RdL (Av (killS m K) A) w x v := fun hx => hx.mono (Nat.le_refl _) fun b _ hb => ⟨fun h => hb (killA h), rfl⟩
    cases x with
    | agg cs =>
      simp only [frz] at hf
      split at hf
      · rename_i m' i hm
        cases hf
        obtain ⟨h1, h2⟩ := frzL_get hm
        obtain ⟨vs, rfl, hl, hc⟩ := hr.agg_inv
        refine .agg _ vs (by rw [hl, h1]) ?_ ?_
        · intro i y hy
          obtain ⟨x, is, g1, g2, g3⟩ := h2 i y hy
          exact frz_one g2 (hc i x g1).1
        · intro i y hy
          obtain ⟨x, is, g1, g2, g3⟩ := h2 i y hy
          exact ih g2 g3 (hc i x g1).2
      · cases hf
    | tup cs =>
      simp only [frz] at hf
      split at hf
      · rename_i m' i hm
        cases hf
        obtain ⟨h1, h2⟩ := frzL_get hm
        obtain ⟨vs, rfl, hl, hc⟩ := hr.tup_inv
        refine .tup _ vs (by rw [hl, h1]) ?_
        intro i y hy
        obtain ⟨x, is, g1, g2, g3⟩ := h2 i y hy
        exact ih g2 g3 (hc i x g1)
      · cases hf
    | own T sz id i n =>
      simp only [frz] at hf
      split at hf
      · rename_i T' s els he
        split at hf
        · rename_i hcond
          obtain ⟨rfl, hle⟩ := hcond
          split at hf
          · rename_i m' ks hm
            cases hf
            obtain ⟨h1, h2⟩ := frzE_get hm
            have hlen : ((els.drop i).take n).length = n := by simp; omega
            rw [hlen] at h1
            rcases H.cells id _ _ _ he with ⟨hv, rfl⟩ | ⟨b, cs, g1, g2, g3, g4, g5⟩
            · have hn : n = 0 := by simp at hle; omega
              subst hn
              have e : m' = [] := List.length_eq_zero_iff.1 h1
              subst e
              cases hr with
              | pure _ _ h => cases h
              | own _ _ _ _ _ b _ hm => rw [hv] at hm; cases hm
              | ownv _ _ _ _ a hm => exact .lit0 _ a 0
              | ownd _ _ _ _ _ _ _ _ hm => rw [hv] at hm; cases hm
            · obtain ⟨cap, rfl, hcap, -, -⟩ := hr.at_own g1
              have find : ∀ (i' j' : Nat) (y : AV), at2 m' i' j' = some y → ∃ x is, at2 els (i + i') j' = some x ∧ frz h k x = some (y, is) ∧ (∀ id ∈ is, id ∈ ks) ∧ i' < n := by
                intro i' j' y hy
                unfold at2 at hy
                cases hm' : m'[i']? with
                | none => rw [hm'] at hy; cases hy
                | some e' =>
                  rw [hm'] at hy
                  simp only [Option.bind_some] at hy
                  obtain ⟨e, is, k1, k2, k3⟩ := h2 i' e' hm'
                  obtain ⟨-, l2⟩ := frzL_get k2
                  obtain ⟨x, is', q1, q2, q3⟩ := l2 j' y hy
                  have hi' : i' < n := by have := (List.getElem?_eq_some_iff.1 hm').1; omega
                  rw [List.getElem?_take, if_pos hi', List.getElem?_drop] at k1
                  refine ⟨x, is', ?_, q2, fun id hid => k3 id (q3 id hid), hi'⟩
                  unfold at2
                  rw [k1]; exact q1
              rw [← h1]
              refine .lit s m' b (i * s) cap (fun i' j' => cs.getD ((i + i') * s + j') Go.undef) ?_ (H.lt g1) (by omega) ?_ ?_ ?_ ?_
              · rintro (h | ⟨id', h⟩)
                · exact H.out id b g1 h
                · obtain ⟨h3, h4⟩ := killS_at h
                  have := H.inj id id' b g1 h4
                  subst this
                  exact h3 (hK id List.mem_cons_self)
              · intro e' he'
                obtain ⟨i', hi'⟩ := List.mem_iff_getElem?.1 he'
                obtain ⟨e, is, k1, k2, k3⟩ := h2 i' e' hi'
                obtain ⟨l1, -⟩ := frzL_get k2
                rw [l1]
                exact g4 e (List.mem_of_mem_drop (List.mem_of_mem_take (List.mem_of_getElem? k1)))
              · intro i' j' y hy
                obtain ⟨x, is, k1, k2, k3, -⟩ := find i' j' y hy
                exact frz_one k2 (g5 _ _ _ k1).1
              · intro i' j' y hy
                obtain ⟨x, is, k1, k2, k3, -⟩ := find i' j' y hy
                have hlt := (at2_len k1 g4).2.2
                have e : i * s + (i' * s + j') = (i + i') * s + j' := by rw [Nat.add_mul]; omega
                rw [e]
                have hlt' : (i + i') * s + j' < cs.size := by omega
                simp [World.cell?, g2, hlt']
              · intro i' j' y hy
                obtain ⟨x, is, k1, k2, k3, -⟩ := find i' j' y hy
                exact ih k2 (fun id hid => List.mem_cons_of_mem _ (k3 id hid)) (g5 _ _ _ k1).2
          · cases hf
        · cases hf
      · cases hf
    | ptr => cases hf
    | lptr => cases hf
    | fn => cases hf
    | ifc => cases hf
    | c v => cases hf; cases hr with | pure _ _ h => exact base h
    | undef => cases hf; cases hr with | pure _ _ h => exact base h
    | emp => cases hf; cases hr with | pure _ _ h => exact base h
    | lit sz els => cases hf; cases hr with | pure _ _ h => exact base h
    | e p => cases hf; cases hr with | pure _ _ h => exact base h
    | row n xs => cases hf; cases hr with | pure _ _ h => exact base h
    | o i => cases hf; cases hr with | pure _ _ h => exact base h
    | yld id => cases hf
    | mpv id => cases hf
    | view => cases hf
theorem upsB_dead (h : AH) : ∀ (K : List Nat) (id : Nat), upsB h (K.map fun id => (id, Blk.dead)) id = if id ∈ K then .dead else h id
  | [], id => by simp [upsB]
  | i :: l, id => by
    have := upsB_dead (bset h i .dead) l id
    simp only [List.map_cons, upsB]
    rw [this]
    by_cases h1 : id ∈ l
    · simp [h1]
    · by_cases h2 : id = i
      · subst h2; simp [h1, bset]
      · simp [h1, h2, bset]
theorem HRel.letGo [Bk] [Ev] {m : Nat → St} {A : Nat → Prop} {h : AH} {w : World} (H : HRel m A h w) (K : List Nat) :
    HRel (killS m K) A (upsB h (K.map fun id => (id, Blk.dead))) w ∧ Ext m w (killS m K) w := by
  have E : Ext m w (killS m K) w := by
    refine ⟨rfl, rfl, rfl, Nat.le_refl _, ?_, ?_, ?_, ?_, fun _ _ _ _ => rfl⟩
    · intro id b hb
      unfold killS; split
      · exact .inr rfl
      · exact .inl hb
    · intro id hb
      unfold killS; split
      · rfl
      · exact hb
    · intro id hb
      unfold killS; split
      · exact .inr rfl
      · exact .inl hb
    · intro b _ hu
      exact ⟨fun id hid => hu id (killS_at hid).2, rfl⟩
  refine ⟨⟨fun id b hb => H.out id b (killS_at hb).2, H.old, ?_, ?_, ?_, fun i j b hi hj => H.inj i j b (killS_at hi).2 (killS_at hj).2, H.glob.ext H.out E, H.others_to E fun id B hid hB => ?_⟩, E⟩
  · intro id hid
    rw [upsB_dead] at hid
    split at hid
    · cases hid
    · rename_i hn; unfold killS; rw [if_neg hn]; exact H.no id hid
  · intro id hid
    rw [upsB_dead] at hid
    split at hid
    · rename_i hn; unfold killS; rw [if_pos hn]
    · rename_i hn; unfold killS; rw [if_neg hn]; exact H.dead id hid
  · intro id T sz els hid
    rw [upsB_dead] at hid
    split at hid
    · cases hid
    · rename_i hn
      have e : killS m K id = m id := by unfold killS; rw [if_neg hn]
      rw [e]
      obtain g | ⟨b, cs, g1, g2, g3, g4, g5⟩ := H.cells id T sz els hid
      · exact .inl g
      · exact .inr ⟨b, cs, g1, g2, g3, g4, fun i j x hx => ⟨(g5 i j x hx).1, (g5 i j x hx).2.ext E⟩⟩
  · rw [upsB_dead] at hid
    split at hid
    · subst hid; exact absurd hB (by simp [Blk.other])
    · rename_i hn
      exact ⟨hid, fun b hb => ⟨by unfold killS; rw [if_neg hn]; exact hb, rfl⟩⟩

/-- Are two data one? -/
def vEq : Value → Value → Bool
  | .int k a, .int k' b => decide (k = k') && decide (a = b)
  | .bool a, .bool b => a == b
  | .string a, .string b => decide (a.data.toList = b.data.toList)
  | .pointer none, .pointer none => true
  | .nilIface, .nilIface => true
  | _, _ => false
theorem vEq_ok {a b : Value} (h : vEq a b = true) : a = b := by
  unfold vEq at h
  split at h
  · rw [Bool.and_eq_true, decide_eq_true_eq, decide_eq_true_eq] at h; rw [h.1, h.2]
  · rw [beq_iff_eq] at h; rw [h]
  · rw [decide_eq_true_eq] at h; have := Array.ext' h; rw [show _ = _ from ByteArray.ext this]
  · rfl
  · rfl
  · cases h
def eqL (r : AV → AV → Bool) : List AV → List AV → Bool
  | [], [] => true
  | x :: l, y :: m => r x y && eqL r l m
  | _, _ => false
def eqLL (r : AV → AV → Bool) : List (List AV) → List (List AV) → Bool
  | [], [] => true
  | x :: l, y :: m => eqL r x y && eqLL r l m
  | _, _ => false
def avEq : Nat → AV → AV → Bool
  | 0, _, _ => false
  | k + 1, x, y => match x, y with
    | .c v, .c u => vEq v u
    | .undef, .undef => true
    | .emp, .emp => true
    | .agg a, .agg b => eqL (avEq k) a b
    | .tup a, .tup b => eqL (avEq k) a b
    | .lit s a, .lit s' b => decide (s = s') && eqLL (avEq k) a b
    | .e p, .e q => decide (p = q)
    | .row n a, .row n' b => decide (n = n') && decide (a = b)
    | .o i, .o j => decide (i = j)
    | _, _ => false
theorem eqL_ok {r : AV → AV → Bool} (hr : ∀ x y, r x y = true → x = y) : ∀ {a b : List AV}, eqL r a b = true → a = b
  | [], [], _ => rfl
  | [], _ :: _, h => by cases h
  | _ :: _, [], h => by cases h
  | x :: l, y :: m, h => by
    unfold eqL at h
    rw [Bool.and_eq_true] at h
    rw [hr x y h.1, eqL_ok hr h.2]
theorem eqLL_ok {r : AV → AV → Bool} (hr : ∀ x y, r x y = true → x = y) : ∀ {a b : List (List AV)}, eqLL r a b = true → a = b
  | [], [], _ => rfl
  | [], _ :: _, h => by cases h
  | _ :: _, [], h => by cases h
  | x :: l, y :: m, h => by
    unfold eqLL at h
    rw [Bool.and_eq_true] at h
    rw [eqL_ok hr h.1, eqLL_ok hr h.2]
theorem avEq_ok : ∀ {k : Nat} {x y : AV}, avEq k x y = true → x = y
  | 0, x, y, h => by cases h
  | k + 1, x, y, h => by
    have ih : ∀ x y, avEq k x y = true → x = y := fun x y => avEq_ok
    unfold avEq at h
    split at h
    · rw [vEq_ok h]
    · rfl
    · rfl
    · rw [eqL_ok ih h]
    · rw [eqL_ok ih h]
    · rw [Bool.and_eq_true, decide_eq_true_eq] at h; rw [h.1, eqLL_ok ih h.2]
    · rw [decide_eq_true_eq] at h; rw [h]
    · rw [Bool.and_eq_true, decide_eq_true_eq, decide_eq_true_eq] at h; rw [h.1, h.2]
    · rw [decide_eq_true_eq] at h; rw [h]
    · cases h
/-- The names in it, in order: what tells it soonest. -/
def avFp : Nat → AV → List Poly
  | 0, _ => []
  | k + 1, x => match x with
    | .e p => [p]
    | .agg l => l.flatMap (avFp k)
    | .lit _ l => l.flatMap fun e => e.flatMap (avFp k)
    | _ => []
def findV (k : Nat) (as : List AV) : List (Nat × List AV × AV) → Option AV
  | [] => none
  | t :: l => bif Nat.beq t.1 k && (decide (t.2.1.map (avFp 16) = as.map (avFp 16)) && eqL (avEq 16) t.2.1 as) then some t.2.2 else findV k as l
theorem findV_ok {k : Nat} {as : List AV} {r : AV} : ∀ {l : List (Nat × List AV × AV)}, findV k as l = some r → (k, as, r) ∈ l
  | [], h => by cases h
  | t :: l, h => by
    unfold findV at h
    cases hc : (Nat.beq t.1 k && (decide (t.2.1.map (avFp 16) = as.map (avFp 16)) && eqL (avEq 16) t.2.1 as)) with
    | true =>
      rw [hc] at h
      cases h
      rw [Bool.and_eq_true, Bool.and_eq_true] at hc
      have e1 : t.1 = k := Nat.eq_of_beq_eq_true hc.1
      have e2 := eqL_ok (fun x y => avEq_ok) hc.2.2
      subst e1; subst e2
      exact List.mem_cons_self
    | false =>
      rw [hc] at h
      exact List.mem_cons_of_mem _ (findV_ok h)
/-- Is the function one whose calls are known? -/
def knB [Bk] (P : Program) (k : FuncId) : Bool :=
  Bk.extV.any (fun t => Nat.beq t.1 k) && (match P.funcs[k]? with | some fn => (match fn.body with | some _ => !(fn.name == "runtime.NumGoroutine") | none => false) | none => false)
def knM [Bk] (k : FuncId) (args : List AV) : M AV := fun h n =>
  match frzL (frz h 16) args with
  | some (as, ids) => match findV k as Bk.extV with
    | some r => some ⟨r, upsB h (ids.map fun id => (id, Blk.dead)), n, ids, ids⟩
    | none => none
  | none => none
theorem local_kn [Bk] [Ev] (k : FuncId) (args : List AV) : Local (knM k args) := by
  intro h n r hr
  unfold knM at hr
  split at hr
  · rename_i as ids hf
    split at hr
    · rename_i v hv
      cases hr
      refine ⟨Nat.le_refl _, fun id hid _ => upsB_not (by simpa using hid), fun _ hid => hid, ?_⟩
      intro g hrd hrg
      refine ⟨⟨v, upsB g (ids.map fun id => (id, Blk.dead)), n, ids, ids⟩, ?_, rfl, rfl, rfl, rfl, ?_, fun id hid _ => upsB_not (by simpa using hid)⟩
      · unfold knM
        rw [frzL_h hf fun x y is hx hs => frz_h hx fun id hid => hrd id (hs id hid)]
        simp only [hv]
      · intro id hid
        rcases hid with hid | hid
        · exact upsB_in (by simpa using hid)
        · simp only at hid; omega
    · cases hr
  · cases hr
/-- A call of data is known: whatever the blocks that it must not look through. -/
def KnOk [Bk] [Ev] (P : Program) (k : FuncId) (as : List AV) (r : AV) : Prop :=
  ∀ (A : Nat → Prop) (w : World) (vs : Array Value), (∀ b, A b → b < w.heap.size) → GOk A w → vs.size = as.length → (∀ (i : Nat) (x : AV), as[i]? = some x → RdL A w x (vs.getD i Go.undef)) →
    Calls P k vs w fun e w' => ∃ v, e = .returned v ∧ RdL A w' r v ∧ Below w.heap.size w w'
theorem kn_calls [Bk] [Ev] {P : Program} {k : FuncId} {args as : List AV} {ids : List Nat} {r : AV} {h : AH} (hf : frzL (frz h 16) args = some (as, ids)) (hk : KnOk P k as r) : ACalls P k args h (fun v h' => v = r ∧ h' = upsB h (ids.map fun id => (id, Blk.dead))) := by
  intro m A w vs H hl hv
  obtain ⟨H2, E2⟩ := H.letGo ids
  obtain ⟨h1, h2⟩ := frzL_get hf
  refine (hk (Av (killS m ids) A) w vs ?_ (fun t ht => ⟨.inl (H.glob t ht).1, (H.glob t ht).2⟩) (by rw [hl, h1]) ?_).mono ?_
  · rintro b (hb | ⟨id, hb⟩)
    · exact H.old b hb
    · exact H2.lt hb
  · intro i y hy
    obtain ⟨x, is, g1, g2, g3⟩ := h2 i y hy
    exact frz_ok H ids g2 g3 (hv i x g1)
  · rintro e w' ⟨v, rfl, hr, hb⟩
    exact ⟨v, r, killS m ids, _, rfl, ⟨rfl, rfl⟩, H2.below hb, .pure _ _ hr, E2.trans (Ext.of_below H2 hb)⟩

def yesA [Bk] (P : Program) (k : FuncId) (args : List AV) : Bool :=
  Bk.yes.contains k && (args.isEmpty && (match P.funcs[k]? with | some fn => (match fn.body with | some _ => !(fn.name == "runtime.NumGoroutine") | none => false) | none => false))
/-- A call that is known. -/
def extA [Bk] (P : Program) (k : FuncId) (args : List AV) : Option AV :=
  if yesA P k args = true then some (.c (.bool true)) else match Bk.ext with
  | [] => none
  | l => match P.funcs[k]? with
    | some fn => match fn.body with
      | some _ => if fn.name == "runtime.NumGoroutine" then none else match toPs args with
        | some ps => match findX k ps l with
          | some rs => some (tupOf (rs.map mkE))
          | none => none
        | none => none
      | none => none
    | none => none
/-- The known calls are so. -/
def ExtOk [Bk] [Ev] (P : Program) : Prop := (∀ k ps rs, (k, ps, rs) ∈ Bk.ext → ∀ args h, toPs args = some ps → ACalls P k args h (fun v h' => v = tupOf (rs.map mkE) ∧ h' = h)) ∧
  (∀ k, k ∈ Bk.yes → ∀ h, ACalls P k [] h (fun v h' => v = .c (.bool true) ∧ h' = h)) ∧ ∀ k as r, (k, as, r) ∈ Bk.extV → KnOk P k as r
theorem yesA_ok [Bk] [Ev] (hX : ExtOk P) {k : FuncId} {args : List AV} (hv : yesA P k args = true) (h : AH) :
    ∃ fn c, P.funcs[k]? = some fn ∧ fn.body = some c ∧ (fn.name == "runtime.NumGoroutine") = false ∧ ACalls P k args h (fun v' h' => v' = .c (.bool true) ∧ h' = h) := by
  unfold yesA at hv
  rw [Bool.and_eq_true, Bool.and_eq_true] at hv
  obtain ⟨h1, h2, h3⟩ := hv
  split at h3
  · rename_i fn hf
    split at h3
    · rename_i c hc
      have ha : args = [] := by simpa using h2
      subst ha
      exact ⟨fn, c, hf, hc, by simpa using h3, hX.2.1 k (by simpa using h1) h⟩
    · cases h3
  · cases h3
theorem extA_ok [Bk] [Ev] (hX : ExtOk P) {k : FuncId} {args : List AV} {v : AV} (hv : extA P k args = some v) (h : AH) :
    ∃ fn c, P.funcs[k]? = some fn ∧ fn.body = some c ∧ (fn.name == "runtime.NumGoroutine") = false ∧ ACalls P k args h (fun v' h' => v' = v ∧ h' = h) := by
  unfold extA at hv
  by_cases hy : yesA P k args = true
  · rw [if_pos hy] at hv
    cases hv
    exact yesA_ok hX hy h
  rw [if_neg hy] at hv
  split at hv
  · cases hv
  · split at hv
    · rename_i fn hf
      split at hv
      · rename_i c hc
        split at hv
        · cases hv
        · rename_i hn
          split at hv
          · rename_i ps hp
            split at hv
            · rename_i rs hr
              cases hv
              exact ⟨fn, c, hf, hc, by simpa using hn, hX.1 k ps rs (findX_ok hr) args h hp⟩
            · cases hv
          · cases hv
      · cases hv
    · cases hv

/-- A call; slices.Clone by what it does. -/
def acallB [Bk] (P : Program) (L : Nat) (call : Fn → List AV → M AV) (k : FuncId) (args : List AV) : M AV :=
  match P.funcs[k]? with
    | none => mfail
    | some fn => match isClone fn, args with
      | some t, [x] => cloneM P t x
      | _, _ => match fn.body with
        | none => mfail
        | some c => if fn.name == "runtime.NumGoroutine" then mfail else
          mcomp (mbind (acode P call true L c (args ++ List.replicate (fn.ntmps - args.length) .undef)) fun q => match q.1 with
            | .exit _ => mfail
            | _ => resM P fn q.2)
def acallX [Bk] (P : Program) (L : Nat) : Nat → Fn → List AV → M AV
  | 0, _, _ => mfail
  | d + 1, .func k, args => match extA P k args with
    | some v => mpure v
    | none => if knB P k = true then knM k args else acallB P L (acallX P L d) k args
  | d + 1, .yield id, args => mcomp (ayield P L (acallX P L d) id args)
  | _ + 1, _, _ => mfail

theorem acallB_callOk [Bk] [Ev] (L : Nat) {call : Fn → List AV → M AV} (ih : CallOk P call) : (∀ k args, Local (acallB P L call k args)) ∧ ∀ k args h n r, acallB P L call k args h n = some r → ∃ fn c, P.funcs[k]? = some fn ∧ fn.body = some c ∧ (fn.name == "runtime.NumGoroutine") = false ∧ ACalls P k args h (fun v h' => v = r.a ∧ h' = r.h) := by
    refine ⟨?_, ?_⟩
    · intro k args
      simp only [acallB]
      split
      · exact local_fail
      · split
        · exact local_clone _ _
        · split
          · exact local_fail
          · split
            · exact local_fail
            · refine local_comp (local_bind (local_code ih _ _ _) fun q => ?_)
              split
              · exact local_fail
              · exact local_res _ _
    · intro k args h n r hr
      simp only [acallB] at hr
      cases hk : P.funcs[k]? with
      | none => simp only [hk] at hr; cases hr
      | some fn =>
        simp only [hk] at hr
        have plain : (match fn.body with
          | none => mfail
          | some c => if fn.name == "runtime.NumGoroutine" then mfail else
            mcomp (mbind (acode P call true L c (args ++ List.replicate (fn.ntmps - args.length) .undef)) fun q => match q.1 with
              | .exit _ => mfail
              | _ => resM P fn q.2) : M AV) h n = some r → ∃ fn c, P.funcs[k]? = some fn ∧ fn.body = some c ∧ (fn.name == "runtime.NumGoroutine") = false ∧ ACalls P k args h (fun v h' => v = r.a ∧ h' = r.h) := by
          intro hr
          cases hb : fn.body with
          | none => simp only [hb] at hr; cases hr
          | some c =>
            simp only [hb] at hr
            by_cases hn : (fn.name == "runtime.NumGoroutine") = true
            · rw [if_pos hn] at hr; cases hr
            · rw [if_neg hn] at hr
              refine ⟨fn, c, hk, hb, by simpa using hn, ?_⟩
              unfold mcomp at hr
              split at hr
              · cases hr
              · rename_i t ht
                cases hr
                obtain ⟨r1, s, h1, h2, e1, e2, e3⟩ := bind_inv ht
                refine ACalls.of_body hk hb (acode_ok ih L c _ _ h n r1 h1 ?_)
                have fin : ∀ q, resM P fn r1.a.2 r1.h r1.n = some q → q.a = t.a → q.h = t.h → ∃ x, resultsA P fn r1.a.2 r1.h = some x ∧ (x = t.a ∧ r1.h = t.h) := by
                  intro q hq ha hh
                  unfold resM at hq
                  cases h3 : resultsA P fn r1.a.2 r1.h with
                  | none => rw [h3] at hq; cases hq
                  | some v =>
                    rw [h3] at hq
                    cases hq
                    exact ⟨v, rfl, ha, hh⟩
                cases hx : r1.a.1 with
                | exit id => simp only [hx] at h2; cases h2
                | normal => simp only [hx] at h2; exact fin s h2 e1.symm e2.symm
                | ret => simp only [hx] at h2; exact fin s h2 e1.symm e2.symm
        have clone : ∀ t x, isClone fn = some t → args = [x] → cloneM P t x h n = some r → ∃ fn c, P.funcs[k]? = some fn ∧ fn.body = some c ∧ (fn.name == "runtime.NumGoroutine") = false ∧ ACalls P k args h (fun v h' => v = r.a ∧ h' = r.h) := by
          intro t x hcl ha hq
          clear hr plain
          subst ha
          have hf := isClone_ok hcl
          obtain ⟨i0, i1, i2, i3, o0, o1, o2, o3, o4, o5, o6, o7, hbody, -⟩ := hf.body
          refine ⟨fn, _, hk, hbody, hf.name, ?_⟩
          unfold cloneM at hq
          split at hq
          · rename_i e he
            split at hq
            · rename_i i hi
              split at hq
              · rename_i z els hz hx
                split at hq
                · rename_i hc
                  cases hq
                  obtain ⟨c1, c2, c3, c4, c5, c6, c7, c8, c9⟩ := hc
                  refine clone_ok hk hf he hi hz c1 c2 hx (fun q hq => by simpa using List.all_eq_true.1 c3 q hq) ?_ c5 c6 (newB_iff c7) (newB_iff c8) (by simpa using c9)
                  intro T s id j n' hx'
                  rw [hx'] at c4
                  simpa [ownSz] using c4
                · cases hq
              · cases hq
            · cases hq
          · cases hq
        cases hcl : isClone fn with
        | none => simp only [hcl] at hr; exact hk ▸ plain hr
        | some t =>
          cases args with
          | nil => simp only [hcl] at hr; exact hk ▸ plain hr
          | cons x l =>
            cases l with
            | nil =>
              have hr' : cloneM P t x h n = some r := by
                simp only [hcl] at hr
                exact hr
              exact hk ▸ clone t x hcl rfl hr'
            | cons y l => simp only [hcl] at hr; exact hk ▸ plain hr

theorem knM_ok [Bk] [Ev] (hX : ExtOk P) {k : FuncId} {args : List AV} {h : AH} {n : Nat} {r : Rs AV} (hb : knB P k = true) (hr : knM k args h n = some r) :
    ∃ fn c, P.funcs[k]? = some fn ∧ fn.body = some c ∧ (fn.name == "runtime.NumGoroutine") = false ∧ ACalls P k args h (fun v h' => v = r.a ∧ h' = r.h) := by
  unfold knB at hb
  rw [Bool.and_eq_true] at hb
  obtain ⟨-, h3⟩ := hb
  split at h3
  · rename_i fn hf
    split at h3
    · rename_i c hc
      refine ⟨fn, c, hf, hc, by simpa using h3, ?_⟩
      unfold knM at hr
      split at hr
      · rename_i as ids hfr
        split at hr
        · rename_i v hv
          cases hr
          exact kn_calls hfr (hX.2.2 k as v (findV_ok hv))
        · cases hr
      · cases hr
    · cases h3
  · cases h3
theorem acallX_callOk [Bk] [Ev] (hX : ExtOk P) (L : Nat) : ∀ d, CallOk P (acallX P L d)
  | 0 => ⟨fun k args => local_fail, fun k args h n r hr => (by cases hr), fun k args h n r hr => (by cases hr)⟩
  | d + 1 => by
    have ihX := acallX_callOk hX L d
    have ih := acallB_callOk L ihX
    refine ⟨fun k args => ?_, fun k args h n r hr => ?_, fun id args h n r hr => ?_⟩
    · cases k with
      | func k =>
        simp only [acallX]
        split
        · exact local_pure _
        · split
          · exact local_kn _ _
          · exact ih.1 _ _
      | yield id => exact local_comp (local_yield ihX L id args)
      | _ => exact local_fail
    · cases hv : extA P k args with
      | some v =>
        simp only [acallX, hv] at hr
        cases hr
        exact extA_ok hX hv h
      | none =>
        simp only [acallX, hv] at hr
        by_cases hb : knB P k = true
        · rw [if_pos hb] at hr
          exact knM_ok hX hb hr
        · rw [if_neg hb] at hr
          exact ih.2 k args h n r hr
    · simp only [acallX] at hr
      unfold mcomp at hr
      split at hr
      · cases hr
      · rename_i t ht
        cases hr
        exact (ayield_ok ihX ht).mono fun v h' e => e
theorem acallX_ok [Bk] [Ev] (hX : ExtOk P) {L d : Nat} {k : FuncId} {args : List AV} {h : AH} {n : Nat} {r : Rs AV} (hr : acallX P L d (.func k) args h n = some r) : ACalls P k args h (fun v h' => v = r.a ∧ h' = r.h) :=
  ((acallX_callOk hX L d).ok k args h n r hr).elim fun _ h => h.elim fun _ h => h.2.2.2
end
end Go.Proofs.YtjbgfhafinfjbaaGreat.Mc
