/-
  A machine of plain data beside the model: each operation of a text prepared once, so that it runs faster. No program in sight.
-/
import Derived.Test.YtjbgfhafinfjbaaGreatM14
set_option linter.unusedVariables false
set_option linter.unusedSimpArgs false
namespace Go.Proofs.YtjbgfhafinfjbaaGreat.Mc
open Go.RowKit

def quiet (E : Eff) : Bool := E.ups.isEmpty && (E.rds.isEmpty && Nat.ble E.hi E.lo)
def memB (E E' : Eff) : Bool := (idsW E).all (fun id => !seesB E' id && !(idsW E').contains id) && (idsW E').all (fun id => !seesB E id && !(idsW E).contains id)
def tmpB (ops : Array Oper) (o o' : Oper) : Bool :=
  (match o.dst with | none => true | some d => !(footT ops o').contains d) && (match o'.dst with | none => true | some d => !(footT ops o).contains d) &&
  (match o.dst, o'.dst with | some d, some d' => d != d' | _, _ => true)
/-- What the text alone says of a statement that is drawn. -/
def statB (ops : Array Oper) : Bool :=
  let anc := ancTo ops ops.size
  (List.range ops.size).all fun j => (preO ops j).all (fun i => decide (i < j)) && (anc.getD j []).all (fun i => decide (i < j)) &&
    (List.range j).all fun i => (anc.getD j []).contains i || (match ops[i]?, ops[j]? with | some o, some o' => tmpB ops o o' | _, _ => false)
def loud : Nat → List Eff → List (Nat × Eff)
  | _, [] => []
  | k, E :: l => bif quiet E then loud (k + 1) l else (k, E) :: loud (k + 1) l
def pairsB (anc : List (List Nat)) : List (Nat × Eff) → Bool
  | [] => true
  | p :: l => l.all (fun q => (anc.getD q.1 []).contains p.1 || memB p.2 q.2) && pairsB anc l
def drawF (ops : Array Oper) (Es : List Eff) : Bool := statB ops && (Es.length == ops.size && pairsB (ancTo ops ops.size) (loud 0 Es))

theorem quiet_l {E E' : Eff} (h : quiet E = true) : memB E E' = true := by
  unfold quiet at h
  simp only [Bool.and_eq_true, List.isEmpty_iff, Nat.ble_eq] at h
  obtain ⟨h1, h2, h3⟩ := h
  have e : idsW E = [] := by simp [idsW, h1]
  unfold memB
  rw [e]
  simp only [List.all_nil, Bool.true_and, List.all_eq_true]
  intro id _
  simp [seesB, h2]
  omega
theorem quiet_r {E E' : Eff} (h : quiet E' = true) : memB E E' = true := by
  unfold quiet at h
  simp only [Bool.and_eq_true, List.isEmpty_iff, Nat.ble_eq] at h
  obtain ⟨h1, h2, h3⟩ := h
  have e : idsW E' = [] := by simp [idsW, h1]
  unfold memB
  rw [e]
  simp only [List.all_nil, Bool.and_true, List.all_eq_true]
  intro id _
  simp [seesB, h2]
  omega
theorem loud_get {anc : List (List Nat)} : ∀ (l : List Eff) (k : Nat), (∀ (j : Nat) (E : Eff), l[j]? = some E → quiet E = false → (k + j, E) ∈ loud k l)
  | [], k, j, E, h, _ => by simp at h
  | E0 :: l, k, 0, E, h, hq => by
    cases h
    unfold loud
    rw [hq]
    exact List.mem_cons_self
  | E0 :: l, k, j + 1, E, h, hq => by
    have ih := loud_get (anc := anc) l (k + 1) j E (by simpa using h) hq
    rw [show k + 1 + j = k + (j + 1) by omega] at ih
    unfold loud
    cases quiet E0
    · exact List.mem_cons_of_mem _ ih
    · exact ih
theorem pairs_get {anc : List (List Nat)} : ∀ (l : List Eff) (k : Nat), pairsB anc (loud k l) = true → ∀ (i j : Nat) (E E' : Eff), i < j → l[i]? = some E → l[j]? = some E' → quiet E = false → quiet E' = false → (anc.getD (k + j) []).contains (k + i) = true ∨ memB E E' = true
  | [], k, h, i, j, E, E', _, hi, _, _, _ => by simp at hi
  | E0 :: l, k, h, 0, 0, E, E', hij, _, _, _, _ => by omega
  | E0 :: l, k, h, i + 1, 0, E, E', hij, _, _, _, _ => by omega
  | E0 :: l, k, h, 0, j + 1, E, E', hij, hi, hj, hq, hq' => by
    cases hi
    unfold loud at h
    rw [hq] at h
    simp only [cond_false, pairsB, Bool.and_eq_true, List.all_eq_true, Bool.or_eq_true] at h
    have := h.1 _ (loud_get (anc := anc) l (k + 1) j E' (by simpa using hj) hq')
    rw [show k + 1 + j = k + (j + 1) by omega] at this
    exact this
  | E0 :: l, k, h, i + 1, j + 1, E, E', hij, hi, hj, hq, hq' => by
    have h' : pairsB anc (loud (k + 1) l) = true := by
      unfold loud at h
      cases h0 : quiet E0 <;> rw [h0] at h
      · simp only [cond_false, pairsB, Bool.and_eq_true] at h
        exact h.2
      · exact h
    have := pairs_get l (k + 1) h' i j E E' (by omega) (by simpa using hi) (by simpa using hj) hq hq'
    rw [show k + 1 + j = k + (j + 1) by omega, show k + 1 + i = k + (i + 1) by omega] at this
    exact this
theorem drawF_ok {ops : Array Oper} {Es : List Eff} (h : drawF ops Es = true) : drawB ops Es = true := by
  unfold drawF at h
  simp only [Bool.and_eq_true, beq_iff_eq] at h
  obtain ⟨h1, h2, h3⟩ := h
  unfold statB at h1
  unfold drawB
  simp only [List.all_eq_true, Bool.and_eq_true, List.mem_range] at h1 ⊢
  intro j hj
  obtain ⟨⟨a1, a2⟩, a3⟩ := h1 j hj
  refine ⟨⟨a1, a2⟩, ?_⟩
  intro i hi
  have a4 := a3 i hi
  rw [Bool.or_eq_true] at a4 ⊢
  rcases a4 with a4 | a4
  · exact .inl a4
  have hEi : i < Es.length := by omega
  have hEj : j < Es.length := by omega
  have g1 : Es[i]? = some Es[i] := List.getElem?_eq_getElem hEi
  have g2 : Es[j]? = some Es[j] := List.getElem?_eq_getElem hEj
  have mem : (((ancTo ops ops.size).getD j []).contains i = true) ∨ memB Es[i] Es[j] = true := by
    cases q1 : quiet Es[i] with
    | true => exact .inr (quiet_l q1)
    | false =>
      cases q2 : quiet Es[j] with
      | true => exact .inr (quiet_r q2)
      | false =>
        have := pairs_get Es 0 h3 i j _ _ hi g1 g2 q1 q2
        simpa using this
  rcases mem with m | m
  · exact .inl m
  refine .inr ?_
  rw [g1, g2]
  cases ho : ops[i]? with
  | none => rw [ho] at a4; cases a4
  | some o =>
    cases ho' : ops[j]? with
    | none => rw [ho, ho'] at a4; cases a4
    | some o' =>
      rw [ho, ho'] at a4
      simp only at a4 ⊢
      unfold tmpB at a4
      unfold memB at m
      unfold apartB
      rw [Bool.and_eq_true] at m
      rw [Bool.and_eq_true, Bool.and_eq_true]
      exact ⟨⟨a4, m.1⟩, m.2⟩

structure OF where
  f : Ft → AV
def opd : Operand → OF
  | .tmp k => ⟨fun t => match (Ft.look (k + 1) k).f t with | some v => v | none => .undef⟩
  | .const v => ⟨fun _ => ofC v⟩
  | .global g => ⟨fun _ => .c (.pointer (some ⟨g, 0, none⟩))⟩
  | .func k => ⟨fun _ => .fn (.func k) [] []⟩
def dstF : Option Tmp → Ft.H
  | none => ⟨fun t _ => t⟩
  | some k => Ft.lay (k + 1) k
def finT (r : Option AR) : MT AV := fun t n =>
  match r with
  | none => none
  | some ⟨v, ups, rds⟩ => match ups with
    | [] => some ⟨v, t, n, rds, []⟩
    | u => some ⟨v, t.ups u, if (u.map (·.1)).contains n then n + 1 else n, rds, u.map (·.1)⟩
def bindT {α β : Type} (x : MT α) (k : α → MT β) : MT β := fun t n =>
  match x t n with
  | none => none
  | some ⟨a, t1, n1, rd1, wr1⟩ => match k a t1 n1 with
    | none => none
    | some ⟨b, t2, n2, rd2, wr2⟩ => some ⟨b, t2, n2, rd1 ++ rd2, wr1 ++ wr2⟩
abbrev CallT := Fn → List AV → MT AV
structure SF where
  f : CallT → Ft → MT AV
def compO [Bk] (P : Program) (o : Oper) : SF :=
  match o.op with
  | .move x => ⟨fun _ f t n => some ⟨(opd x).f f, t, n, [], []⟩⟩
  | .assign x => ⟨fun _ f t n => some ⟨(opd x).f f, t, n, [], []⟩⟩
  | .pick c x y => ⟨fun _ f tr nx => finT (aF_pick P c x y (fun o => (opd o).f f) tr.get nx) tr nx⟩
  | .alloc e => ⟨fun _ f tr nx => finT (aF_alloc P e (fun o => (opd o).f f) tr.get nx) tr nx⟩
  | .box e x => ⟨fun _ f tr nx => finT (aF_box P e x (fun o => (opd o).f f) tr.get nx) tr nx⟩
  | .build t parts => ⟨fun _ f tr nx => finT (aF_build P t parts (fun o => (opd o).f f) tr.get nx) tr nx⟩
  | .buildSlice t len parts => ⟨fun _ f tr nx => finT (aF_buildSlice P t len parts (fun o => (opd o).f f) tr.get nx) tr nx⟩
  | .load t x => ⟨fun _ f tr nx => finT (aF_load P t x (fun o => (opd o).f f) tr.get nx) tr nx⟩
  | .store t x y => ⟨fun _ f tr nx => finT (aF_store P t x y (fun o => (opd o).f f) tr.get nx) tr nx⟩
  | .nilCheck x => ⟨fun _ f tr nx => finT (aF_nilCheck P x (fun o => (opd o).f f) tr.get nx) tr nx⟩
  | .binOp op t x y _ => ⟨fun _ f tr nx => finT (aF_binOp P op t x y (fun o => (opd o).f f) tr.get nx) tr nx⟩
  | .unOp op _ x => ⟨fun _ f tr nx => finT (aF_unOp P op x (fun o => (opd o).f f) tr.get nx) tr nx⟩
  | .convert s d x => ⟨fun _ f tr nx => finT (aF_convert P s d x (fun o => (opd o).f f) tr.get nx) tr nx⟩
  | .makeInterface t x => ⟨fun _ f tr nx => finT (aF_makeInterface P t x (fun o => (opd o).f f) tr.get nx) tr nx⟩
  | .makeFunc fn first captured => ⟨fun _ f tr nx => finT (aF_makeFunc P fn first captured (fun o => (opd o).f f) tr.get nx) tr nx⟩
  | .makeSlice t x y => ⟨fun _ f tr nx => finT (aF_makeSlice P t x y (fun o => (opd o).f f) tr.get nx) tr nx⟩
  | .slice t x lo hi mx => ⟨fun _ f tr nx => finT (aF_slice P t x lo hi mx (fun o => (opd o).f f) tr.get nx) tr nx⟩
  | .fieldAddr t x k => ⟨fun _ f tr nx => finT (aF_fieldAddr P t x k (fun o => (opd o).f f) tr.get nx) tr nx⟩
  | .field t x k => ⟨fun _ f tr nx => finT (aF_field P t x k (fun o => (opd o).f f) tr.get nx) tr nx⟩
  | .indexAddr t x ix => ⟨fun _ f tr nx => finT (aF_indexAddr P t x ix (fun o => (opd o).f f) tr.get nx) tr nx⟩
  | .index t x ix => ⟨fun _ f tr nx => finT (aF_index P t x ix (fun o => (opd o).f f) tr.get nx) tr nx⟩
  | .extract x k => ⟨fun _ f tr nx => finT (aF_extract P x k (fun o => (opd o).f f) tr.get nx) tr nx⟩
  | .typeAssert x _ asserted ok => ⟨fun _ f tr nx => finT (aF_typeAssert P x asserted ok (fun o => (opd o).f f) tr.get nx) tr nx⟩
  | .range t x => ⟨fun _ f tr nx => finT (aF_range P t x (fun o => (opd o).f f) tr.get nx) tr nx⟩
  | .next x str => ⟨fun _ f tr nx => finT (aF_next P x str (fun o => (opd o).f f) tr.get nx) tr nx⟩
  | .makeMap _ rs => ⟨fun _ f tr nx => finT (aF_makeMap P rs (fun o => (opd o).f f) tr.get nx) tr nx⟩
  | .insert t x k y => ⟨fun _ f tr nx => finT (aF_insert P t x k y (fun o => (opd o).f f) tr.get nx) tr nx⟩
  | .lookup t x k ok => ⟨fun _ f tr nx => finT (aF_lookup P t x k ok (fun o => (opd o).f f) tr.get nx) tr nx⟩
  | .call { callee := .builtin .len, args, argTypes } => ⟨fun _ f tr nx => finT (aF_b_len P args argTypes (fun o => (opd o).f f) tr.get nx) tr nx⟩
  | .call { callee := .builtin .append, args, argTypes } => ⟨fun _ f tr nx => finT (aF_b_append P args argTypes (fun o => (opd o).f f) tr.get nx) tr nx⟩
  | .call { callee := .builtin .max, args, argTypes } => ⟨fun _ f tr nx => finT (aF_b_max P args argTypes (fun o => (opd o).f f) tr.get nx) tr nx⟩
  | .call { callee := .builtin .min, args, argTypes } => ⟨fun _ f tr nx => finT (aF_b_min P args argTypes (fun o => (opd o).f f) tr.get nx) tr nx⟩
  | .call { callee := .builtin .clear, args, argTypes } => ⟨fun _ f tr nx => finT (aF_b_clear P args argTypes (fun o => (opd o).f f) tr.get nx) tr nx⟩
  | .call { callee := .value g, args, .. } => ⟨fun call f => match (opd g).f f with
    | .fn (.func k) first captured => call (.func k) (first ++ (args.toList.map fun o => (opd o).f f) ++ captured)
    | .yld id => call (.yield id) (args.toList.map fun o => (opd o).f f)
    | _ => tfail⟩
  | _ => ⟨fun call f => astepT P call o f⟩
structure QF where
  f : CallT → Ft → MT Ft
def compS [Bk] (P : Program) (ops : Array Oper) : List Oper → QF
  | [] => ⟨fun _ f => tpure f⟩
  | o :: l => match o.guard with
    | none => match o.op with
      | .move x => ⟨fun call f => (compS P ops l).f call ((dstF o.dst).f f ((opd x).f f))⟩
      | .assign x => ⟨fun call f => (compS P ops l).f call ((dstF o.dst).f f ((opd x).f f))⟩
      | _ => ⟨fun call f => bindT ((compO P o).f call f) fun v => (compS P ops l).f call ((dstF o.dst).f f v)⟩
    | some _ => ⟨fun call f => match guardT ops o f with
      | some true => bindT ((compO P o).f call f) fun v => (compS P ops l).f call ((dstF o.dst).f f v)
      | some false => (compS P ops l).f call ((dstF o.dst).f f .undef)
      | none => tfail⟩
structure DF where
  f : CallT → Ft → MT (Ft × List Eff)
def logT (x : MT AV) : MT (AV × Eff) := fun t n =>
  match x t n with
  | none => none
  | some ⟨a, t1, n1, rd, wr⟩ => some ⟨(a, ⟨a, (wr ++ List.range' n (n1 - n)).map fun id => (id, t1.get id), rd, n, n1, false⟩), t1, n1, rd, wr⟩
def compD [Bk] (P : Program) (ops : Array Oper) : List Oper → DF
  | [] => ⟨fun _ f => tpure (f, [])⟩
  | o :: l => ⟨fun call f => match guardT ops o f with
    | some true => bindT (logT ((compO P o).f call f)) fun v => bindT ((compD P ops l).f call ((dstF o.dst).f f v.1)) fun q => tpure (q.1, v.2 :: q.2)
    | some false => bindT ((compD P ops l).f call ((dstF o.dst).f f .undef)) fun q => tpure (q.1, ⟨.undef, [], [], 0, 0, true⟩ :: q.2)
    | none => tfail⟩
structure CF where
  f : CallT → Nat → Ft → MT (AX × Ft)
def loopT (g : CF) (call : CallT) : Nat → Ft → MT (AX × Ft)
  | 0, _ => tfail
  | n + 1, f => bindT (g.f call n f) fun q => match q with
    | (.normal, f') => loopT g call n f'
    | q => tpure q
def compC [Bk] (P : Program) (tp : Bool) : Code → CF
  | .skip => ⟨fun _ n f => match n with | 0 => tfail | _ + 1 => tpure (.normal, f)⟩
  | .region _ ops draw => if draw then ⟨fun call n f => match n with
      | 0 => tfail
      | _ + 1 => bindT (if P.follows .mixedOrders then bindT ((compD P ops ops.toList).f call f) fun q => if drawF ops q.2 then tpure q.1 else tfail else tfail) fun f' => tpure (.normal, f')⟩
    else ⟨fun call n f => match n with
      | 0 => tfail
      | _ + 1 => bindT ((compS P ops ops.toList).f call f) fun f' => tpure (.normal, f')⟩
  | .seq x y => ⟨fun call n f => match n with
    | 0 => tfail
    | n + 1 => bindT ((compC P tp x).f call n f) fun q => match q with
      | (.normal, f') => (compC P tp y).f call n f'
      | q => tpure q⟩
  | .cond c x y => ⟨fun call n f => match n with
    | 0 => tfail
    | n + 1 => match (opd c).f f with
      | .c (.bool b) => bif b then (compC P tp x).f call n f else (compC P tp y).f call n f
      | _ => tfail⟩
  | .block id c => ⟨fun call n f => match n with
    | 0 => tfail
    | n + 1 => bindT ((compC P tp c).f call n f) fun q => match q with
      | (.exit id', f') => if id' = id then tpure (.normal, f') else tpure (.exit id', f')
      | q => tpure q⟩
  | .loop c => ⟨fun call n f => loopT (compC P tp c) call n f⟩
  | .rangeFunc g ps as bd => ⟨fun call n f => match n with
    | 0 => tfail
    | _ + 1 => if tp then match (opd g).f f with
        | .fn (.func k) [] captured => match Ft.list f 4096 0 with
          | none => tfail
          | some l => bindT (newLT l ps as bd) fun id => bindT (call (.func k) (.yld id :: captured)) fun _ => bindT (atLT id overG) fun x => tpure (x, f)
        | _ => tfail
      else tfail⟩
  | .scope c => ⟨fun call n f => match n with
    | 0 => tfail
    | n + 1 => (compC P tp c).f call n f⟩
  | .label _ => ⟨fun _ n f => match n with | 0 => tfail | _ + 1 => tpure (.normal, f)⟩
  | .exit id => ⟨fun _ n f => match n with | 0 => tfail | _ + 1 => tpure (.exit id, f)⟩
  | .ret => ⟨fun _ n f => match n with | 0 => tfail | _ + 1 => tpure (.ret, f)⟩
  | _ => ⟨fun _ _ _ => tfail⟩
def compT {α : Type} (x : MT α) : MT α := fun t n =>
  match x t n with
  | none => none
  | some ⟨a, t1, n1, rd, wr⟩ => some ⟨a, t1, n1, (rd.filter fun id => !(decide (n ≤ id) && decide (id < n1))).eraseDups, (wr.filter fun id => !(decide (n ≤ id) && decide (id < n1))).eraseDups⟩
structure FF where
  f : CallT → List AV → MT AV
def compF [Bk] (P : Program) (L : Nat) (k : FuncId) : FF :=
  match P.funcs[k]? with
    | none => ⟨fun _ _ => tfail⟩
    | some fn =>
      let body : CallT → List AV → MT AV := match fn.body with
        | none => fun _ _ => tfail
        | some c => if fn.name == "runtime.NumGoroutine" then fun _ _ => tfail else fun call args =>
          compT (bindT ((compC P true c).f call L (Ft.of (args.length + fn.ntmps) (args ++ List.replicate (fn.ntmps - args.length) .undef))) fun q => match q.1 with
            | .exit _ => tfail
            | _ => resT P fn q.2)
      match isClone fn with
      | some t => ⟨fun call args => match args with
        | [x] => cloneT P t x
        | _ => body call args⟩
      | none => ⟨body⟩
/-- A round. -/
def yieldF [Bk] (P : Program) (L : Nat) (call : CallT) (id : Nat) (args : List AV) : MT AV :=
  bindT (atLT id getG) fun q => if args.length = q.2.1.size then
    bindT ((compC P false q.2.2.1).f call L (Ft.of (putsA q.1 q.2.1 args).length (putsA q.1 q.2.1 args))) fun r => match r.1 with
      | .normal => bindT (atLT id busyG) fun _ => bindT ((compC P false q.2.2.2).f call L r.2) fun s => atLT id (turnG s.1)
      | _ => tfail
  else tfail
def acallN [Bk] (P : Program) (L : Nat) : Nat → Fn → List AV → MT AV
  | 0, _, _ => tfail
  | d + 1, .func k, args => match extA P k args with
    | some v => tpure v
    | none => if knB P k = true then knT k args else (compF P L k).f (acallN P L d) args
  | d + 1, .yield id, args => compT (yieldF P L (acallN P L d) id args)
  | _ + 1, _, _ => tfail
def acallF [Bk] (P : Program) (L d : Nat) (k : FuncId) (args : List AV) : MT AV := acallN P L d (.func k) args

/-- Where the one answers the other does, and so. -/
def Le {α : Type} (x y : MT α) : Prop := ∀ t n r, x t n = some r → y t n = some r
theorem Le.refl {α : Type} (x : MT α) : Le x x := fun _ _ _ h => h
theorem Le.of_eq {α : Type} {x y : MT α} (h : x = y) : Le x y := h ▸ Le.refl x
theorem Le.fail {α : Type} {y : MT α} : Le tfail y := fun _ _ _ h => by cases h
theorem Le.bind {α β : Type} {x y : MT α} {k l : α → MT β} (h : Le x y) (hk : ∀ a, Le (k a) (l a)) : Le (bindT x k) (tbind y l) := by
  intro t n r hr
  unfold bindT at hr
  unfold tbind
  cases hx : x t n with
  | none => rw [hx] at hr; cases hr
  | some q =>
    obtain ⟨a, t1, n1, rd1, wr1⟩ := q
    rw [hx] at hr
    simp only at hr
    rw [h _ _ _ hx]
    simp only
    cases hy : k a t1 n1 with
    | none => rw [hy] at hr; cases hr
    | some s =>
      obtain ⟨b, t2, n2, rd2, wr2⟩ := s
      rw [hy] at hr
      rw [hk a _ _ _ hy]
      exact hr
theorem tbind_pure {α β : Type} (v : α) (k : α → MT β) : tbind (tpure v) k = k v := by
  funext t n
  unfold tbind tpure
  simp only
  cases k v t n with
  | none => rfl
  | some s => obtain ⟨b, t2, n2, rd2, wr2⟩ := s; simp
theorem opd_eq (o : Operand) (f : Ft) : (opd o).f f = aevT f o := by cases o <;> rfl
theorem opd_fun (f : Ft) : (fun o => (opd o).f f) = aevT f := funext fun o => opd_eq o f
theorem dstF_eq (d : Option Tmp) (f : Ft) (v : AV) : (dstF d).f f v = f.st d v := by cases d <;> rfl
theorem finT_eq (r : Option AR) (t : Tr) (n : Nat) : finT r t n = (match r with
  | none => none
  | some r => some ⟨r.v, t.ups r.ups, if (r.ups.map (·.1)).contains n then n + 1 else n, r.rds, r.ups.map (·.1)⟩) := by
  cases r with
  | none => rfl
  | some r =>
    obtain ⟨v, ups, rds⟩ := r
    cases ups with
    | nil => rfl
    | cons u us => rfl
section
variable {P : Program} {cf ct : CallT}
theorem aopT_fin [Bk] (op : Op) (f : Ft) : aopT P op f = fun t n => finT (aopF P op (fun o => (opd o).f f) t.get n) t n := by
  funext t n
  rw [finT_eq, opd_fun]
  rfl
theorem astepT_le [Bk] (hc : ∀ k args, Le (cf k args) (ct k args)) (o : Oper) (f : Ft) : Le (astepT P cf o f) (astepT P ct o f) := by
  unfold astepT
  cases calleeA P (aevT f) o.op with
  | none =>
    simp only
    cases yieldA (aevT f) o.op with
    | none => exact Le.refl _
    | some p => exact hc _ _
  | some p => exact hc _ _
theorem astepT_val [Bk] {o : Oper} {f : Ft} {g : Operand} {args : Array Operand} {tys : Array TypeId} (h : o.op = .call ⟨.value g, args, tys⟩) {k : FuncId} {first captured : List AV} (hg : aevT f g = .fn (.func k) first captured) :
    astepT P ct o f = ct (.func k) (first ++ args.toList.map (aevT f) ++ captured) := by
  unfold astepT
  have e : calleeA P (aevT f) o.op = some (k, first ++ args.toList.map (aevT f) ++ captured) := by
    rw [h]; unfold calleeA; simp only [hg]
  rw [e]
theorem astepT_yld [Bk] {o : Oper} {f : Ft} {g : Operand} {args : Array Operand} {tys : Array TypeId} (h : o.op = .call ⟨.value g, args, tys⟩) {id : Nat} (hg : aevT f g = .yld id) :
    astepT P ct o f = ct (.yield id) (args.toList.map (aevT f)) := by
  unfold astepT
  have e : calleeA P (aevT f) o.op = none := by
    rw [h]; unfold calleeA; simp only [hg]
  have e2 : yieldA (aevT f) o.op = some (id, args.toList.map (aevT f)) := by
    rw [h]; unfold yieldA; simp only [hg]
  rw [e]
  simp only [e2]
theorem astepT_op [Bk] {o : Oper} {f : Ft} (h : calleeA P (aevT f) o.op = none) (hy : yieldA (aevT f) o.op = none) : astepT P ct o f = fun t n => finT (aopF P o.op (fun o => (opd o).f f) t.get n) t n := by
  unfold astepT
  rw [h]
  simp only [hy]
  exact aopT_fin _ f
set_option maxHeartbeats 1000000 in
theorem compO_le [Bk] (hc : ∀ k args, Le (cf k args) (ct k args)) (o : Oper) (f : Ft) : Le ((compO P o).f cf f) (astepT P ct o f) := by
  cases h : o.op
  case call c =>
    obtain ⟨cl, args, tys⟩ := c
    cases cl with
    | value g =>
      unfold compO
      rw [h]
      show Le (match (opd g).f f with
        | .fn (.func k) first captured => cf (.func k) (first ++ (args.toList.map fun o => (opd o).f f) ++ captured)
        | .yld id => cf (.yield id) (args.toList.map fun o => (opd o).f f)
        | _ => tfail) _
      rw [opd_eq]
      split
      · rename_i k first captured he
        rw [astepT_val h he, opd_fun]
        exact hc _ _
      · rename_i id he
        rw [astepT_yld h he, opd_fun]
        exact hc _ _
      · exact Le.fail
    | builtin b =>
      unfold compO
      rw [h]
      cases b <;> first
        | exact astepT_le hc o f
        | (rw [astepT_op (by rw [h]; rfl) (by rw [h]; rfl), h]; exact Le.refl _)
    | _ =>
      unfold compO
      rw [h]
      exact astepT_le hc o f
  all_goals
    unfold compO
    rw [h]
    first
      | exact astepT_le hc o f
      | (rw [astepT_op (by rw [h]; rfl) (by rw [h]; rfl), h]; exact Le.refl _)
theorem compS_le [Bk] (hc : ∀ k args, Le (cf k args) (ct k args)) (ops : Array Oper) : ∀ (l : List Oper) (f : Ft), Le ((compS P ops l).f cf f) (aseqT P ct ops l f)
  | [], f => Le.refl _
  | o :: l, f => by
    have ih := compS_le hc ops l
    have go : Le (bindT ((compO P o).f cf f) fun v => (compS P ops l).f cf ((dstF o.dst).f f v)) (tbind (astepT P ct o f) fun v => aseqT P ct ops l (f.st o.dst v)) :=
      Le.bind (compO_le hc o f) fun v => by rw [dstF_eq]; exact ih _
    have mv : ∀ x, astepT P ct o f = tpure (aevT f x) → Le ((compS P ops l).f cf ((dstF o.dst).f f ((opd x).f f))) (tbind (astepT P ct o f) fun v => aseqT P ct ops l (f.st o.dst v)) := by
      intro x hx
      rw [hx, tbind_pure, dstF_eq, opd_eq]
      exact ih _
    simp only [compS, aseqT]
    cases hg : o.guard with
    | none =>
      have hgt : guardT ops o f = some true := by unfold guardT; rw [hg]
      rw [hgt]
      simp only
      split
      · rename_i x hx
        refine mv x ?_
        unfold astepT
        rw [hx]
        rfl
      · rename_i x hx
        refine mv x ?_
        unfold astepT
        rw [hx]
        rfl
      · exact go
    | some q =>
      simp only
      cases guardT ops o f with
      | none => exact Le.fail
      | some b =>
        cases b
        · simp only; rw [dstF_eq]; exact ih _
        · exact go
theorem logT_le {x y : MT AV} (h : Le x y) : Le (logT x) (mlogT y) := by
  intro t n r hr
  unfold logT at hr
  unfold mlogT
  cases hx : x t n with
  | none => rw [hx] at hr; cases hr
  | some q =>
    obtain ⟨a, t1, n1, rd1, wr1⟩ := q
    rw [hx] at hr
    rw [h _ _ _ hx]
    exact hr
theorem compD_le [Bk] (hc : ∀ k args, Le (cf k args) (ct k args)) (ops : Array Oper) : ∀ (l : List Oper) (f : Ft), Le ((compD P ops l).f cf f) (adrawLT P ct ops l f)
  | [], f => Le.refl _
  | o :: l, f => by
    have ih := compD_le hc ops l
    simp only [compD, adrawLT]
    cases guardT ops o f with
    | none => exact Le.fail
    | some b =>
      cases b
      · simp only
        exact Le.bind (by rw [dstF_eq]; exact ih _) fun q => Le.refl _
      · simp only
        exact Le.bind (logT_le (compO_le hc o f)) fun v => Le.bind (by rw [dstF_eq]; exact ih _) fun q => Le.refl _
theorem draw_le [Bk] (hc : ∀ k args, Le (cf k args) (ct k args)) (ops : Array Oper) (f : Ft) :
    Le (if P.follows .mixedOrders then bindT ((compD P ops ops.toList).f cf f) fun q => if drawF ops q.2 then tpure q.1 else tfail else tfail) (adrawT P ct ops f) := by
  unfold adrawT
  split
  · refine Le.bind (compD_le hc ops _ f) fun q => ?_
    by_cases h : drawF ops q.2 = true
    · rw [if_pos h, if_pos (drawF_ok h)]; exact Le.refl _
    · rw [if_neg h]; exact Le.fail
  · exact Le.fail
theorem compC_le [Bk] (hc : ∀ k args, Le (cf k args) (ct k args)) {tp : Bool} : ∀ (n : Nat) (c : Code) (f : Ft), Le ((compC P tp c).f cf n f) (acodeT P ct tp n c f)
  | 0, c, f => by
    cases c <;> try exact Le.fail
    case region id ops draw => cases draw <;> exact Le.fail
  | n + 1, c, f => by
    cases c with
    | skip => exact Le.refl _
    | region id ops draw =>
      cases draw
      · show Le (bindT ((compS P ops ops.toList).f cf f) fun f' => tpure (AX.normal, f')) (tbind (aseqT P ct ops ops.toList f) fun f' => tpure (AX.normal, f'))
        exact Le.bind (compS_le hc ops _ f) fun f' => Le.refl _
      · show Le (bindT (if P.follows .mixedOrders then bindT ((compD P ops ops.toList).f cf f) fun q => if drawF ops q.2 then tpure q.1 else tfail else tfail) fun f' => tpure (AX.normal, f')) (tbind (adrawT P ct ops f) fun f' => tpure (AX.normal, f'))
        exact Le.bind (draw_le hc ops f) fun f' => Le.refl _
    | seq x y =>
      refine Le.bind (compC_le hc n x f) fun q => ?_
      obtain ⟨a, f'⟩ := q
      cases a with
      | normal => exact compC_le hc n y f'
      | _ => exact Le.refl _
    | cond c x y =>
      show Le (match (opd c).f f with | .c (.bool b) => bif b then (compC P tp x).f cf n f else (compC P tp y).f cf n f | _ => tfail) (match aevT f c with | .c (.bool b) => acodeT P ct tp n (if b then x else y) f | _ => tfail)
      rw [opd_eq]
      split
      · rename_i b _
        cases b
        · exact compC_le hc n y f
        · exact compC_le hc n x f
      · exact Le.fail
    | block id c =>
      refine Le.bind (compC_le hc n c f) fun q => ?_
      obtain ⟨a, f'⟩ := q
      cases a with
      | exit id' =>
        simp only
        split <;> exact Le.refl _
      | _ => exact Le.refl _
    | loop c =>
      have key : ∀ (m : Nat) (f : Ft), m ≤ n + 1 → (∀ m', m' < m → ∀ f, Le ((compC P tp c).f cf m' f) (acodeT P ct tp m' c f)) → Le (loopT (compC P tp c) cf m f) (acodeT P ct tp m (.loop c) f) := by
        intro m
        induction m with
        | zero => intro f _ _; exact Le.fail
        | succ m ih =>
          intro f hm hb
          refine Le.bind (hb m (by omega) f) fun q => ?_
          obtain ⟨a, f'⟩ := q
          cases a with
          | normal => exact ih f' (by omega) (fun m' h => hb m' (by omega))
          | _ => exact Le.refl _
      exact key (n + 1) f (Nat.le_refl _) fun m' h f => compC_le hc m' c f
    | rangeFunc g ps as bd =>
      show Le (if tp then match (opd g).f f with
        | .fn (.func k) [] captured => match Ft.list f 4096 0 with
          | none => tfail
          | some l => bindT (newLT l ps as bd) fun id => bindT (cf (.func k) (.yld id :: captured)) fun _ => bindT (atLT id overG) fun x => tpure (x, f)
        | _ => tfail
      else tfail) (if tp then match aevT f g with
        | .fn (.func k) [] captured => match Ft.list f 4096 0 with
          | none => tfail
          | some l => tbind (newLT l ps as bd) fun id => tbind (ct (.func k) (.yld id :: captured)) fun _ => tbind (atLT id overG) fun x => tpure (x, f)
        | _ => tfail
      else tfail)
      rw [opd_eq]
      cases tp with
      | false => exact Le.fail
      | true =>
        simp only [if_true]
        split
        · cases Ft.list f 4096 0 with
          | none => exact Le.fail
          | some l => exact Le.bind (Le.refl _) fun id => Le.bind (hc _ _) fun _ => Le.bind (Le.refl _) fun x => Le.refl _
        · exact Le.fail
    | scope c => exact compC_le hc n c f
    | label l => exact Le.refl _
    | exit id => exact Le.refl _
    | ret => exact Le.refl _
    | _ => exact Le.fail
  termination_by n => n
  decreasing_by all_goals omega
theorem compT_le {α : Type} {x y : MT α} (h : Le x y) : Le (compT x) (mcompT y) := by
  intro t n r hr
  unfold compT at hr
  unfold mcompT
  cases hx : x t n with
  | none => rw [hx] at hr; cases hr
  | some q =>
    obtain ⟨a, t1, n1, rd1, wr1⟩ := q
    rw [hx] at hr
    rw [h _ _ _ hx]
    exact hr
theorem compF_le [Bk] (L : Nat) (hc : ∀ k args, Le (cf k args) (ct k args)) (k : FuncId) (args : List AV) : Le ((compF P L k).f cf args) (acallBT P L ct k args) := by
  unfold compF acallBT
  cases P.funcs[k]? with
  | none => exact Le.fail
  | some fn =>
    simp only
    have body : Le ((match fn.body with
        | none => fun _ _ => tfail
        | some c => if fn.name == "runtime.NumGoroutine" then fun _ _ => tfail else fun call args =>
          compT (bindT ((compC P true c).f call L (Ft.of (args.length + fn.ntmps) (args ++ List.replicate (fn.ntmps - args.length) .undef))) fun q => match q.1 with
            | .exit _ => tfail
            | _ => resT P fn q.2) : CallT → List AV → MT AV) cf args) (match fn.body with
        | none => tfail
        | some c => if fn.name == "runtime.NumGoroutine" then tfail else
          mcompT (tbind (acodeT P ct true L c (Ft.of (args.length + fn.ntmps) (args ++ List.replicate (fn.ntmps - args.length) .undef))) fun q => match q.1 with
            | .exit _ => tfail
            | _ => resT P fn q.2)) := by
      cases fn.body with
      | none => exact Le.fail
      | some c =>
        simp only
        split
        · exact Le.fail
        · refine compT_le (Le.bind (compC_le hc L c _) fun q => ?_)
          split
          · exact Le.fail
          · exact Le.refl _
    cases isClone fn with
    | none => exact body
    | some t =>
      cases args with
      | nil => exact body
      | cons x l =>
        cases l with
        | nil => exact Le.refl _
        | cons y l => exact body
theorem yieldF_le [Bk] (hc : ∀ k args, Le (cf k args) (ct k args)) (L id : Nat) (args : List AV) : Le (yieldF P L cf id args) (ayieldT P L ct id args) := by
  unfold yieldF ayieldT
  refine Le.bind (Le.refl _) fun q => ?_
  split
  · refine Le.bind (compC_le hc L _ _) fun r => ?_
    obtain ⟨x, f⟩ := r
    cases x with
    | normal => exact Le.bind (Le.refl _) fun _ => Le.bind (compC_le hc L _ _) fun s => Le.refl _
    | _ => exact Le.fail
  · exact Le.fail
theorem acallN_le [Bk] (L : Nat) : ∀ d k args, Le (acallN P L d k args) (acallT P L d k args)
  | 0, k, args => Le.fail
  | d + 1, .func k, args => by
    have ih := compF_le (P := P) L (acallN_le L d) k args
    simp only [acallN, acallT]
    cases extA P k args with
    | some v => exact Le.refl _
    | none =>
      simp only
      split
      · exact Le.refl _
      · exact ih
  | d + 1, .yield id, args => compT_le (yieldF_le (acallN_le L d) L id args)
  | d + 1, .method _, args => Le.fail
  | d + 1, .methodOf _ _, args => Le.fail
  | d + 1, .via _ _ _ _, args => Le.fail
theorem acallF_le [Bk] (L d : Nat) (k : FuncId) (args : List AV) : Le (acallF P L d k args) (acallT P L d (.func k) args) := acallN_le L d (.func k) args
theorem saysYes_F [Bk] {L d : Nat} {k : FuncId} {args : List AV} {t : Tr} {n : Nat} (h : saysYes (acallF P L d k args t n) = true) : saysYes (acallT P L d (.func k) args t n) = true := by
  cases hr : acallF P L d k args t n with
  | none => rw [hr] at h; cases h
  | some r => rw [hr] at h; rw [acallF_le L d k args t n r hr]; exact h
end
end Go.Proofs.YtjbgfhafinfjbaaGreat.Mc
