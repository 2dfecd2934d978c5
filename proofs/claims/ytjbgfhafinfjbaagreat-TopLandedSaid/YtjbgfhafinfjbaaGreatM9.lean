/-
  A machine of plain data beside the model: statements that draw their order. No program in sight.
-/
import Derived.Test.YtjbgfhafinfjbaaGreatM8
set_option linter.unusedVariables false
set_option linter.unusedSimpArgs false
namespace Go.Proofs.YtjbgfhafinfjbaaGreat.Mc
open Go.RowKit

/-- What an operation has done: its value, the blocks that it turned, those that it looked at, the numbers of its own blocks; whether it was passed over. -/
structure Eff where
  v : AV
  ups : List (Nat × Blk)
  rds : List Nat
  lo : Nat
  hi : Nat
  skip : Bool

def tmpsOf (l : List Operand) : List Nat := l.filterMap fun | .tmp t => some t | _ => none
def guardTmp (ops : Array Oper) (o : Oper) : List Nat :=
  match o.guard with
  | none => []
  | some (j, _) => ((ops[j]?).bind (·.dst)).toList
def footT (ops : Array Oper) (o : Oper) : List Nat := tmpsOf o.op.operands.toList ++ guardTmp ops o

section
variable {P : Program} {ops : Array Oper}

/-- The operation does so wherever what it looks at is so. -/
def Does [Bk] [Ev] (P : Program) (ops : Array Oper) (o : Oper) (E : Eff) (f : List AV) (h : AH) : Prop :=
  ∀ f' h', f'.length = f.length → (∀ t ∈ footT ops o, f'[t]? = f[t]?) → (∀ id ∈ E.rds, h' id = h id) → (∀ id, E.lo ≤ id → id < E.hi → h' id = h id) →
    if E.skip then guardA ops o f' = some false ∧ E.v = .undef ∧ E.ups = [] else guardA ops o f' = some true ∧ StepOk P o f' h' (fun v h'' => v = E.v ∧ h'' = upsB h' E.ups)

abbrev Sg := List AV × AH
def app (x : Oper × Eff) (s : Sg) : Sg := (fset s.1 x.1.dst x.2.v, upsB s.2 x.2.ups)

def idsW (E : Eff) : List Nat := E.ups.map (·.1)
def seesB (E : Eff) (id : Nat) : Bool := E.rds.contains id || (decide (E.lo ≤ id) && decide (id < E.hi))
/-- Two operations that do not meet. -/
def apartB (ops : Array Oper) (x y : Oper × Eff) : Bool :=
  (match x.1.dst with | none => true | some d => !(footT ops y.1).contains d) && (match y.1.dst with | none => true | some d => !(footT ops x.1).contains d) &&
  (match x.1.dst, y.1.dst with | some d, some d' => d != d' | _, _ => true) &&
  (idsW x.2).all (fun id => !seesB y.2 id && !(idsW y.2).contains id) && (idsW y.2).all (fun id => !seesB x.2 id && !(idsW x.2).contains id)

theorem upsB_not [Bk] [Ev] {u : List (Nat × Blk)} : ∀ {h : AH} {id : Nat}, id ∉ u.map (·.1) → upsB h u id = h id := by
  induction u with
  | nil => intro h id _; rfl
  | cons p u ih =>
    intro h id hn
    simp only [List.map_cons, List.mem_cons, not_or] at hn
    simp only [upsB]
    rw [ih hn.2, bset_other _ _ hn.1]
theorem upsB_in [Bk] [Ev] {u : List (Nat × Blk)} : ∀ {h h' : AH} {id : Nat}, id ∈ u.map (·.1) → upsB h u id = upsB h' u id := by
  induction u with
  | nil => intro h h' id hn; simp at hn
  | cons p u ih =>
    intro h h' id hn
    simp only [upsB]
    by_cases h1 : id ∈ u.map (·.1)
    · exact ih h1
    · simp only [List.map_cons, List.mem_cons] at hn
      have e : id = p.1 := hn.resolve_right h1
      rw [upsB_not h1, upsB_not h1, e, bset_same, bset_same]
theorem upsB_comm [Bk] [Ev] {u u' : List (Nat × Blk)} (h : AH) (hd : ∀ id ∈ u.map (·.1), id ∉ u'.map (·.1)) : upsB (upsB h u) u' = upsB (upsB h u') u := by
  funext id
  by_cases h1 : id ∈ u.map (·.1)
  · rw [upsB_not (hd id h1)]; exact upsB_in h1
  · by_cases h2 : id ∈ u'.map (·.1)
    · rw [upsB_not (u := u) h1]; exact upsB_in h2
    · rw [upsB_not h2, upsB_not h1, upsB_not h1, upsB_not h2]
theorem fset_other [Bk] [Ev] {f : List AV} {d : Option Tmp} {v : AV} {t : Nat} (h : d ≠ some t) : (fset f d v)[t]? = f[t]? := by
  cases d with
  | none => rfl
  | some d => simp only [fset]; rw [List.getElem?_set_ne]; rintro rfl; exact h rfl
theorem fset_len [Bk] [Ev] (f : List AV) (d : Option Tmp) (v : AV) : (fset f d v).length = f.length := by cases d <;> simp [fset]
theorem fset_comm [Bk] [Ev] {f : List AV} {d d' : Option Tmp} {v v' : AV} (h : ∀ t, d = some t → d' ≠ some t) : fset (fset f d v) d' v' = fset (fset f d' v') d v := by
  cases d with
  | none => rfl
  | some d =>
    cases d' with
    | none => rfl
    | some d' => simp only [fset]; exact List.set_comm _ _ (by rintro rfl; exact h _ rfl rfl)

structure Apart2 (ops : Array Oper) (x y : Oper × Eff) : Prop where
  a : ∀ d, x.1.dst = some d → d ∉ footT ops y.1
  b : ∀ d, y.1.dst = some d → d ∉ footT ops x.1
  c : ∀ d, x.1.dst = some d → y.1.dst ≠ some d
  d : ∀ id ∈ idsW x.2, id ∉ y.2.rds ∧ ¬ (y.2.lo ≤ id ∧ id < y.2.hi) ∧ id ∉ idsW y.2
  e : ∀ id ∈ idsW y.2, id ∉ x.2.rds ∧ ¬ (x.2.lo ≤ id ∧ id < x.2.hi) ∧ id ∉ idsW x.2
theorem apartB_iff [Bk] [Ev] {x y : Oper × Eff} (h : apartB ops x y = true) : Apart2 ops x y := by
  simp only [apartB, Bool.and_eq_true, List.all_eq_true] at h
  obtain ⟨⟨⟨⟨h1, h2⟩, h3⟩, h4⟩, h5⟩ := h
  refine ⟨?_, ?_, ?_, ?_, ?_⟩
  · intro d hd hm; rw [hd] at h1; simp at h1; exact h1 hm
  · intro d hd hm; rw [hd] at h2; simp at h2; exact h2 hm
  · intro d hd he; rw [hd, he] at h3; simp at h3
  · intro id hid
    have := h4 id hid
    simp [seesB] at this
    refine ⟨this.1.1, fun ⟨a, b⟩ => ?_, this.2⟩
    have := this.1.2; omega
  · intro id hid
    have := h5 id hid
    simp [seesB] at this
    refine ⟨this.1.1, fun ⟨a, b⟩ => ?_, this.2⟩
    have := this.1.2; omega
theorem Does.far [Bk] [Ev] {x y : Oper × Eff} (h : Apart2 ops x y) {s : Sg} : Does P ops y.1 y.2 s.1 s.2 ↔ Does P ops y.1 y.2 (app x s).1 (app x s).2 := by
  have h1 : ∀ t ∈ footT ops y.1, (app x s).1[t]? = s.1[t]? := fun t ht => fset_other fun e => h.a t e ht
  have h2 : ∀ id ∈ y.2.rds, (app x s).2 id = s.2 id := fun id hid => upsB_not fun hm => (h.d id hm).1 hid
  have h3 : ∀ id, y.2.lo ≤ id → id < y.2.hi → (app x s).2 id = s.2 id := fun id a b => upsB_not fun hm => (h.d id hm).2.1 ⟨a, b⟩
  have h0 : (app x s).1.length = s.1.length := fset_len _ _ _
  constructor
  · intro k f' h' e0 e1 e2 e3
    exact k f' h' (e0.trans h0) (fun t ht => (e1 t ht).trans (h1 t ht)) (fun id hid => (e2 id hid).trans (h2 id hid)) fun id a b => (e3 id a b).trans (h3 id a b)
  · intro k f' h' e0 e1 e2 e3
    exact k f' h' (e0.trans h0.symm) (fun t ht => (e1 t ht).trans (h1 t ht).symm) (fun id hid => (e2 id hid).trans (h2 id hid).symm) fun id a b => (e3 id a b).trans (h3 id a b).symm
theorem app_comm [Bk] [Ev] {x y : Oper × Eff} (h : Apart2 ops x y) (s : Sg) : app y (app x s) = app x (app y s) := by
  unfold app
  rw [fset_comm (fun t ht => h.c t ht), upsB_comm _ (fun id hid => (h.d id hid).2.2)]
theorem Apart2.symm [Bk] [Ev] {x y : Oper × Eff} (h : Apart2 ops x y) : Apart2 ops y x := ⟨h.b, h.a, fun d hd he => h.c d he hd, h.e, h.d⟩

def Run [Bk] [Ev] (P : Program) (ops : Array Oper) : List (Oper × Eff) → Sg → Prop
  | [], _ => True
  | x :: l, s => Does P ops x.1 x.2 s.1 s.2 ∧ Run P ops l (app x s)
def fin (l : List (Oper × Eff)) (s : Sg) : Sg := l.foldl (fun s x => app x s) s
theorem Run.append [Bk] [Ev] {l l' : List (Oper × Eff)} : ∀ {s : Sg}, Run P ops (l ++ l') s ↔ Run P ops l s ∧ Run P ops l' (fin l s) := by
  induction l with
  | nil => intro s; simp [Run, fin]
  | cons x l ih =>
    intro s
    simp only [List.cons_append, Run]
    rw [ih]
    simp only [fin, List.foldl_cons, and_assoc]
theorem fin_append [Bk] [Ev] (l l' : List (Oper × Eff)) (s : Sg) : fin (l ++ l') s = fin l' (fin l s) := by simp [fin]
theorem Run.move [Bk] [Ev] {t : Oper × Eff} : ∀ (pre post : List (Oper × Eff)) (s : Sg), (∀ x ∈ pre, Apart2 ops t x) → Run P ops (t :: (pre ++ post)) s → Run P ops (pre ++ t :: post) s ∧ fin (pre ++ t :: post) s = fin (t :: (pre ++ post)) s
  | [], post, s, _, h => ⟨h, rfl⟩
  | x :: pre, post, s, ha, h => by
    have hx := ha x (by simp)
    simp only [List.cons_append, Run] at h ⊢
    obtain ⟨h1, h2, h3⟩ := h
    have k2 := (Does.far (P := P) hx).2 h2
    have k1 := (Does.far (P := P) hx.symm).1 h1
    rw [app_comm hx] at h3
    obtain ⟨q1, q2⟩ := Run.move pre post (app x s) (fun y hy => ha y (by simp [hy])) ⟨k1, h3⟩
    refine ⟨⟨k2, q1⟩, ?_⟩
    show fin (pre ++ t :: post) (app x s) = fin (x :: (pre ++ post)) (app t s)
    rw [q2]
    show fin (pre ++ post) (app t (app x s)) = fin (pre ++ post) (app x (app t s))
    rw [app_comm hx]

/-- Any order that keeps what must be kept comes to the same. -/
theorem Run.perm [Bk] [Ev] {it : Nat → Oper × Eff} {anc : Nat → Nat → Prop} : ∀ (T L : List Nat) (s : Sg), L.Perm T → T.Pairwise (· < ·) → L.Pairwise (fun a b => ¬ anc b a) → (∀ i j, i ∈ T → j ∈ T → i < j → anc i j ∨ Apart2 ops (it i) (it j)) → Run P ops (T.map it) s → Run P ops (L.map it) s ∧ fin (L.map it) s = fin (T.map it) s
  | [], L, s, hp, _, _, _, _ => by
    have := hp.eq_nil
    subst this
    exact ⟨trivial, rfl⟩
  | t :: T, L, s, hp, hT, hL, hi, hr => by
    have hmem : t ∈ L := hp.symm.subset (by simp)
    obtain ⟨pre, post, rfl⟩ := List.append_of_mem hmem
    have hp' : (pre ++ post).Perm T := by
      have : (t :: (pre ++ post)).Perm (t :: T) := (List.perm_middle.symm).trans hp
      exact List.Perm.cons_inv this
    rw [List.pairwise_cons] at hT
    rw [List.pairwise_append] at hL
    obtain ⟨hL1, hL2, hL3⟩ := hL
    rw [List.pairwise_cons] at hL2
    have hL' : (pre ++ post).Pairwise (fun a b => ¬ anc b a) := List.pairwise_append.2 ⟨hL1, hL2.2, fun a ha b hb => hL3 a ha b (by simp [hb])⟩
    simp only [List.map_cons, Run] at hr
    obtain ⟨q1, q2⟩ := Run.perm T (pre ++ post) (app (it t) s) hp' hT.2 hL' (fun i j h1 h2 => hi i j (by simp [h1]) (by simp [h2])) hr.2
    have hap : ∀ x ∈ pre.map it, Apart2 ops (it t) x := by
      intro x hx
      obtain ⟨y, hy, rfl⟩ := List.mem_map.1 hx
      have hyT : y ∈ T := hp'.subset (by simp [hy])
      rcases hi t y (by simp) (by simp [hyT]) (hT.1 y hyT) with h | h
      · exact absurd h (hL3 y hy t (by simp))
      · exact h
    have hrun : Run P ops (it t :: (pre.map it ++ post.map it)) s := ⟨hr.1, by rw [← List.map_append]; exact q1⟩
    obtain ⟨m1, m2⟩ := Run.move (P := P) (pre.map it) (post.map it) s hap hrun
    refine ⟨by simpa using m1, ?_⟩
    have : (pre ++ t :: post).map it = pre.map it ++ it t :: post.map it := by simp
    rw [this, m2]
    show fin (pre.map it ++ post.map it) (app (it t) s) = fin (T.map it) (app (it t) s)
    rw [← List.map_append]; exact q2

/-- What operation i waits for. -/
def preO (ops : Array Oper) (i : Nat) : List Nat := ((ops[i]?).map fun o => (o.after.toList.filter (Region.binds .any)).map (·.on)).getD []
def ancTo (ops : Array Oper) : Nat → List (List Nat)
  | 0 => []
  | n + 1 => let acc := ancTo ops n; acc ++ [(preO ops n ++ (preO ops n).flatMap (fun i => acc.getD i [])).eraseDups]
theorem ancTo_len [Bk] [Ev] (ops : Array Oper) : ∀ n, (ancTo ops n).length = n
  | 0 => rfl
  | n + 1 => by simp [ancTo, ancTo_len ops n]
theorem ancTo_listed [Bk] [Ev] {l : Nat → Prop} (down : ∀ i, l i → ∀ j ∈ preO ops i, l j) : ∀ n j, j < n → l j → ∀ i ∈ (ancTo ops n).getD j [], l i
  | 0, j, hj, _, _, _ => by omega
  | n + 1, j, hj, hl, i, hi => by
    simp only [ancTo] at hi
    rcases Nat.lt_or_ge j n with h | h
    · rw [List.getD, List.getElem?_append_left (by rw [ancTo_len]; exact h)] at hi
      exact ancTo_listed down n j h hl i hi
    · have e : j = n := by omega
      subst e
      rw [List.getD, List.getElem?_append_right (by rw [ancTo_len]; omega), ancTo_len, Nat.sub_self] at hi
      simp only [List.getElem?_cons_zero, Option.getD_some] at hi
      rw [List.mem_eraseDups, List.mem_append, List.mem_flatMap] at hi
      rcases hi with hi | ⟨p, hp, hi⟩
      · exact down j hl i hi
      · have hpl := down j hl p hp
        rcases Nat.lt_or_ge p j with h2 | h2
        · exact ancTo_listed down j p h2 hpl i hi
        · rw [List.getD, List.getElem?_eq_none (by rw [ancTo_len]; exact h2)] at hi
          simp at hi
def ancB (ops : Array Oper) (i j : Nat) : Bool := ((ancTo ops ops.size).getD j []).contains i

/-- The statement may be taken in the text's order: each two operations are in order, or do not meet. -/
def drawB (ops : Array Oper) (Es : List Eff) : Bool :=
  let anc := ancTo ops ops.size
  (List.range ops.size).all fun j =>
    (preO ops j).all (fun i => decide (i < j)) && (anc.getD j []).all (fun i => decide (i < j)) &&
    (List.range j).all fun i => (anc.getD j []).contains i || (match ops[i]?, Es[i]?, ops[j]?, Es[j]? with | some o, some E, some o', some E' => apartB ops (o, E) (o', E') | _, _, _, _ => false)

theorem getD_setB [Bk] [Ev] {l : Array Bool} {i j : Nat} (hi : i < l.size) : (l.setIfInBounds i true).getD j false = if i = j then true else l.getD j false := by
  by_cases h : i = j
  · subst h; simp [hi]
  · simp [Array.getElem?_setIfInBounds_ne h, h]
theorem count_setB [Bk] [Ev] {l : Array Bool} {i : Nat} (hi : i < l.size) (hf : l.getD i true = false) : (l.setIfInBounds i true).toList.count false + 1 = l.toList.count false := by
  rw [Array.toList_setIfInBounds]
  have hi' : i < l.toList.length := by simpa using hi
  have e : l.toList[i] = false := by
    have : l[i] = false := by simpa [hi] using hf
    simpa using this
  have h2 : ∀ (m : List Bool) (i : Nat) (h : i < m.length), m[i] = false → (m.set i true).count false + 1 = m.count false := by
    intro m
    induction m with
    | nil => intro i h; simp at h
    | cons b m ih =>
      intro i h hb
      cases i with
      | zero => simp at hb; subst hb; simp
      | succ i =>
        have := ih i (by simpa using h) (by simpa using hb)
        simp only [List.set_cons_succ, List.count_cons]
        omega
  exact h2 _ _ hi' e

def itemOf (ops : Array Oper) (Es : List Eff) (i : Nat) : Oper × Eff := (ops.getD i default, Es.getD i ⟨.undef, [], [], 0, 0, false⟩)

theorem AWP.draw [Bk] [Ev] {tp : Bool} {Q : Exit → List AV → AH → Prop} {id : Nat} {f f' : List AV} {h h' : AH} (hm : P.follows .mixedOrders = true) (Es : List Eff) (hl : Es.length = ops.size) (hb : drawB ops Es = true) (hr : Run P ops ((List.range ops.size).map (itemOf ops Es)) (f, h)) (hf : fin ((List.range ops.size).map (itemOf ops Es)) (f, h) = (f', h')) (k : Q .normal f' h') :
    AWP P tp (.region id ops true) Q f h := by
  intro r' m A w a _ H F
  refine wpIn_region_any hm ?_
  obtain ⟨Hd, Ed⟩ := H.drew
  have hchk : ∀ j, j < ops.size → (∀ i ∈ preO ops j, i < j) ∧ (∀ i, ancB ops i j = true → i < j) ∧ ∀ i, i < j → ancB ops i j = true ∨ Apart2 ops (itemOf ops Es i) (itemOf ops Es j) := by
    intro j hj
    have h1 := List.all_eq_true.1 hb j (List.mem_range.2 hj)
    simp only [Bool.and_eq_true, List.all_eq_true] at h1
    obtain ⟨⟨h1, h2⟩, h3⟩ := h1
    refine ⟨fun i hi => by simpa using h1 i hi, fun i hi => ?_, fun i hi => ?_⟩
    · simp only [ancB, List.contains_iff_mem] at hi
      simpa using h2 i (by simpa using hi)
    · have h4 := h3 i (List.mem_range.2 hi)
      rw [Bool.or_eq_true] at h4
      rcases h4 with h4 | h4
      · exact .inl h4
      · right
        have hi2 : i < ops.size := by omega
        have e1 : ops[i]? = some ops[i] := by simp [hi2]
        have e2 : ops[j]? = some ops[j] := by simp [hj]
        have e3 : Es[i]? = some Es[i] := by simp [List.getElem?_eq_getElem (show i < Es.length by omega)]
        have e4 : Es[j]? = some Es[j] := by simp [List.getElem?_eq_getElem (show j < Es.length by omega)]
        rw [e1, e2, e3, e4] at h4
        have := apartB_iff h4
        have k1 : itemOf ops Es i = (ops[i], Es[i]) := by simp [itemOf, hi2, List.getD, e3]
        have k2 : itemOf ops Es j = (ops[j], Es[j]) := by simp [itemOf, hj, List.getD, e4]
        rw [k1, k2]; exact this
  have key : ∀ (fuel : Nat) (listed : Array Bool) (a1 : Act) (w1 : World), listed.toList.count false ≤ fuel → listed.size = ops.size → (∀ i, listed.getD i false = true → ∀ j ∈ preO ops i, listed.getD j false = true) →
      (∃ L : List Nat, L.Nodup ∧ (∀ i, i ∈ L ↔ listed.getD i false = true) ∧ L.Pairwise (fun a b => ¬ ancB ops b a = true) ∧ ∃ m1, HRel m1 A (fin (L.map (itemOf ops Es)) (f, h)).2 w1 ∧ FRel m1 A w1 (fin (L.map (itemOf ops Es)) (f, h)).1 a1 ∧ Ext m w m1 w1 ∧ a1.defers = a.defers) → wpAnyIn (fw r') 9 P .any ops (Lift Q m A w a) fuel listed a1 w1 := by
    have done : ∀ (listed : Array Bool) (a1 : Act) (w1 : World), listed.size = ops.size → Region.ready .any ops listed = [] →
        (∃ L : List Nat, L.Nodup ∧ (∀ i, i ∈ L ↔ listed.getD i false = true) ∧ L.Pairwise (fun a b => ¬ ancB ops b a = true) ∧ ∃ m1, HRel m1 A (fin (L.map (itemOf ops Es)) (f, h)).2 w1 ∧ FRel m1 A w1 (fin (L.map (itemOf ops Es)) (f, h)).1 a1 ∧ Ext m w m1 w1 ∧ a1.defers = a.defers) → Lift Q m A w a .normal a1 w1 := by
      intro listed a1 w1 hs hready hex
      obtain ⟨L, hn, hmem, hpw, m1, H1, F1, E1, D1⟩ := hex
      have all : ∀ n i, i < n → i < ops.size → listed.getD i false = true := by
        intro n
        induction n with
        | zero => intro i h; omega
        | succ n ih =>
          intro i hin hi
          cases hli : listed.getD i false with
          | true => rfl
          | false =>
            exfalso
            have : i ∈ Region.ready .any ops listed := by
              refine mem_ready.2 ⟨?_, ops[i], by simp [hi], fun e he hbi => ?_⟩
              · have : i < listed.size := by rw [hs]; exact hi
                simp [this] at hli ⊢
                exact hli
              · have hp : e.on ∈ preO ops i := by
                  simp only [preO, Array.getElem?_eq_getElem hi, Option.map_some, Option.getD_some, List.mem_map, List.mem_filter]
                  exact ⟨e, ⟨by simpa using he, hbi⟩, rfl⟩
                have := (hchk i hi).1 _ hp
                exact ih e.on (by omega) (by omega)
            rw [hready] at this
            cases this
      have hperm : L.Perm (List.range ops.size) := by
        rw [List.perm_ext_iff_of_nodup hn List.nodup_range]
        intro i
        rw [hmem, List.mem_range]
        constructor
        · intro hi
          rcases Nat.lt_or_ge i ops.size with h | h
          · exact h
          · have : listed.size ≤ i := by omega
            simp [Array.getElem?_eq_none this] at hi
        · intro hi; exact all (i + 1) i (by omega) hi
      have := (Run.perm (P := P) (ops := ops) (it := itemOf ops Es) (anc := fun i j => ancB ops i j = true) _ L (f, h) hperm (by exact List.pairwise_lt_range) hpw (fun i j _ hj hij => (hchk j (List.mem_range.1 hj)).2.2 i hij) hr).2
      rw [this, hf] at H1 F1
      exact ⟨m1, f', h', k, H1, F1, E1, .same D1⟩
    intro fuel
    induction fuel with
    | zero =>
      intro listed a1 w1 hc hs hdown hex
      have hready : Region.ready .any ops listed = [] := by
        cases hr0 : Region.ready .any ops listed with
        | nil => rfl
        | cons i r =>
          exfalso
          obtain ⟨h1, o, ho, -⟩ := mem_ready.1 (show i ∈ Region.ready .any ops listed by rw [hr0]; simp)
          have hi : i < ops.size := (Array.getElem?_eq_some_iff.1 ho).1
          have := count_setB (l := listed) (i := i) (by rw [hs]; exact hi) h1
          omega
      exact ⟨hready, done listed a1 w1 hs hready hex⟩
    | succ fuel ih =>
      intro listed a1 w1 hc hs hdown hex
      refine ⟨fun hready => done listed a1 w1 hs hready hex, ?_⟩
      intro i hi
      obtain ⟨h1, o, ho, hpre⟩ := mem_ready.1 hi
      have hil : i < ops.size := (Array.getElem?_eq_some_iff.1 ho).1
      have his : i < listed.size := by rw [hs]; exact hil
      have h1' : listed.getD i false = false := by simp [his] at h1 ⊢; exact h1
      obtain ⟨L, hn, hmem, hpw, m1, H1, F1, E1, D1⟩ := hex
      have hiL : i ∉ L := fun hm => by rw [hmem, h1'] at hm; cases hm
      have hprel : ∀ j ∈ preO ops i, listed.getD j false = true := by
        intro j hj
        simp only [preO, ho, Option.map_some, Option.getD_some, List.mem_map, List.mem_filter] at hj
        obtain ⟨e, ⟨he1, he2⟩, rfl⟩ := hj
        exact hpre e (by simpa using he1) he2
      have hdown' : ∀ x, (listed.setIfInBounds i true).getD x false = true → ∀ j ∈ preO ops x, (listed.setIfInBounds i true).getD j false = true := by
        intro x hx j hj
        rw [getD_setB his] at hx ⊢
        split
        · rfl
        · split at hx
          · rename_i e; subst e; exact hprel j hj
          · exact hdown x hx j hj
      -- ancestors of what has come up have come up
      have hanc : ∀ x y, (x ∈ L ∨ x = i) → ancB ops y x = true → y ∈ L ∨ y = i := by
        intro x y hx hy
        have hxs : x < ops.size := by
          rcases hx with hx | rfl
          · rw [hmem] at hx
            rcases Nat.lt_or_ge x ops.size with h | h
            · exact h
            · have : listed.size ≤ x := by omega
              simp [Array.getElem?_eq_none this] at hx
          · exact hil
        have hlx : (listed.setIfInBounds i true).getD x false = true := by
          rw [getD_setB his]
          split
          · rfl
          · rename_i hne
            rcases hx with hx | rfl
            · exact (hmem x).1 hx
            · exact absurd rfl hne
        have := ancTo_listed (ops := ops) (l := fun x => (listed.setIfInBounds i true).getD x false = true) hdown' ops.size x hxs hlx y (by simpa [ancB] using hy)
        rw [getD_setB his] at this
        split at this
        · rename_i e; exact .inr e.symm
        · exact .inl ((hmem y).2 this)
      have hpw2 : (L ++ [i]).Pairwise (fun a b => ¬ ancB ops b a = true) := by
        refine List.pairwise_append.2 ⟨hpw, List.pairwise_singleton _ _, ?_⟩
        intro x hx y hy hxy
        simp only [List.mem_singleton] at hy
        subst hy
        -- y = i is an ancestor of x, which is listed: then i is listed
        have hlx := (hmem x).1 hx
        have hxs : x < ops.size := by
          rcases Nat.lt_or_ge x ops.size with h | h
          · exact h
          · have : listed.size ≤ x := by omega
            simp [Array.getElem?_eq_none this] at hlx
        have := ancTo_listed (ops := ops) (l := fun x => listed.getD x false = true) hdown ops.size x hxs hlx y (by simpa [ancB] using hxy)
        rw [h1'] at this; cases this
      let rest := (List.range ops.size).filter fun x => !(L ++ [i]).contains x
      have hrest : ∀ x, x ∈ rest ↔ x < ops.size ∧ x ∉ L ∧ x ≠ i := by
        intro x
        simp only [rest, List.mem_filter, List.mem_range, Bool.not_eq_true', List.contains_eq_mem, decide_eq_false_iff_not, List.mem_append, List.mem_singleton, not_or]
      have hLs : ∀ x ∈ L, x < ops.size := by
        intro x hx
        have hlx := (hmem x).1 hx
        rcases Nat.lt_or_ge x ops.size with h | h
        · exact h
        · have : listed.size ≤ x := by omega
          simp [Array.getElem?_eq_none this] at hlx
      have hrestn : rest.Nodup := List.nodup_range.sublist List.filter_sublist
      have hperm : (L ++ [i] ++ rest).Perm (List.range ops.size) := by
        have hnd : (L ++ [i] ++ rest).Nodup := by
          rw [List.nodup_append, List.nodup_append]
          refine ⟨⟨hn, by simp, ?_⟩, hrestn, ?_⟩
          · intro x hx y hy he
            simp only [List.mem_singleton] at hy
            subst hy; subst he
            exact hiL hx
          · intro x hx y hy he
            subst he
            have := (hrest x).1 hy
            simp only [List.mem_append, List.mem_singleton] at hx
            rcases hx with hx | hx
            · exact this.2.1 hx
            · exact this.2.2 hx
        rw [List.perm_ext_iff_of_nodup hnd List.nodup_range]
        intro x
        simp only [List.mem_append, List.mem_singleton, hrest, List.mem_range]
        constructor
        · rintro ((h | rfl) | h)
          · exact hLs x h
          · exact hil
          · exact h.1
        · intro h
          by_cases hx : x ∈ L
          · exact .inl (.inl hx)
          · by_cases he : x = i
            · exact .inl (.inr he)
            · exact .inr ⟨h, hx, he⟩
      have hpw3 : (L ++ [i] ++ rest).Pairwise (fun a b => ¬ ancB ops b a = true) := by
        refine List.pairwise_append.2 ⟨hpw2, ?_, ?_⟩
        · have hs0 : rest.Pairwise (· < ·) := List.Pairwise.filter _ List.pairwise_lt_range
          refine hs0.imp_of_mem ?_
          intro x y hx hy hxy hb
          have := (hchk x ((hrest x).1 hx).1).2.1 y hb
          omega
        · intro x hx y hy hb
          have := (hrest y).1 hy
          simp only [List.mem_append, List.mem_singleton] at hx
          rcases hanc x y hx hb with h | h
          · exact this.2.1 h
          · exact this.2.2 h
      have hrun := (Run.perm (P := P) (ops := ops) (it := itemOf ops Es) (anc := fun i j => ancB ops i j = true) _ (L ++ [i] ++ rest) (f, h) hperm (by exact List.pairwise_lt_range) hpw3 (fun i j _ hj hij => (hchk j (List.mem_range.1 hj)).2.2 i hij) hr).1
      rw [List.map_append, List.map_append, Run.append, Run.append] at hrun
      have hdo : Does P ops (itemOf ops Es i).1 (itemOf ops Es i).2 (fin (L.map (itemOf ops Es)) (f, h)).1 (fin (L.map (itemOf ops Es)) (f, h)).2 := hrun.1.2.1
      have hio : (itemOf ops Es i).1 = o := by simp [itemOf, ho]
      have hstep := hdo _ _ rfl (fun _ _ => rfl) (fun _ _ => rfl) (fun _ _ _ => rfl)
      rw [hio] at hstep
      have hmem' : ∀ x, x ∈ L ++ [i] ↔ (listed.setIfInBounds i true).getD x false = true := by
        intro x
        rw [getD_setB his]
        simp only [List.mem_append, List.mem_singleton, hmem]
        constructor
        · rintro (h | rfl)
          · split <;> first | rfl | exact h
          · simp
        · intro h
          split at h
          · rename_i e; exact .inr e.symm
          · exact .inl h
      have hn' : (L ++ [i]).Nodup := by
        rw [List.nodup_append]
        refine ⟨hn, by simp, ?_⟩
        intro x hx y hy he
        simp only [List.mem_singleton] at hy
        subst hy; subst he
        exact hiL hx
      have hfin : fin ((L ++ [i]).map (itemOf ops Es)) (f, h) = app (o, (itemOf ops Es i).2) (fin (L.map (itemOf ops Es)) (f, h)) := by
        rw [List.map_append, fin_append]
        show app (itemOf ops Es i) _ = _
        rw [← hio]
      have hcount := count_setB his h1
      unfold wpOpIn
      simp only [ho]
      split at hstep
      · obtain ⟨hg, hv, hu⟩ := hstep
        rw [if_neg (by rw [guardA_ok F1 hg]; simp)]
        refine ⟨fun _ _ => trivial, ih _ _ _ (by omega) (by simpa using hs) hdown' ⟨L ++ [i], hn', hmem', hpw2, m1, ?_, ?_, E1, (put_defers _ _ _).trans D1⟩⟩
        · rw [hfin]; simp only [app, hu, upsB]; exact H1
        · rw [hfin]; simp only [app, hv]; exact F1.put (Ext.refl _ _) (.pure _ _ .undef) o.dst
      · obtain ⟨hg, hst⟩ := hstep
        rw [if_pos (guardA_ok F1 hg)]
        refine hst r' m1 A w1 a1 H1 F1 _ _ ?_
        rintro v h2 x w2 m2 ⟨rfl, rfl⟩ H2 hx E2
        refine ih _ _ _ (by omega) (by simpa using hs) hdown' ⟨L ++ [i], hn', hmem', hpw2, m2, ?_, ?_, E1.trans E2, (put_defers _ _ _).trans D1⟩
        · rw [hfin]; exact H2
        · rw [hfin]; exact F1.put E2 hx o.dst
  refine key ops.size _ a _ (by simp) (by simp) (by intro i hi; simp [Array.getElem?_replicate] at hi; split at hi <;> simp at hi) ⟨[], List.nodup_nil, ?_, List.Pairwise.nil, m, Hd, F.ext Ed, Ed, rfl⟩
  intro i
  simp [Array.getElem?_replicate]
  split <;> simp
end
end Go.Proofs.YtjbgfhafinfjbaaGreat.Mc
