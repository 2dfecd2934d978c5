/-
  A machine of plain data beside the model: one operation. No program in sight.
-/
import Derived.Test.YtjbgfhafinfjbaaGreatM2
import Derived.IntWalk
set_option linter.unusedVariables false
set_option linter.unusedSimpArgs false
namespace Go.Proofs.YtjbgfhafinfjbaaGreat.Mc
open Go.RowKit

abbrev AH := Nat → Blk
/-- What an operation yields: its value, the blocks it makes or turns, the blocks it looks at. -/
structure AR where
  v : AV
  ups : List (Nat × Blk) := []
  rds : List Nat := []
def upsB (h : AH) : List (Nat × Blk) → AH
  | [] => h
  | (i, b) :: r => upsB (bset h i b) r

/-- The model's operation does what the machine's does. -/
def OpOk [Bk] [Ev] (P : Program) (o : Oper) (f : List AV) (h : AH) (r : AR) : Prop :=
  ∀ m A w a, HRel m A h w → FRel m A w f a → ∃ x w' m', ((execOp a.eval o).run P w = .ok (.value x) w' ∨ ((execOp a.eval o).run P w = .ok .skip w' ∧ x = Go.undef)) ∧
    HRel m' A (upsB h r.ups) w' ∧ Rd m' A w' r.v x ∧ Ext m w m' w'

section
variable {P : Program} {o : Oper} {f : List AV} {h : AH}

theorem op_pure [Bk] [Ev] {v : AV} {rds : List Nat} (k : ∀ m A w a, HRel m A h w → FRel m A w f a → ∃ x, (execOp a.eval o).run P w = .ok (.value x) w ∧ Rd m A w v x) : OpOk P o f h ⟨v, [], rds⟩ := by
  intro m A w a H F
  obtain ⟨x, h1, h2⟩ := k m A w a H F
  exact ⟨x, w, m, .inl h1, H, h2, Ext.refl m w⟩

theorem op_move [Bk] [Ev] {x : Operand} (ho : o.op = .move x) : OpOk P o f h ⟨aev f x, [], []⟩ :=
  op_pure fun m A w a H F => ⟨a.eval x, by simp [execOp, ho], F.eval x⟩
theorem op_assign [Bk] [Ev] {x : Operand} (ho : o.op = .assign x) : OpOk P o f h ⟨aev f x, [], []⟩ :=
  op_pure fun m A w a H F => ⟨a.eval x, by simp [execOp, ho], F.eval x⟩

theorem Rd.bool [Bk] [Ev] {m : Nat → St} {A : Nat → Prop} {w : World} {b : Bool} {v : Value} (h : Rd m A w (.c (.bool b)) v) : v = .bool b := by
  cases h with | pure _ _ h => cases h; rfl
theorem Rd.o_inv [Bk] [Ev] {m : Nat → St} {A : Nat → Prop} {w : World} {i : Nat} {v : Value} (h : Rd m A w (.o i) v) : v = Ev.val i := by
  cases h with | pure _ _ h => cases h; rfl
theorem Rd.c_inv [Bk] [Ev] {m : Nat → St} {A : Nat → Prop} {w : World} {u v : Value} (h : Rd m A w (.c u) v) : v = u := by
  cases h with | pure _ _ h => cases h; rfl

theorem op_pick [Bk] [Ev] {c x y : Operand} {b : Bool} (ho : o.op = .pick c x y) (hc : aev f c = .c (.bool b)) : OpOk P o f h ⟨bif b then aev f x else aev f y, [], []⟩ := by
  refine op_pure fun m A w a H F => ?_
  have h1 := F.eval c
  rw [hc] at h1
  have h2 := h1.bool
  cases b
  · exact ⟨a.eval y, by simp [execOp, ho, h2, asBool], F.eval y⟩
  · exact ⟨a.eval x, by simp [execOp, ho, h2, asBool], F.eval x⟩

/-- A new block of one element. -/
theorem alloc_one [Bk] [Ev] {m : Nat → St} {A : Nat → Prop} {w : World} (H : HRel m A h w) {id T : Nat} {cs : List AV} {vs : Array Value} (hid : h id = .no) (hc : CR (Rd m A w) cs vs) :
    HRel (sset m id (.at w.heap.size)) A (bset h id (.cells T cs.length [cs])) (w.alloc (.cells vs T)) ∧ Ext m w (sset m id (.at w.heap.size)) (w.alloc (.cells vs T)) ∧ Rd (sset m id (.at w.heap.size)) A (w.alloc (.cells vs T)) (.ptr cs.length id 0 0) (.pointer (some ⟨w.heap.size, 0, none⟩)) := by
  obtain ⟨h1, h2⟩ := H.alloc (id := id) (T := T) (sz := cs.length) (els := [cs]) (cs := vs) hid (by simp [hc.1]) (by simp) (by
    intro i j x hx
    cases i with
    | zero =>
      simp only [at2, List.getElem?_cons_zero, Option.bind_some] at hx
      rw [Nat.zero_mul, Nat.zero_add]
      exact hc.2 j x hx
    | succ i => simp [at2] at hx)
  refine ⟨h1, h2, ?_⟩
  have := Rd.ptr (m := sset m id (.at w.heap.size)) (A := A) (w := w.alloc (.cells vs T)) cs.length id 0 0 w.heap.size (by simp [sset]) (by simp)
  simpa using this

theorem op_box [Bk] [Ev] {e : TypeId} {x : Operand} {cs : List AV} {id : Nat} (ho : o.op = .box e x) (hc : cellsA (aev f x) = some cs) (hid : h id = .no) : OpOk P o f h ⟨.ptr cs.length id 0 0, [(id, .cells e cs.length [cs])], [id]⟩ := by
  intro m A w a H F
  obtain ⟨h1, h2, h3⟩ := alloc_one H (T := e) hid (CR_cells (F.eval x) hc)
  refine ⟨_, _, _, .inl ?_, h1, h3, h2⟩
  simp [execOp, ho, Instr.box, newVar, newRow]

theorem op_alloc [Bk] [Ev] {e : TypeId} {cs : List AV} {id : Nat} {i : TypeInfo} {z : Value} (ho : o.op = .alloc e) (hi : P.info? e = some i) (hz : i.zero = some z) (hc : cellsA (ofC z) = some cs) (hid : h id = .no) : OpOk P o f h ⟨.ptr cs.length id 0 0, [(id, .cells e cs.length [cs])], [id]⟩ := by
  intro m A w a H F
  obtain ⟨h1, h2, h3⟩ := alloc_one H (T := e) hid (CR_cells (.pure _ _ (RdL_ofC _ w z)) hc)
  refine ⟨_, _, _, .inl ?_, h1, h3, h2⟩
  simp [execOp, ho, Instr.alloc, zeroValue, typeInfo, hi, hz, newVar, newRow]

/-- What a part of a struct, an array is. -/
def partA (P : Program) (t : TypeId) (cs : List AV) (off : Nat) : Option AV :=
  match P.underlying t with
  | some (.struct _) | some (.array _ _) => match P.info? t with
    | some i => if off + i.size ≤ cs.length then some (.agg ((cs.drop off).take i.size)) else none
    | none => none
  | some _ => cs[off]?
  | none => none

theorem isAgg_run [Bk] [Ev] (t : TypeId) (w : World) {d : TypeDesc} (h : P.underlying t = some d) : (isAgg t).run P w = .ok (match d with | .struct _ | .array _ _ => true | _ => false) w := by
  simp only [isAgg, Sem.run_bind, run_underlying h, Result.andThen_ok]
  cases d <;> simp

/-- Cells loaded. -/
theorem loadVar_ok [Bk] [Ev] {m : Nat → St} {A : Nat → Prop} {w : World} {t : TypeId} {cs : List AV} {off : Nat} {x : AV} (hp : partA P t cs off = some x) {b o0 : Nat} {vs : Nat → Value} (hv : ∀ j y, cs[j]? = some y → y.one = true ∧ w.cell? ⟨b, o0 + j, none⟩ = some (vs j) ∧ Rd m A w y (vs j)) :
    ∃ v, (loadVar t ⟨b, o0 + off, none⟩).run P w = .ok v w ∧ Rd m A w x v := by
  unfold partA at hp
  have agg : ∀ (i : TypeInfo), P.info? t = some i → off + i.size ≤ cs.length → ∃ v : Array Value, (loadCells ⟨b, o0 + off, none⟩ i.size).run P w = .ok v w ∧ Rd m A w (.agg ((cs.drop off).take i.size)) (.agg v) := by
    intro i hi hle
    refine ⟨_, run_loadCells w _ i.size (fun j => vs (off + j)) ?_, ?_⟩
    · intro j hj
      have : (⟨b, o0 + off, none⟩ : Addr).add j = ⟨b, o0 + (off + j), none⟩ := by unfold Addr.add; split <;> simp_all <;> omega
      rw [this]
      have hg : cs[off + j]? = some cs[off + j] := by simp [List.getElem?_eq_getElem (show off + j < cs.length by omega)]
      exact (hv _ _ hg).2.1
    · refine .agg _ _ (by simp; omega) ?_ ?_
      · intro j y hy
        rw [List.getElem?_take, List.getElem?_drop] at hy
        split at hy
        · exact (hv _ _ hy).1
        · cases hy
      · intro j y hy
        rw [List.getElem?_take, List.getElem?_drop] at hy
        split at hy
        · rename_i hj
          have := (hv _ _ hy).2.2
          simpa [hj] using this
        · cases hy
  split at hp
  · rename_i fs hu
    cases hi : P.info? t with
    | none => simp [hi] at hp
    | some i =>
      simp only [hi] at hp
      split at hp
      · rename_i hle
        cases hp
        obtain ⟨v, h1, h2⟩ := agg i hi hle
        refine ⟨_, ?_, h2⟩
        simp [loadVar, isAgg_run t w hu, sizeOf, typeInfo, hi, h1]
      · cases hp
  · rename_i n e hu
    cases hi : P.info? t with
    | none => simp [hi] at hp
    | some i =>
      simp only [hi] at hp
      split at hp
      · rename_i hle
        cases hp
        obtain ⟨v, h1, h2⟩ := agg i hi hle
        refine ⟨_, ?_, h2⟩
        simp [loadVar, isAgg_run t w hu, sizeOf, typeInfo, hi, h1]
      · cases hp
  · rename_i d hn1 hn2 hu
    obtain ⟨h1, h2, h3⟩ := hv _ _ hp
    refine ⟨_, ?_, h3⟩
    have : (isAgg t).run P w = .ok false w := by
      rw [isAgg_run t w hu]
      cases d <;> first | rfl | (exact absurd rfl (hn1 _)) | (exact absurd rfl (hn2 _ _))
    simp [loadVar, this, load, Sem.run, h2]
  · cases hp

theorem Rd.at_ptr [Bk] [Ev] {m : Nat → St} {A : Nat → Prop} {w : World} {sz id i off b : Nat} {u : Value} (h : Rd m A w (.ptr sz id i off) u) (g : m id = .at b) : u = .pointer (some ⟨b, i * sz + off, none⟩) := by
  cases h with
  | pure _ _ h => cases h
  | ptr _ _ _ _ b' hm hb => rw [g] at hm; cases hm; rfl
  | ptrd _ _ _ _ u hm => rw [g] at hm; cases hm
theorem Rd.at_own [Bk] [Ev] {m : Nat → St} {A : Nat → Prop} {w : World} {T sz id i n b : Nat} {u : Value} (h : Rd m A w (.own T sz id i n) u) (g : m id = .at b) :
    ∃ cap, u = .slice (some ⟨b, i * sz, none⟩) n cap ∧ n ≤ cap ∧ cap ≤ maxLen ∧ (i + cap) * sz = rowSize w b := by
  cases h with
  | pure _ _ h => cases h
  | own _ _ _ _ _ b' cap hm hb hn hc hr => rw [g] at hm; cases hm; exact ⟨cap, rfl, hn, hc, hr⟩
  | ownv _ _ _ _ _ hm => rw [g] at hm; cases hm
  | ownd _ _ _ _ _ _ _ _ hm => rw [g] at hm; cases hm

theorem op_load_ptr [Bk] [Ev] {t : TypeId} {x : Operand} {T sz id i off : Nat} {els : List (List AV)} {e : List AV} {v : AV} (ho : o.op = .load t x) (hx : aev f x = .ptr sz id i off) (hh : h id = .cells T sz els) (he : els[i]? = some e) (hp : partA P t e off = some v) :
    OpOk P o f h ⟨v, [], [id]⟩ := by
  refine op_pure fun m A w a H F => ?_
  have h1 := F.eval x
  rw [hx] at h1
  obtain ⟨b, cs, g1, g2, g3, g4, g5⟩ := H.block hh he
  have hv := h1.at_ptr g1
  obtain ⟨u, r1, r2⟩ := loadVar_ok (P := P) (m := m) (A := A) (w := w) (b := b) (o0 := i * sz) (vs := fun j => cs.getD (i * sz + j) Go.undef) hp (by
    intro j y hy
    have ha : at2 els i j = some y := by simp [at2, he, hy]
    obtain ⟨k1, k2⟩ := g5 i j y ha
    refine ⟨k1, ?_, k2⟩
    have := (at2_len ha g4).2.2
    have hlt : i * sz + j < cs.size := by omega
    simp [World.cell?, g2, hlt])
  exact ⟨u, by simp [execOp, ho, hv, Instr.loadAt, Instr.sureAddr, r1], r2⟩

theorem op_load_lptr [Bk] [Ev] {t : TypeId} {x : Operand} {sz i off : Nat} {els : List (List AV)} {e : List AV} {v : AV} (ho : o.op = .load t x) (hx : aev f x = .lptr sz els i off) (he : els[i]? = some e) (hp : partA P t e off = some v) :
    OpOk P o f h ⟨v, [], []⟩ := by
  refine op_pure fun m A w a H F => ?_
  have h1 := F.eval x
  rw [hx] at h1
  cases h1 with
  | pure _ u h1 =>
    generalize hau : a.eval x = u at h1
    cases h1 with
    | lptr _ _ _ _ b o0 vs hA hb hsz k1 kv kr =>
      obtain ⟨u, r1, r2⟩ := loadVar_ok (P := P) (m := m) (A := A) (w := w) (b := b) (o0 := o0 + i * sz) (vs := vs i) hp (by
        intro j y hy
        have ha : at2 els i j = some y := by simp [at2, he, hy]
        refine ⟨k1 i j y ha, ?_, .pure _ _ (kr i j y ha)⟩
        have := kv i j y ha
        rw [← this]; congr 2; omega)
      refine ⟨u, ?_, r2⟩
      have e1 : o0 + (i * sz + off) = o0 + i * sz + off := by omega
      simp [execOp, ho, hau, Instr.loadAt, Instr.sureAddr, e1, r1]


/-- Cells stored. -/
theorem store_ok [Bk] [Ev] {m : Nat → St} {A : Nat → Prop} {w : World} (H : HRel m A h w) {T sz id i off b : Nat} {els : List (List AV)} {e xs : List AV} {us : Array Value} (hh : h id = .cells T sz els) (hm : m id = .at b) (he : els[i]? = some e) (hx : CR (Rd m A w) xs us) (hl : off + xs.length ≤ sz) :
    ∃ w', (storeCells ⟨b, i * sz + off, none⟩ us.toList).run P w = .ok () w' ∧ HRel m A (bset h id (.cells T sz (els.set i (splice e off xs)))) w' ∧ Ext m w m w' := by
  obtain ⟨b', cs, g1, g2, g3, g4, g5⟩ := H.block hh he
  rw [hm] at g1; cases g1
  have hi : i < els.length := (List.getElem?_eq_some_iff.1 he).1
  have hel : e.length = sz := g4 e (List.mem_of_getElem? he)
  have hmul : (i + 1) * sz ≤ els.length * sz := Nat.mul_le_mul_right _ hi
  rw [Nat.succ_mul] at hmul
  have hul : us.toList.length = xs.length := by simpa using hx.1
  have hfit : i * sz + off + 0 + us.toList.length ≤ cs.size := by rw [hul]; omega
  have h1 : ∀ v ∈ us.toList, v.oneCell' = true := by
    intro v hv
    obtain ⟨k, hk, rfl⟩ := List.getElem_of_mem hv
    have hk' : k < xs.length := by omega
    have := hx.2 k xs[k] (by simp [hk'])
    have := this.2.one this.1
    simpa [show k < us.size by simpa using hk] using this
  have hst := run_storeCells_at P b (i * sz + off) T us.toList 0 cs w g2 hfit h1
  refine ⟨_, hst, ?_⟩
  have hsz : (cs.toList.take (i * sz + off + 0) ++ us.toList ++ cs.toList.drop (i * sz + off + 0 + us.toList.length)).toArray.size = cs.size := by simp only [List.size_toArray, List.length_append, List.length_take, List.length_drop, hul, Array.length_toList]; rw [hul] at hfit; omega
  have hget : ∀ k, (cs.toList.take (i * sz + off + 0) ++ us.toList ++ cs.toList.drop (i * sz + off + 0 + us.toList.length)).toArray.getD k Go.undef = if i * sz + off ≤ k ∧ k < i * sz + off + xs.length then us.getD (k - (i * sz + off)) Go.undef else cs.getD k Go.undef := by
    intro k
    have := splice_get (cs := cs.toList) (off := i * sz + off) (xs := us.toList) (by simpa using hfit) k
    unfold splice at this
    have e1 : ∀ (l : List Value), l.toArray.getD k Go.undef = (l[k]?).getD Go.undef := by intro l; simp
    rw [e1, Nat.add_zero, this, hul]
    split
    · simp
    · simp
  refine H.write (els' := els.set i (splice e off xs)) hh hm (setRow_heap w b cs _ T _ g2) g2 hsz (fun k hk => setRow_other w b k _ hk) rfl rfl rfl (by simp) ?_ ?_ ?_
  · rw [hsz, List.length_set]; exact g3
  · intro e' he'
    rcases List.mem_or_eq_of_mem_set he' with h | h
    · exact g4 _ h
    · subst h; rw [splice_len (by omega)]; exact hel
  · intro i' j x hx'
    unfold at2 at hx'
    rw [List.getElem?_set] at hx'
    split at hx'
    · rename_i hii
      subst hii
      simp only [hi, if_true, Option.bind_some] at hx'
      rw [splice_get (by omega)] at hx'
      rw [hget]
      split at hx'
      · rename_i hj
        rw [if_pos (by omega)]
        have := hx.2 _ _ hx'
        refine ⟨this.1, ?_⟩
        rw [show i * sz + j - (i * sz + off) = j - off by omega]; exact this.2
      · rename_i hj
        rw [if_neg (by omega)]
        exact g5 i j x (by simp [at2, he, hx'])
    · rename_i hii
      have ha : at2 els i' j = some x := hx'
      have hb := at2_len ha g4
      rw [hget, if_neg]
      · exact g5 i' j x ha
      · rintro ⟨k1, k2⟩
        rcases Nat.lt_or_ge i' i with hlt | hge
        · have : (i' + 1) * sz ≤ i * sz := Nat.mul_le_mul_right _ hlt
          rw [Nat.succ_mul] at this
          omega
        · have : (i + 1) * sz ≤ i' * sz := Nat.mul_le_mul_right _ (by omega)
          rw [Nat.succ_mul] at this
          omega

theorem op_store [Bk] [Ev] {t : TypeId} {x y : Operand} {T sz id i off : Nat} {els : List (List AV)} {e xs : List AV} (ho : o.op = .store t x y) (hx : aev f x = .ptr sz id i off) (hh : h id = .cells T sz els) (he : els[i]? = some e) (hy : cellsA (aev f y) = some xs)
    (ht : (P.info? t).map (·.size) = some xs.length) (hl : off + xs.length ≤ sz) : OpOk P o f h ⟨.undef, [(id, .cells T sz (els.set i (splice e off xs)))], [id]⟩ := by
  intro m A w a H F
  obtain ⟨b, cs, g1, -⟩ := H.block hh he
  have h1 := F.eval x
  rw [hx] at h1
  have hv := h1.at_ptr g1
  have hc := CR_cells (F.eval y) hy
  obtain ⟨w', r1, r2, r3⟩ := store_ok (P := P) H hh g1 he hc hl
  cases hi : P.info? t with
  | none => simp [hi] at ht
  | some ti =>
    simp only [hi, Option.map_some, Option.some.injEq] at ht
    refine ⟨Go.undef, w', m, .inr ⟨?_, rfl⟩, r2, .pure _ _ .undef, r3⟩
    have hs : (a.eval y).cells.size = xs.length := hc.1
    simp [execOp, ho, hv, Instr.storeAt, Instr.sureAddr, storeVar, sizeOf, typeInfo, hi, ht, hs, r1]

theorem op_nilCheck_ptr [Bk] [Ev] {x : Operand} {T s sz id i off : Nat} {els : List (List AV)} {e : List AV} (ho : o.op = .nilCheck x) (hx : aev f x = .ptr sz id i off) (hh : h id = .cells T s els) (he : els[i]? = some e) : OpOk P o f h ⟨.ptr sz id i off, [], [id]⟩ := by
  refine op_pure fun m A w a H F => ?_
  obtain ⟨b, cs, g1, -⟩ := H.block hh he
  have h1 := F.eval x
  rw [hx] at h1
  have hv := h1.at_ptr g1
  refine ⟨a.eval x, ?_, h1⟩
  rw [hv]
  simp [execOp, ho, hv]
theorem op_nilCheck_lptr [Bk] [Ev] {x : Operand} {sz i off : Nat} {els : List (List AV)} (ho : o.op = .nilCheck x) (hx : aev f x = .lptr sz els i off) : OpOk P o f h ⟨.lptr sz els i off, [], []⟩ := by
  refine op_pure fun m A w a H F => ?_
  have h1 := F.eval x
  rw [hx] at h1
  generalize hau : a.eval x = u at h1
  have h2 := h1
  cases h1 with
  | pure _ u h1 => cases h1 with
    | lptr => exact ⟨_, by simp [execOp, ho, hau], h2⟩
theorem op_nilCheck_fn [Bk] [Ev] {x : Operand} {k : FuncId} {xs ys : List AV} (ho : o.op = .nilCheck x) (hx : aev f x = .fn (.func k) xs ys) : OpOk P o f h ⟨.fn (.func k) xs ys, [], []⟩ := by
  refine op_pure fun m A w a H F => ?_
  have h1 := F.eval x
  rw [hx] at h1
  generalize hau : a.eval x = u at h1
  have h2 := h1
  cases h1 with
  | pure _ u h1 => cases h1 with
    | fn => exact ⟨_, by simp [execOp, ho, hau], h2⟩
  | fn => exact ⟨_, by simp [execOp, ho, hau], h2⟩

/-- Sums, tests of numbers, of truths. -/
def binV (op : BinOp) : Value → Value → Option Value
  | .int k x, .int k' y =>
    match op with
    | .shl => if y < 0 then none else some (.int k (k.wrap (x * 2 ^ (min y.toNat k.bits))))
    | .shr => if y < 0 then none else some (.int k (x.fdiv (2 ^ (min y.toNat k.bits))))
    | _ => if k = k' then
        match op with
        | .add => some (.int k (k.wrap (x + y)))
        | .sub => some (.int k (k.wrap (x - y)))
        | .mul => some (.int k (k.wrap (x * y)))
        | .quo => if y = 0 then none else some (.int k (k.wrap (x.tdiv y)))
        | .rem => if y = 0 then none else some (.int k (x.tmod y))
        | .eql => some (.bool (x == y))
        | .neq => some (.bool (x != y))
        | .lss => some (.bool (x < y))
        | .leq => some (.bool (x ≤ y))
        | .gtr => some (.bool (x > y))
        | .geq => some (.bool (x ≥ y))
        | _ => none
      else none
  | .string x, .string y =>
    match op with
    | .eql => some (.bool (x.toList == y.toList))
    | .neq => some (.bool (!(x.toList == y.toList)))
    | .add => if x.size + y.size ≤ 9223372036854775807 then some (.string (x ++ y)) else none
    | _ => none
  | _, _ => none

theorem op_bin [Bk] [Ev] {op : BinOp} {t ty : TypeId} {x y : Operand} {u v r : Value} (ho : o.op = .binOp op t x y ty) (hx : aev f x = .c u) (hy : aev f y = .c v) (hr : binV op u v = some r) : OpOk P o f h ⟨.c r, [], []⟩ := by
  refine op_pure fun m A w a H F => ?_
  have h1 := F.eval x
  have h2 := F.eval y
  rw [hx] at h1; rw [hy] at h2
  have e1 := h1.c_inv
  have e2 := h2.c_inv
  refine ⟨r, ?_, .pure _ _ (.c r)⟩
  cases u with
  | int k p =>
    cases v with
    | int k' q =>
      have hg : (eqGuard op t x y (.int k p) (.int k' q)).run P w = .ok () w := by
        unfold eqGuard
        split <;> simp
      cases op <;> simp only [binV] at hr <;> (try (split at hr <;> try (cases hr; done))) <;> (try (split at hr <;> try (cases hr; done))) <;> (try cases hr) <;>
        simp_all [execOp, binOp, Op.intArith, Op.intDiv, Op.intCmp, Op.shift] <;> (intro _; omega)
    | _ => cases op <;> simp [binV] at hr
  | string p =>
    cases v with
    | string q =>
      have hg : (eqGuard op t x y (.string p) (.string q)).run P w = .ok () w := by
        unfold eqGuard
        split <;> simp
      cases op <;> simp only [binV] at hr <;> (try (split at hr <;> try (cases hr; done))) <;> (try cases hr) <;>
        simp_all [execOp, binOp, Op.stringOp] <;> omega
    | _ => cases op <;> simp [binV] at hr
  | _ => cases op <;> simp [binV] at hr

theorem run_equalIn_bool [Bk] [Ev] (d : Nat) {t : TypeId} {p q : Bool} (hu : P.underlying t = some .bool) (w : World) : (Op.equalIn (d + 1) t (.bool p) (.bool q)).run P w = .ok (p == q) w := by
  simp [Op.equalIn, run_underlying hu]
theorem op_bool [Bk] [Ev] {op : BinOp} {t ty : TypeId} {x y : Operand} {p q : Bool} (ho : o.op = .binOp op t x y ty) (hx : aev f x = .c (.bool p)) (hy : aev f y = .c (.bool q)) (hu : P.underlying t = some .bool) (hop : op = .eql ∨ op = .neq) :
    OpOk P o f h ⟨.c (.bool (if op = .eql then p == q else !(p == q))), [], []⟩ := by
  refine op_pure fun m A w a H F => ?_
  have h1 := F.eval x
  have h2 := F.eval y
  rw [hx] at h1; rw [hy] at h2
  have e1 := h1.c_inv
  have e2 := h2.c_inv
  refine ⟨_, ?_, .pure _ _ (.c _)⟩
  have hg : (eqGuard op t x y (.bool p) (.bool q)).run P w = .ok () w := by
    unfold eqGuard
    split <;> simp
  have he : (Op.equal t (.bool p) (.bool q)).run P w = .ok (p == q) w := run_equalIn_bool 9999 hu w
  rcases hop with rfl | rfl <;> simp [execOp, ho, e1, e2, hg, binOp, he]

def unV (op : UnOp) : Value → Option Value
  | .int k x => match op with | .neg => some (.int k (k.wrap (0 - x))) | _ => none
  | .bool b => match op with | .not => some (.bool !b) | _ => none
  | _ => none
theorem op_un [Bk] [Ev] {op : UnOp} {t : TypeId} {x : Operand} {u r : Value} (ho : o.op = .unOp op t x) (hx : aev f x = .c u) (hr : unV op u = some r) : OpOk P o f h ⟨.c r, [], []⟩ := by
  refine op_pure fun m A w a H F => ?_
  have h1 := F.eval x
  rw [hx] at h1
  have e1 := h1.c_inv
  refine ⟨r, ?_, .pure _ _ (.c r)⟩
  cases u <;> cases op <;> simp [unV] at hr <;> subst hr <;> simp [execOp, ho, e1, Op.unary, Op.intArith]
/-- A number's datum. -/
def mkE [Bk] (p : Poly) : AV :=
  let b := bnd p
  if b.1 = b.2 then .c (.int .i64 b.1) else .e p
theorem RdL_mkE [Bk] [Ev] (A : Nat → Prop) (w : World) (p : Poly) : RdL A w (mkE p) (.int .i64 (pev Ev.rho p)) := by
  have k := bnd_ok p
  unfold mkE
  simp only
  split
  · have : pev Ev.rho p = (bnd p).1 := by omega
    rw [this]; exact .c _
  · exact .e p
theorem one_mkE [Bk] [Ev] (p : Poly) : (mkE p).one = true := by
  unfold mkE
  simp only
  split <;> rfl
def toP : AV → Option Poly
  | .e p => some p
  | .c (.int .i64 n) => some (plit n)
  | _ => none
theorem toP_ok [Bk] [Ev] {x : AV} {p : Poly} (hp : toP x = some p) {m : Nat → St} {A : Nat → Prop} {w : World} {v : Value} (h : Rd m A w x v) : v = .int .i64 (pev Ev.rho p) := by
  unfold toP at hp
  split at hp
  · cases hp
    cases h with | pure _ _ h => cases h; rfl
  · cases hp
    rw [pev_plit]; exact h.c_inv
  · cases hp
/-- Sums and tests of numbers by names. -/
def symV [Bk] (op : BinOp) (p q : Poly) : Option AV :=
  match op with
  | .add => let r := padd p q; if inB r then some (mkE r) else none
  | .sub => let r := psub p q; if inB r then some (mkE r) else none
  | .mul => let r := pmul p q; if inB r then some (mkE r) else none
  | .quo => if nzB q then match findD 0 p q Bk.defs with
      | some r => if inB r then some (mkE r) else none
      | none => none
    else none
  | .rem => if nzB q then match findD 1 p q Bk.defs with
      | some r => some (mkE r)
      | none => none
    else none
  | .eql => (eqB (psub p q)).map fun b => .c (.bool b)
  | .neq => (eqB (psub p q)).map fun b => .c (.bool !b)
  | .lss => (ltB (psub p q)).map fun b => .c (.bool b)
  | .geq => (ltB (psub p q)).map fun b => .c (.bool !b)
  | .gtr => (ltB (psub q p)).map fun b => .c (.bool b)
  | .leq => (ltB (psub q p)).map fun b => .c (.bool !b)
  | _ => none
theorem op_sym [Bk] [Ev] {op : BinOp} {t ty : TypeId} {x y : Operand} {p q : Poly} {r : AV} (ho : o.op = .binOp op t x y ty) (hx : toP (aev f x) = some p) (hy : toP (aev f y) = some q) (hr : symV op p q = some r) : OpOk P o f h ⟨r, [], []⟩ := by
  refine op_pure fun m A w a H F => ?_
  have e1 := toP_ok hx (F.eval x)
  have e2 := toP_ok hy (F.eval y)
  have hg : (eqGuard op t x y (.int .i64 (pev Ev.rho p)) (.int .i64 (pev Ev.rho q))).run P w = .ok () w := by
    unfold eqGuard
    split <;> simp
  have fit : ∀ r : Poly, inB r = true → IntKind.i64.wrap (pev Ev.rho r) = pev Ev.rho r := fun r h => IntWalk.i64_in _ (by have := inB_ok h; omega)
  have rd : ∀ r : Poly, Rd m A w (mkE r) (.int .i64 (pev Ev.rho r)) := fun r => .pure _ _ (RdL_mkE _ w r)
  cases op <;> simp only [symV] at hr
  case add =>
    split at hr
    · rename_i hb; cases hr
      refine ⟨_, ?_, rd _⟩
      have := fit _ hb
      rw [pev_padd] at this
      simp [execOp, ho, e1, e2, hg, binOp, Op.intArith, pev_padd, this]
    · cases hr
  case sub =>
    split at hr
    · rename_i hb; cases hr
      refine ⟨_, ?_, rd _⟩
      have := fit _ hb
      rw [pev_psub] at this
      simp [execOp, ho, e1, e2, hg, binOp, Op.intArith, pev_psub, this]
    · cases hr
  case mul =>
    split at hr
    · rename_i hb; cases hr
      refine ⟨_, ?_, rd _⟩
      have := fit _ hb
      rw [pev_pmul] at this
      simp [execOp, ho, e1, e2, hg, binOp, Op.intArith, pev_pmul, this]
    · cases hr
  case quo =>
    split at hr
    · rename_i hz
      split at hr
      · rename_i r0 hf
        split at hr
        · rename_i hb; cases hr
          refine ⟨_, ?_, rd _⟩
          have := fit _ hb
          have hd : pev Ev.rho r0 = (pev Ev.rho p).tdiv (pev Ev.rho q) := (Ev.defs _ (findD_ok hf)).1 rfl
          have hne := nzB_ok hz
          rw [hd] at this
          simp [execOp, ho, e1, e2, hg, binOp, Op.intDiv, hd, this, hne]
        · cases hr
      · cases hr
    · cases hr
  case rem =>
    split at hr
    · rename_i hz
      split at hr
      · rename_i r0 hf
        cases hr
        refine ⟨_, ?_, rd _⟩
        have hd : pev Ev.rho r0 = (pev Ev.rho p).tmod (pev Ev.rho q) := (Ev.defs _ (findD_ok hf)).2.1 rfl
        have hne := nzB_ok hz
        simp [execOp, ho, e1, e2, hg, binOp, Op.intDiv, hd, hne]
      · cases hr
    · cases hr
  all_goals (try (cases hr; done))
  all_goals (rw [Option.map_eq_some_iff] at hr; obtain ⟨b, hb, rfl⟩ := hr)
  case eql =>
    have k := eqB_ok hb
    rw [pev_psub] at k
    refine ⟨.bool b, ?_, .pure _ _ (.c _)⟩
    have e : (pev Ev.rho p == pev Ev.rho q) = b := by rw [k, Bool.eq_iff_iff]; simp <;> omega
    simp [execOp, ho, e1, e2, hg, binOp, Op.intCmp, e]
  case neq =>
    have k := eqB_ok hb
    rw [pev_psub] at k
    refine ⟨.bool !b, ?_, .pure _ _ (.c _)⟩
    have e : (pev Ev.rho p == pev Ev.rho q) = b := by rw [k, Bool.eq_iff_iff]; simp <;> omega
    simp [execOp, ho, e1, e2, hg, binOp, Op.intCmp, bne, e]
  case lss =>
    have k := ltB_ok hb
    rw [pev_psub] at k
    refine ⟨.bool b, ?_, .pure _ _ (.c _)⟩
    have e : decide (pev Ev.rho p < pev Ev.rho q) = b := by rw [k, Bool.eq_iff_iff]; simp <;> omega
    simp [execOp, ho, e1, e2, hg, binOp, Op.intCmp, e]
  case geq =>
    have k := ltB_ok hb
    rw [pev_psub] at k
    refine ⟨.bool !b, ?_, .pure _ _ (.c _)⟩
    have e : decide (pev Ev.rho q ≤ pev Ev.rho p) = !b := by rw [k, Bool.eq_iff_iff]; simp <;> omega
    simp [execOp, ho, e1, e2, hg, binOp, Op.intCmp, e]
  case gtr =>
    have k := ltB_ok hb
    rw [pev_psub] at k
    refine ⟨.bool b, ?_, .pure _ _ (.c _)⟩
    have e : decide (pev Ev.rho q < pev Ev.rho p) = b := by rw [k, Bool.eq_iff_iff]; simp <;> omega
    simp [execOp, ho, e1, e2, hg, binOp, Op.intCmp, e]
  case leq =>
    have k := ltB_ok hb
    rw [pev_psub] at k
    refine ⟨.bool !b, ?_, .pure _ _ (.c _)⟩
    have e : decide (pev Ev.rho p ≤ pev Ev.rho q) = !b := by rw [k, Bool.eq_iff_iff]; simp <;> omega
    simp [execOp, ho, e1, e2, hg, binOp, Op.intCmp, e]
/-- What is taken off. -/
theorem op_symNeg [Bk] [Ev] {t : TypeId} {x : Operand} {p : Poly} (ho : o.op = .unOp .neg t x) (hx : aev f x = .e p) (hr : inB (pscale (-1) p) = true) : OpOk P o f h ⟨mkE (pscale (-1) p), [], []⟩ := by
  refine op_pure fun m A w a H F => ?_
  have h1 := F.eval x
  rw [hx] at h1
  have e1 := toP_ok (x := .e p) rfl h1
  refine ⟨_, ?_, .pure _ _ (RdL_mkE _ w _)⟩
  have k := inB_ok hr
  have := IntWalk.i64_in (pev Ev.rho (pscale (-1) p)) (by omega)
  rw [pev_pscale] at this
  have e : 0 - pev Ev.rho p = -1 * pev Ev.rho p := by omega
  have e3 : IntKind.i64.wrap (-pev Ev.rho p) = -pev Ev.rho p := by
    have e4 : -1 * pev Ev.rho p = -pev Ev.rho p := by omega
    rw [e4] at this; exact this
  simp [execOp, ho, e1, Op.unary, Op.intArith, pev_pscale, e3]
end
end Go.Proofs.YtjbgfhafinfjbaaGreat.Mc
