/-
  A machine of plain data beside the model: addresses, structs, slices, append. No program in sight.
-/
import Derived.Test.YtjbgfhafinfjbaaGreatM3
import Derived.Laws.Slices
import Derived.Laws.OwnMore
set_option linter.unusedVariables false
set_option linter.unusedSimpArgs false
namespace Go.Proofs.YtjbgfhafinfjbaaGreat.Mc
open Go.RowKit

section
variable {P : Program} {o : Oper} {f : List AV} {h : AH}

theorem addr_add [Bk] [Ev] (b o j : Nat) : (⟨b, o, none⟩ : Addr).add j = ⟨b, o + j, none⟩ := by unfold Addr.add; split <;> simp_all

theorem Rd.lit_inv [Bk] [Ev] {m : Nat → St} {A : Nat → Prop} {w : World} {sz : Nat} {els : List (List AV)} {u : Value} (h : Rd m A w (.lit sz els) u) :
    (els = [] ∧ ∃ a cap, u = .slice a 0 cap) ∨ ∃ b off cap, ∃ vs : Nat → Nat → Value, u = .slice (some ⟨b, off, none⟩) els.length cap ∧ ¬ Av m A b ∧ b < w.heap.size ∧ els.length ≤ cap ∧ (∀ e ∈ els, e.length = sz) ∧ (∀ (i j : Nat) (x : AV), at2 els i j = some x → x.one = true) ∧
      (∀ (i j : Nat) (x : AV), at2 els i j = some x → w.cell? ⟨b, off + (i * sz + j), none⟩ = some (vs i j)) ∧ ∀ (i j : Nat) (x : AV), at2 els i j = some x → RdL (Av m A) w x (vs i j) := by
  cases h with
  | pure _ _ h =>
    cases h with
    | lit _ _ b off cap vs hA hb hc hsz h1 hv hr => exact .inr ⟨b, off, cap, vs, rfl, hA, hb, hc, hsz, h1, hv, hr⟩
    | lit0 _ a cap => exact .inl ⟨rfl, a, cap, rfl⟩

theorem Rd.lptr_inv [Bk] [Ev] {m : Nat → St} {A : Nat → Prop} {w : World} {sz i0 j0 : Nat} {els : List (List AV)} {u : Value} (h : Rd m A w (.lptr sz els i0 j0) u) :
    ∃ b off, ∃ vs : Nat → Nat → Value, u = .pointer (some ⟨b, off + (i0 * sz + j0), none⟩) ∧ ∀ i j, Rd m A w (.lptr sz els i j) (.pointer (some ⟨b, off + (i * sz + j), none⟩)) := by
  cases h with
  | pure _ _ h =>
    cases h with
    | lptr _ _ _ _ b off vs hA hb hsz h1 hv hr => exact ⟨b, off, vs, rfl, fun i j => .pure _ _ (.lptr sz els i j b off vs hA hb hsz h1 hv hr)⟩

/-- The field of a struct. -/
def fieldOf (P : Program) (t : TypeId) (k : Nat) : Option (TypeId × Nat × Nat) :=
  match P.underlying t with
  | some (.struct fs) => match fs[k]? with
    | some fd => (P.info? fd.type).map fun i => (fd.type, fd.offset, i.size)
    | none => none
  | _ => none
theorem fieldAt_run [Bk] [Ev] {t k ty off n : Nat} (hf : fieldOf P t k = some (ty, off, n)) (hn : n ≠ 0) (b o' : Nat) (w : World) : (Instr.fieldAt t (.pointer (some ⟨b, o', none⟩)) k).run P w = .ok (.pointer (some ⟨b, o' + off, none⟩)) w := by
  unfold fieldOf at hf
  split at hf
  · rename_i fs hu
    split at hf
    · rename_i fd hfd
      cases hi : P.info? fd.type with
      | none => simp [hi] at hf
      | some i =>
        simp only [hi, Option.map_some, Option.some.injEq, Prod.mk.injEq] at hf
        obtain ⟨rfl, rfl, rfl⟩ := hf
        simp [Instr.fieldAt, run_underlying hu, hfd, Instr.sureAddr, fieldPlace, sizeOf, typeInfo, hi, hn, addr_add]
    · cases hf
  · cases hf

theorem op_fieldAddr_ptr [Bk] [Ev] {t : TypeId} {x : Operand} {k ty o' n T sz id i off : Nat} {els : List (List AV)} {e : List AV} (ho : o.op = .fieldAddr t x k) (hx : aev f x = .ptr sz id i off) (hh : h id = .cells T sz els) (he : els[i]? = some e) (hf : fieldOf P t k = some (ty, o', n)) (hn : n ≠ 0) :
    OpOk P o f h ⟨.ptr sz id i (off + o'), [], [id]⟩ := by
  refine op_pure fun m A w a H F => ?_
  have h1 := F.eval x
  rw [hx] at h1
  obtain ⟨b, cs, g1, -⟩ := H.block hh he
  have hv := h1.at_ptr g1
  refine ⟨.pointer (some ⟨b, i * sz + off + o', none⟩), by simp [execOp, ho, hv, fieldAt_run hf hn], ?_⟩
  have := Rd.ptr (m := m) (A := A) (w := w) sz id i (off + o') b g1 (H.lt g1)
  rwa [← Nat.add_assoc] at this
theorem op_fieldAddr_lptr [Bk] [Ev] {t : TypeId} {x : Operand} {k ty o' n sz i off : Nat} {els : List (List AV)} (ho : o.op = .fieldAddr t x k) (hx : aev f x = .lptr sz els i off) (hf : fieldOf P t k = some (ty, o', n)) (hn : n ≠ 0) :
    OpOk P o f h ⟨.lptr sz els i (off + o'), [], []⟩ := by
  refine op_pure fun m A w a H F => ?_
  have h1 := F.eval x
  rw [hx] at h1
  obtain ⟨b, o0, vs, hv, hr⟩ := h1.lptr_inv
  refine ⟨.pointer (some ⟨b, o0 + (i * sz + off) + o', none⟩), by simp [execOp, ho, hv, fieldAt_run hf hn], ?_⟩
  have := hr i (off + o')
  rw [show o0 + (i * sz + (off + o')) = o0 + (i * sz + off) + o' by omega] at this
  exact this

/-- An element's address. -/
theorem op_indexAddr_lit [Bk] [Ev] {t e : TypeId} {x ix : Operand} {sz : Nat} {els : List (List AV)} {k : IntKind} {n : Int} (ho : o.op = .indexAddr t x ix) (hx : aev f x = .lit sz els) (hi : aev f ix = .c (.int k n)) (hu : P.underlying t = some (.slice e)) (hs : (P.info? e).map (·.size) = some sz) (h0 : 0 ≤ n) (hn : n.toNat < els.length) :
    OpOk P o f h ⟨.lptr sz els n.toNat 0, [], []⟩ := by
  refine op_pure fun m A w a H F => ?_
  have h1 := F.eval x
  rw [hx] at h1
  have h2 := F.eval ix
  rw [hi] at h2
  have e2 := h2.c_inv
  obtain ⟨rfl, -⟩ | ⟨b, off, cap, vs, hv, hA, hb, hc, hsz, k1, kv, kr⟩ := h1.lit_inv
  · simp at hn
  · cases hp : P.info? e with
    | none => simp [hp] at hs
    | some ti =>
      simp only [hp, Option.map_some, Option.some.injEq] at hs
      have hlt : n < (els.length : Int) := by omega
      refine ⟨.pointer (some ⟨b, off + (n.toNat * sz + 0), none⟩), ?_, .pure _ _ (.lptr sz els _ 0 b off vs hA hb hsz k1 kv kr)⟩
      simp [execOp, ho, hv, e2, Instr.indexAt, asIntOf, run_underlying hu, h0, hlt, sizeOf, typeInfo, hp, hs, addr_add]
theorem op_indexAddr_own [Bk] [Ev] {t e : TypeId} {x ix : Operand} {T sz id i n' : Nat} {els : List (List AV)} {el : List AV} {k : IntKind} {n : Int} (ho : o.op = .indexAddr t x ix) (hx : aev f x = .own T sz id i n') (hh : h id = .cells T sz els) (hi : aev f ix = .c (.int k n)) (hu : P.underlying t = some (.slice e)) (hs : (P.info? e).map (·.size) = some sz) (h0 : 0 ≤ n) (hn : n.toNat < n') (he : els[i + n.toNat]? = some el) :
    OpOk P o f h ⟨.ptr sz id (i + n.toNat) 0, [], [id]⟩ := by
  refine op_pure fun m A w a H F => ?_
  have h1 := F.eval x
  rw [hx] at h1
  have h2 := F.eval ix
  rw [hi] at h2
  have e2 := h2.c_inv
  obtain ⟨b, cs, g1, -⟩ := H.block hh he
  obtain ⟨cap, hv, -⟩ := h1.at_own g1
  cases hp : P.info? e with
  | none => simp [hp] at hs
  | some ti =>
    simp only [hp, Option.map_some, Option.some.injEq] at hs
    have hlt : n < (n' : Int) := by omega
    refine ⟨.pointer (some ⟨b, (i + n.toNat) * sz + 0, none⟩), ?_, .ptr sz id _ 0 b g1 (H.lt g1)⟩
    simp [execOp, ho, hv, e2, Instr.indexAt, asIntOf, run_underlying hu, h0, hlt, sizeOf, typeInfo, hp, hs, addr_add, Nat.add_mul]
theorem op_indexAddr_arr [Bk] [Ev] {t e : TypeId} {x ix : Operand} {T sz id i off len s : Nat} {els : List (List AV)} {el : List AV} {k : IntKind} {n : Int} (ho : o.op = .indexAddr t x ix) (hx : aev f x = .ptr sz id i off) (hh : h id = .cells T sz els) (he : els[i]? = some el) (hi : aev f ix = .c (.int k n)) (hu : P.underlying t = some (.array len e)) (hs : (P.info? e).map (·.size) = some s) (h0 : 0 ≤ n) (hn : n.toNat < len) :
    OpOk P o f h ⟨.ptr sz id i (off + n.toNat * s), [], [id]⟩ := by
  refine op_pure fun m A w a H F => ?_
  have h1 := F.eval x
  rw [hx] at h1
  have h2 := F.eval ix
  rw [hi] at h2
  have e2 := h2.c_inv
  obtain ⟨b, cs, g1, -⟩ := H.block hh he
  have hv := h1.at_ptr g1
  cases hp : P.info? e with
  | none => simp [hp] at hs
  | some ti =>
    simp only [hp, Option.map_some, Option.some.injEq] at hs
    have hlt : n < (len : Int) := by omega
    refine ⟨.pointer (some ⟨b, i * sz + (off + n.toNat * s), none⟩), ?_, .ptr sz id _ _ b g1 (H.lt g1)⟩
    simp [execOp, ho, hv, e2, Instr.indexAt, asIntOf, run_underlying hu, h0, hlt, sizeOf, typeInfo, hp, hs, addr_add, Instr.sureAddr, Nat.add_assoc]
theorem op_indexAddr_larr [Bk] [Ev] {t e : TypeId} {x ix : Operand} {sz i off len s : Nat} {els : List (List AV)} {k : IntKind} {n : Int} (ho : o.op = .indexAddr t x ix) (hx : aev f x = .lptr sz els i off) (hi : aev f ix = .c (.int k n)) (hu : P.underlying t = some (.array len e)) (hs : (P.info? e).map (·.size) = some s) (h0 : 0 ≤ n) (hn : n.toNat < len) :
    OpOk P o f h ⟨.lptr sz els i (off + n.toNat * s), [], []⟩ := by
  refine op_pure fun m A w a H F => ?_
  have h1 := F.eval x
  rw [hx] at h1
  have h2 := F.eval ix
  rw [hi] at h2
  have e2 := h2.c_inv
  obtain ⟨b, o0, vs, hv, hr⟩ := h1.lptr_inv
  cases hp : P.info? e with
  | none => simp [hp] at hs
  | some ti =>
    simp only [hp, Option.map_some, Option.some.injEq] at hs
    have hlt : n < (len : Int) := by omega
    refine ⟨_, ?_, hr i (off + n.toNat * s)⟩
    simp [execOp, ho, hv, e2, Instr.indexAt, asIntOf, run_underlying hu, h0, hlt, sizeOf, typeInfo, hp, hs, addr_add, Instr.sureAddr, Nat.add_assoc]

/-- A part of a struct that lies in no memory. -/
theorem part_ok [Bk] [Ev] {m : Nat → St} {A : Nat → Prop} {w : World} {t : TypeId} {cs : List AV} {vs : Array Value} {off : Nat} {x : AV} (hc : CR (Rd m A w) cs vs) (hp : partA P t cs off = some x) : ∃ v, (part t vs off).run P w = .ok v w ∧ Rd m A w x v := by
  unfold partA at hp
  have agg : ∀ (i : TypeInfo), off + i.size ≤ cs.length → Rd m A w (.agg ((cs.drop off).take i.size)) (.agg (vs.extract off (off + i.size))) := by
    intro i hle
    refine .agg _ _ (by have := hc.1; simp; omega) ?_ ?_
    · intro j y hy
      rw [List.getElem?_take, List.getElem?_drop] at hy
      split at hy
      · exact (hc.2 _ _ hy).1
      · cases hy
    · intro j y hy
      rw [List.getElem?_take, List.getElem?_drop] at hy
      split at hy
      · rename_i hj
        have h2 := (hc.2 _ _ hy).2
        have e1 : (vs.extract off (off + i.size)).getD j Go.undef = vs.getD (off + j) Go.undef := by
          have := hc.1
          have hlt : off + j < vs.size := by omega
          have hlt2 : j < min (off + i.size) vs.size - off := by omega
          simp [Array.getElem?_extract, hj, hlt2, hlt]
        rw [e1]; exact h2
      · cases hy
  split at hp
  · rename_i fs hu
    cases hi : P.info? t with
    | none => simp [hi] at hp
    | some i =>
      simp only [hi] at hp
      split at hp
      · rename_i hle
        cases hp
        exact ⟨_, by simp [part, isAgg_run t w hu, sizeOf, typeInfo, hi], agg i hle⟩
      · cases hp
  · rename_i n e hu
    cases hi : P.info? t with
    | none => simp [hi] at hp
    | some i =>
      simp only [hi] at hp
      split at hp
      · rename_i hle
        cases hp
        exact ⟨_, by simp [part, isAgg_run t w hu, sizeOf, typeInfo, hi], agg i hle⟩
      · cases hp
  · rename_i d hn1 hn2 hu
    have h2 := hc.2 _ _ hp
    have hlt : off < vs.size := by rw [hc.1]; exact (List.getElem?_eq_some_iff.1 hp).1
    have : (isAgg t).run P w = .ok false w := by
      rw [isAgg_run t w hu]
      cases d <;> first | rfl | (exact absurd rfl (hn1 _)) | (exact absurd rfl (hn2 _ _))
    refine ⟨vs.getD off Go.undef, ?_, h2.2⟩
    simp [part, this, hlt]
  · cases hp

theorem Rd.agg_inv [Bk] [Ev] {m : Nat → St} {A : Nat → Prop} {w : World} {cs : List AV} {u : Value} (h : Rd m A w (.agg cs) u) : ∃ vs, u = .agg vs ∧ CR (Rd m A w) cs vs := by
  cases h with
  | pure _ _ h =>
    cases h with
    | agg _ vs hl h1 h => exact ⟨vs, rfl, hl, fun i x hx => ⟨h1 i x hx, .pure _ _ (h i x hx)⟩⟩
  | agg _ vs hl h1 h => exact ⟨vs, rfl, hl, fun i x hx => ⟨h1 i x hx, h i x hx⟩⟩
theorem Rd.tup_inv [Bk] [Ev] {m : Nat → St} {A : Nat → Prop} {w : World} {cs : List AV} {u : Value} (h : Rd m A w (.tup cs) u) : ∃ vs, u = .tuple vs ∧ vs.size = cs.length ∧ ∀ (i : Nat) (x : AV), cs[i]? = some x → Rd m A w x (vs.getD i Go.undef) := by
  cases h with
  | pure _ _ h =>
    cases h with
    | tup _ vs hl h => exact ⟨vs, rfl, hl, fun i x hx => .pure _ _ (h i x hx)⟩
  | tup _ vs hl h => exact ⟨vs, rfl, hl, h⟩

theorem op_field [Bk] [Ev] {t : TypeId} {x : Operand} {k ty o' n : Nat} {cs : List AV} {v : AV} (ho : o.op = .field t x k) (hx : aev f x = .agg cs) (hf : fieldOf P t k = some (ty, o', n)) (hp : partA P ty cs o' = some v) : OpOk P o f h ⟨v, [], []⟩ := by
  refine op_pure fun m A w a H F => ?_
  have h1 := F.eval x
  rw [hx] at h1
  obtain ⟨vs, hv, hc⟩ := h1.agg_inv
  obtain ⟨r, r1, r2⟩ := part_ok (P := P) hc hp
  unfold fieldOf at hf
  split at hf
  · rename_i fs hu
    split at hf
    · rename_i fd hfd
      cases hi : P.info? fd.type with
      | none => simp [hi] at hf
      | some i =>
        simp only [hi, Option.map_some, Option.some.injEq, Prod.mk.injEq] at hf
        obtain ⟨rfl, rfl, rfl⟩ := hf
        exact ⟨r, by simp [execOp, ho, hv, Instr.field, run_underlying hu, hfd, asAgg, r1], r2⟩
    · cases hf
  · cases hf
theorem op_index_arr [Bk] [Ev] {t e : TypeId} {x ix : Operand} {len s : Nat} {cs : List AV} {k : IntKind} {n : Int} {v : AV} (ho : o.op = .index t x ix) (hx : aev f x = .agg cs) (hi : aev f ix = .c (.int k n)) (hu : P.underlying t = some (.array len e)) (hs : (P.info? e).map (·.size) = some s) (h0 : 0 ≤ n) (hn : n.toNat < len) (hp : partA P e cs (n.toNat * s) = some v) :
    OpOk P o f h ⟨v, [], []⟩ := by
  refine op_pure fun m A w a H F => ?_
  have h1 := F.eval x
  rw [hx] at h1
  have h2 := F.eval ix
  rw [hi] at h2
  have e2 := h2.c_inv
  obtain ⟨vs, hv, hc⟩ := h1.agg_inv
  obtain ⟨r, r1, r2⟩ := part_ok (P := P) hc hp
  cases hp : P.info? e with
  | none => simp [hp] at hs
  | some ti =>
    simp only [hp, Option.map_some, Option.some.injEq] at hs
    have hlt : n < (len : Int) := by omega
    exact ⟨r, by simp [execOp, ho, hv, e2, Instr.index, asIntOf, run_underlying hu, h0, hlt, sizeOf, typeInfo, hp, hs, r1], r2⟩
theorem op_index_str [Bk] [Ev] {t : TypeId} {x ix : Operand} {s : ByteArray} {k : IntKind} {n : Int} {b : UInt8} (ho : o.op = .index t x ix) (hx : aev f x = .c (.string s)) (hi : aev f ix = .c (.int k n)) (hu : P.underlying t = some .string) (h0 : 0 ≤ n) (hb : s[n.toNat]? = some b) :
    OpOk P o f h ⟨.c (.int .u8 b.toNat), [], []⟩ := by
  refine op_pure fun m A w a H F => ?_
  have h1 := F.eval x
  rw [hx] at h1
  have h2 := F.eval ix
  rw [hi] at h2
  have e1 := h1.c_inv
  have e2 := h2.c_inv
  exact ⟨_, by simp [execOp, ho, e1, e2, Instr.index, asIntOf, run_underlying hu, h0, hb], .pure _ _ (.c _)⟩
theorem op_extract [Bk] [Ev] {x : Operand} {k : Nat} {vs : List AV} {v : AV} (ho : o.op = .extract x k) (hx : aev f x = .tup vs) (hv : vs[k]? = some v) : OpOk P o f h ⟨v, [], []⟩ := by
  refine op_pure fun m A w a H F => ?_
  have h1 := F.eval x
  rw [hx] at h1
  obtain ⟨us, hu, hl, hr⟩ := h1.tup_inv
  have hlt : k < us.size := by rw [hl]; exact (List.getElem?_eq_some_iff.1 hv).1
  refine ⟨us.getD k Go.undef, ?_, hr k v hv⟩
  simp [execOp, ho, hu, Instr.extract, hlt]

/-- A struct, an array, put together. -/
def builtA (P : Program) (t : TypeId) (parts : List (Nat × AV)) : Option (List AV) :=
  match P.info? t, P.underlying t with
  | some it, some (.array _ e) =>
    match (it.zero.map ofC).bind cellsA, P.info? e with
    | some z, some ie => fillA (fun i => some (i * ie.size, ie.size)) z parts
    | _, _ => none
  | some it, some (.struct fields) =>
    match (it.zero.map ofC).bind cellsA, fields.toList.mapM (fun f => (P.info? f.type).map fun i => (f.offset, i.size)) with
    | some z, some places => fillA (places.toArray[·]?) z parts
    | _, _ => none
  | _, _ => none
theorem built_ok [Bk] [Ev] {m : Nat → St} {A : Nat → Prop} {w : World} {t : TypeId} {ps : List (Nat × AV)} {qs : List (Nat × Value)} {cs : List AV} (hl : ps.length = qs.length) (hr : ∀ (i : Nat) (p : Nat × AV) (q : Nat × Value), ps[i]? = some p → qs[i]? = some q → p.1 = q.1 ∧ Rd m A w p.2 q.2) (hb : builtA P t ps = some cs) :
    ∃ us, P.built t qs = some us ∧ CR (Rd m A w) cs us := by
  unfold builtA at hb
  unfold Program.built
  split at hb
  · rename_i it len e h1 h2
    rw [h1, h2]
    simp only
    cases hz : it.zero with
    | none => simp [hz] at hb
    | some z =>
      cases hie : P.info? e with
      | none => simp [hz, hie] at hb
      | some ie =>
        cases hc : cellsA (ofC z) with
        | none => simp [hz, hie, hc] at hb
        | some zc =>
          simp only [hz, hie, hc, Option.map_some, Option.bind_some] at hb
          exact fillA_ok _ ps qs zc cs z.cells (CR_cells (.pure _ _ (RdL_ofC _ w z)) hc) hl hr hb
  · rename_i it fields h1 h2
    rw [h1, h2]
    simp only
    cases hz : it.zero with
    | none => simp [hz] at hb
    | some z =>
      cases hpl : fields.toList.mapM (fun f => (P.info? f.type).map fun i => (f.offset, i.size)) with
      | none => simp [hz, hpl] at hb
      | some places =>
        cases hc : cellsA (ofC z) with
        | none => simp [hz, hpl, hc] at hb
        | some zc =>
          simp only [hz, hpl, hc, Option.map_some, Option.bind_some] at hb
          exact fillA_ok _ ps qs zc cs z.cells (CR_cells (.pure _ _ (RdL_ofC _ w z)) hc) hl hr hb
  · cases hb
theorem parts_rel [Bk] [Ev] {m : Nat → St} {A : Nat → Prop} {w : World} {a : Act} (F : FRel m A w f a) (parts : Array (Nat × Operand)) : ∀ (i : Nat) (p : Nat × AV) (q : Nat × Value), (parts.toList.map fun p => (p.1, aev f p.2))[i]? = some p → (parts.map fun p => (p.1, a.eval p.2)).toList[i]? = some q → p.1 = q.1 ∧ Rd m A w p.2 q.2 := by
  intro i p q hp hq
  rw [List.getElem?_map] at hp
  rw [Array.toList_map, List.getElem?_map] at hq
  cases hi : parts.toList[i]? with
  | none => rw [hi] at hp; cases hp
  | some y =>
    rw [hi] at hp hq
    simp only [Option.map_some, Option.some.injEq] at hp hq
    subst hp; subst hq
    exact ⟨rfl, F.eval y.2⟩
theorem op_build [Bk] [Ev] {t : TypeId} {parts : Array (Nat × Operand)} {cs : List AV} (ho : o.op = .build t parts) (hb : builtA P t (parts.toList.map fun p => (p.1, aev f p.2)) = some cs) : OpOk P o f h ⟨.agg cs, [], []⟩ := by
  refine op_pure fun m A w a H F => ?_
  obtain ⟨us, h1, h2⟩ := built_ok (P := P) (m := m) (A := A) (w := w) (qs := (parts.map fun p => (p.1, a.eval p.2)).toList) (by simp) (parts_rel F parts) hb
  refine ⟨.agg us, ?_, h2.agg⟩
  have := run_build (P := P) w t (parts.map fun p => (p.1, a.eval p.2)) us h1
  simp [execOp, ho, this]

theorem op_makeInterface [Bk] [Ev] {t : TypeId} {x : Operand} (ho : o.op = .makeInterface t x) (ht : P.concrete t = true) : OpOk P o f h ⟨.ifc t (aev f x), [], []⟩ := by
  refine op_pure fun m A w a H F => ⟨.iface t (a.eval x), by simp [execOp, ho, run_makeInterface w t (a.eval x) ht], .ifc t _ _ (F.eval x)⟩
theorem map_rel [Bk] [Ev] {m : Nat → St} {A : Nat → Prop} {w : World} {a : Act} (F : FRel m A w f a) (xs : Array Operand) : ∀ (i : Nat) (x : AV), (xs.toList.map (aev f))[i]? = some x → Rd m A w x ((xs.map a.eval).getD i Go.undef) := by
  intro i x hx
  rw [List.getElem?_map] at hx
  cases hi : xs.toList[i]? with
  | none => rw [hi] at hx; cases hx
  | some y =>
    rw [hi] at hx
    simp only [Option.map_some, Option.some.injEq] at hx
    subst hx
    have hlt : i < xs.size := by simpa using (List.getElem?_eq_some_iff.1 hi).1
    have hy : xs[i] = y := by have := (List.getElem?_eq_some_iff.1 hi).2; simpa using this
    have : (xs.map a.eval).getD i Go.undef = a.eval y := by simp [hlt, hy]
    rw [this]; exact F.eval y
theorem op_makeFunc [Bk] [Ev] {fn : Fn} {first captured : Array Operand} (ho : o.op = .makeFunc fn first captured) : OpOk P o f h ⟨.fn fn (first.toList.map (aev f)) (captured.toList.map (aev f)), [], []⟩ := by
  refine op_pure fun m A w a H F => ⟨.func fn (first.map a.eval) (captured.map a.eval), by simp [execOp, ho, Instr.makeFunc], ?_⟩
  exact .fn fn _ _ _ _ (by simp) (by simp) (map_rel F first) (map_rel F captured)
theorem op_convert_int [Bk] [Ev] {s d : TypeId} {x : Operand} {k k' : IntKind} {n : Int} {ds : TypeDesc} (ho : o.op = .convert s d x) (hx : aev f x = .c (.int k n)) (hs : P.underlying s = some ds) (hd : P.underlying d = some (.int k')) : OpOk P o f h ⟨.c (.int k' (k'.wrap n)), [], []⟩ := by
  refine op_pure fun m A w a H F => ?_
  have h1 := F.eval x
  rw [hx] at h1
  have e1 := h1.c_inv
  exact ⟨_, by simp [execOp, ho, e1, convert, run_underlying hs, run_underlying hd, Conv.intToInt], .pure _ _ (.c _)⟩
theorem op_convert_str [Bk] [Ev] {s d : TypeId} {x : Operand} {b : ByteArray} {ds : TypeDesc} (ho : o.op = .convert s d x) (hx : aev f x = .c (.string b)) (hs : P.underlying s = some ds) (hd : P.underlying d = some .string) : OpOk P o f h ⟨.c (.string b), [], []⟩ := by
  refine op_pure fun m A w a H F => ?_
  have h1 := F.eval x
  rw [hx] at h1
  have e1 := h1.c_inv
  exact ⟨_, by simp [execOp, ho, e1, convert, run_underlying hs, run_underlying hd], .pure _ _ (.c _)⟩
theorem op_convert_sym [Bk] [Ev] {s d : TypeId} {x : Operand} {p : Poly} {ds : TypeDesc} (ho : o.op = .convert s d x) (hx : aev f x = .e p) (hs : P.underlying s = some ds) (hd : P.underlying d = some (.int .i64)) (hb : inB p = true) : OpOk P o f h ⟨.e p, [], []⟩ := by
  refine op_pure fun m A w a H F => ?_
  have h1 := F.eval x
  rw [hx] at h1
  have e1 := toP_ok (x := .e p) rfl h1
  have := IntWalk.i64_in (pev Ev.rho p) (by have := inB_ok hb; omega)
  exact ⟨_, by simp [execOp, ho, e1, convert, run_underlying hs, run_underlying hd, Conv.intToInt, this], .pure _ _ (.e p)⟩
theorem Rd.row_inv [Bk] [Ev] {m : Nat → St} {A : Nat → Prop} {w : World} {n : Poly} {xs : List Poly} {u : Value} (h : Rd m A w (.row n xs) u) :
    (pev Ev.rho n = 0 ∧ ∃ a cap, u = .slice a 0 cap) ∨ ∃ b off len cap, u = .slice (some ⟨b, off, none⟩) len cap ∧ pev Ev.rho n = (len : Nat) ∧ ¬ Av m A b ∧ b < w.heap.size ∧ ∀ (j : Nat) (p : Poly), xs[j]? = some p → j < len → w.cell? ⟨b, off + j, none⟩ = some (.int .i64 (pev Ev.rho p)) := by
  cases h with
  | pure _ _ h =>
    cases h with
    | row _ _ b off len cap hn hc hA hb hv => exact .inr ⟨b, off, len, cap, rfl, hn, hA, hb, hv⟩
    | row0 _ _ a cap hn => exact .inl ⟨hn, a, cap, rfl⟩
/-- An element of a row of numbers. -/
theorem op_indexAddr_row [Bk] [Ev] {t e : TypeId} {x ix : Operand} {N p : Poly} {xs : List Poly} {k : IntKind} {n : Int} (ho : o.op = .indexAddr t x ix) (hx : aev f x = .row N xs) (hi : aev f ix = .c (.int k n)) (hu : P.underlying t = some (.slice e)) (hs : (P.info? e).map (·.size) = some 1) (h0 : 0 ≤ n) (hn : ltB (psub (plit n) N) = some true) (hp : xs[n.toNat]? = some p) :
    OpOk P o f h ⟨.lptr 1 [[mkE p]] 0 0, [], []⟩ := by
  refine op_pure fun m A w a H F => ?_
  have h1 := F.eval x
  rw [hx] at h1
  have h2 := F.eval ix
  rw [hi] at h2
  have e2 := h2.c_inv
  have hlt := ltB_ok hn
  rw [pev_psub, pev_plit, eq_comm, decide_eq_true_eq] at hlt
  obtain ⟨hz, -⟩ | ⟨b, off, len, cap, hv, hl, hA, hb, hc⟩ := h1.row_inv
  · omega
  · have hcell := hc _ _ hp (by omega)
    cases hpi : P.info? e with
    | none => simp [hpi] at hs
    | some ti =>
      simp only [hpi, Option.map_some, Option.some.injEq] at hs
      have hlt2 : n < (len : Int) := by omega
      refine ⟨.pointer (some ⟨b, (off + n.toNat) + (0 * 1 + 0), none⟩), ?_, .pure _ _ (.lptr 1 _ 0 0 b (off + n.toNat) (fun _ _ => .int .i64 (pev Ev.rho p)) hA hb ?_ ?_ ?_ ?_)⟩
      · simp [execOp, ho, hv, e2, Instr.indexAt, asIntOf, run_underlying hu, h0, hlt2, sizeOf, typeInfo, hpi, hs, addr_add]
      · intro q hq; simp at hq; subst hq; rfl
      · intro i j y hy
        rcases i with _ | i
        · rcases j with _ | j
          · simp [at2] at hy; subst hy; exact one_mkE p
          · simp [at2] at hy
        · simp [at2] at hy
      · intro i j y hy
        rcases i with _ | i
        · rcases j with _ | j
          · simpa using hcell
          · simp [at2] at hy
        · simp [at2] at hy
      · intro i j y hy
        rcases i with _ | i
        · rcases j with _ | j
          · simp [at2] at hy; subst hy; exact RdL_mkE _ w p
          · simp [at2] at hy
        · simp [at2] at hy
end
end Go.Proofs.YtjbgfhafinfjbaaGreat.Mc
