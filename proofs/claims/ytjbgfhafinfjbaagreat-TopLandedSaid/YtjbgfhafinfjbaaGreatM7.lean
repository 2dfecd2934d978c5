/-
  A machine of plain data beside the model: make, slices of slices, interfaces. No program in sight.
-/
import Derived.Test.YtjbgfhafinfjbaaGreatM6
import Derived.Laws.StructEq
set_option linter.unusedVariables false
set_option linter.unusedSimpArgs false
namespace Go.Proofs.YtjbgfhafinfjbaaGreat.Mc
open Go.RowKit

section
variable {P : Program} {o : Oper} {f : List AV} {h : AH}

theorem at2_replicate [Bk] [Ev] {n : Nat} {zc : List AV} {i j : Nat} {x : AV} (h : at2 (List.replicate n zc) i j = some x) : i < n ∧ zc[j]? = some x := by
  unfold at2 at h
  rw [List.getElem?_replicate] at h
  split at h
  · rename_i hi; exact ⟨hi, h⟩
  · cases h

/-- A row of the machine's own, new. -/
theorem own_new [Bk] [Ev] {m : Nat → St} {A : Nat → Prop} {w : World} (H : HRel m A h w) {nx T sz n cap : Nat} {els : List (List AV)} {cs : Array Value} (hnx : h nx = .no) (hl : els.length = n) (hn : n ≤ cap) (hc : cap ≤ maxLen) (hs : cs.size = cap * sz) (h4 : ∀ e ∈ els, e.length = sz)
    (h5 : ∀ (i j : Nat) (x : AV), at2 els i j = some x → x.one = true ∧ Rd m A w x (cs.getD (i * sz + j) Go.undef)) :
    HRel (sset m nx (.at w.heap.size)) A (bset h nx (.cells T sz els)) (w.alloc (.cells cs T)) ∧ Ext m w (sset m nx (.at w.heap.size)) (w.alloc (.cells cs T)) ∧ Rd (sset m nx (.at w.heap.size)) A (w.alloc (.cells cs T)) (.own T sz nx 0 n) (.slice (some ⟨w.heap.size, 0, none⟩) n cap) := by
  subst hl
  obtain ⟨q1, q2⟩ := H.alloc (id := nx) (T := T) (sz := sz) (els := els) (cs := cs) hnx (by rw [hs]; exact Nat.mul_le_mul_right _ hn) h4 h5
  refine ⟨q1, q2, ?_⟩
  have := Rd.own (m := sset m nx (.at w.heap.size)) (A := A) (w := w.alloc (.cells cs T)) T sz nx 0 els.length w.heap.size cap (by simp [sset]) (by simp) hn hc (by
    rw [Nat.zero_add, ← hs]
    have : (w.alloc (.cells cs T)).heap[w.heap.size]? = some (.cells cs T (0, 0)) := by
      show (w.heap.push _)[w.heap.size]? = _
      simp
    unfold rowSize; rw [this])
  simpa using this

theorem op_makeSlice [Bk] [Ev] {t e : TypeId} {x y : Operand} {i : TypeInfo} {z : Value} {zc : List AV} {nx : Nat} {k k' : IntKind} {l c : Int} (ho : o.op = .makeSlice t x y) (ht : P.underlying t = some (.slice e)) (hi : P.info? e = some i) (hz : i.zero = some z) (hzc : cellsA (ofC z) = some zc) (hzs : zc.length = i.size)
    (hx : aev f x = .c (.int k l)) (hy : aev f y = .c (.int k' c)) (h0 : 0 ≤ l) (hlc : l ≤ c) (hb : (i.bytes : Int) * c ≤ 281474976710656) (hc : c ≤ 1099511627776) (hnx : h nx = .no) :
    OpOk P o f h ⟨.own e i.size nx 0 l.toNat, [(nx, .cells e i.size (List.replicate l.toNat zc))], [nx]⟩ := by
  intro m A w a H F
  have g1 := F.eval x
  rw [hx] at g1
  have g2 := F.eval y
  rw [hy] at g2
  have hr := run_make (P := P) w t e i z ht hi hz k k' l c h0 hlc hb (by omega)
  have hcr : CR (Rd m A w) zc z.cells := CR_cells (.pure _ _ (RdL_ofC _ w z)) hzc
  have hsz : (madeCells z.cells (c.toNat * i.size)).size = c.toNat * i.size := by simp [madeCells]
  obtain ⟨q1, q2, q3⟩ := own_new H (T := e) (sz := i.size) (n := l.toNat) (cap := c.toNat) (els := List.replicate l.toNat zc) (cs := madeCells z.cells (c.toNat * i.size)) hnx (by simp) (by omega) (by simp only [maxLen]; omega) hsz (by intro e he; rw [(List.mem_replicate.1 he).2]; exact hzs) (by
    intro i' j x' hx'
    obtain ⟨r1, r2⟩ := at2_replicate hx'
    obtain ⟨r3, r4⟩ := hcr.2 _ _ r2
    have hj : j < i.size := by rw [← hzs]; exact (List.getElem?_eq_some_iff.1 r2).1
    have hzz : z.cells.size = i.size := hcr.1.trans hzs
    have hlt : i' * i.size + j < c.toNat * i.size := by
      have : (i' + 1) * i.size ≤ c.toNat * i.size := Nat.mul_le_mul_right _ (by omega)
      rw [Nat.succ_mul] at this; omega
    have hmod : (i' * i.size + j) % z.cells.size = j := by rw [hzz, Nat.mul_comm, Nat.mul_add_mod, Nat.mod_eq_of_lt hj]
    have : (madeCells z.cells (c.toNat * i.size)).getD (i' * i.size + j) Go.undef = z.cells.getD j Go.undef := by
      have hj2 : j < z.cells.size := by omega
      simp [madeCells, hlt, hmod, hj2]
    rw [this]
    exact ⟨r3, r4⟩)
  refine ⟨_, _, _, .inl ?_, by simpa [upsB] using q1, q3, q2⟩
  simp [execOp, ho, g1.c_inv, g2.c_inv, hr]

def chunk {α : Type} (sz : Nat) : Nat → List α → List (List α)
  | 0, _ => []
  | n + 1, l => l.take sz :: chunk sz n (l.drop sz)
theorem chunk_len [Bk] [Ev] {α : Type} (sz : Nat) : ∀ (n : Nat) (l : List α), (chunk sz n l).length = n
  | 0, _ => rfl
  | n + 1, l => by simp [chunk, chunk_len sz n]
theorem chunk_each [Bk] [Ev] {α : Type} (sz : Nat) : ∀ (n : Nat) (l : List α), l.length = n * sz → ∀ e ∈ chunk sz n l, e.length = sz
  | 0, _, _, e, he => by simp [chunk] at he
  | n + 1, l, hl, e, he => by
    rw [Nat.succ_mul] at hl
    simp only [chunk, List.mem_cons] at he
    rcases he with rfl | he
    · simp; omega
    · exact chunk_each sz n (l.drop sz) (by simp; omega) e he
theorem chunk_at2 [Bk] [Ev] (sz : Nat) : ∀ (n : Nat) (l : List AV) (i j : Nat) (x : AV), at2 (chunk sz n l) i j = some x → l[i * sz + j]? = some x
  | 0, _, i, j, x, h => by simp [chunk, at2] at h
  | n + 1, l, 0, j, x, h => by
    simp only [chunk, at2, List.getElem?_cons_zero, Option.bind_some] at h
    rw [List.getElem?_take] at h
    split at h
    · rw [Nat.zero_mul, Nat.zero_add]; exact h
    · cases h
  | n + 1, l, i + 1, j, x, h => by
    have := chunk_at2 sz n (l.drop sz) i j x (by simpa [chunk, at2] using h)
    rw [List.getElem?_drop] at this
    rw [Nat.succ_mul]
    rw [← this]; congr 1; omega

theorem CR_zeros [Bk] [Ev] {m : Nat → St} {A : Nat → Prop} {w : World} {zc : List AV} {z : Value} (hc : CR (Rd m A w) zc z.cells) (n : Nat) : CR (Rd m A w) ((List.replicate n zc).flatten) ((Array.range (n * zc.length)).map (z.cells[· % z.cells.size]!)) := by
  have hl : ((List.replicate n zc).flatten).length = n * zc.length := by simp
  refine ⟨by simp, ?_⟩
  intro k x hx
  have hk : k < n * zc.length := by rw [← hl]; exact (List.getElem?_eq_some_iff.1 hx).1
  have h0 : 0 < zc.length := by
    rcases Nat.eq_zero_or_pos zc.length with h | h
    · rw [h] at hk; simp at hk
    · exact h
  have hmod := Nat.mod_lt k h0
  have key : ∀ (n k : Nat), k < n * zc.length → ((List.replicate n zc).flatten)[k]? = zc[k % zc.length]? := by
    intro n
    induction n with
    | zero => intro k hk; simp at hk
    | succ n ih =>
      intro k hk
      rw [List.replicate_succ, List.flatten_cons]
      rcases Nat.lt_or_ge k zc.length with h | h
      · rw [List.getElem?_append_left h, Nat.mod_eq_of_lt h]
      · rw [List.getElem?_append_right h, ih _ (by rw [Nat.succ_mul] at hk; omega), ← Nat.mod_eq_sub_mod h]
  rw [key n k hk] at hx
  obtain ⟨r1, r2⟩ := hc.2 _ _ hx
  refine ⟨r1, ?_⟩
  have hs := hc.1
  have : ((Array.range (n * zc.length)).map (z.cells[· % z.cells.size]!)).getD k Go.undef = z.cells.getD (k % zc.length) Go.undef := by
    simp [hk, hs, hmod]
  rw [this]; exact r2

theorem op_buildSlice [Bk] [Ev] {t e : TypeId} {len : Nat} {parts : Array (Nat × Operand)} {i : TypeInfo} {z : Value} {zc cs : List AV} {nx : Nat} (ho : o.op = .buildSlice t len parts) (ht : P.underlying t = some (.slice e)) (hi : P.info? e = some i) (hz : i.zero = some z) (hzc : cellsA (ofC z) = some zc) (hzs : zc.length = i.size) (hs0 : 0 < i.size) (hl0 : 0 < len) (hsm : len * i.size ≤ 16777216)
    (hf : fillA (fun k => some (k * i.size, i.size)) ((List.replicate len zc).flatten) (parts.toList.map fun p => (p.1, aev f p.2)) = some cs) (hnx : h nx = .no) :
    OpOk P o f h ⟨.own e i.size nx 0 len, [(nx, .cells e i.size (chunk i.size len cs))], [nx]⟩ := by
  intro m A w a H F
  have hcr : CR (Rd m A w) zc z.cells := CR_cells (.pure _ _ (RdL_ofC _ w z)) hzc
  have hz0 := CR_zeros hcr len
  rw [hzs] at hz0
  obtain ⟨us, hu, hcu⟩ := fillA_ok _ _ (parts.map fun p => (p.1, a.eval p.2)).toList _ _ _ hz0 (by simp) (parts_rel F parts) hf
  have hfl : ∀ (ps : List (Nat × AV)) (c0 : List AV) (out : List AV), fillA (fun k => some (k * i.size, i.size)) c0 ps = some out → out.length = c0.length := by
    intro ps
    induction ps with
    | nil => intro c0 out h; simp only [fillA, Option.some.injEq] at h; rw [h]
    | cons p ps ih =>
      intro c0 out h
      simp only [fillA] at h
      split at h
      · rename_i off size xs h1 h2
        split at h
        · rename_i hc
          rw [ih _ _ h, splice_len hc.2]
        · cases h
      · cases h
  have hcl : cs.length = len * i.size := by rw [hfl _ _ _ hf]; simp [hzs]
  have hr := run_buildSlice (P := P) w t e len (parts.map fun p => (p.1, a.eval p.2)) us i z ht hi hz (by omega) (by have := Nat.mul_pos hl0 hs0; omega) hu
  obtain ⟨q1, q2, q3⟩ := own_new H (T := e) (sz := i.size) (n := len) (cap := len) (els := chunk i.size len cs) (cs := us) hnx (chunk_len _ _ _) (Nat.le_refl _) (by
      have : len ≤ len * i.size := Nat.le_mul_of_pos_right _ hs0
      simp only [maxLen]; omega) (by rw [hcu.1, hcl]) (chunk_each _ _ _ hcl) (by
    intro i' j x hx
    exact hcu.2 _ _ (chunk_at2 _ _ _ _ _ _ hx))
  refine ⟨_, _, _, .inl ?_, by simpa [upsB] using q1, q3, q2⟩
  simp [execOp, ho, hr]

/-- A bound of a slice expression. -/
def bndR (ρ : Operand → AV) (d : Nat) : Option Operand → Option Nat
  | none => some d
  | some x => match ρ x with
    | .c (.int _ n) => if 0 ≤ n then some n.toNat else none
    | _ => none
theorem bndA_ok [Bk] [Ev] {m : Nat → St} {A : Nat → Prop} {w : World} {a : Act} (F : FRel m A w f a) {d n : Nat} {x : Operand} (hb : bndR (aev f) d (some x) = some n) : ∃ k, a.eval x = .int k (n : Int) := by
  simp only [bndR] at hb
  have h1 := F.eval x
  split at hb
  · rename_i k v hv
    split at hb
    · rename_i h0
      cases hb
      rw [hv] at h1
      exact ⟨k, by rw [h1.c_inv, Int.toNat_of_nonneg h0]⟩
    · cases hb
  · cases hb
theorem run_slice_bounds [Bk] [Ev] {m : Nat → St} {A : Nat → Prop} {w : World} {a : Act} (F : FRel m A w f a) {t : TypeId} (ht : P.underlying t = some (.slice (P.elem t))) {ti : TypeInfo} (hp : P.info? (P.elem t) = some ti) {lo hi : Option Operand} {l u len cap : Nat} (hlo : bndR (aev f) 0 lo = some l) (hhi : bndR (aev f) len hi = some u) (h1 : l ≤ u) (h2 : u ≤ len) (hc : len ≤ cap) (ad : Option Addr) :
    (Instr.sliceAt t (.slice ad len cap) (lo.map a.eval) (hi.map a.eval) none).run P w = .ok (sliced ad l u cap ti.size) w := by
  rw [run_sliceAt_slice (P := P) w t _ _ _ _ ht]
  cases lo with
  | none =>
    simp only [bndR, Option.some.injEq] at hlo
    subst hlo
    cases hi with
    | none =>
      simp only [bndR, Option.some.injEq] at hhi
      subst hhi
      simp [run_slice_all (P := P) w t ad len cap ht, sizeOf, typeInfo, hp]
    | some x =>
      obtain ⟨k, hk⟩ := bndA_ok F hhi
      simp [hk, run_slice_h (P := P) w t ad len cap ht k (u : Int) (by omega) (by omega), sizeOf, typeInfo, hp]
  | some y =>
    obtain ⟨k', hk'⟩ := bndA_ok F hlo
    cases hi with
    | none =>
      simp only [bndR, Option.some.injEq] at hhi
      subst hhi
      simp [hk', run_slice_l (P := P) w t ad len cap ht k' (l : Int) (by omega) (by omega), sizeOf, typeInfo, hp]
    | some x =>
      obtain ⟨k, hk⟩ := bndA_ok F hhi
      simp [hk, hk', run_slice_lh (P := P) w t ad len cap ht k' k (l : Int) (u : Int) (by omega) (by omega) (by omega), sizeOf, typeInfo, hp]

theorem op_slice_lit [Bk] [Ev] {t : TypeId} {x : Operand} {lo hi : Option Operand} {sz l u : Nat} {els : List (List AV)} (ho : o.op = .slice t x lo hi none) (ht : P.underlying t = some (.slice (P.elem t))) (hs : (P.info? (P.elem t)).map (·.size) = some sz) (hx : aev f x = .lit sz els) (hlo : bndR (aev f) 0 lo = some l) (hhi : bndR (aev f) els.length hi = some u) (h1 : l ≤ u) (h2 : u ≤ els.length) :
    OpOk P o f h ⟨.lit sz ((els.drop l).take (u - l)), [], []⟩ := by
  refine op_pure fun m A w a H F => ?_
  have g := F.eval x
  rw [hx] at g
  cases hp : P.info? (P.elem t) with
  | none => simp [hp] at hs
  | some ti =>
    simp only [hp, Option.map_some, Option.some.injEq] at hs
    subst hs
    have hlen : ((els.drop l).take (u - l)).length = u - l := by simp; omega
    obtain ⟨rfl, ad, cap, hv⟩ | ⟨b, off, cap, vs, hv, hA, hb, hc, hsz, k1, kv, kr⟩ := g.lit_inv
    · have hr := run_slice_bounds (P := P) F ht hp hlo hhi h1 h2 (cap := cap) (by simp) ad
      simp only [List.length_nil] at h2 hr
      have : l = 0 ∧ u = 0 := by omega
      obtain ⟨rfl, rfl⟩ := this
      exact ⟨_, by simp [execOp, ho, hv, hr]; rfl, .pure _ _ (by simp only [sliced, List.drop_nil, List.take_nil, Nat.sub_self]; exact .lit0 _ _ _)⟩
    · have hr := run_slice_bounds (P := P) F ht hp hlo hhi h1 h2 hc (some ⟨b, off, none⟩)
      refine ⟨_, by simp [execOp, ho, hv, hr]; rfl, .pure _ _ ?_⟩
      unfold sliced
      by_cases hlu : l = u
      · subst hlu
        simp only [Nat.sub_self, List.take_zero]
        exact .lit0 _ _ _
      · rw [if_neg (by omega)]
        have := RdL.lit (A := Av m A) (w := w) ti.size ((els.drop l).take (u - l)) b (off + l * ti.size) (cap - l) (fun i j => vs (l + i) j) hA hb (by rw [hlen]; omega) (fun e he => hsz e (List.mem_of_mem_drop (List.mem_of_mem_take he))) (fun i j y hy => k1 _ _ _ (drop_at2 hy).2)
          (fun i j y hy => by have := kv _ _ _ (drop_at2 hy).2; rw [← this]; congr 2; rw [Nat.add_mul]; omega) (fun i j y hy => kr _ _ _ (drop_at2 hy).2)
        rw [hlen] at this
        simpa [addr_add] using this
theorem op_slice_own [Bk] [Ev] {t : TypeId} {x : Operand} {lo hi : Option Operand} {T sz id i n l u : Nat} {els : List (List AV)} (ho : o.op = .slice t x lo hi none) (ht : P.underlying t = some (.slice (P.elem t))) (hs : (P.info? (P.elem t)).map (·.size) = some sz) (hx : aev f x = .own T sz id i n) (hh : h id = .cells T sz els) (hne : els ≠ []) (hlo : bndR (aev f) 0 lo = some l) (hhi : bndR (aev f) n hi = some u) (h1 : l ≤ u) (h2 : u ≤ n) (h3 : l = 0 ∨ l < n) :
    OpOk P o f h ⟨.own T sz id (i + l) (u - l), [], [id]⟩ := by
  refine op_pure fun m A w a H F => ?_
  have g := F.eval x
  rw [hx] at g
  cases hp : P.info? (P.elem t) with
  | none => simp [hp] at hs
  | some ti =>
    simp only [hp, Option.map_some, Option.some.injEq] at hs
    subst hs
    obtain ⟨e, r, rfl⟩ := List.exists_cons_of_ne_nil hne
    obtain ⟨b, cs, g1, -⟩ := H.block (i := 0) hh rfl
    obtain ⟨cap, hv, hn, hcm, hrow⟩ := g.at_own g1
    have hr := run_slice_bounds (P := P) F ht hp hlo hhi h1 h2 hn (some ⟨b, i * ti.size, none⟩)
    refine ⟨_, by simp [execOp, ho, hv, hr]; rfl, ?_⟩
    have ha : sliced (some ⟨b, i * ti.size, none⟩) l u cap ti.size = .slice (some ⟨b, (i + l) * ti.size, none⟩) (u - l) (cap - l) := by
      unfold sliced
      rcases h3 with rfl | h3
      · split <;> simp [addr_add]
      · rw [if_neg (by omega)]; simp [addr_add, Nat.add_mul]
    rw [ha]
    exact .own T ti.size id (i + l) (u - l) b (cap - l) g1 (H.lt g1) (by omega) (by omega) (by rw [← hrow]; congr 1; omega)
theorem op_slice_str [Bk] [Ev] {t : TypeId} {x : Operand} {lo hi : Option Operand} {s : ByteArray} {l u : Nat} (ho : o.op = .slice t x lo hi none) (ht : P.underlying t = some .string) (hx : aev f x = .c (.string s)) (hlo : bndR (aev f) 0 lo = some l) (hhi : bndR (aev f) s.size hi = some u) (h1 : l ≤ u) (h2 : u ≤ s.size) :
    OpOk P o f h ⟨.c (.string (s.extract l u)), [], []⟩ := by
  refine op_pure fun m A w a H F => ?_
  have g := F.eval x
  rw [hx] at g
  refine ⟨_, ?_, .pure _ _ (.c _)⟩
  cases lo with
  | none =>
    simp only [bndR, Option.some.injEq] at hlo
    subst hlo
    cases hi with
    | none =>
      simp only [bndR, Option.some.injEq] at hhi
      subst hhi
      simp [execOp, ho, g.c_inv, Instr.sliceAt, run_underlying ht, Instr.slice, Instr.sliceBounds]
    | some y =>
      obtain ⟨k, hk⟩ := bndA_ok F hhi
      simp [execOp, ho, g.c_inv, Instr.sliceAt, run_underlying ht, Instr.slice, Instr.sliceBounds, hk, run_sliceBound, h2]
  | some y =>
    obtain ⟨k', hk'⟩ := bndA_ok F hlo
    cases hi with
    | none =>
      simp only [bndR, Option.some.injEq] at hhi
      subst hhi
      simp [execOp, ho, g.c_inv, Instr.sliceAt, run_underlying ht, Instr.slice, Instr.sliceBounds, hk', run_sliceBound, h1]
    | some y =>
      obtain ⟨k, hk⟩ := bndA_ok F hhi
      simp [execOp, ho, g.c_inv, Instr.sliceAt, run_underlying ht, Instr.slice, Instr.sliceBounds, hk, hk', run_sliceBound, h1, h2]

def concB (d : TypeDesc) : Bool := match d with | .interface _ => false | _ => true
theorem op_typeAssert [Bk] [Ev] {x : Operand} {xt asserted t : TypeId} {v : AV} {d : TypeDesc} {z : Value} {i : TypeInfo} {ok : Bool} (ho : o.op = .typeAssert x xt asserted ok) (hx : aev f x = .ifc t v) (hu : P.underlying asserted = some d) (hd : concB d = true) (hi : P.info? asserted = some i) (hz : i.zero = some z) (hok : t = asserted ∨ ok = true) :
    OpOk P o f h ⟨if t = asserted then (if ok then .tup [v, .c (.bool true)] else v) else .tup [ofC z, .c (.bool false)], [], []⟩ := by
  refine op_pure fun m A w a H F => ?_
  have g := F.eval x
  rw [hx] at g
  obtain ⟨u, hu', hr⟩ : ∃ u, a.eval x = .iface t u ∧ Rd m A w v u := by
    generalize a.eval x = q at g
    cases g with
    | pure _ _ h => cases h with | ifc _ _ u hr => exact ⟨u, rfl, .pure _ _ hr⟩
    | ifc _ _ u hr => exact ⟨u, rfl, hr⟩
  have tup2 : ∀ (p : AV) (q : Value) (b : Bool), Rd m A w p q → Rd m A w (.tup [p, .c (.bool b)]) (.tuple #[q, .bool b]) := by
    intro p q b hpq
    refine .tup _ _ rfl ?_
    intro k y hk
    match k, hk with
    | 0, hk => simp at hk; subst hk; exact hpq
    | 1, hk => simp at hk; subst hk; exact .pure _ _ (.c _)
  by_cases he : t = asserted
  · rw [if_pos he]
    subst he
    cases ok
    · exact ⟨u, by cases d <;> simp [concB] at hd <;> simp [execOp, ho, hu', Instr.typeAssert, run_underlying hu], hr⟩
    · exact ⟨.tuple #[u, .bool true], by cases d <;> simp [concB] at hd <;> simp [execOp, ho, hu', Instr.typeAssert, run_underlying hu], tup2 _ _ _ hr⟩
  · rw [if_neg he]
    have hok' : ok = true := by rcases hok with h | h; exact absurd h he; exact h
    subst hok'
    exact ⟨.tuple #[z, .bool false], by cases d <;> simp [concB] at hd <;> simp [execOp, ho, hu', Instr.typeAssert, run_underlying hu, he, zeroValue, typeInfo, hi, hz], tup2 _ _ _ (.pure _ _ (RdL_ofC _ w z))⟩

def isCst : Operand → Bool
  | .const _ => true
  | _ => false
def isFaceB (P : Program) (t : TypeId) : Bool := match P.underlying t with | some (.interface _) => true | _ => false
def isFuncB (P : Program) (t : TypeId) : Bool := match P.underlying t with | some (.func _ _ _) => true | _ => false
theorem face_of [Bk] [Ev] {t : TypeId} (h : isFaceB P t = true) : ∃ ms, P.underlying t = some (.interface ms) := by
  unfold isFaceB at h; split at h
  · rename_i ms hm; exact ⟨ms, hm⟩
  · cases h
theorem func_of [Bk] [Ev] {t : TypeId} (h : isFuncB P t = true) : ∃ a b c, P.underlying t = some (.func a b c) := by
  unfold isFuncB at h; split at h
  · rename_i a b c hm; exact ⟨a, b, c, hm⟩
  · cases h

def eqFs [Bk] (P : Program) (r : TypeId → AV → AV → Option Bool) (xs ys : List AV) : List Field → Option Bool
  | [] => some true
  | f :: fs => if f.name ≠ "_" then match partA P f.type xs f.offset, partA P f.type ys f.offset with
      | some a, some b => match r f.type a b with
        | some true => eqFs P r xs ys fs
        | some false => some false
        | none => none
      | _, _ => none
    else eqFs P r xs ys fs
def eqEs [Bk] (P : Program) (r : TypeId → AV → AV → Option Bool) (e : TypeId) (s : Nat) (xs ys : List AV) (k : Nat) : Nat → Option Bool
  | 0 => some true
  | n + 1 => match partA P e xs (k * s), partA P e ys (k * s) with
    | some a, some b => match r e a b with
      | some true => eqEs P r e s xs ys (k + 1) n
      | some false => some false
      | none => none
    | _, _ => none
/-- Are they alike? -/
def eqA [Bk] (P : Program) : Nat → TypeId → AV → AV → Option Bool
  | 0, _, _, _ => none
  | d + 1, t, x, y => match P.underlying t with
    | some .bool => match x, y with
      | .c (.bool a), .c (.bool b) => some (a == b)
      | _, _ => none
    | some (.int _) => match x, y with
      | .c (.int k a), .c (.int k' b) => if k = k' then some (a == b) else none
      | x, y => match toP x, toP y with
        | some p, some q => eqB (psub p q)
        | _, _ => none
    | some .string => match x, y with
      | .c (.string a), .c (.string b) => some (a.toList == b.toList)
      | _, _ => none
    | some (.struct fs) => match x, y with
      | .agg xs, .agg ys => if P.stoodInHeld t then none else eqFs P (eqA P d) xs ys fs.toList
      | _, _ => none
    | some (.array len e) => match x, y with
      | .agg xs, .agg ys => match P.info? e with
        | some i => eqEs P (eqA P d) e i.size xs ys 0 len
        | none => none
      | _, _ => none
    | _ => none

def arrBody (d : Nat) (e : TypeId) (s : Nat) (xs ys : Array Value) (k : Nat) (_ : Option Bool × Unit) : Sem (ForInStep (Option Bool × Unit)) := do
  let a ← part e xs (k * s)
  let b ← part e ys (k * s)
  let r ← Op.equalIn d e a b
  if r = false then pure (.done (some false, ())) else pure (.yield (none, ()))
theorem run_equalIn_arr [Bk] [Ev] (d : Nat) (t e : TypeId) (len : Nat) (xs ys : Array Value) (w : World) (ht : P.underlying t = some (.array len e)) (i : TypeInfo) (hi : P.info? e = some i) :
    (Op.equalIn (d + 1) t (.agg xs) (.agg ys)).run P w = ((forIn (List.range' 0 len) ((none : Option Bool), ()) (fun k s => arrBody d e i.size xs ys k s)).run P w).andThen fun a w' => (match a.1 with | some r => pure r | none => pure true : Sem Bool).run P w' := by
  simp only [Op.equalIn, Sem.run_bind, run_underlying ht, Result.andThen_ok]
  simp [sizeOf, typeInfo, hi, arrBody]
  congr 1
  congr 2
  funext k s
  congr 1
  obtain ⟨k1, -⟩ := k
  cases k1 <;> rfl

theorem eqA_ok [Bk] [Ev] {m : Nat → St} {A : Nat → Prop} {w : World} : ∀ (d : Nat) (t : TypeId) (x y : AV) (u v : Value) (b : Bool), eqA P d t x y = some b → Rd m A w x u → Rd m A w y v → (Op.equalIn d t u v).run P w = .ok b w
  | 0, t, x, y, u, v, b, h, _, _ => by simp [eqA] at h
  | d + 1, t, x, y, u, v, b, h, hx, hy => by
    have ih := fun t x y u v b => eqA_ok (m := m) (A := A) (w := w) d t x y u v b
    unfold eqA at h
    split at h
    · rename_i hu
      split at h
      · cases h; rw [hx.c_inv, hy.c_inv]; exact run_equalIn_bool d hu w
      · cases h
    · rename_i k0 hu
      split at h
      · split at h
        · rename_i hk; subst hk; cases h; rw [hx.c_inv, hy.c_inv]; exact run_equalIn_int w d t _ k0 _ _ hu
        · cases h
      · split at h
        · rename_i p q hp hq
          rw [toP_ok hp hx, toP_ok hq hy, run_equalIn_int w d t _ k0 _ _ hu]
          have k := eqB_ok h
          rw [pev_psub] at k
          have e : (pev Ev.rho p == pev Ev.rho q) = b := by rw [k, Bool.eq_iff_iff]; simp <;> omega
          rw [e]
        · cases h
    · rename_i hu
      split at h
      · cases h; rw [hx.c_inv, hy.c_inv]; exact run_equalIn_string w d t _ _ hu
      · cases h
    · rename_i fs hu
      split at h
      · rename_i xs ys
        split at h
        · cases h
        · rename_i hst
          obtain ⟨vs, rfl, cx⟩ := hx.agg_inv
          obtain ⟨us, rfl, cy⟩ := hy.agg_inv
          have hfs : P.fieldsOf t = fs := by unfold Program.fieldsOf; rw [hu]
          rw [run_equalIn_struct w d t vs us (by rw [hfs]; exact hu) (by simpa using hst), hfs]
          revert h
          generalize fs.toList = l
          intro h
          induction l generalizing b with
          | nil => simp [eqFs] at h; subst h; simp [Op.eqFields]
          | cons f l ihl =>
            simp only [eqFs] at h
            simp only [Op.eqFields]
            split at h
            · rename_i hn
              rw [if_pos hn]
              split at h
              · rename_i a c ha hc
                obtain ⟨p, p1, p2⟩ := part_ok (P := P) cx ha
                obtain ⟨q, q1, q2⟩ := part_ok (P := P) cy hc
                simp only [Sem.run_bind, p1, q1, Result.andThen_ok]
                split at h
                · rename_i he
                  rw [ih f.type a c p q true he p2 q2]
                  simpa using ihl b h
                · rename_i he
                  cases h
                  rw [ih f.type a c p q false he p2 q2]
                  simp
                · cases h
              · cases h
            · rename_i hn
              rw [if_neg hn]
              exact ihl b h
      · cases h
    · rename_i len e hu
      split at h
      · rename_i xs ys
        split at h
        · rename_i i hi
          obtain ⟨vs, rfl, cx⟩ := hx.agg_inv
          obtain ⟨us, rfl, cy⟩ := hy.agg_inv
          rw [run_equalIn_arr d t e len vs us w hu i hi]
          have key : ∀ (n k : Nat) (b : Bool), eqEs P (eqA P d) e i.size xs ys k n = some b → ((forIn (List.range' k n) ((none : Option Bool), ()) (arrBody d e i.size vs us)).run P w) = .ok (if b then none else some false, ()) w := by
            intro n
            induction n with
            | zero => intro k b h; simp [eqEs] at h; subst h; simp
            | succ n ihn =>
              intro k b h
              simp only [eqEs] at h
              rw [List.range'_succ, List.forIn_cons]
              split at h
              · rename_i a c ha hc
                obtain ⟨p, p1, p2⟩ := part_ok (P := P) cx ha
                obtain ⟨q, q1, q2⟩ := part_ok (P := P) cy hc
                simp only [arrBody, Sem.run_bind, p1, q1, Result.andThen_ok]
                split at h
                · rename_i he
                  rw [ih e a c p q true he p2 q2]
                  simp only [Result.andThen_ok, Bool.true_eq_false, if_false, Sem.run_pure]
                  exact ihn (k + 1) b h
                · rename_i he
                  cases h
                  rw [ih e a c p q false he p2 q2]
                  simp
                · cases h
              · cases h
          rw [key len 0 b h]
          cases b <;> simp
        · cases h
      · cases h
    · cases h

theorem eqA_more [Bk] [Ev] : ∀ (d : Nat) (t : TypeId) (x y : AV) (b : Bool), eqA P d t x y = some b → eqA P (d + 1) t x y = some b
  | 0, t, x, y, b, h => by simp [eqA] at h
  | d + 1, t, x, y, b, h => by
    have ih := fun t x y b => eqA_more d t x y b
    have fsm : ∀ (xs ys : List AV) (l : List Field) (b : Bool), eqFs P (eqA P d) xs ys l = some b → eqFs P (eqA P (d + 1)) xs ys l = some b := by
      intro xs ys l
      induction l with
      | nil => intro b h; simpa [eqFs] using h
      | cons f l ihl =>
        intro b h
        simp only [eqFs] at h ⊢
        split at h
        · rename_i hn
          rw [if_pos hn]
          split at h
          · rename_i a c ha hc
            try simp only [ha, hc]
            split at h
            · rename_i he; rw [ih _ _ _ _ he]; exact ihl b h
            · rename_i he; cases h; rw [ih _ _ _ _ he]
            · cases h
          · cases h
        · rename_i hn
          rw [if_neg hn]; exact ihl b h
    have esm : ∀ (e : TypeId) (s : Nat) (xs ys : List AV) (n k : Nat) (b : Bool), eqEs P (eqA P d) e s xs ys k n = some b → eqEs P (eqA P (d + 1)) e s xs ys k n = some b := by
      intro e s xs ys n
      induction n with
      | zero => intro k b h; simpa [eqEs] using h
      | succ n ihn =>
        intro k b h
        simp only [eqEs] at h ⊢
        split at h
        · rename_i a c ha hc
          try simp only [ha, hc]
          split at h
          · rename_i he; rw [ih _ _ _ _ he]; exact ihn _ b h
          · rename_i he; cases h; rw [ih _ _ _ _ he]
          · cases h
        · cases h
    unfold eqA at h ⊢
    split at h
    · exact h
    · exact h
    · exact h
    · split at h
      · split at h
        · cases h
        · rename_i hst
          try simp only
          rw [if_neg hst]
          exact fsm _ _ _ _ h
      · cases h
    · split at h
      · split at h
        · rename_i i hi
          try simp only [hi]
          exact esm _ _ _ _ _ _ _ h
        · cases h
      · cases h
    · cases h
theorem eqA_big [Bk] [Ev] {m : Nat → St} {A : Nat → Prop} {w : World} {t : TypeId} {x y : AV} {u v : Value} {b : Bool} (h : eqA P 8 t x y = some b) (hx : Rd m A w x u) (hy : Rd m A w y v) : (Op.equal t u v).run P w = .ok b w := by
  have key : ∀ k, eqA P (8 + k) t x y = some b := by
    intro k
    induction k with
    | zero => exact h
    | succ k ih => exact eqA_more _ _ _ _ _ ih
  exact eqA_ok (8 + 9992) t x y u v b (key 9992) hx hy

def eqRes (op : BinOp) (b : Bool) : Option AV :=
  match op with
  | .eql => some (.c (.bool b))
  | .neq => some (.c (.bool !b))
  | _ => none
theorem eqRes_inv [Bk] [Ev] {op : BinOp} {b : Bool} {r : AV} (h : eqRes op b = some r) : (op = .eql ∧ r = .c (.bool b)) ∨ (op = .neq ∧ r = .c (.bool !b)) := by
  unfold eqRes at h
  split at h
  · cases h; exact .inl ⟨rfl, rfl⟩
  · cases h; exact .inr ⟨rfl, rfl⟩
  · cases h
def kindB : Value → Value → Bool
  | .iface _ _, .nilIface => true
  | .nilIface, .nilIface => true
  | .func _ _ _, .nilFunc => true
  | .nilFunc, .nilFunc => true
  | .agg _, .agg _ => true
  | _, _ => false

/-- A test, a sum, of any kind. -/
def nameK [Bk] (P : Program) (i : Nat) (t : TypeId) : Bool := match Bk.kinds[i]? with
  | some true => (match P.underlying t with | some .string => true | _ => false)
  | some false => (match P.underlying t with | some .bool => true | _ => false)
  | none => false
theorem op_named [Bk] [Ev] {op : BinOp} {t ty : TypeId} {x y : Operand} {i : Nat} {r : AV} (ho : o.op = .binOp op t x y ty) (hx : aev f x = .o i) (hy : aev f y = .o i) (hk : nameK P i t = true) (hr : (op = .eql ∧ r = .c (.bool true)) ∨ (op = .neq ∧ r = .c (.bool !true))) : OpOk P o f h ⟨r, [], []⟩ := by
  have key : (∃ s, Ev.val i = .string s ∧ P.underlying t = some .string) ∨ ∃ c, Ev.val i = .bool c ∧ P.underlying t = some .bool := by
    unfold nameK at hk
    split at hk
    · rename_i hq
      obtain ⟨s, hs⟩ := (Ev.kin i true hq).1 rfl
      split at hk
      · exact .inl ⟨s, hs, ‹_›⟩
      · cases hk
    · rename_i hq
      obtain ⟨s, hs⟩ := (Ev.kin i false hq).2 rfl
      split at hk
      · exact .inr ⟨s, hs, ‹_›⟩
      · cases hk
    · cases hk
  refine op_pure fun m A w a H F => ?_
  have h1 := F.eval x
  have h2 := F.eval y
  rw [hx] at h1; rw [hy] at h2
  have e1 := h1.o_inv
  have e2 := h2.o_inv
  rcases key with ⟨s, hs, hu⟩ | ⟨c, hs, hu⟩
  · rw [hs] at e1 e2
    have hg : (eqGuard op t x y (.string s) (.string s)).run P w = .ok () w := by
      unfold eqGuard
      split <;> simp
    rcases hr with ⟨rfl, rfl⟩ | ⟨rfl, rfl⟩
    · exact ⟨.bool true, by simp [execOp, ho, e1, e2, hg, binOp, Op.stringOp], .pure _ _ (.c _)⟩
    · exact ⟨.bool false, by simp [execOp, ho, e1, e2, hg, binOp, Op.stringOp], .pure _ _ (.c _)⟩
  · rw [hs] at e1 e2
    have hg : (eqGuard op t x y (.bool c) (.bool c)).run P w = .ok () w := by
      unfold eqGuard
      split <;> simp
    have he : (Op.equal t (.bool c) (.bool c)).run P w = .ok true w := by have := run_equalIn_bool (P := P) (p := c) (q := c) 9999 hu w; rw [beq_self_eq_true] at this; exact this
    rcases hr with ⟨rfl, rfl⟩ | ⟨rfl, rfl⟩
    · exact ⟨.bool true, by simp [execOp, ho, e1, e2, hg, binOp, he], .pure _ _ (.c _)⟩
    · exact ⟨.bool false, by simp [execOp, ho, e1, e2, hg, binOp, he], .pure _ _ (.c _)⟩
def binA [Bk] (P : Program) (op : BinOp) (t : TypeId) (cx cy : Bool) (x y : AV) : Option AV :=
  match x with
  | .c (.bool p) => match y with
    | .c (.bool q) => match P.underlying t with
      | some .bool => match op with
        | .eql => some (.c (.bool (p == q)))
        | .neq => some (.c (.bool !(p == q)))
        | _ => none
      | _ => none
    | _ => none
  | .c .nilIface => match y with
    | .c .nilIface => if (cx || cy) = true ∧ isFaceB P t = true then eqRes op true else none
    | _ => none
  | .ifc _ _ => match y with
    | .c .nilIface => if isFaceB P t = true then eqRes op false else none
    | _ => none
  | .fn _ _ _ => match y with
    | .c .nilFunc => if isFuncB P t = true then eqRes op false else none
    | _ => none
  | .c .nilFunc => match y with
    | .c .nilFunc => if isFuncB P t = true then eqRes op true else none
    | _ => none
  | .agg xs => match y with
    | .agg ys => if P.eqGuardType P.depth t = false then (match eqA P 8 t (.agg xs) (.agg ys) with
        | some b => eqRes op b
        | none => none) else none
    | _ => none
  | .o i => match y with
    | .o j => if i = j ∧ nameK P i t = true then eqRes op true else none
    | _ => none
  | .c u => match y with
    | .c v => match binV op u v with
      | some r => some (.c r)
      | none => none
    | y => match toP (.c u), toP y with
      | some p, some q => symV op p q
      | _, _ => none
  | x => match toP x, toP y with
    | some p, some q => symV op p q
    | _, _ => none

theorem Rd.ifc_inv [Bk] [Ev] {m : Nat → St} {A : Nat → Prop} {w : World} {t : TypeId} {v : AV} {q : Value} (g : Rd m A w (.ifc t v) q) : ∃ u, q = .iface t u ∧ Rd m A w v u := by
  cases g with
  | pure _ _ h => cases h with | ifc _ _ u hr => exact ⟨u, rfl, .pure _ _ hr⟩
  | ifc _ _ u hr => exact ⟨u, rfl, hr⟩
theorem Rd.fn_inv [Bk] [Ev] {m : Nat → St} {A : Nat → Prop} {w : World} {f : Fn} {xs ys : List AV} {q : Value} (g : Rd m A w (.fn f xs ys) q) : ∃ vs us, q = .func f vs us := by
  cases g with
  | pure _ _ h => cases h with | fn _ _ _ vs us => exact ⟨vs, us, rfl⟩
  | fn _ _ _ vs us => exact ⟨vs, us, rfl⟩
theorem equalIn_le [Bk] [Ev] (d : Nat) (t : TypeId) (x y : Value) (w : World) : ∀ (k : Nat), (Op.equalIn d t x y).run P w = (Op.equalIn d t x y).run P w := fun _ => rfl

theorem run_equalIn_face1 [Bk] [Ev] (d : Nat) {t : TypeId} {ms : Array (String × TypeId)} (hu : P.underlying t = some (.interface ms)) (t' : TypeId) (v : Value) (w : World) : (Op.equalIn (d + 1) t (.iface t' v) .nilIface).run P w = .ok false w := by simp [Op.equalIn, run_underlying hu]
theorem run_equalIn_face0 [Bk] [Ev] (d : Nat) {t : TypeId} {ms : Array (String × TypeId)} (hu : P.underlying t = some (.interface ms)) (w : World) : (Op.equalIn (d + 1) t .nilIface .nilIface).run P w = .ok true w := by simp [Op.equalIn, run_underlying hu]
theorem run_equalIn_func1 [Bk] [Ev] (d : Nat) {t : TypeId} {a b : Array TypeId} {c : Bool} (hu : P.underlying t = some (.func a b c)) (f : Fn) (x y : Array Value) (w : World) : (Op.equalIn (d + 1) t (.func f x y) .nilFunc).run P w = .ok false w := by simp [Op.equalIn, run_underlying hu]
theorem run_equalIn_func0 [Bk] [Ev] (d : Nat) {t : TypeId} {a b : Array TypeId} {c : Bool} (hu : P.underlying t = some (.func a b c)) (w : World) : (Op.equalIn (d + 1) t .nilFunc .nilFunc).run P w = .ok true w := by simp [Op.equalIn, run_underlying hu]

theorem binOp_eql [Bk] [Ev] (op : BinOp) (t : TypeId) (x y : Value) (w : World) {b : Bool} (he : (Op.equal t x y).run P w = .ok b w) (hx : kindB x y = true) :
    (op = .eql → (binOp op t x y).run P w = .ok (.bool b) w) ∧ (op = .neq → (binOp op t x y).run P w = .ok (.bool !b) w) := by
  unfold kindB at hx
  constructor <;> rintro rfl <;> (split at hx <;> first | (cases hx; done) | simp [binOp, *])

theorem op_binA [Bk] [Ev] {op : BinOp} {t ty : TypeId} {x y : Operand} {r : AV} (ho : o.op = .binOp op t x y ty) (hr : binA P op t (isCst x) (isCst y) (aev f x) (aev f y) = some r) : OpOk P o f h ⟨r, [], []⟩ := by
  have fin : ∀ (b : Bool) (hc : (op = .eql ∧ r = .c (.bool b)) ∨ (op = .neq ∧ r = .c (.bool !b))),
      (∀ m A w a, FRel m A w f a → (eqGuard op t x y (a.eval x) (a.eval y)).run P w = .ok () w ∧ (Op.equal t (a.eval x) (a.eval y)).run P w = .ok b w ∧ kindB (a.eval x) (a.eval y) = true) → OpOk P o f h ⟨r, [], []⟩ := by
    intro b hc hk
    refine op_pure fun m A w a H F => ?_
    obtain ⟨h1, h2, h3⟩ := hk m A w a F
    obtain ⟨q1, q2⟩ := binOp_eql op t _ _ w h2 h3
    rcases hc with ⟨e, rfl⟩ | ⟨e, rfl⟩
    · exact ⟨_, by simp [execOp, ho, h1, q1 e], .pure _ _ (.c _)⟩
    · exact ⟨_, by simp [execOp, ho, h1, q2 e], .pure _ _ (.c _)⟩
  have two : ∀ (b : Bool), eqRes op b = some r → (op = .eql ∧ r = .c (.bool b)) ∨ (op = .neq ∧ r = .c (.bool !b)) := fun b h => eqRes_inv h
  unfold binA at hr
  split at hr
  · rename_i p hx
    split at hr
    · rename_i q hy
      split at hr
      · rename_i hu
        split at hr
        · cases hr; exact op_bool (op := .eql) ho hx hy hu (.inl rfl)
        · cases hr; exact op_bool (op := .neq) ho hx hy hu (.inr rfl)
        · cases hr
      · cases hr
    · cases hr
  · rename_i hx
    split at hr
    · rename_i hy
      split at hr
      · rename_i hc
        obtain ⟨ms, hu⟩ := face_of hc.2
        refine fin true (two true hr) fun m A w a F => ?_
        have g1 := F.eval x; rw [hx] at g1
        have g2 := F.eval y; rw [hy] at g2
        rw [g1.c_inv, g2.c_inv]
        refine ⟨?_, run_equalIn_face0 9999 hu w, rfl⟩
        have hc1 := hc.1
        rcases two true hr with ⟨e, -⟩ | ⟨e, -⟩ <;> subst e <;> cases x <;> cases y <;> first | (simp [eqGuard]; done) | (simp [isCst] at hc1; done)
      · cases hr
    · cases hr
  · rename_i t' v hx
    split at hr
    · rename_i hy
      split at hr
      · rename_i hc
        obtain ⟨ms, hu⟩ := face_of hc
        refine fin false (two false hr) fun m A w a F => ?_
        have g1 := F.eval x; rw [hx] at g1
        have g2 := F.eval y; rw [hy] at g2
        obtain ⟨u, hu', -⟩ := g1.ifc_inv
        rw [hu', g2.c_inv]
        refine ⟨?_, run_equalIn_face1 9999 hu t' u w, rfl⟩
        rcases two false hr with ⟨e, -⟩ | ⟨e, -⟩ <;> subst e <;> simp [eqGuard]
      · cases hr
    · cases hr
  · rename_i fn xs ys hx
    split at hr
    · rename_i hy
      split at hr
      · rename_i hc
        obtain ⟨a0, b0, c0, hu⟩ := func_of hc
        refine fin false (two false hr) fun m A w a F => ?_
        have g1 := F.eval x; rw [hx] at g1
        have g2 := F.eval y; rw [hy] at g2
        obtain ⟨vs, us, hu'⟩ := g1.fn_inv
        rw [hu', g2.c_inv]
        refine ⟨?_, run_equalIn_func1 9999 hu fn vs us w, rfl⟩
        rcases two false hr with ⟨e, -⟩ | ⟨e, -⟩ <;> subst e <;> simp [eqGuard]
      · cases hr
    · cases hr
  · rename_i hx
    split at hr
    · rename_i hy
      split at hr
      · rename_i hc
        obtain ⟨a0, b0, c0, hu⟩ := func_of hc
        refine fin true (two true hr) fun m A w a F => ?_
        have g1 := F.eval x; rw [hx] at g1
        have g2 := F.eval y; rw [hy] at g2
        rw [g1.c_inv, g2.c_inv]
        refine ⟨?_, run_equalIn_func0 9999 hu w, rfl⟩
        rcases two true hr with ⟨e, -⟩ | ⟨e, -⟩ <;> subst e <;> simp [eqGuard]
      · cases hr
    · cases hr
  · rename_i xs hx
    split at hr
    · rename_i ys hy
      split at hr
      · rename_i hg
        split at hr
        · rename_i b he
          refine fin b (two b hr) fun m A w a F => ?_
          have g1 := F.eval x; rw [hx] at g1
          have g2 := F.eval y; rw [hy] at g2
          obtain ⟨vs, hv, cx⟩ := g1.agg_inv
          obtain ⟨us, hu', cy⟩ := g2.agg_inv
          rw [hv] at g1 ⊢
          rw [hu'] at g2 ⊢
          refine ⟨run_eqGuard_agg w op t x y vs us hg, ?_, rfl⟩
          exact eqA_big he g1 g2
        · cases hr
      · cases hr
    · cases hr
  · rename_i i hx
    split at hr
    · rename_i j hy
      split at hr
      · rename_i hc
        obtain ⟨rfl, hk⟩ := hc
        exact op_named ho hx hy hk (two true hr)
      · cases hr
    · cases hr
  · rename_i u hne1 hne2 hne3 hx
    split at hr
    · rename_i v hy
      split at hr
      · rename_i r' hb
        cases hr
        exact op_bin ho hx hy hb
      · cases hr
    · split at hr
      · rename_i p q hp hq
        rw [← hx] at hp
        exact op_sym ho hp hq hr
      · cases hr
  · split at hr
    · rename_i p q hp hq
      exact op_sym ho hp hq hr
    · cases hr
end
end Go.Proofs.YtjbgfhafinfjbaaGreat.Mc
