/-
  A machine of plain data beside the model: iterators over texts, maps with whole numbers as keys. No program in sight.
-/
import Derived.Test.YtjbgfhafinfjbaaGreatMC
import Derived.MapKept
set_option linter.unusedVariables false
set_option linter.unusedSimpArgs false
namespace Go.Proofs.YtjbgfhafinfjbaaGreat.Mc
open Go.RowKit

section
variable {P : Program} {o : Oper} {f : List AV} {h : AH}

/-- An object turns. -/
theorem HRel.other_put [Bk] [Ev] {m : Nat → St} {A : Nat → Prop} {w : World} (H : HRel m A h w) {id b : Nat} {B B' : Blk} {o o' : Obj} (hh : h id = B) (hB : B.other = true) (hB' : B'.other = true) (hb : m id = .at b) (hL : w.heap[b]? = some o) (hr : rowSize (w.putObj b o') b = rowSize w b) (hO : Ext m w m (w.putObj b o') → OtherOk m A (w.putObj b o') b B') :
    HRel m A (bset h id B') (w.putObj b o') ∧ Ext m w m (w.putObj b o') := by
  have hsz : (w.putObj b o').heap.size = w.heap.size := World.putObj_size
  have hot : ∀ k, k ≠ b → (w.putObj b o').heap[k]? = w.heap[k]? := fun k e => World.putObj_heap_other e
  have hsame : (w.putObj b o').heap[b]? = some o' := World.putObj_heap_same (Array.getElem?_eq_some_iff.1 hL).1
  have E : Ext m w m (w.putObj b o') := by
    refine ⟨rfl, rfl, rfl, by rw [hsz]; exact Nat.le_refl _, fun _ _ h => .inl h, fun _ h => h, fun _ h => .inl h, ?_, ?_⟩
    · intro k hk hu
      exact ⟨hu, hot k (by rintro rfl; exact hu id hb)⟩
    · intro id' k hk1 hk2
      by_cases e : k = b
      · subst e; exact hr
      · simp [rowSize, hot k e]
  refine ⟨⟨H.out, fun k hk => by rw [hsz]; exact H.old k hk, ?_, ?_, ?_, H.inj, H.glob.ext H.out E, ?_⟩, E⟩
  · intro k hk
    unfold bset at hk
    split at hk
    · subst hk; exact absurd hB' (by simp [Blk.other])
    · exact H.no k hk
  · intro k hk
    unfold bset at hk
    split at hk
    · subst hk; exact absurd hB' (by simp [Blk.other])
    · exact H.dead k hk
  · intro k T sz els hk
    unfold bset at hk
    split at hk
    · subst hk; exact absurd hB' (by simp [Blk.other])
    · rename_i hne
      obtain g | ⟨b', cs, g1, g2, g3, g4, g5⟩ := H.cells k T sz els hk
      · exact .inl g
      · exact .inr ⟨b', cs, g1, (hot b' (by rintro rfl; exact hne (H.inj k id b' g1 hb))).trans g2, g3, g4, fun i j x hx => ⟨(g5 i j x hx).1, (g5 i j x hx).2.ext E⟩⟩
  · intro k B1 hk hB1
    unfold bset at hk
    split at hk
    · rename_i e
      subst hk
      subst e
      exact ⟨b, hb, hO E⟩
    · rename_i hne
      obtain ⟨b', g1, g2⟩ := H.others k B1 hk hB1
      exact ⟨b', g1, g2.ext E (hot b' (by rintro rfl; exact hne (H.inj k id b' g1 hb)))⟩

/-- An object is laid. -/
theorem HRel.other_new [Bk] [Ev] {m : Nat → St} {A : Nat → Prop} {w : World} (H : HRel m A h w) {id : Nat} {B : Blk} {o : Obj} (hid : h id = .no) (hB : B.other = true) (hO : Ext m w (sset m id (.at w.heap.size)) (w.alloc o) → OtherOk (sset m id (.at w.heap.size)) A (w.alloc o) w.heap.size B) :
    HRel (sset m id (.at w.heap.size)) A (bset h id B) (w.alloc o) ∧ Ext m w (sset m id (.at w.heap.size)) (w.alloc o) := by
  have hmid := H.no id hid
  have ne : ∀ {k : Nat} {s : St}, m k = s → s ≠ .no → k ≠ id := by rintro k s h1 h2 rfl; rw [hmid] at h1; exact h2 h1.symm
  have hold : ∀ b, b < w.heap.size → (w.alloc o).heap[b]? = w.heap[b]? := fun b hb => by
    show (w.heap.push _)[b]? = _
    rw [Array.getElem?_push, if_neg (by omega)]
  have E : Ext m w (sset m id (.at w.heap.size)) (w.alloc o) := by
    refine ⟨rfl, rfl, rfl, by simp, ?_, ?_, ?_, ?_, ?_⟩
    · intro k b hb
      exact .inl (by rw [sset, if_neg (ne hb (by simp))]; exact hb)
    · intro k hk
      rw [sset, if_neg (ne hk (by simp))]; exact hk
    · intro k hk
      exact .inl (by rw [sset, if_neg (ne hk (by simp))]; exact hk)
    · intro b hb hu
      refine ⟨?_, hold b hb⟩
      intro k
      unfold sset
      split
      · intro e; cases e; omega
      · exact hu k
    · intro k b h1 h2
      simp [rowSize, hold b (H.lt h1)]
  refine ⟨⟨?_, fun b hb => by have := H.old b hb; simp; omega, ?_, ?_, ?_, ?_, H.glob.ext H.out E, ?_⟩, E⟩
  · intro k b hk hA
    unfold sset at hk
    split at hk
    · cases hk; have := H.old _ hA; omega
    · exact H.out k b hk hA
  · intro k hk
    unfold bset at hk; unfold sset
    split at hk
    · subst hk; exact absurd hB (by simp [Blk.other])
    · rename_i hne; rw [if_neg hne]; exact H.no k hk
  · intro k hk
    unfold bset at hk; unfold sset
    split at hk
    · subst hk; exact absurd hB (by simp [Blk.other])
    · rename_i hne; rw [if_neg hne]; exact H.dead k hk
  · intro k T' sz' els' hk
    unfold bset at hk
    split at hk
    · subst hk; exact absurd hB (by simp [Blk.other])
    · rename_i hne
      obtain ⟨g1, g2⟩ | ⟨b, cs', g1, g2, g3, g4, g5⟩ := H.cells k T' sz' els' hk
      · exact .inl ⟨by simp [sset, hne, g1], g2⟩
      · exact .inr ⟨b, cs', by simp [sset, hne, g1], by rw [hold b (H.lt g1)]; exact g2, g3, g4, fun i j x hx => ⟨(g5 i j x hx).1, (g5 i j x hx).2.ext E⟩⟩
  · intro i j b hi hj
    unfold sset at hi hj
    split at hi <;> split at hj
    · rename_i a c; rw [a, c]
    · cases hi; have := H.lt hj; omega
    · cases hj; have := H.lt hi; omega
    · exact H.inj i j b hi hj
  · intro k B1 hk hB1
    unfold bset at hk
    split at hk
    · rename_i e
      subst hk
      subst e
      exact ⟨w.heap.size, by simp [sset], hO E⟩
    · rename_i hne
      obtain ⟨b', g1, g2⟩ := H.others k B1 hk hB1
      exact ⟨b', by simp [sset, hne, g1], g2.ext E (hold b' (H.lt g1))⟩

theorem op_range [Bk] [Ev] {t : TypeId} {x : Operand} {s : ByteArray} {id : Nat} (ho : o.op = .range t x) (hu : P.underlying t = some .string) (hx : aev f x = .c (.string s)) (hid : h id = .no) : OpOk P o f h ⟨.ptr 0 id 0 0, [(id, .it s 0)], [id]⟩ := by
  intro m A w a H F
  have h1 := F.eval x
  rw [hx] at h1
  have e1 := h1.c_inv
  obtain ⟨h2, h3⟩ := H.other_new (B := .it s 0) (o := .stringIter s 0) hid rfl fun E => World.alloc_heap_new w _
  refine ⟨.pointer (some ⟨w.heap.size, 0, none⟩), _, _, .inl ?_, h2, ?_, h3⟩
  · simp [execOp, ho, e1, Instr.range, run_underlying hu]
  · have := Rd.ptr (m := sset m id (.at w.heap.size)) (A := A) (w := w.alloc (.stringIter s 0)) 0 id 0 0 w.heap.size (by simp [sset]) (by simp)
    simpa using this

theorem op_next [Bk] [Ev] {x : Operand} {s : ByteArray} {pos id : Nat} (ho : o.op = .next x true) (hx : aev f x = .ptr 0 id 0 0) (hh : h id = .it s pos) (hl : pos < s.size) :
    OpOk P o f h ⟨.tup [.c (.bool true), .c (.int .i64 pos), .c (.int .i32 (Utf8.decode s pos).1)], [(id, .it s (pos + (Utf8.decode s pos).2))], [id]⟩ := by
  intro m A w a H F
  have h1 := F.eval x
  rw [hx] at h1
  obtain ⟨b, hb, hO⟩ := H.others id _ hh rfl
  have e1 := h1.at_ptr hb
  have hO' : w.heap[b]? = some (.stringIter s pos) := hO
  have hlt := (Array.getElem?_eq_some_iff.1 hO').1
  have hsame : (w.putObj b (.stringIter s (pos + (Utf8.decode s pos).2))).heap[b]? = some (.stringIter s (pos + (Utf8.decode s pos).2)) := World.putObj_heap_same hlt
  obtain ⟨h2, h3⟩ := H.other_put (B' := .it s (pos + (Utf8.decode s pos).2)) hh rfl rfl hb hO' (by simp [rowSize, hsame, hO']) fun E => hsame
  refine ⟨.tuple #[.bool true, goInt pos, .int .i32 (Utf8.decode s pos).1], _, _, .inl ?_, h2, ?_, h3⟩
  · simp [execOp, ho, e1, Instr.next, getObj, setObj, Sem.run, hO', hl]
    rfl
  · refine .pure _ _ (.tup _ _ rfl ?_)
    intro i y hy
    rcases i with _ | _ | _ | i <;> simp at hy <;> subst hy <;> exact .c _

theorem op_next_end [Bk] [Ev] {x : Operand} {s : ByteArray} {pos id : Nat} (ho : o.op = .next x true) (hx : aev f x = .ptr 0 id 0 0) (hh : h id = .it s pos) (hl : ¬ pos < s.size) :
    OpOk P o f h ⟨.tup [.c (.bool false)], [], [id]⟩ := by
  intro m A w a H F
  have h1 := F.eval x
  rw [hx] at h1
  obtain ⟨b, hb, hO⟩ := H.others id _ hh rfl
  have e1 := h1.at_ptr hb
  have hO' : w.heap[b]? = some (.stringIter s pos) := hO
  refine ⟨.tuple #[.bool false], w, m, .inl ?_, H, ?_, Ext.refl _ _⟩
  · simp [execOp, ho, e1, Instr.next, getObj, Sem.run, hO', hl]
  · refine .pure _ _ (.tup _ _ rfl ?_)
    intro i y hy
    rcases i with _ | i <;> simp at hy
    subst hy; exact .c _

theorem op_makeMap [Bk] [Ev] {t : TypeId} {id : Nat} (ho : o.op = .makeMap t none) (hid : h id = .no) : OpOk P o f h ⟨.mpv id, [(id, .mp [])], [id]⟩ := by
  intro m A w a H F
  obtain ⟨h2, h3⟩ := H.other_new (B := .mp []) (o := .map #[] 0) hid rfl fun E => ⟨#[], 0, World.alloc_heap_new w _, rfl, fun i k x hx => by simp at hx⟩
  refine ⟨.map (some w.heap.size), _, _, .inl ?_, h2, .mpv _ _ (by simp [sset]), h3⟩
  simp [execOp, ho, Instr.makeMap]
theorem Rd.at_view [Bk] [Ev] {m : Nat → St} {A : Nat → Prop} {w : World} {T sz id i n b : Nat} {u : Value} (h : Rd m A w (.view T sz id i n) u) (g : m id = .at b) : ∃ cap, u = .slice (some ⟨b, i * sz, none⟩) n cap := by
  cases h with
  | pure _ _ h => cases h
  | view _ _ _ _ _ b' cap hm => rw [g] at hm; cases hm; exact ⟨cap, rfl⟩
  | viewd _ _ _ _ _ _ _ hm => rw [g] at hm; cases hm
theorem op_slice_view [Bk] [Ev] {t : TypeId} {x lo hi mx : Operand} {T sz id i n l u v : Nat} {els : List (List AV)} (ho : o.op = .slice t x (some lo) (some hi) (some mx)) (ht : P.underlying t = some (.slice (P.elem t))) (hs : (P.info? (P.elem t)).map (·.size) = some sz) (hx : aev f x = .own T sz id i n) (hh : h id = .cells T sz els) (hne : els ≠ []) (hlo : bndR (aev f) 0 (some lo) = some l) (hhi : bndR (aev f) n (some hi) = some u) (hmx : bndR (aev f) n (some mx) = some v) (h1 : l ≤ u) (h2 : u ≤ v) (h3 : v ≤ n) (h4 : l < v) :
    OpOk P o f h ⟨.view T sz id (i + l) (u - l), [], [id]⟩ := by
  refine op_pure fun m A w a H F => ?_
  have g := F.eval x
  rw [hx] at g
  cases hp : P.info? (P.elem t) with
  | none => simp [hp] at hs
  | some ti =>
    simp only [hp, Option.map_some, Option.some.injEq] at hs
    subst hs
    obtain ⟨e, r, rfl⟩ := List.exists_cons_of_ne_nil hne
    obtain ⟨b, cs, g1, -⟩ := H.block (i := 0) hh rfl
    obtain ⟨cap, hv, hn, hcm, hrow⟩ := g.at_own g1
    obtain ⟨k1, e1⟩ := bndA_ok F hlo
    obtain ⟨k2, e2⟩ := bndA_ok F hhi
    obtain ⟨k3, e3⟩ := bndA_ok F hmx
    have hr := run_slice_lhm (P := P) w t (some ⟨b, i * ti.size, none⟩) n cap ht k1 k2 k3 (l : Int) (u : Int) (v : Int) (by omega) (by omega) (by omega) (by omega)
    have hr2 : (Instr.sliceAt t (.slice (some ⟨b, i * ti.size, none⟩) n cap) (some (.int k1 l)) (some (.int k2 u)) (some (.int k3 v))).run P w = .ok (sliced (some ⟨b, i * ti.size, none⟩) l u v ti.size) w := by
      rw [run_sliceAt_slice (P := P) w t _ _ _ _ ht]
      simp [hr, sizeOf, typeInfo, hp]
    have hal : sliced (some ⟨b, i * ti.size, none⟩) l u v ti.size = .slice (some ⟨b, (i + l) * ti.size, none⟩) (u - l) (v - l) := by
      unfold sliced
      rw [if_neg (by omega)]; simp [addr_add, Nat.add_mul]
    refine ⟨_, by simp [execOp, ho, hv, e1, e2, e3, hr2]; rfl, ?_⟩
    rw [hal]
    exact .view T ti.size id (i + l) (u - l) b (v - l) g1
theorem op_slice_lit3 [Bk] [Ev] {t : TypeId} {x lo hi mx : Operand} {sz l u v : Nat} {els : List (List AV)} (ho : o.op = .slice t x (some lo) (some hi) (some mx)) (ht : P.underlying t = some (.slice (P.elem t))) (hs : (P.info? (P.elem t)).map (·.size) = some sz) (hx : aev f x = .lit sz els) (hlo : bndR (aev f) 0 (some lo) = some l) (hhi : bndR (aev f) 0 (some hi) = some u) (hmx : bndR (aev f) 0 (some mx) = some v) (h1 : l ≤ u) (h2 : u ≤ v) (h3 : v ≤ els.length) (hne : els ≠ []) :
    OpOk P o f h ⟨.lit sz ((els.drop l).take (u - l)), [], []⟩ := by
  refine op_pure fun m A w a H F => ?_
  have g := F.eval x
  rw [hx] at g
  cases hp : P.info? (P.elem t) with
  | none => simp [hp] at hs
  | some ti =>
    simp only [hp, Option.map_some, Option.some.injEq] at hs
    subst hs
    obtain ⟨k1, e1⟩ := bndA_ok F hlo
    obtain ⟨k2, e2⟩ := bndA_ok F hhi
    obtain ⟨k3, e3⟩ := bndA_ok F hmx
    have key : ∀ (ad : Option Addr) (cap : Nat), els.length ≤ cap → (Instr.sliceAt t (.slice ad els.length cap) (some (.int k1 l)) (some (.int k2 u)) (some (.int k3 v))).run P w = .ok (sliced ad l u v ti.size) w := by
      intro ad cap hcap
      have hr := run_slice_lhm (P := P) w t ad els.length cap ht k1 k2 k3 (l : Int) (u : Int) (v : Int) (by omega) (by omega) (by omega) (by omega)
      rw [run_sliceAt_slice (P := P) w t _ _ _ _ ht]
      simp [hr, sizeOf, typeInfo, hp]
    have hlen : ((els.drop l).take (u - l)).length = u - l := by simp; omega
    obtain ⟨h0, ad, cap, hv⟩ | ⟨b, off, cap, vs, hv, hA, hb, hc, hsz, q1, kv, kr⟩ := g.lit_inv
    · exact absurd h0 hne
    · have hr := key (some ⟨b, off, none⟩) cap hc
      refine ⟨_, by simp [execOp, ho, hv, e1, e2, e3, hr]; rfl, .pure _ _ ?_⟩
      unfold sliced
      by_cases hlu : l = u
      · subst hlu
        simp only [Nat.sub_self, List.take_zero]
        exact .lit0 _ _ _
      · rw [if_neg (by omega)]
        have := RdL.lit (A := Av m A) (w := w) ti.size ((els.drop l).take (u - l)) b (off + l * ti.size) (v - l) (fun i j => vs (l + i) j) hA hb (by rw [hlen]; omega) (fun e he => hsz e (List.mem_of_mem_drop (List.mem_of_mem_take he))) (fun i j y hy => q1 _ _ _ (drop_at2 hy).2)
          (fun i j y hy => by have := kv _ _ _ (drop_at2 hy).2; rw [← this]; congr 2; rw [Nat.add_mul]; omega) (fun i j y hy => kr _ _ _ (drop_at2 hy).2)
        rw [hlen] at this
        simpa [addr_add] using this
theorem op_slice_emp3 [Bk] [Ev] {t : TypeId} {x lo hi mx : Operand} {T sz id i n l : Nat} {els : List (List AV)} (ho : o.op = .slice t x (some lo) (some hi) (some mx)) (ht : P.underlying t = some (.slice (P.elem t))) (hs : (P.info? (P.elem t)).map (·.size) = some sz) (hx : aev f x = .own T sz id i n) (hh : h id = .cells T sz els) (hne : els ≠ []) (hlo : bndR (aev f) 0 (some lo) = some l) (hhi : bndR (aev f) n (some hi) = some l) (hmx : bndR (aev f) n (some mx) = some l) (h3 : l ≤ n) :
    OpOk P o f h ⟨.emp, [], [id]⟩ := by
  refine op_pure fun m A w a H F => ?_
  have g := F.eval x
  rw [hx] at g
  cases hp : P.info? (P.elem t) with
  | none => simp [hp] at hs
  | some ti =>
    obtain ⟨e, r, rfl⟩ := List.exists_cons_of_ne_nil hne
    obtain ⟨b, cs, g1, -⟩ := H.block (i := 0) hh rfl
    obtain ⟨cap, hv, hn, hcm, hrow⟩ := g.at_own g1
    obtain ⟨k1, e1⟩ := bndA_ok F hlo
    obtain ⟨k2, e2⟩ := bndA_ok F hhi
    obtain ⟨k3, e3⟩ := bndA_ok F hmx
    have hr := run_slice_lhm (P := P) w t (some ⟨b, i * sz, none⟩) n cap ht k1 k2 k3 (l : Int) (l : Int) (l : Int) (by omega) (by omega) (by omega) (by omega)
    have hr2 : (Instr.sliceAt t (.slice (some ⟨b, i * sz, none⟩) n cap) (some (.int k1 l)) (some (.int k2 l)) (some (.int k3 l))).run P w = .ok (sliced (some ⟨b, i * sz, none⟩) l l l ti.size) w := by
      rw [run_sliceAt_slice (P := P) w t _ _ _ _ ht]
      simp [hr, sizeOf, typeInfo, hp]
    refine ⟨_, by simp [execOp, ho, hv, e1, e2, e3, hr2]; rfl, ?_⟩
    unfold sliced
    rw [Nat.sub_self]
    exact .pure _ _ (.emp _)
theorem op_len_view [Bk] [Ev] {t : TypeId} {x : Operand} {e : TypeId} {T sz id i n : Nat} (ho : o.op = .call { callee := .builtin .len, args := #[x], argTypes := #[t] }) (hu : P.underlying t = some (.slice e)) (hx : aev f x = .view T sz id i n) : OpOk P o f h ⟨.c (.int .i64 n), [], []⟩ := by
  refine op_pure fun m A w a H F => ?_
  have h1 := F.eval x
  rw [hx] at h1
  have : ∃ ad cap, a.eval x = .slice ad n cap := by
    generalize a.eval x = u at h1
    cases h1 with
    | pure _ _ h => cases h
    | view _ _ _ _ _ b' cap hm => exact ⟨_, _, rfl⟩
    | viewd _ _ _ _ _ ad cap hm => exact ⟨_, _, rfl⟩
  obtain ⟨ad, cap, hv⟩ := this
  refine ⟨_, ?_, .pure _ _ (.c _)⟩
  simp [execOp, ho, resolve, invoke, builtin, hv, Builtin.len_, run_underlying hu, goInt]
theorem op_indexAddr_view [Bk] [Ev] {t e : TypeId} {x ix : Operand} {T sz id i n' : Nat} {els : List (List AV)} {el : List AV} {k : IntKind} {n : Int} (ho : o.op = .indexAddr t x ix) (hx : aev f x = .view T sz id i n') (hh : h id = .cells T sz els) (hi : aev f ix = .c (.int k n)) (hu : P.underlying t = some (.slice e)) (hs : (P.info? e).map (·.size) = some sz) (h0 : 0 ≤ n) (hn : n.toNat < n') (he : els[i + n.toNat]? = some el) :
    OpOk P o f h ⟨.ptr sz id (i + n.toNat) 0, [], [id]⟩ := by
  refine op_pure fun m A w a H F => ?_
  have h1 := F.eval x
  rw [hx] at h1
  have h2 := F.eval ix
  rw [hi] at h2
  have e2 := h2.c_inv
  obtain ⟨b, cs, g1, -⟩ := H.block hh he
  obtain ⟨cap, hv⟩ := h1.at_view g1
  cases hp : P.info? e with
  | none => simp [hp] at hs
  | some ti =>
    simp only [hp, Option.map_some, Option.some.injEq] at hs
    have hlt : n < (n' : Int) := by omega
    refine ⟨.pointer (some ⟨b, (i + n.toNat) * sz + 0, none⟩), ?_, .ptr sz id _ 0 b g1 (H.lt g1)⟩
    simp [execOp, ho, hv, e2, Instr.indexAt, asIntOf, run_underlying hu, h0, hlt, sizeOf, typeInfo, hp, hs, addr_add, Nat.add_mul]

/-- No such key. -/
def noKey (n : Int) (es : List (Int × AV)) : Bool := es.all fun t => t.1 != n
/-- What stands under a key, if it stands there once. -/
def lookMp (n : Int) (es : List (Int × AV)) : Option AV := match es.filter (fun t => t.1 == n) with | [t] => some t.2 | _ => none
theorem Rd.at_mpv [Bk] [Ev] {m : Nat → St} {A : Nat → Prop} {w : World} {id b : Nat} {u : Value} (h : Rd m A w (.mpv id) u) (g : m id = .at b) : u = .map (some b) := by
  cases h with
  | pure _ _ h => cases h
  | mpv _ b' hm => rw [g] at hm; cases hm; rfl
  | mpvd _ b' hm => rw [g] at hm; cases hm
theorem mp_keys [Bk] [Ev] {m : Nat → St} {A : Nat → Prop} {w : World} {es : List (Int × AV)} {ms : Array MapEntry} (h2 : ms.size = es.length) (h3 : ∀ (i : Nat) (k : Int) (x : AV), es[i]? = some (k, x) → ∃ e, ms[i]? = some e ∧ e.key = .int .i64 k ∧ Rd m A w x e.val) {i : Nat} {e : MapEntry} (he : ms.toList[i]? = some e) :
    ∃ k x, es[i]? = some (k, x) ∧ e.key = .int .i64 k ∧ Rd m A w x e.val := by
  have hi : i < es.length := by have := (List.getElem?_eq_some_iff.1 he).1; simpa [h2] using this
  obtain ⟨e', g1, g2, g3⟩ := h3 i es[i].1 es[i].2 (by simp [hi])
  rw [Array.getElem?_toList] at he
  rw [he] at g1
  cases g1
  exact ⟨es[i].1, es[i].2, by simp [hi], g2, g3⟩
theorem mp_isKey [Bk] [Ev] {m : Nat → St} {A : Nat → Prop} {w : World} {es : List (Int × AV)} {ms : Array MapEntry} (h2 : ms.size = es.length) (h3 : ∀ (i : Nat) (k : Int) (x : AV), es[i]? = some (k, x) → ∃ e, ms[i]? = some e ∧ e.key = .int .i64 k ∧ Rd m A w x e.val) :
    ∀ e ∈ ms.toList, MapKept.IsKey (.int .i64) e.key := by
  intro e he
  obtain ⟨i, hi⟩ := List.mem_iff_getElem?.1 he
  obtain ⟨k, x, -, g, -⟩ := mp_keys h2 h3 hi
  rw [g]; simp [MapKept.IsKey]

theorem op_insert [Bk] [Ev] {t kt et : TypeId} {x k y : Operand} {id : Nat} {n : Int} {es : List (Int × AV)} (ho : o.op = .insert t x k y) (hu : P.underlying t = some (.map kt et)) (hk : P.underlying kt = some (.int .i64)) (hx : aev f x = .mpv id) (hn : aev f k = .c (.int .i64 n)) (hh : h id = .mp es) (hf : noKey n es = true) :
    OpOk P o f h ⟨.undef, [(id, .mp (es ++ [(n, aev f y)]))], [id]⟩ := by
  intro m A w a H F
  have h1 := F.eval x
  have h1n := F.eval k
  rw [hx] at h1
  rw [hn] at h1n
  obtain ⟨b, hb, ms, clock, hm, h2, h3⟩ := H.others id _ hh rfl
  have e1 := h1.at_mpv hb
  have e2 := h1n.c_inv
  have hlt := (Array.getElem?_eq_some_iff.1 hm).1
  have hsame : (w.putObj b (.map (ms.push { key := .int .i64 n, val := a.eval y, born := clock }) (clock + 1))).heap[b]? = some (.map (ms.push { key := .int .i64 n, val := a.eval y, born := clock }) (clock + 1)) := World.putObj_heap_same hlt
  obtain ⟨q1, q2⟩ := H.other_put (B' := .mp (es ++ [(n, aev f y)])) (o' := .map (ms.push { key := .int .i64 n, val := a.eval y, born := clock }) (clock + 1)) hh rfl rfl hb hm (by simp [rowSize, hsame, hm]) fun E => by
    refine ⟨_, _, hsame, by simp [h2], ?_⟩
    intro i k' x' hi
    rcases Nat.lt_or_ge i es.length with hl | hl
    · rw [List.getElem?_append_left hl] at hi
      obtain ⟨e, g1, g2, g3⟩ := h3 i k' x' hi
      exact ⟨e, by rw [Array.getElem?_push_lt (by omega)]; rw [← g1]; simp [show i < ms.size by omega], g2, g3.ext E⟩
    · rw [List.getElem?_append_right hl] at hi
      have : i - es.length = 0 := by
        have := (List.getElem?_eq_some_iff.1 hi).1
        simp at this; omega
      rw [this] at hi
      simp at hi
      obtain ⟨rfl, rfl⟩ := hi
      have hi2 : i = ms.size := by omega
      subst hi2
      exact ⟨_, Array.getElem?_push_size, rfl, (F.eval y).ext E⟩
  refine ⟨Go.undef, _, _, .inr ⟨?_, rfl⟩, q1, .pure _ _ .undef, q2⟩
  have hfn : Instr.findNow (.int .i64) (.int .i64 n) ms.toList 0 = some none := by
    rcases MapKept.findNow_spec (d := .int .i64) (k := .int .i64 n) (by simp [MapKept.IsKey]) ms.toList 0 (mp_isKey h2 h3) with ⟨g, -⟩ | ⟨j, e, -, g2, g3⟩
    · exact g
    · exfalso
      obtain ⟨k', x', r1, r2, -⟩ := mp_keys h2 h3 g2
      rw [g3] at r2
      have := List.all_eq_true.1 hf _ (List.mem_of_getElem? r1)
      simp at this r2
      exact this r2.symm
  simp [execOp, ho, e1, e2, Instr.mapUpdate, run_underlying hu, MapKept.run_getObj_map hm, MapKept.run_checkKey hk (k := .int .i64 n) (by simp [MapKept.IsKey]), MapKept.run_findKey hk hfn, setObj, Sem.run, hm]
  rfl

theorem op_lookup [Bk] [Ev] {t kt et : TypeId} {x k : Operand} {id : Nat} {n : Int} {es : List (Int × AV)} {v : AV} {ok : Bool} (ho : o.op = .lookup t x k ok) (hu : P.underlying t = some (.map kt et)) (hk : P.underlying kt = some (.int .i64)) (hx : aev f x = .mpv id) (hn : aev f k = .c (.int .i64 n)) (hh : h id = .mp es) (hf : lookMp n es = some v) :
    OpOk P o f h ⟨if ok then .tup [v, .c (.bool true)] else v, [], [id]⟩ := by
  intro m A w a H F
  have h1 := F.eval x
  have h1n := F.eval k
  rw [hx] at h1
  rw [hn] at h1n
  obtain ⟨b, hb, ms, clock, hm, h2, h3⟩ := H.others id _ hh rfl
  have e1 := h1.at_mpv hb
  have e2 := h1n.c_inv
  have hfl : es.filter (fun t => t.1 == n) = [(n, v)] := by
    unfold lookMp at hf
    split at hf
    · rename_i t ht
      cases hf
      have : t ∈ es.filter (fun t => t.1 == n) := by rw [ht]; simp
      have := (List.mem_filter.1 this).2
      simp at this
      rw [ht, ← this]
    · cases hf
  obtain ⟨j, e, g1, g2, g3⟩ : ∃ j e, Instr.findNow (.int .i64) (.int .i64 n) ms.toList 0 = some (some (0 + j, e.val)) ∧ ms.toList[j]? = some e ∧ e.key = .int .i64 n := by
    rcases MapKept.findNow_spec (d := .int .i64) (k := .int .i64 n) (by simp [MapKept.IsKey]) ms.toList 0 (mp_isKey h2 h3) with ⟨-, g⟩ | g
    · exfalso
      have hm' : (n, v) ∈ es := by
        have : (n, v) ∈ es.filter (fun t => t.1 == n) := by rw [hfl]; simp
        exact (List.mem_filter.1 this).1
      obtain ⟨i, hi⟩ := List.mem_iff_getElem?.1 hm'
      obtain ⟨e, r1, r2, -⟩ := h3 i n v hi
      exact g e (by rw [← Array.getElem?_toList] at r1; exact List.mem_of_getElem? r1) r2
    · exact g
  obtain ⟨k', x', r1, r2, r3⟩ := mp_keys h2 h3 g2
  have hkx : k' = n ∧ x' = v := by
    rw [g3] at r2
    simp at r2
    subst r2
    have : (n, x') ∈ es.filter (fun t => t.1 == n) := List.mem_filter.2 ⟨List.mem_of_getElem? r1, by simp⟩
    rw [hfl] at this
    simpa using this
  obtain ⟨rfl, rfl⟩ := hkx
  cases ok with
  | true =>
    refine ⟨.tuple #[e.val, .bool true], w, m, .inl ?_, H, ?_, Ext.refl _ _⟩
    · simp [execOp, ho, e1, e2, Instr.lookup, run_underlying hu, MapKept.run_getObj_map hm, MapKept.run_checkKey hk (k := .int .i64 k') (by simp [MapKept.IsKey]), MapKept.run_findKey hk g1]
    · refine .tup _ _ rfl ?_
      intro i y hy
      rcases i with _ | _ | i <;> simp at hy <;> subst hy
      · exact r3
      · exact .pure _ _ (.c _)
  | false =>
    refine ⟨e.val, w, m, .inl ?_, H, by simpa using r3, Ext.refl _ _⟩
    simp [execOp, ho, e1, e2, Instr.lookup, run_underlying hu, MapKept.run_getObj_map hm, MapKept.run_checkKey hk (k := .int .i64 k') (by simp [MapKept.IsKey]), MapKept.run_findKey hk g1]

theorem op_lookup_no [Bk] [Ev] {t kt et : TypeId} {x k : Operand} {id : Nat} {n : Int} {es : List (Int × AV)} {ti : TypeInfo} {z : Value} {ok : Bool} (ho : o.op = .lookup t x k ok) (hu : P.underlying t = some (.map kt et)) (hk : P.underlying kt = some (.int .i64)) (hi : P.info? et = some ti) (hz : ti.zero = some z) (hx : aev f x = .mpv id) (hn : aev f k = .c (.int .i64 n)) (hh : h id = .mp es) (hf : noKey n es = true) :
    OpOk P o f h ⟨if ok then .tup [ofC z, .c (.bool false)] else ofC z, [], [id]⟩ := by
  intro m A w a H F
  have h1 := F.eval x
  have h1n := F.eval k
  rw [hx] at h1
  rw [hn] at h1n
  obtain ⟨b, hb, ms, clock, hm, h2, h3⟩ := H.others id _ hh rfl
  have e1 := h1.at_mpv hb
  have e2 := h1n.c_inv
  have hfn : Instr.findNow (.int .i64) (.int .i64 n) ms.toList 0 = some none := by
    rcases MapKept.findNow_spec (d := .int .i64) (k := .int .i64 n) (by simp [MapKept.IsKey]) ms.toList 0 (mp_isKey h2 h3) with ⟨g, -⟩ | ⟨j, e, -, g2, g3⟩
    · exact g
    · exfalso
      obtain ⟨k', x', r1, r2, -⟩ := mp_keys h2 h3 g2
      rw [g3] at r2
      have := List.all_eq_true.1 hf _ (List.mem_of_getElem? r1)
      simp at this r2
      exact this r2.symm
  have hzv : (zeroValue et).run P w = .ok z w := by simp [zeroValue, typeInfo, hi, hz]
  cases ok with
  | true =>
    refine ⟨.tuple #[z, .bool false], w, m, .inl ?_, H, ?_, Ext.refl _ _⟩
    · simp [execOp, ho, e1, e2, Instr.lookup, run_underlying hu, MapKept.run_getObj_map hm, MapKept.run_checkKey hk (k := .int .i64 n) (by simp [MapKept.IsKey]), MapKept.run_findKey hk hfn, hzv]
    · refine .tup _ _ rfl ?_
      intro i y hy
      rcases i with _ | _ | i <;> simp at hy <;> subst hy
      · exact .pure _ _ (RdL_ofC _ _ _)
      · exact .pure _ _ (.c _)
  | false =>
    refine ⟨z, w, m, .inl ?_, H, .pure _ _ (RdL_ofC _ _ _), Ext.refl _ _⟩
    simp [execOp, ho, e1, e2, Instr.lookup, run_underlying hu, MapKept.run_getObj_map hm, MapKept.run_checkKey hk (k := .int .i64 n) (by simp [MapKept.IsKey]), MapKept.run_findKey hk hfn, hzv]
end
end Go.Proofs.YtjbgfhafinfjbaaGreat.Mc
