/-
  A machine of plain data beside the model: append, make. No program in sight.
-/
import Derived.Test.YtjbgfhafinfjbaaGreatM5
set_option linter.unusedVariables false
set_option linter.unusedSimpArgs false
namespace Go.Proofs.YtjbgfhafinfjbaaGreat.Mc
open Go.RowKit

section
variable {P : Program} {o : Oper} {f : List AV} {h : AH}

/-- A block is given up. -/
theorem HRel.kill [Bk] [Ev] {m : Nat → St} {A : Nat → Prop} {w : World} (H : HRel m A h w) {id T sz : Nat} {els : List (List AV)} (hh : h id = .cells T sz els) (hv : m id = .virt) :
    HRel (sset m id .dead) A (bset h id .dead) w ∧ Ext m w (sset m id .dead) w := by
  have E : Ext m w (sset m id .dead) w := by
    refine ⟨rfl, rfl, rfl, Nat.le_refl _, ?_, ?_, ?_, ?_, fun _ _ _ _ => rfl⟩
    · intro k b hb
      unfold sset; split
      · exact .inr rfl
      · exact .inl hb
    · intro k hk
      unfold sset; split
      · rfl
      · exact hk
    · intro k hk
      unfold sset; split
      · exact .inr rfl
      · exact .inl hk
    · intro b hb hu
      refine ⟨?_, rfl⟩
      intro k
      unfold sset; split
      · intro e; cases e
      · exact hu k
  refine ⟨⟨?_, H.old, ?_, ?_, ?_, ?_, H.glob.ext H.out E, H.others_to E fun id' B hk hB => ?_⟩, E⟩
  · intro k b hb
    unfold sset at hb; split at hb
    · cases hb
    · exact H.out k b hb
  · intro k hk
    unfold bset at hk; unfold sset; split at hk
    · cases hk
    · rename_i hne; rw [if_neg hne]; exact H.no k hk
  · intro k hk
    unfold bset at hk; unfold sset; split at hk
    · rename_i he; rw [if_pos he]
    · rename_i hne; rw [if_neg hne]; exact H.dead k hk
  · intro k T' sz' els' hk
    unfold bset at hk; split at hk
    · cases hk
    · rename_i hne
      obtain ⟨g1, g2⟩ | ⟨b, cs, g1, g2, g3, g4, g5⟩ := H.cells k T' sz' els' hk
      · exact .inl ⟨by simp [sset, hne, g1], g2⟩
      · exact .inr ⟨b, cs, by simp [sset, hne, g1], g2, g3, g4, fun i j x hx => ⟨(g5 i j x hx).1, (g5 i j x hx).2.ext E⟩⟩
  · intro i j b hi hj
    unfold sset at hi hj
    split at hi
    · cases hi
    · split at hj
      · cases hj
      · exact H.inj i j b hi hj
  · unfold bset at hk; split at hk
    · subst hk; exact absurd hB (by simp [Blk.other])
    · rename_i hne
      exact ⟨hk, fun b hb => ⟨by simp [sset, hne, hb], rfl⟩⟩

/-- A block that stands nowhere yet. -/
theorem HRel.virtual [Bk] [Ev] {m : Nat → St} {A : Nat → Prop} {w : World} (H : HRel m A h w) {id : Nat} (hid : h id = .no) (T sz : Nat) :
    HRel (sset m id .virt) A (bset h id (.cells T sz [])) w ∧ Ext m w (sset m id .virt) w := by
  have hmid := H.no id hid
  have ne : ∀ {k : Nat} {s : St}, m k = s → s ≠ .no → k ≠ id := by rintro k s h1 h2 rfl; rw [hmid] at h1; exact h2 h1.symm
  have E : Ext m w (sset m id .virt) w := by
    refine ⟨rfl, rfl, rfl, Nat.le_refl _, ?_, ?_, ?_, ?_, fun _ _ _ _ => rfl⟩
    · intro k b hb
      exact .inl (by rw [sset, if_neg (ne hb (by simp))]; exact hb)
    · intro k hk
      rw [sset, if_neg (ne hk (by simp))]; exact hk
    · intro k hk
      exact .inl (by rw [sset, if_neg (ne hk (by simp))]; exact hk)
    · intro b hb hu
      refine ⟨?_, rfl⟩
      intro k
      unfold sset; split
      · intro e; cases e
      · exact hu k
  refine ⟨⟨?_, H.old, ?_, ?_, ?_, ?_, H.glob.ext H.out E, H.others_to E fun id' B hk hB => ?_⟩, E⟩
  · intro k b hb
    unfold sset at hb; split at hb
    · cases hb
    · exact H.out k b hb
  · intro k hk
    unfold bset at hk; unfold sset; split at hk
    · cases hk
    · rename_i hne; rw [if_neg hne]; exact H.no k hk
  · intro k hk
    unfold bset at hk; unfold sset; split at hk
    · cases hk
    · rename_i hne; rw [if_neg hne]; exact H.dead k hk
  · intro k T' sz' els' hk
    unfold bset at hk; split at hk
    · rename_i he; cases hk; exact .inl ⟨by simp [sset, he], rfl⟩
    · rename_i hne
      obtain ⟨g1, g2⟩ | ⟨b, cs, g1, g2, g3, g4, g5⟩ := H.cells k T' sz' els' hk
      · exact .inl ⟨by simp [sset, hne, g1], g2⟩
      · exact .inr ⟨b, cs, by simp [sset, hne, g1], g2, g3, g4, fun i j x hx => ⟨(g5 i j x hx).1, (g5 i j x hx).2.ext E⟩⟩
  · intro i j b hi hj
    unfold sset at hi hj
    split at hi
    · cases hi
    · split at hj
      · cases hj
      · exact H.inj i j b hi hj
  · unfold bset at hk; split at hk
    · subst hk; exact absurd hB (by simp [Blk.other])
    · rename_i hne
      exact ⟨hk, fun b hb => ⟨by simp [sset, hne, hb], rfl⟩⟩

/-- A block grows: where it was, or anew. -/
theorem HRel.renew [Bk] [Ev] {m : Nat → St} {A : Nat → Prop} {w w' : World} (H : HRel m A h w) {id nx T sz b g : Nat} {els els' : List (List AV)} {cs' : Array Value} (hh : h id = .cells T sz els) (hb : m id = .at b) (hnx : h nx = .no) (hgr : w.grownBy w' (some b)) (hg : g = b ∨ w.heap.size ≤ g) (hglt : g < w'.heap.size)
    (hw : w'.heap[g]? = some (.cells cs' T (0, 0))) (h3 : els'.length * sz ≤ cs'.size) (h4 : ∀ e ∈ els', e.length = sz)
    (h5 : ∀ (i j : Nat) (x : AV), at2 els' i j = some x → x.one = true ∧ Rd m A w x (cs'.getD (i * sz + j) Go.undef)) :
    HRel (sset (sset m id .dead) nx (.at g)) A (bset (bset h id .dead) nx (.cells T sz els')) w' ∧ Ext m w (sset (sset m id .dead) nx (.at g)) w' := by
  have hmnx := H.no nx hnx
  have hne : nx ≠ id := by rintro rfl; rw [hb] at hmnx; cases hmnx
  have hblt := H.lt hb
  have get : ∀ k, k ≠ nx → k ≠ id → sset (sset m id .dead) nx (.at g) k = m k := by intro k h1 h2; simp [sset, h1, h2]
  have gnx : sset (sset m id .dead) nx (.at g) nx = .at g := by simp [sset]
  have gid : sset (sset m id .dead) nx (.at g) id = .dead := by simp [sset, hne.symm]
  have old : ∀ k b', m k = .at b' → k ≠ id → b' ≠ b ∧ w'.heap[b']? = w.heap[b']? := by
    intro k b' hk hki
    have hn : b' ≠ b := by rintro rfl; exact hki (H.inj k id b' hk hb)
    exact ⟨hn, hgr.block b' (H.lt hk) (by simpa using hn)⟩
  have E : Ext m w (sset (sset m id .dead) nx (.at g)) w' := by
    refine ⟨hgr.os, hgr.tape, hgr.output, hgr.size, ?_, ?_, ?_, ?_, ?_⟩
    · intro k b' hk
      by_cases e1 : k = id
      · subst e1; exact .inr gid
      · have e2 : k ≠ nx := by rintro rfl; rw [hmnx] at hk; cases hk
        exact .inl (by rw [get k e2 e1]; exact hk)
    · intro k hk
      have e1 : k ≠ id := by rintro rfl; rw [hb] at hk; cases hk
      have e2 : k ≠ nx := by rintro rfl; rw [hmnx] at hk; cases hk
      rw [get k e2 e1]; exact hk
    · intro k hk
      have e1 : k ≠ id := by rintro rfl; rw [hb] at hk; cases hk
      have e2 : k ≠ nx := by rintro rfl; rw [hmnx] at hk; cases hk
      exact .inl (by rw [get k e2 e1]; exact hk)
    · intro b' hb' hu
      have hn : b' ≠ b := by rintro rfl; exact hu id hb
      refine ⟨?_, hgr.block b' hb' (by simpa using hn)⟩
      intro k hk
      by_cases e2 : k = nx
      · subst e2; rw [gnx] at hk; cases hk; omega
      · by_cases e1 : k = id
        · subst e1; rw [gid] at hk; cases hk
        · rw [get k e2 e1] at hk; exact hu k hk
    · intro k b' hk hk'
      have e1 : k ≠ id := by rintro rfl; rw [gid] at hk'; cases hk'
      simp [rowSize, (old k b' hk e1).2]
  refine ⟨⟨?_, fun b' hb' => by have := H.old b' hb'; have := hgr.size; omega, ?_, ?_, ?_, ?_, H.glob.ext H.out E, H.others_to E fun k B hk hB => ?_⟩, E⟩
  · intro k b' hk hA
    by_cases e2 : k = nx
    · subst e2; rw [gnx] at hk; cases hk
      rcases hg with rfl | hg
      · exact H.out id _ hb hA
      · have := H.old _ hA; omega
    · by_cases e1 : k = id
      · subst e1; rw [gid] at hk; cases hk
      · rw [get k e2 e1] at hk; exact H.out k b' hk hA
  · intro k hk
    by_cases e2 : k = nx
    · subst e2; simp [bset] at hk
    · by_cases e1 : k = id
      · subst e1; simp [bset, e2] at hk
      · rw [get k e2 e1]; simp [bset, e2, e1] at hk; exact H.no k hk
  · intro k hk
    by_cases e2 : k = nx
    · subst e2; simp [bset] at hk
    · by_cases e1 : k = id
      · subst e1; exact gid
      · rw [get k e2 e1]; simp [bset, e2, e1] at hk; exact H.dead k hk
  · intro k T' sz' els'' hk
    by_cases e2 : k = nx
    · subst e2
      simp [bset] at hk
      obtain ⟨rfl, rfl, rfl⟩ := hk
      exact .inr ⟨g, cs', gnx, hw, h3, h4, fun i j x hx => ⟨(h5 i j x hx).1, (h5 i j x hx).2.ext E⟩⟩
    · by_cases e1 : k = id
      · subst e1; simp [bset, e2] at hk
      · simp [bset, e2, e1] at hk
        obtain ⟨g1, g2⟩ | ⟨b', cs, g1, g2, g3, g4, g5⟩ := H.cells k T' sz' els'' hk
        · exact .inl ⟨by rw [get k e2 e1]; exact g1, g2⟩
        · exact .inr ⟨b', cs, by rw [get k e2 e1]; exact g1, by rw [(old k b' g1 e1).2]; exact g2, g3, g4, fun i j x hx => ⟨(g5 i j x hx).1, (g5 i j x hx).2.ext E⟩⟩
  · intro i j b' hi hj
    have key : ∀ k, sset (sset m id .dead) nx (.at g) k = .at b' → (k = nx ∧ b' = g) ∨ (k ≠ nx ∧ k ≠ id ∧ m k = .at b') := by
      intro k hk
      by_cases e2 : k = nx
      · subst e2; rw [gnx] at hk; cases hk; exact .inl ⟨rfl, rfl⟩
      · by_cases e1 : k = id
        · subst e1; rw [gid] at hk; cases hk
        · rw [get k e2 e1] at hk; exact .inr ⟨e2, e1, hk⟩
    rcases key i hi with ⟨a1, a2⟩ | ⟨a1, a2, a3⟩ <;> rcases key j hj with ⟨c1, c2⟩ | ⟨c1, c2, c3⟩
    · rw [a1, c1]
    · exfalso
      have := (old j b' c3 c2).1
      have := H.lt c3
      rcases hg with hg | hg <;> omega
    · exfalso
      have := (old i b' a3 a2).1
      have := H.lt a3
      rcases hg with hg | hg <;> omega
    · exact H.inj i j b' a3 c3
  · by_cases e2 : k = nx
    · subst e2; simp only [bset, if_true] at hk; subst hk; exact absurd hB (by simp [Blk.other])
    · by_cases e1 : k = id
      · subst e1; simp only [bset, if_neg e2, if_true] at hk; subst hk; exact absurd hB (by simp [Blk.other])
      · simp only [bset, if_neg e2, if_neg e1] at hk
        exact ⟨hk, fun b' hb' => ⟨by rw [get k e2 e1]; exact hb', (old k b' hb' e1).2⟩⟩

theorem at2_append [Bk] [Ev] {xs ys : List (List AV)} {i j : Nat} {x : AV} (h : at2 (xs ++ ys) i j = some x) : (i < xs.length ∧ at2 xs i j = some x) ∨ (xs.length ≤ i ∧ at2 ys (i - xs.length) j = some x) := by
  unfold at2 at *
  rcases Nat.lt_or_ge i xs.length with hl | hl
  · rw [List.getElem?_append_left hl] at h; exact .inl ⟨hl, h⟩
  · rw [List.getElem?_append_right hl] at h; exact .inr ⟨hl, h⟩

/-- What the two rows together hold. -/
theorem rows_join [Bk] [Ev] {R : AV → Value → Prop} {xs ys : List (List AV)} {sz : Nat} (hx : ∀ e ∈ xs, e.length = sz) {us vs : List Value} (hl : us.length = xs.length * sz)
    (h1 : ∀ (i j : Nat) (x : AV), at2 xs i j = some x → x.one = true ∧ R x (us.getD (i * sz + j) Go.undef)) (h2 : ∀ (i j : Nat) (x : AV), at2 ys i j = some x → x.one = true ∧ R x (vs.getD (i * sz + j) Go.undef)) :
    ∀ (i j : Nat) (x : AV), at2 (xs ++ ys) i j = some x → x.one = true ∧ R x ((us ++ vs).getD (i * sz + j) Go.undef) := by
  intro i j x h
  rcases at2_append h with ⟨a, b⟩ | ⟨a, b⟩
  · have hb := at2_len b hx
    have := h1 i j x b
    rw [List.getD, List.getElem?_append_left (by omega)]
    exact this
  · have := h2 _ _ _ b
    have hmul : xs.length * sz ≤ i * sz := Nat.mul_le_mul_right _ a
    rw [List.getD, List.getElem?_append_right (by omega)]
    have e : i * sz + j - us.length = (i - xs.length) * sz + j := by rw [hl, Nat.sub_mul]; omega
    rw [e]; exact this

theorem run_append_emp [Bk] [Ev] (a0 : Option Addr) (t ty e : TypeId) (i : TypeInfo) (z : Value) (ht : P.underlying t = some (.slice e)) (hi : P.info? e = some i) (hz : i.zero = some z) (w : World)
    (a : Addr) (n c : Nat) (news : List Value) (hl : news.length = n * i.size) (hnews : ∀ j v, news[j]? = some v → w.cell? (a.add j) = some v)
    (h0 : 0 < n) (h63 : (n : Int) ≤ 9223372036854775807) (h48 : n * i.bytes ≤ 140737488355328) :
    (Builtin.append_ #[t, t] ty #[.slice a0 0 0, .slice (some a) n c]).run P w =
      .ok (.slice (some ⟨w.heap.size, 0, none⟩) n (grownCap w n 0 e)) (w.drew.alloc (.cells (news.toArray ++ Builtin.zeroCells z.cells (grownCap w n 0 e - n)) e)) := by
  cases a0 with
  | none => exact run_append_nil w t ty e i z ht hi hz a n c news hl hnews h0 h63 (by omega)
  | some b =>
    have := run_append_grow (P := P) w t ty e i z ht hi hz b 0 0 [] (by simp) (by intro j v hv; simp at hv) a n c news hl hnews (by omega) (by simpa using h63) (by rw [Nat.zero_add, nextslicecap_zero h0]; omega)
    simpa using this
theorem run_append_none [Bk] [Ev] (v : Value) (a0 a1 : Option Addr) (n cap c1 : Nat) (t ty e : TypeId) (i : TypeInfo) (ht : P.underlying t = some (.slice e)) (hi : P.info? e = some i) (w : World) (hn : n ≤ cap) (h0 : a0 = none → n = 0) :
    (Builtin.append_ #[t, t] ty #[.slice a0 n cap, .slice a1 0 c1]).run P w = .ok (.slice a0 n cap) w := by
  cases a0 <;> cases a1 <;> simp [Builtin.append_, run_underlying ht, sizeOf, typeInfo, hi, Builtin.lenOf, Builtin.firstCells, hn, storeCells, loadCells, loadCellsFrom]

/-- The slice that is appended to: nothing, or a block of the machine's own, whole. -/
def baseA (h : AH) (e sz : Nat) : AV → Option (List (List AV) × List (Nat × Blk) × List Nat)
  | .emp => some ([], [], [])
  | .own T s id 0 n => match h id with
    | .cells T' s' els => if T' = T ∧ s' = s ∧ T = e ∧ s = sz ∧ n = els.length then some (els, [(id, .dead)], [id]) else none
    | _ => none
  | _ => none

theorem op_append [Bk] [Ev] {t e : TypeId} {x y : Operand} {els ys : List (List AV)} {k : List (Nat × Blk)} {rd : List Nat} {i : TypeInfo} {z : Value} {nx : Nat} (ho : o.op = .call { callee := .builtin .append, args := #[x, y], argTypes := #[t, t] }) (ht : P.underlying t = some (.slice e)) (hi : P.info? e = some i) (hz : i.zero = some z) (hzs : z.cells.size = i.size) (hs0 : 0 < i.size)
    (hx : baseA h e i.size (aev f x) = some (els, k, rd)) (hy : elsA h (aev f y) = some ys) (hys : ∀ q ∈ ys, q.length = i.size) (hyo : ∀ T s id j n, aev f y = .own T s id j n → s = i.size) (hb : (els.length + ys.length) * i.bytes ≤ 140737488355328) (hm : els.length + ys.length ≤ 1099511627776) (hnx : h nx = .no) :
    OpOk P o f h ⟨.own e i.size nx 0 (els.length + ys.length), k ++ [(nx, .cells e i.size (els ++ ys))], nx :: rd ++ idOf (aev f y)⟩ := by
  intro m A w a H F
  have gx := F.eval x
  have gy := F.eval y
  obtain ⟨a1, c1, hv1, hc1, hn1, news, hl, hnews, hone, hrd⟩ := src_ok H gy hy hys hyo
  have hexec : ∀ v w', (Builtin.append_ #[t, t] o.type #[a.eval x, a.eval y]).run P w = .ok v w' → (execOp a.eval o).run P w = .ok (.value v) w' := by
    intro v w' hr
    simp [execOp, ho, resolve, invoke, builtin, hr]
  -- from nothing
  have fresh : ∀ (m1 : Nat → St) (h1 : AH) (hk : upsB h (k ++ [(nx, .cells e i.size (els ++ ys))]) = bset h1 nx (.cells e i.size ys)) (H1 : HRel m1 A h1 w) (E1 : Ext m w m1 w) (hnx1 : h1 nx = .no) (a0 : Option Addr) (hv0 : a.eval x = .slice a0 0 0) (he : els = []),
      ∃ x' w' m', ((execOp a.eval o).run P w = .ok (.value x') w' ∨ ((execOp a.eval o).run P w = .ok .skip w' ∧ x' = Go.undef)) ∧ HRel m' A (upsB h (k ++ [(nx, .cells e i.size (els ++ ys))])) w' ∧ Rd m' A w' (.own e i.size nx 0 (els.length + ys.length)) x' ∧ Ext m w m' w' := by
    intro m1 h1 hk H1 E1 hnx1 a0 hv0 he
    subst he
    rw [hk]
    rw [hv0, hv1] at hexec
    simp only [List.length_nil, Nat.zero_add] at hm hb ⊢
    by_cases hys0 : ys = []
    · subst hys0
      have hr := run_append_none (P := P) (.slice a0 0 0) a0 a1 0 0 c1 t o.type e i ht hi w (Nat.le_refl _) (fun _ => rfl)
      obtain ⟨q1, q2⟩ := H1.virtual hnx1 e i.size
      refine ⟨_, w, _, .inl (hexec _ _ hr), q1, ?_, E1.trans q2⟩
      exact .ownv e i.size nx 0 a0 (by simp [sset])
    · have hpos : 0 < ys.length := List.length_pos_iff.2 hys0
      obtain ⟨ad, rfl⟩ : ∃ ad, a1 = some ad := by
        cases a1 with
        | none => exact absurd (hn1 rfl) hys0
        | some ad => exact ⟨ad, rfl⟩
      have hr := run_append_emp (P := P) a0 t o.type e i z ht hi hz w ad ys.length c1 news hl (fun j v hv => hnews ad rfl j v hv) hpos (by omega) hb
      have hcap : ys.length ≤ grownCap w ys.length 0 e ∧ grownCap w ys.length 0 e ≤ maxLen := by
        unfold grownCap Question.cut
        have := Nat.mod_lt (w.tape w.drawn (.appendCap ys.length 0 e)) (show 0 < 2 ^ 63 - ys.length by omega)
        simp only [maxLen]
        omega
      have hsize : (news.toArray ++ Builtin.zeroCells z.cells (grownCap w ys.length 0 e - ys.length)).size = grownCap w ys.length 0 e * i.size := by
        simp only [Array.size_append, List.size_toArray, hl, Builtin.zeroCells, Array.size_map, Array.size_range, hzs]
        rw [← Nat.add_mul]; congr 1; omega
      obtain ⟨d1, d2⟩ := H1.drew
      obtain ⟨q1, q2⟩ := d1.alloc (id := nx) (T := e) (sz := i.size) (els := ys) (cs := news.toArray ++ Builtin.zeroCells z.cells (grownCap w ys.length 0 e - ys.length)) hnx1 (by rw [hsize]; exact Nat.mul_le_mul_right _ hcap.1) hys (by
        intro i' j y hy'
        obtain ⟨r1, r2⟩ := hrd i' j y hy'
        have hb2 := at2_len hy' hys
        have e1 : (news.toArray ++ Builtin.zeroCells z.cells (grownCap w ys.length 0 e - ys.length)).getD (i' * i.size + j) Go.undef = news.getD (i' * i.size + j) Go.undef := by
          have hlt : i' * i.size + j < news.length := by omega
          simp [Array.getElem?_append, hlt, List.getD]
        rw [e1]
        exact ⟨r1, (r2.ext E1).ext d2⟩)
      refine ⟨_, _, _, .inl (hexec _ _ hr), q1, ?_, (E1.trans d2).trans q2⟩
      have := Rd.own (m := sset m1 nx (.at w.drew.heap.size)) (A := A) (w := w.drew.alloc (.cells (news.toArray ++ Builtin.zeroCells z.cells (grownCap w ys.length 0 e - ys.length)) e)) e i.size nx 0 ys.length w.heap.size (grownCap w ys.length 0 e) (by simp [sset]) (by simp) hcap.1 hcap.2 (by
        rw [Nat.zero_add, ← hsize]
        have : (w.drew.alloc (.cells (news.toArray ++ Builtin.zeroCells z.cells (grownCap w ys.length 0 e - ys.length)) e)).heap[w.heap.size]? = some (.cells (news.toArray ++ Builtin.zeroCells z.cells (grownCap w ys.length 0 e - ys.length)) e (0, 0)) := by
          show (w.heap.push _)[w.heap.size]? = _
          simp
        unfold rowSize; rw [this])
      simpa using this
  unfold baseA at hx
  split at hx
  · rename_i hax
    simp only [Option.some.injEq, Prod.mk.injEq] at hx
    obtain ⟨rfl, rfl, rfl⟩ := hx
    rw [hax] at gx
    obtain ⟨a0, hv0⟩ : ∃ a0, a.eval x = .slice a0 0 0 := by
      generalize a.eval x = v at gx
      cases gx with | pure _ _ hr => cases hr with | emp a0 => exact ⟨a0, rfl⟩
    exact fresh m h (by simp [upsB]) H (Ext.refl _ _) hnx a0 hv0 rfl
  · rename_i T s id n hax
    split at hx
    · rename_i T' s' els0 hh
      split at hx
      · rename_i hc
        obtain ⟨rfl, rfl, rfl, rfl, rfl⟩ := hc
        simp only [Option.some.injEq, Prod.mk.injEq] at hx
        obtain ⟨rfl, rfl, rfl⟩ := hx
        rw [hax] at gx
        have hne : nx ≠ id := by rintro rfl; rw [hh] at hnx; cases hnx
        rcases H.cells id _ _ _ hh with ⟨hv, rfl⟩ | ⟨b, cs, g1, g2, g3, g4, g5⟩
        · obtain ⟨a0, hv0⟩ : ∃ a0, a.eval x = .slice a0 0 0 := by
            generalize a.eval x = v at gx
            cases gx with
            | pure _ _ h => cases h
            | own _ _ _ _ _ b _ hm => rw [hv] at hm; cases hm
            | ownv _ _ _ _ a hm => exact ⟨a, rfl⟩
            | ownd _ _ _ _ _ _ _ _ hm => rw [hv] at hm; cases hm
          obtain ⟨q1, q2⟩ := H.kill hh hv
          exact fresh _ (bset h id .dead) (by simp [upsB]) q1 q2 (by rw [bset_other h _ hne]; exact hnx) a0 hv0 rfl
        · obtain ⟨cap, hv0, hn0, hcm, hrow⟩ := gx.at_own g1
          have hrow' : cap * i.size = cs.size := by rw [Nat.zero_add] at hrow; rw [hrow]; simp [rowSize, g2]
          have hown : w.ownsRow 0 T' i.size (.slice (some ⟨b, 0, none⟩) els0.length cap) els0.length (cs.toList.take (els0.length * i.size)) := by
            refine ⟨by simp; omega, .inr ⟨b, cap, cs, rfl, Nat.zero_le _, g2, hn0, hcm, hrow'.symm, rfl⟩⟩
          rw [hv0, hv1] at hexec
          simp only [Nat.zero_mul] at hexec
          have hus : (cs.toList.take (els0.length * i.size)).length = els0.length * i.size := by simp; omega
          have hrd0 : ∀ (i' j : Nat) (y : AV), at2 els0 i' j = some y → y.one = true ∧ Rd m A w y ((cs.toList.take (els0.length * i.size)).getD (i' * i.size + j) Go.undef) := by
            intro i' j y hy'
            have hb2 := at2_len hy' g4
            have := g5 i' j y hy'
            rw [List.getD, List.getElem?_take, if_pos hb2.2.2]
            simpa using this
          have hjoin := rows_join (R := Rd m A w) (ys := ys) g4 (us := cs.toList.take (els0.length * i.size)) (vs := news) hus hrd0 hrd
          have hall : ∀ q ∈ els0 ++ ys, q.length = i.size := by
            intro q hq
            rcases List.mem_append.1 hq with h | h
            · exact g4 q h
            · exact hys q h
          -- the end, once
          have fin : ∀ (v' : Value) (w' : World), (Builtin.append_ #[t, t] o.type #[.slice (some ⟨b, 0, none⟩) els0.length cap, .slice a1 ys.length c1]).run P w = .ok v' w' → w'.ownsRow 0 T' i.size v' (els0.length + ys.length) (cs.toList.take (els0.length * i.size) ++ news) → w.grownBy w' (some b) →
              (v'.ownBlock = some b ∨ v'.ownBlock = some w.heap.size) →
              ∃ x' w' m', ((execOp a.eval o).run P w = .ok (.value x') w' ∨ ((execOp a.eval o).run P w = .ok .skip w' ∧ x' = Go.undef)) ∧ HRel m' A (upsB h ([(id, .dead)] ++ [(nx, .cells T' i.size (els0 ++ ys))])) w' ∧ Rd m' A w' (.own T' i.size nx 0 (els0.length + ys.length)) x' ∧ Ext m w m' w' := by
            intro v' w' hr ho' hgr hblk
            obtain ⟨ho1, ho2 | ⟨g, cap', cur, rfl, -, hg, hnc, hcm', hcs, htake⟩⟩ := ho'
            · obtain ⟨rfl, -⟩ := ho2
              simp [Value.ownBlock] at hblk
            · have hgg : g = b ∨ w.heap.size ≤ g := by
                simp [Value.ownBlock] at hblk
                omega
              have hglt : g < w'.heap.size := by
                rcases Nat.lt_or_ge g w'.heap.size with h | h
                · exact h
                · simp [Array.getElem?_eq_none h] at hg
              obtain ⟨q1, q2⟩ := H.renew (els' := els0 ++ ys) (nx := nx) (g := g) (cs' := cur) hh g1 hnx hgr hgg hglt hg (by rw [List.length_append, hcs]; exact Nat.mul_le_mul_right _ hnc) hall (by
                intro i' j y hy'
                have hb2 := at2_len hy' hall
                obtain ⟨r1, r2⟩ := hjoin i' j y hy'
                refine ⟨r1, ?_⟩
                have : (cs.toList.take (els0.length * i.size) ++ news).getD (i' * i.size + j) Go.undef = cur.getD (i' * i.size + j) Go.undef := by
                  rw [← htake, List.getD, List.getElem?_take, if_pos (by rw [← List.length_append]; exact hb2.2.2)]
                  simp
                rw [← this]; exact r2)
              refine ⟨_, w', _, .inl (hexec _ _ hr), by simpa [upsB] using q1, ?_, q2⟩
              have := Rd.own (m := sset (sset m id .dead) nx (.at g)) (A := A) (w := w') T' i.size nx 0 (els0.length + ys.length) g cap' (by simp [sset]) hglt hnc hcm' (by rw [Nat.zero_add, ← hcs]; simp [rowSize, hg])
              simpa using this
          cases a1 with
          | none =>
            have := hn1 rfl
            subst this
            have hr := run_append_none (P := P) (.slice (some ⟨b, 0, none⟩) els0.length cap) (some ⟨b, 0, none⟩) none els0.length cap c1 t o.type T' i ht hi w hn0 (by intro h; cases h)
            have hnil : news = [] := by simpa using hl
            subst hnil
            refine fin _ _ hr ?_ ⟨rfl, rfl, rfl, Nat.le_refl _, fun _ _ _ => rfl⟩ (.inl rfl)
            simpa using hown
          | some ad =>
            obtain ⟨v', w', r1, r2, r3, r4, r5⟩ := run_append_own_at (P := P) w 0 t o.type T' i z i.size i.bytes ht hi hz rfl rfl hzs hs0 (.slice (some ⟨b, 0, none⟩) els0.length cap) els0.length _ hown ad ys.length c1 news hl (fun j u hu => hnews ad rfl j u hu) hone (by simp only [maxLen]; omega) hb (Nat.zero_le _)
            exact fin v' w' r1 r2 r3 (by simpa [Value.ownBlock] using r5)
      · cases hx
    · cases hx
  · cases hx
end
end Go.Proofs.YtjbgfhafinfjbaaGreat.Mc
