/-
  A machine of plain data beside the model: clear. No program in sight.
-/
import Derived.Test.YtjbgfhafinfjbaaGreatM9
set_option linter.unusedVariables false
set_option linter.unusedSimpArgs false
namespace Go.Proofs.YtjbgfhafinfjbaaGreat.Mc
open Go.RowKit

section
variable {P : Program} {o : Oper} {f : List AV} {h : AH}

/-- Elements in the place of others. -/
theorem rows_ok [Bk] [Ev] {m : Nat → St} {A : Nat → Prop} {w : World} (H : HRel m A h w) {T sz id i b : Nat} {els ys : List (List AV)} {us : List Value} {cs : Array Value} (hh : h id = .cells T sz els) (hm : m id = .at b) (g2 : w.heap[b]? = some (.cells cs T (0, 0))) (g3 : els.length * sz ≤ cs.size) (g4 : ∀ e ∈ els, e.length = sz)
    (g5 : ∀ (i j : Nat) (x : AV), at2 els i j = some x → x.one = true ∧ Rd m A w x (cs.getD (i * sz + j) Go.undef)) (hy : ∀ e ∈ ys, e.length = sz) (hl : us.length = ys.length * sz)
    (hx : ∀ (i j : Nat) (x : AV), at2 ys i j = some x → x.one = true ∧ Rd m A w x (us.getD (i * sz + j) Go.undef)) (h1 : ∀ v ∈ us, v.oneCell' = true) (hfit0 : i + ys.length ≤ els.length) :
    ∃ w', (storeCells ⟨b, i * sz, none⟩ us).run P w = .ok () w' ∧ HRel m A (bset h id (.cells T sz (splice els i ys))) w' ∧ Ext m w m w' := by
  have hmul : (i + ys.length) * sz ≤ els.length * sz := Nat.mul_le_mul_right _ hfit0
  rw [Nat.add_mul] at hmul
  have hfit : i * sz + 0 + us.length ≤ cs.size := by rw [hl]; omega
  have hst := run_storeCells_at P b (i * sz) T us 0 cs w g2 hfit h1
  refine ⟨_, hst, ?_⟩
  have hsz : (cs.toList.take (i * sz + 0) ++ us ++ cs.toList.drop (i * sz + 0 + us.length)).toArray.size = cs.size := by simp only [List.size_toArray, List.length_append, List.length_take, List.length_drop, Array.length_toList]; omega
  have hget : ∀ k, (cs.toList.take (i * sz + 0) ++ us ++ cs.toList.drop (i * sz + 0 + us.length)).toArray.getD k Go.undef = if i * sz ≤ k ∧ k < i * sz + us.length then us.getD (k - i * sz) Go.undef else cs.getD k Go.undef := by
    intro k
    have := splice_get (cs := cs.toList) (off := i * sz) (xs := us) (by simpa using hfit) k
    unfold splice at this
    have e1 : ∀ (l : List Value), l.toArray.getD k Go.undef = (l[k]?).getD Go.undef := by intro l; simp
    rw [e1, Nat.add_zero, this]
    split
    · simp [List.getD]
    · simp
  refine H.write (els' := splice els i ys) hh hm (setRow_heap w b cs _ T _ g2) g2 hsz (fun k hk => setRow_other w b k _ hk) rfl rfl rfl (by simp) ?_ ?_ ?_
  · rw [hsz, splice_len hfit0]; exact g3
  · intro e' he'
    unfold splice at he'
    simp only [List.mem_append] at he'
    rcases he' with (h | h) | h
    · exact g4 _ (List.mem_of_mem_take h)
    · exact hy _ h
    · exact g4 _ (List.mem_of_mem_drop h)
  · intro i' j x hx'
    unfold at2 at hx'
    rw [splice_get hfit0] at hx'
    rw [hget]
    split at hx'
    · rename_i hk
      have ha : at2 ys (i' - i) j = some x := hx'
      have hb := at2_len ha hy
      have e : i' * sz = i * sz + (i' - i) * sz := by rw [← Nat.add_mul]; congr 1; omega
      rw [if_pos (by omega)]
      have := hx _ _ _ ha
      refine ⟨this.1, ?_⟩
      rw [show i' * sz + j - i * sz = (i' - i) * sz + j by omega]
      exact this.2
    · rename_i hk
      have ha : at2 els i' j = some x := hx'
      have hb := at2_len ha g4
      rw [if_neg]
      · exact g5 i' j x ha
      · rintro ⟨k1, k2⟩
        rcases Nat.lt_or_ge i' i with hlt | hge
        · have : (i' + 1) * sz ≤ i * sz := Nat.mul_le_mul_right _ hlt
          rw [Nat.succ_mul] at this
          omega
        · have : (i + ys.length) * sz ≤ i' * sz := Nat.mul_le_mul_right _ (by omega)
          rw [Nat.add_mul] at this
          omega

/-- clear. -/
theorem op_clear [Bk] [Ev] {t : TypeId} {x : Operand} {e : TypeId} {T sz id i n : Nat} {els : List (List AV)} {zc : List AV} {ti : TypeInfo} {z : Value} (ho : o.op = .call { callee := .builtin .clear, args := #[x], argTypes := #[t] }) (hu : P.underlying t = some (.slice e)) (hi : P.info? e = some ti) (hz : ti.zero = some z)
    (hc : cellsA (ofC z) = some zc) (hs : zc.length = sz) (hx : aev f x = .own T sz id i n) (hh : h id = .cells T sz els) (hn : 0 < n) (hfit : i + n ≤ els.length) : OpOk P o f h ⟨.tup [], [(id, .cells T sz (splice els i (List.replicate n zc)))], [id]⟩ := by
  intro m A w a H F
  have hel : ∃ el, els[i]? = some el := ⟨els[i], List.getElem?_eq_getElem (by omega)⟩
  obtain ⟨el, he⟩ := hel
  obtain ⟨b, cs, g1, g2, g3, g4, g5⟩ := H.block hh he
  have h1 := F.eval x
  rw [hx] at h1
  obtain ⟨cap, hv, -⟩ := h1.at_own g1
  have hcr : CR (Rd m A w) zc z.cells := CR_cells (.pure _ _ (RdL_ofC _ w z)) hc
  have hzs : z.cells.size = sz := hcr.1.trans hs
  have hul : (Builtin.zeroCells z.cells n).toList.length = n * sz := by simp [Builtin.zeroCells, hzs]
  have hux : ∀ k, k < n * sz → (Builtin.zeroCells z.cells n).toList.getD k Go.undef = z.cells.getD (k % sz) Go.undef := by
    intro k hk
    have hk2 : k % sz < sz := Nat.mod_lt _ (by
      rcases Nat.eq_zero_or_pos sz with h | h
      · subst h; simp at hk
      · exact h)
    have hk' : k < n * z.cells.size := by rw [hzs]; exact hk
    simp only [Builtin.zeroCells]
    simp [List.getD, hk', hzs, show k < n * sz from hk]
    rw [Array.getElem!_eq_getD, Array.getD_eq_getD_getElem?]
    have : k % sz < z.cells.size := by omega
    simp [this]
  obtain ⟨w', r1, r2, r3⟩ := rows_ok (P := P) (ys := List.replicate n zc) H hh g1 g2 g3 g4 g5 (by intro e he; rw [List.eq_of_mem_replicate he]; exact hs) (us := (Builtin.zeroCells z.cells n).toList) (by rw [hul]; simp) (by
    intro i' j x hx'
    have hb := at2_len hx' (sz := sz) (by intro e he; rw [List.eq_of_mem_replicate he]; exact hs)
    simp only [List.length_replicate] at hb
    have hj : zc[j]? = some x := by
      unfold at2 at hx'
      rw [List.getElem?_replicate, if_pos hb.1] at hx'
      simpa using hx'
    have := hcr.2 _ _ hj
    refine ⟨this.1, ?_⟩
    rw [hux _ hb.2.2]
    have e1 : (i' * sz + j) % sz = j := by rw [Nat.add_comm, Nat.add_mul_mod_self_right]; exact Nat.mod_eq_of_lt hb.2.1
    rw [e1]; exact this.2) (by
    intro v hv'
    obtain ⟨k, hk, rfl⟩ := List.getElem_of_mem hv'
    rw [hul] at hk
    have e2 := hux k hk
    have hk2 : k % sz < sz := Nat.mod_lt _ (by
      rcases Nat.eq_zero_or_pos sz with h | h
      · subst h; simp at hk
      · exact h)
    have hj := hcr.2 (k % sz) (zc[k % sz]'(by omega)) (by simp [show k % sz < zc.length by omega])
    have := hj.2.one hj.1
    rw [← e2] at this
    rw [List.getD, List.getElem?_eq_getElem (by rw [hul]; exact hk)] at this
    exact this) (by simpa using hfit)
  refine ⟨.tuple #[], w', m, .inl ?_, r2, .pure _ _ (.tup [] #[] rfl (by intro i x h; simp at h)), r3⟩
  obtain ⟨n', rfl⟩ : ∃ n', n = n' + 1 := ⟨n - 1, by omega⟩
  simp [execOp, ho, resolve, invoke, builtin, hv, Builtin.clear_, run_underlying hu, zeroValue, typeInfo, hi, hz, r1]
theorem op_clear0 [Bk] [Ev] {t : TypeId} {x : Operand} {e : TypeId} {els : List (List AV)} (ho : o.op = .call { callee := .builtin .clear, args := #[x], argTypes := #[t] }) (hu : P.underlying t = some (.slice e)) (he : elsA h (aev f x) = some els) (h0 : els.length = 0) : OpOk P o f h ⟨.tup [], [], idOf (aev f x)⟩ := by
  refine op_pure fun m A w a H F => ?_
  have h1 := F.eval x
  have hlen : ∃ ad cap, a.eval x = .slice ad els.length cap := by
    generalize aev f x = y at h1 he
    generalize a.eval x = v at h1
    cases y with
    | emp =>
      simp only [elsA, Option.some.injEq] at he; subst he
      cases h1 with | pure _ _ hr => cases hr with | emp a => exact ⟨a, 0, rfl⟩
    | lit s els' =>
      simp only [elsA, Option.some.injEq] at he; subst he
      obtain ⟨rfl, a, cap, rfl⟩ | ⟨b, off, cap, vs, rfl, -⟩ := h1.lit_inv
      · exact ⟨a, cap, rfl⟩
      · exact ⟨_, cap, rfl⟩
    | own T s id i n =>
      simp only [elsA] at he
      split at he
      · rename_i T' sz' els0 hh
        split at he
        · rename_i hc
          obtain ⟨rfl, rfl, hle⟩ := hc
          cases he
          have hlen : ((els0.drop i).take n).length = n := by simp; omega
          rw [hlen]
          rcases H.cells id _ _ _ hh with ⟨hv, rfl⟩ | ⟨b, cs, g1, g2, g3, g4, g5⟩
          · cases h1 with
            | pure _ _ h => cases h
            | own _ _ _ _ _ b _ hm => rw [hv] at hm; cases hm
            | ownv _ _ _ _ a hm => exact ⟨a, 0, rfl⟩
            | ownd _ _ _ _ _ _ _ _ hm => rw [hv] at hm; cases hm
          · obtain ⟨cap, rfl, -⟩ := h1.at_own g1
            exact ⟨_, cap, rfl⟩
        · cases he
      · cases he
    | _ => simp [elsA] at he
  obtain ⟨ad, cap, hv⟩ := hlen
  rw [h0] at hv
  refine ⟨.tuple #[], ?_, .pure _ _ (.tup [] #[] rfl (by intro i x h; simp at h))⟩
  cases ad <;> simp [execOp, ho, resolve, invoke, builtin, hv, Builtin.clear_, run_underlying hu]
end
end Go.Proofs.YtjbgfhafinfjbaaGreat.Mc
