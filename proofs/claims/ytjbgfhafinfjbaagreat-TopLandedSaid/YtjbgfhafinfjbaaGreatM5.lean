/-
  A machine of plain data beside the model: slices that grow. No program in sight.
-/
import Derived.Test.YtjbgfhafinfjbaaGreatM4
set_option linter.unusedVariables false
set_option linter.unusedSimpArgs false
namespace Go.Proofs.YtjbgfhafinfjbaaGreat.Mc
open Go.RowKit

section
variable {P : Program} {o : Oper} {f : List AV} {h : AH}

/-- A slice's elements. -/
def elsA (h : AH) : AV → Option (List (List AV))
  | .emp => some []
  | .lit _ els => some els
  | .own T sz id i n => match h id with
    | .cells T' sz' els => if T' = T ∧ sz' = sz ∧ i + n ≤ els.length then some ((els.drop i).take n) else none
    | _ => none
  | _ => none
def idOf : AV → List Nat
  | .own _ _ id _ _ => [id]
  | _ => []

theorem flat_get [Bk] [Ev] {els : List (List AV)} {sz : Nat} (hsz : ∀ e ∈ els, e.length = sz) {k : Nat} (hk : k < els.length * sz) : ∃ x, at2 els (k / sz) (k % sz) = some x := by
  have h0 : 0 < sz := by
    rcases Nat.eq_zero_or_pos sz with h | h
    · subst h; simp at hk
    · exact h
  have h1 : k / sz < els.length := (Nat.div_lt_iff_lt_mul h0).2 hk
  have h2 : k % sz < sz := Nat.mod_lt _ h0
  have h3 : (els[k / sz]).length = sz := hsz _ (List.getElem_mem h1)
  exact ⟨_, by simp [at2, List.getElem?_eq_getElem h1, List.getElem?_eq_getElem (show k % sz < (els[k / sz]).length by omega)]; rfl⟩

theorem drop_at2 [Bk] [Ev] {els : List (List AV)} {i n i' j : Nat} {x : AV} (h : at2 ((els.drop i).take n) i' j = some x) : i' < n ∧ at2 els (i + i') j = some x := by
  unfold at2 at *
  rw [List.getElem?_take] at h
  split at h
  · rename_i hl
    rw [List.getElem?_drop] at h
    exact ⟨hl, h⟩
  · cases h

/-- What a slice holds, as the model has it. -/
theorem src_ok [Bk] [Ev] {m : Nat → St} {A : Nat → Prop} {w : World} (H : HRel m A h w) {x : AV} {v : Value} {els : List (List AV)} {sz : Nat} (hr : Rd m A w x v) (he : elsA h x = some els) (hsz : ∀ e ∈ els, e.length = sz) (hx : ∀ T s id i n, x = .own T s id i n → s = sz) :
    ∃ a cap, v = .slice a els.length cap ∧ els.length ≤ cap ∧ (a = none → els = []) ∧ ∃ news : List Value, news.length = els.length * sz ∧ (∀ ad, a = some ad → ∀ j u, news[j]? = some u → w.cell? (ad.add j) = some u) ∧ (∀ u ∈ news, u.oneCell' = true) ∧
      ∀ (i j : Nat) (y : AV), at2 els i j = some y → y.one = true ∧ Rd m A w y (news.getD (i * sz + j) Go.undef) := by
  have ones : ∀ news : List Value, news.length = els.length * sz → (∀ (i j : Nat) (y : AV), at2 els i j = some y → y.one = true ∧ Rd m A w y (news.getD (i * sz + j) Go.undef)) → ∀ u ∈ news, u.oneCell' = true := by
    intro news hl hn u hu
    obtain ⟨k, hk, rfl⟩ := List.getElem_of_mem hu
    obtain ⟨y, hy⟩ := flat_get hsz (k := k) (by omega)
    obtain ⟨h1, h2⟩ := hn _ _ _ hy
    have e1 : k / sz * sz + k % sz = k := by rw [Nat.mul_comm]; exact Nat.div_add_mod k sz
    rw [e1] at h2
    have := h2.one h1
    simpa [List.getD, hk] using this
  have nil : ∀ a cap, els = [] → v = .slice a 0 cap → ∃ a cap, v = .slice a els.length cap ∧ els.length ≤ cap ∧ (a = none → els = []) ∧ ∃ news : List Value, news.length = els.length * sz ∧ (∀ ad, a = some ad → ∀ j u, news[j]? = some u → w.cell? (ad.add j) = some u) ∧ (∀ u ∈ news, u.oneCell' = true) ∧
      ∀ (i j : Nat) (y : AV), at2 els i j = some y → y.one = true ∧ Rd m A w y (news.getD (i * sz + j) Go.undef) := by
    rintro a cap rfl rfl
    exact ⟨a, cap, rfl, Nat.zero_le _, fun _ => rfl, [], by simp, by intro ad _ j u hu; simp at hu, by intro u hu; simp at hu, by intro i j y hy; simp [at2] at hy⟩
  cases x with
  | emp =>
    simp only [elsA, Option.some.injEq] at he
    cases hr with | pure _ _ hr => cases hr with | emp a => exact nil a 0 he.symm rfl
  | lit s els' =>
    simp only [elsA, Option.some.injEq] at he
    subst he
    obtain ⟨rfl, a, cap, rfl⟩ | ⟨b, off, cap, vs, rfl, hA, hb, hc, hs, k1, kv, kr⟩ := hr.lit_inv
    · exact nil a cap rfl rfl
    · have hss : els' ≠ [] → s = sz := by
        intro hne
        obtain ⟨e, r, rfl⟩ := List.exists_cons_of_ne_nil hne
        rw [← hs e (by simp), hsz e (by simp)]
      by_cases hne : els' = []
      · subst hne; exact nil _ cap rfl rfl
      have := hss hne
      subst this
      have hl : ((List.range (els'.length * s)).map fun k => vs (k / s) (k % s)).length = els'.length * s := by simp
      have hg : ∀ (i j : Nat) (y : AV), at2 els' i j = some y → y.one = true ∧ Rd m A w y (((List.range (els'.length * s)).map fun k => vs (k / s) (k % s)).getD (i * s + j) Go.undef) := by
        intro i j y hy
        have hb2 := at2_len hy hsz
        refine ⟨k1 i j y hy, ?_⟩
        have e1 : (i * s + j) / s = i := by
          rw [Nat.mul_comm, Nat.mul_add_div (by omega), Nat.div_eq_of_lt hb2.2.1]; rfl
        have e2 : (i * s + j) % s = j := by rw [Nat.mul_comm, Nat.mul_add_mod, Nat.mod_eq_of_lt hb2.2.1]
        have : ((List.range (els'.length * s)).map fun k => vs (k / s) (k % s)).getD (i * s + j) Go.undef = vs i j := by
          simp [List.getD, hb2.2.2, e1, e2]
        rw [this]; exact .pure _ _ (kr i j y hy)
      refine ⟨some ⟨b, off, none⟩, cap, rfl, hc, (fun h => by cases h), (List.range (els'.length * s)).map fun k => vs (k / s) (k % s), hl, ?_, ones _ hl hg, hg⟩
      intro ad had j u hu
      cases had
      have hj : j < els'.length * s := by have := (List.getElem?_eq_some_iff.1 hu).1; rwa [hl] at this
      obtain ⟨y, hy⟩ := flat_get hsz hj
      have h1 := kv _ _ _ hy
      have e1 : j / s * s + j % s = j := by rw [Nat.mul_comm]; exact Nat.div_add_mod j s
      rw [e1] at h1
      rw [addr_add, h1]
      simp [hj] at hu
      rw [← hu]
  | own T s id i n =>
    have := hx T s id i n rfl
    subst this
    simp only [elsA] at he
    split at he
    · rename_i T' sz' els0 hh
      split at he
      · rename_i hc
        obtain ⟨rfl, rfl, hle⟩ := hc
        cases he
        rcases H.cells id _ _ _ hh with ⟨hv, rfl⟩ | ⟨b, cs, g1, g2, g3, g4, g5⟩
        · have hn : n = 0 := by simp at hle; omega
          subst hn
          have : ∃ a cap, v = .slice a 0 cap := by
            cases hr with
            | pure _ _ h => cases h
            | own _ _ _ _ _ b _ hm => rw [hv] at hm; cases hm
            | ownv _ _ _ _ a hm => exact ⟨a, 0, rfl⟩
            | ownd _ _ _ _ _ _ _ _ hm => rw [hv] at hm; cases hm
          obtain ⟨a, cap, rfl⟩ := this
          exact nil a cap (by simp) rfl
        · obtain ⟨cap, rfl, hn, -, hrow⟩ := hr.at_own g1
          have hlen : ((els0.drop i).take n).length = n := by simp; omega
          have hrow' : (i + cap) * sz' = cs.size := by rw [hrow]; simp [rowSize, g2]
          have hmul : (i + n) * sz' ≤ els0.length * sz' := Nat.mul_le_mul_right _ hle
          have hl : ((cs.toList.drop (i * sz')).take (n * sz')).length = ((els0.drop i).take n).length * sz' := by
            rw [hlen]
            rw [Nat.add_mul] at hmul
            simp
            omega
          have hg : ∀ (i' j : Nat) (y : AV), at2 ((els0.drop i).take n) i' j = some y → y.one = true ∧ Rd m A w y (((cs.toList.drop (i * sz')).take (n * sz')).getD (i' * sz' + j) Go.undef) := by
            intro i' j y hy
            obtain ⟨k1, k2⟩ := drop_at2 hy
            have hb := at2_len hy hsz
            obtain ⟨q1, q2⟩ := g5 _ _ _ k2
            refine ⟨q1, ?_⟩
            rw [hlen] at hb
            have : ((cs.toList.drop (i * sz')).take (n * sz')).getD (i' * sz' + j) Go.undef = cs.getD ((i + i') * sz' + j) Go.undef := by
              rw [List.getD, List.getElem?_take, if_pos hb.2.2, List.getElem?_drop]
              rw [show i * sz' + (i' * sz' + j) = (i + i') * sz' + j by rw [Nat.add_mul]; omega]
              simp
            rw [this]; exact q2
          refine ⟨some ⟨b, i * sz', none⟩, cap, by rw [hlen], by rw [hlen]; exact hn, (fun h => by cases h), (cs.toList.drop (i * sz')).take (n * sz'), hl, ?_, ones _ hl hg, hg⟩
          intro ad had j u hu
          cases had
          rw [addr_add]
          rw [List.getElem?_take] at hu
          split at hu
          · rw [List.getElem?_drop] at hu
            simp only [World.cell?, g2]
            simpa using hu
          · cases hu
      · cases he
    · cases he
  | _ => simp [elsA] at he

/-- len. -/
theorem op_len [Bk] [Ev] {t : TypeId} {x : Operand} {e : TypeId} {els : List (List AV)} (ho : o.op = .call { callee := .builtin .len, args := #[x], argTypes := #[t] }) (hu : P.underlying t = some (.slice e)) (he : elsA h (aev f x) = some els) : OpOk P o f h ⟨.c (.int .i64 els.length), [], idOf (aev f x)⟩ := by
  refine op_pure fun m A w a H F => ?_
  have h1 := F.eval x
  have hlen : ∃ ad cap, a.eval x = .slice ad els.length cap := by
    generalize aev f x = y at h1 he
    generalize a.eval x = v at h1
    cases y with
    | emp =>
      simp only [elsA, Option.some.injEq] at he; subst he
      cases h1 with | pure _ _ hr => cases hr with | emp a => exact ⟨a, 0, rfl⟩
    | lit s els' =>
      simp only [elsA, Option.some.injEq] at he; subst he
      obtain ⟨rfl, a, cap, rfl⟩ | ⟨b, off, cap, vs, rfl, -⟩ := h1.lit_inv
      · exact ⟨a, cap, rfl⟩
      · exact ⟨_, cap, rfl⟩
    | own T s id i n =>
      simp only [elsA] at he
      split at he
      · rename_i T' sz' els0 hh
        split at he
        · rename_i hc
          obtain ⟨rfl, rfl, hle⟩ := hc
          cases he
          have hlen : ((els0.drop i).take n).length = n := by simp; omega
          rw [hlen]
          rcases H.cells id _ _ _ hh with ⟨hv, rfl⟩ | ⟨b, cs, g1, g2, g3, g4, g5⟩
          · cases h1 with
            | pure _ _ h => cases h
            | own _ _ _ _ _ b _ hm => rw [hv] at hm; cases hm
            | ownv _ _ _ _ a hm => exact ⟨a, 0, rfl⟩
            | ownd _ _ _ _ _ _ _ _ hm => rw [hv] at hm; cases hm
          · obtain ⟨cap, rfl, -⟩ := h1.at_own g1
            exact ⟨_, cap, rfl⟩
        · cases he
      · cases he
    | _ => simp [elsA] at he
  obtain ⟨ad, cap, hv⟩ := hlen
  refine ⟨_, ?_, .pure _ _ (.c _)⟩
  simp [execOp, ho, resolve, invoke, builtin, hv, Builtin.len_, run_underlying hu, goInt]
theorem op_len_str [Bk] [Ev] {t : TypeId} {x : Operand} {s : ByteArray} (ho : o.op = .call { callee := .builtin .len, args := #[x], argTypes := #[t] }) (hu : P.underlying t = some .string) (hx : aev f x = .c (.string s)) : OpOk P o f h ⟨.c (.int .i64 s.size), [], []⟩ := by
  refine op_pure fun m A w a H F => ?_
  have h1 := F.eval x
  rw [hx] at h1
  have e1 := h1.c_inv
  refine ⟨_, ?_, .pure _ _ (.c _)⟩
  simp [execOp, ho, resolve, invoke, builtin, e1, Builtin.len_, run_underlying hu, goInt]

theorem op_max2 [Bk] [Ev] {ts : Array TypeId} {x y : Operand} {k k' : IntKind} {p q : Int} (ho : o.op = .call { callee := .builtin .max, args := #[x, y], argTypes := ts }) (hx : aev f x = .c (.int k p)) (hy : aev f y = .c (.int k' q)) : OpOk P o f h ⟨.c (.int k (if q > p then q else p)), [], []⟩ := by
  refine op_pure fun m A w a H F => ?_
  have h1 := F.eval x
  rw [hx] at h1
  have h2 := F.eval y
  rw [hy] at h2
  refine ⟨_, ?_, .pure _ _ (.c _)⟩
  simp [execOp, ho, resolve, invoke, builtin, h1.c_inv, h2.c_inv, Builtin.max_, Builtin.max2]
theorem op_min2 [Bk] [Ev] {ts : Array TypeId} {x y : Operand} {k k' : IntKind} {p q : Int} (ho : o.op = .call { callee := .builtin .min, args := #[x, y], argTypes := ts }) (hx : aev f x = .c (.int k p)) (hy : aev f y = .c (.int k' q)) : OpOk P o f h ⟨.c (.int k (if q < p then q else p)), [], []⟩ := by
  refine op_pure fun m A w a H F => ?_
  have h1 := F.eval x
  rw [hx] at h1
  have h2 := F.eval y
  rw [hy] at h2
  refine ⟨_, ?_, .pure _ _ (.c _)⟩
  simp [execOp, ho, resolve, invoke, builtin, h1.c_inv, h2.c_inv, Builtin.min_, Builtin.min2]
theorem op_max3 [Bk] [Ev] {ts : Array TypeId} {x y z : Operand} {k k' k'' : IntKind} {p q r : Int} (ho : o.op = .call { callee := .builtin .max, args := #[x, y, z], argTypes := ts }) (hx : aev f x = .c (.int k p)) (hy : aev f y = .c (.int k' q)) (hz : aev f z = .c (.int k'' r)) : OpOk P o f h ⟨.c (.int k (if r > (if q > p then q else p) then r else (if q > p then q else p))), [], []⟩ := by
  refine op_pure fun m A w a H F => ?_
  have h1 := F.eval x
  rw [hx] at h1
  have h2 := F.eval y
  rw [hy] at h2
  have h3 := F.eval z
  rw [hz] at h3
  refine ⟨_, ?_, .pure _ _ (.c _)⟩
  simp [execOp, ho, resolve, invoke, builtin, h1.c_inv, h2.c_inv, h3.c_inv, Builtin.max_, Builtin.max2]

/-- x[:0:0]: nothing, of nothing. -/
theorem op_slice_nil [Bk] [Ev] {t : TypeId} {x : Operand} {k k' : IntKind} {hi mx : Operand} {els : List (List AV)} (ho : o.op = .slice t x none (some hi) (some mx)) (hu : P.underlying t = some (.slice (P.elem t))) (hs : (P.info? (P.elem t)).isSome = true) (he : elsA h (aev f x) = some els) (h0 : aev f hi = .c (.int k 0)) (h1 : aev f mx = .c (.int k' 0)) :
    OpOk P o f h ⟨.emp, [], idOf (aev f x)⟩ := by
  refine op_pure fun m A w a H F => ?_
  have g1 := F.eval hi
  rw [h0] at g1
  have g2 := F.eval mx
  rw [h1] at g2
  have g3 := F.eval x
  have hv : ∃ ad n cap, a.eval x = .slice ad n cap := by
    generalize aev f x = y at g3 he
    generalize a.eval x = v at g3
    cases y with
    | emp => cases g3 with | pure _ _ hr => cases hr with | emp a => exact ⟨a, 0, 0, rfl⟩
    | lit s els' =>
      obtain ⟨rfl, a, cap, rfl⟩ | ⟨b, off, cap, vs, rfl, -⟩ := g3.lit_inv
      · exact ⟨a, _, cap, rfl⟩
      · exact ⟨_, _, cap, rfl⟩
    | own T s id i n =>
      cases g3 with
      | pure _ _ h => cases h
      | own _ _ _ _ _ b cap => exact ⟨_, _, cap, rfl⟩
      | ownv _ _ _ _ a => exact ⟨a, _, _, rfl⟩
      | ownd => exact ⟨_, _, _, rfl⟩
    | _ => simp [elsA] at he
  obtain ⟨ad, n, cap, hv⟩ := hv
  cases hp : P.info? (P.elem t) with
  | none => simp [hp] at hs
  | some ti =>
    refine ⟨.slice (if (0 : Nat) = 0 then ad else ad.map (·.add (0 * ti.size))) 0 0, ?_, ?_⟩
    · have r1 := run_sliceAt_slice (P := P) w t (.slice ad n cap) none (some (.int k 0)) (some (.int k' 0)) hu
      have r2 := run_slice_hm (P := P) w t ad n cap hu k k' 0 0 (by omega) (by omega) (by omega)
      rw [r2] at r1
      simp [execOp, ho, hv, g1.c_inv, g2.c_inv, r1, sizeOf, typeInfo, hp, sliced]
    · exact .pure _ _ (.emp _)
theorem op_len_row [Bk] [Ev] {t : TypeId} {x : Operand} {e : TypeId} {n : Poly} {xs : List Poly} (ho : o.op = .call { callee := .builtin .len, args := #[x], argTypes := #[t] }) (hu : P.underlying t = some (.slice e)) (hx : aev f x = .row n xs) : OpOk P o f h ⟨mkE n, [], []⟩ := by
  refine op_pure fun m A w a H F => ?_
  have h1 := F.eval x
  rw [hx] at h1
  refine ⟨_, ?_, .pure _ _ (RdL_mkE _ w n)⟩
  obtain ⟨hz, ad, cap, hv⟩ | ⟨b, off, len, cap, hv, hl, -⟩ := h1.row_inv
  · simp [execOp, ho, resolve, invoke, builtin, hv, Builtin.len_, run_underlying hu, goInt, hz]
  · simp [execOp, ho, resolve, invoke, builtin, hv, Builtin.len_, run_underlying hu, goInt, hl]
/-- The greater one. -/
def symMax [Bk] (p q : Poly) : Option Poly := match ltB (psub p q) with
  | some b => some (if b then q else p)
  | none => findD 2 p q Bk.defs
theorem symMax_ok [Bk] [Ev] {p q r : Poly} (h : symMax p q = some r) : pev Ev.rho r = if pev Ev.rho q > pev Ev.rho p then pev Ev.rho q else pev Ev.rho p := by
  unfold symMax at h
  split at h
  · rename_i b hb
    cases h
    have k := ltB_ok hb
    rw [pev_psub] at k
    cases b
    · have := of_decide_eq_false k.symm
      show pev Ev.rho p = _
      split <;> omega
    · have := of_decide_eq_true k.symm
      show pev Ev.rho q = _
      split <;> omega
  · have hd : pev Ev.rho r = max (pev Ev.rho p) (pev Ev.rho q) := (Ev.defs _ (findD_ok h)).2.2 rfl
    rw [hd]
    split <;> omega
def symMin [Bk] (p q : Poly) : Option Poly := (ltB (psub q p)).map fun b => if b then q else p
theorem symMin_ok [Bk] [Ev] {p q r : Poly} (h : symMin p q = some r) : pev Ev.rho r = if pev Ev.rho q < pev Ev.rho p then pev Ev.rho q else pev Ev.rho p := by
  unfold symMin at h
  rw [Option.map_eq_some_iff] at h
  obtain ⟨b, hb, rfl⟩ := h
  have k := ltB_ok hb
  rw [pev_psub] at k
  cases b
  · have := of_decide_eq_false k.symm
    show pev Ev.rho p = _
    split <;> omega
  · have := of_decide_eq_true k.symm
    show pev Ev.rho q = _
    split <;> omega
theorem op_symMax2 [Bk] [Ev] {ts : Array TypeId} {x y : Operand} {p q r : Poly} (ho : o.op = .call { callee := .builtin .max, args := #[x, y], argTypes := ts }) (hx : toP (aev f x) = some p) (hy : toP (aev f y) = some q) (hr : symMax p q = some r) : OpOk P o f h ⟨mkE r, [], []⟩ := by
  refine op_pure fun m A w a H F => ?_
  have e1 := toP_ok hx (F.eval x)
  have e2 := toP_ok hy (F.eval y)
  refine ⟨_, ?_, .pure _ _ (RdL_mkE _ w r)⟩
  rw [symMax_ok hr]
  simp [execOp, ho, resolve, invoke, builtin, e1, e2, Builtin.max_, Builtin.max2]
theorem op_symMin2 [Bk] [Ev] {ts : Array TypeId} {x y : Operand} {p q r : Poly} (ho : o.op = .call { callee := .builtin .min, args := #[x, y], argTypes := ts }) (hx : toP (aev f x) = some p) (hy : toP (aev f y) = some q) (hr : symMin p q = some r) : OpOk P o f h ⟨mkE r, [], []⟩ := by
  refine op_pure fun m A w a H F => ?_
  have e1 := toP_ok hx (F.eval x)
  have e2 := toP_ok hy (F.eval y)
  refine ⟨_, ?_, .pure _ _ (RdL_mkE _ w r)⟩
  rw [symMin_ok hr]
  simp [execOp, ho, resolve, invoke, builtin, e1, e2, Builtin.min_, Builtin.min2]
end
end Go.Proofs.YtjbgfhafinfjbaaGreat.Mc
