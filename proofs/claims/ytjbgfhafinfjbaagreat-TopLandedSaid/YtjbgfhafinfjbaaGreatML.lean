/-
  A machine of plain data beside the model: loops over functions: the record, a round, the loop. No program in sight.
-/
import Derived.Test.YtjbgfhafinfjbaaGreatMO
set_option linter.unusedVariables false
set_option linter.unusedSimpArgs false
namespace Go.Proofs.YtjbgfhafinfjbaaGreat.Mc
open Go.RowKit

section
variable {P : Program} {h : AH}

theorem HRel.loop_put [Bk] [Ev] {m : Nat → St} {A : Nat → Prop} {w : World} (H : HRel m A h w) {id b : Nat} {st st' : LS} {f : List AV} {ps : Array Tmp} {as bd : Code} {L L' : Loop} (hh : h id = .lp st f ps as bd) (hb : m id = .at b) (hL : w.heap[b]? = some (.loop L)) (h1 : L'.state = st'.st) (h2 : L'.pending = st'.pe) (h3 : L'.params = L.params) (h4 : L'.assign = L.assign) (h5 : L'.body = L.body) (h6 : L'.tmps = L.tmps) :
    HRel m A (bset h id (.lp st' f ps as bd)) (w.putObj b (.loop L')) ∧ Ext m w m (w.putObj b (.loop L')) := by
  have hsame : (w.putObj b (.loop L')).heap[b]? = some (.loop L') := World.putObj_heap_same (Array.getElem?_eq_some_iff.1 hL).1
  obtain ⟨b', hb', L0, k1, k2, k3, k4, k5, k6, k7, k8⟩ := H.loops id st f ps as bd hh
  rw [hb] at hb'
  cases hb'
  rw [hL] at k1
  cases k1
  exact H.other_put hh rfl rfl hb hL (by simp [rowSize, hsame, hL]) fun E => ⟨L', hsame, h1, h2, h3.trans k4, h4.trans k5, h5.trans k6, by rw [h6]; exact k7, fun i x hx => by rw [h6]; exact (k8 i x hx).ext E⟩

theorem HRel.loop_new [Bk] [Ev] {m : Nat → St} {A : Nat → Prop} {w : World} (H : HRel m A h w) {id : Nat} {f : List AV} {L : Loop} (hid : h id = .no) (h1 : L.state = .ready) (h2 : L.pending = none) (h3 : L.tmps.size = f.length) (h4 : ∀ (i : Nat) (x : AV), f[i]? = some x → Rd m A w x (L.tmps.getD i Go.undef)) :
    HRel (sset m id (.at w.heap.size)) A (bset h id (.lp .ready f L.params L.assign L.body)) (w.alloc (.loop L)) ∧ Ext m w (sset m id (.at w.heap.size)) (w.alloc (.loop L)) :=
  H.other_new hid rfl fun E => ⟨L, World.alloc_heap_new w _, h1, h2, rfl, rfl, rfl, h3, fun i x hx => (h4 i x hx).ext E⟩

/-- The record is done with. -/
theorem HRel.loop_over [Bk] [Ev] {m : Nat → St} {A : Nat → Prop} {w : World} (H : HRel m A h w) {id b : Nat} {st : LS} {f : List AV} {ps : Array Tmp} {as bd : Code} {L : Loop} (hh : h id = .lp st f ps as bd) (hb : m id = .at b) (hL : w.heap[b]? = some (.loop L)) (o : Obj) :
    HRel (sset m id .dead) A (bset h id .dead) (w.putObj b o) ∧ Ext m w (sset m id .dead) (w.putObj b o) := by
  have hsz : (w.putObj b o).heap.size = w.heap.size := World.putObj_size
  have hot : ∀ k, k ≠ b → (w.putObj b o).heap[k]? = w.heap[k]? := fun k e => World.putObj_heap_other e
  have sat : ∀ k b', sset m id .dead k = .at b' → k ≠ id ∧ m k = .at b' := by
    intro k b' hk
    unfold sset at hk
    split at hk
    · cases hk
    · rename_i hne; exact ⟨hne, hk⟩
  have nb : ∀ k b', k ≠ id → m k = .at b' → b' ≠ b := by
    rintro k b' hne hk rfl
    exact hne (H.inj k id b' hk hb)
  have E : Ext m w (sset m id .dead) (w.putObj b o) := by
    refine ⟨rfl, rfl, rfl, by rw [hsz]; exact Nat.le_refl _, ?_, ?_, ?_, ?_, ?_⟩
    · intro k b' hk
      unfold sset; split
      · exact .inr rfl
      · exact .inl hk
    · intro k hk
      unfold sset; split
      · rfl
      · exact hk
    · intro k hk
      unfold sset; split
      · exact .inr rfl
      · exact .inl hk
    · intro k hk hu
      exact ⟨fun id' h1 => hu id' (sat id' k h1).2, hot k (by rintro rfl; exact hu id hb)⟩
    · intro id' k h1 h2
      obtain ⟨h3, h4⟩ := sat id' k h2
      simp [rowSize, hot k (nb id' k h3 h4)]
  refine ⟨⟨fun k b' hk => H.out k b' (sat k b' hk).2, fun k hk => by rw [hsz]; exact H.old k hk, ?_, ?_, ?_, fun i j b' hi hj => H.inj i j b' (sat i b' hi).2 (sat j b' hj).2, H.glob.ext H.out E, H.others_to E fun k B hk hB => ?_⟩, E⟩
  · intro k hk
    unfold bset at hk; unfold sset; split at hk
    · cases hk
    · rename_i hne; rw [if_neg hne]; exact H.no k hk
  · intro k hk
    unfold bset at hk; unfold sset; split at hk
    · rename_i he; rw [if_pos he]
    · rename_i hne; rw [if_neg hne]; exact H.dead k hk
  · intro k T sz els hk
    unfold bset at hk; split at hk
    · cases hk
    · rename_i hne
      obtain ⟨g1, g2⟩ | ⟨b', cs, g1, g2, g3, g4, g5⟩ := H.cells k T sz els hk
      · exact .inl ⟨by simp [sset, hne, g1], g2⟩
      · exact .inr ⟨b', cs, by simp [sset, hne, g1], (hot b' (nb k b' hne g1)).trans g2, g3, g4, fun i j x hx => ⟨(g5 i j x hx).1, (g5 i j x hx).2.ext E⟩⟩
  · unfold bset at hk; split at hk
    · subst hk; exact absurd hB (by simp [Blk.other])
    · rename_i hne
      exact ⟨hk, fun b' hb' => ⟨by simp [sset, hne, hb'], hot b' (nb k b' hne hb')⟩⟩

/-- The frame of a round: the arguments laid in. -/
def putsA (f : List AV) (ps : Array Tmp) (args : List AV) : List AV := (ps.toList.zip args).foldl (fun f q => f.set q.1 q.2) f
theorem putsA_ok [Bk] [Ev] {m : Nat → St} {A : Nat → Prop} {w : World} : ∀ (ps : List Tmp) (args : List AV) (vs : List Value) (f : List AV) (ts : Array Value), ts.size = f.length → (∀ (i : Nat) (x : AV), f[i]? = some x → Rd m A w x (ts.getD i Go.undef)) → vs.length = args.length → (∀ (i : Nat) (x : AV), args[i]? = some x → Rd m A w x (vs.getD i Go.undef)) →
    ((ps.zip vs).foldl (fun t q => t.setIfInBounds q.1 q.2) ts).size = ((ps.zip args).foldl (fun f q => f.set q.1 q.2) f).length ∧
    ∀ (i : Nat) (x : AV), ((ps.zip args).foldl (fun f q => f.set q.1 q.2) f)[i]? = some x → Rd m A w x (((ps.zip vs).foldl (fun t q => t.setIfInBounds q.1 q.2) ts).getD i Go.undef)
  | [], _, _, f, ts, h1, h2, _, _ => ⟨h1, h2⟩
  | p :: ps, [], [], f, ts, h1, h2, _, _ => ⟨h1, h2⟩
  | p :: ps, [], v :: vs, f, ts, _, _, h3, _ => by simp at h3
  | p :: ps, x :: xs, [], f, ts, _, _, h3, _ => by simp at h3
  | p :: ps, x :: xs, v :: vs, f, ts, h1, h2, h3, h4 => by
    have hx := h4 0 x rfl
    simp only [List.zip_cons_cons, List.foldl_cons]
    refine putsA_ok ps xs vs (f.set p x) (ts.setIfInBounds p v) (by simp [h1]) ?_ (by simpa using h3) (fun i y hy => h4 (i + 1) y (by simpa using hy))
    intro i y hy
    rw [List.getElem?_set] at hy
    split at hy
    · rename_i e
      subst e
      split at hy
      · rename_i hl
        cases hy
        have : p < ts.size := by rw [h1]; exact hl
        simp [this]
        simpa using hx
      · cases hy
    · rename_i e
      have : (ts.setIfInBounds p v).getD i Go.undef = ts.getD i Go.undef := by
        simp [Array.getElem?_setIfInBounds_ne e]
      rw [this]
      exact h2 i y hy
theorem zip_foldl {ps : Array Tmp} {vs : Array Value} {ts : Array Value} : (ps.zip vs).foldl (fun t (p, v) => t.setIfInBounds p v) ts = (ps.toList.zip vs.toList).foldl (fun t q => t.setIfInBounds q.1 q.2) ts := by
  rw [← Array.foldl_toList, Array.toList_zip]

/-- A call of yield: a round. -/
def AYields [Bk] [Ev] (P : Program) (id : Nat) (args : List AV) (h : AH) (R : AV → AH → Prop) : Prop :=
  ∀ r m A w u (vs : Array Value), HRel m A h w → Rd m A w (.yld id) u → vs.size = args.length → (∀ (i : Nat) (x : AV), args[i]? = some x → Rd m A w x (vs.getD i Go.undef)) →
    ∃ b fn tmps as bd, u = .func (.yield b) #[] #[] ∧ (Instr.yield b vs).run P w = .ok (.round b fn tmps as bd) w ∧
      RoundIn (fw r) 8 P b fn tmps as bd w fun e w' => ∃ v u m' h', e = .returned v ∧ R u h' ∧ HRel m' A h' w' ∧ Rd m' A w' u v ∧ Ext m w m' w'
theorem AYields.mono [Bk] [Ev] {id : Nat} {args : List AV} {R R' : AV → AH → Prop} (k : AYields P id args h R) (hr : ∀ v h, R v h → R' v h) : AYields P id args h R' := by
  intro r m A w u vs H hu hl hv
  obtain ⟨b, fn, tmps, as, bd, h1, h2, h3⟩ := k r m A w u vs H hu hl hv
  exact ⟨b, fn, tmps, as, bd, h1, h2, h3.mono fun e w' ⟨v, u, m', h', h1, h2, h3⟩ => ⟨v, u, m', h', h1, hr _ _ h2, h3⟩⟩

theorem Rd.at_yld [Bk] [Ev] {m : Nat → St} {A : Nat → Prop} {w : World} {id b : Nat} {u : Value} (h : Rd m A w (.yld id) u) (g : m id = .at b) : u = .func (.yield b) #[] #[] := by
  cases h with
  | pure _ _ h => cases h
  | yld _ b' hm => rw [g] at hm; cases hm; rfl
  | yldd _ _ hm => rw [g] at hm; cases hm

/-- What a round's end says. -/
def turnS (R : AV → AH → Prop) (id : Nat) : Exit → List AV → AH → Prop
  | .normal, _, h => ∃ f ps as bd, h id = .lp .busy f ps as bd ∧ R (.c (.bool true)) (bset h id (.lp .ready f ps as bd))
  | .ret, _, h => ∃ f ps as bd, h id = .lp .busy f ps as bd ∧ R (.c (.bool false)) (bset h id (.lp (.done .ret) f ps as bd))
  | .exit i, _, h => ∃ f ps as bd, h id = .lp .busy f ps as bd ∧ R (.c (.bool false)) (bset h id (.lp (.done (.exit i)) f ps as bd))
  | _, _, _ => False
/-- A round, out of the walk of its two parts. -/
theorem AYields.of_body [Bk] [Ev] {id : Nat} {args : List AV} {f : List AV} {ps : Array Tmp} {as bd : Code} {R : AV → AH → Prop} (hh : h id = .lp .ready f ps as bd) (hl : args.length = ps.size)
    (k : AWP P false as (fun e f1 h1 => e = .normal ∧ ∃ f' ps' as' bd', h1 id = .lp .ready f' ps' as' bd' ∧ AWP P false bd (turnS R id) f1 (bset h1 id (.lp .busy f' ps' as' bd'))) (putsA f ps args) h) : AYields P id args h R := by
  intro r m A w u vs H hu hvl hv
  obtain ⟨b, hb, L, k1, k2, k3, k4, k5, k6, k7, k8⟩ := H.loops id _ f ps as bd hh
  have hps : vs.size = L.params.size := by rw [k4, hvl, hl]
  refine ⟨b, L.fn, _, L.assign, L.body, hu.at_yld hb, run_yield k1 hps, ?_⟩
  have hfin : RoundIn (fw r) 9 P b L.fn ((L.params.zip vs).foldl (fun t (p, v) => t.setIfInBounds p v) L.tmps) L.assign L.body w fun e w' => ∃ v u m' h', e = .returned v ∧ R u h' ∧ HRel m' A h' w' ∧ Rd m' A w' u v ∧ Ext m w m' w' := by
    refine roundIn_of_wpIn trivial ?_
    rw [k4, k5, k6, zip_foldl]
    obtain ⟨q1, q2⟩ := putsA_ok (m := m) (A := A) (w := w) ps.toList args vs.toList f L.tmps k7 k8 (by simpa using hvl) (fun i x hx => by
      have := hv i x hx
      simpa [List.getD, Array.getD_eq_getD_getElem?] using this)
    refine wpIn_mono (k (some b) m A w _ (fun e => by cases e) H ⟨q1, q2, Marks.nil _ _⟩) ?_
    rintro e a1 w1 ⟨m1, f1, h1, ⟨rfl, f', ps', as', bd', hh1, kb⟩, H1, F1, E1, N1⟩
    obtain ⟨b1, hb1, L1, j1, j2, j3, j4, j5, j6, j7, j8⟩ := H1.loops id _ f' ps' as' bd' hh1
    have eb : b1 = b := by
      rcases E1.at_ id b hb with h2 | h2
      · rw [h2] at hb1; cases hb1; rfl
      · rw [h2] at hb1; cases hb1
    subst eb
    show ∃ w₂, _
    refine ⟨_, run_beginRound j1 j2, ?_⟩
    obtain ⟨H2, E2⟩ := H1.loop_put (st' := .busy) hh1 hb1 j1 (L' := { L1 with state := .busy }) rfl j3 rfl rfl rfl rfl
    refine wpIn_mono (kb (some b1) m1 A _ a1 (fun e => by cases e) H2 (F1.ext E2)) ?_
    have E12 := E1.trans E2
    have go : ∀ (f : List AV) (ps : Array Tmp) (as bd : Code) (jump : Option Code) (st : LS) (w3 : World) (m3 : Nat → St) (h3 : AH), st.st = (if jump.isNone then .ready else .done) → st.pe = jump → h3 id = .lp .busy f ps as bd → HRel m3 A h3 w3 → Ext m1 (w1.putObj b1 (.loop { L1 with state := .busy })) m3 w3 → R (.c (.bool jump.isNone)) (bset h3 id (.lp st f ps as bd)) →
        ∃ v w', (Instr.endRound b1 jump).run P w3 = .ok v w' ∧ ∃ v_1 u m' h', Ending.returned v = .returned v_1 ∧ R u h' ∧ HRel m' A h' w' ∧ Rd m' A w' u v_1 ∧ Ext m w m' w' := by
      intro f ps as bd jump st w3 m3 h3 e1 e2 hh3 H3 E3 hR
      obtain ⟨b3, hb3, L3, i1, i2, i3, i4, i5, i6, i7, i8⟩ := H3.loops id _ f ps as bd hh3
      have eb : b3 = b1 := by
        rcases E3.at_ id b1 hb1 with h2 | h2
        · rw [h2] at hb3; cases hb3; rfl
        · rw [h2] at hb3; cases hb3
      subst eb
      obtain ⟨H4, E4⟩ := H3.loop_put (st' := st) hh3 hb3 i1 (L' := { L3 with state := if jump.isNone then .ready else .done, pending := jump }) e1.symm e2.symm rfl rfl rfl rfl
      exact ⟨_, _, run_endRound jump i1, _, _, m3, _, rfl, hR, H4, .pure _ _ (.c _), (E12.trans E3).trans E4⟩
    rintro e a3 w3 ⟨m3, f3, h3, q, H3, F3, E3, N3⟩
    cases e with
    | normal => obtain ⟨f, ps, as, bd, q1, q2⟩ := q; exact go f ps as bd none .ready w3 m3 h3 rfl rfl q1 H3 E3 q2
    | ret => obtain ⟨f, ps, as, bd, q1, q2⟩ := q; exact go f ps as bd (some .ret) (.done .ret) w3 m3 h3 rfl rfl q1 H3 E3 q2
    | exit i => obtain ⟨f, ps, as, bd, q1, q2⟩ := q; exact go f ps as bd (some (.exit i)) (.done (.exit i)) w3 m3 h3 rfl rfl q1 H3 E3 q2
    | _ => exact q.elim
  exact ⟨trivial, fun c cs _ => hfin.2 c cs (fun d hd => by cases hd)⟩

/-- Which loop an operation yields to, with what. -/
def yieldA (ρ : Operand → AV) : Op → Option (Nat × List AV)
  | .call { callee := .value g, args, .. } => match ρ g with
    | .yld id => some (id, args.toList.map ρ)
    | _ => none
  | _ => none
theorem StepOk.yields [Bk] [Ev] {o : Oper} {f : List AV} {id : Nat} {args : List AV} {R : AV → AH → Prop} (hc : yieldA (aev f) o.op = some (id, args)) (hR : AYields P id args h R) : StepOk P o f h R := by
  intro r' m A w a H F K Q hK
  unfold yieldA at hc
  split at hc
  · rename_i g cargs ctys ho
    split at hc
    · rename_i id' hg
      simp only [Option.some.injEq, Prod.mk.injEq] at hc
      obtain ⟨rfl, rfl⟩ := hc
      have h1 := F.eval g
      rw [hg] at h1
      obtain ⟨b, fn, tmps, as, bd, e1, e2, e3⟩ := hR r' m A w _ (cargs.map a.eval) H h1 (by simp) (fun i x hx => map_rel F cargs i x hx)
      have hexec : (execOp a.eval o).run P w = .ok (.round b fn tmps as bd) w := by
        simp only [execOp, ho, resolve, Sem.run_bind]
        simp only [e1, Deferred.ofValue]
        simp [invoke, e2]
      refine wpIn_round hexec (e3.mono ?_)
      rintro e w' ⟨v, u, m', h', rfl, hRu, H', hx, E⟩
      exact ⟨v, rfl, hK u h' v w' m' hRu H' hx E⟩
    · cases hc
  · cases hc

/-- What is left of a loop over a function when its function is back. -/
def overA (Q : Exit → List AV → AH → Prop) (f : List AV) (id : Nat) (h : AH) : Prop :=
  match h id with
  | .lp .ready _ _ _ _ => Q .normal f (bset h id .dead)
  | .lp (.done .ret) _ _ _ _ => Q .ret f (bset h id .dead)
  | .lp (.done (.exit i)) _ _ _ _ => Q (.exit i) f (bset h id .dead)
  | _ => False
theorem AWP.rangeFunc [Bk] [Ev] {Q : Exit → List AV → AH → Prop} {f : List AV} {g : Operand} {ps : Array Tmp} {as bd : Code} {captured : List AV} {k : FuncId} {fn : Func} {c : Code} {id : Nat} (hg : aev f g = .fn (.func k) [] captured) (hk : P.funcs[k]? = some fn) (hb : fn.body = some c) (hn : (fn.name == "runtime.NumGoroutine") = false) (hid : h id = .no)
    (hc : ACalls P k (.yld id :: captured) (bset h id (.lp .ready f ps as bd)) (fun _ h' => overA Q f id h')) : AWP P true (.rangeFunc g ps as bd) Q f h := by
  intro r m A w a hr H F
  obtain rfl := hr rfl
  have h1 := F.eval g
  rw [hg] at h1
  obtain ⟨us, hv, hl2, r2⟩ : ∃ us, a.eval g = .func (.func k) #[] us ∧ us.size = captured.length ∧ (∀ (i : Nat) (x : AV), captured[i]? = some x → Rd m A w x (us.getD i Go.undef)) := by
    generalize a.eval g = u at h1
    cases h1 with
    | pure _ _ h => cases h with | fn _ _ _ vs us hl hk' h g => exact ⟨us, by rw [Array.eq_empty_of_size_eq_zero hl], hk', fun i x hx => .pure _ _ (g i x hx)⟩
    | fn _ _ _ vs us hl hk' h g => exact ⟨us, by rw [Array.eq_empty_of_size_eq_zero hl], hk', g⟩
  refine wpIn_rangeFunc ?_
  intro fn' _
  have b1 : Below w.heap.size w (w.alloc (.deferred (some []))) := (Below.refl _ _).alloc (Nat.le_refl _) _
  have H1 := H.below b1
  have E1 := Ext.of_below H b1
  have F1 := F.ext E1
  obtain ⟨H2, E2⟩ := H1.loop_new (id := id) (f := f) (L := { state := .ready, pending := none, fn := fn', tmps := a.tmps, params := ps, assign := as, body := bd, defers := w.heap.size }) hid rfl rfl F1.size F1.rd
  have hsz : (w.alloc (.deferred (some []))).heap.size = w.heap.size + 1 := World.size_alloc _ _
  have E12 := E1.trans E2
  rw [hsz] at H2 E2 E12
  have hDW : ((w.alloc (.deferred (some []))).alloc (.loop { state := .ready, pending := none, fn := fn', tmps := a.tmps, params := ps, assign := as, body := bd, defers := w.heap.size })).heap[w.heap.size]? = some (.deferred (some [])) :=
    (Below.heap_alloc _ _ _ (by simp)).trans (World.alloc_heap_new w _)
  have hrun := run_enterLoop_outer (P := P) (w := w) fn' a.tmps ps as bd
  have hsz1 : w.heap.size < ((w.alloc (.deferred (some []))).alloc (.loop { state := .ready, pending := none, fn := fn', tmps := a.tmps, params := ps, assign := as, body := bd, defers := w.heap.size })).heap.size := by simp; omega
  generalize (w.alloc (.deferred (some []))).alloc (.loop { state := .ready, pending := none, fn := fn', tmps := a.tmps, params := ps, assign := as, body := bd, defers := w.heap.size }) = W1 at H2 E2 E12 hDW hrun hsz1
  have hres : (resolve a.eval (rangeCall g (w.heap.size + 1)) 0).run P W1 = .ok { target := .fn (.func k) us, args := #[.func (.yield (w.heap.size + 1)) #[] #[]] } W1 := by
    simp only [resolve, hv]
    simp [go_sem]
  have hinv : (invoke (.fn (.func k) us) #[.func (.yield (w.heap.size + 1)) #[] #[]]).run P W1 = .ok (.enter k (#[.func (.yield (w.heap.size + 1)) #[] #[]] ++ us)) W1 := by
    simp [invoke, callFunc_enter hk hb hn]
  have hcall := hc _ A _ (#[.func (.yield (w.heap.size + 1)) #[] #[]] ++ us) H2 (by simp [hl2]; omega) (by
    intro i x hx
    cases i with
    | zero =>
      simp at hx
      subst hx
      have := Rd.yld (m := sset m id (.at (w.heap.size + 1))) (A := A) (w := W1) id (w.heap.size + 1) (by simp [sset])
      have e : (#[Value.func (.yield (w.heap.size + 1)) #[] #[]] ++ us).getD 0 Go.undef = Value.func (.yield (w.heap.size + 1)) #[] #[] := by simp [Array.getElem?_append]
      rw [e]; exact this
    | succ i =>
      have := (r2 i x (by simpa using hx)).ext E12
      have e : (#[Value.func (.yield (w.heap.size + 1)) #[] #[]] ++ us).getD (i + 1) Go.undef = us.getD i Go.undef := by simp [Array.getElem?_append]
      rw [e]; exact this)
  refine ⟨w.heap.size + 1, [mark w.heap.size], W1, _, W1, k, _, W1, hrun, hres, fun _ _ => trivial, hinv, fun h => (by cases h), fw_calls.2 (hcall.mono ?_)⟩
  · rintro e w3 ⟨v, u, m', h', rfl, hq, H', hx, E'⟩
    have hat : sset m id (.at (w.heap.size + 1)) id = .at (w.heap.size + 1) := by simp [sset]
    have hDu : ∀ id', sset m id (.at (w.heap.size + 1)) id' ≠ .at w.heap.size := by
      intro id' hid'
      unfold sset at hid'
      split at hid'
      · injection hid' with e; omega
      · have := H.lt hid'; omega
    have over : ∀ (st : LS) (f0 : List AV) (ps0 : Array Tmp) (as0 bd0 : Code), h' id = .lp st f0 ps0 as0 bd0 → st.st ≠ .busy → ∃ w4, (Instr.endLoop (w.heap.size + 1)).run P w3 = .ok st.pe w4 ∧ ∀ e, Q e f (bset h' id .dead) → Lift Q m A w a e { a with defers := [mark w.heap.size] ++ a.defers } w4 := by
      intro st f0 ps0 as0 bd0 hl hst
      obtain ⟨b, hb', L, i1, i2, i3, i4, i5, i6, i7, i8⟩ := H'.loops id _ _ _ _ _ hl
      have eb : b = w.heap.size + 1 := by
        rcases E'.at_ id _ hat with h2 | h2
        · rw [h2] at hb'; cases hb'; rfl
        · rw [h2] at hb'; cases hb'
      subst eb
      obtain ⟨H4, E4⟩ := HRel.loop_over H' hl hb' i1 (.loop { L with state := .exhausted })
      have E0 := (E12.trans E').trans E4
      refine ⟨_, by rw [← i3]; exact run_endLoop i1 (by rw [i2]; exact hst), ?_⟩
      intro e hQ
      refine ⟨_, f, _, hQ, H4, ⟨F.size, fun i x hx => (F.rd i x hx).ext E0, ?_⟩, E0, ?_⟩
      · obtain ⟨d1, d2⟩ := (E'.trans E4).un w.heap.size hsz1 hDu
        refine (F.defers.ext E0).push (d2.trans hDW) d1 ?_
        intro d hd he
        obtain ⟨Ds, g1, g2, g3⟩ := F.defers
        rw [g1] at hd
        obtain ⟨D', hD', rfl⟩ := List.mem_map.1 hd
        have hlt : D' < w.heap.size := (Array.getElem?_eq_some_iff.1 (g3 D' hD').1).1
        simp only [mark, Deferred.mk.injEq, Target.collected.injEq] at he
        omega
      · intro d hd
        rcases List.mem_append.1 hd with h2 | h2
        · simp only [List.mem_singleton] at h2
          subst h2
          exact .inr ⟨w.heap.size, rfl, Nat.le_refl _⟩
        · exact .inl h2
    show ∃ jump w₄, _
    unfold overA at hq
    split at hq
    · rename_i f0 ps0 as0 bd0 hl
      obtain ⟨w4, s1, s2⟩ := over .ready f0 ps0 as0 bd0 hl (by simp [LS.st])
      exact ⟨none, w4, s1, s2 _ hq⟩
    · rename_i f0 ps0 as0 bd0 hl
      obtain ⟨w4, s1, s2⟩ := over (.done .ret) f0 ps0 as0 bd0 hl (by simp [LS.st])
      exact ⟨some .ret, w4, s1, wpIn_ret (s2 _ hq)⟩
    · rename_i i f0 ps0 as0 bd0 hl
      obtain ⟨w4, s1, s2⟩ := over (.done (.exit i)) f0 ps0 as0 bd0 hl (by simp [LS.st])
      exact ⟨some (.exit i), w4, s1, wpIn_exit (s2 _ hq)⟩
    · exact hq.elim
end
end Go.Proofs.YtjbgfhafinfjbaaGreat.Mc
