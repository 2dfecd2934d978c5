/-
  The law ChartAll: the account and the text by name, what is said of them by name; the account by number is seventeen ways.
-/
import Derived.Test.YtaocfoahipeboaaDoorCh3
set_option linter.unusedVariables false
set_option linter.unusedSimpArgs false
namespace Go.Proofs.YtaocfoahipeboaaDoor
open Go.RowKit Mc

def asB (i : Nat) : Bool := [0, 3, 11, 12, 13].contains i
def rsB (i : Nat) : Bool := [4, 5, 6, 7, 8, 9, 10, 15, 16].contains i
abbrev coL : Bk := { vars := [(-9223372036854775808, -1)], extV := chKn, glob := chGlob }
abbrev coG : Bk := { vars := [(17, 9223372036854775807)], extV := chKn, glob := chGlob }
abbrev AnyRuns (f : FuncId) (val : Nat → Value) (z : Value) : Prop := (List.range 17).all (fun i => @runsTo co0 Tryd.prog 100000 60 f [.c (.int .i64 i)] (.c (val i))) = true ∧
  @runsTo coL Tryd.prog 100000 60 f [.e (pvar 0)] (.c z) = true ∧ @runsTo coG Tryd.prog 100000 60 f [.e (pvar 0)] (.c z) = true
set_option maxRecDepth 1000000 in
theorem runs_name : AnyRuns 9 (fun i => .string (chNm i)) (.string ByteArray.empty) := ⟨by decide +kernel, by decide +kernel, by decide +kernel⟩
set_option maxRecDepth 1000000 in
theorem runs_rname : AnyRuns 10 (fun i => .string (chNm i)) (.string ByteArray.empty) := ⟨by decide +kernel, by decide +kernel, by decide +kernel⟩
set_option maxRecDepth 1000000 in
theorem runs_asset : AnyRuns 11 (fun i => .bool (asB i)) (.bool false) := ⟨by decide +kernel, by decide +kernel, by decide +kernel⟩
set_option maxRecDepth 1000000 in
theorem runs_rasset : AnyRuns 12 (fun i => .bool (asB i)) (.bool false) := ⟨by decide +kernel, by decide +kernel, by decide +kernel⟩
set_option maxRecDepth 1000000 in
theorem runs_result : AnyRuns 13 (fun i => .bool (rsB i)) (.bool false) := ⟨by decide +kernel, by decide +kernel, by decide +kernel⟩
set_option maxRecDepth 1000000 in
theorem runs_rresult : AnyRuns 14 (fun i => .bool (rsB i)) (.bool false) := ⟨by decide +kernel, by decide +kernel, by decide +kernel⟩
set_option maxRecDepth 1000000 in
theorem runs_awake : @runsTo co0 Tryd.prog 100000 60 15 [] (.c (.bool true)) = true := by decide +kernel

theorem run_out (b : Bk) (ev : @Ev b) (hg : b.glob = chGlob) (hk : b.extV = chKn) (hx : b.ext = []) (hy : b.yes = []) {f : FuncId} {args : List AV} {vs : List Value} {z : Value} (h : @runsTo b Tryd.prog 100000 60 f args (.c z) = true) (hl : vs.length = args.length) (w : World) (hT : ChTab w) (hv : ∀ (i : Nat) (x : AV), args[i]? = some x → @RdL b ev chA w x (vs.getD i Go.undef)) :
    Calls Tryd.prog f vs.toArray w fun e w' => e = .returned z ∧ Below w.heap.size w w' := by
  refine (kn_of b ev b ev rfl h (hx ▸ @ExtL.nil _ b ev) (hy ▸ @YesL.nil _ b ev) (hk ▸ @ch_known b ev hg) rfl rfl chA w vs.toArray (fun c hc => hc ▸ hT.lt) (@ChTab.gok b w hT hg) (by simpa using hl) (fun i x hx => by have := hv i x hx; simpa [List.getD] using this)).mono ?_
  rintro e w' ⟨v, rfl, hr, hb⟩
  cases hr
  exact ⟨rfl, hb⟩
theorem any_call {f : FuncId} {val : Nat → Value} {z : Value} (h : AnyRuns f val z) (a : Int) (ha : I64 a) (w : World) (hT : ChTab w) :
    Calls Tryd.prog f #[.int .i64 a] w fun e w' => e = .returned (if 0 ≤ a ∧ a < 17 then val a.toNat else z) ∧ Below w.heap.size w w' := by
  by_cases hc : 0 ≤ a ∧ a < 17
  · rw [if_pos hc]
    have hr := List.all_eq_true.1 h.1 a.toNat (List.mem_range.2 (by omega))
    let ev : @Ev co0 := evOf co0 [] rfl .nil .nil
    refine run_out co0 ev rfl rfl rfl rfl (vs := [.int .i64 a]) hr rfl w hT ?_
    intro j x hx
    rcases j with _ | j
    · cases hx
      have e : ((a.toNat : Nat) : Int) = a := by omega
      rw [e]; exact @RdL.c co0 ev _ _ _
    · simp at hx
  · rw [if_neg hc]
    by_cases hn : a < 0
    · let ev : @Ev coL := evOf coL [a] rfl (.cons ha.lo (by omega) .nil) .nil
      refine run_out coL ev rfl rfl rfl rfl (vs := [.int .i64 a]) h.2.1 rfl w hT ?_
      intro j x hx
      rcases j with _ | j
      · cases hx; exact @RdL.var coL ev _ _ _ _ (@pev_pvar (@Ev.rho coL ev) 0)
      · simp at hx
    · let ev : @Ev coG := evOf coG [a] rfl (.cons (by omega) (by have := ha.hi; omega) .nil) .nil
      refine run_out coG ev rfl rfl rfl rfl (vs := [.int .i64 a]) h.2.2 rfl w hT ?_
      intro j x hx
      rcases j with _ | j
      · cases hx; exact @RdL.var coG ev _ _ _ _ (@pev_pvar (@Ev.rho coG ev) 0)
      · simp at hx
theorem ch_awake (w : World) (hT : ChTab w) : Calls Tryd.prog 15 #[] w fun e w' => e = .returned (.bool true) ∧ Below w.heap.size w w' := by
  let ev : @Ev co0 := evOf co0 [] rfl .nil .nil
  exact run_out co0 ev rfl rfl rfl rfl (vs := []) runs_awake rfl w hT (by intro j x hx; simp at hx)

theorem chNm_inj : ∀ i j : Nat, i < 17 → j < 17 → chNm i = chNm j → i = j := by
  have h : (List.range 17).all (fun i => (List.range 17).all fun j => decide (i = j) || decide (chNames.getD i [] ≠ chNames.getD j [])) = true := by decide +kernel
  intro i j hi hj e
  have h2 := List.all_eq_true.1 (List.all_eq_true.1 h i (List.mem_range.2 hi)) j (List.mem_range.2 hj)
  rw [Bool.or_eq_true] at h2
  rcases h2 with h2 | h2
  · exact of_decide_eq_true h2
  · refine absurd ?_ (of_decide_eq_true h2)
    have := congrArg (fun b : ByteArray => b.data.toList) e
    simpa [chNm] using this
theorem FindR.uniq {s : ByteArray} {r r' : Int} {b b' : Bool} (h : FindR s r b) (k : FindR s r' b') : r = r' ∧ b = b' := by
  rcases h with ⟨rfl, i, hi, rfl, hs⟩ | ⟨rfl, rfl, hn⟩
  · rcases k with ⟨rfl, j, hj, rfl, hs'⟩ | ⟨rfl, rfl, hn'⟩
    · obtain rfl := chNm_inj i j hi hj (hs.symm.trans hs')
      exact ⟨rfl, rfl⟩
    · exact absurd hs (hn' i hi)
  · rcases k with ⟨rfl, j, hj, rfl, hs'⟩ | ⟨rfl, rfl, hn'⟩
    · exact absurd hs' (hn j hj)
    · exact ⟨rfl, rfl⟩
theorem FindR.some (s : ByteArray) : ∃ r b, FindR s r b ∧ 0 ≤ r ∧ r ≤ 16 := by
  by_cases h : ∃ i : Nat, i < 17 ∧ s = chNm i
  · obtain ⟨i, hi, hs⟩ := h
    exact ⟨i, true, .inl ⟨rfl, i, hi, rfl, hs⟩, by omega, by omega⟩
  · exact ⟨0, false, .inr ⟨rfl, rfl, fun i hi hs => h ⟨i, hi, hs⟩⟩, by omega, by omega⟩

theorem gok_tab [Bk] (hg : Bk.glob = chGlob) {A : Nat → Prop} {w : World} (hG : GOk A w) : ChTab w := (hG (0, Lib.asciiSpaceTab) (by rw [hg]; exact List.mem_cons_self)).2.2
section
variable [Bk] [Ev]
theorem kn_calls1 (hg : Bk.glob = chGlob) {f : FuncId} {x r : AV} {v0 u : Value} (hx : ∀ (A : Nat → Prop) (w : World) (v : Value), RdL A w x v → v = v0) (hc : ∀ w, ChTab w → Calls Tryd.prog f #[v0] w fun e w' => e = .returned u ∧ Below w.heap.size w w') (hr : ∀ (A : Nat → Prop) (w : World), RdL A w r u) : KnOk Tryd.prog f [x] r := by
  intro A w vs hA hG hl hv
  obtain ⟨v, e⟩ : ∃ v, vs = #[v] := by
    rcases vs with ⟨l⟩
    match l, hl with
    | [y], _ => exact ⟨y, rfl⟩
  subst e
  have e : v = v0 := hx A w v (hv 0 x rfl)
  subst e
  refine (hc w (gok_tab hg hG)).mono ?_
  rintro e w' ⟨rfl, hb⟩
  exact ⟨u, rfl, hr A w', hb⟩
theorem kn_calls0 (hg : Bk.glob = chGlob) {f : FuncId} {r : AV} {u : Value} (hc : ∀ w, ChTab w → Calls Tryd.prog f #[] w fun e w' => e = .returned u ∧ Below w.heap.size w w') (hr : ∀ (A : Nat → Prop) (w : World), RdL A w r u) : KnOk Tryd.prog f [] r := by
  intro A w vs hA hG hl hv
  have e : vs = #[] := by apply Array.eq_empty_of_size_eq_zero; simpa using hl
  subst e
  refine (hc w (gok_tab hg hG)).mono ?_
  rintro e w' ⟨rfl, hb⟩
  exact ⟨u, rfl, hr A w', hb⟩
theorem rd_c {u : Value} (A : Nat → Prop) (w : World) (v : Value) (h : RdL A w (.c u) v) : v = u := by cases h; rfl
theorem rd_o {i : Nat} (A : Nat → Prop) (w : World) (v : Value) (h : RdL A w (.o i) v) : v = Ev.val i := by cases h; rfl
theorem rd_e {p : Poly} (A : Nat → Prop) (w : World) (v : Value) (h : RdL A w (.e p) v) : v = .int .i64 (pev Ev.rho p) := by cases h; rfl
theorem rd_tup2 {x y : AV} {u v : Value} {A : Nat → Prop} {w : World} (hx : RdL A w x u) (hy : RdL A w y v) : RdL A w (.tup [x, y]) (.tuple #[u, v]) := by
  refine .tup _ _ rfl ?_
  intro i z hz
  rcases i with _ | _ | i
  · cases hz; exact hx
  · cases hz; exact hy
  · simp at hz
end

abbrev caKi (k : Nat) : List (Nat × List AV × AV) := [(7, [.o 0], .tup [.e (pvar 2), .o 4]), (8, [.o 0], .tup [.e (pvar 2), .o 4]), (7, [.c (.string (chNm k))], .tup [.c (.int .i64 k), .c (.bool true)]),
  (9, [.e (pvar 0)], .o 1), (10, [.e (pvar 0)], .o 1), (11, [.e (pvar 0)], .o 2), (12, [.e (pvar 0)], .o 2), (13, [.e (pvar 0)], .o 3), (14, [.e (pvar 0)], .o 3),
  (9, [.c (.int .i64 k)], .c (.string (chNm k))), (10, [.c (.int .i64 k)], .c (.string (chNm k))), (11, [.c (.int .i64 k)], .c (.bool (asB k))), (12, [.c (.int .i64 k)], .c (.bool (asB k))), (13, [.c (.int .i64 k)], .c (.bool (rsB k))), (14, [.c (.int .i64 k)], .c (.bool (rsB k))),
  (15, [], .c (.bool true))]
abbrev caB (k : Nat) : Bk := { vars := [chFull, chFull, (0, 16)], ext := [(6, [pvar 1, plit 17], [plit k])], extV := caKi k, glob := chGlob, kinds := [true, true, false, false, false] }
abbrev caRun (k : Nat) : Prop := saysYes (@acallF (caB k) Tryd.prog 100000 60 3 [.e (pvar 0), .o 0, .e (pvar 1)] .leaf 0) = true
set_option maxRecDepth 1000000 in
theorem ca_runs : (List.range 17).all (fun k => saysYes (@acallF (caB k) Tryd.prog 100000 60 3 [.e (pvar 0), .o 0, .e (pvar 1)] .leaf 0)) = true := by decide +kernel
end Go.Proofs.YtaocfoahipeboaaDoor
