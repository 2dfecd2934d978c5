/-
  The law ChartAll, of all numbers, all texts.
-/
import Derived.Test.YtaocfoahipeboaaDoorCh4
set_option linter.unusedVariables false
set_option linter.unusedSimpArgs false
namespace Go.Proofs.YtaocfoahipeboaaDoor
open Go.RowKit Mc

theorem rde [Bk] [Ev] {p : Poly} {n : Int} (h : pev Ev.rho p = n) (A : Nat → Prop) (w : World) : RdL A w (.e p) (.int .i64 n) := h ▸ .e p
theorem rdo [Bk] [Ev] {i : Nat} {v : Value} (h : Ev.val i = v) (A : Nat → Prop) (w : World) : RdL A w (.o i) v := h ▸ .o i
theorem at_k {f : FuncId} {val : Nat → Value} {z : Value} (h : AnyRuns f val z) {k : Nat} (hk : k < 17) (w : World) (hT : ChTab w) : Calls Tryd.prog f #[.int .i64 k] w fun e w' => e = .returned (val k) ∧ Below w.heap.size w w' := by
  refine (any_call h (k : Int) ⟨by omega, by omega⟩ w hT).mono ?_
  rintro e w' ⟨rfl, hb⟩
  refine ⟨?_, hb⟩
  rw [if_pos ⟨by omega, by omega⟩, Int.toNat_natCast]
theorem find_at {f : FuncId} {s : ByteArray} {r : Int} {b : Bool} (hc : ∀ w, ChTab w → Calls Tryd.prog f #[.string s] w fun e w' => (∃ r b, e = .returned (.tuple #[.int .i64 r, .bool b]) ∧ FindR s r b) ∧ Below w.heap.size w w') (hF : FindR s r b) (w : World) (hT : ChTab w) :
    Calls Tryd.prog f #[.string s] w fun e w' => e = .returned (.tuple #[.int .i64 r, .bool b]) ∧ Below w.heap.size w w' := by
  refine (hc w hT).mono ?_
  rintro e w' ⟨⟨r', b', rfl, hf⟩, hb⟩
  obtain ⟨rfl, rfl⟩ := hf.uniq hF
  exact ⟨rfl, hb⟩
/-- What is said of the account. -/
abbrev saidOf (a : Int) (val : Nat → Value) (z : Value) : Value := if 0 ≤ a ∧ a < 17 then val a.toNat else z
theorem ca_known [Bk] [Ev] {k : Nat} {a r0 : Int} {name : ByteArray} {b0 : Bool} (hg : Bk.glob = chGlob) (hk : k < 17) (ha : I64 a) (e0 : pev Ev.rho (pvar 0) = a) (e2 : pev Ev.rho (pvar 2) = r0) (v0 : Ev.val 0 = .string name)
    (v1 : Ev.val 1 = saidOf a (fun i => .string (chNm i)) (.string ByteArray.empty)) (v2 : Ev.val 2 = saidOf a (fun i => .bool (asB i)) (.bool false)) (v3 : Ev.val 3 = saidOf a (fun i => .bool (rsB i)) (.bool false)) (v4 : Ev.val 4 = .bool b0) (hF : FindR name r0 b0) : KnL Tryd.prog (caKi k) := by
  have xe : ∀ (A : Nat → Prop) (w : World) (v : Value), RdL A w (.e (pvar 0)) v → v = .int .i64 a := fun A w v h => (rd_e A w v h).trans (by rw [e0])
  have xo : ∀ (A : Nat → Prop) (w : World) (v : Value), RdL A w (.o 0) v → v = .string name := fun A w v h => (rd_o A w v h).trans v0
  have fk : FindR (chNm k) k true := .inl ⟨rfl, k, hk, rfl, rfl⟩
  refine .cons (kn_calls1 hg xo (find_at (chart_Find name) hF) fun A w => rd_tup2 (rde e2 A w) (rdo v4 A w)) ?_
  refine .cons (kn_calls1 hg xo (find_at (ref_Find name) hF) fun A w => rd_tup2 (rde e2 A w) (rdo v4 A w)) ?_
  refine .cons (kn_calls1 hg rd_c (find_at (chart_Find (chNm k)) fk) fun A w => rd_tup2 (.c _) (.c _)) ?_
  refine .cons (kn_calls1 hg xe (any_call runs_name a ha) (rdo v1)) ?_
  refine .cons (kn_calls1 hg xe (any_call runs_rname a ha) (rdo v1)) ?_
  refine .cons (kn_calls1 hg xe (any_call runs_asset a ha) (rdo v2)) ?_
  refine .cons (kn_calls1 hg xe (any_call runs_rasset a ha) (rdo v2)) ?_
  refine .cons (kn_calls1 hg xe (any_call runs_result a ha) (rdo v3)) ?_
  refine .cons (kn_calls1 hg xe (any_call runs_rresult a ha) (rdo v3)) ?_
  refine .cons (kn_calls1 hg rd_c (at_k runs_name hk) fun A w => .c _) ?_
  refine .cons (kn_calls1 hg rd_c (at_k runs_rname hk) fun A w => .c _) ?_
  refine .cons (kn_calls1 hg rd_c (at_k runs_asset hk) fun A w => .c _) ?_
  refine .cons (kn_calls1 hg rd_c (at_k runs_rasset hk) fun A w => .c _) ?_
  refine .cons (kn_calls1 hg rd_c (at_k runs_result hk) fun A w => .c _) ?_
  refine .cons (kn_calls1 hg rd_c (at_k runs_rresult hk) fun A w => .c _) ?_
  exact .cons (kn_calls0 hg ch_awake fun A w => .c _) .nil
theorem said_one (a : Int) {val : Nat → Value} {z : Value} (h1 : ∀ i, (val i).oneCell' = true) (h2 : z.oneCell' = true) : (saidOf a val z).oneCell' = true := by
  unfold saidOf; split
  · exact h1 _
  · exact h2
theorem said_str (a : Int) : ∃ s, saidOf a (fun i => .string (chNm i)) (.string ByteArray.empty) = .string s := by
  unfold saidOf; split
  · exact ⟨_, rfl⟩
  · exact ⟨_, rfl⟩
theorem said_bool (a : Int) (f : Nat → Bool) : ∃ c, saidOf a (fun i => .bool (f i)) (.bool false) = .bool c := by
  unfold saidOf; split
  · exact ⟨_, rfl⟩
  · exact ⟨_, rfl⟩

theorem ca_calls {k : Nat} (hk : k < 17) {a v : Int} {name : ByteArray} (ha : I64 a) (hv : I64 v) (hvk : v % 17 = k) (w : World) (hT : ChTab w) :
    Calls Tryd.prog 3 #[.int .i64 a, .string name, .int .i64 v] w fun e w' => e = .returned (.bool true) ∧ Below w.heap.size w w' := by
  obtain ⟨r0, b0, hF, h0, h1⟩ := FindR.some name
  let vals : List Value := [.string name, saidOf a (fun i => .string (chNm i)) (.string ByteArray.empty), saidOf a (fun i => .bool (asB i)) (.bool false), saidOf a (fun i => .bool (rsB i)) (.bool false), .bool b0]
  have ones : ∀ u ∈ vals, u.oneCell' = true := by
    intro u hu
    rcases List.mem_cons.1 hu with rfl | hu
    · rfl
    rcases List.mem_cons.1 hu with rfl | hu
    · exact said_one a (fun _ => rfl) rfl
    rcases List.mem_cons.1 hu with rfl | hu
    · exact said_one a (fun _ => rfl) rfl
    rcases List.mem_cons.1 hu with rfl | hu
    · exact said_one a (fun _ => rfl) rfl
    rcases List.mem_cons.1 hu with rfl | hu
    · rfl
    exact absurd hu List.not_mem_nil
  have kin : ∀ i c, (caB k).kinds[i]? = some c → (c = true → ∃ s, vals.getD i (.bool false) = .string s) ∧ (c = false → ∃ d, vals.getD i (.bool false) = .bool d) := by
    intro i c hc
    match i, hc with
    | 0, hc => cases hc; exact ⟨fun _ => ⟨name, rfl⟩, fun h => by cases h⟩
    | 1, hc => cases hc; exact ⟨fun _ => said_str a, fun h => by cases h⟩
    | 2, hc => cases hc; exact ⟨fun h => (by cases h), fun _ => said_bool a asB⟩
    | 3, hc => cases hc; exact ⟨fun h => (by cases h), fun _ => said_bool a rsB⟩
    | 4, hc => cases hc; exact ⟨fun h => (by cases h), fun _ => ⟨b0, rfl⟩⟩
    | i + 5, hc => cases hc
  let ev : @Ev (caB k) := evVal (caB k) [a, v, r0] vals ones rfl (.cons ha.lo (by have := ha.hi; omega) (.cons hv.lo (by have := hv.hi; omega) (.cons h0 h1 .nil))) .nil kin
  let _ : Bk := caB k
  let _ : Ev := ev
  have r1 : pev Ev.rho (pvar 1) = v := pev_pvar 1
  have hrun := List.all_eq_true.1 ca_runs k (List.mem_range.2 hk)
  refine @yes_calls_by Tryd.prog (caB k) ev ⟨@ExtL.cons _ (caB k) ev _ _ _ _ (@ext_int _ (caB k) ev _ _ _ fun w => ?_) (@ExtL.nil _ (caB k) ev), @YesL.nil _ (caB k) ev, @ca_known (caB k) ev k a r0 name b0 rfl hk ha (pev_pvar 0) (pev_pvar 2) rfl rfl rfl rfl rfl hF⟩ _ _ _ _ hrun #[.int .i64 a, .string name, .int .i64 v] rfl w chA (fun b hb => hb ▸ hT.lt) (@ChTab.gok (caB k) w hT rfl) ?_
  · simp only [List.map_cons, List.map_nil, r1, pev_plit, ← hvk]
    exact place_b v 17 w (by omega) (by omega)
  · intro i x hx
    rcases i with _ | _ | _ | i
    · cases hx; exact RdL.var (pev_pvar 0)
    · cases hx; exact RdL.o 0
    · cases hx; exact RdL.var r1
    · simp at hx

theorem ChartAll_walk (a : Int) (name : ByteArray) (v : Int) (w : World) (ha : I64 a) (hs : name.size ≤ maxLen) (hv : I64 v) (hT : ChTab w) :
    Calls Tryd.prog 3 #[.int .i64 a, .string name, .int .i64 v] w fun e w' => e = .returned (.bool true) ∧ Below w.heap.size w w' :=
  ca_calls (k := (v % 17).toNat) (by omega) ha hv (by omega) w hT
end Go.Proofs.YtaocfoahipeboaaDoor
