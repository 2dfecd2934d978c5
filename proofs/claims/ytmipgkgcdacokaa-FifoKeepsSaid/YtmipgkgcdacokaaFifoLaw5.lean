/-
  What is taken, again and again, and what stays: the walk.
-/
import Derived.Test.YtmipgkgcdacokaaFifoLaw1
import Derived.Test.YtmipgkgcdacokaaFifoLaw2
import Derived.Test.YtmipgkgcdacokaaFifoP3
import Derived.Maps.AppendAt
import Derived.Deep.QuietTactic
import Derived.BigQuiet
set_option linter.unusedVariables false
set_option linter.unusedSimpArgs false
namespace Go.Proofs.Ytmipgkgcdacokaa
open Go.RowKit

section
variable {P : Program}
/-- 'append(l, x)' on a row of the call's own: one element more; where it lies. -/
theorem wpList_pushG (w : World) {ops : Array Oper} {rest : List Oper} {o : Oper} {a : Act} {Q : Exit → Act → World → Prop} (hgd : o.guard = none) (s x : Operand) (t : TypeId)
    (ho : o.op = .call { callee := .builtin .append, args := #[s, x], argTypes := #[t, t] })
    (base : Nat) (e : TypeId) (size : Nat) (E : Elem P t e size)
    (v : Value) (n : Nat) (zs : List Int) (hs : a.eval s = v) (hown : OwnI w base e size v n zs)
    (b off c : Nat) (ns : List Int) (hx : a.eval x = .slice (some ⟨b, off, none⟩) 1 c) (hl : ns.length = size) (hc : CellsAt w b off ns)
    (hn : (n + 1) * (size * 8) ≤ 140737488355328) (hbase : base ≤ w.heap.size)
    (h : ∀ v' w', OwnI w' base e size v' (n + 1) (zs ++ ns) → w.grownBy w' v.ownBlock → (v'.ownBlock = v.ownBlock ∨ v'.ownBlock = some w.heap.size) → wpList P ops Q rest (a.put o.dst v') w') : wpList P ops Q (o :: rest) a w := by
  obtain ⟨ht, ⟨i, z, hi, hz, hsize, hby, hzs⟩, hp⟩ := E
  have h8 : n + 1 ≤ (n + 1) * (size * 8) := Nat.le_mul_of_pos_right _ (by omega)
  refine wpList_append_own_at (w := w) hgd s x t ho base e i z size (size * 8) ht hi hz hsize hby hzs hp v n (ints zs) hs hown ⟨b, off, none⟩ 1 c (ints ns) hx (by rw [ints_length]; omega) ?_ ?_ (by unfold maxLen; omega) hn hbase ?_
  · intro j u hj
    rw [ints_get] at hj
    have hlt : j < ns.length := by
      rcases Nat.lt_or_ge j ns.length with h | h
      · exact h
      · rw [List.getElem?_eq_none h] at hj; cases hj
    have := hc j hlt
    rw [List.getElem?_eq_getElem hlt] at hj
    rw [List.getD_eq_getElem?_getD, List.getElem?_eq_getElem hlt] at this
    simp only [Option.map_some, Option.some.injEq] at hj
    subst hj
    by_cases h0 : j = 0
    · subst h0; simpa [Addr.add] using this
    · simpa [Addr.add, h0] using this
  · intro u hu
    simp only [ints, List.mem_map] at hu
    obtain ⟨y, -, rfl⟩ := hu
    rfl
  · intro v' w' hown' hg _ hat
    refine h v' w' ?_ hg hat
    rw [OwnI, ints_append]; exact hown'
end
/-- What a lies in is not r. -/
def Aside (a : Option Addr) (r : Option Nat) : Prop := ∀ ad, a = some ad → r ≠ some ad.block
theorem Row.grown {w w' : World} {k : Nat} {a : Option Addr} {n cap : Nat} {zs : List Int} {r : Option Nat} (h : Row w k a n cap zs) (g : w.grownBy w' r) (ha : n = 0 ∨ Aside a r) : Row w' k a n cap zs := by
  refine ⟨h.len, h.le, h.max, h.all, ?_⟩
  rcases h.at_ with h0 | ⟨b, off, e, hb, hc⟩
  · exact .inl h0
  · rcases ha with ha | ha
    · exact .inl ha
    · refine .inr ⟨b, off, e, Nat.lt_of_lt_of_le hb g.size, fun i hi => ?_⟩
      rw [World.cell?_of_block (g.block b hb (fun hh => ha _ e (by rw [← hh])))]
      exact hc i hi
theorem units_val {l : List Pc} (h : ∀ x, x ∈ l → PcOk x) : ∀ z, z ∈ units l → 0 ≤ z ∧ z ≤ 16 := by
  intro z hz
  obtain ⟨x, hx, hz⟩ := List.mem_flatMap.1 hz
  have k := h x hx
  obtain ⟨-, rfl⟩ := List.mem_replicate.1 hz
  exact ⟨k.c0, k.c1⟩
theorem sum_small {l : List Int} (h : ∀ z, z ∈ l → 0 ≤ z ∧ z ≤ 16) : 0 ≤ l.sum ∧ l.sum ≤ 16 * l.length := by
  induction l with
  | nil => simp
  | cons z l ih =>
    have := h z (by simp)
    have := ih fun y hy => h y (by simp [hy])
    rw [List.sum_cons, List.length_cons]
    omega
theorem units_all {l : List Pc} (h : ∀ x, x ∈ l → PcOk x) : AllI (units l) := fun z hz => by
  have := units_val h z hz
  exact ⟨by omega, by omega⟩
theorem units_len_bd {l : List Pc} (h : ∀ x, x ∈ l → PcOk x) : (units l).length ≤ 6 * l.length := by
  induction l with
  | nil => simp [units]
  | cons x l ih =>
    have := ih fun y hy => h y (by simp [hy])
    have := (h x (by simp)).q1
    rw [units_cons, List.length_append, List.length_replicate, List.length_cons]
    omega
theorem out_units {cs : List Pc} {k : Nat} (h : ∀ x, x ∈ cs → PcOk x) (hl : cs.length ≤ 20) (h1 : 1 ≤ k) (hk : k ≤ (units cs).length) :
    ∃ m, outS (lays cs) k = (lays m, ⟨k, ((units cs).take k).sum, 0⟩, 0) ∧ units m = (units cs).drop k ∧ m.length ≤ 20 ∧ ∀ x, x ∈ m → PcOk x := by
  have hL := lays_LR (l := cs) (by omega) h
  obtain ⟨m, e, e1, e2, e3⟩ := take_units cs k .zero h hk
  refine ⟨m, ?_, e1, by omega, e3⟩
  rw [outS_ok hL (by omega) (by have := units_len cs; omega), e]
  simp [Lay.zero]
theorem out_units_short {cs : List Pc} {k : Nat} (h : ∀ x, x ∈ cs → PcOk x) (hl : cs.length ≤ 20) (h1 : 1 ≤ k) (hk : (units cs).length < k) :
    outS (lays cs) k = (lays cs, .zero, 5) := outS_short (lays_LR (l := cs) (by omega) h) (by omega) (by have := units_len cs; omega)
theorem in_units {cs : List Pc} {x : Pc} (h : ∀ x, x ∈ cs → PcOk x) (hx : PcOk x) (hl : cs.length < 20) : inS (lays cs) x.lay = (lays (cs ++ [x]), 0) := by
  have hL : LR (lays cs ++ [x.lay]) := by
    rw [← lays_snoc]
    exact lays_LR (by simp; omega) fun y hy => by
      rcases List.mem_append.1 hy with hy | hy
      · exact h y hy
      · rw [List.mem_singleton.1 hy]; exact hx
  rw [inS_ok hL, lays_snoc]
theorem Row.drop1 {w : World} {b off n cap k : Nat} {zs : List Int} (h : Row w 1 (some ⟨b, off, none⟩) n cap zs) (hk : k ≤ n) (hn : 0 < n) :
    Row w 1 (some ⟨b, off + k, none⟩) (n - k) (cap - k) (zs.drop k) ∧ (cap = k → Row w 1 (some ⟨b, off, none⟩) (n - k) (cap - k) (zs.drop k)) := by
  have hl := h.len
  have hle := h.le
  have hm := h.max
  have ha : AllI (zs.drop k) := fun z hz => h.all z (List.mem_of_mem_drop hz)
  refine ⟨⟨by rw [List.length_drop]; omega, by omega, by omega, ha, ?_⟩, fun e => ⟨by rw [List.length_drop]; omega, by omega, by omega, ha, .inl (by omega)⟩⟩
  rcases h.at_ with h0 | ⟨b', o', e, hb, hc⟩
  · omega
  · cases e
    refine .inr ⟨_, _, rfl, hb, fun i hi => ?_⟩
    rw [List.length_drop] at hi
    have := hc (k + i) (by omega)
    rw [show off + k + i = off + (k + i) by omega, this]
    simp [List.getD_eq_getElem?_getD]

set_option maxRecDepth 20000 in
set_option maxHeartbeats 4000000 in
theorem FifoKeeps_walk (l : Option Addr) (n cap : Nat) (zs : List Int) (l2 : Option Addr) (n2 cap2 : Nat) (zs2 : List Int) (w : World) (h : Row w 1 l n cap zs) (h2 : Row w 1 l2 n2 cap2 zs2) :
    Calls Try.prog 6 #[.slice l n cap, .slice l2 n2 cap2] w fun e w' => e = .returned (.bool true) ∧ Below w.heap.size w w' := by
  obtain ⟨hl, hcap, hmax, hall, hat⟩ := h
  obtain ⟨hl2, hcap2, hmax2, hall2, hat2⟩ := h2
  unfold maxLen at hmax hmax2
  go_enter Try.func6, Try.ntmps6
  go_wp2_with fail
  go_loopw [5, 6, 7] (fun a u i wr => ∃ (j : Nat) (cs : List Pc) (a1 : Option Addr) (c1 : Nat), j ≤ n ∧ cs.length = j ∧ j ≤ 20 ∧ i = .int .i64 j ∧ a = .slice a1 (lays cs).length c1 ∧ (∀ x, x ∈ cs → PcOk x) ∧ Row wr 3 a1 (lays cs).length c1 (flat (lays cs)) ∧ OwnI wr w.heap.size 3 1 u (units cs).length (units cs) ∧ Below w.heap.size w wr) (fun _ _ i _ => 20 - (intOf i).toNat)
  case atStart => exact ⟨0, [], none, 0, by omega, rfl, by omega, rfl, rfl, (fun x hx => by simp at hx), Row.nil _ _, OwnI.nil _ _ _ _, by (repeat (first | assumption | exact Below.refl _ _ | refine ballc ?_ _ | refine bdrew ?_ | refine bdrewN ?_ _ | refine bset ?_ _ _ | refine bsetN ?_ (by omega) _ _ | refine bthen ?_ (by assumption)))⟩
  case round =>
    obtain ⟨j, cs, a1, c1, hj, hcl, hj2, rfl, rfl, hok, R1, O1, hbel⟩ := hrel
    have hsz := hbel.size
    by_cases hlt : j < n ∧ j < 20
    · obtain ⟨hlt, hlt2⟩ := hlt
      obtain ⟨b, off, rfl, hb, hc⟩ : ∃ b off, l = some ⟨b, off, none⟩ ∧ b < w.heap.size ∧ CellsAt w b off zs := by
        rcases hat with h0 | h0
        · omega
        · exact h0
      have hcell : wr.cell? ⟨b, off + j, none⟩ = some (.int .i64 (zs.getD j 0)) := (hbel.cell hb).trans (hc j (by omega))
      have hlt' : (j : Int) < (n : Int) := by omega
      have hlt2' : (j : Int) < 20 := by omega
      have hL9 : (lays cs).length ≤ 900 := by simp [lays]; omega
      clear hc hat hat2
      generalize zs.getD j 0 = z at *
      have hk := place_bd (v := z) (n := 100) (by omega)
      have hcl := Lib.hid hcl
      go_wp2_with fail
      refine (Place_calls _ _ _ (by omega) (by omega)).mono ?_
      rintro e w' ⟨rfl, rfl⟩
      generalize z % 100 = k at *
      obtain ⟨k0, k1⟩ := hk
      obtain ⟨q, hq⟩ := Int.eq_ofNat_of_zero_le (show 0 ≤ 1 + k % 6 by omega)
      have hqb : 1 ≤ q ∧ q ≤ 6 := by omega
      have hvb : 0 ≤ k / 6 ∧ k / 6 ≤ 16 := by omega
      have hmb := mul_bd (a := (q : Int)) (b := k / 6) (n := 6) (m := 16) (by omega) (by omega) hvb.1 hvb.2
      obtain ⟨v, hv⟩ : ∃ v, k / 6 = v := ⟨_, rfl⟩
      rw [hv] at hvb hmb
      have hpc : PcOk ⟨q, v⟩ := ⟨hqb.1, hqb.2, hvb.1, hvb.2⟩
      have hI := Lib.hid (in_units hok hpc (by have := hcl.out; omega))
      have hxA : AllI [(Pc.lay ⟨q, v⟩).q, (Pc.lay ⟨q, v⟩).v, (Pc.lay ⟨q, v⟩).p] := by
        intro y hy
        simp [Pc.lay] at hy
        rcases hy with rfl | rfl | rfl <;> exact ⟨by omega, by omega⟩
      have hok' : ∀ x, x ∈ cs ++ [⟨q, v⟩] → PcOk x := fun y hy => by
        rcases List.mem_append.1 hy with hy | hy
        · exact hok y hy
        · rw [List.mem_singleton.1 hy]; exact hpc
      have hA' : AllI (flat (lays (cs ++ [⟨q, v⟩]))) := flat_ok (lays_LR (by have := hcl.out; simp; omega) hok').ok
      have hok := Lib.hid hok
      have hokh := Lib.hid hok'
      clear hok'
      go_wp2_with fail
      refine (fifo_In a1 c1 (lays cs) (Pc.lay ⟨q, v⟩) _ R1 hL9 hxA).mono ?_
      rw [hI.out]
      rintro e w1 ⟨v1, rfl, hh, hw1⟩
      obtain ⟨a2, c2, rfl, -, -, hat3⟩ := id hh
      obtain ⟨a3, c3, e3, R2⟩ := hh.row hA'
      cases e3
      have hab : ∀ ad, a2 = some ad → wr.heap.size ≤ ad.block ∧ ad.block < w1.heap.size := by
        rintro ad rfl
        rcases hat3 with h0 | ⟨b, o, e, h1, h2, -⟩
        · simp [lays] at h0
        · cases e; exact ⟨h1, h2⟩
      have has : Aside a2 u6.ownBlock := fun ad e hh => by
        have := (World.ownsRow.lt O1 _ hh).2
        have := (hab ad e).1
        omega
      have O2 := O1.below hw1
      have hbel1 : Below w.heap.size w w1 := bthen hbel hw1
      have hw1s := hw1.size
      clear hat3 hh hw1 R1 O1 hcell hxA hA' hI hok
      generalize hcs' : cs ++ [(⟨q, v⟩ : Pc)] = cs' at *
      have hcs2 := Lib.hid hcs'
      clear hcs'
      go_wp2_with fail
      go_loopw [6, 13] (fun u i w3 => ∃ (t : Nat), t ≤ q ∧ i = .int .i64 t ∧ OwnI w3 w.heap.size 3 1 u ((units cs).length + t) (units cs ++ List.replicate t v) ∧ Row w3 3 a2 (lays cs').length c2 (flat (lays cs')) ∧ Aside a2 u.ownBlock ∧ w1.heap.size ≤ w3.heap.size ∧ Below w.heap.size w w3) (fun _ i _ => q - (intOf i).toNat)
      case atStart => exact ⟨0, by omega, rfl, OwnI.same O2 (by omega) (by simp), R2, has, by omega, hbel1⟩
      case round =>
        obtain ⟨t, ht, rfl, O3, R3, has3, hs3, hb3⟩ := hrel
        have hs4 := hb3.size
        have hul := units_len_bd (l := cs) (fun y hy => hokh.out y (by rw [← hcs2.out]; simp [hy]))
        have hcl2 := hcl.out
        by_cases htq : t < q
        · have htq' : (t : Int) < (q : Int) := by omega
          clear hcl2
          go_wp2_with (at_builtin; refine wpList_pushG _ rfl _ _ 39 rfl w.heap.size 3 1 elem_Int _ _ _ rfl (O3.alloc _) _ 0 1 [v] rfl rfl (lit1 (y := v) (by simp)) ?c1 ?c2 ?_)
          case c1 => have := hcl.out; omega
          case c2 => simp; omega
          intro u' w4 O4 hg4 hat4
          have O5 := OwnI.same O4 (m := (units cs).length + (t + 1)) (ys := units cs ++ List.replicate (t + 1) v) (by omega) (by simp [List.replicate_succ'])
          have R4 := (R3.below (((Below.refl _ wr).alloc (Nat.le_refl _) _))).grown hg4 (.inr has3)
          have has4 : Aside a2 u'.ownBlock := by
            intro ad e hh
            rcases hat4 with h4 | h4
            · exact has3 ad e (h4 ▸ hh)
            · rw [h4] at hh
              simp at hh
              have := (hab ad e).2
              omega
          have hb4 : Below w.heap.size w w4 := (hb3.alloc hs4 _).grown hg4 (by simp; omega) fun g hg => (World.ownsRow.lt O3 g hg).1
          have hs5 : w1.heap.size ≤ w4.heap.size := by have := hg4.size; simp at this; omega
          clear O4 O3 R3 has3 hg4 hat4 hb3 hs3 hs4 hul R2 O2 has hab
          go_wp2
          go_roundw
          case rel => exact ⟨t + 1, by omega, by go_num, O5, R4, has4, hs5, hb4⟩
          case measure => simp [intOf]; omega
        · have etq : t = q := by omega
          subst etq
          have hge : ¬ (t : Int) < (t : Int) := by omega
          have O5 := OwnI.same O3 (m := (units cs').length) (ys := units cs') (by rw [← hcs2.out, units_snoc, List.length_append, List.length_replicate]) (by rw [← hcs2.out, units_snoc])
          have hcl3 : cs'.length = j + 1 := by rw [← hcs2.out]; simp; omega
          clear O3 has3 hs3 hs4 hul R2 O2 has hab hbel1 hcl2
          have hcl3 := Lib.hid hcl3
          go_wp2_with fail
          case' roundEnd =>
            refine ⟨⟨j + 1, cs', a2, c2, by omega, hcl3.out, by omega, by simp, rfl, hokh.out, R3, O5, hb3⟩, ?_⟩
            simp [intOf]
            omega
    · have hx : ¬ (j : Int) < (n : Int) ∨ (j : Int) < (n : Int) ∧ ¬ (j : Int) < 20 := by omega
      clear hlt hat
      obtain ⟨u1, d1, rfl, U1⟩ := O1.row (units_all hok)
      clear O1
      have hok := Lib.hid hok
      have hcl := Lib.hid hcl
      rcases hx with hx | ⟨hx, hx2⟩
      all_goals
        go_wp2_with fail
        have hc0 : cs.length ≤ 20 := by have := hcl.out; omega
        clear hx hcl hsz hj
        try clear hx2
        go_loopw [5, 6, 14] (fun a u i wq => ∃ (j : Nat) (cs : List Pc) (a1 u1 : Option Addr) (c1 d1 : Nat), i = .int .i64 j ∧ j ≤ 20 ∧ a = .slice a1 (lays cs).length c1 ∧ u = .slice u1 (units cs).length d1 ∧ cs.length ≤ 20 ∧ Hid (∀ x, x ∈ cs → PcOk x) ∧ Row wq 3 a1 (lays cs).length c1 (flat (lays cs)) ∧ Row wq 1 u1 (units cs).length d1 (units cs) ∧ Below w.heap.size w wq) (fun _ _ i _ => 20 - (intOf i).toNat)
        case atStart => exact ⟨0, cs, a1, u1, c1, d1, rfl, by omega, rfl, rfl, hc0, hok, R1, U1, hbel⟩
        case round =>
          clear R1 U1 hok hbel hc0
          obtain ⟨j, cs, a1, u1, c1, d1, rfl, hj2, rfl, rfl, hc0, hok, R1, U1, hbel⟩ := hrel
          have hsz := hbel.size
          have hL := lays_LR (l := cs) (by omega) hok.out
          have hul := units_len_bd hok.out
          have hsm := units_val hok.out
          have hLh := Lib.hid hL
          have hsmh := Lib.hid hsm
          clear hL hsm
          by_cases hlt : j < n2 ∧ j < 20
          · obtain ⟨hlt, hlt2⟩ := hlt
            obtain ⟨b, off, rfl, hb, hc⟩ : ∃ b off, l2 = some ⟨b, off, none⟩ ∧ b < w.heap.size ∧ CellsAt w b off zs2 := by
              rcases hat2 with h0 | h0
              · omega
              · exact h0
            have hcell : wr.cell? ⟨b, off + j, none⟩ = some (.int .i64 (zs2.getD j 0)) := (hbel.cell hb).trans (hc j (by omega))
            have hlt' : (j : Int) < (n2 : Int) := by omega
            have hlt2' : (j : Int) < 20 := by omega
            clear hc hat2
            generalize zs2.getD j 0 = z at *
            have hk := place_bd (v := z) (n := 9) (by omega)
            go_wp2_with fail
            refine (Place_calls _ _ _ (by omega) (by omega)).mono ?_
            rintro e w' ⟨rfl, rfl⟩
            generalize z % 9 = k at *
            obtain ⟨q, hq⟩ := Int.eq_ofNat_of_zero_le (show 0 ≤ 1 + k by omega)
            have hqb : 1 ≤ q ∧ q ≤ 9 := by omega
            by_cases hqu : q ≤ (units cs).length
            · obtain ⟨m, hO, hm1, hm2, hm3⟩ := out_units hok.out hc0 hqb.1 hqu
              have hOh := Lib.hid hO
              have hmh := Lib.hid hm1
              have hm3 := Lib.hid hm3
              have hqu' : (q : Int) ≤ ((units cs).length : Int) := by omega
              have sm := sum_small (l := (units cs).take q) fun z hz => hsmh.out z (List.mem_of_mem_take hz)
              have sm2 : ((units cs).take q).length = q := by simp; omega
              clear hO hm1
              go_wp2_with fail
              refine (fifo_Out_is R1 hLh.out (q := (q : Int)) ⟨by omega, by omega⟩ hOh.out).mono ?_
              rintro e w1 ⟨⟨a2, c2, rfl, R2⟩, hw1⟩
              rw [sm2] at sm
              clear sm2
              generalize hS : ((units cs).take q).sum = S at *
              have hSh := Lib.hid hS
              clear hS
              go_wp2_with fail
              have hW : Below wr.heap.size wr (w1.alloc (.cells #[.int .i64 (q : Int), .int .i64 S, .int .i64 0] 24)) := by (repeat (first | assumption | exact Below.refl _ _ | refine ballc ?_ _ | refine bdrew ?_ | refine bdrewN ?_ _ | refine bset ?_ _ _ | refine bsetN ?_ (by omega) _ _ | refine bthen ?_ (by assumption)))
              have U2 := U1.below hW
              have R3 := R2.below (show Below w1.heap.size w1 (w1.alloc (.cells #[.int .i64 (q : Int), .int .i64 S, .int .i64 0] 24)) by (repeat (first | assumption | exact Below.refl _ _ | refine ballc ?_ _ | refine bdrew ?_ | refine bdrewN ?_ _ | refine bset ?_ _ _ | refine bsetN ?_ (by omega) _ _ | refine bthen ?_ (by assumption))))
              have hbel2 := bthen hbel hW
              have x0 : (w1.alloc (.cells #[.int .i64 (q : Int), .int .i64 S, .int .i64 0] 24)).cell? ⟨w1.heap.size, 0, none⟩ = some (.int .i64 q) := by simp
              have x1 : (w1.alloc (.cells #[.int .i64 (q : Int), .int .i64 S, .int .i64 0] 24)).cell? ⟨w1.heap.size, 1, none⟩ = some (.int .i64 S) := by simp
              clear R1 R2 U1 hbel hW hw1 hcell
              generalize w1.alloc (.cells #[.int .i64 (q : Int), .int .i64 S, .int .i64 0] 24) = w2 at *
              obtain ⟨ub, uo, rfl, hub, huc⟩ := U2.at_.resolve_left (by omega)
              have hulen := U2.le
              have humax := U2.max
              unfold maxLen at humax
              go_loop [19, 20] (fun s i => ∃ t : Nat, t ≤ q ∧ i = .int .i64 t ∧ s = .int .i64 ((units cs).take t).sum) (fun _ i => q - (intOf i).toNat)
              case atStart => exact ⟨0, by omega, rfl, by simp⟩
              case round =>
                obtain ⟨t, ht, rfl, rfl⟩ := hrel
                have sm3 := sum_small (l := (units cs).take t) fun z hz => hsmh.out z (List.mem_of_mem_take hz)
                have sm4 : ((units cs).take t).length ≤ t := List.length_take_le _ _
                by_cases htq : t < q
                · have htq' : (t : Int) < (q : Int) := by omega
                  have htu : (t : Int) < ((units cs).length : Int) := by omega
                  have hcu := huc t (by omega)
                  have hval : 0 ≤ (units cs).getD t 0 ∧ (units cs).getD t 0 ≤ 16 := by
                    have hlt : t < (units cs).length := by omega
                    rw [List.getD_eq_getElem?_getD, List.getElem?_eq_getElem hlt]
                    exact hsmh.out _ (List.getElem_mem hlt)
                  have hsum : ((units cs).take (t + 1)).sum = ((units cs).take t).sum + (units cs).getD t 0 := by
                    rw [take_snoc (show t < (units cs).length by omega), List.sum_append]
                    simp
                  have hsumh := Lib.hid hsum
                  clear hsum huc
                  generalize (units cs).getD t 0 = y at *
                  generalize ((units cs).take t).sum = s0 at *
                  go_wp2_with fail
                  case' roundEnd =>
                    refine ⟨⟨t + 1, by omega, by simp, by rw [hsumh.out]⟩, ?_⟩
                    simp [intOf]
                    omega
                · have etq : t = q := by omega
                  subst etq
                  have hge : ¬ (t : Int) < (t : Int) := by omega
                  rw [hSh.out]
                  clear huc sm3 sm4
                  go_wp2_with fail
                  have hq0 : (0 : Int) ≤ (t : Int) := by omega
                  have hd1 : ((units cs).length : Int) ≤ (d1 : Int) := by omega
                  have hd2 : (t : Int) ≤ (d1 : Int) := by omega
                  obtain ⟨D1, D2⟩ := U2.drop1 hqu (by omega)
                  by_cases hdt : d1 = t
                  · subst hdt
                    have D2 := D2 rfl
                    go_quiet (fail)
                    replace R3 := R3.below (bdrewN (Below.refl _ _) nq)
                    replace D2 := D2.below (bdrewN (Below.refl _ _) nq)
                    replace hbel2 := bdrewN hbel2 nq
                    clear D1 U2 x0 x1
                    go_wp2_with fail
                    case' roundEnd =>
                      have hz : (units m).length = 0 := by rw [hmh.out, List.length_drop]; omega
                      have hze : units m = [] := List.eq_nil_of_length_eq_zero hz
                      refine ⟨⟨j + 1, m, a2, _, c2, 0, by simp, by omega, rfl, by rw [hz], hm2, hm3, R3, by rw [hze]; exact ⟨by simp, by simp, by unfold maxLen; omega, (fun z hz => by simp at hz), .inl rfl⟩, hbel2⟩, ?_⟩
                      simp [intOf]
                      omega
                  · go_quiet (fail)
                    replace R3 := R3.below (bdrewN (Below.refl _ _) nq)
                    replace D1 := D1.below (bdrewN (Below.refl _ _) nq)
                    replace hbel2 := bdrewN hbel2 nq
                    clear D2 U2 x0 x1
                    go_wp2_with fail
                    case' roundEnd =>
                      refine ⟨⟨j + 1, m, a2, _, c2, _, by simp, by omega, rfl, by rw [hmh.out, List.length_drop], hm2, hm3, R3, by rw [hmh.out, List.length_drop]; exact D1, hbel2⟩, ?_⟩
                      simp [intOf]
                      omega
            · have hOh := Lib.hid (out_units_short hok.out hc0 hqb.1 (by omega))
              have hqu' : ((units cs).length : Int) < (q : Int) := by omega
              go_wp2_with fail
              refine (fifo_Out_is R1 hLh.out (q := (q : Int)) ⟨by omega, by omega⟩ hOh.out).mono ?_
              rintro e w1 ⟨⟨a2, c2, rfl, R2⟩, hw1⟩
              have R3 := R1.below (show Below wr.heap.size wr (w1.alloc (.cells #[.int .i64 0, .int .i64 0, .int .i64 0] 24)) by (repeat (first | assumption | exact Below.refl _ _ | refine ballc ?_ _ | refine bdrew ?_ | refine bdrewN ?_ _ | refine bset ?_ _ _ | refine bsetN ?_ (by omega) _ _ | refine bthen ?_ (by assumption))))
              have U3 := U1.below (show Below wr.heap.size wr (w1.alloc (.cells #[.int .i64 0, .int .i64 0, .int .i64 0] 24)) by (repeat (first | assumption | exact Below.refl _ _ | refine ballc ?_ _ | refine bdrew ?_ | refine bdrewN ?_ _ | refine bset ?_ _ _ | refine bsetN ?_ (by omega) _ _ | refine bthen ?_ (by assumption))))
              have hbel2 : Below w.heap.size w (w1.alloc (.cells #[.int .i64 0, .int .i64 0, .int .i64 0] 24)) := by (repeat (first | assumption | exact Below.refl _ _ | refine ballc ?_ _ | refine bdrew ?_ | refine bdrewN ?_ _ | refine bset ?_ _ _ | refine bsetN ?_ (by omega) _ _ | refine bthen ?_ (by assumption)))
              clear R1 R2 U1 hcell
              go_wp2_with fail
              case' roundEnd =>
                refine ⟨⟨j + 1, cs, a1, u1, c1, d1, by simp, by omega, rfl, rfl, hc0, hok, R3, U3, hbel2⟩, ?_⟩
                simp [intOf]
                omega
          · have hx : ¬ (j : Int) < (n2 : Int) ∨ (j : Int) < (n2 : Int) ∧ ¬ (j : Int) < 20 := by omega
            clear hlt hat2
            have hT := Lib.hid hLh.out.tot
            have hun := Lib.hid (units_len cs)
            have hus := Lib.hid (units_sum cs)
            have hll : (lays cs).length ≤ 1000 := by simp [lays]; omega
            rcases hx with hx | ⟨hx, hx2⟩
            all_goals
              go_wp2_with fail
              refine (fifo_Total a1 c1 (lays cs) _ R1 hll).mono ?_
              rw [hT.out.1, hT.out.2, ← hun.out, ← hus.out]
              rintro e w1 ⟨rfl, hw1⟩
              go_wp2_with fail
              generalize ps (lays cs) = pz at *
              have hW : Below wr.heap.size wr (w1.alloc (.cells #[.int .i64 ((units cs).length : Int), .int .i64 (units cs).sum, .int .i64 pz] 24)) := by (repeat (first | assumption | exact Below.refl _ _ | refine ballc ?_ _ | refine bdrew ?_ | refine bdrewN ?_ _ | refine bset ?_ _ _ | refine bsetN ?_ (by omega) _ _ | refine bthen ?_ (by assumption)))
              have U2 := U1.below hW
              have hbel2 := bthen hbel hW
              have x0 : (w1.alloc (.cells #[.int .i64 ((units cs).length : Int), .int .i64 (units cs).sum, .int .i64 pz] 24)).cell? ⟨w1.heap.size, 0, none⟩ = some (.int .i64 ((units cs).length : Int)) := by simp
              have x1 : (w1.alloc (.cells #[.int .i64 ((units cs).length : Int), .int .i64 (units cs).sum, .int .i64 pz] 24)).cell? ⟨w1.heap.size, 1, none⟩ = some (.int .i64 (units cs).sum) := by simp
              clear R1 U1 hbel hW hw1 hun hus hT
              generalize w1.alloc (.cells #[.int .i64 ((units cs).length : Int), .int .i64 (units cs).sum, .int .i64 pz] 24) = w2 at *
              have hulen := U2.le
              have humax := U2.max
              unfold maxLen at humax
              go_loop [23, 24] (fun s i => ∃ t : Nat, t ≤ (units cs).length ∧ i = .int .i64 t ∧ s = .int .i64 ((units cs).take t).sum) (fun _ i => (units cs).length - (intOf i).toNat)
              case atStart => exact ⟨0, by omega, rfl, by simp⟩
              case round =>
                obtain ⟨t, ht, rfl, rfl⟩ := hrel
                have sm3 := sum_small (l := (units cs).take t) fun z hz => hsmh.out z (List.mem_of_mem_take hz)
                have sm4 : ((units cs).take t).length ≤ t := List.length_take_le _ _
                by_cases htq : t < (units cs).length
                · obtain ⟨ub, uo, rfl, hub, huc⟩ := U2.at_.resolve_left (by omega)
                  have htu : (t : Int) < ((units cs).length : Int) := by omega
                  have hcu := huc t (by omega)
                  have hval : 0 ≤ (units cs).getD t 0 ∧ (units cs).getD t 0 ≤ 16 := by
                    rw [List.getD_eq_getElem?_getD, List.getElem?_eq_getElem htq]
                    exact hsmh.out _ (List.getElem_mem htq)
                  have hsum : ((units cs).take (t + 1)).sum = ((units cs).take t).sum + (units cs).getD t 0 := by
                    rw [take_snoc htq, List.sum_append]
                    simp
                  have hsumh := Lib.hid hsum
                  clear hsum huc x0 x1
                  generalize (units cs).getD t 0 = y at *
                  generalize ((units cs).take t).sum = s0 at *
                  go_wp2_with fail
                  case' roundEnd =>
                    refine ⟨⟨t + 1, by omega, by simp, by rw [hsumh.out]⟩, ?_⟩
                    simp [intOf]
                    omega
                · have etq : t = (units cs).length := by omega
                  subst etq
                  have hge : ¬ ((units cs).length : Int) < ((units cs).length : Int) := by omega
                  rw [List.take_length]
                  clear sm3 sm4
                  go_wp2_with (first | (go_at_call 10; refine (fifo_awake _).mono ?_; rintro e w' ⟨rfl, hwa⟩))
                  go_ret
                  exact ⟨rfl, by (repeat (first | assumption | exact Below.refl _ _ | refine ballc ?_ _ | refine bdrew ?_ | refine bdrewN ?_ _ | refine bset ?_ _ _ | refine bsetN ?_ (by omega) _ _ | refine bthen ?_ (by assumption)))⟩
end Go.Proofs.Ytmipgkgcdacokaa
