/-
  voucher.Plain. Its walk.
-/
import Derived.Test.YtnalblnmplnhmaaGreatVouP
set_option linter.unusedVariables false
set_option linter.unusedSimpArgs false
namespace Go.Proofs.YtnalblnmplnhmaaGreat
open Go.RowKit

/-- Lines that the call itself has made, from block number base on; its cells may be written. -/
def Hold2 (w : World) (base : Nat) (v : Value) (l : List Lin) : Prop :=
  ∃ a cap, v = .slice a l.length cap ∧ l.length ≤ cap ∧ cap ≤ maxLen ∧ (l.length = 0 ∨ ∃ b off, a = some ⟨b, off, none⟩ ∧ base ≤ b ∧ b < w.heap.size ∧ CellsAt w b off (flat2 l) ∧ ∀ i, w.frozen? ⟨b, i, none⟩ = false)
theorem Hold2.row {w : World} {base : Nat} {v : Value} {l : List Lin} (h : Hold2 w base v l) (ha : AllI (flat2 l)) : ∃ a cap, v = .slice a l.length cap ∧ Row w 2 a l.length cap (flat2 l) := by
  obtain ⟨a, cap, rfl, h1, h2, h3⟩ := h
  refine ⟨a, cap, rfl, flat2_len l, h1, h2, ha, ?_⟩
  rcases h3 with h3 | ⟨b, off, rfl, -, h4, h5, -⟩
  · exact .inl h3
  · exact .inr ⟨b, off, rfl, h4, h5⟩
theorem Hold2.below {w w' : World} {base : Nat} {v : Value} {l : List Lin} (h : Hold2 w base v l) (g : Below w.heap.size w w') : Hold2 w' base v l := by
  obtain ⟨a, cap, rfl, h1, h2, h3⟩ := h
  refine ⟨a, cap, rfl, h1, h2, ?_⟩
  rcases h3 with h3 | ⟨b, off, rfl, hb, h4, h5, h6⟩
  · exact .inl h3
  · exact .inr ⟨b, off, rfl, hb, Nat.lt_of_lt_of_le h4 g.size, h5.below h4 g, fun i => (g.frozen (p := ⟨b, i, none⟩) h4).trans (h6 i)⟩
theorem Hold2.mono {w : World} {base base' : Nat} {v : Value} {l : List Lin} (h : Hold2 w base v l) (g : base' ≤ base) : Hold2 w base' v l := by
  obtain ⟨a, cap, rfl, h1, h2, h3⟩ := h
  refine ⟨a, cap, rfl, h1, h2, ?_⟩
  rcases h3 with h3 | ⟨b, off, rfl, hb, h4⟩
  · exact .inl h3
  · exact .inr ⟨b, off, rfl, Nat.le_trans g hb, h4⟩
theorem Hold2.nil {w : World} {base : Nat} {a : Option Addr} {cap : Nat} (h : cap ≤ maxLen) : Hold2 w base (.slice a 0 cap) [] := ⟨a, cap, rfl, by simp, h, .inl rfl⟩

/-- What the call has made, and is not empty. -/
theorem OwnI.full {w : World} {base n : Nat} {e : TypeId} {v : Value} {l : List Lin} (h : OwnI w base e 2 v n (flat2 l)) (h0 : 0 < n) :
    ∃ g cap, v = .slice (some ⟨g, 0, none⟩) n cap ∧ base ≤ g ∧ g < w.heap.size ∧ n ≤ cap ∧ cap ≤ maxLen ∧ CellsAt w g 0 (flat2 l) ∧ ∀ i, w.frozen? ⟨g, i, none⟩ = false := by
  have hl := h.len
  obtain ⟨h1, h2⟩ := id h
  rcases h2 with ⟨rfl, hn⟩ | ⟨b, cap, cur, rfl, hb, hh, hn, hc, hs, ht⟩
  · omega
  · refine ⟨b, cap, rfl, hb, (Array.getElem?_eq_some_iff.1 hh).1, hn, hc, ?_, fun i => World.ownsRow.frozenAt h i⟩
    intro i hi
    have c := World.ownsRow.cellAt (w := w) (base := base) (e := e) (size := 2) (g := b) (n := n) (cap := cap) (xs := ints (flat2 l)) h i (by omega)
    rw [Nat.zero_add, c, ints_get, List.getElem?_eq_getElem hi, List.getD_eq_getElem?_getD, List.getElem?_eq_getElem hi]
    rfl
theorem OwnI.stored {w : World} {base n g cap : Nat} {e : TypeId} {k : Nat} {zs : List Int} (h : OwnI w base e k (.slice (some ⟨g, 0, none⟩) n cap) n zs) (j : Nat) (z : Int) :
    OwnI (w.setCell ⟨g, j, none⟩ (.int .i64 z)) base e k (.slice (some ⟨g, 0, none⟩) n cap) n (zs.set j z) := by
  have := (World.ownsRow.stored h j (.int .i64 z)).1
  unfold OwnI
  rw [show ints (zs.set j z) = (ints zs).set j (.int .i64 z) by simp [ints, List.map_set]]
  exact this
theorem flat2_snoc (l : List Lin) (x : Lin) : flat2 (l ++ [x]) = flat2 l ++ [x.a, x.n] := by simp [flat2]
theorem flat2_last (A : List Lin) (y : Lin) (z : Int) : (flat2 (A ++ [y])).set (A.length * 2 + 1) z = flat2 (A ++ [⟨y.a, z⟩]) := by
  rw [flat2_snoc, flat2_snoc, List.set_append]
  have := flat2_len A
  rw [if_neg (by omega), this]
  simp

section
variable (a : Option Addr) (cap : Nat) (w : World)
theorem ins_zero (hm : cap ≤ maxLen) (F : Value) : Calls Tryz.prog 219 #[.slice a 0 cap, .int .i64 0, .int .i64 0, F] w fun r w' => r = .returned (.tuple #[]) ∧ w = w' := by
  go_enter Tryz.func219, Tryz.ntmps219
  go_wp2_with fail
  refine wp_loop_rounds 1 ?_
  rw [rounds_succ]
  go_wp2_with fail
  exact bodyPost_end (v := .tuple #[]) (by simp [results, Tryz.results219, go_sem]) rfl ⟨rfl, rfl⟩
theorem stable_zero (hm : cap ≤ maxLen) (F : Value) : Calls Tryz.prog 209 #[.slice a 0 cap, .int .i64 0, F] w fun r w' => r = .returned (.tuple #[]) ∧ w = w' := by
  go_enter Tryz.func209, Tryz.ntmps209
  go_wp2_with fail
  refine wp_loop_rounds 1 ?_
  rw [rounds_succ]
  go_wp2_with fail
  refine (ins_zero a cap _ hm F).mono ?_
  rintro r w1 ⟨rfl, rfl⟩
  go_wp2_with fail
  refine wp_loop_rounds 1 ?_
  rw [rounds_succ]
  go_wp2_with fail
  exact bodyPost_end (v := .tuple #[]) (by simp [results, Tryz.results209, go_sem]) rfl ⟨rfl, rfl⟩
theorem func_zero (hm : cap ≤ maxLen) (F : Value) : Calls Tryz.prog 188 #[.slice a 0 cap, F] w fun r w' => r = .returned (.tuple #[]) ∧ w = w' := by
  go_enter Tryz.func188, Tryz.ntmps188
  go_wp2_with fail
  refine (stable_zero a cap _ hm F).mono ?_
  rintro r w1 ⟨rfl, rfl⟩
  go_wp2_with fail
  exact bodyPost_end (v := .tuple #[]) (by simp [results, Tryz.results188, go_sem]) rfl ⟨rfl, rfl⟩
theorem by_zero (hm : cap ≤ maxLen) : Calls Tryz.prog 146 #[.slice a 0 cap, .func (.func 147) #[] #[]] w fun r w' => r = .returned (.tuple #[]) ∧ Below w.heap.size w w' := by
  go_enter Tryz.func146, Tryz.ntmps146
  go_wp2_with fail
  refine (func_zero a cap _ hm _).mono ?_
  rintro r w1 ⟨rfl, rfl⟩
  go_wp2_with fail
  exact bodyPost_end (v := .tuple #[]) (by simp [results, Tryz.results146, go_sem]) rfl ⟨rfl, (Below.refl _ _).alloc (Nat.le_refl _) _⟩
end

theorem delete_nil {F : FuncId} {p : Lin → Bool} (hF : Pred F p) (w : World) :
    Calls Tryz.prog 148 #[.slice none 0 0, .func (.func F) #[] #[]] w fun e w' => e = .returned (.slice none 0 0) ∧ Below w.heap.size w w' := by
  have hidx := idx_func hF none 0 []
  go_enter Tryz.func148, Tryz.ntmps148
  clear hF
  go_wp2_with fail
  refine (hidx w (Row.nil _ _)).mono ?_
  rw [show idxP p [] = -1 from rfl]
  rintro e w1 ⟨rfl, hw1⟩
  go_wp2_with fail
  go_ret
  exact ⟨rfl, hw1⟩

section
variable {P : Program} {f : FuncId} {args : Array Value} {w : World} {v : Value}
theorem quiet_add_left {a n : Nat} (h : Calls P f args (w.drewN (a + n)) fun e w' => e = .returned v ∧ w.drewN (a + n) = w') :
    Calls P f args (w.drewN (a + n)) fun e w'' => e = .returned v ∧ ∃ m, w'' = w.drewN (a + m) := h.mono fun _ _ ⟨he, hm⟩ => ⟨he, n, hm.symm⟩
end
theorem add_ok {x y : Int} (h : addOk x y = true) (w : World) : Calls Tryz.prog 95 #[.int .i64 x, .int .i64 y] w fun e w' => e = .returned (.tuple #[.int .i64 (x + y), .int .i64 0]) ∧ w = w' := by
  have := money_Add x y w
  rw [(addV_of h).1, (addV_of h).2] at this
  exact this
theorem add_no {x y : Int} (h : addOk x y = false) (w : World) : Calls Tryz.prog 95 #[.int .i64 x, .int .i64 y] w fun e w' => e = .returned (.tuple #[.int .i64 0, .int .i64 2]) ∧ w = w' := by
  have := money_Add x y w
  rw [(addV_of_not h).1, (addV_of_not h).2] at this
  exact this

/-- Lines of the call's own, and an error. -/
def HoldP (w : World) (r : List Lin × Int) (e : Ending) (w' : World) : Prop := ∃ v, e = .returned (.tuple #[v, .int .i64 r.2]) ∧ Hold2 w' w.heap.size v r.1 ∧ Below w.heap.size w w'

set_option maxRecDepth 20000 in
set_option maxHeartbeats 4000000 in
/-- voucher.Plain. -/
theorem vou_Plain (a : Option Addr) (cap : Nat) (l : List Lin) (w : World) (h : Row w 2 a l.length cap (flat2 l)) (h20 : l.length ≤ 1000000) :
    Calls Tryz.prog 104 #[.slice a l.length cap] w (HoldP w (plainS l)) := by
  have hall := h.all
  generalize hr : plainS l = r
  have hrh := Lib.hid hr
  clear hr
  go_enter Tryz.func104, Tryz.ntmps104
  go_wp2_with fail
  refine (contains_func pred_P1 a cap l _ h).mono ?_
  rintro e w1 ⟨rfl, hw1⟩
  have h1 := h.below hw1
  cases hbad : l.any badP
  · clear h
    go_wp2_with fail
    refine (Clone_Line a l.length cap (flat2 l) _ h1 (by omega)).mono ?_
    rintro e w2 ⟨⟨v2, rfl, O2⟩, hw2⟩
    have hbel2 : Below w.heap.size w w2 := by (repeat (first | assumption | exact Below.refl _ _ | refine ballc ?_ _ | refine bdrew ?_ | refine bdrewN ?_ _ | refine bset ?_ _ _ | refine bsetN ?_ (by omega) _ _ | refine bthen ?_ (by assumption)))
    by_cases h0 : l = []
    · subst h0
      have hr : r = ([], 0) := by rw [← hrh.out]; rfl
      subst hr
      obtain ⟨a2, c2, rfl, R2⟩ := O2.row (by intro z hz; simp [flat2] at hz)
      clear hrh h1 hw1 hw2 O2 hall
      go_wp2_with fail
      refine (by_zero a2 c2 w2 R2.max).mono ?_
      rintro e w3 ⟨rfl, hw3⟩
      go_wp2_with fail
      refine wp_loop_rounds 1 ?_
      rw [rounds_succ]
      go_wp2_with fail
      refine (delete_nil pred_P3 w3).mono ?_
      rintro e w4 ⟨rfl, hw4⟩
      go_wp2_with fail
      go_ret2
      exact ⟨_, rfl, Hold2.nil (by unfold maxLen; omega), by (repeat (first | assumption | exact Below.refl _ _ | refine ballc ?_ _ | refine bdrew ?_ | refine bdrewN ?_ _ | refine bset ?_ _ _ | refine bsetN ?_ (by omega) _ _ | refine bthen ?_ (by assumption)))⟩
    · have hpos : 0 < l.length := List.length_pos_iff.2 h0
      obtain ⟨b, c2, rfl, hbB, hb, hnc, hcm, hcs, hfz⟩ := O2.full hpos
      clear O2 h1
      go_wp2_with fail
      refine (by_calls b 0 c2 l w2 hcs hfz hb hnc hcm h20).mono ?_
      rintro e w3 ⟨rfl, m, hml, hmr, hms, hmc, hK⟩
      have hgood : ∀ x, x ∈ m → 0 ≤ x.a ∧ x.a < 17 ∧ inB x.n = true := fun x hx => good_of hbad ((Stab.mem hms).1 hx)
      have hbel3 : Below w.heap.size w w3 := hbel2.trans (hK.below hbel2.size (Nat.le_trans hw1.size hbB))
      have hb3 : b < w3.heap.size := Nat.lt_of_lt_of_le hb hK.size
      have hall2 := Lib.hid hgood
      have hsz3 := hbel3.size
      have hmlh := Lib.hid hml
      have hmrh := Lib.hid hmr
      obtain ⟨n, hN⟩ : ∃ n, l.length = n := ⟨_, rfl⟩
      rw [hN] at hnc hpos h20 ⊢
      have hNh := Lib.hid hN
      clear hgood hw1 hw2 hcs hfz hK hml hmr hN h0
      go_wp2_with fail
      go_loopw [5, 19] (fun o i wr => ∃ (j : Nat) (out : List Lin), j ≤ n ∧ i = .int .i64 j ∧ OwnI wr w3.heap.size 131 2 o out.length (flat2 out) ∧ Hid (Added (m.take j) out) ∧ out.length ≤ j ∧ Below w3.heap.size w3 wr) (fun _ i _ => n - (intOf i).toNat)
      case atStart => exact ⟨0, [], by omega, rfl, OwnI.nil _ _ _ _, Added.nil, by simp, Below.refl _ _⟩
      case round =>
        obtain ⟨j, out, hj, rfl, O, hAd, hol, hbel⟩ := hrel
        have hszr := hbel.size
        by_cases hlt : j < n
        · have hltI : (j : Int) < (n : Int) := by omega
          obtain ⟨x, hx⟩ : ∃ x, m[j]? = some x := ⟨m[j]'(by rw [hmlh.out, hNh.out]; omega), by simp [hmlh.out, hNh.out, hlt]⟩
          obtain ⟨c0, c1⟩ := (hmc.below hb3 hbel).line hx
          rw [Nat.zero_add] at c0 c1
          have htk : m.take (j + 1) = m.take j ++ [x] := by rw [List.take_add_one, hx]; rfl
          have hrise : Rises Lin.a (m.take j ++ [x]) := by rw [← htk]; exact List.Pairwise.take hmrh.out
          have hxg := hall2.out x (List.mem_of_getElem? hx)
          have hxh := Lib.hid hx
          have htkh := Lib.hid htk
          have hriseh := Lib.hid hrise
          have hxgh := Lib.hid hxg
          clear hx htk hrise hxg
          rcases split_last out with rfl | ⟨A, y, rfl⟩
          · obtain ⟨a5, c5, rfl, R5⟩ := O.row (by intro z hz; simp [flat2] at hz)
            clear R5
            go_wp2_with fail
            go_quiet (fail)
            go_wp2_with (at_builtin; refine wpList_push _ rfl _ _ 132 rfl w3.heap.size 131 2 elem_Line _ 0 (flat2 []) rfl (O.below (by (repeat (first | assumption | exact Below.refl _ _ | refine ballc ?_ _ | refine bdrew ?_ | refine bdrewN ?_ _ | refine bset ?_ _ _ | refine bsetN ?_ (by omega) _ _ | refine bthen ?_ (by assumption))))) (wr.heap.size + 1) 0 1 [x.a, x.n] rfl rfl (lit2 (x := x) (by simp)) ?c1 ?c2 ?_)
            case c1 => omega
            case c2 => simp; omega
            · intro v' w4 hown' hb1
              have hA2 : Added (m.take (j + 1)) ([] ++ [x]) := by rw [htkh.out]; exact hAd.out.more hriseh.out hxgh.out.2.2 (by simp)
              have hA2h := Lib.hid hA2
              have hs1 : Below w3.heap.size w3 w4 := Below.trans (by (repeat (first | assumption | exact Below.refl _ _ | refine ballc ?_ _ | refine bdrew ?_ | refine bdrewN ?_ _ | refine bset ?_ _ _ | refine bsetN ?_ (by omega) _ _ | refine bthen ?_ (by assumption)))) hb1
              clear O hb1 hA2
              go_wp2
              go_roundw
              case rel => exact ⟨j + 1, [] ++ [x], by omega, by go_num, by rw [flat2_snoc]; exact hown', hA2h.out, by simp, hs1⟩
              case measure => simp [intOf]; omega
          · obtain ⟨g, c5, rfl, hgB, hgl, hnc5, hcm5, hgc, hgf⟩ := O.full (by simp)
            have hgy := hgc.line (j := A.length) (x := y) (by simp)
            rw [Nat.zero_add] at hgy
            obtain ⟨q, hq⟩ : ∃ q, A.length = q := ⟨_, rfl⟩
            have hlen : (A ++ [y]).length = q + 1 := by simp; omega
            rw [hq] at hgy
            obtain ⟨y0, y1⟩ := hgy
            have hgf1 := hgf (q * 2 + 1)
            have hq1 : (0 : Int) ≤ (q : Int) := by omega
            have hq2 : IntKind.i64.wrap ((q : Int) + 1 - 1) = (q : Int) := (IntWalk.i64_in _ (by omega)).trans (by omega)
            have hq3 : IntKind.i64.wrap (q : Int) = (q : Int) := IntWalk.i64_in _ (by omega)
            have hq4 : (q : Int) < (q : Int) + 1 := by omega
            have hq5 : decide ((0 : Int) ≤ (q : Int)) = true := decide_eq_true hq1
            have hgl1 : g < wr.heap.size + 1 := by omega
            have hlenh := Lib.hid hlen
            have hqh := Lib.hid hq
            have hq6 : (q : Int) ≤ 1000000 := by omega
            rw [hlen] at O ⊢
            clear hlen hq hgc hgf
            by_cases hya : y.a = x.a
            · have hb1 : (y.a == x.a) = true := by simpa using hya
              have hb2 : decide (y.a = x.a) = true := by simpa using hya
              have hyah := Lib.hid hya
              clear hya
              cases hok : addOk y.n x.n
              · have hr : r = ([], 2) := by
                  rw [← hrh.out]
                  have g := hxgh.out
                  have e := hyah.out
                  exact plain_big (a := y.a) hbad hms (by omega) (hAd.out.stop e hok rfl hxh.out)
                subst hr
                clear hrh
                go_wp2_with fail
                go_quiet (fail)
                go_wp2_with fail
                go_quiet ((go_at_call 95; first | exact quiet_add_left (add_no hok _) | exact quiet_left (add_no hok _)))
                go_wp2_with fail
                go_ret2
                exact ⟨_, rfl, Hold2.nil (by unfold maxLen; omega), Below.trans hbel3 (Below.mono (by (repeat (first | assumption | exact Below.refl _ _ | refine ballc ?_ _ | refine bdrew ?_ | refine bdrewN ?_ _ | refine bset ?_ _ _ | refine bsetN ?_ (by omega) _ _ | refine bthen ?_ (by assumption)))) hsz3)⟩
              · have hbd := addOk_bd hok
                go_wp2_with fail
                go_quiet (fail)
                go_wp2_with fail
                go_quiet ((go_at_call 95; first | exact quiet_add_left (add_ok hok _) | exact quiet_left (add_ok hok _)))
                go_wp2_with fail
                case' roundEnd =>
                  have hA2 : Hid (Added (m.take (j + 1)) (A ++ [⟨y.a, y.n + x.n⟩])) := by rw [Hid]; rw [htkh.out]; exact hAd.out.same hriseh.out hyah.out hok
                  have O2 : ∀ K, OwnI _ _ _ _ _ _ _ := fun K => (O.below (w' := (wr.alloc (.cells #[.int .i64 x.a, .int .i64 x.n] 131)).drewN K) (by (repeat (first | assumption | exact Below.refl _ _ | refine ballc ?_ _ | refine bdrew ?_ | refine bdrewN ?_ _ | refine bset ?_ _ _ | refine bsetN ?_ (by omega) _ _ | refine bthen ?_ (by assumption))))).stored (q * 2 + 1) (y.n + x.n)
                  have hfl : (flat2 (A ++ [y])).set (q * 2 + 1) (y.n + x.n) = flat2 (A ++ [⟨y.a, y.n + x.n⟩]) := by rw [← hqh.out]; exact flat2_last A y _
                  rw [hfl] at O2
                  have hs1 : ∀ K, Below w3.heap.size w3 (((wr.alloc (.cells #[.int .i64 x.a, .int .i64 x.n] 131)).drewN K).setCell ⟨g, q * 2 + 1, none⟩ (.int .i64 (y.n + x.n))) := fun K => Below.setCell (by (repeat (first | assumption | exact Below.refl _ _ | refine ballc ?_ _ | refine bdrew ?_ | refine bdrewN ?_ _ | refine bset ?_ _ _ | refine bsetN ?_ (by omega) _ _ | refine bthen ?_ (by assumption)))) (p := ⟨g, q * 2 + 1, none⟩) hgB _
                  refine ⟨⟨j + 1, A ++ [⟨y.a, y.n + x.n⟩], by omega, by go_num, ?_, hA2, by simp; have := hqh.out; have := hlenh.out; simp at hol; omega, hs1 _⟩, ?_⟩
                  · have hl2 : (A ++ [(⟨y.a, y.n + x.n⟩ : Lin)]).length = q + 1 := by simp; exact hqh.out
                    rw [hl2]
                    exact O2 _
                  · simp [intOf]; omega
            · have hb1 : (y.a == x.a) = false := by simpa using hya
              have hb2 : decide (y.a = x.a) = false := by simpa using hya
              have hA2 : Added (m.take (j + 1)) ((A ++ [y]) ++ [x]) := by
                rw [htkh.out]
                refine hAd.out.more hriseh.out hxgh.out.2.2 fun A' y' e => ?_
                have := List.append_inj' e rfl
                simp at this
                rw [← this.2]
                exact hya
              have hA2h := Lib.hid hA2
              clear hA2
              go_wp2_with fail
              go_quiet (fail)
              go_wp2_with (at_builtin; refine wpList_push _ rfl _ _ 132 rfl w3.heap.size 131 2 elem_Line _ (q + 1) (flat2 (A ++ [y])) rfl (O.below (by (repeat (first | assumption | exact Below.refl _ _ | refine ballc ?_ _ | refine bdrew ?_ | refine bdrewN ?_ _ | refine bset ?_ _ _ | refine bsetN ?_ (by omega) _ _ | refine bthen ?_ (by assumption))))) (wr.heap.size + 1) 0 1 [x.a, x.n] rfl rfl (lit2 (x := x) (by simp)) ?c1 ?c2 ?_)
              case c1 => omega
              case c2 => simp; omega
              · intro v' w4 hown' hb1
                have hs1 : Below w3.heap.size w3 w4 := Below.trans (by (repeat (first | assumption | exact Below.refl _ _ | refine ballc ?_ _ | refine bdrew ?_ | refine bdrewN ?_ _ | refine bset ?_ _ _ | refine bsetN ?_ (by omega) _ _ | refine bthen ?_ (by assumption)))) hb1
                have hl2 : ((A ++ [y]) ++ [x]).length = q + 1 + 1 := by simp; have := hqh.out; omega
                have hl2h := Lib.hid hl2
                clear O hb1 hl2
                go_wp2
                go_roundw
                case rel => exact ⟨j + 1, (A ++ [y]) ++ [x], by omega, by go_num, by rw [hl2h.out, flat2_snoc]; exact hown', hA2h.out, by rw [hl2h.out]; have := hlenh.out; omega, hs1⟩
                case measure => simp [intOf]; omega
        · have ej : j = n := by omega
          subst ej
          have hge : ¬ (j : Int) < (j : Int) := by omega
          have hAm : Added m out := by have := hAd.out; rwa [List.take_of_length_le (by rw [hmlh.out, hNh.out]; omega)] at this
          have hout : out ≠ [] := by
            intro e
            obtain ⟨x, hx⟩ : ∃ x, x ∈ m := ⟨m[0]'(by rw [hmlh.out, hNh.out]; omega), List.getElem_mem _⟩
            obtain ⟨y, hy, -⟩ := (hAm.acc x.a).2 ⟨x, hx, rfl⟩
            rw [e] at hy
            simp at hy
          obtain ⟨g, c5, rfl, hgB, hgl, hnc5, hcm5, hgc, hgf⟩ := O.full (List.length_pos_iff.2 hout)
          have hr : r = (out.filter (fun x => !zeroN x), 0) := by rw [← hrh.out]; exact plain_ok hbad hms hAm
          have hAo : AllI (flat2 out) := flat2_of fun y hy => by
            obtain ⟨x, hx, e⟩ := (hAm.acc y.a).1 ⟨y, hy, rfl⟩
            have g := hall2.out x hx
            have s := sumGo_in _ 0 y.n (by decide +kernel) (hAm.sum y hy)
            have s := inB_iff.1 s
            exact ⟨⟨by omega, by omega⟩, ⟨by omega, by omega⟩⟩
          subst hr
          have hd := delete_func pred_P3 g 0 c5 out wr hgc hgf hgl hnc5 hcm5 hAo
          clear hrh hAm O hgc hAd
          go_wp2_with fail
          refine hd.mono ?_
          rintro e w5 ⟨rfl, hC5, hK5⟩
          go_wp2_with fail
          go_ret2
          refine ⟨_, rfl, ⟨_, c5, rfl, Nat.le_trans (List.length_filter_le _ _) hnc5, hcm5, .inr ⟨g, 0, rfl, Nat.le_trans hsz3 hgB, Nat.lt_of_lt_of_le hgl hK5.size, hC5, fun i => (hK5.froz i).trans (hgf i)⟩⟩, ?_⟩
          exact hbel3.trans ((hbel.trans (hK5.below hszr hgB)).mono hsz3)
  · have hr : r = ([], 1) := by rw [← hrh.out]; exact plain_bad hbad
    subst hr
    clear hrh
    go_wp2_with fail
    go_ret2
    exact ⟨_, rfl, Hold2.nil (by unfold maxLen; omega), hw1⟩
end Go.Proofs.YtnalblnmplnhmaaGreat
