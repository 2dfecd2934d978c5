/-
  The document's own plain voucher. Its walk.
-/
import Derived.Test.YtnkdbjmfpebcgaaVou11
import Derived.Test.YtnkdbjmfpebcgaaVouS
import Derived.Test.YtnkdbjmfpebcgaaVou7
set_option linter.unusedVariables false
set_option linter.unusedSimpArgs false
namespace Go.Proofs.Ytnkdbjmfpebcgaa
open Go.RowKit

theorem radd_ok {a b : Int} (h : addOk a b = true) (w : World) : Calls Try.prog 37 #[.int .i64 a, .int .i64 b] w fun e w' => e = .returned (.tuple #[.int .i64 (a + b), .int .i64 0]) ∧ w = w' := by
  have := ref_Add a b w
  unfold addV addE at this
  rw [h] at this
  exact this
theorem radd_no {a b : Int} (h : addOk a b = false) (w : World) : Calls Try.prog 37 #[.int .i64 a, .int .i64 b] w fun e w' => e = .returned (.tuple #[.int .i64 0, .int .i64 2]) ∧ w = w' := by
  have := ref_Add a b w
  unfold addV addE at this
  rw [h] at this
  exact this

theorem getD_set_self {l : List Int} {i : Nat} {v : Int} (h : i < l.length) : (l.set i v).getD i 0 = v := by
  rw [List.getD_eq_getElem?_getD, List.getElem?_set_self h]; rfl
theorem getD_set_other {l : List Int} {i j : Nat} {v : Int} (h : i ≠ j) : (l.set i v).getD j 0 = l.getD j 0 := by
  rw [List.getD_eq_getElem?_getD, List.getElem?_set_ne h, ← List.getD_eq_getElem?_getD]
/-- What each account has. -/
def haveL (P : List Lin) : List Int := (List.range 17).map fun (a : Nat) => sumV (accA P (a : Int))
theorem haveL_len (P : List Lin) : (haveL P).length = 17 := by simp [haveL]
theorem haveL_get (P : List Lin) {a : Nat} (h : a < 17) : (haveL P).getD a 0 = sumV (accA P (a : Int)) := by simp [haveL, List.getD_eq_getElem?_getD, h]
/-- No account has gone out of bounds. -/
def Sound (P : List Lin) : Prop := ∀ a : Nat, a < 17 → sumGo 0 (accA P (a : Int)) = some ((haveL P).getD a 0)
theorem Sound.nil : Sound [] := fun a h => by rw [haveL_get _ h]; rfl
theorem Sound.more {P : List Lin} {x : Lin} (h : Sound P) (h0 : 0 ≤ x.a) (h1 : x.a < 17) (ho : addOk ((haveL P).getD x.a.toNat 0) x.n = true) :
    Sound (P ++ [x]) ∧ haveL (P ++ [x]) = (haveL P).set x.a.toNat ((haveL P).getD x.a.toNat 0 + x.n) := by
  have hN : (x.a.toNat : Int) = x.a := Int.toNat_of_nonneg h0
  have hg : sumGo 0 (accA (P ++ [x]) x.a) = some ((haveL P).getD x.a.toNat 0 + x.n) := by
    have := h x.a.toNat (by omega)
    rw [hN] at this
    rw [accA_snoc, if_pos rfl, sumGo_snoc' _ _ _ this, ho]
    rfl
  have key : ∀ a : Nat, a < 17 → sumGo 0 (accA (P ++ [x]) (a : Int)) = some (((haveL P).set x.a.toNat ((haveL P).getD x.a.toNat 0 + x.n)).getD a 0) := by
    intro a ha
    by_cases e : x.a.toNat = a
    · subst e
      rw [hN, hg, getD_set_self (by rw [haveL_len]; omega)]
    · rw [accA_snoc, if_neg (by omega), h a ha, getD_set_other e]
  have e : haveL (P ++ [x]) = (haveL P).set x.a.toNat ((haveL P).getD x.a.toNat 0 + x.n) := by
    apply List.ext_getElem
    · rw [haveL_len, List.length_set, haveL_len]
    · intro i h2 h3
      have hi : i < 17 := by rw [haveL_len] at h2; exact h2
      have k := key i hi
      have g := haveL_get (P ++ [x]) hi
      rw [(sumV_some k).1] at g
      rw [List.getD_eq_getElem?_getD, List.getElem?_eq_getElem h2, List.getD_eq_getElem?_getD, List.getElem?_eq_getElem h3] at g
      exact g
  exact ⟨fun a ha => by rw [e]; exact key a ha, e⟩
theorem Sound.stop {l : List Lin} {j : Nat} {x : Lin} (h : Sound (l.take j)) (hx : l[j]? = some x) (hb : l.any badP = false) (ho : addOk ((haveL (l.take j)).getD x.a.toNat 0) x.n = false) : plainS l = ([], 2) := by
  obtain ⟨h0, h1, -⟩ := good_of hb (List.mem_of_getElem? hx)
  refine plain_big (a := x.a) hb (Stab.refl l) ⟨h0, h1⟩ ?_
  have hN : (x.a.toNat : Int) = x.a := Int.toNat_of_nonneg h0
  have hs := h x.a.toNat (by omega)
  rw [hN] at hs
  have e2 : l.take (j + 1) = l.take j ++ [x] := by rw [List.take_add_one, hx]; rfl
  have h3 : sumGo 0 (accA (l.take (j + 1)) x.a) = none := by
    rw [e2, accA_snoc, if_pos rfl, sumGo_snoc' _ _ _ hs, ho]; rfl
  have h4 : accA l x.a = accA (l.take (j + 1)) x.a ++ accA (l.drop (j + 1)) x.a := by
    conv => lhs; rw [← List.take_append_drop (j + 1) l]
    unfold accA amts
    rw [List.filter_append, List.map_append]
  rw [h4, sumGo_append, h3]
  rfl
/-- The lines of the accounts so far. -/
def lineL (l : List Lin) (k : Nat) : List Lin := ((List.range k).map fun (a : Nat) => (⟨(a : Int), (haveL l).getD a 0⟩ : Lin)).filter fun x => !zeroN x
theorem lineL_succ (l : List Lin) (k : Nat) : lineL l (k + 1) = lineL l k ++ [(⟨(k : Int), (haveL l).getD k 0⟩ : Lin)].filter (fun x => !zeroN x) := by
  unfold lineL
  rw [List.range_succ, List.map_append, List.filter_append]
  rfl
theorem lineL_len (l : List Lin) (k : Nat) : (lineL l k).length ≤ k := by
  unfold lineL
  refine Nat.le_trans (List.length_filter_le _ _) ?_
  simp
theorem Sound.plain {l : List Lin} (h : Sound l) (hb : l.any badP = false) : plainS l = (lineL l 17, 0) := by
  have hE : (List.range 17).any (fun (a : Nat) => decide (sumE (accA l (a : Int)) ≠ 0)) = false := by
    rw [List.any_eq_false]
    intro a ha
    have := (sumV_some (h a (List.mem_range.1 ha))).2
    simp [this]
  unfold plainS
  rw [hb, hE]
  simp only [Bool.false_eq_true, if_false, Prod.mk.injEq, and_true]
  unfold lineL
  have e : ((List.range 17).map fun (a : Nat) => (⟨(a : Int), sumV (accA l (a : Int))⟩ : Lin)) = (List.range 17).map fun (a : Nat) => (⟨(a : Int), (haveL l).getD a 0⟩ : Lin) := List.map_congr_left fun a ha => by
    rw [haveL_get _ (List.mem_range.1 ha)]
  rw [e]

theorem OwnI.mono' {w : World} {base base' : Nat} {e : TypeId} {k : Nat} {v : Value} {n : Nat} {zs : List Int} (h : OwnI w base e k v n zs) (g : base' ≤ base) : OwnI w base' e k v n zs := by
  obtain ⟨h1, h2⟩ := h
  refine ⟨h1, ?_⟩
  rcases h2 with h2 | ⟨b, cap, cur, rfl, hb, h3⟩
  · exact .inl h2
  · exact .inr ⟨b, cap, cur, rfl, Nat.le_trans g hb, h3⟩
/-- What the document's plain voucher is. -/
def RefPl (w : World) (r : List Lin × Int) (e : Ending) (w' : World) : Prop :=
  ∃ v, e = .returned (.tuple #[v, .int .i64 r.2]) ∧ OwnI w' w.heap.size 25 2 v r.1.length (flat2 r.1) ∧ Below w.heap.size w w'

set_option maxRecDepth 20000 in
set_option maxHeartbeats 4000000 in
theorem refl_Plain (a : Option Addr) (cap : Nat) (l : List Lin) (w : World) (h : Row w 2 a l.length cap (flat2 l)) (hn : l.length ≤ 1000000) :
    Calls Try.prog 12 #[.slice a l.length cap] w (RefPl w (plainS l)) := by
  obtain ⟨n, hN⟩ : ∃ n, l.length = n := ⟨_, rfl⟩
  have hall := h.all
  have hat := h.at_
  have hmax := h.max
  have hle := h.le
  unfold maxLen at hmax
  clear h
  rw [hN] at hn hat hle ⊢
  have hcells : ∀ j, j < n → ∃ b off x, l[j]? = some x ∧ a = some ⟨b, off, none⟩ ∧ b < w.heap.size ∧ ∀ w', Below w.heap.size w w' → w'.cell? ⟨b, off + j * 2, none⟩ = some (.int .i64 x.a) ∧ w'.cell? ⟨b, off + j * 2 + 1, none⟩ = some (.int .i64 x.n) := by
    intro j hj
    obtain ⟨b, off, e, hb, hc⟩ : ∃ b off, a = some ⟨b, off, none⟩ ∧ b < w.heap.size ∧ CellsAt w b off (flat2 l) := by
      rcases hat with h0 | h0
      · omega
      · exact h0
    exact ⟨b, off, l[j]'(by omega), List.getElem?_eq_getElem _, e, hb, fun w' hw => (hc.below hb hw).line (List.getElem?_eq_getElem _)⟩
  have hch := Lib.hid hcells
  have hNh := Lib.hid hN
  obtain ⟨r, hr⟩ : ∃ r, plainS l = r := ⟨_, rfl⟩
  rw [hr]
  have hrh := Lib.hid hr
  clear hcells hat hN hr
  go_enter Try.func12, Try.ntmps12
  go_wp2_with fail
  go_loopw [4] (fun i wr => ∃ j : Nat, j ≤ n ∧ i = .int .i64 j ∧ Hid ((l.take j).any badP = false) ∧ Below w.heap.size w wr) (fun i _ => n - (intOf i).toNat)
  case atStart => exact ⟨0, by omega, rfl, rfl, Below.refl _ _⟩
  case round =>
    obtain ⟨j, hj, rfl, hnb, hbel⟩ := hrel
    have hsz := hbel.size
    by_cases hlt : j < n
    · obtain ⟨b, off, x, hx, rfl, hb, hc⟩ := hch.out j hlt
      obtain ⟨c0, c1⟩ := hc wr hbel
      have hltI : (j : Int) < (n : Int) := by omega
      have hj0 : (0 : Int) ≤ (j : Int) := by omega
      have s2 := lany_snoc badP hx
      rw [hnb.out, Bool.false_or] at s2
      have hbad : badP x = true → r = ([], 1) := fun h => by rw [← hrh.out]; exact plain_bad (lany_of hx h)
      clear hc hx
      obtain ⟨xa, xn⟩ := x
      simp only at c0 c1
      cases hbp : badP ⟨xa, xn⟩ with
      | true =>
        have hr := hbad hbp
        subst hr
        clear hbad s2
        go_wp2_with fail
        refine (refl_in ⟨xa, xn⟩ _).mono ?_
        rw [hbp]
        rintro e w1 ⟨rfl, hw1⟩
        clear hbp
        go_wp2_with fail
        go_ret2
        exact ⟨_, rfl, OwnI.nil _ _ _ _, by (repeat (first | assumption | exact Below.refl _ _ | refine ballc ?_ _ | refine bdrew ?_ | refine bdrewN ?_ _ | refine bset ?_ _ _ | refine bsetN ?_ (by omega) _ _ | refine bthen ?_ (by assumption)))⟩
      | false =>
        have s3 : Hid ((l.take (j + 1)).any badP = false) := by rw [Hid, s2]; exact hbp
        clear hbad s2
        go_wp2_with fail
        refine (refl_in ⟨xa, xn⟩ _).mono ?_
        rw [hbp]
        rintro e w1 ⟨rfl, hw1⟩
        clear hbp
        go_wp2_with fail
        go_roundw
        case rel => exact ⟨j + 1, by omega, by go_num, s3, by (repeat (first | assumption | exact Below.refl _ _ | refine ballc ?_ _ | refine bdrew ?_ | refine bdrewN ?_ _ | refine bset ?_ _ _ | refine bsetN ?_ (by omega) _ _ | refine bthen ?_ (by assumption)))⟩
        case measure => simp [intOf]; omega
    · have ej : j = n := by omega
      subst ej
      have hge : ¬ (j : Int) < (j : Int) := by omega
      have htk : l.take j = l := List.take_of_length_le (by rw [hNh.out]; omega)
      rw [htk] at hnb
      clear htk
      go_wp2_with fail
      have hsz := hbel.size
      have hW0 : Below w.heap.size w (wr.alloc (.cells #[.int .i64 0, .int .i64 0, .int .i64 0, .int .i64 0, .int .i64 0, .int .i64 0, .int .i64 0, .int .i64 0, .int .i64 0, .int .i64 0, .int .i64 0, .int .i64 0, .int .i64 0, .int .i64 0, .int .i64 0, .int .i64 0, .int .i64 0] 54)) := by (repeat (first | assumption | exact Below.refl _ _ | refine ballc ?_ _ | refine bdrew ?_ | refine bdrewN ?_ _ | refine bset ?_ _ _ | refine bsetN ?_ (by omega) _ _ | refine bthen ?_ (by assumption)))
      have hC0 : CellsAt (wr.alloc (.cells #[.int .i64 0, .int .i64 0, .int .i64 0, .int .i64 0, .int .i64 0, .int .i64 0, .int .i64 0, .int .i64 0, .int .i64 0, .int .i64 0, .int .i64 0, .int .i64 0, .int .i64 0, .int .i64 0, .int .i64 0, .int .i64 0, .int .i64 0] 54)) wr.heap.size 0 (haveL []) := CellsAt.new wr [0, 0, 0, 0, 0, 0, 0, 0, 0, 0, 0, 0, 0, 0, 0, 0, 0] 54
      have hF0 : ∀ i, (wr.alloc (.cells #[.int .i64 0, .int .i64 0, .int .i64 0, .int .i64 0, .int .i64 0, .int .i64 0, .int .i64 0, .int .i64 0, .int .i64 0, .int .i64 0, .int .i64 0, .int .i64 0, .int .i64 0, .int .i64 0, .int .i64 0, .int .i64 0, .int .i64 0] 54)).frozen? ⟨wr.heap.size, i, none⟩ = false := World.frozen?_alloc_new wr _ 54
      have hS0 : wr.heap.size < (wr.alloc (.cells #[.int .i64 0, .int .i64 0, .int .i64 0, .int .i64 0, .int .i64 0, .int .i64 0, .int .i64 0, .int .i64 0, .int .i64 0, .int .i64 0, .int .i64 0, .int .i64 0, .int .i64 0, .int .i64 0, .int .i64 0, .int .i64 0, .int .i64 0] 54)).heap.size := by simp
      generalize wr.alloc (.cells #[.int .i64 0, .int .i64 0, .int .i64 0, .int .i64 0, .int .i64 0, .int .i64 0, .int .i64 0, .int .i64 0, .int .i64 0, .int .i64 0, .int .i64 0, .int .i64 0, .int .i64 0, .int .i64 0, .int .i64 0, .int .i64 0, .int .i64 0] 54) = W0 at *
      obtain ⟨B, hB⟩ : ∃ B, wr.heap.size = B := ⟨_, rfl⟩
      rw [hB] at hC0 hF0 hS0 hsz ⊢
      clear hbel hB
      go_loopw [6] (fun i wr => ∃ q : Nat, q ≤ j ∧ i = .int .i64 q ∧ Hid (Sound (l.take q)) ∧ CellsAt wr B 0 (haveL (l.take q)) ∧ (∀ i, wr.frozen? ⟨B, i, none⟩ = false) ∧ B < wr.heap.size ∧ Below w.heap.size w wr) (fun i _ => j - (intOf i).toNat)
      case atStart => exact ⟨0, by omega, rfl, Sound.nil, hC0, hF0, hS0, hW0⟩
      case round =>
        obtain ⟨q, hq, rfl, hSo, hC, hF, hS, hbel⟩ := hrel
        by_cases hlt2 : q < j
        · obtain ⟨b, off, x, hx, rfl, hb, hc⟩ := hch.out q hlt2
          obtain ⟨c0, c1⟩ := hc wr hbel
          have hqI : (q : Int) < (j : Int) := by omega
          have hq0 : (0 : Int) ≤ (q : Int) := by omega
          obtain ⟨g0, g1, g2⟩ := good_of hnb.out (List.mem_of_getElem? hx)
          have hN2 : (x.a.toNat : Int) = x.a := Int.toNat_of_nonneg g0
          have hcell := hC x.a.toNat (by rw [haveL_len]; omega)
          rw [Nat.zero_add] at hcell
          have hstop := hSo.out.stop hx hnb.out
          have hmore := hSo.out.more (x := x) g0 g1
          have htk : l.take (q + 1) = l.take q ++ [x] := by rw [List.take_add_one, hx]; rfl
          rw [← htk] at hmore
          rw [hrh.out] at hstop
          have hput := CellsAt.put hC (j := x.a.toNat) (by rw [haveL_len]; omega) ((haveL (l.take q)).getD x.a.toNat 0 + x.n)
          rw [Nat.zero_add] at hput
          obtain ⟨v, hv⟩ : ∃ v, (haveL (l.take q)).getD x.a.toNat 0 = v := ⟨_, rfl⟩
          rw [hv] at hcell hstop hmore hput
          have hfr := hF x.a.toNat
          have hstoph := Lib.hid hstop
          have hmoreh := Lib.hid hmore
          have hputh := Lib.hid hput
          have hbb : b < wr.heap.size := Nat.lt_of_lt_of_le hb hbel.size
          clear hstop hmore hput hv hx htk hc hN2
          obtain ⟨xa, xn⟩ := x
          simp only at c0 c1 g0 g1 hcell hfr
          obtain ⟨k, rfl⟩ : ∃ k : Nat, xa = (k : Int) := ⟨xa.toNat, by omega⟩
          rw [Int.toNat_natCast] at hcell hfr
          have hkI : (k : Int) < 17 := g1
          cases hok : addOk v xn with
          | true =>
            obtain ⟨m1, m2⟩ := hmoreh.out hok
            have hp := hputh.out
            rw [Int.toNat_natCast] at hp
            simp only [Int.toNat_natCast] at m2
            have m1h := Lib.hid m1
            have m2h := Lib.hid m2
            have hph := Lib.hid hp
            clear m1 m2 hp
            go_wp2_with fail
            go_quiet ((go_at_call 37; first | exact quiet_add_left (radd_ok hok _) | exact quiet_left (radd_ok hok _)))
            go_wp2_with fail
            go_roundw
            case rel => exact ⟨q + 1, by omega, by go_num, m1h.out, by rw [m2h.out]; exact hph.out, (fun i => by simpa using hF i), by simpa [World.setCell] using hS, (below_drewN hbel _).setCell (p := ⟨B, k, none⟩) (by simp only; omega) _⟩
            case measure => simp [intOf]; omega
          | false =>
            have hr := hstoph.out hok
            subst hr
            go_wp2_with fail
            go_quiet ((go_at_call 37; first | exact quiet_add_left (radd_no hok _) | exact quiet_left (radd_no hok _)))
            go_wp2_with fail
            go_ret2
            exact ⟨_, rfl, OwnI.nil _ _ _ _, by (repeat (first | assumption | exact Below.refl _ _ | refine ballc ?_ _ | refine bdrew ?_ | refine bdrewN ?_ _ | refine bset ?_ _ _ | refine bsetN ?_ (by omega) _ _ | refine bthen ?_ (by assumption)))⟩
        · have eq : q = j := by omega
          subst eq
          have hgeq : ¬ (q : Int) < (q : Int) := by omega
          have htk : l.take q = l := List.take_of_length_le (by rw [hNh.out]; omega)
          rw [htk] at hSo hC
          have hr := hSo.out.plain hnb.out
          rw [hrh.out] at hr
          subst hr
          obtain ⟨wq, hwq⟩ : ∃ wq : World, wr = wq := ⟨_, rfl⟩
          rw [hwq] at hC hF hS hbel ⊢
          have hwqs := hbel.size
          clear hwq htk hSo hrh
          go_wp2_with fail
          go_loopw [9, 10] (fun v a wr => ∃ k : Nat, k ≤ 17 ∧ a = .int .i64 k ∧ OwnI wr wq.heap.size 25 2 v (lineL l k).length (flat2 (lineL l k)) ∧ Below wq.heap.size wq wr) (fun _ a _ => 17 - (intOf a).toNat)
          case atStart => exact ⟨0, by omega, rfl, OwnI.nil _ _ _ _, Below.refl _ _⟩
          case round =>
            obtain ⟨k, hk, rfl, T, hb3⟩ := hrel
            have hs3 := hb3.size
            by_cases hk2 : k < 17
            · have hkI : (k : Int) < 17 := by omega
              have hk0 : (0 : Int) ≤ (k : Int) := by omega
              have c0 := (hb3.cell (p := ⟨B, 0 + k, none⟩) hS).trans (hC k (by rw [haveL_len]; exact hk2))
              rw [Nat.zero_add] at c0
              have hsu := lineL_succ l k
              have hln := lineL_len l k
              obtain ⟨z, hz⟩ : ∃ z, (haveL l).getD k 0 = z := ⟨_, rfl⟩
              rw [hz] at c0 hsu
              have hBr : B < wr.heap.size := Nat.lt_of_lt_of_le hS hs3
              clear hz
              by_cases hz0 : z = 0
              · have e : lineL l (k + 1) = lineL l k := by
                  rw [hsu]
                  have : zeroN ⟨(k : Int), z⟩ = true := by simp [zeroN, hz0]
                  simp [this]
                have eh := Lib.hid e
                subst hz0
                clear hsu e
                go_wp2_with fail
                go_roundw
                case rel => exact ⟨k + 1, by omega, by go_num, by rw [eh.out]; exact T, hb3⟩
                case measure => simp [intOf]; omega
              · have e : lineL l (k + 1) = lineL l k ++ [⟨(k : Int), z⟩] := by
                  rw [hsu]
                  have : zeroN ⟨(k : Int), z⟩ = false := by simp [zeroN, hz0]
                  simp [this]
                have e1 : flat2 (lineL l k) ++ [(k : Int), z] = flat2 (lineL l (k + 1)) := by rw [e, flat2_snoc]
                have e2 : (lineL l k).length + 1 = (lineL l (k + 1)).length := by rw [e]; simp
                obtain ⟨m, hm⟩ : ∃ m, (lineL l k).length = m := ⟨_, rfl⟩
                rw [hm] at T hln e2
                have e1h := Lib.hid e1
                have e2h := Lib.hid e2
                have hzB : (z == 0) = false := by rw [beq_eq_false_iff_ne]; exact hz0
                clear hsu e e1 e2 hm
                go_wp2_with (at_builtin; refine wpList_push _ rfl _ _ 23 rfl wq.heap.size 25 2 elem_Line _ m (flat2 (lineL l k)) rfl (T.alloc _) wr.heap.size 0 1 [(k : Int), z] rfl rfl (lit2 (x := ⟨(k : Int), z⟩) rfl) ?c1 ?c2 ?_)
                case c1 => omega
                case c2 => simp; omega
                intro l' w2 hown' hb4
                rw [e1h.out, e2h.out] at hown'
                have hb5 : Below wq.heap.size wq w2 := Below.trans (by (repeat (first | assumption | exact Below.refl _ _ | refine ballc ?_ _ | refine bdrew ?_ | refine bdrewN ?_ _ | refine bset ?_ _ _ | refine bsetN ?_ (by omega) _ _ | refine bthen ?_ (by assumption)))) hb4
                clear T hb4 hb3
                go_wp2_with fail
                go_roundw
                case rel => exact ⟨k + 1, by omega, by go_num, hown', hb5⟩
                case measure => simp [intOf]; omega
            · have ek : k = 17 := by omega
              subst ek
              go_wp2_with fail
              go_ret2
              exact ⟨_, rfl, T.mono' hwqs, hbel.trans (hb3.mono hwqs)⟩
end Go.Proofs.Ytnkdbjmfpebcgaa
