/-
  What there is: how much of it there may be; a voucher posted. Contracts of vouchers and of the ledger, over closed data.
-/
import Derived.Test.YtnalblnmplnhmaaGreatSt1
import Derived.Test.YtnalblnmplnhmaaGreatGl2
set_option linter.unusedVariables false
set_option linter.unusedSimpArgs false
namespace Go.Proofs.YtnalblnmplnhmaaGreat
open Go.RowKit Mc

theorem one_arg {vs : Array Value} {x : AV} (h : vs.size = [x].length) : vs = #[vs.getD 0 Go.undef] := by
  have h : vs.size = 1 := h
  apply Array.ext
  · simp [h]
  · intro i h1 h2
    have : i = 0 := by omega
    subst this
    simp [h1]
theorem two_args {vs : Array Value} {x y : AV} (h : vs.size = [x, y].length) : vs = #[vs.getD 0 Go.undef, vs.getD 1 Go.undef] := by
  have h : vs.size = 2 := h
  apply Array.ext
  · simp [h]
  · intro i h1 h2
    rcases (by omega : i = 0 ∨ i = 1) with rfl | rfl <;> simp [h]
theorem rdl_tup2 {A : Nat → Prop} {w : World} {x y : AV} {v u : Value} (h : @RdL bk0 ev0 A w x v) (g : @RdL bk0 ev0 A w y u) : @RdL bk0 ev0 A w (.tup [x, y]) (.tuple #[v, u]) := by
  refine @RdL.tup bk0 ev0 A w [x, y] #[v, u] rfl ?_
  intro i z hz
  match i, hz with
  | 0, hz => cases hz; exact h
  | 1, hz => cases hz; exact g
theorem rdl_i {A : Nat → Prop} {w : World} {v : Int} : @RdL bk0 ev0 A w (.i v) (.int .i64 v) := @RdL.c bk0 ev0 A w _
theorem lins_in {A : Nat → Prop} {w : World} {l : List Lin} {v : Value} (h : @RdL bk0 ev0 A w (.lit 2 (linsR l)) v) (hI : AllI (flat2 l)) : ∃ a cap, v = .slice a l.length cap ∧ Row w 2 a l.length cap (flat2 l) := by
  rw [lins_lit] at h
  obtain ⟨a, cap, rfl, R⟩ := row_of_rdl h (by rw [flat2_r]; exact hI) (by intro r hr; obtain ⟨x, -, rfl⟩ := List.mem_map.1 hr; rfl)
  rw [flat2_r, List.length_map] at R
  exact ⟨a, cap, by rw [List.length_map], R⟩
theorem lins_out {A : Nat → Prop} {w w' : World} {l : List Lin} {a : Option Addr} {cap : Nat} (hA : ∀ b, A b → b < w.heap.size) (hc : l.length ≤ cap) (hm : cap ≤ maxLen) (h : l.length = 0 ∨ ∃ b off, a = some ⟨b, off, none⟩ ∧ w.heap.size ≤ b ∧ b < w'.heap.size ∧ CellsAt w' b off (flat2 l)) :
    @RdL bk0 ev0 A w' (.lit 2 (linsR l)) (.slice a l.length cap) := by
  rw [lins_lit]
  have hl : (l.map Lin.r).length = l.length := by simp
  rw [← hl] at hc ⊢
  refine rdl_of_row (by intro r hr; obtain ⟨x, -, rfl⟩ := List.mem_map.1 hr; rfl) hc hm ?_
  rw [hl, flat2_r]
  exact h.imp id fun ⟨b, off, h1, h2, h3, h4⟩ => ⟨b, off, h1, fun hb => by have := hA b hb; omega, h3, h4⟩
theorem ints_in {A : Nat → Prop} {w : World} {l : List Int} {v : Value} (h : @RdL bk0 ev0 A w (.lit 1 (intsR l)) v) (hI : AllI l) : ∃ a cap, v = .slice a l.length cap ∧ Row w 1 a l.length cap l := by
  rw [ints_lit] at h
  obtain ⟨a, cap, rfl, R⟩ := row_of_rdl h (by rw [flat1_r]; exact hI) (by intro r hr; obtain ⟨x, -, rfl⟩ := List.mem_map.1 hr; rfl)
  rw [flat1_r, List.length_map] at R
  exact ⟨a, cap, by rw [List.length_map], R⟩
theorem ints_out {A : Nat → Prop} {w w' : World} {l : List Int} {a : Option Addr} {cap : Nat} (hA : ∀ b, A b → b < w.heap.size) (hc : l.length ≤ cap) (hm : cap ≤ maxLen) (h : l.length = 0 ∨ ∃ b off, a = some ⟨b, off, none⟩ ∧ w.heap.size ≤ b ∧ b < w'.heap.size ∧ CellsAt w' b off l) :
    @RdL bk0 ev0 A w' (.lit 1 (intsR l)) (.slice a l.length cap) := by
  rw [ints_lit]
  have hl : (l.map fun v => [v]).length = l.length := by simp
  rw [← hl] at hc ⊢
  refine rdl_of_row (by intro r hr; obtain ⟨x, -, rfl⟩ := List.mem_map.1 hr; rfl) hc hm ?_
  rw [hl, flat1_r]
  exact h.imp id fun ⟨b, off, h1, h2, h3, h4⟩ => ⟨b, off, h1, fun hb => by have := hA b hb; omega, h3, h4⟩

theorem ck_Plain (l : List Lin) (hI : AllI (flat2 l)) (h20 : l.length ≤ 1000000) : CK Tryz.prog 104 [.lit 2 (linsR l)] (.tup [.lit 2 (linsR (plainS l).1), .i (plainS l).2]) := by
  refine ⟨cl_cons (cl_lins _).lit cl_nil, .tup _ (cl_cons (cl_lins _).lit (cl_cons (.c _) cl_nil)), ?_⟩
  intro A w vs hA hG hl hv
  have hvs := one_arg hl
  generalize vs.getD 0 Go.undef = v0 at hvs
  subst hvs
  obtain ⟨a, cap, rfl, R⟩ := lins_in (hv 0 _ rfl) hI
  refine (vou_Plain a cap l w R h20).mono ?_
  rintro e w' ⟨v, rfl, ⟨a', cap', rfl, k1, k2, k3⟩, hb⟩
  refine ⟨_, rfl, rdl_tup2 (lins_out hA k1 k2 ?_) rdl_i, hb⟩
  exact k3.imp id fun ⟨b, off, h1, h2, h3, h4, _⟩ => ⟨b, off, h1, h2, h3, h4⟩
theorem ck_glPost (bal : List Int) (l : List Lin) (hbal : bal.length = 17) (hB : AllI bal) (hI : AllI (flat2 l)) (h20 : l.length ≤ 1000000) : CK Tryz.prog 105 [.lit 1 (intsR bal), .lit 2 (linsR l)] (.tup [.lit 1 (intsR (postS bal l).1), .i (postS bal l).2]) := by
  refine ⟨cl_cons (cl_ints _).lit (cl_cons (cl_lins _).lit cl_nil), .tup _ (cl_cons (cl_ints _).lit (cl_cons (.c _) cl_nil)), ?_⟩
  intro A w vs hA hG hl hv
  have hvs := two_args hl
  generalize vs.getD 0 Go.undef = v0 at hvs
  generalize vs.getD 1 Go.undef = v1 at hvs
  subst hvs
  obtain ⟨a, cap, rfl, R⟩ := ints_in (hv 0 _ rfl) hB
  obtain ⟨a2, cap2, rfl, R2⟩ := lins_in (hv 1 _ rfl) hI
  rw [hbal] at R ⊢
  refine (gl_Post a cap bal hbal a2 cap2 l w R R2 h20).mono ?_
  rintro e w' ⟨v, rfl, ⟨a', cap', rfl, k1, k2, k3⟩, hb⟩
  refine ⟨_, rfl, rdl_tup2 (ints_out hA k1 k2 ?_) rdl_i, hb⟩
  exact k3.imp id fun ⟨b, off, h1, h2, h3, h4, _⟩ => ⟨b, off, h1, h2, h3, h4⟩

/-- An entity in its place. -/
def StD.setEnt (s : StD) (e : Int) (x : EntD) : StD := { s with ents := s.ents.set e.toNat x }
def EntD.setBal (x : EntD) (b : List Int) : EntD := { x with bal := b }
/-- What stock.Post answers. -/
def postT (s : StD) (e : Int) (l : List Lin) : StD × Int :=
  if e < 0 then (s, 4) else match s.ents[e.toNat]? with
  | none => (s, 4)
  | some x => if (plainS l).2 ≠ 0 then (s, (plainS l).2) else if (postS x.bal (plainS l).1).2 ≠ 0 then (s, (postS x.bal (plainS l).1).2) else (s.setEnt e (x.setBal (postS x.bal (plainS l).1).1), 0)
theorem setEnt_ents (s : StD) (e : Int) (x : EntD) : entsR (s.setEnt e x).ents = (entsR s.ents).set e.toNat x.row := by simp [StD.setEnt, entsR, List.map_set]
end Go.Proofs.YtnalblnmplnhmaaGreat
