/-
  A machine of plain data beside the model: what a value of the model reads as, in a world. No program in sight.
-/
import Derived.Test.YtjbgfhafinfjbaaGreatM0
import Derived.WalkKit
import Derived.Orders
import Derived.Maps.AppendAt
import Derived.Below
set_option linter.unusedVariables false
set_option linter.unusedSimpArgs false
namespace Go.Proofs.YtjbgfhafinfjbaaGreat.Mc
open Go.RowKit

/-- Fits in one cell. -/
def AV.one : AV → Bool
  | .c v => v.oneCell'
  | .undef | .agg _ | .tup _ => false
  | _ => true

/-- What has become of a block of the machine. -/
inductive St where
  | no | dead | virt | at (b : Nat)

def at2 (els : List (List AV)) (i j : Nat) : Option AV := (els[i]?).bind (·[j]?)

/-- How many cells a block has. -/
def rowSize (w : World) (b : Nat) : Nat := match w.heap[b]? with | some (.cells c _ _) => c.size | _ => 0

/-- In world w the value reads as the datum, through blocks outside A alone. -/
inductive RdL [Bk] [Ev] (A : Nat → Prop) (w : World) : AV → Value → Prop
  | c (v : Value) : RdL A w (.c v) v
  | undef : RdL A w .undef Go.undef
  | emp (a : Option Addr) : RdL A w .emp (.slice a 0 0)
  | agg (cs : List AV) (vs : Array Value) (hl : vs.size = cs.length) (h1 : ∀ (i : Nat) (x : AV), cs[i]? = some x → x.one = true) (h : ∀ (i : Nat) (x : AV), cs[i]? = some x → RdL A w x (vs.getD i Go.undef)) : RdL A w (.agg cs) (.agg vs)
  | tup (cs : List AV) (vs : Array Value) (hl : vs.size = cs.length) (h : ∀ (i : Nat) (x : AV), cs[i]? = some x → RdL A w x (vs.getD i Go.undef)) : RdL A w (.tup cs) (.tuple vs)
  | lit (sz : Nat) (els : List (List AV)) (b off cap : Nat) (vs : Nat → Nat → Value) (hA : ¬ A b) (hb : b < w.heap.size) (hc : els.length ≤ cap) (hsz : ∀ e ∈ els, e.length = sz)
      (h1 : ∀ (i j : Nat) (x : AV), at2 els i j = some x → x.one = true) (hv : ∀ (i j : Nat) (x : AV), at2 els i j = some x → w.cell? ⟨b, off + (i * sz + j), none⟩ = some (vs i j)) (h : ∀ (i j : Nat) (x : AV), at2 els i j = some x → RdL A w x (vs i j)) :
      RdL A w (.lit sz els) (.slice (some ⟨b, off, none⟩) els.length cap)
  | lit0 (sz : Nat) (a : Option Addr) (cap : Nat) : RdL A w (.lit sz []) (.slice a 0 cap)
  | lptr (sz : Nat) (els : List (List AV)) (i0 j0 b off : Nat) (vs : Nat → Nat → Value) (hA : ¬ A b) (hb : b < w.heap.size) (hsz : ∀ e ∈ els, e.length = sz)
      (h1 : ∀ (i j : Nat) (x : AV), at2 els i j = some x → x.one = true) (hv : ∀ (i j : Nat) (x : AV), at2 els i j = some x → w.cell? ⟨b, off + (i * sz + j), none⟩ = some (vs i j)) (h : ∀ (i j : Nat) (x : AV), at2 els i j = some x → RdL A w x (vs i j)) :
      RdL A w (.lptr sz els i0 j0) (.pointer (some ⟨b, off + (i0 * sz + j0), none⟩))
  | fn (f : Fn) (xs ys : List AV) (vs us : Array Value) (hl : vs.size = xs.length) (hk : us.size = ys.length) (h : ∀ (i : Nat) (x : AV), xs[i]? = some x → RdL A w x (vs.getD i Go.undef)) (g : ∀ (i : Nat) (x : AV), ys[i]? = some x → RdL A w x (us.getD i Go.undef)) :
      RdL A w (.fn f xs ys) (.func f vs us)
  | ifc (t : TypeId) (x : AV) (v : Value) (h : RdL A w x v) : RdL A w (.ifc t x) (.iface t v)
  | e (p : Poly) : RdL A w (.e p) (.int .i64 (pev Ev.rho p))
  | row (n : Poly) (xs : List Poly) (b off len cap : Nat) (hn : pev Ev.rho n = len) (hc : len ≤ cap) (hA : ¬ A b) (hb : b < w.heap.size) (hv : ∀ (j : Nat) (p : Poly), xs[j]? = some p → j < len → w.cell? ⟨b, off + j, none⟩ = some (.int .i64 (pev Ev.rho p))) :
      RdL A w (.row n xs) (.slice (some ⟨b, off, none⟩) len cap)
  | row0 (n : Poly) (xs : List Poly) (a : Option Addr) (cap : Nat) (hn : pev Ev.rho n = 0) : RdL A w (.row n xs) (.slice a 0 cap)
  | o (i : Nat) : RdL A w (.o i) (Ev.val i)

theorem RdL.one [Bk] [Ev] {A : Nat → Prop} {w : World} {x : AV} {v : Value} (h : RdL A w x v) (h1 : x.one = true) : v.oneCell' = true := by
  cases h <;> first | exact h1 | rfl | exact Ev.val_one _ | (simp [AV.one] at h1)

theorem RdL.mono [Bk] [Ev] {A A' : Nat → Prop} {w w' : World} (hs : w.heap.size ≤ w'.heap.size) (hA : ∀ b, b < w.heap.size → ¬ A b → ¬ A' b ∧ w'.heap[b]? = w.heap[b]?) {x : AV} {v : Value} (h : RdL A w x v) : RdL A' w' x v := by
  have hcell : ∀ b o, b < w.heap.size → ¬ A b → w'.cell? ⟨b, o, none⟩ = w.cell? ⟨b, o, none⟩ := fun b o hb hn => World.cell?_of_block (hA b hb hn).2
  induction h with
  | c v => exact .c v
  | undef => exact .undef
  | emp a => exact .emp a
  | agg cs vs hl h1 _ ih => exact .agg cs vs hl h1 ih
  | tup cs vs hl _ ih => exact .tup cs vs hl ih
  | lit sz els b off cap vs hm hb hc hsz h1 hv _ ih =>
    exact .lit sz els b off cap vs (hA b hb hm).1 (Nat.lt_of_lt_of_le hb hs) hc hsz h1 (fun i j x hx => (hcell b _ hb hm).trans (hv i j x hx)) ih
  | lit0 sz a cap => exact .lit0 sz a cap
  | lptr sz els i0 j0 b off vs hm hb hsz h1 hv _ ih =>
    exact .lptr sz els i0 j0 b off vs (hA b hb hm).1 (Nat.lt_of_lt_of_le hb hs) hsz h1 (fun i j x hx => (hcell b _ hb hm).trans (hv i j x hx)) ih
  | fn f xs ys vs us hl hk _ _ ih1 ih2 => exact .fn f xs ys vs us hl hk ih1 ih2
  | ifc t x v _ ih => exact .ifc t x v ih
  | e p => exact .e p
  | row n xs b off len cap hn hc hm hb hv => exact .row n xs b off len cap hn hc (hA b hb hm).1 (Nat.lt_of_lt_of_le hb hs) fun j p hx hj => (hcell b _ hb hm).trans (hv j p hx hj)
  | row0 n xs a cap hn => exact .row0 n xs a cap hn
  | o i => exact .o i

/-- The blocks that the machine owns, and A. -/
def Av (m : Nat → St) (A : Nat → Prop) : Nat → Prop := fun b => A b ∨ ∃ id, m id = .at b

/-- In world w, by the map m, the value reads as the datum. -/
inductive Rd [Bk] [Ev] (m : Nat → St) (A : Nat → Prop) (w : World) : AV → Value → Prop
  | pure (x : AV) (v : Value) (h : RdL (Av m A) w x v) : Rd m A w x v
  | agg (cs : List AV) (vs : Array Value) (hl : vs.size = cs.length) (h1 : ∀ (i : Nat) (x : AV), cs[i]? = some x → x.one = true) (h : ∀ (i : Nat) (x : AV), cs[i]? = some x → Rd m A w x (vs.getD i Go.undef)) : Rd m A w (.agg cs) (.agg vs)
  | tup (cs : List AV) (vs : Array Value) (hl : vs.size = cs.length) (h : ∀ (i : Nat) (x : AV), cs[i]? = some x → Rd m A w x (vs.getD i Go.undef)) : Rd m A w (.tup cs) (.tuple vs)
  | own (T sz id i n b cap : Nat) (hm : m id = .at b) (hb : b < w.heap.size) (hn : n ≤ cap) (hc : cap ≤ maxLen) (hr : (i + cap) * sz = rowSize w b) : Rd m A w (.own T sz id i n) (.slice (some ⟨b, i * sz, none⟩) n cap)
  | ownv (T sz id i : Nat) (a : Option Addr) (hm : m id = .virt) : Rd m A w (.own T sz id i 0) (.slice a 0 0)
  | ownd (T sz id i n : Nat) (a : Option Addr) (n' cap : Nat) (hm : m id = .dead) : Rd m A w (.own T sz id i n) (.slice a n' cap)
  | ptr (sz id i off b : Nat) (hm : m id = .at b) (hb : b < w.heap.size) : Rd m A w (.ptr sz id i off) (.pointer (some ⟨b, i * sz + off, none⟩))
  | ptrd (sz id i off : Nat) (a : Option Addr) (hm : m id = .dead) : Rd m A w (.ptr sz id i off) (.pointer a)
  | fn (f : Fn) (xs ys : List AV) (vs us : Array Value) (hl : vs.size = xs.length) (hk : us.size = ys.length) (h : ∀ (i : Nat) (x : AV), xs[i]? = some x → Rd m A w x (vs.getD i Go.undef)) (g : ∀ (i : Nat) (x : AV), ys[i]? = some x → Rd m A w x (us.getD i Go.undef)) :
      Rd m A w (.fn f xs ys) (.func f vs us)
  | ifc (t : TypeId) (x : AV) (v : Value) (h : Rd m A w x v) : Rd m A w (.ifc t x) (.iface t v)
  | yld (id b : Nat) (hm : m id = .at b) : Rd m A w (.yld id) (.func (.yield b) #[] #[])
  | yldd (id b : Nat) (hm : m id = .dead) : Rd m A w (.yld id) (.func (.yield b) #[] #[])
  | mpv (id b : Nat) (hm : m id = .at b) : Rd m A w (.mpv id) (.map (some b))
  | mpvd (id b : Nat) (hm : m id = .dead) : Rd m A w (.mpv id) (.map (some b))
  | view (T sz id i n b cap : Nat) (hm : m id = .at b) : Rd m A w (.view T sz id i n) (.slice (some ⟨b, i * sz, none⟩) n cap)
  | viewd (T sz id i n : Nat) (a : Option Addr) (cap : Nat) (hm : m id = .dead) : Rd m A w (.view T sz id i n) (.slice a n cap)

theorem Rd.one [Bk] [Ev] {m : Nat → St} {A : Nat → Prop} {w : World} {x : AV} {v : Value} (h : Rd m A w x v) (h1 : x.one = true) : v.oneCell' = true := by
  cases h <;> first | rfl | exact RdL.one ‹_› h1 | (simp [AV.one] at h1)

/-- What has been, stands. -/
structure Ext (m : Nat → St) (w : World) (m' : Nat → St) (w' : World) : Prop where
  os : w'.os = w.os
  tape : w'.tape = w.tape
  output : w'.output = w.output
  size : w.heap.size ≤ w'.heap.size
  at_ : ∀ id b, m id = .at b → m' id = .at b ∨ m' id = .dead
  dead : ∀ id, m id = .dead → m' id = .dead
  virt : ∀ id, m id = .virt → m' id = .virt ∨ m' id = .dead
  un : ∀ b, b < w.heap.size → (∀ id, m id ≠ .at b) → (∀ id, m' id ≠ .at b) ∧ w'.heap[b]? = w.heap[b]?
  rows : ∀ id b, m id = .at b → m' id = .at b → rowSize w' b = rowSize w b

theorem Ext.refl [Bk] [Ev] (m : Nat → St) (w : World) : Ext m w m w := ⟨rfl, rfl, rfl, Nat.le_refl _, fun _ _ h => .inl h, fun _ h => h, fun _ h => .inl h, fun _ _ h => ⟨h, rfl⟩, fun _ _ _ _ => rfl⟩
theorem Ext.trans [Bk] [Ev] {m : Nat → St} {w : World} {m' : Nat → St} {w' : World} {m'' : Nat → St} {w'' : World} (h : Ext m w m' w') (k : Ext m' w' m'' w'') : Ext m w m'' w'' := by
  refine ⟨k.os.trans h.os, k.tape.trans h.tape, k.output.trans h.output, Nat.le_trans h.size k.size, ?_, fun id hd => k.dead id (h.dead id hd), fun id hv => (h.virt id hv).elim (k.virt id) (fun d => .inr (k.dead id d)), ?_, ?_⟩
  · intro id b hb
    rcases h.at_ id b hb with h1 | h1
    · exact k.at_ id b h1
    · exact .inr (k.dead id h1)
  · intro b hb hu
    obtain ⟨h1, h2⟩ := h.un b hb hu
    obtain ⟨k1, k2⟩ := k.un b (by have := h.size; omega) h1
    exact ⟨k1, k2.trans h2⟩
  · intro id b h1 h2
    rcases h.at_ id b h1 with h3 | h3
    · exact (k.rows id b h3 h2).trans (h.rows id b h1 h3)
    · rw [k.dead id h3] at h2; cases h2

theorem Rd.ext [Bk] [Ev] {m : Nat → St} {A : Nat → Prop} {w : World} {m' : Nat → St} {w' : World} (E : Ext m w m' w') {x : AV} {v : Value} (h : Rd m A w x v) : Rd m' A w' x v := by
  induction h with
  | pure x v h =>
    refine .pure x v (h.mono E.size fun b hb hn => ?_)
    have h2 := E.un b hb (fun id hid => hn (.inr ⟨id, hid⟩))
    exact ⟨fun k => k.elim (fun k => hn (.inl k)) (fun ⟨id, k⟩ => h2.1 id k), h2.2⟩
  | agg cs vs hl h1 _ ih => exact .agg cs vs hl h1 ih
  | tup cs vs hl _ ih => exact .tup cs vs hl ih
  | own T sz id i n b cap hm hb hn hc hr =>
    rcases E.at_ id b hm with h | h
    · exact .own T sz id i n b cap h (Nat.lt_of_lt_of_le hb E.size) hn hc (hr.trans (E.rows id b hm h).symm)
    · exact .ownd T sz id i n _ _ _ h
  | ownv T sz id i a hm =>
    rcases E.virt id hm with h | h
    · exact .ownv T sz id i a h
    · exact .ownd T sz id i 0 a 0 0 h
  | ownd T sz id i n a n' cap hm => exact .ownd T sz id i n a n' cap (E.dead id hm)
  | ptr sz id i off b hm hb =>
    rcases E.at_ id b hm with h | h
    · exact .ptr sz id i off b h (Nat.lt_of_lt_of_le hb E.size)
    · exact .ptrd sz id i off _ h
  | ptrd sz id i off a hm => exact .ptrd sz id i off a (E.dead id hm)
  | fn f xs ys vs us hl hk _ _ ih1 ih2 => exact .fn f xs ys vs us hl hk ih1 ih2
  | ifc t x v _ ih => exact .ifc t x v ih
  | yld id b hm =>
    rcases E.at_ id b hm with h | h
    · exact .yld id b h
    · exact .yldd id b h
  | yldd id b hm => exact .yldd id b (E.dead id hm)
  | mpv id b hm =>
    rcases E.at_ id b hm with h | h
    · exact .mpv id b h
    · exact .mpvd id b h
  | mpvd id b hm => exact .mpvd id b (E.dead id hm)
  | view T sz id i n b cap hm =>
    rcases E.at_ id b hm with h | h
    · exact .view T sz id i n b cap h
    · exact .viewd T sz id i n _ _ h
  | viewd T sz id i n a cap hm => exact .viewd T sz id i n a cap (E.dead id hm)

/-- How a loop over a function stands. -/
inductive LS where
  | ready | busy | done (c : Code)
def LS.st : LS → LoopState
  | .ready => .ready
  | .busy => .busy
  | .done _ => .done
def LS.pe : LS → Option Code
  | .done c => some c
  | _ => none
/-- A block of the machine. -/
inductive Blk where
  | no | dead | cells (T sz : Nat) (els : List (List AV)) | lp (st : LS) (f : List AV) (ps : Array Tmp) (assign body : Code)
  | it (s : ByteArray) (pos : Nat) | mp (es : List (Int × AV))
/-- No array of cells. -/
def Blk.other : Blk → Bool
  | .lp .. | .it .. | .mp .. => true
  | _ => false
/-- The record of a loop over a function, in the world. -/
def LpOk [Bk] [Ev] (m : Nat → St) (A : Nat → Prop) (w : World) (b : Nat) (st : LS) (f : List AV) (ps : Array Tmp) (assign body : Code) : Prop :=
  ∃ L : Loop, w.heap[b]? = some (.loop L) ∧ L.state = st.st ∧ L.pending = st.pe ∧ L.params = ps ∧ L.assign = assign ∧ L.body = body ∧ L.tmps.size = f.length ∧ ∀ (i : Nat) (x : AV), f[i]? = some x → Rd m A w x (L.tmps.getD i Go.undef)
theorem LpOk.ext [Bk] [Ev] {m m' : Nat → St} {A : Nat → Prop} {w w' : World} {b : Nat} {st : LS} {f : List AV} {ps : Array Tmp} {assign body : Code} (h : LpOk m A w b st f ps assign body) (E : Ext m w m' w') (hb : w'.heap[b]? = w.heap[b]?) : LpOk m' A w' b st f ps assign body := by
  obtain ⟨L, h1, h2, h3, h4, h5, h6, h7, h8⟩ := h
  exact ⟨L, hb.trans h1, h2, h3, h4, h5, h6, h7, fun i x hx => (h8 i x hx).ext E⟩

/-- An iterator over a text, a map with whole numbers as keys, the record of a loop, in the world. -/
def OtherOk [Bk] [Ev] (m : Nat → St) (A : Nat → Prop) (w : World) (b : Nat) : Blk → Prop
  | .lp st f ps as bd => LpOk m A w b st f ps as bd
  | .it s pos => w.heap[b]? = some (.stringIter s pos)
  | .mp es => ∃ (ms : Array MapEntry) (clock : Nat), w.heap[b]? = some (.map ms clock) ∧ ms.size = es.length ∧ ∀ (i : Nat) (k : Int) (x : AV), es[i]? = some (k, x) → ∃ e, ms[i]? = some e ∧ e.key = .int .i64 k ∧ Rd m A w x e.val
  | _ => False
theorem OtherOk.ext [Bk] [Ev] {m m' : Nat → St} {A : Nat → Prop} {w w' : World} {b : Nat} {B : Blk} (h : OtherOk m A w b B) (E : Ext m w m' w') (hb : w'.heap[b]? = w.heap[b]?) : OtherOk m' A w' b B := by
  cases B with
  | lp st f ps as bd => exact LpOk.ext h E hb
  | it s pos => exact hb.trans h
  | mp es =>
    obtain ⟨ms, clock, h1, h2, h3⟩ := h
    refine ⟨ms, clock, hb.trans h1, h2, fun i k x hx => ?_⟩
    obtain ⟨e, g1, g2, g3⟩ := h3 i k x hx
    exact ⟨e, g1, g2, g3.ext E⟩
  | _ => exact h
theorem OtherOk.lt [Bk] [Ev] {m : Nat → St} {A : Nat → Prop} {w : World} {b : Nat} {B : Blk} (h : OtherOk m A w b B) : b < w.heap.size := by
  cases B with
  | lp st f ps as bd => obtain ⟨L, h1, -⟩ := h; exact (Array.getElem?_eq_some_iff.1 h1).1
  | it s pos => exact (Array.getElem?_eq_some_iff.1 h).1
  | mp es => obtain ⟨ms, clock, h1, -⟩ := h; exact (Array.getElem?_eq_some_iff.1 h1).1
  | _ => exact h.elim

/-- The known blocks of bytes are there, and nothing writes them. -/
def GOk [Bk] (A : Nat → Prop) (w : World) : Prop := ∀ t ∈ Bk.glob, A t.1 ∧ t.1 < w.heap.size ∧ ∀ (j : Nat) (v : Int), t.2[j]? = some v → w.cell? ⟨t.1, j, none⟩ = some (.int .u8 v)
theorem GOk.ext [Bk] {A : Nat → Prop} {m : Nat → St} {w : World} {m' : Nat → St} {w' : World} (g : GOk A w) (out : ∀ id b, m id = .at b → ¬ A b) (E : Ext m w m' w') : GOk A w' := by
  intro t ht
  obtain ⟨h1, h2, h3⟩ := g t ht
  have h4 := (E.un t.1 h2 fun id hid => out id t.1 hid h1).2
  exact ⟨h1, Nat.lt_of_lt_of_le h2 E.size, fun j v hv => (World.cell?_of_block (a := ⟨t.1, j, none⟩) h4).trans (h3 j v hv)⟩
/-- The machine's blocks, in the world. -/
structure HRel [Bk] [Ev] (m : Nat → St) (A : Nat → Prop) (h : Nat → Blk) (w : World) : Prop where
  out : ∀ id b, m id = .at b → ¬ A b
  old : ∀ b, A b → b < w.heap.size
  no : ∀ id, h id = .no → m id = .no
  dead : ∀ id, h id = .dead → m id = .dead
  cells : ∀ id T sz els, h id = .cells T sz els → (m id = .virt ∧ els = []) ∨ ∃ b cs, m id = .at b ∧ w.heap[b]? = some (.cells cs T (0, 0)) ∧ els.length * sz ≤ cs.size ∧ (∀ e ∈ els, e.length = sz) ∧
    ∀ (i j : Nat) (x : AV), at2 els i j = some x → x.one = true ∧ Rd m A w x (cs.getD (i * sz + j) Go.undef)
  inj : ∀ i j b, m i = .at b → m j = .at b → i = j
  glob : GOk A w
  others : ∀ id B, h id = B → B.other = true → ∃ b, m id = .at b ∧ OtherOk m A w b B
theorem HRel.loops [Bk] [Ev] {m : Nat → St} {A : Nat → Prop} {h : Nat → Blk} {w : World} (H : HRel m A h w) (id : Nat) (st : LS) (f : List AV) (ps : Array Tmp) (assign body : Code) (hh : h id = .lp st f ps assign body) : ∃ b, m id = .at b ∧ LpOk m A w b st f ps assign body := H.others id _ hh rfl
theorem HRel.others_to [Bk] [Ev] {m m' : Nat → St} {A : Nat → Prop} {h h' : Nat → Blk} {w w' : World} (H : HRel m A h w) (E : Ext m w m' w') (k : ∀ id B, h' id = B → B.other = true → h id = B ∧ ∀ b, m id = .at b → m' id = .at b ∧ w'.heap[b]? = w.heap[b]?) :
    ∀ id B, h' id = B → B.other = true → ∃ b, m' id = .at b ∧ OtherOk m' A w' b B := by
  intro id B hh hB
  obtain ⟨k1, k2⟩ := k id B hh hB
  obtain ⟨b, h1, h2⟩ := H.others id B k1 hB
  obtain ⟨k3, k4⟩ := k2 b h1
  exact ⟨b, k3, h2.ext E k4⟩

theorem HRel.lt [Bk] [Ev] {m : Nat → St} {A : Nat → Prop} {h : Nat → Blk} {w : World} (H : HRel m A h w) {id b : Nat} (hb : m id = .at b) : b < w.heap.size := by
  cases hh : h id with
  | no => rw [H.no id hh] at hb; cases hb
  | dead => rw [H.dead id hh] at hb; cases hb
  | cells T sz els =>
    obtain ⟨h1, -⟩ | ⟨b', cs, h1, h2, -⟩ := H.cells id T sz els hh
    · rw [hb] at h1; cases h1
    rw [hb] at h1
    cases h1
    rcases Nat.lt_or_ge b w.heap.size with h | h
    · exact h
    · simp [Array.getElem?_eq_none h] at h2
  | lp st f ps assign body =>
    obtain ⟨b', h1, h2⟩ := H.others id _ hh rfl
    rw [hb] at h1; cases h1; exact h2.lt
  | it s pos =>
    obtain ⟨b', h1, h2⟩ := H.others id _ hh rfl
    rw [hb] at h1; cases h1; exact h2.lt
  | mp es =>
    obtain ⟨b', h1, h2⟩ := H.others id _ hh rfl
    rw [hb] at h1; cases h1; exact h2.lt

def bset (h : Nat → Blk) (id : Nat) (b : Blk) : Nat → Blk := fun k => if k = id then b else h k
theorem bset_same [Bk] [Ev] (h : Nat → Blk) (id : Nat) (b : Blk) : bset h id b id = b := by simp [bset]
theorem bset_other [Bk] [Ev] (h : Nat → Blk) {id k : Nat} (b : Blk) (hk : k ≠ id) : bset h id b k = h k := by simp [bset, hk]
def sset (m : Nat → St) (id : Nat) (s : St) : Nat → St := fun k => if k = id then s else m k

theorem at2_len [Bk] [Ev] {els : List (List AV)} {sz i j : Nat} {x : AV} (h : at2 els i j = some x) (hsz : ∀ e ∈ els, e.length = sz) : i < els.length ∧ j < sz ∧ i * sz + j < els.length * sz := by
  unfold at2 at h
  cases he : els[i]? with
  | none => rw [he] at h; cases h
  | some e =>
    rw [he] at h
    simp only [Option.bind_some] at h
    have h1 : i < els.length := (List.getElem?_eq_some_iff.1 he).1
    have h2 : j < e.length := (List.getElem?_eq_some_iff.1 h).1
    have h3 : e.length = sz := hsz e (List.mem_of_getElem? he)
    refine ⟨h1, by omega, ?_⟩
    have : (i + 1) * sz ≤ els.length * sz := Nat.mul_le_mul_right _ h1
    rw [Nat.succ_mul] at this
    omega

theorem HRel.block [Bk] [Ev] {m : Nat → St} {A : Nat → Prop} {h : Nat → Blk} {w : World} (H : HRel m A h w) {id T sz i : Nat} {els : List (List AV)} {e : List AV} (hh : h id = .cells T sz els) (he : els[i]? = some e) :
    ∃ b cs, m id = .at b ∧ w.heap[b]? = some (.cells cs T (0, 0)) ∧ els.length * sz ≤ cs.size ∧ (∀ e ∈ els, e.length = sz) ∧ ∀ (i j : Nat) (x : AV), at2 els i j = some x → x.one = true ∧ Rd m A w x (cs.getD (i * sz + j) Go.undef) := by
  obtain ⟨-, rfl⟩ | h := H.cells id T sz els hh
  · simp at he
  · exact h

/-- Only new blocks. -/
theorem Ext.of_below [Bk] [Ev] {m : Nat → St} {A : Nat → Prop} {h : Nat → Blk} {w w' : World} (H : HRel m A h w) (g : Below w.heap.size w w') : Ext m w m w' := by
  have hr : ∀ b, b < w.heap.size → w'.heap[b]? = w.heap[b]? := g.block
  exact ⟨g.os, g.tape, g.output, g.size, fun _ _ h => .inl h, fun _ h => h, fun _ h => .inl h, fun b hb hu => ⟨hu, hr b hb⟩, fun id b h1 h2 => by simp [rowSize, hr b (H.lt h1)]⟩
theorem HRel.below [Bk] [Ev] {m : Nat → St} {A : Nat → Prop} {h : Nat → Blk} {w w' : World} (H : HRel m A h w) (g : Below w.heap.size w w') : HRel m A h w' := by
  have E := Ext.of_below H g
  refine ⟨H.out, fun b hb => by have := H.old b hb; have := g.size; omega, H.no, H.dead, ?_, H.inj, H.glob.ext H.out E, H.others_to E fun id B hh hB => ⟨hh, fun b hb => ⟨hb, g.block b (H.lt hb)⟩⟩⟩
  intro id T sz els hh
  obtain hv | ⟨b, cs, h1, h2, h3, h4, h5⟩ := H.cells id T sz els hh
  · exact .inl hv
  exact .inr ⟨b, cs, h1, (g.block b (H.lt h1)).trans h2, h3, h4, fun i j x hx => ⟨(h5 i j x hx).1, (h5 i j x hx).2.ext E⟩⟩

/-- A new block. -/
theorem HRel.alloc [Bk] [Ev] {m : Nat → St} {A : Nat → Prop} {h : Nat → Blk} {w : World} (H : HRel m A h w) {id T sz : Nat} {els : List (List AV)} {cs : Array Value} (hid : h id = .no) (h3 : els.length * sz ≤ cs.size) (h4 : ∀ e ∈ els, e.length = sz)
    (h5 : ∀ (i j : Nat) (x : AV), at2 els i j = some x → x.one = true ∧ Rd m A w x (cs.getD (i * sz + j) Go.undef)) :
    HRel (sset m id (.at w.heap.size)) A (bset h id (.cells T sz els)) (w.alloc (.cells cs T)) ∧ Ext m w (sset m id (.at w.heap.size)) (w.alloc (.cells cs T)) := by
  have hmid := H.no id hid
  have hlt : ∀ k b, m k = .at b → b < w.heap.size := fun k b hb => H.lt hb
  have hold : ∀ b, b < w.heap.size → (w.alloc (.cells cs T)).heap[b]? = w.heap[b]? := fun b hb => by
    show (w.heap.push _)[b]? = _
    rw [Array.getElem?_push, if_neg (by omega)]
  have E : Ext m w (sset m id (.at w.heap.size)) (w.alloc (.cells cs T)) := by
    refine ⟨rfl, rfl, rfl, by simp, ?_, ?_, ?_, ?_, ?_⟩
    · intro k b hb
      refine .inl ?_
      unfold sset
      rw [if_neg]
      · exact hb
      · rintro rfl; rw [hmid] at hb; cases hb
    · intro k hk
      unfold sset
      rw [if_neg]
      · exact hk
      · rintro rfl; rw [hmid] at hk; cases hk
    · intro k hk
      refine .inl ?_
      unfold sset
      rw [if_neg]
      · exact hk
      · rintro rfl; rw [hmid] at hk; cases hk
    · intro b hb hu
      refine ⟨?_, hold b hb⟩
      intro k
      unfold sset
      split
      · intro e; cases e; omega
      · exact hu k
    · intro k b h1 h2
      simp [rowSize, hold b (hlt k b h1)]
  refine ⟨⟨?_, fun b hb => by have := H.old b hb; simp; omega, ?_, ?_, ?_, ?_, H.glob.ext H.out E, H.others_to E fun id' B hh hB => ?_⟩, E⟩
  · intro k b hk hA
    unfold sset at hk
    split at hk
    · cases hk; have := H.old _ hA; omega
    · exact H.out k b hk hA
  · intro k hk
    unfold bset at hk; unfold sset
    split at hk
    · cases hk
    · rename_i hne; rw [if_neg hne]; exact H.no k hk
  · intro k hk
    unfold bset at hk; unfold sset
    split at hk
    · cases hk
    · rename_i hne; rw [if_neg hne]; exact H.dead k hk
  · intro k T' sz' els' hk
    unfold bset at hk
    split at hk
    · rename_i he
      cases hk
      subst he
      refine .inr ⟨w.heap.size, cs, by simp [sset], ?_, h3, h4, fun i j x hx => ⟨(h5 i j x hx).1, (h5 i j x hx).2.ext E⟩⟩
      show (w.heap.push _)[w.heap.size]? = _
      simp
    · rename_i hne
      obtain ⟨g1, g2⟩ | ⟨b, cs', g1, g2, g3, g4, g5⟩ := H.cells k T' sz' els' hk
      · exact .inl ⟨by simp [sset, hne, g1], g2⟩
      refine .inr ⟨b, cs', by simp [sset, hne, g1], ?_, g3, g4, fun i j x hx => ⟨(g5 i j x hx).1, (g5 i j x hx).2.ext E⟩⟩
      rw [hold b (hlt k b g1)]; exact g2
  · intro i j b hi hj
    unfold sset at hi hj
    split at hi <;> split at hj
    · rename_i a c; rw [a, c]
    · cases hi; have := hlt j _ hj; omega
    · cases hj; have := hlt i _ hi; omega
    · exact H.inj i j b hi hj
  · unfold bset at hh
    split at hh
    · subst hh; exact absurd hB (by simp [Blk.other])
    · rename_i hne
      exact ⟨hh, fun b hb => ⟨by simp [sset, hne, hb], hold b (hlt id' b hb)⟩⟩

/-- A block is written. -/
theorem HRel.write [Bk] [Ev] {m : Nat → St} {A : Nat → Prop} {h : Nat → Blk} {w w' : World} (H : HRel m A h w) {id T sz b : Nat} {els els' : List (List AV)} {cs cs' : Array Value} (hid : h id = .cells T sz els) (hb : m id = .at b)
    (hw : w'.heap[b]? = some (.cells cs' T (0, 0))) (hw0 : w.heap[b]? = some (.cells cs T (0, 0))) (hsz : cs'.size = cs.size) (hoth : ∀ k, k ≠ b → w'.heap[k]? = w.heap[k]?) (hos : w'.os = w.os) (ht : w'.tape = w.tape) (ho : w'.output = w.output) (hsize : w'.heap.size = w.heap.size)
    (h3 : els'.length * sz ≤ cs'.size) (h4 : ∀ e ∈ els', e.length = sz) (h5 : ∀ (i j : Nat) (x : AV), at2 els' i j = some x → x.one = true ∧ Rd m A w x (cs'.getD (i * sz + j) Go.undef)) :
    HRel m A (bset h id (.cells T sz els')) w' ∧ Ext m w m w' := by
  have E : Ext m w m w' := by
    refine ⟨hos, ht, ho, by omega, fun _ _ h => .inl h, fun _ h => h, fun _ h => .inl h, ?_, ?_⟩
    · intro k hk hu
      exact ⟨hu, hoth k (by rintro rfl; exact hu id hb)⟩
    · intro id' k hk1 hk2
      by_cases e : k = b
      · subst e; simp [rowSize, hw, hw0, hsz]
      · simp [rowSize, hoth k e]
  refine ⟨⟨H.out, fun b hb => by have := H.old b hb; omega, ?_, ?_, ?_, H.inj, H.glob.ext H.out E, H.others_to E fun id' B hh hB => ?_⟩, E⟩
  · intro k hk
    unfold bset at hk
    split at hk
    · cases hk
    · exact H.no k hk
  · intro k hk
    unfold bset at hk
    split at hk
    · cases hk
    · exact H.dead k hk
  · intro k T' sz' els'' hk
    unfold bset at hk
    split at hk
    · rename_i he
      cases hk
      subst he
      exact .inr ⟨b, cs', hb, hw, h3, h4, fun i j x hx => ⟨(h5 i j x hx).1, (h5 i j x hx).2.ext E⟩⟩
    · rename_i hne
      obtain g | ⟨b', cs'', g1, g2, g3, g4, g5⟩ := H.cells k T' sz' els'' hk
      · exact .inl g
      refine .inr ⟨b', cs'', g1, ?_, g3, g4, fun i j x hx => ⟨(g5 i j x hx).1, (g5 i j x hx).2.ext E⟩⟩
      rw [hoth b' (by rintro rfl; exact hne (H.inj k id b' g1 hb))]
      exact g2
  · unfold bset at hh
    split at hh
    · subst hh; exact absurd hB (by simp [Blk.other])
    · rename_i hne
      exact ⟨hh, fun k hk => ⟨hk, hoth k (by rintro rfl; exact hne (H.inj id' id k hk hb))⟩⟩

/-- A draw. -/
theorem HRel.drew [Bk] [Ev] {m : Nat → St} {A : Nat → Prop} {h : Nat → Blk} {w : World} (H : HRel m A h w) : HRel m A h w.drew ∧ Ext m w m w.drew := by
  have b : Below w.heap.size w w.drew := (Below.refl _ _).drew
  exact ⟨H.below b, Ext.of_below H b⟩
end Go.Proofs.YtjbgfhafinfjbaaGreat.Mc
