/-
  A machine of plain data beside the model: it runs. One operation. No program in sight.
-/
import Derived.Test.YtjbgfhafinfjbaaGreatMO
set_option linter.unusedVariables false
set_option linter.unusedSimpArgs false
namespace Go.Proofs.YtjbgfhafinfjbaaGreat.Mc
open Go.RowKit

def newB (h : AH) (nx : Nat) : Bool := match h nx with | .no => true | _ => false
theorem newB_iff [Bk] [Ev] {h : AH} {nx : Nat} (k : newB h nx = true) : h nx = .no := by unfold newB at k; split at k <;> first | assumption | cases k

def isSliceB (P : Program) (t : TypeId) : Bool := match P.underlying t with | some (.slice _) => true | _ => false
def ownSz (y : AV) (n : Nat) : Bool := match y with | .own _ s _ _ _ => s == n | _ => true

/-- A slice that is appended to, and what is appended. -/
def appendA (P : Program) (t : TypeId) (x y : AV) (h : AH) (nx : Nat) : Option AR :=
  match P.underlying t with
  | some (.slice e) => match P.info? e with
    | some i => match i.zero with
      | some z => match baseA h e i.size x, elsA h y with
        | some (els, k, rd), some ys =>
          if z.cells.size = i.size ∧ 0 < i.size ∧ (ys.all fun q => q.length == i.size) = true ∧ ownSz y i.size = true ∧ (els.length + ys.length) * i.bytes ≤ 140737488355328 ∧ els.length + ys.length ≤ 1099511627776 ∧ newB h nx = true then
            some ⟨.own e i.size nx 0 (els.length + ys.length), k ++ [(nx, .cells e i.size (els ++ ys))], nx :: rd ++ idOf y⟩
          else none
        | _, _ => none
      | none => none
    | none => none
  | _ => none

def elemSize (P : Program) (t : TypeId) : Option Nat := (P.info? t).map (·.size)

/-- One operation that calls no function. -/
def aop [Bk] (P : Program) (op : Op) (ρ : Operand → AV) (h : AH) (nx : Nat) : Option AR :=
  match op with
  | .move x => some ⟨ρ x, [], []⟩
  | .assign x => some ⟨ρ x, [], []⟩
  | .pick c x y => match ρ c with
    | .c (.bool b) => some ⟨bif b then ρ x else ρ y, [], []⟩
    | _ => none
  | .alloc e => match P.info? e with
    | some i => match i.zero with
      | some z => match cellsA (ofC z) with
        | some cs => if newB h nx then some ⟨.ptr cs.length nx 0 0, [(nx, .cells e cs.length [cs])], [nx]⟩ else none
        | none => none
      | none => none
    | none => none
  | .box e x => match cellsA (ρ x) with
    | some cs => if newB h nx then some ⟨.ptr cs.length nx 0 0, [(nx, .cells e cs.length [cs])], [nx]⟩ else none
    | none => none
  | .build t parts => match builtA P t (parts.toList.map fun p => (p.1, ρ p.2)) with
    | some cs => some ⟨.agg cs, [], []⟩
    | none => none
  | .buildSlice t len parts => match P.underlying t with
    | some (.slice e) => match P.info? e with
      | some i => match i.zero with
        | some z => match cellsA (ofC z) with
          | some zc => if zc.length = i.size ∧ 0 < i.size ∧ 0 < len ∧ len * i.size ≤ 16777216 ∧ newB h nx = true then
              match fillA (fun k => some (k * i.size, i.size)) ((List.replicate len zc).flatten) (parts.toList.map fun p => (p.1, ρ p.2)) with
              | some cs => some ⟨.own e i.size nx 0 len, [(nx, .cells e i.size (chunk i.size len cs))], [nx]⟩
              | none => none
            else none
          | none => none
        | none => none
      | none => none
    | _ => none
  | .load t x => match ρ x with
    | .ptr sz id i off => match h id with
      | .cells _ s els => if s = sz then match els[i]? with
          | some e => match partA P t e off with
            | some v => some ⟨v, [], [id]⟩
            | none => none
          | none => none
        else none
      | _ => none
    | .lptr _ els i off => match els[i]? with
      | some e => match partA P t e off with
        | some v => some ⟨v, [], []⟩
        | none => none
      | none => none
    | _ => none
  | .store t x y => match ρ x with
    | .ptr sz id i off => match h id with
      | .cells T s els => if s = sz then match els[i]?, cellsA (ρ y) with
          | some e, some xs => if elemSize P t = some xs.length ∧ off + xs.length ≤ sz then some ⟨.undef, [(id, .cells T sz (els.set i (splice e off xs)))], [id]⟩ else none
          | _, _ => none
        else none
      | _ => none
    | _ => none
  | .nilCheck x => match ρ x with
    | .ptr sz id i off => match h id with
      | .cells _ _ els => if (els[i]?).isSome then some ⟨.ptr sz id i off, [], [id]⟩ else none
      | _ => none
    | .lptr sz els i off => some ⟨.lptr sz els i off, [], []⟩
    | .fn (.func k) xs ys => some ⟨.fn (.func k) xs ys, [], []⟩
    | _ => none
  | .binOp op t x y _ => match binA P op t (isCst x) (isCst y) (ρ x) (ρ y) with
    | some r => some ⟨r, [], []⟩
    | none => none
  | .unOp op _ x => match ρ x with
    | .c u => match unV op u with
      | some r => some ⟨.c r, [], []⟩
      | none => none
    | .e p => match op with
      | .neg => if inB (pscale (-1) p) then some ⟨mkE (pscale (-1) p), [], []⟩ else none
      | _ => none
    | _ => none
  | .convert s d x => match ρ x with
    | .c (.int _ n) => match P.underlying s, P.underlying d with
      | some _, some (.int k) => some ⟨.c (.int k (k.wrap n)), [], []⟩
      | _, _ => none
    | .c (.string b) => match P.underlying s, P.underlying d with
      | some _, some .string => some ⟨.c (.string b), [], []⟩
      | _, _ => none
    | .e p => match P.underlying s, P.underlying d with
      | some _, some (.int .i64) => if inB p then some ⟨.e p, [], []⟩ else none
      | _, _ => none
    | _ => none
  | .makeInterface t x => if P.concrete t then some ⟨.ifc t (ρ x), [], []⟩ else none
  | .makeFunc fn first captured => some ⟨.fn fn (first.toList.map ρ) (captured.toList.map ρ), [], []⟩
  | .makeSlice t x y => match ρ x, ρ y with
    | .c (.int _ l), .c (.int _ c) => match P.underlying t with
      | some (.slice e) => match P.info? e with
        | some i => match i.zero with
          | some z => match cellsA (ofC z) with
            | some zc => if zc.length = i.size ∧ 0 ≤ l ∧ l ≤ c ∧ (i.bytes : Int) * c ≤ 281474976710656 ∧ c ≤ 1099511627776 ∧ newB h nx = true then
                some ⟨.own e i.size nx 0 l.toNat, [(nx, .cells e i.size (List.replicate l.toNat zc))], [nx]⟩ else none
            | none => none
          | none => none
        | none => none
      | _ => none
    | _, _ => none
  | .slice t x lo hi mx => match mx with
    | some m => match lo, hi with
      | none, some hi => match ρ hi, ρ m with
        | .c (.int _ a), .c (.int _ b) => match elsA h (ρ x) with
          | some _ => if a = 0 ∧ b = 0 ∧ isSliceB P t = true ∧ (P.info? (P.elem t)).isSome = true then some ⟨.emp, [], idOf (ρ x)⟩ else none
          | none => none
        | _, _ => none
      | some lo, some hi => match ρ x with
        | .own T sz id i n => match h id with
          | .cells T' s els => match bndR ρ 0 (some lo), bndR ρ n (some hi), bndR ρ n (some m) with
            | some l, some u, some v => if T' = T ∧ s = sz ∧ els ≠ [] ∧ l ≤ u ∧ u ≤ v ∧ v ≤ n ∧ l < v ∧ isSliceB P t = true ∧ elemSize P (P.elem t) = some sz then some ⟨.view T sz id (i + l) (u - l), [], [id]⟩ else
                if T' = T ∧ s = sz ∧ els ≠ [] ∧ l = u ∧ u = v ∧ v ≤ n ∧ isSliceB P t = true ∧ elemSize P (P.elem t) = some sz then some ⟨.emp, [], [id]⟩ else none
            | _, _, _ => none
          | _ => none
        | .lit sz els => match bndR ρ 0 (some lo), bndR ρ 0 (some hi), bndR ρ 0 (some m) with
          | some l, some u, some v => if els ≠ [] ∧ l ≤ u ∧ u ≤ v ∧ v ≤ els.length ∧ isSliceB P t = true ∧ elemSize P (P.elem t) = some sz then some ⟨.lit sz ((els.drop l).take (u - l)), [], []⟩ else none
          | _, _, _ => none
        | _ => none
      | _, _ => none
    | none => match ρ x with
      | .lit sz els => match bndR ρ 0 lo, bndR ρ els.length hi with
        | some l, some u => if l ≤ u ∧ u ≤ els.length ∧ isSliceB P t = true ∧ elemSize P (P.elem t) = some sz then some ⟨.lit sz ((els.drop l).take (u - l)), [], []⟩ else none
        | _, _ => none
      | .own T sz id i n => match h id with
        | .cells T' s els => match bndR ρ 0 lo, bndR ρ n hi with
          | some l, some u => if T' = T ∧ s = sz ∧ els ≠ [] ∧ l ≤ u ∧ u ≤ n ∧ (l = 0 ∨ l < n) ∧ isSliceB P t = true ∧ elemSize P (P.elem t) = some sz then some ⟨.own T sz id (i + l) (u - l), [], [id]⟩ else none
          | _, _ => none
        | _ => none
      | .c (.string s) => match P.underlying t with
        | some .string => match bndR ρ 0 lo, bndR ρ s.size hi with
          | some l, some u => if l ≤ u ∧ u ≤ s.size then some ⟨.c (.string (s.extract l u)), [], []⟩ else none
          | _, _ => none
        | _ => none
      | _ => none
  | .fieldAddr t x k => match fieldOf P t k with
    | some (_, o', n) => if n ≠ 0 then match ρ x with
        | .ptr sz id i off => match h id with
          | .cells _ s els => if s = sz ∧ (els[i]?).isSome = true then some ⟨.ptr sz id i (off + o'), [], [id]⟩ else none
          | _ => none
        | .lptr sz els i off => some ⟨.lptr sz els i (off + o'), [], []⟩
        | _ => none
      else none
    | none => none
  | .field t x k => match fieldOf P t k with
    | some (ty, o', _) => match ρ x with
      | .agg cs => match partA P ty cs o' with
        | some v => some ⟨v, [], []⟩
        | none => none
      | _ => none
    | none => none
  | .indexAddr t x ix => match ρ ix with
    | .c (.int _ n) => match P.underlying t with
      | some (.slice e) => match ρ x with
        | .lit sz els => if elemSize P e = some sz ∧ 0 ≤ n ∧ n.toNat < els.length then some ⟨.lptr sz els n.toNat 0, [], []⟩ else none
        | .own T sz id i n' => match h id with
          | .cells T' s els => if T' = T ∧ s = sz ∧ elemSize P e = some sz ∧ 0 ≤ n ∧ n.toNat < n' ∧ (els[i + n.toNat]?).isSome = true then some ⟨.ptr sz id (i + n.toNat) 0, [], [id]⟩ else none
          | _ => none
        | .view T sz id i n' => match h id with
          | .cells T' s els => if T' = T ∧ s = sz ∧ elemSize P e = some sz ∧ 0 ≤ n ∧ n.toNat < n' ∧ (els[i + n.toNat]?).isSome = true then some ⟨.ptr sz id (i + n.toNat) 0, [], [id]⟩ else none
          | _ => none
        | .row N xs => match xs[n.toNat]? with
          | some p => if elemSize P e = some 1 ∧ 0 ≤ n ∧ ltB (psub (plit n) N) = some true then some ⟨.lptr 1 [[mkE p]] 0 0, [], []⟩ else none
          | none => none
        | _ => none
      | some (.array len e) => match elemSize P e with
        | some s => if 0 ≤ n ∧ n.toNat < len then match ρ x with
            | .ptr sz id i off => match h id with
              | .cells _ s' els => if s' = sz ∧ (els[i]?).isSome = true then some ⟨.ptr sz id i (off + n.toNat * s), [], [id]⟩ else none
              | _ => none
            | .lptr sz els i off => some ⟨.lptr sz els i (off + n.toNat * s), [], []⟩
            | _ => none
          else none
        | none => none
      | _ => none
    | _ => none
  | .index t x ix => match ρ ix with
    | .c (.int _ n) => match P.underlying t with
      | some (.array len e) => match elemSize P e with
        | some s => match ρ x with
          | .agg cs => if 0 ≤ n ∧ n.toNat < len then match partA P e cs (n.toNat * s) with
              | some v => some ⟨v, [], []⟩
              | none => none
            else none
          | _ => none
        | none => none
      | some .string => match ρ x with
        | .c (.string s) => match s[n.toNat]? with
          | some b => if 0 ≤ n then some ⟨.c (.int .u8 b.toNat), [], []⟩ else none
          | none => none
        | _ => none
      | _ => none
    | _ => none
  | .extract x k => match ρ x with
    | .tup vs => match vs[k]? with
      | some v => some ⟨v, [], []⟩
      | none => none
    | _ => none
  | .typeAssert x _ asserted ok => match ρ x with
    | .ifc t v => match P.underlying asserted, P.info? asserted with
      | some d, some i => match i.zero with
        | some z => if concB d = true ∧ (t = asserted ∨ ok = true) then
            some ⟨if t = asserted then (if ok then .tup [v, .c (.bool true)] else v) else .tup [ofC z, .c (.bool false)], [], []⟩ else none
        | none => none
      | _, _ => none
    | _ => none
  | .range t x => match P.underlying t with
    | some .string => match ρ x with
      | .c (.string s) => if newB h nx then some ⟨.ptr 0 nx 0 0, [(nx, .it s 0)], [nx]⟩ else none
      | _ => none
    | _ => none
  | .next x str => if str = true then match ρ x with
    | .ptr 0 id 0 0 => match h id with
      | .it s pos => if pos < s.size then some ⟨.tup [.c (.bool true), .c (.int .i64 pos), .c (.int .i32 (Utf8.decode s pos).1)], [(id, .it s (pos + (Utf8.decode s pos).2))], [id]⟩ else some ⟨.tup [.c (.bool false)], [], [id]⟩
      | _ => none
    | _ => none
    else none
  | .makeMap _ rs => match rs with
    | none => if newB h nx then some ⟨.mpv nx, [(nx, .mp [])], [nx]⟩ else none
    | _ => none
  | .insert t x k y => match P.underlying t with
    | some (.map kt _) => match P.underlying kt with
      | some (.int .i64) => match ρ x, ρ k with
        | .mpv id, .c (.int .i64 n) => match h id with
          | .mp es => if noKey n es = true then some ⟨.undef, [(id, .mp (es ++ [(n, ρ y)]))], [id]⟩ else none
          | _ => none
        | _, _ => none
      | _ => none
    | _ => none
  | .lookup t x k ok => match P.underlying t with
    | some (.map kt et) => match P.underlying kt, P.info? et with
      | some (.int .i64), some i => match i.zero with
        | some z => match ρ x, ρ k with
          | .mpv id, .c (.int .i64 n) => match h id with
            | .mp es => match lookMp n es with
              | some v => some ⟨if ok then .tup [v, .c (.bool true)] else v, [], [id]⟩
              | none => if noKey n es = true then some ⟨if ok then .tup [ofC z, .c (.bool false)] else ofC z, [], [id]⟩ else none
            | _ => none
          | _, _ => none
        | none => none
      | _, _ => none
    | _ => none
  | .call { callee := .builtin b, args, argTypes } => match b with
    | .len => match args.toList, argTypes.toList with
      | [x], [t] => match P.underlying t with
        | some (.slice _) => match elsA h (ρ x) with
          | some els => some ⟨.c (.int .i64 els.length), [], idOf (ρ x)⟩
          | none => match ρ x with
            | .row n _ => some ⟨mkE n, [], []⟩
            | .view _ _ _ _ n => some ⟨.c (.int .i64 n), [], []⟩
            | _ => none
        | some .string => match ρ x with
          | .c (.string s) => some ⟨.c (.int .i64 s.size), [], []⟩
          | _ => none
        | _ => none
      | _, _ => none
    | .append => match args.toList, argTypes.toList with
      | [x, y], [t, t'] => if t' = t then appendA P t (ρ x) (ρ y) h nx else none
      | _, _ => none
    | .max => match args.toList with
      | [x, y] => match ρ x, ρ y with
        | .c (.int k p), .c (.int _ q) => some ⟨.c (.int k (if q > p then q else p)), [], []⟩
        | u, v => match toP u, toP v with
          | some p, some q => match symMax p q with
            | some r => some ⟨mkE r, [], []⟩
            | none => none
          | _, _ => none
      | [x, y, z] => match ρ x, ρ y, ρ z with
        | .c (.int k p), .c (.int _ q), .c (.int _ r) => some ⟨.c (.int k (if r > (if q > p then q else p) then r else (if q > p then q else p))), [], []⟩
        | _, _, _ => none
      | _ => none
    | .min => match args.toList with
      | [x, y] => match ρ x, ρ y with
        | .c (.int k p), .c (.int _ q) => some ⟨.c (.int k (if q < p then q else p)), [], []⟩
        | u, v => match toP u, toP v with
          | some p, some q => match symMin p q with
            | some r => some ⟨mkE r, [], []⟩
            | none => none
          | _, _ => none
      | _ => none
    | .clear => match args.toList, argTypes.toList with
      | [x], [t] => match P.underlying t with
        | some (.slice e) => match elsA h (ρ x) with
          | some els0 => if els0.length = 0 then some ⟨.tup [], [], idOf (ρ x)⟩ else
            match P.info? e with
            | some i => match i.zero with
              | some z => match cellsA (ofC z) with
                | some zc => match ρ x with
                  | .own T sz id a n => match h id with
                    | .cells T' s els => if T' = T ∧ s = sz ∧ zc.length = sz ∧ 0 < n ∧ a + n ≤ els.length then some ⟨.tup [], [(id, .cells T sz (splice els a (List.replicate n zc)))], [id]⟩ else none
                    | _ => none
                  | _ => none
                | none => none
              | none => none
            | none => none
          | none => none
        | _ => none
      | _, _ => none
    | _ => none
  | _ => none

section
variable {P : Program} {o : Oper} {f : List AV} {h : AH}

theorem slice_elem [Bk] [Ev] {t : TypeId} (h : isSliceB P t = true) : P.underlying t = some (.slice (P.elem t)) := by
  unfold isSliceB at h
  unfold Program.elem
  split at h
  · rename_i e he; rw [he]
  · cases h

theorem arr1 [Bk] [Ev] {α : Type} {l : Array α} {x : α} (h : l.toList = [x]) : l = #[x] := by cases l; simp_all
theorem arr2 [Bk] [Ev] {α : Type} {l : Array α} {x y : α} (h : l.toList = [x, y]) : l = #[x, y] := by cases l; simp_all
theorem arr3 [Bk] [Ev] {α : Type} {l : Array α} {x y z : α} (h : l.toList = [x, y, z]) : l = #[x, y, z] := by cases l; simp_all

set_option maxHeartbeats 4000000 in
theorem aop_ok [Bk] [Ev] {nx : Nat} {r : AR} (hr : aop P o.op (aev f) h nx = some r) : OpOk P o f h r := by
  obtain ⟨dst, op, ty, pos, after, guard⟩ := o
  simp only at hr
  cases op with
  | move x => simp only [aop, Option.some.injEq] at hr; subst hr; exact op_move rfl
  | assign x => simp only [aop, Option.some.injEq] at hr; subst hr; exact op_assign rfl
  | pick c x y =>
    simp only [aop] at hr
    split at hr
    · rename_i b hc; cases hr; exact op_pick rfl hc
    · cases hr
  | alloc e =>
    simp only [aop] at hr
    split at hr
    · rename_i i hi
      split at hr
      · rename_i z hz
        split at hr
        · rename_i cs hc
          split at hr
          · rename_i hn; cases hr; exact op_alloc rfl hi hz hc (newB_iff hn)
          · cases hr
        · cases hr
      · cases hr
    · cases hr
  | box e x =>
    simp only [aop] at hr
    split at hr
    · rename_i cs hc
      split at hr
      · rename_i hn; cases hr; exact op_box rfl hc (newB_iff hn)
      · cases hr
    · cases hr
  | build t parts =>
    simp only [aop] at hr
    split at hr
    · rename_i cs hc; cases hr; exact op_build rfl hc
    · cases hr
  | buildSlice t len parts =>
    simp only [aop] at hr
    split at hr
    · rename_i e he
      split at hr
      · rename_i i hi
        split at hr
        · rename_i z hz
          split at hr
          · rename_i zc hzc
            split at hr
            · rename_i hcond
              split at hr
              · rename_i cs hf
                cases hr
                obtain ⟨h1, h2, h3, h4, h5⟩ := hcond
                exact op_buildSlice rfl he hi hz hzc h1 h2 h3 h4 hf (newB_iff h5)
              · cases hr
            · cases hr
          · cases hr
        · cases hr
      · cases hr
    · cases hr
  | load t x =>
    simp only [aop] at hr
    split at hr
    · rename_i sz id i off hx
      split at hr
      · rename_i T s els hh
        split at hr
        · rename_i hs
          subst hs
          split at hr
          · rename_i e he
            split at hr
            · rename_i v hp
              cases hr
              exact op_load_ptr rfl hx hh he hp
            · cases hr
          · cases hr
        · cases hr
      · cases hr
    · rename_i sz els i off hx
      split at hr
      · rename_i e he
        split at hr
        · rename_i v hp
          cases hr
          exact op_load_lptr rfl hx he hp
        · cases hr
      · cases hr
    · cases hr
  | store t x y =>
    simp only [aop] at hr
    split at hr
    · rename_i sz id i off hx
      split at hr
      · rename_i T s els hh
        split at hr
        · rename_i hs
          subst hs
          split at hr
          · rename_i e xs he hy
            split at hr
            · rename_i hc
              cases hr
              exact op_store rfl hx hh he hy hc.1 hc.2
            · cases hr
          · cases hr
        · cases hr
      · cases hr
    · cases hr
  | nilCheck x =>
    simp only [aop] at hr
    split at hr
    · rename_i sz id i off hx
      split at hr
      · rename_i T s els hh
        split at hr
        · rename_i hs
          cases hr
          obtain ⟨e, he⟩ := Option.isSome_iff_exists.1 hs
          exact op_nilCheck_ptr rfl hx hh he
        · cases hr
      · cases hr
    · rename_i sz els i off hx; cases hr; exact op_nilCheck_lptr rfl hx
    · rename_i k xs ys hx; cases hr; exact op_nilCheck_fn rfl hx
    · cases hr
  | range t x =>
    simp only [aop] at hr
    split at hr
    · rename_i hu
      split at hr
      · rename_i s hx
        split at hr
        · rename_i hn; cases hr; exact op_range rfl hu hx (newB_iff hn)
        · cases hr
      · cases hr
    · cases hr
  | next x str =>
    simp only [aop] at hr
    split at hr
    · rename_i hs
      subst hs
      split at hr
      · rename_i id hx
        split at hr
        · rename_i s pos hh
          split at hr
          · rename_i hl; cases hr; exact op_next rfl hx hh hl
          · rename_i hl; cases hr; exact op_next_end rfl hx hh hl
        · cases hr
      · cases hr
    · cases hr
  | makeMap t rs =>
    simp only [aop] at hr
    split at hr
    · split at hr
      · rename_i hn; cases hr; exact op_makeMap rfl (newB_iff hn)
      · cases hr
    · cases hr
  | insert t x k y =>
    simp only [aop] at hr
    split at hr
    · rename_i kt et hu
      split at hr
      · rename_i hk
        split at hr
        · rename_i id n hx hn
          split at hr
          · rename_i es hh
            split at hr
            · rename_i hf; cases hr; exact op_insert rfl hu hk hx hn hh hf
            · cases hr
          · cases hr
        · cases hr
      · cases hr
    · cases hr
  | lookup t x k ok =>
    simp only [aop] at hr
    split at hr
    · rename_i kt et hu
      split at hr
      · rename_i i hk hi
        split at hr
        · rename_i z hz
          split at hr
          · rename_i id n hx hn
            split at hr
            · rename_i es hh
              split at hr
              · rename_i v hv; cases hr; exact op_lookup rfl hu hk hx hn hh hv
              · split at hr
                · rename_i hf; cases hr; exact op_lookup_no rfl hu hk hi hz hx hn hh hf
                · cases hr
            · cases hr
          · cases hr
        · cases hr
      · cases hr
    · cases hr
  | binOp bop t x y ty' =>
    simp only [aop] at hr
    split at hr
    · rename_i r' hb; cases hr; exact op_binA rfl hb
    · cases hr
  | unOp uop t x =>
    simp only [aop] at hr
    split at hr
    · rename_i u hx
      split at hr
      · rename_i r' hu; cases hr; exact op_un rfl hx hu
      · cases hr
    · rename_i p hx
      split at hr
      · split at hr
        · rename_i hb; cases hr; exact op_symNeg rfl hx hb
        · cases hr
      · cases hr
    · cases hr
  | convert s d x =>
    simp only [aop] at hr
    split at hr
    · rename_i k n hx
      split at hr
      · rename_i ds k' h1 h2; cases hr; exact op_convert_int rfl hx h1 h2
      · cases hr
    · rename_i b hx
      split at hr
      · rename_i ds h1 h2; cases hr; exact op_convert_str rfl hx h1 h2
      · cases hr
    · rename_i p hx
      split at hr
      · rename_i ds h1 h2
        split at hr
        · rename_i hb; cases hr; exact op_convert_sym rfl hx h1 h2 hb
        · cases hr
      · cases hr
    · cases hr
  | makeInterface t x =>
    simp only [aop] at hr
    split at hr
    · rename_i hc; cases hr; exact op_makeInterface rfl hc
    · cases hr
  | makeFunc fn first captured => simp only [aop, Option.some.injEq] at hr; subst hr; exact op_makeFunc rfl
  | makeSlice t x y =>
    simp only [aop] at hr
    split at hr
    · rename_i k l k' c hx hy
      split at hr
      · rename_i e he
        split at hr
        · rename_i i hi
          split at hr
          · rename_i z hz
            split at hr
            · rename_i zc hzc
              split at hr
              · rename_i hcond
                cases hr
                obtain ⟨h1, h2, h3, h4, h5, h6⟩ := hcond
                exact op_makeSlice rfl he hi hz hzc h1 hx hy h2 h3 h4 h5 (newB_iff h6)
              · cases hr
            · cases hr
          · cases hr
        · cases hr
      · cases hr
    · cases hr
  | slice t x lo hi mx =>
    simp only [aop] at hr
    split at hr
    · rename_i m
      split at hr
      · rename_i hi'
        split at hr
        · rename_i k a k' b h1 h2
          split at hr
          · rename_i els he
            split at hr
            · rename_i hc
              obtain ⟨rfl, rfl, h3, h4⟩ := hc
              cases hr
              exact op_slice_nil rfl (slice_elem h3) h4 he h1 h2
            · cases hr
          · cases hr
        · cases hr
      · rename_i lo' hi'
        split at hr
        · rename_i T sz id i n hx
          split at hr
          · rename_i T' s els hh
            split at hr
            · rename_i l u v q1 q2 q3
              split at hr
              · rename_i hc
                obtain ⟨rfl, rfl, h1, h2, h3, h4, h5, h6, h7⟩ := hc
                cases hr
                exact op_slice_view rfl (slice_elem h6) h7 hx hh h1 q1 q2 q3 h2 h3 h4 h5
              · split at hr
                · rename_i hc
                  obtain ⟨rfl, rfl, h1, rfl, rfl, h4, h6, h7⟩ := hc
                  cases hr
                  exact op_slice_emp3 rfl (slice_elem h6) h7 hx hh h1 q1 q2 q3 h4
                · cases hr
            · cases hr
          · cases hr
        · rename_i sz els hx
          split at hr
          · rename_i l u v q1 q2 q3
            split at hr
            · rename_i hc
              obtain ⟨h1, h2, h3, h4, h6, h7⟩ := hc
              cases hr
              exact op_slice_lit3 rfl (slice_elem h6) h7 hx q1 q2 q3 h2 h3 h4 h1
            · cases hr
          · cases hr
        · cases hr
      · cases hr
    · split at hr
      · rename_i sz els hx
        split at hr
        · rename_i l u h1 h2
          split at hr
          · rename_i hc
            cases hr
            exact op_slice_lit rfl (slice_elem hc.2.2.1) hc.2.2.2 hx h1 h2 hc.1 hc.2.1
          · cases hr
        · cases hr
      · rename_i T sz id i n hx
        split at hr
        · rename_i T' s els hh
          split at hr
          · rename_i l u h1 h2
            split at hr
            · rename_i hc
              obtain ⟨rfl, rfl, h3, h4, h5, h6, h7, h8⟩ := hc
              cases hr
              exact op_slice_own rfl (slice_elem h7) h8 hx hh h3 h1 h2 h4 h5 h6
            · cases hr
          · cases hr
        · cases hr
      · rename_i s hx
        split at hr
        · rename_i hu
          split at hr
          · rename_i l u h1 h2
            split at hr
            · rename_i hc
              cases hr
              exact op_slice_str rfl hu hx h1 h2 hc.1 hc.2
            · cases hr
          · cases hr
        · cases hr
      · cases hr
  | fieldAddr t x k =>
    simp only [aop] at hr
    split at hr
    · rename_i ty' o' n hf
      split at hr
      · rename_i hn
        split at hr
        · rename_i sz id i off hx
          split at hr
          · rename_i T s els hh
            split at hr
            · rename_i hc
              obtain ⟨rfl, hs⟩ := hc
              obtain ⟨e, he⟩ := Option.isSome_iff_exists.1 hs
              cases hr
              exact op_fieldAddr_ptr rfl hx hh he hf hn
            · cases hr
          · cases hr
        · rename_i sz els i off hx
          cases hr
          exact op_fieldAddr_lptr rfl hx hf hn
        · cases hr
      · cases hr
    · cases hr
  | field t x k =>
    simp only [aop] at hr
    split at hr
    · rename_i ty' o' n hf
      split at hr
      · rename_i cs hx
        split at hr
        · rename_i v hp
          cases hr
          exact op_field rfl hx hf hp
        · cases hr
      · cases hr
    · cases hr
  | indexAddr t x ix =>
    simp only [aop] at hr
    split at hr
    · rename_i k n hi
      split at hr
      · rename_i e hu
        split at hr
        · rename_i sz els hx
          split at hr
          · rename_i hc
            cases hr
            exact op_indexAddr_lit rfl hx hi hu hc.1 hc.2.1 hc.2.2
          · cases hr
        · rename_i T sz id i n' hx
          split at hr
          · rename_i T' s els hh
            split at hr
            · rename_i hc
              obtain ⟨rfl, rfl, h1, h2, h3, h4⟩ := hc
              obtain ⟨el, he⟩ := Option.isSome_iff_exists.1 h4
              cases hr
              exact op_indexAddr_own rfl hx hh hi hu h1 h2 h3 he
            · cases hr
          · cases hr
        · rename_i T sz id i n' hx
          split at hr
          · rename_i T' s els hh
            split at hr
            · rename_i hc
              obtain ⟨rfl, rfl, h1, h2, h3, h4⟩ := hc
              obtain ⟨el, he⟩ := Option.isSome_iff_exists.1 h4
              cases hr
              exact op_indexAddr_view rfl hx hh hi hu h1 h2 h3 he
            · cases hr
          · cases hr
        · rename_i N xs hx
          split at hr
          · rename_i p hp
            split at hr
            · rename_i hc
              cases hr
              exact op_indexAddr_row rfl hx hi hu hc.1 hc.2.1 hc.2.2 hp
            · cases hr
          · cases hr
        · cases hr
      · rename_i len e hu
        split at hr
        · rename_i s hs
          split at hr
          · rename_i hc
            split at hr
            · rename_i sz id i off hx
              split at hr
              · rename_i T s' els hh
                split at hr
                · rename_i hc2
                  obtain ⟨rfl, h4⟩ := hc2
                  obtain ⟨el, he⟩ := Option.isSome_iff_exists.1 h4
                  cases hr
                  exact op_indexAddr_arr rfl hx hh he hi hu hs hc.1 hc.2
                · cases hr
              · cases hr
            · rename_i sz els i off hx
              cases hr
              exact op_indexAddr_larr rfl hx hi hu hs hc.1 hc.2
            · cases hr
          · cases hr
        · cases hr
      · cases hr
    · cases hr
  | index t x ix =>
    simp only [aop] at hr
    split at hr
    · rename_i k n hi
      split at hr
      · rename_i len e hu
        split at hr
        · rename_i s hs
          split at hr
          · rename_i cs hx
            split at hr
            · rename_i hc
              split at hr
              · rename_i v hp
                cases hr
                exact op_index_arr rfl hx hi hu hs hc.1 hc.2 hp
              · cases hr
            · cases hr
          · cases hr
        · cases hr
      · rename_i hu
        split at hr
        · rename_i s hx
          split at hr
          · rename_i b hb
            split at hr
            · rename_i h0
              cases hr
              exact op_index_str rfl hx hi hu h0 hb
            · cases hr
          · cases hr
        · cases hr
      · cases hr
    · cases hr
  | extract x k =>
    simp only [aop] at hr
    split at hr
    · rename_i vs hx
      split at hr
      · rename_i v hv
        cases hr
        exact op_extract rfl hx hv
      · cases hr
    · cases hr
  | typeAssert x xt asserted ok =>
    simp only [aop] at hr
    split at hr
    · rename_i t v hx
      split at hr
      · rename_i d i h1 h2
        split at hr
        · rename_i z hz
          split at hr
          · rename_i hc
            cases hr
            exact op_typeAssert rfl hx h1 hc.1 h2 hz hc.2
          · cases hr
        · cases hr
      · cases hr
    · cases hr
  | call c =>
    obtain ⟨callee, args, argTypes⟩ := c
    cases callee with
    | builtin b =>
      simp only [aop] at hr
      split at hr
      · split at hr
        · rename_i x t ha ht
          rw [arr1 ha, arr1 ht]
          split at hr
          · rename_i e hu
            split at hr
            · rename_i els he; cases hr; exact op_len rfl hu he
            · split at hr
              · rename_i n xs hx; cases hr; exact op_len_row rfl hu hx
              · rename_i hx; cases hr; exact op_len_view rfl hu hx
              · cases hr
          · rename_i hu
            split at hr
            · rename_i s hx; cases hr; exact op_len_str rfl hu hx
            · cases hr
          · cases hr
        · cases hr
      · split at hr
        · rename_i x y t t' ha ht
          rw [arr2 ha, arr2 ht]
          split at hr
          · rename_i e
            subst e
            unfold appendA at hr
            split at hr
            · rename_i e he
              split at hr
              · rename_i i hi
                split at hr
                · rename_i z hz
                  split at hr
                  · rename_i els k rd ys hb hy
                    split at hr
                    · rename_i hc
                      obtain ⟨h1, h2, h3, h4, h5, h6, h7⟩ := hc
                      cases hr
                      refine op_append rfl he hi hz h1 h2 hb hy (fun q hq => by simpa using List.all_eq_true.1 h3 q hq) ?_ h5 h6 (newB_iff h7)
                      intro T s id j n hy'
                      rw [hy'] at h4
                      simpa [ownSz] using h4
                    · cases hr
                  · cases hr
                · cases hr
              · cases hr
            · cases hr
          · cases hr
        · cases hr
      · split at hr
        · rename_i x y ha
          rw [arr2 ha]
          split at hr
          · rename_i k p k' q hx hy; cases hr; exact op_max2 rfl hx hy
          · split at hr
            · rename_i p q hp hq
              split at hr
              · rename_i r' hs; cases hr; exact op_symMax2 rfl hp hq hs
              · cases hr
            · cases hr
        · rename_i x y z ha
          rw [arr3 ha]
          split at hr
          · rename_i k p k' q k'' r' hx hy hz; cases hr; exact op_max3 rfl hx hy hz
          · cases hr
        · cases hr
      · split at hr
        · rename_i x y ha
          rw [arr2 ha]
          split at hr
          · rename_i k p k' q hx hy; cases hr; exact op_min2 rfl hx hy
          · split at hr
            · rename_i p q hp hq
              split at hr
              · rename_i r' hs; cases hr; exact op_symMin2 rfl hp hq hs
              · cases hr
            · cases hr
        · cases hr
      · split at hr
        · rename_i x t ha ht
          rw [arr1 ha, arr1 ht]
          split at hr
          · rename_i e hu
            split at hr
            · rename_i els0 he
              split at hr
              · rename_i h0; cases hr; exact op_clear0 rfl hu he h0
              · split at hr
                · rename_i ti hi
                  split at hr
                  · rename_i z hz
                    split at hr
                    · rename_i zc hc
                      split at hr
                      · rename_i T sz id a n hx
                        split at hr
                        · rename_i T' s els hh
                          split at hr
                          · rename_i hcond
                            obtain ⟨rfl, rfl, c1, c2, c3⟩ := hcond
                            cases hr
                            exact op_clear rfl hu hi hz hc c1 hx hh c2 c3
                          · cases hr
                        · cases hr
                      · cases hr
                    · cases hr
                  · cases hr
                · cases hr
            · cases hr
          · cases hr
        · cases hr
      · cases hr
    | _ => simp [aop] at hr
  | _ => simp [aop] at hr
end
end Go.Proofs.YtjbgfhafinfjbaaGreat.Mc
