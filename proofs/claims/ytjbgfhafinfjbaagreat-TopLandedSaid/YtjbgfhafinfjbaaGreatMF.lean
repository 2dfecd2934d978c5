/-
  A machine of plain data beside the model: one operation, each kind in a place of its own, so that it runs fast. No program in sight.
-/
import Derived.Test.YtjbgfhafinfjbaaGreatM13
set_option linter.unusedVariables false
set_option linter.unusedSimpArgs false
namespace Go.Proofs.YtjbgfhafinfjbaaGreat.Mc
open Go.RowKit

def aF_move [Bk] (P : Program) (x : Operand) (ρ : Operand → AV) (h : AH) (nx : Nat) : Option AR :=
  some ⟨ρ x, [], []⟩

def aF_assign [Bk] (P : Program) (x : Operand) (ρ : Operand → AV) (h : AH) (nx : Nat) : Option AR :=
  some ⟨ρ x, [], []⟩

def aF_pick [Bk] (P : Program) (c : Operand) (x : Operand) (y : Operand) (ρ : Operand → AV) (h : AH) (nx : Nat) : Option AR :=
  match ρ c with
    | .c (.bool b) => some ⟨bif b then ρ x else ρ y, [], []⟩
    | _ => none
def aF_alloc [Bk] (P : Program) (e : TypeId) (ρ : Operand → AV) (h : AH) (nx : Nat) : Option AR :=
  match P.info? e with
    | some i => match i.zero with
      | some z => match cellsA (ofC z) with
        | some cs => if newB h nx then some ⟨.ptr cs.length nx 0 0, [(nx, .cells e cs.length [cs])], [nx]⟩ else none
        | none => none
      | none => none
    | none => none
def aF_box [Bk] (P : Program) (e : TypeId) (x : Operand) (ρ : Operand → AV) (h : AH) (nx : Nat) : Option AR :=
  match cellsA (ρ x) with
    | some cs => if newB h nx then some ⟨.ptr cs.length nx 0 0, [(nx, .cells e cs.length [cs])], [nx]⟩ else none
    | none => none
def aF_build [Bk] (P : Program) (t : TypeId) (parts : Array (Nat × Operand)) (ρ : Operand → AV) (h : AH) (nx : Nat) : Option AR :=
  match builtA P t (parts.toList.map fun p => (p.1, ρ p.2)) with
    | some cs => some ⟨.agg cs, [], []⟩
    | none => none
def aF_buildSlice [Bk] (P : Program) (t : TypeId) (len : Nat) (parts : Array (Nat × Operand)) (ρ : Operand → AV) (h : AH) (nx : Nat) : Option AR :=
  match P.underlying t with
    | some (.slice e) => match P.info? e with
      | some i => match i.zero with
        | some z => match cellsA (ofC z) with
          | some zc => if zc.length = i.size ∧ 0 < i.size ∧ 0 < len ∧ len * i.size ≤ 16777216 ∧ newB h nx = true then
              match fillA (fun k => some (k * i.size, i.size)) ((List.replicate len zc).flatten) (parts.toList.map fun p => (p.1, ρ p.2)) with
              | some cs => some ⟨.own e i.size nx 0 len, [(nx, .cells e i.size (chunk i.size len cs))], [nx]⟩
              | none => none
            else none
          | none => none
        | none => none
      | none => none
    | _ => none
def aF_load [Bk] (P : Program) (t : TypeId) (x : Operand) (ρ : Operand → AV) (h : AH) (nx : Nat) : Option AR :=
  match ρ x with
    | .ptr sz id i off => match h id with
      | .cells _ s els => if s = sz then match els[i]? with
          | some e => match partA P t e off with
            | some v => some ⟨v, [], [id]⟩
            | none => none
          | none => none
        else none
      | _ => none
    | .lptr _ els i off => match els[i]? with
      | some e => match partA P t e off with
        | some v => some ⟨v, [], []⟩
        | none => none
      | none => none
    | _ => none
def aF_store [Bk] (P : Program) (t : TypeId) (x : Operand) (y : Operand) (ρ : Operand → AV) (h : AH) (nx : Nat) : Option AR :=
  match ρ x with
    | .ptr sz id i off => match h id with
      | .cells T s els => if s = sz then match els[i]?, cellsA (ρ y) with
          | some e, some xs => if elemSize P t = some xs.length ∧ off + xs.length ≤ sz then some ⟨.undef, [(id, .cells T sz (els.set i (splice e off xs)))], [id]⟩ else none
          | _, _ => none
        else none
      | _ => none
    | _ => none
def aF_nilCheck [Bk] (P : Program) (x : Operand) (ρ : Operand → AV) (h : AH) (nx : Nat) : Option AR :=
  match ρ x with
    | .ptr sz id i off => match h id with
      | .cells _ _ els => if (els[i]?).isSome then some ⟨.ptr sz id i off, [], [id]⟩ else none
      | _ => none
    | .lptr sz els i off => some ⟨.lptr sz els i off, [], []⟩
    | .fn (.func k) xs ys => some ⟨.fn (.func k) xs ys, [], []⟩
    | _ => none
def aF_binOp [Bk] (P : Program) (op : BinOp) (t : TypeId) (x : Operand) (y : Operand) (ρ : Operand → AV) (h : AH) (nx : Nat) : Option AR :=
  match binA P op t (isCst x) (isCst y) (ρ x) (ρ y) with
    | some r => some ⟨r, [], []⟩
    | none => none
def aF_unOp [Bk] (P : Program) (op : UnOp) (x : Operand) (ρ : Operand → AV) (h : AH) (nx : Nat) : Option AR :=
  match ρ x with
    | .c u => match unV op u with
      | some r => some ⟨.c r, [], []⟩
      | none => none
    | .e p => match op with
      | .neg => if inB (pscale (-1) p) then some ⟨mkE (pscale (-1) p), [], []⟩ else none
      | _ => none
    | _ => none
def aF_convert [Bk] (P : Program) (s : TypeId) (d : TypeId) (x : Operand) (ρ : Operand → AV) (h : AH) (nx : Nat) : Option AR :=
  match ρ x with
    | .c (.int _ n) => match P.underlying s, P.underlying d with
      | some _, some (.int k) => some ⟨.c (.int k (k.wrap n)), [], []⟩
      | _, _ => none
    | .c (.string b) => match P.underlying s, P.underlying d with
      | some _, some .string => some ⟨.c (.string b), [], []⟩
      | _, _ => none
    | .e p => match P.underlying s, P.underlying d with
      | some _, some (.int .i64) => if inB p then some ⟨.e p, [], []⟩ else none
      | _, _ => none
    | _ => none
def aF_makeInterface [Bk] (P : Program) (t : TypeId) (x : Operand) (ρ : Operand → AV) (h : AH) (nx : Nat) : Option AR :=
  if P.concrete t then some ⟨.ifc t (ρ x), [], []⟩ else none

def aF_makeFunc [Bk] (P : Program) (fn : Fn) (first : Array Operand) (captured : Array Operand) (ρ : Operand → AV) (h : AH) (nx : Nat) : Option AR :=
  some ⟨.fn fn (first.toList.map ρ) (captured.toList.map ρ), [], []⟩

def aF_makeSlice [Bk] (P : Program) (t : TypeId) (x : Operand) (y : Operand) (ρ : Operand → AV) (h : AH) (nx : Nat) : Option AR :=
  match ρ x, ρ y with
    | .c (.int _ l), .c (.int _ c) => match P.underlying t with
      | some (.slice e) => match P.info? e with
        | some i => match i.zero with
          | some z => match cellsA (ofC z) with
            | some zc => if zc.length = i.size ∧ 0 ≤ l ∧ l ≤ c ∧ (i.bytes : Int) * c ≤ 281474976710656 ∧ c ≤ 1099511627776 ∧ newB h nx = true then
                some ⟨.own e i.size nx 0 l.toNat, [(nx, .cells e i.size (List.replicate l.toNat zc))], [nx]⟩ else none
            | none => none
          | none => none
        | none => none
      | _ => none
    | _, _ => none
def aF_slice [Bk] (P : Program) (t : TypeId) (x : Operand) (lo : Option Operand) (hi : Option Operand) (mx : Option Operand) (ρ : Operand → AV) (h : AH) (nx : Nat) : Option AR :=
  match mx with
    | some m => match lo, hi with
      | none, some hi => match ρ hi, ρ m with
        | .c (.int _ a), .c (.int _ b) => match elsA h (ρ x) with
          | some _ => if a = 0 ∧ b = 0 ∧ isSliceB P t = true ∧ (P.info? (P.elem t)).isSome = true then some ⟨.emp, [], idOf (ρ x)⟩ else none
          | none => none
        | _, _ => none
      | some lo, some hi => match ρ x with
        | .own T sz id i n => match h id with
          | .cells T' s els => match bndR ρ 0 (some lo), bndR ρ n (some hi), bndR ρ n (some m) with
            | some l, some u, some v => if T' = T ∧ s = sz ∧ els ≠ [] ∧ l ≤ u ∧ u ≤ v ∧ v ≤ n ∧ l < v ∧ isSliceB P t = true ∧ elemSize P (P.elem t) = some sz then some ⟨.view T sz id (i + l) (u - l), [], [id]⟩ else
                if T' = T ∧ s = sz ∧ els ≠ [] ∧ l = u ∧ u = v ∧ v ≤ n ∧ isSliceB P t = true ∧ elemSize P (P.elem t) = some sz then some ⟨.emp, [], [id]⟩ else none
            | _, _, _ => none
          | _ => none
        | .lit sz els => match bndR ρ 0 (some lo), bndR ρ 0 (some hi), bndR ρ 0 (some m) with
          | some l, some u, some v => if els ≠ [] ∧ l ≤ u ∧ u ≤ v ∧ v ≤ els.length ∧ isSliceB P t = true ∧ elemSize P (P.elem t) = some sz then some ⟨.lit sz ((els.drop l).take (u - l)), [], []⟩ else none
          | _, _, _ => none
        | _ => none
      | _, _ => none
    | none => match ρ x with
      | .lit sz els => match bndR ρ 0 lo, bndR ρ els.length hi with
        | some l, some u => if l ≤ u ∧ u ≤ els.length ∧ isSliceB P t = true ∧ elemSize P (P.elem t) = some sz then some ⟨.lit sz ((els.drop l).take (u - l)), [], []⟩ else none
        | _, _ => none
      | .own T sz id i n => match h id with
        | .cells T' s els => match bndR ρ 0 lo, bndR ρ n hi with
          | some l, some u => if T' = T ∧ s = sz ∧ els ≠ [] ∧ l ≤ u ∧ u ≤ n ∧ (l = 0 ∨ l < n) ∧ isSliceB P t = true ∧ elemSize P (P.elem t) = some sz then some ⟨.own T sz id (i + l) (u - l), [], [id]⟩ else none
          | _, _ => none
        | _ => none
      | .c (.string s) => match P.underlying t with
        | some .string => match bndR ρ 0 lo, bndR ρ s.size hi with
          | some l, some u => if l ≤ u ∧ u ≤ s.size then some ⟨.c (.string (s.extract l u)), [], []⟩ else none
          | _, _ => none
        | _ => none
      | _ => none
def aF_fieldAddr [Bk] (P : Program) (t : TypeId) (x : Operand) (k : Nat) (ρ : Operand → AV) (h : AH) (nx : Nat) : Option AR :=
  match fieldOf P t k with
    | some (_, o', n) => if n ≠ 0 then match ρ x with
        | .ptr sz id i off => match h id with
          | .cells _ s els => if s = sz ∧ (els[i]?).isSome = true then some ⟨.ptr sz id i (off + o'), [], [id]⟩ else none
          | _ => none
        | .lptr sz els i off => some ⟨.lptr sz els i (off + o'), [], []⟩
        | _ => none
      else none
    | none => none
def aF_field [Bk] (P : Program) (t : TypeId) (x : Operand) (k : Nat) (ρ : Operand → AV) (h : AH) (nx : Nat) : Option AR :=
  match fieldOf P t k with
    | some (ty, o', _) => match ρ x with
      | .agg cs => match partA P ty cs o' with
        | some v => some ⟨v, [], []⟩
        | none => none
      | _ => none
    | none => none
def aF_indexAddr [Bk] (P : Program) (t : TypeId) (x : Operand) (ix : Operand) (ρ : Operand → AV) (h : AH) (nx : Nat) : Option AR :=
  match ρ ix with
    | .c (.int _ n) => match P.underlying t with
      | some (.slice e) => match ρ x with
        | .lit sz els => if elemSize P e = some sz ∧ 0 ≤ n ∧ n.toNat < els.length then some ⟨.lptr sz els n.toNat 0, [], []⟩ else none
        | .own T sz id i n' => match h id with
          | .cells T' s els => if T' = T ∧ s = sz ∧ elemSize P e = some sz ∧ 0 ≤ n ∧ n.toNat < n' ∧ (els[i + n.toNat]?).isSome = true then some ⟨.ptr sz id (i + n.toNat) 0, [], [id]⟩ else none
          | _ => none
        | .view T sz id i n' => match h id with
          | .cells T' s els => if T' = T ∧ s = sz ∧ elemSize P e = some sz ∧ 0 ≤ n ∧ n.toNat < n' ∧ (els[i + n.toNat]?).isSome = true then some ⟨.ptr sz id (i + n.toNat) 0, [], [id]⟩ else none
          | _ => none
        | .row N xs => match xs[n.toNat]? with
          | some p => if elemSize P e = some 1 ∧ 0 ≤ n ∧ ltB (psub (plit n) N) = some true then some ⟨.lptr 1 [[mkE p]] 0 0, [], []⟩ else none
          | none => none
        | _ => none
      | some (.array len e) => match elemSize P e with
        | some s => if 0 ≤ n ∧ n.toNat < len then match ρ x with
            | .ptr sz id i off => match h id with
              | .cells _ s' els => if s' = sz ∧ (els[i]?).isSome = true then some ⟨.ptr sz id i (off + n.toNat * s), [], [id]⟩ else none
              | _ => none
            | .lptr sz els i off => some ⟨.lptr sz els i (off + n.toNat * s), [], []⟩
            | _ => none
          else none
        | none => none
      | _ => none
    | _ => none
def aF_index [Bk] (P : Program) (t : TypeId) (x : Operand) (ix : Operand) (ρ : Operand → AV) (h : AH) (nx : Nat) : Option AR :=
  match ρ ix with
    | .c (.int _ n) => match P.underlying t with
      | some (.array len e) => match elemSize P e with
        | some s => match ρ x with
          | .agg cs => if 0 ≤ n ∧ n.toNat < len then match partA P e cs (n.toNat * s) with
              | some v => some ⟨v, [], []⟩
              | none => none
            else none
          | _ => none
        | none => none
      | some .string => match ρ x with
        | .c (.string s) => match s[n.toNat]? with
          | some b => if 0 ≤ n then some ⟨.c (.int .u8 b.toNat), [], []⟩ else none
          | none => none
        | _ => none
      | _ => none
    | _ => none
def aF_extract [Bk] (P : Program) (x : Operand) (k : Nat) (ρ : Operand → AV) (h : AH) (nx : Nat) : Option AR :=
  match ρ x with
    | .tup vs => match vs[k]? with
      | some v => some ⟨v, [], []⟩
      | none => none
    | _ => none
def aF_typeAssert [Bk] (P : Program) (x : Operand) (asserted : TypeId) (ok : Bool) (ρ : Operand → AV) (h : AH) (nx : Nat) : Option AR :=
  match ρ x with
    | .ifc t v => match P.underlying asserted, P.info? asserted with
      | some d, some i => match i.zero with
        | some z => if concB d = true ∧ (t = asserted ∨ ok = true) then
            some ⟨if t = asserted then (if ok then .tup [v, .c (.bool true)] else v) else .tup [ofC z, .c (.bool false)], [], []⟩ else none
        | none => none
      | _, _ => none
    | _ => none
def aF_range [Bk] (P : Program) (t : TypeId) (x : Operand) (ρ : Operand → AV) (h : AH) (nx : Nat) : Option AR :=
  match P.underlying t with
    | some .string => match ρ x with
      | .c (.string s) => if newB h nx then some ⟨.ptr 0 nx 0 0, [(nx, .it s 0)], [nx]⟩ else none
      | _ => none
    | _ => none
def aF_next [Bk] (P : Program) (x : Operand) (str : Bool) (ρ : Operand → AV) (h : AH) (nx : Nat) : Option AR :=
  if str = true then match ρ x with
    | .ptr 0 id 0 0 => match h id with
      | .it s pos => if pos < s.size then some ⟨.tup [.c (.bool true), .c (.int .i64 pos), .c (.int .i32 (Utf8.decode s pos).1)], [(id, .it s (pos + (Utf8.decode s pos).2))], [id]⟩ else some ⟨.tup [.c (.bool false)], [], [id]⟩
      | _ => none
    | _ => none
    else none
def aF_makeMap [Bk] (P : Program) (rs : Option Operand) (ρ : Operand → AV) (h : AH) (nx : Nat) : Option AR :=
  match rs with
    | none => if newB h nx then some ⟨.mpv nx, [(nx, .mp [])], [nx]⟩ else none
    | _ => none
def aF_insert [Bk] (P : Program) (t : TypeId) (x : Operand) (k : Operand) (y : Operand) (ρ : Operand → AV) (h : AH) (nx : Nat) : Option AR :=
  match P.underlying t with
    | some (.map kt _) => match P.underlying kt with
      | some (.int .i64) => match ρ x, ρ k with
        | .mpv id, .c (.int .i64 n) => match h id with
          | .mp es => if noKey n es = true then some ⟨.undef, [(id, .mp (es ++ [(n, ρ y)]))], [id]⟩ else none
          | _ => none
        | _, _ => none
      | _ => none
    | _ => none
def aF_lookup [Bk] (P : Program) (t : TypeId) (x : Operand) (k : Operand) (ok : Bool) (ρ : Operand → AV) (h : AH) (nx : Nat) : Option AR :=
  match P.underlying t with
    | some (.map kt et) => match P.underlying kt, P.info? et with
      | some (.int .i64), some i => match i.zero with
        | some z => match ρ x, ρ k with
          | .mpv id, .c (.int .i64 n) => match h id with
            | .mp es => match lookMp n es with
              | some v => some ⟨if ok then .tup [v, .c (.bool true)] else v, [], [id]⟩
              | none => if noKey n es = true then some ⟨if ok then .tup [ofC z, .c (.bool false)] else ofC z, [], [id]⟩ else none
            | _ => none
          | _, _ => none
        | none => none
      | _, _ => none
    | _ => none
def aF_b_len [Bk] (P : Program) (args : Array Operand) (argTypes : Array TypeId) (ρ : Operand → AV) (h : AH) (nx : Nat) : Option AR :=
  match args.toList, argTypes.toList with
      | [x], [t] => match P.underlying t with
        | some (.slice _) => match elsA h (ρ x) with
          | some els => some ⟨.c (.int .i64 els.length), [], idOf (ρ x)⟩
          | none => match ρ x with
            | .row n _ => some ⟨mkE n, [], []⟩
            | .view _ _ _ _ n => some ⟨.c (.int .i64 n), [], []⟩
            | _ => none
        | some .string => match ρ x with
          | .c (.string s) => some ⟨.c (.int .i64 s.size), [], []⟩
          | _ => none
        | _ => none
      | _, _ => none
def aF_b_append [Bk] (P : Program) (args : Array Operand) (argTypes : Array TypeId) (ρ : Operand → AV) (h : AH) (nx : Nat) : Option AR :=
  match args.toList, argTypes.toList with
      | [x, y], [t, t'] => if t' = t then appendA P t (ρ x) (ρ y) h nx else none
      | _, _ => none
def aF_b_max [Bk] (P : Program) (args : Array Operand) (argTypes : Array TypeId) (ρ : Operand → AV) (h : AH) (nx : Nat) : Option AR :=
  match args.toList with
      | [x, y] => match ρ x, ρ y with
        | .c (.int k p), .c (.int _ q) => some ⟨.c (.int k (if q > p then q else p)), [], []⟩
        | u, v => match toP u, toP v with
          | some p, some q => match symMax p q with
            | some r => some ⟨mkE r, [], []⟩
            | none => none
          | _, _ => none
      | [x, y, z] => match ρ x, ρ y, ρ z with
        | .c (.int k p), .c (.int _ q), .c (.int _ r) => some ⟨.c (.int k (if r > (if q > p then q else p) then r else (if q > p then q else p))), [], []⟩
        | _, _, _ => none
      | _ => none
def aF_b_min [Bk] (P : Program) (args : Array Operand) (argTypes : Array TypeId) (ρ : Operand → AV) (h : AH) (nx : Nat) : Option AR :=
  match args.toList with
      | [x, y] => match ρ x, ρ y with
        | .c (.int k p), .c (.int _ q) => some ⟨.c (.int k (if q < p then q else p)), [], []⟩
        | u, v => match toP u, toP v with
          | some p, some q => match symMin p q with
            | some r => some ⟨mkE r, [], []⟩
            | none => none
          | _, _ => none
      | _ => none
def aF_b_clear [Bk] (P : Program) (args : Array Operand) (argTypes : Array TypeId) (ρ : Operand → AV) (h : AH) (nx : Nat) : Option AR :=
  match args.toList, argTypes.toList with
      | [x], [t] => match P.underlying t with
        | some (.slice e) => match elsA h (ρ x) with
          | some els0 => if els0.length = 0 then some ⟨.tup [], [], idOf (ρ x)⟩ else
            match P.info? e with
            | some i => match i.zero with
              | some z => match cellsA (ofC z) with
                | some zc => match ρ x with
                  | .own T sz id a n => match h id with
                    | .cells T' s els => if T' = T ∧ s = sz ∧ zc.length = sz ∧ 0 < n ∧ a + n ≤ els.length then some ⟨.tup [], [(id, .cells T sz (splice els a (List.replicate n zc)))], [id]⟩ else none
                    | _ => none
                  | _ => none
                | none => none
              | none => none
            | none => none
          | none => none
        | _ => none
      | _, _ => none
def aF_call [Bk] (P : Program) (b : Builtin) (args : Array Operand) (argTypes : Array TypeId) (ρ : Operand → AV) (h : AH) (nx : Nat) : Option AR :=
  match b with
    | .len => aF_b_len P args argTypes ρ h nx
    | .append => aF_b_append P args argTypes ρ h nx
    | .max => aF_b_max P args argTypes ρ h nx
    | .min => aF_b_min P args argTypes ρ h nx
    | .clear => aF_b_clear P args argTypes ρ h nx
    | _ => none
/-- One operation. -/
def aopF [Bk] (P : Program) (op : Op) (ρ : Operand → AV) (h : AH) (nx : Nat) : Option AR :=
  match op with
  | .move x => aF_move P x ρ h nx
  | .assign x => aF_assign P x ρ h nx
  | .pick c x y => aF_pick P c x y ρ h nx
  | .alloc e => aF_alloc P e ρ h nx
  | .box e x => aF_box P e x ρ h nx
  | .build t parts => aF_build P t parts ρ h nx
  | .buildSlice t len parts => aF_buildSlice P t len parts ρ h nx
  | .load t x => aF_load P t x ρ h nx
  | .store t x y => aF_store P t x y ρ h nx
  | .nilCheck x => aF_nilCheck P x ρ h nx
  | .binOp op t x y _ => aF_binOp P op t x y ρ h nx
  | .unOp op _ x => aF_unOp P op x ρ h nx
  | .convert s d x => aF_convert P s d x ρ h nx
  | .makeInterface t x => aF_makeInterface P t x ρ h nx
  | .makeFunc fn first captured => aF_makeFunc P fn first captured ρ h nx
  | .makeSlice t x y => aF_makeSlice P t x y ρ h nx
  | .slice t x lo hi mx => aF_slice P t x lo hi mx ρ h nx
  | .fieldAddr t x k => aF_fieldAddr P t x k ρ h nx
  | .field t x k => aF_field P t x k ρ h nx
  | .indexAddr t x ix => aF_indexAddr P t x ix ρ h nx
  | .index t x ix => aF_index P t x ix ρ h nx
  | .extract x k => aF_extract P x k ρ h nx
  | .typeAssert x _ asserted ok => aF_typeAssert P x asserted ok ρ h nx
  | .range t x => aF_range P t x ρ h nx
  | .next x str => aF_next P x str ρ h nx
  | .makeMap _ rs => aF_makeMap P rs ρ h nx
  | .insert t x k y => aF_insert P t x k y ρ h nx
  | .lookup t x k ok => aF_lookup P t x k ok ρ h nx
  | .call { callee := .builtin b, args, argTypes } => aF_call P b args argTypes ρ h nx
  | _ => none
theorem aopF_eq [Bk] (P : Program) (op : Op) (ρ : Operand → AV) (h : AH) (nx : Nat) : aopF P op ρ h nx = aop P op ρ h nx := by
  cases op <;> rfl
end Go.Proofs.YtjbgfhafinfjbaaGreat.Mc
