/-
 A machine of plain data beside the model: one operation, each kind in a place of its own, so that it runs fast. No program in sight.
 A machine of plain data beside the model: it runs over a tree, so that it runs fast. No program in sight.
 A machine of plain data beside the model: each operation of a text prepared once, so that it runs faster. No program in sight.
 A machine of plain data beside the model: a run out of nothing, as a contract. No program in sight.
-/
import Derived.Test.YtjccjmmbebiegaaM13
set_option linter.unusedVariables false
set_option linter.unusedSimpArgs false
namespace Go.Proofs.Ytjccjmmbebiegaa.Mc
open Go.RowKit
def aF_move [Bk] (P:Program) (x:Operand) (ρ:Operand→AV) (h:AH) (nx:Nat):Option AR :=
 some ⟨ρ x,[],[]⟩
def aF_assign [Bk] (P:Program) (x:Operand) (ρ:Operand→AV) (h:AH) (nx:Nat):Option AR :=
 some ⟨ρ x,[],[]⟩
def aF_pick [Bk] (P:Program) (c:Operand) (x:Operand) (y:Operand) (ρ:Operand→AV) (h:AH) (nx:Nat):Option AR :=
 match ρ c with
  | .c (.bool b)=>some ⟨bif b then ρ x else ρ y,[],[]⟩
  |_=>none
def aF_alloc [Bk] (P:Program) (e:TypeId) (ρ:Operand→AV) (h:AH) (nx:Nat):Option AR :=
 match P.info? e with
  |some i=>match i.zero with
   |some z=>match cellsA (ofC z)with
    |some cs=>if newB h nx then some ⟨.ptr cs.length nx 0 0,[(nx,.cells e cs.length [cs])],[nx]⟩else none
    |none=>none
   |none=>none
  |none=>none
def aF_box [Bk] (P:Program) (e:TypeId) (x:Operand) (ρ:Operand→AV) (h:AH) (nx:Nat):Option AR :=
 match cellsA (ρ x)with
  |some cs=>if newB h nx then some ⟨.ptr cs.length nx 0 0,[(nx,.cells e cs.length [cs])],[nx]⟩else none
  |none=>none
def aF_build [Bk] (P:Program) (t:TypeId) (parts:Array (Nat×Operand)) (ρ:Operand→AV) (h:AH) (nx:Nat):Option AR :=
 match builtA P t (parts.toList.map fun p=>(p.1,ρ p.2))with
  |some cs=>some ⟨.agg cs,[],[]⟩
  |none=>none
def aF_buildSlice [Bk] (P:Program) (t:TypeId) (len:Nat) (parts:Array (Nat×Operand)) (ρ:Operand→AV) (h:AH) (nx:Nat):Option AR :=
 match P.underlying t with
  |some (.slice e)=>match P.info? e with
   |some i=>match i.zero with
    |some z=>match cellsA (ofC z)with
     |some zc=>if zc.length=i.size∧0<i.size∧0<len∧len*i.size≤16777216∧newB h nx=true then
       match fillA (fun k=>some (k*i.size,i.size)) ((List.replicate len zc).flatten) (parts.toList.map fun p=>(p.1,ρ p.2))with
       |some cs=>some ⟨.own e i.size nx 0 len,[(nx,.cells e i.size (chunk i.size len cs))],[nx]⟩
       |none=>none
      else none
     |none=>none
    |none=>none
   |none=>none
  |_=>none
def aF_load [Bk] (P:Program) (t:TypeId) (x:Operand) (ρ:Operand→AV) (h:AH) (nx:Nat):Option AR :=
 match ρ x with
  | .ptr sz id i off=>match h id with
   | .cells _ s els=>if s=sz then match els[i]? with
     |some e=>match partA P t e off with
      |some v=>some ⟨v,[],[id]⟩
      |none=>none
     |none=>none
    else none
   |_=>none
  | .lptr _ els i off=>match els[i]? with
   |some e=>match partA P t e off with
    |some v=>some ⟨v,[],[]⟩
    |none=>none
   |none=>none
  |_=>none
def aF_store [Bk] (P:Program) (t:TypeId) (x:Operand) (y:Operand) (ρ:Operand→AV) (h:AH) (nx:Nat):Option AR :=
 match ρ x with
  | .ptr sz id i off=>match h id with
   | .cells T s els=>if s=sz then match els[i]?,cellsA (ρ y)with
     |some e,some xs=>if elemSize P t=some xs.length∧off+xs.length≤sz then some ⟨.undef,[(id,.cells T sz (els.set i (splice e off xs)))],[id]⟩else none
     |_,_=>none
    else none
   |_=>none
  |_=>none
def aF_nilCheck [Bk] (P:Program) (x:Operand) (ρ:Operand→AV) (h:AH) (nx:Nat):Option AR :=
 match ρ x with
  | .ptr sz id i off=>match h id with
   | .cells _ _ els=>if(els[i]?).isSome then some ⟨.ptr sz id i off,[],[id]⟩else none
   |_=>none
  | .lptr sz els i off=>some ⟨.lptr sz els i off,[],[]⟩
  | .fn (.func k) xs ys=>some ⟨.fn (.func k) xs ys,[],[]⟩
  |_=>none
def aF_binOp [Bk] (P:Program) (op:BinOp) (t:TypeId) (x:Operand) (y:Operand) (ρ:Operand→AV) (h:AH) (nx:Nat):Option AR :=
 match binA P op t (isCst x) (isCst y) (ρ x) (ρ y)with
  |some r=>some ⟨r,[],[]⟩
  |none=>none
def aF_unOp [Bk] (P:Program) (op:UnOp) (x:Operand) (ρ:Operand→AV) (h:AH) (nx:Nat):Option AR :=
 match ρ x with
  | .c u=>match unV op u with
   |some r=>some ⟨.c r,[],[]⟩
   |none=>none
  | .e p=>match op with
   | .neg=>if inB (pscale (-1) p)then some ⟨mkE (pscale (-1) p),[],[]⟩else none
   |_=>none
  |_=>none
def aF_convert [Bk] (P:Program) (s:TypeId) (d:TypeId) (x:Operand) (ρ:Operand→AV) (h:AH) (nx:Nat):Option AR :=
 match ρ x with
  | .c (.int _ n)=>match P.underlying s,P.underlying d with
   |some _,some (.int k)=>some ⟨.c (.int k (k.wrap n)),[],[]⟩
   |_,_=>none
  | .c (.string b)=>match P.underlying s,P.underlying d with
   |some _,some .string=>some ⟨.c (.string b),[],[]⟩
   |_,_=>none
  | .e p=>match P.underlying s,P.underlying d with
   |some _,some (.int .i64)=>if inB p then some ⟨.e p,[],[]⟩else none
   |_,_=>none
  |_=>none
def aF_makeInterface [Bk] (P:Program) (t:TypeId) (x:Operand) (ρ:Operand→AV) (h:AH) (nx:Nat):Option AR :=
 if P.concrete t then some ⟨.ifc t (ρ x),[],[]⟩else none
def aF_makeFunc [Bk] (P:Program) (fn:Fn) (first:Array Operand) (captured:Array Operand) (ρ:Operand→AV) (h:AH) (nx:Nat):Option AR :=
 some ⟨.fn fn (first.toList.map ρ) (captured.toList.map ρ),[],[]⟩
def aF_makeSlice [Bk] (P:Program) (t:TypeId) (x:Operand) (y:Operand) (ρ:Operand→AV) (h:AH) (nx:Nat):Option AR :=
 match ρ x,ρ y with
  | .c (.int _ l),.c (.int _ c)=>match P.underlying t with
   |some (.slice e)=>match P.info? e with
    |some i=>match i.zero with
     |some z=>match cellsA (ofC z)with
      |some zc=>if zc.length=i.size∧0≤l∧l≤c∧(i.bytes:Int)*c≤281474976710656∧c≤1099511627776∧newB h nx=true then
        some ⟨.own e i.size nx 0 l.toNat,[(nx,.cells e i.size (List.replicate l.toNat zc))],[nx]⟩else none
      |none=>none
     |none=>none
    |none=>none
   |_=>none
  |_,_=>none
def aF_slice [Bk] (P:Program) (t:TypeId) (x:Operand) (lo:Option Operand) (hi:Option Operand) (mx:Option Operand) (ρ:Operand→AV) (h:AH) (nx:Nat):Option AR :=
 match mx with
  |some m=>match lo,hi with
   |none,some hi=>match ρ hi,ρ m with
    | .c (.int _ a),.c (.int _ b)=>match elsA h (ρ x)with
     |some _=>if a=0∧b=0∧isSliceB P t=true∧(P.info? (P.elem t)).isSome=true then some ⟨.emp,[],idOf (ρ x)⟩else none
     |none=>none
    |_,_=>none
   |some lo,some hi=>match ρ x with
    | .own T sz id i n=>match h id with
     | .cells T' s els=>match bndR ρ 0 (some lo),bndR ρ n (some hi),bndR ρ n (some m)with
      |some l,some u,some v=>if T'=T∧s=sz∧els≠[]∧l≤u∧u≤v∧v≤n∧l<v∧isSliceB P t=true∧elemSize P (P.elem t)=some sz then some ⟨.view T sz id (i+l) (u-l),[],[id]⟩else
        if T'=T∧s=sz∧els≠[]∧l=u∧u=v∧v≤n∧isSliceB P t=true∧elemSize P (P.elem t)=some sz then some ⟨.emp,[],[id]⟩else none
      |_,_,_=>none
     |_=>none
    | .lit sz els=>match bndR ρ 0 (some lo),bndR ρ 0 (some hi),bndR ρ 0 (some m)with
     |some l,some u,some v=>if els≠[]∧l≤u∧u≤v∧v≤els.length∧isSliceB P t=true∧elemSize P (P.elem t)=some sz then some ⟨.lit sz ((els.drop l).take (u-l)),[],[]⟩else none
     |_,_,_=>none
    |_=>none
   |_,_=>none
  |none=>match ρ x with
   | .lit sz els=>match bndR ρ 0 lo,bndR ρ els.length hi with
    |some l,some u=>if l≤u∧u≤els.length∧isSliceB P t=true∧elemSize P (P.elem t)=some sz then some ⟨.lit sz ((els.drop l).take (u-l)),[],[]⟩else none
    |_,_=>none
   | .own T sz id i n=>match h id with
    | .cells T' s els=>match bndR ρ 0 lo,bndR ρ n hi with
     |some l,some u=>if T'=T∧s=sz∧els≠[]∧l≤u∧u≤n∧(l=0∨l<n)∧isSliceB P t=true∧elemSize P (P.elem t)=some sz then some ⟨.own T sz id (i+l) (u-l),[],[id]⟩else none
     |_,_=>none
    |_=>none
   | .c (.string s)=>match P.underlying t with
    |some .string=>match bndR ρ 0 lo,bndR ρ s.size hi with
     |some l,some u=>if l≤u∧u≤s.size then some ⟨.c (.string (s.extract l u)),[],[]⟩else none
     |_,_=>none
    |_=>none
   |_=>none
def aF_fieldAddr [Bk] (P:Program) (t:TypeId) (x:Operand) (k:Nat) (ρ:Operand→AV) (h:AH) (nx:Nat):Option AR :=
 match fieldOf P t k with
  |some (_,o',n)=>if n≠0 then match ρ x with
    | .ptr sz id i off=>match h id with
     | .cells _ s els=>if s=sz∧(els[i]?).isSome=true then some ⟨.ptr sz id i (off+o'),[],[id]⟩else none
     |_=>none
    | .lptr sz els i off=>some ⟨.lptr sz els i (off+o'),[],[]⟩
    |_=>none
   else none
  |none=>none
def aF_field [Bk] (P:Program) (t:TypeId) (x:Operand) (k:Nat) (ρ:Operand→AV) (h:AH) (nx:Nat):Option AR :=
 match fieldOf P t k with
  |some (ty,o',_)=>match ρ x with
   | .agg cs=>match partA P ty cs o' with
    |some v=>some ⟨v,[],[]⟩
    |none=>none
   |_=>none
  |none=>none
def aF_indexAddr [Bk] (P:Program) (t:TypeId) (x:Operand) (ix:Operand) (ρ:Operand→AV) (h:AH) (nx:Nat):Option AR :=
 match ρ ix with
  | .c (.int _ n)=>match P.underlying t with
   |some (.slice e)=>match ρ x with
    | .lit sz els=>if elemSize P e=some sz∧0≤n∧n.toNat<els.length then some ⟨.lptr sz els n.toNat 0,[],[]⟩else none
    | .own T sz id i n'=>match h id with
     | .cells T' s els=>if T'=T∧s=sz∧elemSize P e=some sz∧0≤n∧n.toNat<n'∧(els[i+n.toNat]?).isSome=true then some ⟨.ptr sz id (i+n.toNat) 0,[],[id]⟩else none
     |_=>none
    | .view T sz id i n'=>match h id with
     | .cells T' s els=>if T'=T∧s=sz∧elemSize P e=some sz∧0≤n∧n.toNat<n'∧(els[i+n.toNat]?).isSome=true then some ⟨.ptr sz id (i+n.toNat) 0,[],[id]⟩else none
     |_=>none
    | .row N xs=>match xs[n.toNat]? with
     |some p=>if elemSize P e=some 1∧0≤n∧ltB (psub (plit n) N)=some true then some ⟨.lptr 1 [[mkE p]] 0 0,[],[]⟩else none
     |none=>none
    |_=>none
   |some (.array len e)=>match elemSize P e with
    |some s=>if 0≤n∧n.toNat<len then match ρ x with
      | .ptr sz id i off=>match h id with
       | .cells _ s' els=>if s'=sz∧(els[i]?).isSome=true then some ⟨.ptr sz id i (off+n.toNat*s),[],[id]⟩else none
       |_=>none
      | .lptr sz els i off=>some ⟨.lptr sz els i (off+n.toNat*s),[],[]⟩
      |_=>none
     else none
    |none=>none
   |_=>none
  |_=>none
def aF_index [Bk] (P:Program) (t:TypeId) (x:Operand) (ix:Operand) (ρ:Operand→AV) (h:AH) (nx:Nat):Option AR :=
 match ρ ix with
  | .c (.int _ n)=>match P.underlying t with
   |some (.array len e)=>match elemSize P e with
    |some s=>match ρ x with
     | .agg cs=>if 0≤n∧n.toNat<len then match partA P e cs (n.toNat*s)with
       |some v=>some ⟨v,[],[]⟩
       |none=>none
      else none
     |_=>none
    |none=>none
   |some .string=>match ρ x with
    | .c (.string s)=>match s[n.toNat]? with
     |some b=>if 0≤n then some ⟨.c (.int .u8 b.toNat),[],[]⟩else none
     |none=>none
    |_=>none
   |_=>none
  |_=>none
def aF_extract [Bk] (P:Program) (x:Operand) (k:Nat) (ρ:Operand→AV) (h:AH) (nx:Nat):Option AR :=
 match ρ x with
  | .tup vs=>match vs[k]? with
   |some v=>some ⟨v,[],[]⟩
   |none=>none
  |_=>none
def aF_typeAssert [Bk] (P:Program) (x:Operand) (asserted:TypeId) (ok:Bool) (ρ:Operand→AV) (h:AH) (nx:Nat):Option AR :=
 match ρ x with
  | .ifc t v=>match P.underlying asserted,P.info? asserted with
   |some d,some i=>match i.zero with
    |some z=>if concB d=true∧(t=asserted∨ok=true)then
      some ⟨if t=asserted then(if ok then .tup [v,.c (.bool true)]else v)else .tup [ofC z,.c (.bool false)],[],[]⟩else none
    |none=>none
   |_,_=>none
  |_=>none
def aF_range [Bk] (P:Program) (t:TypeId) (x:Operand) (ρ:Operand→AV) (h:AH) (nx:Nat):Option AR :=
 match P.underlying t with
  |some .string=>match ρ x with
   | .c (.string s)=>if newB h nx then some ⟨.ptr 0 nx 0 0,[(nx,.it s 0)],[nx]⟩else none
   |_=>none
  |_=>none
def aF_next [Bk] (P:Program) (x:Operand) (str:Bool) (ρ:Operand→AV) (h:AH) (nx:Nat):Option AR :=
 if str=true then match ρ x with
  | .ptr 0 id 0 0=>match h id with
   | .it s pos=>if pos<s.size then some ⟨.tup [.c (.bool true),.c (.int .i64 pos),.c (.int .i32 (Utf8.decode s pos).1)],[(id,.it s (pos+(Utf8.decode s pos).2))],[id]⟩else some ⟨.tup [.c (.bool false)],[],[id]⟩
   |_=>none
  |_=>none
  else none
def aF_makeMap [Bk] (P:Program) (rs:Option Operand) (ρ:Operand→AV) (h:AH) (nx:Nat):Option AR :=
 match rs with
  |none=>if newB h nx then some ⟨.mpv nx,[(nx,.mp [])],[nx]⟩else none
  |_=>none
def aF_insert [Bk] (P:Program) (t:TypeId) (x:Operand) (k:Operand) (y:Operand) (ρ:Operand→AV) (h:AH) (nx:Nat):Option AR :=
 match P.underlying t with
  |some (.map kt _)=>match P.underlying kt with
   |some (.int .i64)=>match ρ x,ρ k with
    | .mpv id,.c (.int .i64 n)=>match h id with
     | .mp es=>if noKey n es=true then some ⟨.undef,[(id,.mp (es++[(n,ρ y)]))],[id]⟩else none
     |_=>none
    |_,_=>none
   |_=>none
  |_=>none
def aF_lookup [Bk] (P:Program) (t:TypeId) (x:Operand) (k:Operand) (ok:Bool) (ρ:Operand→AV) (h:AH) (nx:Nat):Option AR :=
 match P.underlying t with
  |some (.map kt et)=>match P.underlying kt,P.info? et with
   |some (.int .i64),some i=>match i.zero with
    |some z=>match ρ x,ρ k with
     | .mpv id,.c (.int .i64 n)=>match h id with
      | .mp es=>match lookMp n es with
       |some v=>some ⟨if ok then .tup [v,.c (.bool true)]else v,[],[id]⟩
       |none=>if noKey n es=true then some ⟨if ok then .tup [ofC z,.c (.bool false)]else ofC z,[],[id]⟩else none
      |_=>none
     |_,_=>none
    |none=>none
   |_,_=>none
  |_=>none
def aF_b_len [Bk] (P:Program) (args:Array Operand) (argTypes:Array TypeId) (ρ:Operand→AV) (h:AH) (nx:Nat):Option AR :=
 match args.toList,argTypes.toList with
   |[x],[t]=>match P.underlying t with
    |some (.slice _)=>match elsA h (ρ x)with
     |some els=>some ⟨.c (.int .i64 els.length),[],idOf (ρ x)⟩
     |none=>match ρ x with
      | .row n _=>some ⟨mkE n,[],[]⟩
      | .view _ _ _ _ n=>some ⟨.c (.int .i64 n),[],[]⟩
      |_=>none
    |some .string=>match ρ x with
     | .c (.string s)=>some ⟨.c (.int .i64 s.size),[],[]⟩
     |_=>none
    |_=>none
   |_,_=>none
def aF_b_append [Bk] (P:Program) (args:Array Operand) (argTypes:Array TypeId) (ρ:Operand→AV) (h:AH) (nx:Nat):Option AR :=
 match args.toList,argTypes.toList with
   |[x,y],[t,t']=>if t'=t then appendA P t (ρ x) (ρ y) h nx else none
   |_,_=>none
def aF_b_max [Bk] (P:Program) (args:Array Operand) (argTypes:Array TypeId) (ρ:Operand→AV) (h:AH) (nx:Nat):Option AR :=
 match args.toList with
   |[x,y]=>match ρ x,ρ y with
    | .c (.int k p),.c (.int _ q)=>some ⟨.c (.int k (if q > p then q else p)),[],[]⟩
    |u,v=>match toP u,toP v with
     |some p,some q=>match symMax p q with
      |some r=>some ⟨mkE r,[],[]⟩
      |none=>none
     |_,_=>none
   |[x,y,z]=>match ρ x,ρ y,ρ z with
    | .c (.int k p),.c (.int _ q),.c (.int _ r)=>some ⟨.c (.int k (if r > (if q > p then q else p)then r else(if q > p then q else p))),[],[]⟩
    |_,_,_=>none
   |_=>none
def aF_b_min [Bk] (P:Program) (args:Array Operand) (argTypes:Array TypeId) (ρ:Operand→AV) (h:AH) (nx:Nat):Option AR :=
 match args.toList with
   |[x,y]=>match ρ x,ρ y with
    | .c (.int k p),.c (.int _ q)=>some ⟨.c (.int k (if q<p then q else p)),[],[]⟩
    |u,v=>match toP u,toP v with
     |some p,some q=>match symMin p q with
      |some r=>some ⟨mkE r,[],[]⟩
      |none=>none
     |_,_=>none
   |_=>none
def aF_b_clear [Bk] (P:Program) (args:Array Operand) (argTypes:Array TypeId) (ρ:Operand→AV) (h:AH) (nx:Nat):Option AR :=
 match args.toList,argTypes.toList with
   |[x],[t]=>match P.underlying t with
    |some (.slice e)=>match elsA h (ρ x)with
     |some els0=>if els0.length=0 then some ⟨.tup [],[],idOf (ρ x)⟩else
      match P.info? e with
      |some i=>match i.zero with
       |some z=>match cellsA (ofC z)with
        |some zc=>match ρ x with
         | .own T sz id a n=>match h id with
          | .cells T' s els=>if T'=T∧s=sz∧zc.length=sz∧0<n∧a+n≤els.length then some ⟨.tup [],[(id,.cells T sz (splice els a (List.replicate n zc)))],[id]⟩else none
          |_=>none
         |_=>none
        |none=>none
       |none=>none
      |none=>none
     |none=>none
    |_=>none
   |_,_=>none
def aF_call [Bk] (P:Program) (b:Builtin) (args:Array Operand) (argTypes:Array TypeId) (ρ:Operand→AV) (h:AH) (nx:Nat):Option AR :=
 match b with
  | .len=>aF_b_len P args argTypes ρ h nx
  | .append=>aF_b_append P args argTypes ρ h nx
  | .max=>aF_b_max P args argTypes ρ h nx
  | .min=>aF_b_min P args argTypes ρ h nx
  | .clear=>aF_b_clear P args argTypes ρ h nx
  |_=>none
def aopF [Bk] (P:Program) (op:Op) (ρ:Operand→AV) (h:AH) (nx:Nat):Option AR :=
 match op with
 | .move x=>aF_move P x ρ h nx
 | .assign x=>aF_assign P x ρ h nx
 | .pick c x y=>aF_pick P c x y ρ h nx
 | .alloc e=>aF_alloc P e ρ h nx
 | .box e x=>aF_box P e x ρ h nx
 | .build t parts=>aF_build P t parts ρ h nx
 | .buildSlice t len parts=>aF_buildSlice P t len parts ρ h nx
 | .load t x=>aF_load P t x ρ h nx
 | .store t x y=>aF_store P t x y ρ h nx
 | .nilCheck x=>aF_nilCheck P x ρ h nx
 | .binOp op t x y _=>aF_binOp P op t x y ρ h nx
 | .unOp op _ x=>aF_unOp P op x ρ h nx
 | .convert s d x=>aF_convert P s d x ρ h nx
 | .makeInterface t x=>aF_makeInterface P t x ρ h nx
 | .makeFunc fn first captured=>aF_makeFunc P fn first captured ρ h nx
 | .makeSlice t x y=>aF_makeSlice P t x y ρ h nx
 | .slice t x lo hi mx=>aF_slice P t x lo hi mx ρ h nx
 | .fieldAddr t x k=>aF_fieldAddr P t x k ρ h nx
 | .field t x k=>aF_field P t x k ρ h nx
 | .indexAddr t x ix=>aF_indexAddr P t x ix ρ h nx
 | .index t x ix=>aF_index P t x ix ρ h nx
 | .extract x k=>aF_extract P x k ρ h nx
 | .typeAssert x _ asserted ok=>aF_typeAssert P x asserted ok ρ h nx
 | .range t x=>aF_range P t x ρ h nx
 | .next x str=>aF_next P x str ρ h nx
 | .makeMap _ rs=>aF_makeMap P rs ρ h nx
 | .insert t x k y=>aF_insert P t x k y ρ h nx
 | .lookup t x k ok=>aF_lookup P t x k ok ρ h nx
 | .call { callee:=.builtin b,args,argTypes }=>aF_call P b args argTypes ρ h nx
 |_=>none
theorem aopF_eq [Bk] (P:Program) (op:Op) (ρ:Operand→AV) (h:AH) (nx:Nat):aopF P op ρ h nx=aop P op ρ h nx:=by
 cases op<;>rfl
end Go.Proofs.Ytjccjmmbebiegaa.Mc
set_option linter.unusedVariables false
set_option linter.unusedSimpArgs false
namespace Go.Proofs.Ytjccjmmbebiegaa.Mc
open Go.RowKit
inductive Tr where
 |leaf
 |node (v:Blk) (l r:Tr)
def Tr.get:Tr→AH
 | .leaf,_=>.no
 | .node v _ _,0=>v
 | .node _ l r,k+1=>if k%2=0 then l.get (k/2)else r.get (k/2)
def Tr.put:Nat→Tr→Nat→Blk→Tr
 |0,t,_,_=>t
 |_+1,.leaf,0,b=>.node b .leaf .leaf
 |_+1,.node _ l r,0,b=>.node b l r
 |f+1,.leaf,k+1,b=>if k%2=0 then .node .no (Tr.put f .leaf (k/2) b) .leaf else .node .no .leaf (Tr.put f .leaf (k/2) b)
 |f+1,.node v l r,k+1,b=>if k%2=0 then .node v (Tr.put f l (k/2) b) r else .node v l (Tr.put f r (k/2) b)
theorem Tr.get_leaf [Bk] [Ev] (j:Nat):Tr.leaf.get j=.no:=by cases j<;>rfl
theorem Tr.get_put [Bk] [Ev] (b:Blk):∀(f:Nat) (t:Tr) (k j:Nat),k<f→(Tr.put f t k b).get j=if j=k then b else t.get j
 |0,t,k,j,h=>by omega
 |f+1,.leaf,0,j,h=>by
  cases j with
  |zero=>rfl
  |succ j =>
   rw[if_neg (by omega)]
   simp only[Tr.put,Tr.get]
   split<;>simp[Tr.get_leaf]
 |f+1,.node v l r,0,j,h=>by
  cases j with
  |zero=>rfl
  |succ j =>
   rw[if_neg (by omega)]
   simp only[Tr.put,Tr.get]
 |f+1,.leaf,k+1,j,h=>by
  simp only[Tr.put]
  split
  ·rename_i hk
   cases j with
   |zero=>rw[if_neg (by omega)];rfl
   |succ j =>
    simp only[Tr.get]
    split
    ·rename_i hj
     rw[Tr.get_put b f .leaf (k/2) (j/2) (by omega),Tr.get_leaf]
     by_cases e:j=k
     ·subst e;simp
     ·rw[if_neg (by omega),if_neg (by omega)]
    ·rename_i hj
     rw[if_neg (by omega)];try simp[Tr.get_leaf]
  ·rename_i hk
   cases j with
   |zero=>rw[if_neg (by omega)];rfl
   |succ j =>
    simp only[Tr.get]
    split
    ·rename_i hj
     rw[if_neg (by omega)];try simp[Tr.get_leaf]
    ·rename_i hj
     rw[Tr.get_put b f .leaf (k/2) (j/2) (by omega),Tr.get_leaf]
     by_cases e:j=k
     ·subst e;simp
     ·rw[if_neg (by omega),if_neg (by omega)]
 |f+1,.node v l r,k+1,j,h=>by
  simp only[Tr.put]
  split
  ·rename_i hk
   cases j with
   |zero=>rw[if_neg (by omega)];rfl
   |succ j =>
    simp only[Tr.get]
    split
    ·rename_i hj
     rw[Tr.get_put b f l (k/2) (j/2) (by omega)]
     by_cases e:j=k
     ·subst e;simp
     ·rw[if_neg (by omega),if_neg (by omega)]
    ·rename_i hj
     rw[if_neg (by omega)]
  ·rename_i hk
   cases j with
   |zero=>rw[if_neg (by omega)];rfl
   |succ j =>
    simp only[Tr.get]
    split
    ·rename_i hj
     rw[if_neg (by omega)]
    ·rename_i hj
     rw[Tr.get_put b f r (k/2) (j/2) (by omega)]
     by_cases e:j=k
     ·subst e;simp
     ·rw[if_neg (by omega),if_neg (by omega)]
def Tr.set (t:Tr) (k:Nat) (b:Blk):Tr:=Tr.put (k+1) t k b
theorem Tr.get_set [Bk] [Ev] (t:Tr) (k:Nat) (b:Blk):(t.set k b).get=bset t.get k b:=by
 funext j
 rw[Tr.set,Tr.get_put b _ _ _ _ (by omega)]
 rfl
def Tr.ups (t:Tr):List (Nat×Blk)→Tr
 |[]=>t
 |(i,b)::r=>(t.set i b).ups r
theorem Tr.get_ups [Bk] [Ev]:∀(u:List (Nat×Blk)) (t:Tr),(t.ups u).get=upsB t.get u
 |[],t=>rfl
 |(i,b)::r,t=>by simp only[Tr.ups,upsB];rw[Tr.get_ups r,Tr.get_set]
inductive Ft where
 |leaf
 |node (v:AV) (l r:Ft)
def Ft.get:Ft→Nat→Option AV
 | .leaf,_=>none
 | .node v _ _,0=>some v
 | .node _ l r,k+1=>if k%2=0 then l.get (k/2)else r.get (k/2)
def Ft.put:Nat→Ft→Nat→AV→Ft
 |0,t,_,_=>t
 |_+1,.leaf,_,_=>.leaf
 |_+1,.node _ l r,0,b=>.node b l r
 |f+1,.node v l r,k+1,b=>if k%2=0 then .node v (Ft.put f l (k/2) b) r else .node v l (Ft.put f r (k/2) b)
theorem Ft.get_leaf [Bk] [Ev] (j:Nat):Ft.leaf.get j=none:=by cases j<;>rfl
theorem Ft.get_put [Bk] [Ev] (b:AV):∀(f:Nat) (t:Ft) (k j:Nat),k<f→(Ft.put f t k b).get j=if j=k then(t.get k).map (fun _=>b)else t.get j
 |0,t,k,j,h=>by omega
 |f+1,.leaf,k,j,h=>by simp[Ft.put,Ft.get_leaf]
 |f+1,.node v l r,0,j,h=>by
  cases j with
  |zero=>rfl
  |succ j=>rw[if_neg (by omega)];simp only[Ft.put,Ft.get]
 |f+1,.node v l r,k+1,j,h=>by
  simp only[Ft.put]
  split
  ·rename_i hk
   cases j with
   |zero=>rw[if_neg (by omega)];rfl
   |succ j =>
    simp only[Ft.get]
    split
    ·rename_i hj
     rw[Ft.get_put b f l (k/2) (j/2) (by omega)]
     by_cases e:j=k
     ·subst e;simp[hk]
     ·rw[if_neg (by omega),if_neg (by omega)]
    ·rename_i hj
     rw[if_neg (by omega)]
  ·rename_i hk
   cases j with
   |zero=>rw[if_neg (by omega)];rfl
   |succ j =>
    simp only[Ft.get]
    split
    ·rename_i hj
     rw[if_neg (by omega)]
    ·rename_i hj
     rw[Ft.get_put b f r (k/2) (j/2) (by omega)]
     by_cases e:j=k
     ·subst e;simp[hk]
     ·rw[if_neg (by omega),if_neg (by omega)]
def Ft.set (t:Ft) (d:Option Tmp) (b:AV):Ft:=match d with
 |none=>t
 |some k=>Ft.put (k+1) t k b
structure Ft.G where
 f:Ft→Option AV
structure Ft.H where
 f:Ft→AV→Ft
def Ft.look:Nat→Nat→Ft.G
 |0,_=>⟨fun _=>none⟩
 |n+1,k=>if k=0 then⟨fun t=>Ft.casesOn t none (fun v _ _=>some v)⟩else if(k-1)%2=0 then⟨fun t=>Ft.casesOn t none (fun _ l _=>(Ft.look n ((k-1)/2)).f l)⟩else⟨fun t=>Ft.casesOn t none (fun _ _ r=>(Ft.look n ((k-1)/2)).f r)⟩
def Ft.lay:Nat→Nat→Ft.H
 |0,_=>⟨fun t _=>t⟩
 |n+1,k=>if k=0 then⟨fun t b=>Ft.casesOn t .leaf (fun _ l r=>.node b l r)⟩else if(k-1)%2=0 then⟨fun t b=>Ft.casesOn t .leaf (fun v l r=>.node v ((Ft.lay n ((k-1)/2)).f l b) r)⟩else⟨fun t b=>Ft.casesOn t .leaf (fun v l r=>.node v l ((Ft.lay n ((k-1)/2)).f r b))⟩
theorem Ft.look_eq [Bk] [Ev]:∀(n k:Nat) (t:Ft),k<n→(Ft.look n k).f t=t.get k
 |0,k,t,h=>by omega
 |n+1,0,t,h=>by cases t<;>rfl
 |n+1,k+1,t,h=>by
  have e:k+1-1=k:=rfl
  simp only[Ft.look,Nat.add_one_ne_zero,if_false,e]
  split
  ·rename_i hk
   cases t with
   |leaf=>rfl
   |node v l r=>simp only[Ft.get,hk,if_true];exact Ft.look_eq n _ _ (by omega)
  ·rename_i hk
   cases t with
   |leaf=>rfl
   |node v l r=>simp only[Ft.get,hk,if_false];exact Ft.look_eq n _ _ (by omega)
theorem Ft.lay_eq [Bk] [Ev] (b:AV):∀(n k:Nat) (t:Ft),k<n→(Ft.lay n k).f t b=Ft.put n t k b
 |0,k,t,h=>by omega
 |n+1,0,t,h=>by cases t<;>rfl
 |n+1,k+1,t,h=>by
  have e:k+1-1=k:=rfl
  simp only[Ft.lay,Nat.add_one_ne_zero,if_false,e]
  split
  ·rename_i hk
   cases t with
   |leaf=>rfl
   |node v l r=>simp only[Ft.put,hk,if_true];rw[Ft.lay_eq b n _ _ (by omega)]
  ·rename_i hk
   cases t with
   |leaf=>rfl
   |node v l r=>simp only[Ft.put,hk,if_false];rw[Ft.lay_eq b n _ _ (by omega)]
def Ft.gt (t:Ft) (k:Nat):Option AV:=(Ft.look (k+1) k).f t
def Ft.st (t:Ft) (d:Option Tmp) (b:AV):Ft:=match d with
 |none=>t
 |some k=>(Ft.lay (k+1) k).f t b
theorem Ft.gt_eq [Bk] [Ev] (t:Ft) (k:Nat):t.gt k=t.get k:=Ft.look_eq _ _ _ (by omega)
theorem Ft.st_eq [Bk] [Ev] (t:Ft) (d:Option Tmp) (b:AV):t.st d b=t.set d b:=by
 cases d with
 |none=>rfl
 |some k=>exact Ft.lay_eq b _ _ _ (by omega)
def evens:List AV→List AV
 |[]=>[]
 |[x]=>[x]
 |x::_::l=>x::evens l
def odds:List AV→List AV
 |[]=>[]
 |[_]=>[]
 |_::y::l=>y::odds l
theorem evens_get [Bk] [Ev]:∀(l:List AV) (k:Nat),(evens l)[k]?=l[2*k]?
 |[],k=>by simp[evens]
 |[x],0=>rfl
 |[x],k+1=>by simp[evens]
 |x::_::l,0=>rfl
 |x::y::l,k+1=>by
  simp only[evens,List.getElem?_cons_succ]
  rw[evens_get l k,show 2*(k+1)=2*k+2 by omega]
  rfl
theorem odds_get [Bk] [Ev]:∀(l:List AV) (k:Nat),(odds l)[k]?=l[2*k+1]?
 |[],k=>by simp[odds]
 |[x],k=>by simp[odds]
 |x::y::l,0=>rfl
 |x::y::l,k+1=>by
  simp only[odds,List.getElem?_cons_succ]
  rw[odds_get l k,show 2*(k+1)=2*k+1+1 by omega]
  rfl
def Ft.of:Nat→List AV→Ft
 |0,_=>.leaf
 |_+1,[]=>.leaf
 |f+1,x::l=>.node x (Ft.of f (evens l)) (Ft.of f (odds l))
theorem evens_len [Bk] [Ev]:∀(l:List AV),(evens l).length≤l.length
 |[]=>by simp[evens]
 |[x]=>by simp[evens]
 |x::y::l=>by simp[evens];have:=evens_len l;omega
theorem odds_len [Bk] [Ev]:∀(l:List AV),(odds l).length≤l.length
 |[]=>by simp[odds]
 |[x]=>by simp[odds]
 |x::y::l=>by simp[odds];have:=odds_len l;omega
theorem Ft.get_of [Bk] [Ev]:∀(f:Nat) (l:List AV) (k:Nat),l.length≤f→(Ft.of f l).get k=l[k]?
 |0,l,k,h=>by
  have:l=[]:=List.length_eq_zero_iff.1 (by omega)
  subst this;simp[Ft.of,Ft.get_leaf]
 |f+1,[],k,h=>by simp[Ft.of,Ft.get_leaf]
 |f+1,x::l,0,h=>rfl
 |f+1,x::l,k+1,h=>by
  have h1:=evens_len l
  have h2:=odds_len l
  simp only[List.length_cons]at h
  simp only[Ft.of,Ft.get,List.getElem?_cons_succ]
  split
  ·rw[Ft.get_of f _ _ (by omega),evens_get];congr 1;omega
  ·rw[Ft.get_of f _ _ (by omega),odds_get];congr 1;omega
def FR (f:List AV) (t:Ft):Prop:=∀k,t.get k=f[k]?
theorem FR.set [Bk] [Ev] {f:List AV} {t:Ft} (h:FR f t) (d:Option Tmp) (v:AV):FR (fset f d v) (t.set d v):=by
 cases d with
 |none=>exact h
 |some d =>
  intro k
  simp only[Ft.set,fset]
  rw[Ft.get_put v _ _ _ _ (by omega),List.getElem?_set]
  by_cases e:k=d
  ·subst e
   rw[if_pos rfl,if_pos rfl,h k]
   by_cases hl:k<f.length
   ·simp[hl]
   ·simp[hl]
  ·rw[if_neg e,if_neg (fun x=>e x.symm)]
   exact h k
theorem FR.st [Bk] [Ev] {f:List AV} {t:Ft} (h:FR f t) (d:Option Tmp) (v:AV):FR (fset f d v) (t.st d v):=by rw[Ft.st_eq];exact h.set d v
def aevT (t:Ft):Operand→AV
 | .tmp k=>match t.gt k with|some v=>v|none=>.undef
 | .const v=>ofC v
 | .global g=>.c (.pointer (some ⟨g,0,none⟩))
 | .func k=>.fn (.func k) [] []
theorem FR.ev [Bk] [Ev] {f:List AV} {t:Ft} (h:FR f t):aev f=aevT t:=by
 funext o
 cases o with
 |tmp k =>
  simp only[aev,aevT,List.getD,Ft.gt_eq,h k]
  cases f[k]?<;>rfl
 |_=>rfl
structure RT (α:Type) where
 a:α
 t:Tr
 n:Nat
 rd:List Nat
 wr:List Nat
abbrev MT (α:Type):=Tr→Nat→Option (RT α)
def Sim {α β:Type} (R:α→β→Prop) (x:M α) (y:MT β):Prop:=∀t n r,y t n=some r→∃a,x t.get n=some ⟨a,r.t.get,r.n,r.rd,r.wr⟩∧R a r.a
def tfail {α:Type}:MT α:=fun _ _=>none
def tpure {α:Type} (a:α):MT α:=fun t n=>some ⟨a,t,n,[],[]⟩
def tbind {α β:Type} (x:MT α) (k:α→MT β):MT β:=fun t n =>
 match x t n with
 |none=>none
 |some r=>match k r.a r.t r.n with
  |none=>none
  |some s=>some ⟨s.a,s.t,s.n,r.rd++s.rd,r.wr++s.wr⟩
theorem sim_fail [Bk] [Ev] {α β:Type} {R:α→β→Prop} {x:M α}:Sim R x tfail:=fun t n r h=>by cases h
theorem sim_pure [Bk] [Ev] {α β:Type} {R:α→β→Prop} {a:α} {b:β} (h:R a b):Sim R (mpure a) (tpure b):=fun t n r hr=>by cases hr;exact⟨a,rfl,h⟩
theorem sim_bind [Bk] [Ev] {α β γ δ:Type} {R:α→β→Prop} {S:γ→δ→Prop} {x:M α} {y:MT β} {k:α→M γ} {l:β→MT δ} (hx:Sim R x y) (hk:∀a b,R a b→Sim S (k a) (l b)):Sim S (mbind x k) (tbind y l):=by
 intro t n r h
 unfold tbind at h
 cases h1:y t n with
 |none=>rw[h1]at h;cases h
 |some q =>
  rw[h1]at h
  simp only at h
  cases h2:l q.a q.t q.n with
  |none=>rw[h2]at h;cases h
  |some s =>
   rw[h2]at h
   cases h
   obtain⟨a,e1,hR⟩:=hx t n q h1
   obtain⟨c,e2,hS⟩:=hk a q.a hR q.t q.n s h2
   refine⟨c,?_,hS⟩
   unfold mbind
   rw[e1]
   simp only
   rw[e2]
section
variable {P:Program}
def aopXF [Bk] (P:Program) (op:Op) (ρ:Operand→AV) (h:AH) (nx:Nat):Option AR :=
 match aopF P op ρ h nx with
 |some r=>some r
 |none=>aopS P op ρ h nx
theorem aopXF_eq [Bk] (op:Op) (ρ:Operand→AV) (h:AH) (nx:Nat):aopXF P op ρ h nx=aopX P op ρ h nx:=by unfold aopXF aopX;rw[aopF_eq];cases aop P op ρ h nx<;>rfl
def aopT [Bk] (P:Program) (op:Op) (f:Ft):MT AV:=fun t n =>
 match aopXF P op (aevT f) t.get n with
 |none=>none
 |some r=>some ⟨r.v,t.ups r.ups,if(r.ups.map (·.1)).contains n then n+1 else n,r.rds,r.ups.map (·.1)⟩
theorem sim_aop [Bk] [Ev] (op:Op) {f:List AV} {g:Ft} (hf:FR f g):Sim Eq (aopM P op f) (aopT P op g):=by
 intro t n r h
 unfold aopT at h
 unfold aopM
 rw[hf.ev]
 rw[aopXF_eq]at h
 cases h1:aopX P op (aevT g) t.get n with
 |none=>rw[h1]at h;cases h
 |some q =>
  rw[h1]at h
  cases h
  exact⟨q.v,by simp[Tr.get_ups],rfl⟩
def astepT [Bk] (P:Program) (call:Fn→List AV→MT AV) (o:Oper) (f:Ft):MT AV :=
 match calleeA P (aevT f) o.op with
 |some (k,args)=>call (.func k) args
 |none=>match yieldA (aevT f) o.op with
  |some (id,args)=>call (.yield id) args
  |none=>aopT P o.op f
def guardT (ops:Array Oper) (o:Oper) (f:Ft):Option Bool :=
 match o.guard with
 |none=>some true
 |some (j,want)=>match (ops[j]?).bind (·.dst)with
  |none=>some false
  |some d=>match f.gt d with
   |some (.c (.bool b))=>some (b==want)
   |some .undef=>some false
   |none=>some false
   |_=>none
theorem FR.guard [Bk] [Ev] {f:List AV} {g:Ft} (h:FR f g) (ops:Array Oper) (o:Oper):guardA ops o f=guardT ops o g:=by
 unfold guardA guardT
 cases o.guard with
 |none=>rfl
 |some p =>
  obtain⟨j,want⟩:=p
  simp only
  cases(ops[j]?).bind (·.dst)with
  |none=>rfl
  |some d =>
   simp only[Ft.gt_eq,h d]
   cases f[d]? with
   |none=>rfl
   |some v=>cases v with
    |c u=>cases u<;>rfl
    |_=>rfl
def aseqT [Bk] (P:Program) (call:Fn→List AV→MT AV) (ops:Array Oper):List Oper→Ft→MT Ft
 |[],f=>tpure f
 |o::l,f=>match guardT ops o f with
  |some true=>tbind (astepT P call o f) fun v=>aseqT P call ops l (f.st o.dst v)
  |some false=>aseqT P call ops l (f.st o.dst .undef)
  |none=>tfail
def mlogT (x:MT AV):MT (AV×Eff):=fun t n =>
 match x t n with
 |none=>none
 |some r=>some ⟨(r.a,⟨r.a,(r.wr++List.range' n (r.n-n)).map fun id=>(id,r.t.get id),r.rd,n,r.n,false⟩),r.t,r.n,r.rd,r.wr⟩
def adrawLT [Bk] (P:Program) (call:Fn→List AV→MT AV) (ops:Array Oper):List Oper→Ft→MT (Ft×List Eff)
 |[],f=>tpure (f,[])
 |o::l,f=>match guardT ops o f with
  |some true=>tbind (mlogT (astepT P call o f)) fun v=>tbind (adrawLT P call ops l (f.st o.dst v.1)) fun q=>tpure (q.1,v.2::q.2)
  |some false=>tbind (adrawLT P call ops l (f.st o.dst .undef)) fun q=>tpure (q.1,⟨.undef,[],[],0,0,true⟩::q.2)
  |none=>tfail
def adrawT [Bk] (P:Program) (call:Fn→List AV→MT AV) (ops:Array Oper) (f:Ft):MT Ft :=
 if P.follows .mixedOrders then tbind (adrawLT P call ops ops.toList f) fun q=>if drawB ops q.2 then tpure q.1 else tfail else tfail
def mcompT {α:Type} (x:MT α):MT α:=fun t n =>
 match x t n with
 |none=>none
 |some r=>some ⟨r.a,r.t,r.n,(r.rd.filter fun id=>!(decide (n≤id)&&decide (id<r.n))).eraseDups,(r.wr.filter fun id=>!(decide (n≤id)&&decide (id<r.n))).eraseDups⟩
def Ft.list (t:Ft):Nat→Nat→Option (List AV)
 |0,_=>none
 |n+1,k=>match t.gt k with
  |none=>some []
  |some v=>match Ft.list t n (k+1)with
   |none=>none
   |some l=>some (v::l)
theorem FR.list [Bk] [Ev] {f:List AV} {t:Ft} (h:FR f t):∀(n k:Nat) (l:List AV),Ft.list t n k=some l→l=f.drop k
 |0,k,l,hl=>by cases hl
 |n+1,k,l,hl=>by
  simp only[Ft.list,Ft.gt_eq,h k]at hl
  cases hk:f[k]? with
  |none =>
   rw[hk]at hl
   cases hl
   have:=List.getElem?_eq_none_iff.1 hk
   simp[List.drop_eq_nil_of_le this]
  |some v =>
   rw[hk]at hl
   simp only at hl
   cases hr:Ft.list t n (k+1)with
   |none=>rw[hr]at hl;cases hl
   |some r =>
    rw[hr]at hl
    cases hl
    have:=FR.list h n (k+1) r hr
    obtain⟨hlt,hv⟩:=List.getElem?_eq_some_iff.1 hk
    rw[List.drop_eq_getElem_cons hlt,hv,this]
def atLT {α:Type} (id:Nat) (g:Blk→Option (α×Blk)):MT α:=fun t n =>
 match g (t.get id)with
 |none=>none
 |some (a,b)=>some ⟨a,t.set id b,n,[id],[id]⟩
def newLT (f:List AV) (ps:Array Tmp) (as bd:Code):MT Nat:=fun t n =>
 match t.get n with
 | .no=>some ⟨n,t.set n (.lp .ready f ps as bd),n+1,[n],[n]⟩
 |_=>none
theorem sim_at [Bk] [Ev] {α:Type} (id:Nat) (g:Blk→Option (α×Blk)):Sim Eq (atL id g) (atLT id g):=by
 intro t n r hr
 unfold atLT at hr
 unfold atL
 cases hg:g (t.get id)with
 |none=>rw[hg]at hr;cases hr
 |some p =>
  obtain⟨a,b⟩:=p
  rw[hg]at hr
  cases hr
  exact⟨a,by simp only[Tr.get_set],rfl⟩
theorem sim_new [Bk] [Ev] (f:List AV) (ps:Array Tmp) (as bd:Code):Sim Eq (newL f ps as bd) (newLT f ps as bd):=by
 intro t n r hr
 unfold newLT at hr
 unfold newL
 split at hr
 ·rename_i hn
  cases hr
  exact⟨n,by simp only[hn,Tr.get_set],rfl⟩
 ·cases hr
def acodeT [Bk] (P:Program) (call:Fn→List AV→MT AV) (tp:Bool):Nat→Code→Ft→MT (AX×Ft)
 |0,_,_=>tfail
 |n+1,.skip,f=>tpure (.normal,f)
 |n+1,.region _ ops draw,f=>tbind (if draw then adrawT P call ops f else aseqT P call ops ops.toList f) fun f'=>tpure (.normal,f')
 |n+1,.seq x y,f=>tbind (acodeT P call tp n x f) fun q=>match q.1 with
  | .normal=>acodeT P call tp n y q.2
  |_=>tpure q
 |n+1,.cond c x y,f=>match aevT f c with
  | .c (.bool b)=>acodeT P call tp n (if b then x else y) f
  |_=>tfail
 |n+1,.block id c,f=>tbind (acodeT P call tp n c f) fun q=>match q.1 with
  | .exit id'=>if id'=id then tpure (.normal,q.2)else tpure q
  |_=>tpure q
 |n+1,.loop c,f=>tbind (acodeT P call tp n c f) fun q=>match q.1 with
  | .normal=>acodeT P call tp n (.loop c) q.2
  |_=>tpure q
 |n+1,.rangeFunc g ps as bd,f=>if tp then match aevT f g with
   | .fn (.func k) [] captured=>match Ft.list f 4096 0 with
    |none=>tfail
    |some l=>tbind (newLT l ps as bd) fun id=>tbind (call (.func k) (.yld id::captured)) fun _=>tbind (atLT id overG) fun x=>tpure (x,f)
   |_=>tfail
  else tfail
 |n+1,.scope c,f=>acodeT P call tp n c f
 |n+1,.label _,f=>tpure (.normal,f)
 |n+1,.exit id,f=>tpure (.exit id,f)
 |n+1,.ret,f=>tpure (.ret,f)
 |n+1,_,_=>tfail
def ayieldT [Bk] (P:Program) (L:Nat) (call:Fn→List AV→MT AV) (id:Nat) (args:List AV):MT AV :=
 tbind (atLT id getG) fun q=>if args.length=q.2.1.size then
  tbind (acodeT P call false L q.2.2.1 (Ft.of (putsA q.1 q.2.1 args).length (putsA q.1 q.2.1 args))) fun r=>match r.1 with
   | .normal=>tbind (atLT id busyG) fun _=>tbind (acodeT P call false L q.2.2.2 r.2) fun s=>atLT id (turnG s.1)
   |_=>tfail
 else tfail
def resAT (P:Program) (f:Ft) (h:AH):ResultVar→Option AV
 | .tmp t=>some ((f.gt t).getD .undef)
 | .cell t ty=>cellA P ty h ((f.gt t).getD .undef)
def resultsAT (P:Program) (fn:Func) (f:Ft) (h:AH):Option AV :=
 (fn.results.toList.mapM (resAT P f h)).map tupOf
def resIdsT1 (f:Ft):ResultVar→List Nat
 | .tmp _=>[]
 | .cell t _=>ptrIds ((f.gt t).getD .undef)
def resIdsT (f:Ft) (l:List ResultVar):List Nat:=l.flatMap (resIdsT1 f)
def resT (P:Program) (fn:Func) (f:Ft):MT AV:=fun t n =>
 match resultsAT P fn f t.get with
 |none=>none
 |some v=>some ⟨v,t,n,resIdsT f fn.results.toList,[]⟩
def cloneT (P:Program) (ty:TypeId) (x:AV):MT AV:=fun t n =>
 match P.underlying ty with
 |some (.slice e)=>match P.info? e with
  |some i=>match i.zero,elsA t.get x with
   |some z,some els=>if z.cells.size=i.size∧0<i.size∧(els.all fun q=>q.length==i.size)=true∧ownSz x i.size=true∧els.length*i.bytes≤140737488355328∧els.length≤1099511627776∧newB t.get n=true∧newB t.get (n+1)=true∧(idOf x).contains n=false then
     some ⟨.own e i.size (n+1) 0 els.length,t.ups [(n,.dead),(n+1,.cells e i.size els)],n+2,n::(n+1)::idOf x,[n,n+1]⟩else none
   |_,_=>none
  |none=>none
 |_=>none
def cloneST [Bk] (P:Program) (ty:TypeId) (x:AV):MT AV:=fun t n =>
 match P.underlying ty with
 |some (.slice e)=>match P.info? e with
  |some i=>match i.zero,symOf t.get x with
   |some z,some (sz,base,ups,tail,N)=>if z.cells.size=i.size∧0<i.size∧sz=i.size∧fitN N i.bytes=true∧newB t.get n=true∧newB t.get (n+1)=true∧(idS x).contains n=false then
     some ⟨.sown e i.size (n+1) N,t.ups [(n,.dead),(n+1,.sc e i.size base ups tail N)],n+2,n::(n+1)::idS x,[n,n+1]⟩else none
   |_,_=>none
  |none=>none
 |_=>none
def cloneXT [Bk] (P:Program) (ty:TypeId) (x:AV):MT AV:=fun t n =>
 match cloneT P ty x t n with
 |some r=>some r
 |none=>cloneST P ty x t n
def acallBT [Bk] (P:Program) (L:Nat) (call:Fn→List AV→MT AV) (k:FuncId) (args:List AV):MT AV :=
 match P.funcs[k]? with
  |none=>tfail
  |some fn=>match isClone fn,args with
   |some t,[x]=>cloneXT P t x
   |_,_=>match fn.body with
    |none=>tfail
    | some c => if fn.name == "runtime.NumGoroutine" then tfail else
     mcompT (tbind (acodeT P call true L c (Ft.of (args.length+fn.ntmps) (args++List.replicate (fn.ntmps-args.length) .undef))) fun q=>match q.1 with
      | .exit _=>tfail
      |_=>resT P fn q.2)
def knT [Bk] (k:FuncId) (args:List AV):MT AV:=fun t n =>
 match frzL (frz t.get 16) args with
 |some (as,ids)=>match findV k as Bk.extV with
  |some r=>bif scalB 8 r then some ⟨r,t,n,ids,[]⟩else some ⟨r,t.ups (ids.map fun id=>(id,Blk.dead)),n,ids,ids⟩
  |none=>none
 |none=>none
def acallT [Bk] (P:Program) (L:Nat):Nat→Fn→List AV→MT AV
 |0,_,_=>tfail
 |d+1,.func k,args=>match extA P k args with
  |some v=>tpure v
  |none=>if knB P k=true then knT k args else acallBT P L (acallT P L d) k args
 |d+1,.yield id,args=>mcompT (ayieldT P L (acallT P L d) id args)
 |_+1,_,_=>tfail
variable {cm:Fn→List AV→M AV} {ct:Fn→List AV→MT AV}
theorem sim_step [Bk] [Ev] (hc:∀k args,Sim Eq (cm k args) (ct k args)) (o:Oper) {f:List AV} {g:Ft} (hf:FR f g):Sim Eq (astep P cm o f) (astepT P ct o g):=by
 unfold astep astepT
 rw[hf.ev]
 cases calleeA P (aevT g) o.op with
 |some p=>exact hc _ _
 |none =>
  cases yieldA (aevT g) o.op with
  |some p=>exact hc _ _
  |none=>exact sim_aop _ hf
theorem sim_log [Bk] [Ev] {x:M AV} {y:MT AV} (h:Sim Eq x y):Sim Eq (mlog x) (mlogT y):=by
 intro t n r hr
 unfold mlogT at hr
 cases h1:y t n with
 |none=>rw[h1]at hr;cases hr
 |some q =>
  rw[h1]at hr
  cases hr
  obtain⟨a,e1,rfl⟩:=h t n q h1
  refine⟨_,?_,rfl⟩
  unfold mlog
  rw[e1]
theorem getE [Bk] [Ev] {ops:Array Oper} {k:Nat} {o:Oper} {l:List Oper} (h:ops.toList.drop k=o::l):ops[k]?=some o∧ops.toList.drop (k+1)=l:=by
 have h1:ops.toList[k]?=some o:=by
  have:=congrArg (·[0]?) h
  simpa using this
 refine⟨by simpa using h1,?_⟩
 have:=congrArg (List.drop 1) h
 simpa[List.drop_drop,Nat.add_comm]using this
theorem sim_seq [Bk] [Ev] (hc:∀k args,Sim Eq (cm k args) (ct k args)) (ops:Array Oper):∀(l:List Oper) (k:Nat) (f:List AV) (g:Ft),ops.toList.drop k=l→FR f g→Sim FR (aseq P cm ops (List.range' k l.length) f) (aseqT P ct ops l g)
 |[],k,f,g,_,hf=>sim_pure hf
 |o::l,k,f,g,hl,hf=>by
  obtain⟨h1,h2⟩:=getE hl
  simp only[List.length_cons,List.range'_succ,aseq,aseqT,h1]
  rw[hf.guard]
  cases guardT ops o g with
  |none=>exact sim_fail
  |some b =>
   cases b
   ·exact sim_seq hc ops l (k+1) _ _ h2 (hf.st _ _)
   ·exact sim_bind (sim_step hc _ hf) fun v u e=>by subst e;exact sim_seq hc ops l (k+1) _ _ h2 (hf.st _ _)
theorem sim_drawL [Bk] [Ev] (hc:∀k args,Sim Eq (cm k args) (ct k args)) (ops:Array Oper):∀(l:List Oper) (k:Nat) (f:List AV) (g:Ft),ops.toList.drop k=l→FR f g→Sim (fun a b=>FR a.1 b.1∧a.2=b.2) (adrawL P cm ops (List.range' k l.length) f) (adrawLT P ct ops l g)
 |[],k,f,g,_,hf=>sim_pure ⟨hf,rfl⟩
 |o::l,k,f,g,hl,hf=>by
  obtain⟨h1,h2⟩:=getE hl
  simp only[List.length_cons,List.range'_succ,adrawL,adrawLT,h1]
  rw[hf.guard]
  cases guardT ops o g with
  |none=>exact sim_fail
  |some b =>
   cases b
   ·exact sim_bind (sim_drawL hc ops l (k+1) _ _ h2 (hf.st _ _)) fun a b e=>sim_pure ⟨e.1,by simp only;rw[e.2]⟩
   ·exact sim_bind (sim_log (sim_step hc _ hf)) fun v u e=>by
     subst e
     exact sim_bind (sim_drawL hc ops l (k+1) _ _ h2 (hf.st _ _)) fun a b e=>sim_pure ⟨e.1,by simp only;rw[e.2]⟩
theorem range_zero [Bk] [Ev] (n:Nat):List.range n=List.range' 0 n:=List.range_eq_range'
theorem sim_draw [Bk] [Ev] (hc:∀k args,Sim Eq (cm k args) (ct k args)) (ops:Array Oper) {f:List AV} {g:Ft} (hf:FR f g):Sim FR (adraw P cm ops f) (adrawT P ct ops g):=by
 unfold adraw adrawT
 split
 ·have:=sim_drawL (P:=P) hc ops ops.toList 0 f g (by simp) hf
  rw[range_zero,show ops.size=ops.toList.length by simp]
  refine sim_bind this fun a b e=>?_
  rw[e.2]
  split
  ·exact sim_pure e.1
  ·exact sim_fail
 ·exact sim_fail
theorem sim_comp [Bk] [Ev] {α β:Type} {R:α→β→Prop} {x:M α} {y:MT β} (h:Sim R x y):Sim R (mcomp x) (mcompT y):=by
 intro t n r hr
 unfold mcompT at hr
 cases h1:y t n with
 |none=>rw[h1]at hr;cases hr
 |some q =>
  rw[h1]at hr
  cases hr
  obtain⟨a,e1,hR⟩:=h t n q h1
  refine⟨a,?_,hR⟩
  unfold mcomp
  rw[e1]
theorem sim_code [Bk] [Ev] (hc:∀k args,Sim Eq (cm k args) (ct k args)) {tp:Bool}:∀(n:Nat) (c:Code) (f:List AV) (g:Ft),FR f g→Sim (fun a b=>a.1=b.1∧FR a.2 b.2) (acode P cm tp n c f) (acodeT P ct tp n c g)
 |0,c,f,g,hf=>by simp only[acode,acodeT];exact sim_fail
 |n+1,c,f,g,hf=>by
  cases c with
  |skip=>exact sim_pure ⟨rfl,hf⟩
  |region id ops draw =>
   simp only[acode,acodeT]
   refine sim_bind (R:=FR) ?_ fun a b e=>sim_pure ⟨rfl,e⟩
   cases draw
   ·have:=sim_seq (P:=P) hc ops ops.toList 0 f g (by simp) hf
    rw[range_zero,show ops.size=ops.toList.length by simp]
    exact this
   ·exact sim_draw hc _ hf
  |seq x y =>
   simp only[acode,acodeT]
   refine sim_bind (sim_code hc n x f g hf) fun a b e=>?_
   obtain⟨a1,a2⟩:=a
   obtain⟨b1,b2⟩:=b
   simp only at e
   obtain⟨rfl,e2⟩:=e
   cases a1 with
   |normal=>exact sim_code hc n y _ _ e2
   |_=>exact sim_pure ⟨rfl,e2⟩
  |cond c x y =>
   simp only[acode,acodeT]
   rw[hf.ev]
   cases aevT g c with
   |c v=>cases v with
    |bool b=>exact sim_code hc n _ _ _ hf
    |_=>exact sim_fail
   |_=>exact sim_fail
  |scope c=>simp only[acode,acodeT];exact sim_code hc n c f g hf
  |label l=>exact sim_pure ⟨rfl,hf⟩
  |block id c =>
   simp only[acode,acodeT]
   refine sim_bind (sim_code hc n c f g hf) fun a b e=>?_
   obtain⟨a1,a2⟩:=a
   obtain⟨b1,b2⟩:=b
   simp only at e
   obtain⟨rfl,e2⟩:=e
   cases a1 with
   |exit id'=>simp only;split<;>exact sim_pure ⟨rfl,e2⟩
   |_=>exact sim_pure ⟨rfl,e2⟩
  |loop c =>
   simp only[acode,acodeT]
   refine sim_bind (sim_code hc n c f g hf) fun a b e=>?_
   obtain⟨a1,a2⟩:=a
   obtain⟨b1,b2⟩:=b
   simp only at e
   obtain⟨rfl,e2⟩:=e
   cases a1 with
   |normal=>exact sim_code hc n _ _ _ e2
   |_=>exact sim_pure ⟨rfl,e2⟩
  |rangeFunc gg ps as bd =>
   simp only[acode,acodeT]
   rw[hf.ev]
   cases tp with
   |false=>exact sim_fail
   |true =>
    cases aevT g gg with
    |fn F first captured =>
     cases F with
     |func k =>
      cases first with
      |nil =>
       simp only[if_true]
       cases hl:Ft.list g 4096 0 with
       |none=>exact sim_fail
       |some l =>
        have e:=hf.list 4096 0 l hl
        rw[List.drop_zero]at e
        subst e
        refine sim_bind (sim_new _ _ _ _) fun a b e=>?_
        subst e
        refine sim_bind (hc _ _) fun c d e=>?_
        refine sim_bind (sim_at _ _) fun x y e=>?_
        subst e
        exact sim_pure ⟨rfl,hf⟩
      |cons _ _=>exact sim_fail
     |_=>exact sim_fail
    |_=>exact sim_fail
  |exit id=>exact sim_pure ⟨rfl,hf⟩
  |ret=>exact sim_pure ⟨rfl,hf⟩
  |_=>simp only[acode,acodeT];exact sim_fail
theorem sim_yield [Bk] [Ev] (hc:∀k args,Sim Eq (cm k args) (ct k args)) (L id:Nat) (args:List AV):Sim Eq (ayield P L cm id args) (ayieldT P L ct id args):=by
 unfold ayield ayieldT
 refine sim_bind (sim_at _ _) fun q q' e=>?_
 subst e
 split
 ·refine sim_bind (sim_code hc _ _ _ _ (fun k=>Ft.get_of _ _ _ (Nat.le_refl _))) fun a b e=>?_
  obtain⟨a1,a2⟩:=a
  obtain⟨b1,b2⟩:=b
  simp only at e
  obtain⟨rfl,e2⟩:=e
  cases a1 with
  |normal =>
   refine sim_bind (sim_at _ _) fun _ _ _=>sim_bind (sim_code hc _ _ _ _ e2) fun a b e=>?_
   rw[e.1]
   exact sim_at _ _
  |_=>exact sim_fail
 ·exact sim_fail
theorem FR.getD [Bk] [Ev] {f:List AV} {g:Ft} (h:FR f g) (t:Nat):f.getD t .undef=(g.gt t).getD .undef:=by rw[List.getD,Ft.gt_eq,h t]
theorem sim_res [Bk] [Ev] (fn:Func) {f:List AV} {g:Ft} (hf:FR f g):Sim Eq (resM P fn f) (resT P fn g):=by
 have e1:∀h,resultsA P fn f h=resultsAT P fn g h:=by
  intro h
  unfold resultsA resultsAT
  have:resA P f h=resAT P g h:=by
   funext r
   cases r with
   |tmp t=>simp only[resA,resAT,hf.getD]
   |cell t ty=>simp only[resA,resAT,hf.getD]
  rw[this]
 have e2:∀l,resIds f l=resIdsT g l:=by
  intro l
  unfold resIds resIdsT
  congr 1
  funext r
  cases r with
  |tmp t=>rfl
  |cell t ty=>simp only[resIds1,resIdsT1,hf.getD]
 intro t n r hr
 unfold resT at hr
 unfold resM
 rw[e1]
 cases h1:resultsAT P fn g t.get with
 |none=>rw[h1]at hr;cases hr
 |some v=>rw[h1]at hr;cases hr;exact⟨v,by simp only[e2],rfl⟩
theorem sim_clone [Bk] [Ev] (ty:TypeId) (x:AV):Sim Eq (cloneM P ty x) (cloneT P ty x):=by
 intro t n r hr
 unfold cloneT at hr
 unfold cloneM
 split at hr
 ·rename_i e he
  split at hr
  ·rename_i i hi
   split at hr
   ·rename_i z els hz hx
    split at hr
    ·rename_i hc
     cases hr
     refine⟨_,?_,rfl⟩
     simp only[he,hi,hz,hx]
     rw[if_pos hc]
     simp only[Tr.get_ups]
    ·cases hr
   ·cases hr
  ·cases hr
 ·cases hr
theorem sim_cloneX [Bk] [Ev] (ty:TypeId) (x:AV):Sim Eq (cloneX P ty x) (cloneXT P ty x):=by
 intro t n r hr
 unfold cloneXT at hr
 split at hr
 ·rename_i r' h1
  cases hr
  obtain⟨a,e,rfl⟩:=sim_clone ty x t n r h1
  exact⟨_,by unfold cloneX;rw[e],rfl⟩
 ·have hS:∃a,cloneS P ty x t.get n=some ⟨a,r.t.get,r.n,r.rd,r.wr⟩∧a=r.a:=by
   unfold cloneST at hr
   unfold cloneS
   split at hr
   ·rename_i e he
    split at hr
    ·rename_i i hi
     split at hr
     ·rename_i z sz base ups tail N hz hx
      split at hr
      ·rename_i hc
       cases hr
       refine⟨_,?_,rfl⟩
       simp only[he,hi,hz,hx]
       rw[if_pos hc]
       simp only[Tr.get_ups]
      ·cases hr
     ·cases hr
    ·cases hr
   ·cases hr
  obtain⟨a,e,rfl⟩:=hS
  exact⟨_,by unfold cloneX;rw[cloneS_none (h':=t.get) (n':=n) e];exact e,rfl⟩
theorem sim_callB [Bk] [Ev] (L:Nat) (ih:∀k args,Sim Eq (cm k args) (ct k args)) (k:FuncId) (args:List AV):Sim Eq (acallB P L cm k args) (acallBT P L ct k args):=by
  have plain:∀fn:Func,Sim Eq (match fn.body with
    |none=>mfail
    | some c => if fn.name == "runtime.NumGoroutine" then mfail else
     mcomp (mbind (acode P cm true L c (args++List.replicate (fn.ntmps-args.length) .undef)) fun q=>match q.1 with
      | .exit _=>mfail
      |_=>resM P fn q.2)) (match fn.body with
    |none=>tfail
    | some c => if fn.name == "runtime.NumGoroutine" then tfail else
     mcompT (tbind (acodeT P ct true L c (Ft.of (args.length+fn.ntmps) (args++List.replicate (fn.ntmps-args.length) .undef))) fun q=>match q.1 with
      | .exit _=>tfail
      |_=>resT P fn q.2)):=by
   intro fn
   cases fn.body with
   |none=>exact sim_fail
   |some c =>
    simp only
    split
    ·exact sim_fail
    ·refine sim_comp (sim_bind (sim_code ih _ _ _ _ (fun k=>Ft.get_of _ _ _ (by rw[List.length_append,List.length_replicate];omega))) fun a b e=>?_)
     obtain⟨a1,a2⟩:=a
     obtain⟨b1,b2⟩:=b
     simp only at e
     obtain⟨rfl,e2⟩:=e
     cases a1 with
     |exit id=>exact sim_fail
     |_=>exact sim_res (P:=P) _ e2
  simp only[acallB,acallBT]
  cases P.funcs[k]? with
  |none=>exact sim_fail
  |some fn =>
   simp only
   cases isClone fn with
   |none=>exact plain fn
   |some t =>
    cases args with
    |nil=>exact plain fn
    |cons x l =>
     cases l with
     |nil=>exact sim_cloneX _ _
     |cons y l=>exact plain fn
theorem sim_kn [Bk] [Ev] (k:FuncId) (args:List AV):Sim Eq (knM k args) (knT k args):=by
 intro t n r hr
 unfold knT at hr
 unfold knM
 split at hr
 ·rename_i as ids hf
  split at hr
  ·rename_i v hv
   cases hs:scalB 8 v with
   |true =>
    rw[hs]at hr
    cases hr
    refine⟨v,?_,rfl⟩
    rw[hf]
    simp only[hv,hs]
    rfl
   |false =>
    rw[hs]at hr
    cases hr
    refine⟨v,?_,rfl⟩
    rw[hf]
    simp only[hv,hs,Tr.get_ups]
    rfl
  ·cases hr
 ·cases hr
theorem sim_call [Bk] [Ev] (L:Nat):∀d k args,Sim Eq (acallX P L d k args) (acallT P L d k args)
 |0,k,args=>sim_fail
 |d+1,.func k,args=>by
  have ih:=sim_callB (P:=P) L (sim_call L d) k args
  simp only[acallX,acallT]
  cases extA P k args with
  |some v=>exact sim_pure rfl
  |none =>
   simp only
   split
   ·exact sim_kn k args
   ·exact ih
 |d+1,.yield id,args=>sim_comp (sim_yield (sim_call L d) L id args)
 |d+1,.method _,args=>sim_fail
 |d+1,.methodOf _ _,args=>sim_fail
 |d+1,.via _ _ _ _,args=>sim_fail
theorem acallT_ok [Bk] [Ev] (hX:ExtOk P) {L d:Nat} {k:FuncId} {args:List AV} {t:Tr} {n:Nat} {r:RT AV} (hr:acallT P L d (.func k) args t n=some r):ACalls P k args t.get (fun v h'=>v=r.a∧h'=r.t.get):=by
 obtain⟨a,e,rfl⟩:=sim_call L d (.func k) args t n r hr
 exact acallX_ok hX e
end
end Go.Proofs.Ytjccjmmbebiegaa.Mc
set_option linter.unusedVariables false
set_option linter.unusedSimpArgs false
namespace Go.Proofs.Ytjccjmmbebiegaa.Mc
open Go.RowKit
def quiet (E:Eff):Bool:=E.ups.isEmpty&&(E.rds.isEmpty&&Nat.ble E.hi E.lo)
def memB (E E':Eff):Bool:=(idsW E).all (fun id=>!seesB E' id&&!(idsW E').contains id)&&(idsW E').all (fun id=>!seesB E id&&!(idsW E).contains id)
def tmpB (ops:Array Oper) (o o':Oper):Bool :=
 (match o.dst with|none=>true|some d=>!(footT ops o').contains d)&&(match o'.dst with|none=>true|some d=>!(footT ops o).contains d) &&
 (match o.dst,o'.dst with|some d,some d'=>d != d'|_,_=>true)
def statB (ops:Array Oper):Bool :=
 let anc:=ancTo ops ops.size
 (List.range ops.size).all fun j=>(preO ops j).all (fun i=>decide (i<j))&&(anc.getD j []).all (fun i=>decide (i<j)) &&
  (List.range j).all fun i=>(anc.getD j []).contains i||(match ops[i]?,ops[j]? with|some o,some o'=>tmpB ops o o'|_,_=>false)
def loud:Nat→List Eff→List (Nat×Eff)
 |_,[]=>[]
 |k,E::l=>bif quiet E then loud (k+1) l else(k,E)::loud (k+1) l
def pairsB (anc:List (List Nat)):List (Nat×Eff)→Bool
 |[]=>true
 |p::l=>l.all (fun q=>(anc.getD q.1 []).contains p.1||memB p.2 q.2)&&pairsB anc l
def drawF (ops:Array Oper) (Es:List Eff):Bool:=statB ops&&(Es.length==ops.size&&pairsB (ancTo ops ops.size) (loud 0 Es))
theorem quiet_l {E E':Eff} (h:quiet E=true):memB E E'=true:=by
 unfold quiet at h
 simp only[Bool.and_eq_true,List.isEmpty_iff,Nat.ble_eq]at h
 obtain⟨h1,h2,h3⟩:=h
 have e:idsW E=[]:=by simp[idsW,h1]
 unfold memB
 rw[e]
 simp only[List.all_nil,Bool.true_and,List.all_eq_true]
 intro id _
 simp[seesB,h2]
 omega
theorem quiet_r {E E':Eff} (h:quiet E'=true):memB E E'=true:=by
 unfold quiet at h
 simp only[Bool.and_eq_true,List.isEmpty_iff,Nat.ble_eq]at h
 obtain⟨h1,h2,h3⟩:=h
 have e:idsW E'=[]:=by simp[idsW,h1]
 unfold memB
 rw[e]
 simp only[List.all_nil,Bool.and_true,List.all_eq_true]
 intro id _
 simp[seesB,h2]
 omega
theorem loud_get {anc:List (List Nat)}:∀(l:List Eff) (k:Nat),(∀(j:Nat) (E:Eff),l[j]?=some E→quiet E=false→(k+j,E)∈loud k l)
 |[],k,j,E,h,_=>by simp at h
 |E0::l,k,0,E,h,hq=>by
  cases h
  unfold loud
  rw[hq]
  exact List.mem_cons_self
 |E0::l,k,j+1,E,h,hq=>by
  have ih:=loud_get (anc:=anc) l (k+1) j E (by simpa using h) hq
  rw[show k+1+j=k+(j+1)by omega]at ih
  unfold loud
  cases quiet E0
  ·exact List.mem_cons_of_mem _ ih
  ·exact ih
theorem pairs_get {anc:List (List Nat)}:∀(l:List Eff) (k:Nat),pairsB anc (loud k l)=true→∀(i j:Nat) (E E':Eff),i<j→l[i]?=some E→l[j]?=some E'→quiet E=false→quiet E'=false→(anc.getD (k+j) []).contains (k+i)=true∨memB E E'=true
 |[],k,h,i,j,E,E',_,hi,_,_,_=>by simp at hi
 |E0::l,k,h,0,0,E,E',hij,_,_,_,_=>by omega
 |E0::l,k,h,i+1,0,E,E',hij,_,_,_,_=>by omega
 |E0::l,k,h,0,j+1,E,E',hij,hi,hj,hq,hq'=>by
  cases hi
  unfold loud at h
  rw[hq]at h
  simp only[cond_false,pairsB,Bool.and_eq_true,List.all_eq_true,Bool.or_eq_true]at h
  have:=h.1 _ (loud_get (anc:=anc) l (k+1) j E' (by simpa using hj) hq')
  rw[show k+1+j=k+(j+1)by omega]at this
  exact this
 |E0::l,k,h,i+1,j+1,E,E',hij,hi,hj,hq,hq'=>by
  have h':pairsB anc (loud (k+1) l)=true:=by
   unfold loud at h
   cases h0:quiet E0<;>rw[h0]at h
   ·simp only[cond_false,pairsB,Bool.and_eq_true]at h
    exact h.2
   ·exact h
  have:=pairs_get l (k+1) h' i j E E' (by omega) (by simpa using hi) (by simpa using hj) hq hq'
  rw[show k+1+j=k+(j+1)by omega,show k+1+i=k+(i+1)by omega]at this
  exact this
theorem drawF_ok {ops:Array Oper} {Es:List Eff} (h:drawF ops Es=true):drawB ops Es=true:=by
 unfold drawF at h
 simp only[Bool.and_eq_true,beq_iff_eq]at h
 obtain⟨h1,h2,h3⟩:=h
 unfold statB at h1
 unfold drawB
 simp only[List.all_eq_true,Bool.and_eq_true,List.mem_range]at h1 ⊢
 intro j hj
 obtain⟨⟨a1,a2⟩,a3⟩:=h1 j hj
 refine⟨⟨a1,a2⟩,?_⟩
 intro i hi
 have a4:=a3 i hi
 rw[Bool.or_eq_true]at a4 ⊢
 rcases a4 with a4|a4
 ·exact .inl a4
 have hEi:i<Es.length:=by omega
 have hEj:j<Es.length:=by omega
 have g1:Es[i]?=some Es[i]:=List.getElem?_eq_getElem hEi
 have g2:Es[j]?=some Es[j]:=List.getElem?_eq_getElem hEj
 have mem:(((ancTo ops ops.size).getD j []).contains i=true)∨memB Es[i] Es[j]=true:=by
  cases q1:quiet Es[i]with
  |true=>exact .inr (quiet_l q1)
  |false =>
   cases q2:quiet Es[j]with
   |true=>exact .inr (quiet_r q2)
   |false =>
    have:=pairs_get Es 0 h3 i j _ _ hi g1 g2 q1 q2
    simpa using this
 rcases mem with m|m
 ·exact .inl m
 refine .inr ?_
 rw[g1,g2]
 cases ho:ops[i]? with
 |none=>rw[ho]at a4;cases a4
 |some o =>
  cases ho':ops[j]? with
  |none=>rw[ho,ho']at a4;cases a4
  |some o' =>
   rw[ho,ho']at a4
   simp only at a4 ⊢
   unfold tmpB at a4
   unfold memB at m
   unfold apartB
   rw[Bool.and_eq_true]at m
   rw[Bool.and_eq_true,Bool.and_eq_true]
   exact⟨⟨a4,m.1⟩,m.2⟩
structure OF where
 f:Ft→AV
def opd:Operand→OF
 | .tmp k=>⟨fun t=>match (Ft.look (k+1) k).f t with|some v=>v|none=>.undef⟩
 | .const v=>⟨fun _=>ofC v⟩
 | .global g=>⟨fun _=>.c (.pointer (some ⟨g,0,none⟩))⟩
 | .func k=>⟨fun _=>.fn (.func k) [] []⟩
def dstF:Option Tmp→Ft.H
 |none=>⟨fun t _=>t⟩
 |some k=>Ft.lay (k+1) k
def finT (r:Option AR):MT AV:=fun t n =>
 match r with
 |none=>none
 |some ⟨v,ups,rds⟩=>match ups with
  |[]=>some ⟨v,t,n,rds,[]⟩
  |u=>some ⟨v,t.ups u,if(u.map (·.1)).contains n then n+1 else n,rds,u.map (·.1)⟩
def bindT {α β:Type} (x:MT α) (k:α→MT β):MT β:=fun t n =>
 match x t n with
 |none=>none
 |some ⟨a,t1,n1,rd1,wr1⟩=>match k a t1 n1 with
  |none=>none
  |some ⟨b,t2,n2,rd2,wr2⟩=>some ⟨b,t2,n2,rd1++rd2,wr1++wr2⟩
abbrev CallT:=Fn→List AV→MT AV
structure SF where
 f:CallT→Ft→MT AV
def compO [Bk] (P:Program) (o:Oper):SF :=
 match o.op with
 | .move x=>⟨fun _ f t n=>some ⟨(opd x).f f,t,n,[],[]⟩⟩
 | .assign x=>⟨fun _ f t n=>some ⟨(opd x).f f,t,n,[],[]⟩⟩
 | .pick c x y=>⟨fun _ f tr nx=>finT (aF_pick P c x y (fun o=>(opd o).f f) tr.get nx) tr nx⟩
 | .alloc e=>⟨fun _ f tr nx=>finT (aF_alloc P e (fun o=>(opd o).f f) tr.get nx) tr nx⟩
 | .box e x=>⟨fun _ f tr nx=>finT (aF_box P e x (fun o=>(opd o).f f) tr.get nx) tr nx⟩
 | .build t parts=>⟨fun _ f tr nx=>finT (aF_build P t parts (fun o=>(opd o).f f) tr.get nx) tr nx⟩
 | .buildSlice t len parts=>⟨fun _ f tr nx=>finT (aF_buildSlice P t len parts (fun o=>(opd o).f f) tr.get nx) tr nx⟩
 | .load t x=>⟨fun _ f tr nx=>finT (aF_load P t x (fun o=>(opd o).f f) tr.get nx) tr nx⟩
 | .store t x y=>⟨fun _ f tr nx=>finT (aF_store P t x y (fun o=>(opd o).f f) tr.get nx) tr nx⟩
 | .nilCheck x=>⟨fun _ f tr nx=>finT (aF_nilCheck P x (fun o=>(opd o).f f) tr.get nx) tr nx⟩
 | .binOp op t x y _=>⟨fun _ f tr nx=>finT (aF_binOp P op t x y (fun o=>(opd o).f f) tr.get nx) tr nx⟩
 | .unOp op _ x=>⟨fun _ f tr nx=>finT (aF_unOp P op x (fun o=>(opd o).f f) tr.get nx) tr nx⟩
 | .convert s d x=>⟨fun _ f tr nx=>finT (aF_convert P s d x (fun o=>(opd o).f f) tr.get nx) tr nx⟩
 | .makeInterface t x=>⟨fun _ f tr nx=>finT (aF_makeInterface P t x (fun o=>(opd o).f f) tr.get nx) tr nx⟩
 | .makeFunc fn first captured=>⟨fun _ f tr nx=>finT (aF_makeFunc P fn first captured (fun o=>(opd o).f f) tr.get nx) tr nx⟩
 | .makeSlice t x y=>⟨fun _ f tr nx=>finT (aF_makeSlice P t x y (fun o=>(opd o).f f) tr.get nx) tr nx⟩
 | .slice t x lo hi mx=>⟨fun _ f tr nx=>finT (aF_slice P t x lo hi mx (fun o=>(opd o).f f) tr.get nx) tr nx⟩
 | .fieldAddr t x k=>⟨fun _ f tr nx=>finT (aF_fieldAddr P t x k (fun o=>(opd o).f f) tr.get nx) tr nx⟩
 | .field t x k=>⟨fun _ f tr nx=>finT (aF_field P t x k (fun o=>(opd o).f f) tr.get nx) tr nx⟩
 | .indexAddr t x ix=>⟨fun _ f tr nx=>finT (aF_indexAddr P t x ix (fun o=>(opd o).f f) tr.get nx) tr nx⟩
 | .index t x ix=>⟨fun _ f tr nx=>finT (aF_index P t x ix (fun o=>(opd o).f f) tr.get nx) tr nx⟩
 | .extract x k=>⟨fun _ f tr nx=>finT (aF_extract P x k (fun o=>(opd o).f f) tr.get nx) tr nx⟩
 | .typeAssert x _ asserted ok=>⟨fun _ f tr nx=>finT (aF_typeAssert P x asserted ok (fun o=>(opd o).f f) tr.get nx) tr nx⟩
 | .range t x=>⟨fun _ f tr nx=>finT (aF_range P t x (fun o=>(opd o).f f) tr.get nx) tr nx⟩
 | .next x str=>⟨fun _ f tr nx=>finT (aF_next P x str (fun o=>(opd o).f f) tr.get nx) tr nx⟩
 | .makeMap _ rs=>⟨fun _ f tr nx=>finT (aF_makeMap P rs (fun o=>(opd o).f f) tr.get nx) tr nx⟩
 | .insert t x k y=>⟨fun _ f tr nx=>finT (aF_insert P t x k y (fun o=>(opd o).f f) tr.get nx) tr nx⟩
 | .lookup t x k ok=>⟨fun _ f tr nx=>finT (aF_lookup P t x k ok (fun o=>(opd o).f f) tr.get nx) tr nx⟩
 | .call { callee:=.builtin .len,args,argTypes }=>⟨fun _ f tr nx=>finT (aF_b_len P args argTypes (fun o=>(opd o).f f) tr.get nx) tr nx⟩
 | .call { callee:=.builtin .append,args,argTypes }=>⟨fun _ f tr nx=>finT (aF_b_append P args argTypes (fun o=>(opd o).f f) tr.get nx) tr nx⟩
 | .call { callee:=.builtin .max,args,argTypes }=>⟨fun _ f tr nx=>finT (aF_b_max P args argTypes (fun o=>(opd o).f f) tr.get nx) tr nx⟩
 | .call { callee:=.builtin .min,args,argTypes }=>⟨fun _ f tr nx=>finT (aF_b_min P args argTypes (fun o=>(opd o).f f) tr.get nx) tr nx⟩
 | .call { callee:=.builtin .clear,args,argTypes }=>⟨fun _ f tr nx=>finT (aF_b_clear P args argTypes (fun o=>(opd o).f f) tr.get nx) tr nx⟩
 | .call { callee:=.value g,args,.. }=>⟨fun call f=>match (opd g).f f with
  | .fn (.func k) first captured=>call (.func k) (first++(args.toList.map fun o=>(opd o).f f)++captured)
  | .yld id=>call (.yield id) (args.toList.map fun o=>(opd o).f f)
  |_=>tfail⟩
 |_=>⟨fun call f=>astepT P call o f⟩
def orS (x y:Option (RT AV)):Option (RT AV):=match x with
 |some r=>some r
 |none=>y
def compO2 [Bk] (P:Program) (o:Oper):SF :=
 let c:=compO P o
 let s:SF:=⟨fun call f t n=>orS (c.f call f t n) (finT (aopS P o.op (fun o=>(opd o).f f) t.get n) t n)⟩
 match o.op with
 | .load .. | .nilCheck .. | .fieldAddr .. | .indexAddr .. | .store ..=>s
 | .call { callee:=.builtin .len,.. }=>s
 | .call { callee:=.builtin .append,.. }=>s
 |_=>c
structure QF where
 f:CallT→Ft→MT Ft
def compS [Bk] (P:Program) (ops:Array Oper):List Oper→QF
 |[]=>⟨fun _ f=>tpure f⟩
 |o::l=>match o.guard with
  |none=>match o.op with
   | .move x=>⟨fun call f=>(compS P ops l).f call ((dstF o.dst).f f ((opd x).f f))⟩
   | .assign x=>⟨fun call f=>(compS P ops l).f call ((dstF o.dst).f f ((opd x).f f))⟩
   |_=>⟨fun call f=>bindT ((compO2 P o).f call f) fun v=>(compS P ops l).f call ((dstF o.dst).f f v)⟩
  |some _=>⟨fun call f=>match guardT ops o f with
   |some true=>bindT ((compO2 P o).f call f) fun v=>(compS P ops l).f call ((dstF o.dst).f f v)
   |some false=>(compS P ops l).f call ((dstF o.dst).f f .undef)
   |none=>tfail⟩
structure DF where
 f:CallT→Ft→MT (Ft×List Eff)
def logT (x:MT AV):MT (AV×Eff):=fun t n =>
 match x t n with
 |none=>none
 |some ⟨a,t1,n1,rd,wr⟩=>some ⟨(a,⟨a,(wr++List.range' n (n1-n)).map fun id=>(id,t1.get id),rd,n,n1,false⟩),t1,n1,rd,wr⟩
def compD [Bk] (P:Program) (ops:Array Oper):List Oper→DF
 |[]=>⟨fun _ f=>tpure (f,[])⟩
 |o::l=>⟨fun call f=>match guardT ops o f with
  |some true=>bindT (logT ((compO2 P o).f call f)) fun v=>bindT ((compD P ops l).f call ((dstF o.dst).f f v.1)) fun q=>tpure (q.1,v.2::q.2)
  |some false=>bindT ((compD P ops l).f call ((dstF o.dst).f f .undef)) fun q=>tpure (q.1,⟨.undef,[],[],0,0,true⟩::q.2)
  |none=>tfail⟩
structure CF where
 f:CallT→Nat→Ft→MT (AX×Ft)
def loopT (g:CF) (call:CallT):Nat→Ft→MT (AX×Ft)
 |0,_=>tfail
 |n+1,f=>bindT (g.f call n f) fun q=>match q with
  |(.normal,f')=>loopT g call n f'
  |q=>tpure q
def compC [Bk] (P:Program) (tp:Bool):Code→CF
 | .skip=>⟨fun _ n f=>match n with|0=>tfail|_+1=>tpure (.normal,f)⟩
 | .region _ ops draw=>if draw then⟨fun call n f=>match n with
   |0=>tfail
   |_+1=>bindT (if P.follows .mixedOrders then bindT ((compD P ops ops.toList).f call f) fun q=>if drawF ops q.2 then tpure q.1 else tfail else tfail) fun f'=>tpure (.normal,f')⟩
  else⟨fun call n f=>match n with
   |0=>tfail
   |_+1=>bindT ((compS P ops ops.toList).f call f) fun f'=>tpure (.normal,f')⟩
 | .seq x y=>⟨fun call n f=>match n with
  |0=>tfail
  |n+1=>bindT ((compC P tp x).f call n f) fun q=>match q with
   |(.normal,f')=>(compC P tp y).f call n f'
   |q=>tpure q⟩
 | .cond c x y=>⟨fun call n f=>match n with
  |0=>tfail
  |n+1=>match (opd c).f f with
   | .c (.bool b)=>bif b then(compC P tp x).f call n f else(compC P tp y).f call n f
   |_=>tfail⟩
 | .block id c=>⟨fun call n f=>match n with
  |0=>tfail
  |n+1=>bindT ((compC P tp c).f call n f) fun q=>match q with
   |(.exit id',f')=>if id'=id then tpure (.normal,f')else tpure (.exit id',f')
   |q=>tpure q⟩
 | .loop c=>⟨fun call n f=>loopT (compC P tp c) call n f⟩
 | .rangeFunc g ps as bd=>⟨fun call n f=>match n with
  |0=>tfail
  |_+1=>if tp then match (opd g).f f with
    | .fn (.func k) [] captured=>match Ft.list f 4096 0 with
     |none=>tfail
     |some l=>bindT (newLT l ps as bd) fun id=>bindT (call (.func k) (.yld id::captured)) fun _=>bindT (atLT id overG) fun x=>tpure (x,f)
    |_=>tfail
   else tfail⟩
 | .scope c=>⟨fun call n f=>match n with
  |0=>tfail
  |n+1=>(compC P tp c).f call n f⟩
 | .label _=>⟨fun _ n f=>match n with|0=>tfail|_+1=>tpure (.normal,f)⟩
 | .exit id=>⟨fun _ n f=>match n with|0=>tfail|_+1=>tpure (.exit id,f)⟩
 | .ret=>⟨fun _ n f=>match n with|0=>tfail|_+1=>tpure (.ret,f)⟩
 |_=>⟨fun _ _ _=>tfail⟩
def compT {α:Type} (x:MT α):MT α:=fun t n =>
 match x t n with
 |none=>none
 |some ⟨a,t1,n1,rd,wr⟩=>some ⟨a,t1,n1,(rd.filter fun id=>!(decide (n≤id)&&decide (id<n1))).eraseDups,(wr.filter fun id=>!(decide (n≤id)&&decide (id<n1))).eraseDups⟩
structure FF where
 f:CallT→List AV→MT AV
def compF [Bk] (P:Program) (L:Nat) (k:FuncId):FF :=
 match P.funcs[k]? with
  |none=>⟨fun _ _=>tfail⟩
  |some fn =>
   let body:CallT→List AV→MT AV:=match fn.body with
    |none=>fun _ _=>tfail
    | some c => if fn.name == "runtime.NumGoroutine" then fun _ _ => tfail else fun call args =>
     compT (bindT ((compC P true c).f call L (Ft.of (args.length+fn.ntmps) (args++List.replicate (fn.ntmps-args.length) .undef))) fun q=>match q.1 with
      | .exit _=>tfail
      |_=>resT P fn q.2)
   match isClone fn with
   |some t=>⟨fun call args=>match args with
    |[x]=>cloneXT P t x
    |_=>body call args⟩
   |none=>⟨body⟩
def yieldF [Bk] (P:Program) (L:Nat) (call:CallT) (id:Nat) (args:List AV):MT AV :=
 bindT (atLT id getG) fun q=>if args.length=q.2.1.size then
  bindT ((compC P false q.2.2.1).f call L (Ft.of (putsA q.1 q.2.1 args).length (putsA q.1 q.2.1 args))) fun r=>match r.1 with
   | .normal=>bindT (atLT id busyG) fun _=>bindT ((compC P false q.2.2.2).f call L r.2) fun s=>atLT id (turnG s.1)
   |_=>tfail
 else tfail
def acallN [Bk] (P:Program) (L:Nat):Nat→Fn→List AV→MT AV
 |0,_,_=>tfail
 |d+1,.func k,args=>match extA P k args with
  |some v=>tpure v
  |none=>if knB P k=true then knT k args else(compF P L k).f (acallN P L d) args
 |d+1,.yield id,args=>compT (yieldF P L (acallN P L d) id args)
 |_+1,_,_=>tfail
def acallF [Bk] (P:Program) (L d:Nat) (k:FuncId) (args:List AV):MT AV:=acallN P L d (.func k) args
def Le {α:Type} (x y:MT α):Prop:=∀t n r,x t n=some r→y t n=some r
theorem Le.refl {α:Type} (x:MT α):Le x x:=fun _ _ _ h=>h
theorem Le.fail {α:Type} {y:MT α}:Le tfail y:=fun _ _ _ h=>by cases h
theorem Le.bind {α β:Type} {x y:MT α} {k l:α→MT β} (h:Le x y) (hk:∀a,Le (k a) (l a)):Le (bindT x k) (tbind y l):=by
 intro t n r hr
 unfold bindT at hr
 unfold tbind
 cases hx:x t n with
 |none=>rw[hx]at hr;cases hr
 |some q =>
  obtain⟨a,t1,n1,rd1,wr1⟩:=q
  rw[hx]at hr
  simp only at hr
  rw[h _ _ _ hx]
  simp only
  cases hy:k a t1 n1 with
  |none=>rw[hy]at hr;cases hr
  |some s =>
   obtain⟨b,t2,n2,rd2,wr2⟩:=s
   rw[hy]at hr
   rw[hk a _ _ _ hy]
   exact hr
theorem tbind_pure {α β:Type} (v:α) (k:α→MT β):tbind (tpure v) k=k v:=by
 funext t n
 unfold tbind tpure
 simp only
 cases k v t n with
 |none=>rfl
 |some s=>obtain⟨b,t2,n2,rd2,wr2⟩:=s;simp
theorem opd_eq (o:Operand) (f:Ft):(opd o).f f=aevT f o:=by cases o<;>rfl
theorem opd_fun (f:Ft):(fun o=>(opd o).f f)=aevT f:=funext fun o=>opd_eq o f
theorem dstF_eq (d:Option Tmp) (f:Ft) (v:AV):(dstF d).f f v=f.st d v:=by cases d<;>rfl
theorem finT_eq (r:Option AR) (t:Tr) (n:Nat):finT r t n=(match r with
 |none=>none
 |some r=>some ⟨r.v,t.ups r.ups,if(r.ups.map (·.1)).contains n then n+1 else n,r.rds,r.ups.map (·.1)⟩):=by
 cases r with
 |none=>rfl
 |some r =>
  obtain⟨v,ups,rds⟩:=r
  cases ups with
  |nil=>rfl
  |cons u us=>rfl
section
variable {P:Program} {cf ct:CallT}
theorem aopT_fin [Bk] (op:Op) (f:Ft):aopT P op f=fun t n=>finT (aopXF P op (fun o=>(opd o).f f) t.get n) t n:=by
 funext t n
 rw[finT_eq,opd_fun]
 rfl
theorem astepT_le [Bk] (hc:∀k args,Le (cf k args) (ct k args)) (o:Oper) (f:Ft):Le (astepT P cf o f) (astepT P ct o f):=by
 unfold astepT
 cases calleeA P (aevT f) o.op with
 |none =>
  simp only
  cases yieldA (aevT f) o.op with
  |none=>exact Le.refl _
  |some p=>exact hc _ _
 |some p=>exact hc _ _
theorem astepT_val [Bk] {o:Oper} {f:Ft} {g:Operand} {args:Array Operand} {tys:Array TypeId} (h:o.op=.call ⟨.value g,args,tys⟩) {k:FuncId} {first captured:List AV} (hg:aevT f g=.fn (.func k) first captured) :
  astepT P ct o f=ct (.func k) (first++args.toList.map (aevT f)++captured):=by
 unfold astepT
 have e:calleeA P (aevT f) o.op=some (k,first++args.toList.map (aevT f)++captured):=by
  rw[h];unfold calleeA;simp only[hg]
 rw[e]
theorem astepT_yld [Bk] {o:Oper} {f:Ft} {g:Operand} {args:Array Operand} {tys:Array TypeId} (h:o.op=.call ⟨.value g,args,tys⟩) {id:Nat} (hg:aevT f g=.yld id) :
  astepT P ct o f=ct (.yield id) (args.toList.map (aevT f)):=by
 unfold astepT
 have e:calleeA P (aevT f) o.op=none:=by
  rw[h];unfold calleeA;simp only[hg]
 have e2:yieldA (aevT f) o.op=some (id,args.toList.map (aevT f)):=by
  rw[h];unfold yieldA;simp only[hg]
 rw[e]
 simp only[e2]
theorem astepT_op [Bk] {o:Oper} {f:Ft} (h:calleeA P (aevT f) o.op=none) (hy:yieldA (aevT f) o.op=none):astepT P ct o f=fun t n=>finT (aopXF P o.op (fun o=>(opd o).f f) t.get n) t n:=by
 unfold astepT
 rw[h]
 simp only[hy]
 exact aopT_fin _ f
theorem finXF [Bk] (op:Op) (ρ:Operand→AV):Le (fun t n=>finT (aopF P op ρ t.get n) t n) (fun t n=>finT (aopXF P op ρ t.get n) t n):=by
 intro t n r hr
 simp only at hr ⊢
 unfold aopXF
 cases h:aopF P op ρ t.get n with
 |none=>rw[h]at hr;cases hr
 |some q=>rw[h]at hr;exact hr
set_option maxHeartbeats 1000000 in
theorem compO_le [Bk] (hc:∀k args,Le (cf k args) (ct k args)) (o:Oper) (f:Ft):Le ((compO P o).f cf f) (astepT P ct o f):=by
 cases h:o.op
 case call c =>
  obtain⟨cl,args,tys⟩:=c
  cases cl with
  |value g =>
   unfold compO
   rw[h]
   show Le (match (opd g).f f with
    | .fn (.func k) first captured=>cf (.func k) (first++(args.toList.map fun o=>(opd o).f f)++captured)
    | .yld id=>cf (.yield id) (args.toList.map fun o=>(opd o).f f)
    |_=>tfail) _
   rw[opd_eq]
   split
   ·rename_i k first captured he
    rw[astepT_val h he,opd_fun]
    exact hc _ _
   ·rename_i id he
    rw[astepT_yld h he,opd_fun]
    exact hc _ _
   ·exact Le.fail
  |builtin b =>
   unfold compO
   rw[h]
   cases b<;>first
    |exact astepT_le hc o f
    |(rw[astepT_op (by rw[h];rfl) (by rw[h];rfl),h];exact fun t n r hr=>finXF _ _ t n r hr)
  |_ =>
   unfold compO
   rw[h]
   exact astepT_le hc o f
 all_goals
  unfold compO
  rw[h]
  first
   |exact astepT_le hc o f
   |(rw[astepT_op (by rw[h];rfl) (by rw[h];rfl),h];exact fun t n r hr=>finXF _ _ t n r hr)
theorem compO2_le [Bk] (hc:∀k args,Le (cf k args) (ct k args)) (o:Oper) (f:Ft):Le ((compO2 P o).f cf f) (astepT P ct o f):=by
 have s:calleeA P (aevT f) o.op=none→yieldA (aevT f) o.op=none→Le (fun t n=>orS ((compO P o).f cf f t n) (finT (aopS P o.op (fun o=>(opd o).f f) t.get n) t n)) (astepT P ct o f):=by
  intro h1 h2 t n r hr
  simp only at hr
  cases hx:(compO P o).f cf f t n with
  |some q=>rw[hx]at hr;cases hr;exact compO_le hc o f t n r hx
  |none =>
   rw[hx]at hr
   have hr:finT (aopS P o.op (fun o=>(opd o).f f) t.get n) t n=some r:=hr
   rw[astepT_op h1 h2]
   simp only
   cases hs:aopS P o.op (fun o=>(opd o).f f) t.get n with
   |none=>rw[hs]at hr;cases hr
   |some q =>
    rw[hs]at hr
    unfold aopXF
    rw[aopF_eq,aopS_none (h':=t.get) (nx':=n) hs]
    simp only[hs]
    exact hr
 unfold compO2
 cases h:o.op
 case load=>(rw[h]at s;exact s rfl rfl)
 case nilCheck=>(rw[h]at s;exact s rfl rfl)
 case fieldAddr=>(rw[h]at s;exact s rfl rfl)
 case indexAddr=>(rw[h]at s;exact s rfl rfl)
 case store=>(rw[h]at s;exact s rfl rfl)
 case call c =>
  obtain⟨cl,args,tys⟩:=c
  cases cl with
  |builtin b =>
   cases b<;>first
    |(rw[h]at s;exact s rfl rfl)
    |exact compO_le hc o f
  |_=>exact compO_le hc o f
 all_goals exact compO_le hc o f
theorem compS_le [Bk] (hc:∀k args,Le (cf k args) (ct k args)) (ops:Array Oper):∀(l:List Oper) (f:Ft),Le ((compS P ops l).f cf f) (aseqT P ct ops l f)
 |[],f=>Le.refl _
 |o::l,f=>by
  have ih:=compS_le hc ops l
  have go:Le (bindT ((compO2 P o).f cf f) fun v=>(compS P ops l).f cf ((dstF o.dst).f f v)) (tbind (astepT P ct o f) fun v=>aseqT P ct ops l (f.st o.dst v)) :=
   Le.bind (compO2_le hc o f) fun v=>by rw[dstF_eq];exact ih _
  have mv:∀x,astepT P ct o f=tpure (aevT f x)→Le ((compS P ops l).f cf ((dstF o.dst).f f ((opd x).f f))) (tbind (astepT P ct o f) fun v=>aseqT P ct ops l (f.st o.dst v)):=by
   intro x hx
   rw[hx,tbind_pure,dstF_eq,opd_eq]
   exact ih _
  simp only[compS,aseqT]
  cases hg:o.guard with
  |none =>
   have hgt:guardT ops o f=some true:=by unfold guardT;rw[hg]
   rw[hgt]
   simp only
   split
   ·rename_i x hx
    refine mv x ?_
    unfold astepT
    rw[hx]
    rfl
   ·rename_i x hx
    refine mv x ?_
    unfold astepT
    rw[hx]
    rfl
   ·exact go
  |some q =>
   simp only
   cases guardT ops o f with
   |none=>exact Le.fail
   |some b =>
    cases b
    ·simp only;rw[dstF_eq];exact ih _
    ·exact go
theorem logT_le {x y:MT AV} (h:Le x y):Le (logT x) (mlogT y):=by
 intro t n r hr
 unfold logT at hr
 unfold mlogT
 cases hx:x t n with
 |none=>rw[hx]at hr;cases hr
 |some q =>
  obtain⟨a,t1,n1,rd1,wr1⟩:=q
  rw[hx]at hr
  rw[h _ _ _ hx]
  exact hr
theorem compD_le [Bk] (hc:∀k args,Le (cf k args) (ct k args)) (ops:Array Oper):∀(l:List Oper) (f:Ft),Le ((compD P ops l).f cf f) (adrawLT P ct ops l f)
 |[],f=>Le.refl _
 |o::l,f=>by
  have ih:=compD_le hc ops l
  simp only[compD,adrawLT]
  cases guardT ops o f with
  |none=>exact Le.fail
  |some b =>
   cases b
   ·simp only
    exact Le.bind (by rw[dstF_eq];exact ih _) fun q=>Le.refl _
   ·simp only
    exact Le.bind (logT_le (compO2_le hc o f)) fun v=>Le.bind (by rw[dstF_eq];exact ih _) fun q=>Le.refl _
theorem draw_le [Bk] (hc:∀k args,Le (cf k args) (ct k args)) (ops:Array Oper) (f:Ft) :
  Le (if P.follows .mixedOrders then bindT ((compD P ops ops.toList).f cf f) fun q=>if drawF ops q.2 then tpure q.1 else tfail else tfail) (adrawT P ct ops f):=by
 unfold adrawT
 split
 ·refine Le.bind (compD_le hc ops _ f) fun q=>?_
  by_cases h:drawF ops q.2=true
  ·rw[if_pos h,if_pos (drawF_ok h)];exact Le.refl _
  ·rw[if_neg h];exact Le.fail
 ·exact Le.fail
theorem compC_le [Bk] (hc:∀k args,Le (cf k args) (ct k args)) {tp:Bool}:∀(n:Nat) (c:Code) (f:Ft),Le ((compC P tp c).f cf n f) (acodeT P ct tp n c f)
 |0,c,f=>by
  cases c<;>try exact Le.fail
  case region id ops draw=>cases draw<;>exact Le.fail
 |n+1,c,f=>by
  cases c with
  |skip=>exact Le.refl _
  |region id ops draw =>
   cases draw
   ·show Le (bindT ((compS P ops ops.toList).f cf f) fun f'=>tpure (AX.normal,f')) (tbind (aseqT P ct ops ops.toList f) fun f'=>tpure (AX.normal,f'))
    exact Le.bind (compS_le hc ops _ f) fun f'=>Le.refl _
   ·show Le (bindT (if P.follows .mixedOrders then bindT ((compD P ops ops.toList).f cf f) fun q=>if drawF ops q.2 then tpure q.1 else tfail else tfail) fun f'=>tpure (AX.normal,f')) (tbind (adrawT P ct ops f) fun f'=>tpure (AX.normal,f'))
    exact Le.bind (draw_le hc ops f) fun f'=>Le.refl _
  |seq x y =>
   refine Le.bind (compC_le hc n x f) fun q=>?_
   obtain⟨a,f'⟩:=q
   cases a with
   |normal=>exact compC_le hc n y f'
   |_=>exact Le.refl _
  |cond c x y =>
   show Le (match (opd c).f f with | .c (.bool b)=>bif b then(compC P tp x).f cf n f else(compC P tp y).f cf n f|_=>tfail) (match aevT f c with | .c (.bool b)=>acodeT P ct tp n (if b then x else y) f|_=>tfail)
   rw[opd_eq]
   split
   ·rename_i b _
    cases b
    ·exact compC_le hc n y f
    ·exact compC_le hc n x f
   ·exact Le.fail
  |block id c =>
   refine Le.bind (compC_le hc n c f) fun q=>?_
   obtain⟨a,f'⟩:=q
   cases a with
   |exit id' =>
    simp only
    split<;>exact Le.refl _
   |_=>exact Le.refl _
  |loop c =>
   have key:∀(m:Nat) (f:Ft),m≤n+1→(∀m',m'<m→∀f,Le ((compC P tp c).f cf m' f) (acodeT P ct tp m' c f))→Le (loopT (compC P tp c) cf m f) (acodeT P ct tp m (.loop c) f):=by
    intro m
    induction m with
    |zero=>intro f _ _;exact Le.fail
    |succ m ih =>
     intro f hm hb
     refine Le.bind (hb m (by omega) f) fun q=>?_
     obtain⟨a,f'⟩:=q
     cases a with
     |normal=>exact ih f' (by omega) (fun m' h=>hb m' (by omega))
     |_=>exact Le.refl _
   exact key (n+1) f (Nat.le_refl _) fun m' h f=>compC_le hc m' c f
  |rangeFunc g ps as bd =>
   show Le (if tp then match (opd g).f f with
    | .fn (.func k) [] captured=>match Ft.list f 4096 0 with
     |none=>tfail
     |some l=>bindT (newLT l ps as bd) fun id=>bindT (cf (.func k) (.yld id::captured)) fun _=>bindT (atLT id overG) fun x=>tpure (x,f)
    |_=>tfail
   else tfail) (if tp then match aevT f g with
    | .fn (.func k) [] captured=>match Ft.list f 4096 0 with
     |none=>tfail
     |some l=>tbind (newLT l ps as bd) fun id=>tbind (ct (.func k) (.yld id::captured)) fun _=>tbind (atLT id overG) fun x=>tpure (x,f)
    |_=>tfail
   else tfail)
   rw[opd_eq]
   cases tp with
   |false=>exact Le.fail
   |true =>
    simp only[if_true]
    split
    ·cases Ft.list f 4096 0 with
     |none=>exact Le.fail
     |some l=>exact Le.bind (Le.refl _) fun id=>Le.bind (hc _ _) fun _=>Le.bind (Le.refl _) fun x=>Le.refl _
    ·exact Le.fail
  |scope c=>exact compC_le hc n c f
  |label l=>exact Le.refl _
  |exit id=>exact Le.refl _
  |ret=>exact Le.refl _
  |_=>exact Le.fail
 termination_by n=>n
 decreasing_by all_goals omega
theorem compT_le {α:Type} {x y:MT α} (h:Le x y):Le (compT x) (mcompT y):=by
 intro t n r hr
 unfold compT at hr
 unfold mcompT
 cases hx:x t n with
 |none=>rw[hx]at hr;cases hr
 |some q =>
  obtain⟨a,t1,n1,rd1,wr1⟩:=q
  rw[hx]at hr
  rw[h _ _ _ hx]
  exact hr
theorem compF_le [Bk] (L:Nat) (hc:∀k args,Le (cf k args) (ct k args)) (k:FuncId) (args:List AV):Le ((compF P L k).f cf args) (acallBT P L ct k args):=by
 unfold compF acallBT
 cases P.funcs[k]? with
 |none=>exact Le.fail
 |some fn =>
  simp only
  have body:Le ((match fn.body with
    |none=>fun _ _=>tfail
    | some c => if fn.name == "runtime.NumGoroutine" then fun _ _ => tfail else fun call args =>
     compT (bindT ((compC P true c).f call L (Ft.of (args.length+fn.ntmps) (args++List.replicate (fn.ntmps-args.length) .undef))) fun q=>match q.1 with
      | .exit _=>tfail
      |_=>resT P fn q.2):CallT→List AV→MT AV) cf args) (match fn.body with
    |none=>tfail
    | some c => if fn.name == "runtime.NumGoroutine" then tfail else
     mcompT (tbind (acodeT P ct true L c (Ft.of (args.length+fn.ntmps) (args++List.replicate (fn.ntmps-args.length) .undef))) fun q=>match q.1 with
      | .exit _=>tfail
      |_=>resT P fn q.2)):=by
   cases fn.body with
   |none=>exact Le.fail
   |some c =>
    simp only
    split
    ·exact Le.fail
    ·refine compT_le (Le.bind (compC_le hc L c _) fun q=>?_)
     split
     ·exact Le.fail
     ·exact Le.refl _
  cases isClone fn with
  |none=>exact body
  |some t =>
   cases args with
   |nil=>exact body
   |cons x l =>
    cases l with
    |nil=>exact Le.refl _
    |cons y l=>exact body
theorem yieldF_le [Bk] (hc:∀k args,Le (cf k args) (ct k args)) (L id:Nat) (args:List AV):Le (yieldF P L cf id args) (ayieldT P L ct id args):=by
 unfold yieldF ayieldT
 refine Le.bind (Le.refl _) fun q=>?_
 split
 ·refine Le.bind (compC_le hc L _ _) fun r=>?_
  obtain⟨x,f⟩:=r
  cases x with
  |normal=>exact Le.bind (Le.refl _) fun _=>Le.bind (compC_le hc L _ _) fun s=>Le.refl _
  |_=>exact Le.fail
 ·exact Le.fail
theorem acallN_le [Bk] (L:Nat):∀d k args,Le (acallN P L d k args) (acallT P L d k args)
 |0,k,args=>Le.fail
 |d+1,.func k,args=>by
  have ih:=compF_le (P:=P) L (acallN_le L d) k args
  simp only[acallN,acallT]
  cases extA P k args with
  |some v=>exact Le.refl _
  |none =>
   simp only
   split
   ·exact Le.refl _
   ·exact ih
 |d+1,.yield id,args=>compT_le (yieldF_le (acallN_le L d) L id args)
 |d+1,.method _,args=>Le.fail
 |d+1,.methodOf _ _,args=>Le.fail
 |d+1,.via _ _ _ _,args=>Le.fail
theorem acallF_le [Bk] (L d:Nat) (k:FuncId) (args:List AV):Le (acallF P L d k args) (acallT P L d (.func k) args):=acallN_le L d (.func k) args
end
end Go.Proofs.Ytjccjmmbebiegaa.Mc
set_option linter.unusedVariables false
set_option linter.unusedSimpArgs false
namespace Go.Proofs.Ytjccjmmbebiegaa.Mc
open Go.RowKit
section
variable {P:Program}
theorem HRel.none [Bk] [Ev] {A:Nat→Prop} {w:World} (hA:∀b,A b→b<w.heap.size) (hg:GOk A w):HRel (fun _=>.no) A (fun _=>.no) w where
 out:=fun _ _ h=>by cases h
 old:=hA
 no:=fun _ _=>rfl
 dead:=fun _ h=>by cases h
 arrs:=fun _ _ _ _ h=>by simp[Blk.els]at h
 inj:=fun _ _ _ h=>by cases h
 glob:=hg
 others:=fun _ _ h hB=>by subst h;exact absurd hB (by simp[Blk.other])
 scs:=fun _=>trivial
theorem GOk.none [Bk] {A:Nat→Prop} {w:World} (h:Bk.glob=[]):GOk A w:=fun t ht=>absurd (h▸ht:t∈[]) List.not_mem_nil
theorem Ext.below [Bk] [Ev] {m m':Nat→St} {w w':World} (h:Ext m w m' w') (hm:∀id b,m id≠.at b):Below w.heap.size w w' :=
 ⟨h.os,h.tape,h.output,h.size,fun k hk=>(h.un k hk fun id=>hm id k).2⟩
theorem ACalls.plain [Bk] [Ev] {k:FuncId} {args:List AV} {R:AV→AH→Prop} (h:ACalls P k args (fun _=>.no) R) (vs:Array Value) (hl:vs.size=args.length) (w:World) (A:Nat→Prop) (hA:∀b,A b→b<w.heap.size) (hg:GOk A w) (hv:∀(i:Nat) (x:AV),args[i]?=some x→RdL A w x (vs.getD i Go.undef)) :
  Calls P k vs w fun e w'=>∃v u m' h',e=.returned v∧R u h'∧Rd m' A w' u v∧HRel m' A h' w'∧Below w.heap.size w w':=by
 refine(h (fun _=>.no) A w vs (HRel.none hA hg) hl fun i x hx=>.pure _ _ ((hv i x hx).mono (Nat.le_refl _) fun b _ hb=>⟨?_,rfl⟩)).mono ?_
 ·rintro(h|⟨id,h⟩)
  ·exact hb h
  ·cases h
 ·rintro e w' ⟨v,u,m',h',h1,h2,h3,h4,h5⟩
  exact⟨v,u,m',h',h1,h2,h4,h3,h5.below fun id b h=>by cases h⟩
theorem leaf_get:Tr.leaf.get=fun _=>Blk.no:=by funext j;exact @Tr.get_leaf bk0 ev0 j
theorem ev_vars:∀{l:List (Int×Int)} {xs:List Int},l.length=xs.length→(∀t∈l.zip xs,t.1.1≤t.2∧t.2≤t.1.2)→∀i,(l.getD i (0,0)).1≤xs.getD i 0∧xs.getD i 0≤(l.getD i (0,0)).2
 |[],[],_,_,i=>by simp
 |[],_::_,h,_,_=>by simp at h
 |_::_,[],h,_,_=>by simp at h
 |a::l,x::xs,h,hb,0=>hb (a,x) (by simp)
 |a::l,x::xs,h,hb,i+1=>by
  simp only[List.getD_cons_succ]
  exact ev_vars (by simpa using h) (fun t ht=>hb t (by rw[List.zip_cons_cons];exact List.mem_cons_of_mem _ ht)) i
inductive BndL:List (Int×Int)→List Int→Prop
 |nil:BndL [] []
 |cons {a b x:Int} {l:List (Int×Int)} {xs:List Int} (h1:a≤x) (h2:x≤b) (h:BndL l xs):BndL ((a,b)::l) (x::xs)
theorem BndL.len {l:List (Int×Int)} {xs:List Int} (h:BndL l xs):l.length=xs.length:=by induction h<;>simp_all
theorem BndL.all {l:List (Int×Int)} {xs:List Int} (h:BndL l xs):∀t∈l.zip xs,t.1.1≤t.2∧t.2≤t.1.2:=by
 induction h with
 |nil=>intro t ht;simp at ht
 |cons h1 h2 _ ih =>
  intro t ht
  rw[List.zip_cons_cons]at ht
  rcases List.mem_cons.1 ht with rfl|ht
  ·exact⟨h1,h2⟩
  ·exact ih t ht
inductive FctL (ρ:Nat→Int):List (Poly×Int×Int)→Prop
 |nil:FctL ρ []
 |cons {p:Poly} {a b:Int} {l:List (Poly×Int×Int)} (h1:a≤pev ρ p) (h2:pev ρ p≤b) (h:FctL ρ l):FctL ρ ((p,a,b)::l)
theorem FctL.all {ρ:Nat→Int} {l:List (Poly×Int×Int)} (h:FctL ρ l):∀t∈l,t.2.1≤pev ρ t.1∧pev ρ t.1≤t.2.2:=by
 induction h with
 |nil=>intro t ht;exact absurd ht List.not_mem_nil
 |cons h1 h2 _ ih =>
  intro t ht
  rcases List.mem_cons.1 ht with rfl|ht
  ·exact⟨h1,h2⟩
  ·exact ih t ht
inductive MaxL (ρ:Nat→Int):List (Nat×Poly×Poly×Poly)→Prop
 |nil:MaxL ρ []
 |cons {p q r:Poly} {l:List (Nat×Poly×Poly×Poly)} (h1:pev ρ r=max (pev ρ p) (pev ρ q)) (h:MaxL ρ l):MaxL ρ ((2,p,q,r)::l)
theorem MaxL.all {ρ:Nat→Int} {l:List (Nat×Poly×Poly×Poly)} (h:MaxL ρ l):∀t∈l,(t.1=0→pev ρ t.2.2.2=(pev ρ t.2.1).tdiv (pev ρ t.2.2.1))∧(t.1=1→pev ρ t.2.2.2=(pev ρ t.2.1).tmod (pev ρ t.2.2.1))∧(t.1=2→pev ρ t.2.2.2=max (pev ρ t.2.1) (pev ρ t.2.2.1)):=by
 induction h with
 |nil=>intro t ht;exact absurd ht List.not_mem_nil
 |cons h1 _ ih =>
  intro t ht
  rcases List.mem_cons.1 ht with rfl|ht
  ·refine⟨fun h=>?_,fun h=>?_,fun _=>h1⟩
   ·simp at h
   ·simp at h
  ·exact ih t ht
inductive DefL (ρ:Nat→Int):List (Nat×Poly×Poly×Poly)→Prop
 |nil:DefL ρ []
 |quo {p q r:Poly} {l:List (Nat×Poly×Poly×Poly)} (h1:pev ρ r=(pev ρ p).tdiv (pev ρ q)) (h:DefL ρ l):DefL ρ ((0,p,q,r)::l)
 |rem {p q r:Poly} {l:List (Nat×Poly×Poly×Poly)} (h1:pev ρ r=(pev ρ p).tmod (pev ρ q)) (h:DefL ρ l):DefL ρ ((1,p,q,r)::l)
 |great {p q r:Poly} {l:List (Nat×Poly×Poly×Poly)} (h1:pev ρ r=max (pev ρ p) (pev ρ q)) (h:DefL ρ l):DefL ρ ((2,p,q,r)::l)
theorem DefL.all {ρ:Nat→Int} {l:List (Nat×Poly×Poly×Poly)} (h:DefL ρ l):∀t∈l,(t.1=0→pev ρ t.2.2.2=(pev ρ t.2.1).tdiv (pev ρ t.2.2.1))∧(t.1=1→pev ρ t.2.2.2=(pev ρ t.2.1).tmod (pev ρ t.2.2.1))∧(t.1=2→pev ρ t.2.2.2=max (pev ρ t.2.1) (pev ρ t.2.2.1)):=by
 induction h with
 |nil=>intro t ht;exact absurd ht List.not_mem_nil
 |quo h1 _ ih =>
  intro t ht
  rcases List.mem_cons.1 ht with rfl|ht
  ·exact⟨fun _=>h1,fun h=>by simp at h,fun h=>by simp at h⟩
  ·exact ih t ht
 |rem h1 _ ih =>
  intro t ht
  rcases List.mem_cons.1 ht with rfl|ht
  ·exact⟨fun h=>by simp at h,fun _=>h1,fun h=>by simp at h⟩
  ·exact ih t ht
 |great h1 _ ih =>
  intro t ht
  rcases List.mem_cons.1 ht with rfl|ht
  ·exact⟨fun h=>by simp at h,fun h=>by simp at h,fun _=>h1⟩
  ·exact ih t ht
theorem ext_yes [Bk] [Ev] {k:FuncId} (hc:∀w,Calls P k #[] w fun e w'=>e=.returned (.bool true)∧Below w.heap.size w w') (h:AH):ACalls P k [] h (fun v h'=>v=.c (.bool true)∧h'=h):=by
 intro m A w vs H hl hv
 have e:vs=#[]:=by apply Array.eq_empty_of_size_eq_zero;simpa using hl
 subst e
 refine(hc w).mono ?_
 rintro e w' ⟨rfl,hb⟩
 exact⟨_,_,m,h,rfl,⟨rfl,rfl⟩,H.below hb,.pure _ _ (.c _),Ext.of_below H hb⟩
def ExtL [Bk] [Ev] (P:Program) (l:List (Nat×List Poly×List Poly)):Prop:=∀k ps rs,(k,ps,rs)∈l→∀args h,toPs args=some ps→ACalls P k args h (fun v h'=>v=tupOf (rs.map mkE)∧h'=h)
theorem ExtL.nil [Bk] [Ev]:ExtL P []:=fun k ps rs h=>absurd h List.not_mem_nil
theorem ExtL.cons [Bk] [Ev] {k:Nat} {ps rs:List Poly} {l:List (Nat×List Poly×List Poly)} (h:∀args h,toPs args=some ps→ACalls P k args h (fun v h'=>v=tupOf (rs.map mkE)∧h'=h)) (hl:ExtL P l):ExtL P ((k,ps,rs)::l):=by
 intro k' ps' rs' hm
 rcases List.mem_cons.1 hm with e|hm
 ·cases e;exact h
 ·exact hl _ _ _ hm
def YesL [Bk] [Ev] (P:Program) (l:List Nat):Prop:=∀k,k∈l→∀h,ACalls P k [] h (fun v h'=>v=.c (.bool true)∧h'=h)
theorem YesL.nil [Bk] [Ev]:YesL P []:=fun k h=>absurd h List.not_mem_nil
theorem YesL.cons [Bk] [Ev] {k:Nat} {l:List Nat} (hc:∀w,Calls P k #[] w fun e w'=>e=.returned (.bool true)∧Below w.heap.size w w') (hl:YesL P l):YesL P (k::l):=by
 intro k' hm h
 rcases List.mem_cons.1 hm with e|hm
 ·cases e;exact ext_yes hc h
 ·exact hl _ hm h
def KnL [Bk] [Ev] (P:Program) (l:List (Nat×List AV×AV)):Prop:=∀k as r,(k,as,r)∈l→KnOk P k as r
theorem KnL.nil [Bk] [Ev]:KnL P []:=fun k as r h=>absurd h List.not_mem_nil
theorem KnL.cons [Bk] [Ev] {k:Nat} {as:List AV} {r:AV} {l:List (Nat×List AV×AV)} (h:KnOk P k as r) (hl:KnL P l):KnL P ((k,as,r)::l):=by
 intro k' as' r' hm
 rcases List.mem_cons.1 hm with e|hm
 ·cases e;exact h
 ·exact hl _ _ _ hm
theorem RdL.cast (b1:Bk) (e1:@Ev b1) (b2:Bk) (e2:@Ev b2) (hxs:@Ev.xs b1 e1=@Ev.xs b2 e2) (hvs:@Ev.vals b1 e1=@Ev.vals b2 e2) (hss:@Ev.seqs b1 e1=@Ev.seqs b2 e2) {A:Nat→Prop} {w:World} {x:AV} {v:Value} (h:@RdL b1 e1 A w x v):@RdL b2 e2 A w x v:=by
 have hρ:@Ev.rho b1 e1=@Ev.rho b2 e2:=by funext i;unfold Ev.rho;rw[hxs]
 induction h with
 |c v=>exact .c v
 |undef=>exact .undef
 |emp a=>exact .emp a
 |agg cs vs hl h1 _ ih=>exact .agg cs vs hl h1 ih
 |tup cs vs hl _ ih=>exact .tup cs vs hl ih
 |lit sz els b off cap vs hm hb hc hsz h1 hv _ ih=>exact .lit sz els b off cap vs hm hb hc hsz h1 hv ih
 |lit0 sz a cap hm=>exact .lit0 sz a cap hm
 |lptr sz els i0 j0 b off vs hm hb hsz h1 hv _ ih=>exact .lptr sz els i0 j0 b off vs hm hb hsz h1 hv ih
 |fn f xs ys vs us hl hk _ _ ih1 ih2=>exact .fn f xs ys vs us hl hk ih1 ih2
 |ifc t x v _ ih=>exact .ifc t x v ih
 |e p=>rw[hρ];exact .e p
 |row n xs b off len cap hn hc hm hb hv=>exact .row n xs b off len cap (by rw[←hρ];exact hn) hc hm hb (by rw[←hρ];exact hv)
 |row0 n xs a cap hn=>exact .row0 n xs a cap (by rw[←hρ];exact hn)
 |o i =>
  have e:@Ev.val b1 e1 i=@Ev.val b2 e2 i:=by unfold Ev.val;rw[hvs]
  rw[e];exact .o i
 |any v h1=>exact .any v h1
 |seq sz base ups tail v hin h1 _ ih =>
  refine .seq sz base ups tail v (by intro q hq;have:=hin q hq;unfold InB at *;rw[←hρ];unfold Ev.seq at *;rw[←hss];exact this) h1 ?_
  have:@rowsOf b1 e1 base ups tail=@rowsOf b2 e2 base ups tail:=by unfold rowsOf Ev.seq;rw[hρ,hss]
  rw[←this];exact ih
 |sptr sz base ups tail p off v hin h1 hp _ ih =>
  refine .sptr sz base ups tail p off v (by intro q hq;have:=hin q hq;unfold InB at *;rw[←hρ];unfold Ev.seq at *;rw[←hss];exact this) h1 (by rw[←hρ];exact hp) ?_
  have:@rowsOf b1 e1 base ups tail=@rowsOf b2 e2 base ups tail:=by unfold rowsOf Ev.seq;rw[hρ,hss]
  rw[←this,←hρ];exact ih
 |junk v=>exact .junk v
theorem eqL_get {r:AV→AV→Bool}:∀{a b:List AV},eqL r a b=true→a.length=b.length∧∀(i:Nat) (y:AV),b[i]?=some y→∃x,a[i]?=some x∧r x y=true
 |[],[],_=>⟨rfl,fun i y h=>by simp at h⟩
 |[],_::_,h=>by cases h
 |_::_,[],h=>by cases h
 |x::l,y::m,h=>by
  unfold eqL at h
  rw[Bool.and_eq_true]at h
  obtain⟨h1,h2⟩:=eqL_get h.2
  refine⟨by simp[h1],?_⟩
  intro i z hz
  cases i with
  |zero=>cases hz;exact⟨x,rfl,h.1⟩
  |succ i=>exact h2 i z (by simpa using hz)
theorem eqLL_get {r:AV→AV→Bool}:∀{a b:List (List AV)},eqLL r a b=true→a.length=b.length∧∀(i:Nat) (y:List AV),b[i]?=some y→∃x,a[i]?=some x∧eqL r x y=true
 |[],[],_=>⟨rfl,fun i y h=>by simp at h⟩
 |[],_::_,h=>by cases h
 |_::_,[],h=>by cases h
 |x::l,y::m,h=>by
  unfold eqLL at h
  rw[Bool.and_eq_true]at h
  obtain⟨h1,h2⟩:=eqLL_get h.2
  refine⟨by simp[h1],?_⟩
  intro i z hz
  cases i with
  |zero=>cases hz;exact⟨x,rfl,h.1⟩
  |succ i=>exact h2 i z (by simpa using hz)
def isAny:AV→Bool
 | .any=>true
 |_=>false
def avLe [Bk]:Nat→AV→AV→Bool
 |0,_,_=>false
 |k+1,x,y=>bif isAny y then x.one else match x with
  | .c v=>match y with
   | .c u=>vEq v u
   | .e p=>match v with
    | .int .i64 n=>eqB (psub p (plit n))==some true
    |_=>false
   |_=>false
  | .e q=>match y with
   | .e p=>decide (p=q)||eqB (psub p q)==some true
   | .c (.int .i64 n)=>eqB (psub q (plit n))==some true
   |_=>false
  | .undef=>match y with | .undef=>true|_=>false
  | .emp=>match y with | .emp=>true | .lit _ []=>true|_=>false
  | .agg a=>match y with | .agg b=>eqL (avLe k) a b|_=>false
  | .tup a=>match y with | .tup b=>eqL (avLe k) a b|_=>false
  | .lit s a=>match y with | .lit s' b=>decide (s=s')&&eqLL (avLe k) a b|_=>false
  | .row n a=>match y with | .row n' b=>decide (n=n')&&decide (a=b)|_=>false
  | .o i=>match y with | .o j=>decide (i=j)|_=>false
  | .seq s b u t=>avEq 16 (.seq s b u t) y
  |_=>false
theorem isAny_ok {y:AV} (h:isAny y=true):y=.any:=by unfold isAny at h;split at h<;>first|rfl|cases h
theorem avLe_one [Bk] {k:Nat} {x y:AV} (h:avLe k x y=true) (h1:x.one=true):y.one=true:=by
 cases k with
 |zero=>cases h
 |succ k =>
  unfold avLe at h
  cases hy:isAny y with
  |true=>rw[isAny_ok hy];rfl
  |false =>
  rw[hy]at h
  simp only[cond_false]at h
  split at h
  ·split at h
   ·rw[←vEq_ok h];exact h1
   ·rfl
   ·cases h
  ·split at h
   ·rfl
   ·rfl
   ·cases h
  ·simp[AV.one]at h1
  ·split at h
   ·rfl
   ·rfl
   ·cases h
  ·simp[AV.one]at h1
  ·simp[AV.one]at h1
  ·split at h
   ·rfl
   ·cases h
  ·split at h
   ·rfl
   ·cases h
  ·split at h
   ·rfl
   ·cases h
  ·rw[←avEq_ok h];rfl
  ·cases h
theorem avLe_ok [Bk] [Ev] {A:Nat→Prop} {w:World}:∀{k:Nat} {x y:AV} {v:Value},avLe k x y=true→RdL A w x v→RdL A w y v
 |0,x,y,v,h,_=>by cases h
 |k+1,x,y,v,h,hr=>by
  have ih:∀{x y:AV} {v:Value},avLe k x y=true→RdL A w x v→RdL A w y v:=avLe_ok
  have pe:∀{p q:Poly},(eqB (psub p q)==some true)=true→pev Ev.rho p=pev Ev.rho q:=by
   intro p q hpq
   have:=eqB_ok (eq_of_beq hpq)
   rw[pev_psub]at this
   have:=of_decide_eq_true this.symm
   omega
  unfold avLe at h
  cases hy:isAny y with
  |true =>
   rw[hy]at h
   rw[isAny_ok hy]
   exact .any v (hr.one h)
  |false =>
  rw[hy]at h
  simp only[cond_false]at h
  split at h
  ·rename_i u
   split at h
   ·rw[←vEq_ok h];exact hr
   ·rename_i p
    split at h
    ·rename_i n
     cases hr
     have:=pe h
     rw[pev_plit]at this
     rw[←this];exact .e p
    ·cases h
   ·cases h
  ·rename_i q
   split at h
   ·rename_i p
    cases hr
    rw[Bool.or_eq_true]at h
    rcases h with h|h
    ·rw[←of_decide_eq_true h];exact .e p
    ·rw[←pe h];exact .e p
   ·rename_i n
    cases hr
    have:=pe h
    rw[pev_plit]at this
    rw[this];exact .c _
   ·cases h
  ·split at h
   ·exact hr
   ·cases h
  ·split at h
   ·exact hr
   ·cases hr;exact .lit0 _ _ 0 (Nat.zero_le _)
   ·cases h
  ·split at h
   ·obtain⟨h1,h2⟩:=eqL_get h
    cases hr with
    |agg _ vs hl h3 h4 =>
     refine .agg _ vs (by rw[hl,h1]) ?_ ?_
     ·intro i y hy
      obtain⟨x,g1,g2⟩:=h2 i y hy
      exact avLe_one g2 (h3 i x g1)
     ·intro i y hy
      obtain⟨x,g1,g2⟩:=h2 i y hy
      exact ih g2 (h4 i x g1)
   ·cases h
  ·split at h
   ·obtain⟨h1,h2⟩:=eqL_get h
    cases hr with
    |tup _ vs hl h4 =>
     refine .tup _ vs (by rw[hl,h1]) ?_
     intro i y hy
     obtain⟨x,g1,g2⟩:=h2 i y hy
     exact ih g2 (h4 i x g1)
   ·cases h
  ·rename_i s a
   split at h
   ·rename_i s' b
    rw[Bool.and_eq_true,decide_eq_true_eq]at h
    obtain⟨rfl,h⟩:=h
    obtain⟨h1,h2⟩:=eqLL_get h
    have find:∀(i j:Nat) (y:AV),at2 b i j=some y→∃x,at2 a i j=some x∧avLe k x y=true:=by
     intro i j y hy
     unfold at2 at hy
     cases hb:b[i]? with
     |none=>rw[hb]at hy;cases hy
     |some e =>
      rw[hb]at hy
      obtain⟨e',g1,g2⟩:=h2 i e hb
      obtain⟨-,l2⟩:=eqL_get g2
      obtain⟨x,q1,q2⟩:=l2 j y hy
      exact⟨x,by unfold at2;rw[g1];exact q1,q2⟩
    cases hr with
    |lit _ _ bb off cap vs hA hb hc hsz h3 hv h4 =>
     rw[h1]
     refine .lit s b bb off cap vs hA hb (by rw[←h1];exact hc) ?_ ?_ ?_ ?_
     ·intro e he
      obtain⟨i,hi⟩:=List.mem_iff_getElem?.1 he
      obtain⟨e',g1,g2⟩:=h2 i e hi
      rw[←(eqL_get g2).1]
      exact hsz e' (List.mem_of_getElem? g1)
     ·intro i j y hy
      obtain⟨x,g1,g2⟩:=find i j y hy
      exact avLe_one g2 (h3 i j x g1)
     ·intro i j y hy
      obtain⟨x,g1,g2⟩:=find i j y hy
      exact hv i j x g1
     ·intro i j y hy
      obtain⟨x,g1,g2⟩:=find i j y hy
      exact ih g2 (h4 i j x g1)
    |lit0 _ a0 cap hm =>
     have e:b=[]:=List.length_eq_zero_iff.1 h1.symm
     subst e
     exact .lit0 _ a0 cap hm
   ·cases h
  ·split at h
   ·rw[Bool.and_eq_true,decide_eq_true_eq,decide_eq_true_eq]at h
    obtain⟨rfl,rfl⟩:=h
    exact hr
   ·cases h
  ·split at h
   ·rw[decide_eq_true_eq]at h;subst h;exact hr
   ·cases h
  ·rw[←avEq_ok h];exact hr
  ·cases h
def runsTo [Bk] (P:Program) (L d:Nat) (k:FuncId) (as:List AV) (r:AV):Bool :=
 match acallF P L d k as .leaf 0 with
 |some q=>(match frz q.t.get 16 q.a with
  |some p=>avLe 16 p.1 r
  |none=>false)
 |none=>false
theorem kn_of (b:Bk) (ev:@Ev b) (b2:Bk) (ev2:@Ev b2) (hxs:@Ev.xs b ev=@Ev.xs b2 ev2) {L d:Nat} {k:FuncId} {as:List AV} {r:AV} (h:@runsTo b P L d k as r=true) (hx:@ExtL b ev P b.ext) (hy:@YesL b ev P b.yes) (hk:@KnL b ev P b.extV) (hgl:b.glob=b2.glob:=by rfl) (hvs:@Ev.vals b ev=@Ev.vals b2 ev2:=by rfl) (hss:@Ev.seqs b ev=@Ev.seqs b2 ev2:=by rfl):@KnOk b2 ev2 P k as r:=by
 intro A w vs hA hG hl hv
 unfold runsTo at h
 split at h
 ·rename_i q hq
  split at h
  ·rename_i p hp
   obtain⟨p1,js⟩:=p
   have hc:=@acallT_ok P b ev ⟨hx,hy,hk⟩ L d k as .leaf 0 q (@acallF_le P b L d k as _ _ _ hq)
   rw[leaf_get]at hc
   have hG1:@GOk b A w:=fun t ht=>hG t (show t∈b2.glob from hgl▸ht)
   have H0:@HRel b ev (fun _=>.no) A (fun _=>.no) w:=@HRel.none b ev A w hA hG1
   refine(hc (fun _=>.no) A w vs H0 hl fun i x hi=>@Rd.pure b ev (fun _=>.no) A w x _ ?_).mono ?_
   ·have:=RdL.cast b2 ev2 b ev hxs.symm hvs.symm hss.symm (hv i x hi)
    refine @RdL.mono b ev _ _ _ _ (Nat.le_refl _) (fun c _ hc=>⟨?_,rfl⟩) _ _ this
    rintro(h|⟨id,h⟩)
    ·exact hc h
    ·cases h
   ·rintro e w' ⟨v,u,m',h',rfl,⟨rfl,rfl⟩,H',hr,hE⟩
    have h1:=@frz_ok b ev m' A q.t.get w' H' js 16 q.a p1 js v hp (fun id h=>h) hr
    have h2:=RdL.cast b ev b2 ev2 hxs hvs hss (@avLe_ok b ev _ _ 16 p1 r v h h1)
    refine⟨v,rfl,@RdL.mono b2 ev2 _ _ _ _ (Nat.le_refl _) (fun c _ hc=>⟨fun h=>hc (.inl h),rfl⟩) _ _ h2,?_⟩
    exact @Ext.below b ev _ _ _ _ hE fun id b h=>by cases h
  ·cases h
 ·cases h
def ArgL [Bk] [Ev] (w:World) (args:List AV) (vs:List Value):Prop:=∀(i:Nat) (x:AV),args[i]?=some x→RdL (fun _=>False) w x (vs.getD i Go.undef)
theorem ArgL.nil [Bk] [Ev] {w:World}:ArgL w [] []:=fun i x h=>by simp at h
theorem ArgL.cons [Bk] [Ev] {w:World} {x:AV} {args:List AV} {v:Value} {vs:List Value} (h:RdL (fun _=>False) w x v) (hl:ArgL w args vs):ArgL w (x::args) (v::vs):=by
 intro i y hy
 cases i with
 |zero=>cases hy;exact h
 |succ i=>exact hl i y hy
theorem RdL.var [Bk] [Ev] {A:Nat→Prop} {w:World} {i:Nat} {v:Int} (h:pev Ev.rho (pvar i)=v):RdL A w (.e (pvar i)) (.int .i64 v):=h▸.e _
end
end Go.Proofs.Ytjccjmmbebiegaa.Mc
