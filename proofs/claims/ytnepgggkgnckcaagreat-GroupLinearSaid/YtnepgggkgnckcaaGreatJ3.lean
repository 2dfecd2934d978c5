/-
 Texts joined and made small by wip/small.sh.
-/
import Derived.Test.YtnepgggkgnckcaaGreatJ2
set_option linter.unusedVariables false
set_option linter.unusedSimpArgs false
namespace Go.Proofs.YtnepgggkgnckcaaGreat
open Go.RowKit
namespace Mc
def agc [Bk] (P:Program) (x:Operand) (ρ:Operand→AV) (h:AH) (nx:Nat):Option AR :=
 some ⟨ρ x,[],[]⟩
def abm [Bk] (P:Program) (x:Operand) (ρ:Operand→AV) (h:AH) (nx:Nat):Option AR :=
 some ⟨ρ x,[],[]⟩
def XG [Bk] (P:Program) (c:Operand) (x:Operand) (y:Operand) (ρ:Operand→AV) (h:AH) (nx:Nat):Option AR :=
 match ρ c with
  | .c (.bool b)=>some ⟨bif b then ρ x else ρ y,[],[]⟩
  |_=>none
def PF [Bk] (P:Program) (e:TypeId) (ρ:Operand→AV) (h:AH) (nx:Nat):Option AR :=
 match P.info? e with
  |some i=>match i.zero with
   |some z=>match gG (G8 z)with
    |some cs=>if jY h nx then some ⟨.ptr cs.length nx 0 0,[(nx,.cells e cs.length [cs])],[nx]⟩else none
    |none=>none
   |none=>none
  |none=>none
def aem [Bk] (P:Program) (e:TypeId) (x:Operand) (ρ:Operand→AV) (h:AH) (nx:Nat):Option AR :=
 match gG (ρ x)with
  |some cs=>if jY h nx then some ⟨.ptr cs.length nx 0 0,[(nx,.cells e cs.length [cs])],[nx]⟩else none
  |none=>none
def PA [Bk] (P:Program) (t:TypeId) (parts:Array (Nat×Operand)) (ρ:Operand→AV) (h:AH) (nx:Nat):Option AR :=
 match Gr P t (parts.toList.map fun p=>(p.1,ρ p.2))with
  |some cs=>some ⟨.agg cs,[],[]⟩
  |none=>none
def Ac [Bk] (P:Program) (t:TypeId) (len:Nat) (parts:Array (Nat×Operand)) (ρ:Operand→AV) (h:AH) (nx:Nat):Option AR :=
 match P.underlying t with
  |some (.slice e)=>match P.info? e with
   |some i=>match i.zero with
    |some z=>match gG (G8 z)with
     |some zc=>if zc.length=i.size∧0<i.size∧0<len∧len*i.size≤16777216∧jY h nx=true then
       match wW (fun k=>some (k*i.size,i.size)) ((List.replicate len zc).flatten) (parts.toList.map fun p=>(p.1,ρ p.2))with
       |some cs=>some ⟨.own e i.size nx 0 len,[(nx,.cells e i.size (chunk i.size len cs))],[nx]⟩
       |none=>none
      else none
     |none=>none
    |none=>none
   |none=>none
  |_=>none
def XI [Bk] (P:Program) (t:TypeId) (x:Operand) (ρ:Operand→AV) (h:AH) (nx:Nat):Option AR :=
 match ρ x with
  | .ptr sz id i off=>match h id with
   | .cells _ s aN=>if s=sz then match aN[i]? with
     |some e=>match kQ P t e off with
      |some v=>some ⟨v,[],[id]⟩
      |none=>none
     |none=>none
    else none
   |_=>none
  | .gT _ aN i off=>match aN[i]? with
   |some e=>match kQ P t e off with
    |some v=>some ⟨v,[],[]⟩
    |none=>none
   |none=>none
  |_=>none
def Pv [Bk] (P:Program) (t:TypeId) (x:Operand) (y:Operand) (ρ:Operand→AV) (h:AH) (nx:Nat):Option AR :=
 match ρ x with
  | .ptr sz id i off=>match h id with
   | .cells T s aN=>if s=sz then match aN[i]?,gG (ρ y)with
     |some e,some xs=>if dO P t=some xs.length∧off+xs.length≤sz then some ⟨.undef,[(id,.cells T sz (aN.set i (iO e off xs)))],[id]⟩else none
     |_,_=>none
    else none
   |_=>none
  |_=>none
def DR [Bk] (P:Program) (x:Operand) (ρ:Operand→AV) (h:AH) (nx:Nat):Option AR :=
 match ρ x with
  | .ptr sz id i off=>match h id with
   | .cells _ _ aN=>if(aN[i]?).isSome then some ⟨.ptr sz id i off,[],[id]⟩else none
   |_=>none
  | .gT sz aN i off=>some ⟨.gT sz aN i off,[],[]⟩
  | .fn (.func k) xs ys=>some ⟨.fn (.func k) xs ys,[],[]⟩
  |_=>none
def PB [Bk] (P:Program) (op:BinOp) (t:TypeId) (x:Operand) (y:Operand) (ρ:Operand→AV) (h:AH) (nx:Nat):Option AR :=
 match afZ P op t (FV x) (FV y) (ρ x) (ρ y)with
  |some r=>some ⟨r,[],[]⟩
  |none=>none
def XF [Bk] (P:Program) (op:UnOp) (x:Operand) (ρ:Operand→AV) (h:AH) (nx:Nat):Option AR :=
 match ρ x with
  | .c u=>match unV op u with
   |some r=>some ⟨.c r,[],[]⟩
   |none=>none
  | .e p=>match op with
   | .neg=>if kE (pA (-1) p)then some ⟨AN (pA (-1) p),[],[]⟩else none
   |_=>none
  |_=>none
def GG [Bk] (P:Program) (s:TypeId) (d:TypeId) (x:Operand) (ρ:Operand→AV) (h:AH) (nx:Nat):Option AR :=
 match ρ x with
  | .c (.int _ n)=>match P.underlying s,P.underlying d with
   |some _,some (.int k)=>some ⟨.c (.int k (k.wrap n)),[],[]⟩
   |_,_=>none
  | .c (.string b)=>match P.underlying s,P.underlying d with
   |some _,some .string=>some ⟨.c (.string b),[],[]⟩
   |_,_=>none
  | .e p=>match P.underlying s,P.underlying d with
   |some _,some (.int .i64)=>if kE p then some ⟨.e p,[],[]⟩else none
   |_,_=>none
  |_=>none
def vA [Bk] (P:Program) (t:TypeId) (x:Operand) (ρ:Operand→AV) (h:AH) (nx:Nat):Option AR :=
 if P.concrete t then some ⟨.pJ t (ρ x),[],[]⟩else none
def DS [Bk] (P:Program) (fn:Fn) (first:Array Operand) (captured:Array Operand) (ρ:Operand→AV) (h:AH) (nx:Nat):Option AR :=
 some ⟨.fn fn (first.toList.map ρ) (captured.toList.map ρ),[],[]⟩
def B6 [Bk] (P:Program) (t:TypeId) (x:Operand) (y:Operand) (ρ:Operand→AV) (h:AH) (nx:Nat):Option AR :=
 match ρ x,ρ y with
  | .c (.int _ l),.c (.int _ c)=>match P.underlying t with
   |some (.slice e)=>match P.info? e with
    |some i=>match i.zero with
     |some z=>match gG (G8 z)with
      |some zc=>if zc.length=i.size∧0≤l∧l≤c∧(i.bytes:Int)*c≤281474976710656∧c≤1099511627776∧jY h nx=true then
        some ⟨.own e i.size nx 0 l.toNat,[(nx,.cells e i.size (List.replicate l.toNat zc))],[nx]⟩else none
      |none=>none
     |none=>none
    |none=>none
   |_=>none
  |_,_=>none
def Pw [Bk] (P:Program) (t:TypeId) (x:Operand) (lo:Option Operand) (hi:Option Operand) (mx:Option Operand) (ρ:Operand→AV) (h:AH) (nx:Nat):Option AR :=
 match mx with
  |some m=>match lo,hi with
   |none,some hi=>match ρ hi,ρ m with
    | .c (.int _ a),.c (.int _ b)=>match gN h (ρ x)with
     |some _=>if a=0∧b=0∧iY P t=true∧(P.info? (P.elem t)).isSome=true then some ⟨.emp,[],pC (ρ x)⟩else none
     |none=>none
    |_,_=>none
   |some lo,some hi=>match ρ x with
    | .own T sz id i n=>match h id with
     | .cells T' s aN=>match fN ρ 0 (some lo),fN ρ n (some hi),fN ρ n (some m)with
      |some l,some u,some v=>if T'=T∧s=sz∧aN≠[]∧l≤u∧u≤v∧v≤n∧l<v∧iY P t=true∧dO P (P.elem t)=some sz then some ⟨.view T sz id (i+l) (u-l),[],[id]⟩else
        if T'=T∧s=sz∧aN≠[]∧l=u∧u=v∧v≤n∧iY P t=true∧dO P (P.elem t)=some sz then some ⟨.emp,[],[id]⟩else none
      |_,_,_=>none
     |_=>none
    | .lit sz aN=>match fN ρ 0 (some lo),fN ρ 0 (some hi),fN ρ 0 (some m)with
     |some l,some u,some v=>if aN≠[]∧l≤u∧u≤v∧v≤aN.length∧iY P t=true∧dO P (P.elem t)=some sz then some ⟨.lit sz ((aN.drop l).take (u-l)),[],[]⟩else none
     |_,_,_=>none
    |_=>none
   |_,_=>none
  |none=>match ρ x with
   | .lit sz aN=>match fN ρ 0 lo,fN ρ aN.length hi with
    |some l,some u=>if l≤u∧u≤aN.length∧iY P t=true∧dO P (P.elem t)=some sz then some ⟨.lit sz ((aN.drop l).take (u-l)),[],[]⟩else none
    |_,_=>none
   | .own T sz id i n=>match h id with
    | .cells T' s aN=>match fN ρ 0 lo,fN ρ n hi with
     |some l,some u=>if T'=T∧s=sz∧aN≠[]∧l≤u∧u≤n∧(l=0∨l<n)∧iY P t=true∧dO P (P.elem t)=some sz then some ⟨.own T sz id (i+l) (u-l),[],[id]⟩else none
     |_,_=>none
    |_=>none
   | .c (.string s)=>match P.underlying t with
    |some .string=>match fN ρ 0 lo,fN ρ s.size hi with
     |some l,some u=>if l≤u∧u≤s.size then some ⟨.c (.string (s.extract l u)),[],[]⟩else none
     |_,_=>none
    |_=>none
   |_=>none
def B8 [Bk] (P:Program) (t:TypeId) (x:Operand) (k:Nat) (ρ:Operand→AV) (h:AH) (nx:Nat):Option AR :=
 match lU P t k with
  |some (_,o',n)=>if n≠0 then match ρ x with
    | .ptr sz id i off=>match h id with
     | .cells _ s aN=>if s=sz∧(aN[i]?).isSome=true then some ⟨.ptr sz id i (off+o'),[],[id]⟩else none
     |_=>none
    | .gT sz aN i off=>some ⟨.gT sz aN i (off+o'),[],[]⟩
    |_=>none
   else none
  |none=>none
def Pz [Bk] (P:Program) (t:TypeId) (x:Operand) (k:Nat) (ρ:Operand→AV) (h:AH) (nx:Nat):Option AR :=
 match lU P t k with
  |some (ty,o',_)=>match ρ x with
   | .agg cs=>match kQ P ty cs o' with
    |some v=>some ⟨v,[],[]⟩
    |none=>none
   |_=>none
  |none=>none
def B7 [Bk] (P:Program) (t:TypeId) (x:Operand) (ix:Operand) (ρ:Operand→AV) (h:AH) (nx:Nat):Option AR :=
 match ρ ix with
  | .c (.int _ n)=>match P.underlying t with
   |some (.slice e)=>match ρ x with
    | .lit sz aN=>if dO P e=some sz∧0≤n∧n.toNat<aN.length then some ⟨.gT sz aN n.toNat 0,[],[]⟩else none
    | .own T sz id i n'=>match h id with
     | .cells T' s aN=>if T'=T∧s=sz∧dO P e=some sz∧0≤n∧n.toNat<n'∧(aN[i+n.toNat]?).isSome=true then some ⟨.ptr sz id (i+n.toNat) 0,[],[id]⟩else none
     |_=>none
    | .view T sz id i n'=>match h id with
     | .cells T' s aN=>if T'=T∧s=sz∧dO P e=some sz∧0≤n∧n.toNat<n'∧(aN[i+n.toNat]?).isSome=true then some ⟨.ptr sz id (i+n.toNat) 0,[],[id]⟩else none
     |_=>none
    | .row N xs=>match xs[n.toNat]? with
     |some p=>if dO P e=some 1∧0≤n∧Oe (pM (xJ n) N)=some true then some ⟨.gT 1 [[AN p]] 0 0,[],[]⟩else none
     |none=>none
    |_=>none
   |some (.array len e)=>match dO P e with
    |some s=>if 0≤n∧n.toNat<len then match ρ x with
      | .ptr sz id i off=>match h id with
       | .cells _ s' aN=>if s'=sz∧(aN[i]?).isSome=true then some ⟨.ptr sz id i (off+n.toNat*s),[],[id]⟩else none
       |_=>none
      | .gT sz aN i off=>some ⟨.gT sz aN i (off+n.toNat*s),[],[]⟩
      |_=>none
     else none
    |none=>none
   |_=>none
  |_=>none
def Py [Bk] (P:Program) (t:TypeId) (x:Operand) (ix:Operand) (ρ:Operand→AV) (h:AH) (nx:Nat):Option AR :=
 match ρ ix with
  | .c (.int _ n)=>match P.underlying t with
   |some (.array len e)=>match dO P e with
    |some s=>match ρ x with
     | .agg cs=>if 0≤n∧n.toNat<len then match kQ P e cs (n.toNat*s)with
       |some v=>some ⟨v,[],[]⟩
       |none=>none
      else none
     |_=>none
    |none=>none
   |some .string=>match ρ x with
    | .c (.string s)=>match s[n.toNat]? with
     |some b=>if 0≤n then some ⟨.c (.int .u8 b.toNat),[],[]⟩else none
     |none=>none
    |_=>none
   |_=>none
  |_=>none
def GD [Bk] (P:Program) (x:Operand) (k:Nat) (ρ:Operand→AV) (h:AH) (nx:Nat):Option AR :=
 match ρ x with
  | .aZ vs=>match vs[k]? with
   |some v=>some ⟨v,[],[]⟩
   |none=>none
  |_=>none
def Ab [Bk] (P:Program) (x:Operand) (asserted:TypeId) (ok:Bool) (ρ:Operand→AV) (h:AH) (nx:Nat):Option AR:=none
def Px [Bk] (P:Program) (t:TypeId) (x:Operand) (ρ:Operand→AV) (h:AH) (nx:Nat):Option AR:=none
def XH [Bk] (P:Program) (x:Operand) (str:Bool) (ρ:Operand→AV) (h:AH) (nx:Nat):Option AR:=none
def GB [Bk] (P:Program) (rs:Option Operand) (ρ:Operand→AV) (h:AH) (nx:Nat):Option AR:=none
def IJ [Bk] (P:Program) (t:TypeId) (x:Operand) (k:Operand) (y:Operand) (ρ:Operand→AV) (h:AH) (nx:Nat):Option AR:=none
def II [Bk] (P:Program) (t:TypeId) (x:Operand) (k:Operand) (ok:Bool) (ρ:Operand→AV) (h:AH) (nx:Nat):Option AR:=none
def PE [Bk] (P:Program) (args:Array Operand) (argTypes:Array TypeId) (ρ:Operand→AV) (h:AH) (nx:Nat):Option AR :=
 match args.toList,argTypes.toList with
   |[x],[t]=>match P.underlying t with
    |some (.slice _)=>match gN h (ρ x)with
     |some aN=>some ⟨.c (.int .i64 aN.length),[],pC (ρ x)⟩
     |none=>match ρ x with
      | .row n _=>some ⟨AN n,[],[]⟩
      | .view _ _ _ _ n=>some ⟨.c (.int .i64 n),[],[]⟩
      |_=>none
    |some .string=>match ρ x with
     | .c (.string s)=>some ⟨.c (.int .i64 s.size),[],[]⟩
     |_=>none
    |_=>none
   |_,_=>none
def DT [Bk] (P:Program) (args:Array Operand) (argTypes:Array TypeId) (ρ:Operand→AV) (h:AH) (nx:Nat):Option AR :=
 match args.toList,argTypes.toList with
   |[x,y],[t,t']=>if t'=t then tV P t (ρ x) (ρ y) h nx else none
   |_,_=>none
def PD [Bk] (P:Program) (args:Array Operand) (argTypes:Array TypeId) (ρ:Operand→AV) (h:AH) (nx:Nat):Option AR :=
 match args.toList with
   |[x,y]=>match ρ x,ρ y with
    | .c (.int k p),.c (.int _ q)=>some ⟨.c (.int k (if q > p then q else p)),[],[]⟩
    |u,v=>match toP u,toP v with
     |some p,some q=>match ES p q with
      |some r=>some ⟨AN r,[],[]⟩
      |none=>none
     |_,_=>none
   |[x,y,z]=>match ρ x,ρ y,ρ z with
    | .c (.int k p),.c (.int _ q),.c (.int _ r)=>some ⟨.c (.int k (if r > (if q > p then q else p)then r else(if q > p then q else p))),[],[]⟩
    |_,_,_=>none
   |_=>none
def PC [Bk] (P:Program) (args:Array Operand) (argTypes:Array TypeId) (ρ:Operand→AV) (h:AH) (nx:Nat):Option AR :=
 match args.toList with
   |[x,y]=>match ρ x,ρ y with
    | .c (.int k p),.c (.int _ q)=>some ⟨.c (.int k (if q<p then q else p)),[],[]⟩
    |u,v=>match toP u,toP v with
     |some p,some q=>match ER p q with
      |some r=>some ⟨AN r,[],[]⟩
      |none=>none
     |_,_=>none
   |_=>none
def GH [Bk] (P:Program) (args:Array Operand) (argTypes:Array TypeId) (ρ:Operand→AV) (h:AH) (nx:Nat):Option AR :=
 match args.toList,argTypes.toList with
   |[x],[t]=>match P.underlying t with
    |some (.slice e)=>match gN h (ρ x)with
     |some els0=>if els0.length=0 then some ⟨.aZ [],[],pC (ρ x)⟩else
      match P.info? e with
      |some i=>match i.zero with
       |some z=>match gG (G8 z)with
        |some zc=>match ρ x with
         | .own T sz id a n=>match h id with
          | .cells T' s aN=>if T'=T∧s=sz∧zc.length=sz∧0<n∧a+n≤aN.length then some ⟨.aZ [],[(id,.cells T sz (iO aN a (List.replicate n zc)))],[id]⟩else none
          |_=>none
         |_=>none
        |none=>none
       |none=>none
      |none=>none
     |none=>none
    |_=>none
   |_,_=>none
def agd [Bk] (P:Program) (b:Builtin) (args:Array Operand) (argTypes:Array TypeId) (ρ:Operand→AV) (h:AH) (nx:Nat):Option AR :=
 match b with
  | .len=>PE P args argTypes ρ h nx
  | .append=>DT P args argTypes ρ h nx
  | .max=>PD P args argTypes ρ h nx
  | .min=>PC P args argTypes ρ h nx
  | .clear=>GH P args argTypes ρ h nx
  |_=>none
def af9 [Bk] (P:Program) (op:Op) (ρ:Operand→AV) (h:AH) (nx:Nat):Option AR :=
 match op with
 | .move x=>agc P x ρ h nx
 | .assign x=>abm P x ρ h nx
 | .pick c x y=>XG P c x y ρ h nx
 | .alloc e=>PF P e ρ h nx
 | .box e x=>aem P e x ρ h nx
 | .build t parts=>PA P t parts ρ h nx
 | .buildSlice t len parts=>Ac P t len parts ρ h nx
 | .load t x=>XI P t x ρ h nx
 | .store t x y=>Pv P t x y ρ h nx
 | .nilCheck x=>DR P x ρ h nx
 | .binOp op t x y _=>PB P op t x y ρ h nx
 | .unOp op _ x=>XF P op x ρ h nx
 | .convert s d x=>GG P s d x ρ h nx
 | .makeInterface t x=>vA P t x ρ h nx
 | .makeFunc fn first captured=>DS P fn first captured ρ h nx
 | .makeSlice t x y=>B6 P t x y ρ h nx
 | .slice t x lo hi mx=>Pw P t x lo hi mx ρ h nx
 | .fieldAddr t x k=>B8 P t x k ρ h nx
 | .field t x k=>Pz P t x k ρ h nx
 | .indexAddr t x ix=>B7 P t x ix ρ h nx
 | .index t x ix=>Py P t x ix ρ h nx
 | .extract x k=>GD P x k ρ h nx
 | .typeAssert x _ asserted ok=>Ab P x asserted ok ρ h nx
 | .range t x=>Px P t x ρ h nx
 | .next x str=>XH P x str ρ h nx
 | .makeMap _ rs=>GB P rs ρ h nx
 | .insert t x k y=>IJ P t x k y ρ h nx
 | .lookup t x k ok=>II P t x k ok ρ h nx
 | .call { callee:=.builtin b,args,argTypes }=>agd P b args argTypes ρ h nx
 |_=>none
theorem XE [Bk] (P:Program) (op:Op) (ρ:Operand→AV) (h:AH) (nx:Nat):af9 P op ρ h nx=iH P op ρ h nx:=by
 cases op<;>rfl
inductive Tr where
 |leaf
 |node (v:bY) (l r:Tr)
def Tr.get:Tr→AH
 | .leaf,_=>.no
 | .node v _ _,0=>v
 | .node _ l r,k+1=>if k%2=0 then l.get (k/2)else r.get (k/2)
def Tr.put:Nat→Tr→Nat→bY→Tr
 |0,t,_,_=>t
 |_+1,.leaf,0,b=>.node b .leaf .leaf
 |_+1,.node _ l r,0,b=>.node b l r
 |f+1,.leaf,k+1,b=>if k%2=0 then .node .no (Tr.put f .leaf (k/2) b) .leaf else .node .no .leaf (Tr.put f .leaf (k/2) b)
 |f+1,.node v l r,k+1,b=>if k%2=0 then .node v (Tr.put f l (k/2) b) r else .node v l (Tr.put f r (k/2) b)
theorem Tr.kR [Bk] [Ev] (j:Nat):Tr.leaf.get j=.no:=by cases j<;>rfl
theorem Tr.pQ [Bk] [Ev] (b:bY):∀(f:Nat) (t:Tr) (k j:Nat),k<f→(Tr.put f t k b).get j=if j=k then b else t.get j
 |0,t,k,j,h=>by omega
 |f+1,.leaf,0,j,h=>by
  cases j with
  |zero=>rfl
  |succ j =>
   rw[if_neg (by omega)]
   simp only[Tr.put,Tr.get];split<;>simp[Tr.kR]
 |f+1,.node v l r,0,j,h=>by
  cases j with
  |zero=>rfl
  |succ j =>
   rw[if_neg (by omega)]
   simp only[Tr.put,Tr.get]
 |f+1,.leaf,k+1,j,h=>by
  simp only[Tr.put];split
  ·rename_i hk
   cases j with
   |zero=>rw[if_neg (by omega)];rfl
   |succ j =>
    simp only[Tr.get];split
    ·rename_i hj
     rw[Tr.pQ b f .leaf (k/2) (j/2) (by omega),Tr.kR]
     by_cases e:j=k
     ·subst e;simp
     ·rw[if_neg (by omega),if_neg (by omega)]
    ·rename_i hj
     rw[if_neg (by omega)];try simp[Tr.kR]
  ·rename_i hk
   cases j with
   |zero=>rw[if_neg (by omega)];rfl
   |succ j =>
    simp only[Tr.get];split
    ·rename_i hj
     rw[if_neg (by omega)];try simp[Tr.kR]
    ·rename_i hj
     rw[Tr.pQ b f .leaf (k/2) (j/2) (by omega),Tr.kR]
     by_cases e:j=k
     ·subst e;simp
     ·rw[if_neg (by omega),if_neg (by omega)]
 |f+1,.node v l r,k+1,j,h=>by
  simp only[Tr.put];split
  ·rename_i hk
   cases j with
   |zero=>rw[if_neg (by omega)];rfl
   |succ j =>
    simp only[Tr.get];split
    ·rename_i hj
     rw[Tr.pQ b f l (k/2) (j/2) (by omega)]
     by_cases e:j=k
     ·subst e;simp
     ·rw[if_neg (by omega),if_neg (by omega)]
    ·rename_i hj
     rw[if_neg (by omega)]
  ·rename_i hk
   cases j with
   |zero=>rw[if_neg (by omega)];rfl
   |succ j =>
    simp only[Tr.get];split
    ·rename_i hj
     rw[if_neg (by omega)]
    ·rename_i hj
     rw[Tr.pQ b f r (k/2) (j/2) (by omega)]
     by_cases e:j=k
     ·subst e;simp
     ·rw[if_neg (by omega),if_neg (by omega)]
def Tr.set (t:Tr) (k:Nat) (b:bY):Tr:=Tr.put (k+1) t k b
theorem Tr.Et [Bk] [Ev] (t:Tr) (k:Nat) (b:bY):(t.set k b).get=cJ t.get k b:=by
 funext j
 rw[Tr.set,Tr.pQ b _ _ _ _ (by omega)]
 rfl
def Tr.bG (t:Tr):List (Nat×bY)→Tr
 |[]=>t
 |(i,b)::r=>(t.set i b).bG r
theorem Tr.BE [Bk] [Ev]:∀(u:List (Nat×bY)) (t:Tr),(t.bG u).get=eW t.get u
 |[],t=>rfl
 |(i,b)::r,t=>by simp only[Tr.bG,eW];rw[Tr.BE r,Tr.Et]
inductive Ft where
 |leaf
 |node (v:AV) (l r:Ft)
def Ft.get:Ft→Nat→Option AV
 | .leaf,_=>none
 | .node v _ _,0=>some v
 | .node _ l r,k+1=>if k%2=0 then l.get (k/2)else r.get (k/2)
def Ft.put:Nat→Ft→Nat→AV→Ft
 |0,t,_,_=>t
 |_+1,.leaf,_,_=>.leaf
 |_+1,.node _ l r,0,b=>.node b l r
 |f+1,.node v l r,k+1,b=>if k%2=0 then .node v (Ft.put f l (k/2) b) r else .node v l (Ft.put f r (k/2) b)
theorem Ft.kR [Bk] [Ev] (j:Nat):Ft.leaf.get j=none:=by cases j<;>rfl
theorem Ft.pQ [Bk] [Ev] (b:AV):∀(f:Nat) (t:Ft) (k j:Nat),k<f→(Ft.put f t k b).get j=if j=k then(t.get k).map (fun _=>b)else t.get j
 |0,t,k,j,h=>by omega
 |f+1,.leaf,k,j,h=>by simp[Ft.put,Ft.kR]
 |f+1,.node v l r,0,j,h=>by
  cases j with
  |zero=>rfl
  |succ j=>rw[if_neg (by omega)];simp only[Ft.put,Ft.get]
 |f+1,.node v l r,k+1,j,h=>by
  simp only[Ft.put];split
  ·rename_i hk
   cases j with
   |zero=>rw[if_neg (by omega)];rfl
   |succ j =>
    simp only[Ft.get];split
    ·rename_i hj
     rw[Ft.pQ b f l (k/2) (j/2) (by omega)]
     by_cases e:j=k
     ·subst e;simp[hk]
     ·rw[if_neg (by omega),if_neg (by omega)]
    ·rename_i hj
     rw[if_neg (by omega)]
  ·rename_i hk
   cases j with
   |zero=>rw[if_neg (by omega)];rfl
   |succ j =>
    simp only[Ft.get];split
    ·rename_i hj
     rw[if_neg (by omega)]
    ·rename_i hj
     rw[Ft.pQ b f r (k/2) (j/2) (by omega)]
     by_cases e:j=k
     ·subst e;simp[hk]
     ·rw[if_neg (by omega),if_neg (by omega)]
def Ft.set (t:Ft) (d:Option Tmp) (b:AV):Ft:=match d with
 |none=>t
 |some k=>Ft.put (k+1) t k b
structure Ft.G where
 f:Ft→Option AV
structure Ft.H where
 f:Ft→AV→Ft
def Ft.look:Nat→Nat→Ft.G
 |0,_=>⟨fun _=>none⟩
 |n+1,k=>if k=0 then⟨fun t=>Ft.casesOn t none (fun v _ _=>some v)⟩else if(k-1)%2=0 then⟨fun t=>Ft.casesOn t none (fun _ l _=>(Ft.look n ((k-1)/2)).f l)⟩else⟨fun t=>Ft.casesOn t none (fun _ _ r=>(Ft.look n ((k-1)/2)).f r)⟩
def Ft.lay:Nat→Nat→Ft.H
 |0,_=>⟨fun t _=>t⟩
 |n+1,k=>if k=0 then⟨fun t b=>Ft.casesOn t .leaf (fun _ l r=>.node b l r)⟩else if(k-1)%2=0 then⟨fun t b=>Ft.casesOn t .leaf (fun v l r=>.node v ((Ft.lay n ((k-1)/2)).f l b) r)⟩else⟨fun t b=>Ft.casesOn t .leaf (fun v l r=>.node v l ((Ft.lay n ((k-1)/2)).f r b))⟩
theorem Ft.look_eq [Bk] [Ev]:∀(n k:Nat) (t:Ft),k<n→(Ft.look n k).f t=t.get k
 |0,k,t,h=>by omega
 |n+1,0,t,h=>by cases t<;>rfl
 |n+1,k+1,t,h=>by
  have e:k+1-1=k:=rfl
  simp only[Ft.look,Nat.add_one_ne_zero,if_false,e];split
  ·rename_i hk
   cases t with
   |leaf=>rfl
   |node v l r=>simp only[Ft.get,hk,if_true];exact Ft.look_eq n _ _ (by omega)
  ·rename_i hk
   cases t with
   |leaf=>rfl
   |node v l r=>simp only[Ft.get,hk,if_false];exact Ft.look_eq n _ _ (by omega)
theorem Ft.Sp [Bk] [Ev] (b:AV):∀(n k:Nat) (t:Ft),k<n→(Ft.lay n k).f t b=Ft.put n t k b
 |0,k,t,h=>by omega
 |n+1,0,t,h=>by cases t<;>rfl
 |n+1,k+1,t,h=>by
  have e:k+1-1=k:=rfl
  simp only[Ft.lay,Nat.add_one_ne_zero,if_false,e];split
  ·rename_i hk
   cases t with
   |leaf=>rfl
   |node v l r=>simp only[Ft.put,hk,if_true];rw[Ft.Sp b n _ _ (by omega)]
  ·rename_i hk
   cases t with
   |leaf=>rfl
   |node v l r=>simp only[Ft.put,hk,if_false];rw[Ft.Sp b n _ _ (by omega)]
def Ft.gt (t:Ft) (k:Nat):Option AV:=(Ft.look (k+1) k).f t
def Ft.st (t:Ft) (d:Option Tmp) (b:AV):Ft:=match d with
 |none=>t
 |some k=>(Ft.lay (k+1) k).f t b
theorem Ft.Xf [Bk] [Ev] (t:Ft) (k:Nat):t.gt k=t.get k:=Ft.look_eq _ _ _ (by omega)
theorem Ft.ajs [Bk] [Ev] (t:Ft) (d:Option Tmp) (b:AV):t.st d b=t.set d b:=by
 cases d with
 |none=>rfl
 |some k=>exact Ft.Sp b _ _ _ (by omega)
def zY:List AV→List AV
 |[]=>[]
 |[x]=>[x]
 |x::_::l=>x::zY l
def G9:List AV→List AV
 |[]=>[]
 |[_]=>[]
 |_::y::l=>y::G9 l
theorem Il [Bk] [Ev]:∀(l:List AV) (k:Nat),(zY l)[k]?=l[2*k]?
 |[],k=>by simp[zY]
 |[x],0=>rfl
 |[x],k+1=>by simp[zY]
 |x::_::l,0=>rfl
 |x::y::l,k+1=>by
  simp only[zY,List.getElem?_cons_succ];rw[Il l k,show 2*(k+1)=2*k+2 by omega]
  rfl
theorem NZ [Bk] [Ev]:∀(l:List AV) (k:Nat),(G9 l)[k]?=l[2*k+1]?
 |[],k=>by simp[G9]
 |[x],k=>by simp[G9]
 |x::y::l,0=>rfl
 |x::y::l,k+1=>by
  simp only[G9,List.getElem?_cons_succ];rw[NZ l k,show 2*(k+1)=2*k+1+1 by omega]
  rfl
def Ft.of:Nat→List AV→Ft
 |0,_=>.leaf
 |_+1,[]=>.leaf
 |f+1,x::l=>.node x (Ft.of f (zY l)) (Ft.of f (G9 l))
theorem Ik [Bk] [Ev]:∀(l:List AV),(zY l).length≤l.length
 |[]=>by simp[zY]
 |[x]=>by simp[zY]
 |x::y::l=>by simp[zY];have:=Ik l;omega
theorem NY [Bk] [Ev]:∀(l:List AV),(G9 l).length≤l.length
 |[]=>by simp[G9]
 |[x]=>by simp[G9]
 |x::y::l=>by simp[G9];have:=NY l;omega
theorem Ft.xV [Bk] [Ev]:∀(f:Nat) (l:List AV) (k:Nat),l.length≤f→(Ft.of f l).get k=l[k]?
 |0,l,k,h=>by
  have:l=[]:=List.length_eq_zero_iff.1 (by omega)
  subst this;simp[Ft.of,Ft.kR]
 |f+1,[],k,h=>by simp[Ft.of,Ft.kR]
 |f+1,x::l,0,h=>rfl
 |f+1,x::l,k+1,h=>by
  have h1:=Ik l;have h2:=NY l;simp only[List.length_cons]at h;simp only[Ft.of,Ft.get,List.getElem?_cons_succ];split
  ·rw[Ft.xV f _ _ (by omega),Il];congr 1;omega
  ·rw[Ft.xV f _ _ (by omega),NZ];congr 1;omega
def FR (f:List AV) (t:Ft):Prop:=∀k,t.get k=f[k]?
theorem FR.set [Bk] [Ev] {f:List AV} {t:Ft} (h:FR f t) (d:Option Tmp) (v:AV):FR (pE f d v) (t.set d v):=by
 cases d with
 |none=>exact h
 |some d =>
  intro k;simp only[Ft.set,pE];rw[Ft.pQ v _ _ _ _ (by omega),List.getElem?_set]
  by_cases e:k=d
  ·subst e
   rw[if_pos rfl,if_pos rfl,h k];by_cases hl:k<f.length
   ·simp[hl]
   ·simp[hl]
  ·rw[if_neg e,if_neg (fun x=>e x.symm)]
   exact h k
theorem FR.st [Bk] [Ev] {f:List AV} {t:Ft} (h:FR f t) (d:Option Tmp) (v:AV):FR (pE f d v) (t.st d v):=by rw[Ft.ajs];exact h.set d v
def kU (t:Ft):Operand→AV
 | .tmp k=>match t.gt k with|some v=>v|none=>.undef
 | .const v=>G8 v
 | .global g=>.c (.pointer (some ⟨g,0,none⟩))
 | .func k=>.fn (.func k) [] []
theorem FR.ev [Bk] [Ev] {f:List AV} {t:Ft} (h:FR f t):dE f=kU t:=by
 funext o
 cases o with
 |tmp k =>
  simp only[dE,kU,List.getD,Ft.Xf,h k];cases f[k]?<;>rfl
 |_=>rfl
structure RT (α:Type) where
 a:α
 t:Tr
 n:Nat
 rd:List Nat
 wr:List Nat
abbrev MT (α:Type):=Tr→Nat→Option (RT α)
def Ae {α β:Type} (R:α→β→Prop) (x:M α) (y:MT β):Prop:=∀t n r,y t n=some r→∃a,x t.get n=some ⟨a,r.t.get,r.n,r.rd,r.wr⟩∧R a r.a
def cI {α:Type}:MT α:=fun _ _=>none
def dP {α:Type} (a:α):MT α:=fun t n=>some ⟨a,t,n,[],[]⟩
def fM {α β:Type} (x:MT α) (k:α→MT β):MT β:=fun t n =>
 match x t n with
 |none=>none
 |some r=>match k r.a r.t r.n with
  |none=>none
  |some s=>some ⟨s.a,s.t,s.n,r.rd++s.rd,r.wr++s.wr⟩
theorem eE [Bk] [Ev] {α β:Type} {R:α→β→Prop} {x:M α}:Ae R x cI:=fun t n r h=>by cases h
theorem gZ [Bk] [Ev] {α β:Type} {R:α→β→Prop} {a:α} {b:β} (h:R a b):Ae R (mpure a) (dP b):=fun t n r hr=>by cases hr;exact⟨a,rfl,h⟩
theorem gJ [Bk] [Ev] {α β γ δ:Type} {R:α→β→Prop} {S:γ→δ→Prop} {x:M α} {y:MT β} {k:α→M γ} {l:β→MT δ} (hx:Ae R x y) (hk:∀a b,R a b→Ae S (k a) (l b)):Ae S (jU x k) (fM y l):=by
 intro t n r h;unfold fM at h;cases h1:y t n with
 |none=>rw[h1]at h;cases h
 |some q =>
  rw[h1]at h;simp only at h
  cases h2:l q.a q.t q.n with
  |none=>rw[h2]at h;cases h
  |some s =>
   rw[h2]at h;cases h;obtain⟨a,e1,hR⟩:=hx t n q h1;obtain⟨c,e2,hS⟩:=hk a q.a hR q.t q.n s h2;refine⟨c,?_,hS⟩
   unfold jU;rw[e1];simp only
   rw[e2]
section
variable {P:Program}
def DO [Bk] (P:Program) (op:Op) (ρ:Operand→AV) (h:AH) (nx:Nat):Option AR :=
 match af9 P op ρ h nx with
 |some r=>some r
 |none=>fZ P op ρ h nx
theorem aea [Bk] (op:Op) (ρ:Operand→AV) (h:AH) (nx:Nat):DO P op ρ h nx=zR P op ρ h nx:=by unfold DO zR;rw[XE];cases iH P op ρ h nx<;>rfl
def af7 [Bk] (P:Program) (op:Op) (f:Ft):MT AV:=fun t n =>
 match DO P op (kU f) t.get n with
 |none=>none
 |some r=>some ⟨r.v,t.bG r.bG,if(r.bG.map (·.1)).contains n then n+1 else n,r.vF,r.bG.map (·.1)⟩
theorem aeY [Bk] [Ev] (op:Op) {f:List AV} {g:Ft} (hf:FR f g):Ae Eq (Ho P op f) (af7 P op g):=by
 intro t n r h;unfold af7 at h;unfold Ho;rw[hf.ev];rw[aea]at h;cases h1:zR P op (kU g) t.get n with
 |none=>rw[h1]at h;cases h
 |some q =>
  rw[h1]at h;cases h;exact⟨q.v,by simp[Tr.BE],rfl⟩
def iS [Bk] (P:Program) (call:Fn→List AV→MT AV) (o:Oper) (f:Ft):MT AV :=
 match jK P (kU f) o.op with
 |some (k,args)=>call (.func k) args
 |none=>match mU (kU f) o.op with
  |some (id,args)=>call (.yield id) args
  |none=>af7 P o.op f
def pD (ops:Array Oper) (o:Oper) (f:Ft):Option Bool :=
 match o.guard with
 |none=>some true
 |some (j,want)=>match (ops[j]?).bind (·.dst)with
  |none=>some false
  |some d=>match f.gt d with
   |some (.c (.bool b))=>some (b==want)
   |some .undef=>some false
   |none=>some false
   |_=>none
theorem FR.guard [Bk] [Ev] {f:List AV} {g:Ft} (h:FR f g) (ops:Array Oper) (o:Oper):kH ops o f=pD ops o g:=by
 unfold kH pD;cases o.guard with
 |none=>rfl
 |some p =>
  obtain⟨j,want⟩:=p;simp only
  cases(ops[j]?).bind (·.dst)with
  |none=>rfl
  |some d =>
   simp only[Ft.Xf,h d];cases f[d]? with
   |none=>rfl
   |some v=>cases v with
    |c u=>cases u<;>rfl
    |_=>rfl
def zZ [Bk] (P:Program) (call:Fn→List AV→MT AV) (ops:Array Oper):List Oper→Ft→MT Ft
 |[],f=>dP f
 |o::l,f=>match pD ops o f with
  |some true=>fM (iS P call o f) fun v=>zZ P call ops l (f.st o.dst v)
  |some false=>zZ P call ops l (f.st o.dst .undef)
  |none=>cI
def N6 (x:MT AV):MT (AV×vC):=fun t n =>
 match x t n with
 |none=>none
 |some r=>some ⟨(r.a,⟨r.a,(r.wr++List.range' n (r.n-n)).map fun id=>(id,r.t.get id),r.rd,n,r.n,false⟩),r.t,r.n,r.rd,r.wr⟩
def wO [Bk] (P:Program) (call:Fn→List AV→MT AV) (ops:Array Oper):List Oper→Ft→MT (Ft×List vC)
 |[],f=>dP (f,[])
 |o::l,f=>match pD ops o f with
  |some true=>fM (N6 (iS P call o f)) fun v=>fM (wO P call ops l (f.st o.dst v.1)) fun q=>dP (q.1,v.2::q.2)
  |some false=>fM (wO P call ops l (f.st o.dst .undef)) fun q=>dP (q.1,⟨.undef,[],[],0,0,true⟩::q.2)
  |none=>cI
def Dg [Bk] (P:Program) (call:Fn→List AV→MT AV) (ops:Array Oper) (f:Ft):MT Ft :=
 if P.follows .mixedOrders then fM (wO P call ops ops.toList f) fun q=>if Io ops q.2 then dP q.1 else cI else cI
def xQ {α:Type} (x:MT α):MT α:=fun t n =>
 match x t n with
 |none=>none
 |some r=>some ⟨r.a,r.t,r.n,(r.rd.filter fun id=>!(decide (n≤id)&&decide (id<r.n))).eraseDups,(r.wr.filter fun id=>!(decide (n≤id)&&decide (id<r.n))).eraseDups⟩
def Ft.list (t:Ft):Nat→Nat→Option (List AV)
 |0,_=>none
 |n+1,k=>match t.gt k with
  |none=>some []
  |some v=>match Ft.list t n (k+1)with
   |none=>none
   |some l=>some (v::l)
theorem FR.list [Bk] [Ev] {f:List AV} {t:Ft} (h:FR f t):∀(n k:Nat) (l:List AV),Ft.list t n k=some l→l=f.drop k
 |0,k,l,hl=>by cases hl
 |n+1,k,l,hl=>by
  simp only[Ft.list,Ft.Xf,h k]at hl;cases hk:f[k]? with
  |none =>
   rw[hk]at hl;cases hl;have:=List.getElem?_eq_none_iff.1 hk
   simp[List.drop_eq_nil_of_le this]
  |some v =>
   rw[hk]at hl;simp only at hl
   cases hr:Ft.list t n (k+1)with
   |none=>rw[hr]at hl;cases hl
   |some r =>
    rw[hr]at hl;cases hl;have:=FR.list h n (k+1) r hr
    obtain⟨hlt,hv⟩:=List.getElem?_eq_some_iff.1 hk
    rw[List.drop_eq_getElem_cons hlt,hv,this]
def Ea {α:Type} (id:Nat) (g:bY→Option (α×bY)):MT α:=fun t n =>
 match g (t.get id)with
 |none=>none
 |some (a,b)=>some ⟨a,t.set id b,n,[id],[id]⟩
def Ig (f:List AV) (ps:Array Tmp) (as bd:Code):MT Nat:=fun t n =>
 match t.get n with
 | .no=>some ⟨n,t.set n (.lp .ready f ps as bd),n+1,[n],[n]⟩
 |_=>none
theorem I3 [Bk] [Ev] {α:Type} (id:Nat) (g:bY→Option (α×bY)):Ae Eq (atL id g) (Ea id g):=by
 intro t n r hr;unfold Ea at hr;unfold atL;cases hg:g (t.get id)with
 |none=>rw[hg]at hr;cases hr
 |some p =>
  obtain⟨a,b⟩:=p;rw[hg]at hr;cases hr;exact⟨a,by simp only[Tr.Et],rfl⟩
theorem aeW [Bk] [Ev] (f:List AV) (ps:Array Tmp) (as bd:Code):Ae Eq (Sb f ps as bd) (Ig f ps as bd):=by
 intro t n r hr;unfold Ig at hr;unfold Sb;split at hr
 ·rename_i hn
  cases hr;exact⟨n,by simp only[hn,Tr.Et],rfl⟩
 ·cases hr
def gQ [Bk] (P:Program) (call:Fn→List AV→MT AV) (tp:Bool):Nat→Code→Ft→MT (AX×Ft)
 |0,_,_=>cI
 |n+1,.skip,f=>dP (.normal,f)
 |n+1,.region _ ops draw,f=>fM (if draw then Dg P call ops f else zZ P call ops ops.toList f) fun f'=>dP (.normal,f')
 |n+1,.seq x y,f=>fM (gQ P call tp n x f) fun q=>match q.1 with
  | .normal=>gQ P call tp n y q.2
  |_=>dP q
 |n+1,.cond c x y,f=>match kU f c with
  | .c (.bool b)=>gQ P call tp n (if b then x else y) f
  |_=>cI
 |n+1,.block id c,f=>fM (gQ P call tp n c f) fun q=>match q.1 with
  | .exit id'=>if id'=id then dP (.normal,q.2)else dP q
  |_=>dP q
 |n+1,.loop c,f=>fM (gQ P call tp n c f) fun q=>match q.1 with
  | .normal=>gQ P call tp n (.loop c) q.2
  |_=>dP q
 |n+1,.rangeFunc g ps as bd,f=>if tp then match kU f g with
   | .fn (.func k) [] captured=>match Ft.list f 4096 0 with
    |none=>cI
    |some l=>fM (Ig l ps as bd) fun id=>fM (call (.func k) (.DW id::captured)) fun _=>fM (Ea id xN) fun x=>dP (x,f)
   |_=>cI
  else cI
 |n+1,.scope c,f=>gQ P call tp n c f
 |n+1,.label _,f=>dP (.normal,f)
 |n+1,.exit id,f=>dP (.exit id,f)
 |n+1,.ret,f=>dP (.ret,f)
 |n+1,_,_=>cI
def BV [Bk] (P:Program) (L:Nat) (call:Fn→List AV→MT AV) (id:Nat) (args:List AV):MT AV :=
 fM (Ea id aaJ) fun q=>if args.length=q.2.1.size then
  fM (gQ P call false L q.2.2.1 (Ft.of (HN q.1 q.2.1 args).length (HN q.1 q.2.1 args))) fun r=>match r.1 with
   | .normal=>fM (Ea id Iz) fun _=>fM (gQ P call false L q.2.2.2 r.2) fun s=>Ea id (Hu s.1)
   |_=>cI
 else cI
def TB (P:Program) (f:Ft) (h:AH):ResultVar→Option AV
 | .tmp t=>some ((f.gt t).getD .undef)
 | .cell t ty=>Xv P ty h ((f.gt t).getD .undef)
def yO (P:Program) (fn:Func) (f:Ft) (h:AH):Option AV :=
 (fn.results.toList.mapM (TB P f h)).map AU
def Nn (f:Ft):ResultVar→List Nat
 | .tmp _=>[]
 | .cell t _=>Rt ((f.gt t).getD .undef)
def I9 (f:Ft) (l:List ResultVar):List Nat:=l.flatMap (Nn f)
def Rm (P:Program) (fn:Func) (f:Ft):MT AV:=fun t n =>
 match yO P fn f t.get with
 |none=>none
 |some v=>some ⟨v,t,n,I9 f fn.results.toList,[]⟩
def SL (P:Program) (ty:TypeId) (x:AV):MT AV:=fun t n =>
 match P.underlying ty with
 |some (.slice e)=>match P.info? e with
  |some i=>match i.zero,gN t.get x with
   |some z,some aN=>if z.cells.size=i.size∧0<i.size∧(aN.all fun q=>q.length==i.size)=true∧FG x i.size=true∧aN.length*i.bytes≤140737488355328∧aN.length≤1099511627776∧jY t.get n=true∧jY t.get (n+1)=true∧(pC x).contains n=false then
     some ⟨.own e i.size (n+1) 0 aN.length,t.bG [(n,.dead),(n+1,.cells e i.size aN)],n+2,n::(n+1)::pC x,[n,n+1]⟩else none
   |_,_=>none
  |none=>none
 |_=>none
def Xs [Bk] (P:Program) (ty:TypeId) (x:AV):MT AV:=fun t n =>
 match P.underlying ty with
 |some (.slice e)=>match P.info? e with
  |some i=>match i.zero,lH t.get x with
   |some z,some (sz,base,bG,tail,N)=>if z.cells.size=i.size∧0<i.size∧sz=i.size∧OL N i.bytes=true∧jY t.get n=true∧jY t.get (n+1)=true∧(D6 x).contains n=false then
     some ⟨.cE e i.size (n+1) N,t.bG [(n,.dead),(n+1,.sc e i.size base bG tail N)],n+2,n::(n+1)::D6 x,[n,n+1]⟩else none
   |_,_=>none
  |none=>none
 |_=>none
def EA [Bk] (P:Program) (ty:TypeId) (x:AV):MT AV:=fun t n =>
 match SL P ty x t n with
 |some r=>some r
 |none=>Xs P ty x t n
def BZ [Bk] (P:Program) (L:Nat) (call:Fn→List AV→MT AV) (k:FuncId) (args:List AV):MT AV :=
 match P.funcs[k]? with
  |none=>cI
  |some fn=>match pP fn,args with
   |some t,[x]=>EA P t x
   |_,_=>match fn.body with
    |none=>cI
    | some c => if fn.name == "runtime.NumGoroutine" then cI else
     xQ (fM (gQ P call true L c (Ft.of (args.length+fn.ntmps) (args++List.replicate (fn.ntmps-args.length) .undef))) fun q=>match q.1 with
      | .exit _=>cI
      |_=>Rm P fn q.2)
def knT [Bk] (k:FuncId) (args:List AV):MT AV:=fun t n =>
 match zN (wD t.get 16) args with
 |some (as,ids)=>match ON k as Bk.bT with
  |some r=>bif A5 8 r then some ⟨r,t,n,ids,[]⟩else some ⟨r,t.bG (ids.map fun id=>(id,bY.dead)),n,ids,ids⟩
  |none=>none
 |none=>none
def uK [Bk] (P:Program) (L:Nat):Nat→Fn→List AV→MT AV
 |0,_,_=>cI
 |d+1,.func k,args=>match OP P k args with
  |some v=>dP v
  |none=>if knB P k=true then knT k args else BZ P L (uK P L d) k args
 |d+1,.yield id,args=>xQ (BV P L (uK P L d) id args)
 |_+1,_,_=>cI
variable {cm:Fn→List AV→M AV} {ct:Fn→List AV→MT AV}
theorem Nc [Bk] [Ev] (hc:∀k args,Ae Eq (cm k args) (ct k args)) (o:Oper) {f:List AV} {g:Ft} (hf:FR f g):Ae Eq (uX P cm o f) (iS P ct o g):=by
 unfold uX iS;rw[hf.ev];cases jK P (kU g) o.op with
 |some p=>exact hc _ _
 |none =>
  cases mU (kU g) o.op with
  |some p=>exact hc _ _
  |none=>exact aeY _ hf
theorem aeX [Bk] [Ev] {x:M AV} {y:MT AV} (h:Ae Eq x y):Ae Eq (Sf x) (N6 y):=by
 intro t n r hr;unfold N6 at hr;cases h1:y t n with
 |none=>rw[h1]at hr;cases hr
 |some q =>
  rw[h1]at hr;cases hr;obtain⟨a,e1,rfl⟩:=h t n q h1;refine⟨_,?_,rfl⟩
  unfold Sf;rw[e1]
theorem ajK [Bk] [Ev] {ops:Array Oper} {k:Nat} {o:Oper} {l:List Oper} (h:ops.toList.drop k=o::l):ops[k]?=some o∧ops.toList.drop (k+1)=l:=by
 have h1:ops.toList[k]?=some o:=by
  have:=congrArg (·[0]?) h
  simpa using this
 refine⟨by simpa using h1,?_⟩
 have:=congrArg (List.drop 1) h
 simpa[List.drop_drop,Nat.add_comm]using this
theorem I2 [Bk] [Ev] (hc:∀k args,Ae Eq (cm k args) (ct k args)) (ops:Array Oper):∀(l:List Oper) (k:Nat) (f:List AV) (g:Ft),ops.toList.drop k=l→FR f g→Ae FR (MG P cm ops (List.range' k l.length) f) (zZ P ct ops l g)
 |[],k,f,g,_,hf=>gZ hf
 |o::l,k,f,g,hl,hf=>by
  obtain⟨h1,h2⟩:=ajK hl;simp only[List.length_cons,List.range'_succ,MG,zZ,h1];rw[hf.guard];cases pD ops o g with
  |none=>exact eE
  |some b =>
   cases b
   ·exact I2 hc ops l (k+1) _ _ h2 (hf.st _ _)
   ·exact gJ (Nc hc _ hf) fun v u e=>by subst e;exact I2 hc ops l (k+1) _ _ h2 (hf.st _ _)
theorem Ct [Bk] [Ev] (hc:∀k args,Ae Eq (cm k args) (ct k args)) (ops:Array Oper):∀(l:List Oper) (k:Nat) (f:List AV) (g:Ft),ops.toList.drop k=l→FR f g→Ae (fun a b=>FR a.1 b.1∧a.2=b.2) (wP P cm ops (List.range' k l.length) f) (wO P ct ops l g)
 |[],k,f,g,_,hf=>gZ ⟨hf,rfl⟩
 |o::l,k,f,g,hl,hf=>by
  obtain⟨h1,h2⟩:=ajK hl;simp only[List.length_cons,List.range'_succ,wP,wO,h1];rw[hf.guard];cases pD ops o g with
  |none=>exact eE
  |some b =>
   cases b
   ·exact gJ (Ct hc ops l (k+1) _ _ h2 (hf.st _ _)) fun a b e=>gZ ⟨e.1,by simp only;rw[e.2]⟩
   ·exact gJ (aeX (Nc hc _ hf)) fun v u e=>by
     subst e;exact gJ (Ct hc ops l (k+1) _ _ h2 (hf.st _ _)) fun a b e=>gZ ⟨e.1,by simp only;rw[e.2]⟩
theorem range_zero [Bk] [Ev] (n:Nat):List.range n=List.range' 0 n:=List.range_eq_range'
theorem abM [Bk] [Ev] (hc:∀k args,Ae Eq (cm k args) (ct k args)) (ops:Array Oper) {f:List AV} {g:Ft} (hf:FR f g):Ae FR (Gy P cm ops f) (Dg P ct ops g):=by
 unfold Gy Dg;split
 ·have:=Ct (P:=P) hc ops ops.toList 0 f g (by simp) hf
  rw[range_zero,show ops.size=ops.toList.length by simp]
  refine gJ this fun a b e=>?_
  rw[e.2];split
  ·exact gZ e.1
  ·exact eE
 ·exact eE
theorem Nd [Bk] [Ev] {α β:Type} {R:α→β→Prop} {x:M α} {y:MT β} (h:Ae R x y):Ae R (xR x) (xQ y):=by
 intro t n r hr;unfold xQ at hr;cases h1:y t n with
 |none=>rw[h1]at hr;cases hr
 |some q =>
  rw[h1]at hr;cases hr;obtain⟨a,e1,hR⟩:=h t n q h1;refine⟨a,?_,hR⟩
  unfold xR;rw[e1]
theorem kN [Bk] [Ev] (hc:∀k args,Ae Eq (cm k args) (ct k args)) {tp:Bool}:∀(n:Nat) (c:Code) (f:List AV) (g:Ft),FR f g→Ae (fun a b=>a.1=b.1∧FR a.2 b.2) (eI P cm tp n c f) (gQ P ct tp n c g)
 |0,c,f,g,hf=>by simp only[eI,gQ];exact eE
 |n+1,c,f,g,hf=>by
  cases c with
  |skip=>exact gZ ⟨rfl,hf⟩
  |region id ops draw =>
   simp only[eI,gQ];refine gJ (R:=FR) ?_ fun a b e=>gZ ⟨rfl,e⟩
   cases draw
   ·have:=I2 (P:=P) hc ops ops.toList 0 f g (by simp) hf
    rw[range_zero,show ops.size=ops.toList.length by simp]
    exact this
   ·exact abM hc _ hf
  |seq x y =>
   simp only[eI,gQ];refine gJ (kN hc n x f g hf) fun a b e=>?_
   obtain⟨a1,a2⟩:=a;obtain⟨b1,b2⟩:=b;simp only at e
   obtain⟨rfl,e2⟩:=e;cases a1 with
   |normal=>exact kN hc n y _ _ e2
   |_=>exact gZ ⟨rfl,e2⟩
  |cond c x y =>
   simp only[eI,gQ];rw[hf.ev];cases kU g c with
   |c v=>cases v with
    |bool b=>exact kN hc n _ _ _ hf
    |_=>exact eE
   |_=>exact eE
  |scope c=>simp only[eI,gQ];exact kN hc n c f g hf
  |label l=>exact gZ ⟨rfl,hf⟩
  |block id c =>
   simp only[eI,gQ];refine gJ (kN hc n c f g hf) fun a b e=>?_
   obtain⟨a1,a2⟩:=a;obtain⟨b1,b2⟩:=b;simp only at e
   obtain⟨rfl,e2⟩:=e;cases a1 with
   |exit id'=>simp only;split<;>exact gZ ⟨rfl,e2⟩
   |_=>exact gZ ⟨rfl,e2⟩
  |loop c =>
   simp only[eI,gQ];refine gJ (kN hc n c f g hf) fun a b e=>?_
   obtain⟨a1,a2⟩:=a;obtain⟨b1,b2⟩:=b;simp only at e
   obtain⟨rfl,e2⟩:=e;cases a1 with
   |normal=>exact kN hc n _ _ _ e2
   |_=>exact gZ ⟨rfl,e2⟩
  |rangeFunc gg ps as bd =>
   simp only[eI,gQ];rw[hf.ev];cases tp with
   |false=>exact eE
   |true =>
    cases kU g gg with
    |fn F first captured =>
     cases F with
     |func k =>
      cases first with
      |nil =>
       simp only[if_true];cases hl:Ft.list g 4096 0 with
       |none=>exact eE
       |some l =>
        have e:=hf.list 4096 0 l hl;rw[List.drop_zero]at e;subst e;refine gJ (aeW _ _ _ _) fun a b e=>?_
        subst e;refine gJ (hc _ _) fun c d e=>?_
        refine gJ (I3 _ _) fun x y e=>?_
        subst e;exact gZ ⟨rfl,hf⟩
      |cons _ _=>exact eE
     |_=>exact eE
    |_=>exact eE
  |exit id=>exact gZ ⟨rfl,hf⟩
  |ret=>exact gZ ⟨rfl,hf⟩
  |_=>simp only[eI,gQ];exact eE
theorem aab [Bk] [Ev] (hc:∀k args,Ae Eq (cm k args) (ct k args)) (L id:Nat) (args:List AV):Ae Eq (AG P L cm id args) (BV P L ct id args):=by
 unfold AG BV;refine gJ (I3 _ _) fun q q' e=>?_
 subst e;split
 ·refine gJ (kN hc _ _ _ _ (fun k=>Ft.xV _ _ _ (Nat.le_refl _))) fun a b e=>?_
  obtain⟨a1,a2⟩:=a;obtain⟨b1,b2⟩:=b;simp only at e
  obtain⟨rfl,e2⟩:=e;cases a1 with
  |normal =>
   refine gJ (I3 _ _) fun _ _ _=>gJ (kN hc _ _ _ _ e2) fun a b e=>?_
   rw[e.1];exact I3 _ _
  |_=>exact eE
 ·exact eE
theorem FR.getD [Bk] [Ev] {f:List AV} {g:Ft} (h:FR f g) (t:Nat):f.getD t .undef=(g.gt t).getD .undef:=by rw[List.getD,Ft.Xf,h t]
theorem aeV [Bk] [Ev] (fn:Func) {f:List AV} {g:Ft} (hf:FR f g):Ae Eq (G1 P fn f) (Rm P fn g):=by
 have e1:∀h,eF P fn f h=yO P fn g h:=by
  intro h;unfold eF yO;have:zL P f h=TB P g h:=by
   funext r
   cases r with
   |tmp t=>simp only[zL,TB,hf.getD]
   |cell t ty=>simp only[zL,TB,hf.getD]
  rw[this]
 have e2:∀l,Fh f l=I9 g l:=by
  intro l;unfold Fh I9;congr 1
  funext r
  cases r with
  |tmp t=>rfl
  |cell t ty=>simp only[Ld,Nn,hf.getD]
 intro t n r hr;unfold Rm at hr;unfold G1;rw[e1];cases h1:yO P fn g t.get with
 |none=>rw[h1]at hr;cases hr
 |some v=>rw[h1]at hr;cases hr;exact⟨v,by simp only[e2],rfl⟩
theorem aac [Bk] [Ev] (ty:TypeId) (x:AV):Ae Eq (wI P ty x) (SL P ty x):=by
 intro t n r hr;unfold SL at hr;unfold wI;split at hr
 ·rename_i e he
  split at hr
  ·rename_i i hi
   split at hr
   ·rename_i z aN hz hx
    split at hr
    ·rename_i hc
     cases hr;refine⟨_,?_,rfl⟩
     simp only[he,hi,hz,hx];rw[if_pos hc];simp only[Tr.BE]
    ·cases hr
   ·cases hr
  ·cases hr
 ·cases hr
theorem Rc [Bk] [Ev] (ty:TypeId) (x:AV):Ae Eq (rC P ty x) (EA P ty x):=by
 intro t n r hr;unfold EA at hr;split at hr
 ·rename_i r' h1
  cases hr;obtain⟨a,e,rfl⟩:=aac ty x t n r h1;exact⟨_,by unfold rC;rw[e],rfl⟩
 ·have hS:∃a,wH P ty x t.get n=some ⟨a,r.t.get,r.n,r.rd,r.wr⟩∧a=r.a:=by
   unfold Xs at hr;unfold wH;split at hr
   ·rename_i e he
    split at hr
    ·rename_i i hi
     split at hr
     ·rename_i z sz base bG tail N hz hx
      split at hr
      ·rename_i hc
       cases hr;refine⟨_,?_,rfl⟩
       simp only[he,hi,hz,hx];rw[if_pos hc];simp only[Tr.BE]
      ·cases hr
     ·cases hr
    ·cases hr
   ·cases hr
  obtain⟨a,e,rfl⟩:=hS;exact⟨_,by unfold rC;rw[DG (h':=t.get) (n':=n) e];exact e,rfl⟩
theorem aad [Bk] [Ev] (L:Nat) (ih:∀k args,Ae Eq (cm k args) (ct k args)) (k:FuncId) (args:List AV):Ae Eq (AJ P L cm k args) (BZ P L ct k args):=by
  have plain:∀fn:Func,Ae Eq (match fn.body with
    |none=>jT
    | some c => if fn.name == "runtime.NumGoroutine" then jT else
     xR (jU (eI P cm true L c (args++List.replicate (fn.ntmps-args.length) .undef)) fun q=>match q.1 with
      | .exit _=>jT
      |_=>G1 P fn q.2)) (match fn.body with
    |none=>cI
    | some c => if fn.name == "runtime.NumGoroutine" then cI else
     xQ (fM (gQ P ct true L c (Ft.of (args.length+fn.ntmps) (args++List.replicate (fn.ntmps-args.length) .undef))) fun q=>match q.1 with
      | .exit _=>cI
      |_=>Rm P fn q.2)):=by
   intro fn;cases fn.body with
   |none=>exact eE
   |some c =>
    simp only
    split
    ·exact eE
    ·refine Nd (gJ (kN ih _ _ _ _ (fun k=>Ft.xV _ _ _ (by rw[List.length_append,List.length_replicate];omega))) fun a b e=>?_)
     obtain⟨a1,a2⟩:=a;obtain⟨b1,b2⟩:=b;simp only at e
     obtain⟨rfl,e2⟩:=e;cases a1 with
     |exit id=>exact eE
     |_=>exact aeV (P:=P) _ e2
  simp only[AJ,BZ];cases P.funcs[k]? with
  |none=>exact eE
  |some fn =>
   simp only
   cases pP fn with
   |none=>exact plain fn
   |some t =>
    cases args with
    |nil=>exact plain fn
    |cons x l =>
     cases l with
     |nil=>exact Rc _ _
     |cons y l=>exact plain fn
theorem ahK [Bk] [Ev] (k:FuncId) (args:List AV):Ae Eq (knM k args) (knT k args):=by
 intro t n r hr;unfold knT at hr;unfold knM;split at hr
 ·rename_i as ids hf
  split at hr
  ·rename_i v hv
   cases hs:A5 8 v with
   |true =>
    rw[hs]at hr;cases hr;refine⟨v,?_,rfl⟩
    rw[hf];simp only[hv,hs];rfl
   |false =>
    rw[hs]at hr;cases hr;refine⟨v,?_,rfl⟩
    rw[hf];simp only[hv,hs,Tr.BE];rfl
  ·cases hr
 ·cases hr
theorem A2 [Bk] [Ev] (L:Nat):∀d k args,Ae Eq (uJ P L d k args) (uK P L d k args)
 |0,k,args=>eE
 |d+1,.func k,args=>by
  have ih:=aad (P:=P) L (A2 L d) k args
  simp only[uJ,uK];cases OP P k args with
  |some v=>exact gZ rfl
  |none =>
   simp only
   split
   ·exact ahK k args
   ·exact ih
 |d+1,.yield id,args=>Nd (aab (A2 L d) L id args)
 |d+1,.method _,args=>eE
 |d+1,.methodOf _ _,args=>eE
 |d+1,.via _ _ _ _,args=>eE
theorem IG [Bk] [Ev] (hX:jH P) {L d:Nat} {k:FuncId} {args:List AV} {t:Tr} {n:Nat} {r:RT AV} (hr:uK P L d (.func k) args t n=some r):eT P k args t.get (fun v h'=>v=r.a∧h'=r.t.get):=by
 obtain⟨a,e,rfl⟩:=A2 L d (.func k) args t n r hr
 exact abl hX e
def yN (o:Option (RT AV)):Bool:=match o with|some r=>(match r.a with | .c (.bool b)=>b|_=>false)|none=>false
theorem Rg [Bk] [Ev] (hX:jH P) {L d:Nat} {k:FuncId} {args:List AV} {t:Tr} {n:Nat} (h:yN (uK P L d (.func k) args t n)=true):∃h',eT P k args t.get (fun v h''=>v=.c (.bool true)∧h''=h'):=by
 unfold yN at h;split at h
 ·rename_i r hr
  split at h
  ·rename_i b hb
   subst h;exact⟨r.t.get,(IG hX hr).mono fun v h' ⟨e1,e2⟩=>⟨e1.trans hb,e2⟩⟩
  ·cases h
 ·cases h
end
end Mc
namespace Mc
def quiet (E:vC):Bool:=E.bG.isEmpty&&(E.vF.isEmpty&&Nat.ble E.hi E.lo)
def Oa (E E':vC):Bool:=(zM E).all (fun id=>!Dr E' id&&!(zM E').contains id)&&(zM E').all (fun id=>!Dr E id&&!(zM E).contains id)
def aiB (ops:Array Oper) (o o':Oper):Bool :=
 (match o.dst with|none=>true|some d=>!(tN ops o').contains d)&&(match o'.dst with|none=>true|some d=>!(tN ops o).contains d) &&
 (match o.dst,o'.dst with|some d,some d'=>d != d'|_,_=>true)
def ags (ops:Array Oper):Bool :=
 let anc:=Aa ops ops.size
 (List.range ops.size).all fun j=>(DZ ops j).all (fun i=>decide (i<j))&&(anc.getD j []).all (fun i=>decide (i<j)) &&
  (List.range j).all fun i=>(anc.getD j []).contains i||(match ops[i]?,ops[j]? with|some o,some o'=>aiB ops o o'|_,_=>false)
def Hc:Nat→List vC→List (Nat×vC)
 |_,[]=>[]
 |k,E::l=>bif quiet E then Hc (k+1) l else(k,E)::Hc (k+1) l
def CB (anc:List (List Nat)):List (Nat×vC)→Bool
 |[]=>true
 |p::l=>l.all (fun q=>(anc.getD q.1 []).contains p.1||Oa p.2 q.2)&&CB anc l
def Im (ops:Array Oper) (Es:List vC):Bool:=ags ops&&(Es.length==ops.size&&CB (Aa ops ops.size) (Hc 0 Es))
theorem ae8 {E E':vC} (h:quiet E=true):Oa E E'=true:=by
 unfold quiet at h;simp only[Bool.and_eq_true,List.isEmpty_iff,Nat.ble_eq]at h;obtain⟨h1,h2,h3⟩:=h;have e:zM E=[]:=by simp[zM,h1]
 unfold Oa;rw[e];simp only[List.all_nil,Bool.true_and,List.all_eq_true];intro id _;simp[Dr,h2]
 omega
theorem ae7 {E E':vC} (h:quiet E'=true):Oa E E'=true:=by
 unfold quiet at h;simp only[Bool.and_eq_true,List.isEmpty_iff,Nat.ble_eq]at h;obtain⟨h1,h2,h3⟩:=h;have e:zM E'=[]:=by simp[zM,h1]
 unfold Oa;rw[e];simp only[List.all_nil,Bool.and_true,List.all_eq_true];intro id _;simp[Dr,h2]
 omega
theorem Og {anc:List (List Nat)}:∀(l:List vC) (k:Nat),(∀(j:Nat) (E:vC),l[j]?=some E→quiet E=false→(k+j,E)∈Hc k l)
 |[],k,j,E,h,_=>by simp at h
 |E0::l,k,0,E,h,hq=>by
  cases h;unfold Hc;rw[hq];exact List.mem_cons_self
 |E0::l,k,j+1,E,h,hq=>by
  have ih:=Og (anc:=anc) l (k+1) j E (by simpa using h) hq
  rw[show k+1+j=k+(j+1)by omega]at ih
  unfold Hc;cases quiet E0
  ·exact List.mem_cons_of_mem _ ih
  ·exact ih
theorem H5 {anc:List (List Nat)}:∀(l:List vC) (k:Nat),CB anc (Hc k l)=true→∀(i j:Nat) (E E':vC),i<j→l[i]?=some E→l[j]?=some E'→quiet E=false→quiet E'=false→(anc.getD (k+j) []).contains (k+i)=true∨Oa E E'=true
 |[],k,h,i,j,E,E',_,hi,_,_,_=>by simp at hi
 |E0::l,k,h,0,0,E,E',hij,_,_,_,_=>by omega
 |E0::l,k,h,i+1,0,E,E',hij,_,_,_,_=>by omega
 |E0::l,k,h,0,j+1,E,E',hij,hi,hj,hq,hq'=>by
  cases hi;unfold Hc at h;rw[hq]at h;simp only[cond_false,CB,Bool.and_eq_true,List.all_eq_true,Bool.or_eq_true]at h;have:=h.1 _ (Og (anc:=anc) l (k+1) j E' (by simpa using hj) hq')
  rw[show k+1+j=k+(j+1)by omega]at this
  exact this
 |E0::l,k,h,i+1,j+1,E,E',hij,hi,hj,hq,hq'=>by
  have h':CB anc (Hc (k+1) l)=true:=by
   unfold Hc at h;cases h0:quiet E0<;>rw[h0]at h
   ·simp only[cond_false,CB,Bool.and_eq_true]at h
    exact h.2
   ·exact h
  have:=H5 l (k+1) h' i j E E' (by omega) (by simpa using hi) (by simpa using hj) hq hq'
  rw[show k+1+j=k+(j+1)by omega,show k+1+i=k+(i+1)by omega]at this
  exact this
theorem adO {ops:Array Oper} {Es:List vC} (h:Im ops Es=true):Io ops Es=true:=by
 unfold Im at h;simp only[Bool.and_eq_true,beq_iff_eq]at h;obtain⟨h1,h2,h3⟩:=h;unfold ags at h1;unfold Io;simp only[List.all_eq_true,Bool.and_eq_true,List.mem_range]at h1 ⊢;intro j hj;obtain⟨⟨a1,a2⟩,a3⟩:=h1 j hj
 refine⟨⟨a1,a2⟩,?_⟩
 intro i hi;have a4:=a3 i hi;rw[Bool.or_eq_true]at a4 ⊢;rcases a4 with a4|a4
 ·exact .inl a4
 have hEi:i<Es.length:=by omega
 have hEj:j<Es.length:=by omega
 have g1:Es[i]?=some Es[i]:=List.getElem?_eq_getElem hEi
 have g2:Es[j]?=some Es[j]:=List.getElem?_eq_getElem hEj
 have mem:(((Aa ops ops.size).getD j []).contains i=true)∨Oa Es[i] Es[j]=true:=by
  cases q1:quiet Es[i]with
  |true=>exact .inr (ae8 q1)
  |false =>
   cases q2:quiet Es[j]with
   |true=>exact .inr (ae7 q2)
   |false =>
    have:=H5 Es 0 h3 i j _ _ hi g1 g2 q1 q2
    simpa using this
 rcases mem with m|m
 ·exact .inl m
 refine .inr ?_
 rw[g1,g2];cases ho:ops[i]? with
 |none=>rw[ho]at a4;cases a4
 |some o =>
  cases ho':ops[j]? with
  |none=>rw[ho,ho']at a4;cases a4
  |some o' =>
   rw[ho,ho']at a4;simp only at a4 ⊢
   unfold aiB at a4;unfold Oa at m;unfold MM;rw[Bool.and_eq_true]at m;rw[Bool.and_eq_true,Bool.and_eq_true];exact⟨⟨a4,m.1⟩,m.2⟩
structure OF where
 f:Ft→AV
def oD:Operand→OF
 | .tmp k=>⟨fun t=>match (Ft.look (k+1) k).f t with|some v=>v|none=>.undef⟩
 | .const v=>⟨fun _=>G8 v⟩
 | .global g=>⟨fun _=>.c (.pointer (some ⟨g,0,none⟩))⟩
 | .func k=>⟨fun _=>.fn (.func k) [] []⟩
def Hi:Option Tmp→Ft.H
 |none=>⟨fun t _=>t⟩
 |some k=>Ft.lay (k+1) k
def kA (r:Option AR):MT AV:=fun t n =>
 match r with
 |none=>none
 |some ⟨v,bG,vF⟩=>match bG with
  |[]=>some ⟨v,t,n,vF,[]⟩
  |u=>some ⟨v,t.bG u,if(u.map (·.1)).contains n then n+1 else n,vF,u.map (·.1)⟩
def iK {α β:Type} (x:MT α) (k:α→MT β):MT β:=fun t n =>
 match x t n with
 |none=>none
 |some ⟨a,t1,n1,rd1,wr1⟩=>match k a t1 n1 with
  |none=>none
  |some ⟨b,t2,n2,rd2,wr2⟩=>some ⟨b,t2,n2,rd1++rd2,wr1++wr2⟩
abbrev wY:=Fn→List AV→MT AV
structure SF where
 f:wY→Ft→MT AV
def DE [Bk] (P:Program) (o:Oper):SF :=
 match o.op with
 | .move x=>⟨fun _ f t n=>some ⟨(oD x).f f,t,n,[],[]⟩⟩
 | .assign x=>⟨fun _ f t n=>some ⟨(oD x).f f,t,n,[],[]⟩⟩
 | .pick c x y=>⟨fun _ f tr nx=>kA (XG P c x y (fun o=>(oD o).f f) tr.get nx) tr nx⟩
 | .alloc e=>⟨fun _ f tr nx=>kA (PF P e (fun o=>(oD o).f f) tr.get nx) tr nx⟩
 | .box e x=>⟨fun _ f tr nx=>kA (aem P e x (fun o=>(oD o).f f) tr.get nx) tr nx⟩
 | .build t parts=>⟨fun _ f tr nx=>kA (PA P t parts (fun o=>(oD o).f f) tr.get nx) tr nx⟩
 | .buildSlice t len parts=>⟨fun _ f tr nx=>kA (Ac P t len parts (fun o=>(oD o).f f) tr.get nx) tr nx⟩
 | .load t x=>⟨fun _ f tr nx=>kA (XI P t x (fun o=>(oD o).f f) tr.get nx) tr nx⟩
 | .store t x y=>⟨fun _ f tr nx=>kA (Pv P t x y (fun o=>(oD o).f f) tr.get nx) tr nx⟩
 | .nilCheck x=>⟨fun _ f tr nx=>kA (DR P x (fun o=>(oD o).f f) tr.get nx) tr nx⟩
 | .binOp op t x y _=>⟨fun _ f tr nx=>kA (PB P op t x y (fun o=>(oD o).f f) tr.get nx) tr nx⟩
 | .unOp op _ x=>⟨fun _ f tr nx=>kA (XF P op x (fun o=>(oD o).f f) tr.get nx) tr nx⟩
 | .convert s d x=>⟨fun _ f tr nx=>kA (GG P s d x (fun o=>(oD o).f f) tr.get nx) tr nx⟩
 | .makeInterface t x=>⟨fun _ f tr nx=>kA (vA P t x (fun o=>(oD o).f f) tr.get nx) tr nx⟩
 | .makeFunc fn first captured=>⟨fun _ f tr nx=>kA (DS P fn first captured (fun o=>(oD o).f f) tr.get nx) tr nx⟩
 | .makeSlice t x y=>⟨fun _ f tr nx=>kA (B6 P t x y (fun o=>(oD o).f f) tr.get nx) tr nx⟩
 | .slice t x lo hi mx=>⟨fun _ f tr nx=>kA (Pw P t x lo hi mx (fun o=>(oD o).f f) tr.get nx) tr nx⟩
 | .fieldAddr t x k=>⟨fun _ f tr nx=>kA (B8 P t x k (fun o=>(oD o).f f) tr.get nx) tr nx⟩
 | .field t x k=>⟨fun _ f tr nx=>kA (Pz P t x k (fun o=>(oD o).f f) tr.get nx) tr nx⟩
 | .indexAddr t x ix=>⟨fun _ f tr nx=>kA (B7 P t x ix (fun o=>(oD o).f f) tr.get nx) tr nx⟩
 | .index t x ix=>⟨fun _ f tr nx=>kA (Py P t x ix (fun o=>(oD o).f f) tr.get nx) tr nx⟩
 | .extract x k=>⟨fun _ f tr nx=>kA (GD P x k (fun o=>(oD o).f f) tr.get nx) tr nx⟩
 | .typeAssert x _ asserted ok=>⟨fun _ f tr nx=>kA (Ab P x asserted ok (fun o=>(oD o).f f) tr.get nx) tr nx⟩
 | .range t x=>⟨fun _ f tr nx=>kA (Px P t x (fun o=>(oD o).f f) tr.get nx) tr nx⟩
 | .next x str=>⟨fun _ f tr nx=>kA (XH P x str (fun o=>(oD o).f f) tr.get nx) tr nx⟩
 | .makeMap _ rs=>⟨fun _ f tr nx=>kA (GB P rs (fun o=>(oD o).f f) tr.get nx) tr nx⟩
 | .insert t x k y=>⟨fun _ f tr nx=>kA (IJ P t x k y (fun o=>(oD o).f f) tr.get nx) tr nx⟩
 | .lookup t x k ok=>⟨fun _ f tr nx=>kA (II P t x k ok (fun o=>(oD o).f f) tr.get nx) tr nx⟩
 | .call { callee:=.builtin .len,args,argTypes }=>⟨fun _ f tr nx=>kA (PE P args argTypes (fun o=>(oD o).f f) tr.get nx) tr nx⟩
 | .call { callee:=.builtin .append,args,argTypes }=>⟨fun _ f tr nx=>kA (DT P args argTypes (fun o=>(oD o).f f) tr.get nx) tr nx⟩
 | .call { callee:=.builtin .max,args,argTypes }=>⟨fun _ f tr nx=>kA (PD P args argTypes (fun o=>(oD o).f f) tr.get nx) tr nx⟩
 | .call { callee:=.builtin .min,args,argTypes }=>⟨fun _ f tr nx=>kA (PC P args argTypes (fun o=>(oD o).f f) tr.get nx) tr nx⟩
 | .call { callee:=.builtin .clear,args,argTypes }=>⟨fun _ f tr nx=>kA (GH P args argTypes (fun o=>(oD o).f f) tr.get nx) tr nx⟩
 | .call { callee:=.value g,args,.. }=>⟨fun call f=>match (oD g).f f with
  | .fn (.func k) first captured=>call (.func k) (first++(args.toList.map fun o=>(oD o).f f)++captured)
  | .DW id=>call (.yield id) (args.toList.map fun o=>(oD o).f f)
  |_=>cI⟩
 |_=>⟨fun call f=>iS P call o f⟩
def orS (x y:Option (RT AV)):Option (RT AV):=match x with
 |some r=>some r
 |none=>y
def C8 [Bk] (P:Program) (o:Oper):SF :=
 let c:=DE P o
 let s:SF:=⟨fun call f t n=>orS (c.f call f t n) (kA (fZ P o.op (fun o=>(oD o).f f) t.get n) t n)⟩
 match o.op with
 | .load .. | .nilCheck .. | .fieldAddr .. | .indexAddr .. | .store ..=>s
 | .call { callee:=.builtin .len,.. }=>s
 | .call { callee:=.builtin .append,.. }=>s
 |_=>c
structure QF where
 f:wY→Ft→MT Ft
def yB [Bk] (P:Program) (ops:Array Oper):List Oper→QF
 |[]=>⟨fun _ f=>dP f⟩
 |o::l=>match o.guard with
  |none=>match o.op with
   | .move x=>⟨fun call f=>(yB P ops l).f call ((Hi o.dst).f f ((oD x).f f))⟩
   | .assign x=>⟨fun call f=>(yB P ops l).f call ((Hi o.dst).f f ((oD x).f f))⟩
   |_=>⟨fun call f=>iK ((C8 P o).f call f) fun v=>(yB P ops l).f call ((Hi o.dst).f f v)⟩
  |some _=>⟨fun call f=>match pD ops o f with
   |some true=>iK ((C8 P o).f call f) fun v=>(yB P ops l).f call ((Hi o.dst).f f v)
   |some false=>(yB P ops l).f call ((Hi o.dst).f f .undef)
   |none=>cI⟩
structure DF where
 f:wY→Ft→MT (Ft×List vC)
def ahW (x:MT AV):MT (AV×vC):=fun t n =>
 match x t n with
 |none=>none
 |some ⟨a,t1,n1,rd,wr⟩=>some ⟨(a,⟨a,(wr++List.range' n (n1-n)).map fun id=>(id,t1.get id),rd,n,n1,false⟩),t1,n1,rd,wr⟩
def Gg [Bk] (P:Program) (ops:Array Oper):List Oper→DF
 |[]=>⟨fun _ f=>dP (f,[])⟩
 |o::l=>⟨fun call f=>match pD ops o f with
  |some true=>iK (ahW ((C8 P o).f call f)) fun v=>iK ((Gg P ops l).f call ((Hi o.dst).f f v.1)) fun q=>dP (q.1,v.2::q.2)
  |some false=>iK ((Gg P ops l).f call ((Hi o.dst).f f .undef)) fun q=>dP (q.1,⟨.undef,[],[],0,0,true⟩::q.2)
  |none=>cI⟩
structure CF where
 f:wY→Nat→Ft→MT (AX×Ft)
def adl (g:CF) (call:wY):Nat→Ft→MT (AX×Ft)
 |0,_=>cI
 |n+1,f=>iK (g.f call n f) fun q=>match q with
  |(.normal,f')=>adl g call n f'
  |q=>dP q
def nK [Bk] (P:Program) (tp:Bool):Code→CF
 | .skip=>⟨fun _ n f=>match n with|0=>cI|_+1=>dP (.normal,f)⟩
 | .region _ ops draw=>if draw then⟨fun call n f=>match n with
   |0=>cI
   |_+1=>iK (if P.follows .mixedOrders then iK ((Gg P ops ops.toList).f call f) fun q=>if Im ops q.2 then dP q.1 else cI else cI) fun f'=>dP (.normal,f')⟩
  else⟨fun call n f=>match n with
   |0=>cI
   |_+1=>iK ((yB P ops ops.toList).f call f) fun f'=>dP (.normal,f')⟩
 | .seq x y=>⟨fun call n f=>match n with
  |0=>cI
  |n+1=>iK ((nK P tp x).f call n f) fun q=>match q with
   |(.normal,f')=>(nK P tp y).f call n f'
   |q=>dP q⟩
 | .cond c x y=>⟨fun call n f=>match n with
  |0=>cI
  |n+1=>match (oD c).f f with
   | .c (.bool b)=>bif b then(nK P tp x).f call n f else(nK P tp y).f call n f
   |_=>cI⟩
 | .block id c=>⟨fun call n f=>match n with
  |0=>cI
  |n+1=>iK ((nK P tp c).f call n f) fun q=>match q with
   |(.exit id',f')=>if id'=id then dP (.normal,f')else dP (.exit id',f')
   |q=>dP q⟩
 | .loop c=>⟨fun call n f=>adl (nK P tp c) call n f⟩
 | .rangeFunc g ps as bd=>⟨fun call n f=>match n with
  |0=>cI
  |_+1=>if tp then match (oD g).f f with
    | .fn (.func k) [] captured=>match Ft.list f 4096 0 with
     |none=>cI
     |some l=>iK (Ig l ps as bd) fun id=>iK (call (.func k) (.DW id::captured)) fun _=>iK (Ea id xN) fun x=>dP (x,f)
    |_=>cI
   else cI⟩
 | .scope c=>⟨fun call n f=>match n with
  |0=>cI
  |n+1=>(nK P tp c).f call n f⟩
 | .label _=>⟨fun _ n f=>match n with|0=>cI|_+1=>dP (.normal,f)⟩
 | .exit id=>⟨fun _ n f=>match n with|0=>cI|_+1=>dP (.exit id,f)⟩
 | .ret=>⟨fun _ n f=>match n with|0=>cI|_+1=>dP (.ret,f)⟩
 |_=>⟨fun _ _ _=>cI⟩
def OW {α:Type} (x:MT α):MT α:=fun t n =>
 match x t n with
 |none=>none
 |some ⟨a,t1,n1,rd,wr⟩=>some ⟨a,t1,n1,(rd.filter fun id=>!(decide (n≤id)&&decide (id<n1))).eraseDups,(wr.filter fun id=>!(decide (n≤id)&&decide (id<n1))).eraseDups⟩
structure FF where
 f:wY→List AV→MT AV
def adV [Bk] (P:Program) (L:Nat) (k:FuncId):FF :=
 match P.funcs[k]? with
  |none=>⟨fun _ _=>cI⟩
  |some fn =>
   let body:wY→List AV→MT AV:=match fn.body with
    |none=>fun _ _=>cI
    | some c => if fn.name == "runtime.NumGoroutine" then fun _ _ => cI else fun call args =>
     OW (iK ((nK P true c).f call L (Ft.of (args.length+fn.ntmps) (args++List.replicate (fn.ntmps-args.length) .undef))) fun q=>match q.1 with
      | .exit _=>cI
      |_=>Rm P fn q.2)
   match pP fn with
   |some t=>⟨fun call args=>match args with
    |[x]=>EA P t x
    |_=>body call args⟩
   |none=>⟨body⟩
def PT [Bk] (P:Program) (L:Nat) (call:wY) (id:Nat) (args:List AV):MT AV :=
 iK (Ea id aaJ) fun q=>if args.length=q.2.1.size then
  iK ((nK P false q.2.2.1).f call L (Ft.of (HN q.1 q.2.1 args).length (HN q.1 q.2.1 args))) fun r=>match r.1 with
   | .normal=>iK (Ea id Iz) fun _=>iK ((nK P false q.2.2.2).f call L r.2) fun s=>Ea id (Hu s.1)
   |_=>cI
 else cI
def jF [Bk] (P:Program) (L:Nat):Nat→Fn→List AV→MT AV
 |0,_,_=>cI
 |d+1,.func k,args=>match OP P k args with
  |some v=>dP v
  |none=>if knB P k=true then knT k args else(adV P L k).f (jF P L d) args
 |d+1,.yield id,args=>OW (PT P L (jF P L d) id args)
 |_+1,_,_=>cI
def Di [Bk] (P:Program) (L d:Nat) (k:FuncId) (args:List AV):MT AV:=jF P L d (.func k) args
def Le {α:Type} (x y:MT α):Prop:=∀t n r,x t n=some r→y t n=some r
theorem Le.refl {α:Type} (x:MT α):Le x x:=fun _ _ _ h=>h
theorem Le.fail {α:Type} {y:MT α}:Le cI y:=fun _ _ _ h=>by cases h
theorem Le.bind {α β:Type} {x y:MT α} {k l:α→MT β} (h:Le x y) (hk:∀a,Le (k a) (l a)):Le (iK x k) (fM y l):=by
 intro t n r hr;unfold iK at hr;unfold fM;cases hx:x t n with
 |none=>rw[hx]at hr;cases hr
 |some q =>
  obtain⟨a,t1,n1,rd1,wr1⟩:=q;rw[hx]at hr;simp only at hr
  rw[h _ _ _ hx];simp only
  cases hy:k a t1 n1 with
  |none=>rw[hy]at hr;cases hr
  |some s =>
   obtain⟨b,t2,n2,rd2,wr2⟩:=s;rw[hy]at hr;rw[hk a _ _ _ hy];exact hr
theorem P6 {α β:Type} (v:α) (k:α→MT β):fM (dP v) k=k v:=by
 funext t n
 unfold fM dP;simp only
 cases k v t n with
 |none=>rfl
 |some s=>obtain⟨b,t2,n2,rd2,wr2⟩:=s;simp
theorem FJ (o:Operand) (f:Ft):(oD o).f f=kU f o:=by cases o<;>rfl
theorem LM (f:Ft):(fun o=>(oD o).f f)=kU f:=funext fun o=>FJ o f
theorem BO (d:Option Tmp) (f:Ft) (v:AV):(Hi d).f f v=f.st d v:=by cases d<;>rfl
theorem afF (r:Option AR) (t:Tr) (n:Nat):kA r t n=(match r with
 |none=>none
 |some r=>some ⟨r.v,t.bG r.bG,if(r.bG.map (·.1)).contains n then n+1 else n,r.vF,r.bG.map (·.1)⟩):=by
 cases r with
 |none=>rfl
 |some r =>
  obtain⟨v,bG,vF⟩:=r;cases bG with
  |nil=>rfl
  |cons u us=>rfl
section
variable {P:Program} {cf ct:wY}
theorem aeb [Bk] (op:Op) (f:Ft):af7 P op f=fun t n=>kA (DO P op (fun o=>(oD o).f f) t.get n) t n:=by
 funext t n
 rw[afF,LM];rfl
theorem Df [Bk] (hc:∀k args,Le (cf k args) (ct k args)) (o:Oper) (f:Ft):Le (iS P cf o f) (iS P ct o f):=by
 unfold iS;cases jK P (kU f) o.op with
 |none =>
  simp only
  cases mU (kU f) o.op with
  |none=>exact Le.refl _
  |some p=>exact hc _ _
 |some p=>exact hc _ _
theorem S5 [Bk] {o:Oper} {f:Ft} {g:Operand} {args:Array Operand} {tys:Array TypeId} (h:o.op=.call ⟨.value g,args,tys⟩) {k:FuncId} {first captured:List AV} (hg:kU f g=.fn (.func k) first captured) :
  iS P ct o f=ct (.func k) (first++args.toList.map (kU f)++captured):=by
 unfold iS;have e:jK P (kU f) o.op=some (k,first++args.toList.map (kU f)++captured):=by
  rw[h];unfold jK;simp only[hg]
 rw[e]
theorem SZ [Bk] {o:Oper} {f:Ft} {g:Operand} {args:Array Operand} {tys:Array TypeId} (h:o.op=.call ⟨.value g,args,tys⟩) {id:Nat} (hg:kU f g=.DW id) :
  iS P ct o f=ct (.yield id) (args.toList.map (kU f)):=by
 unfold iS;have e:jK P (kU f) o.op=none:=by
  rw[h];unfold jK;simp only[hg]
 have e2:mU (kU f) o.op=some (id,args.toList.map (kU f)):=by
  rw[h];unfold mU;simp only[hg]
 rw[e];simp only[e2]
theorem De [Bk] {o:Oper} {f:Ft} (h:jK P (kU f) o.op=none) (hy:mU (kU f) o.op=none):iS P ct o f=fun t n=>kA (DO P o.op (fun o=>(oD o).f f) t.get n) t n:=by
 unfold iS;rw[h];simp only[hy];exact aeb _ f
theorem agT [Bk] (op:Op) (ρ:Operand→AV):Le (fun t n=>kA (af9 P op ρ t.get n) t n) (fun t n=>kA (DO P op ρ t.get n) t n):=by
 intro t n r hr;simp only at hr ⊢
 unfold DO;cases h:af9 P op ρ t.get n with
 |none=>rw[h]at hr;cases hr
 |some q=>rw[h]at hr;exact hr
set_option maxHeartbeats 1000000 in
theorem BQ [Bk] (hc:∀k args,Le (cf k args) (ct k args)) (o:Oper) (f:Ft):Le ((DE P o).f cf f) (iS P ct o f):=by
 cases h:o.op
 case call c =>
  obtain⟨cl,args,tys⟩:=c;cases cl with
  |value g =>
   unfold DE;rw[h];show Le (match (oD g).f f with
    | .fn (.func k) first captured=>cf (.func k) (first++(args.toList.map fun o=>(oD o).f f)++captured)
    | .DW id=>cf (.yield id) (args.toList.map fun o=>(oD o).f f)
    |_=>cI) _
   rw[FJ];split
   ·rename_i k first captured he
    rw[S5 h he,LM];exact hc _ _
   ·rename_i id he
    rw[SZ h he,LM];exact hc _ _
   ·exact Le.fail
  |builtin b =>
   unfold DE;rw[h];cases b<;>first
    |exact Df hc o f
    |(rw[De (by rw[h];rfl) (by rw[h];rfl),h];exact fun t n r hr=>agT _ _ t n r hr)
  |_ =>
   unfold DE;rw[h];exact Df hc o f
 all_goals
  unfold DE;rw[h];first
   |exact Df hc o f
   |(rw[De (by rw[h];rfl) (by rw[h];rfl),h];exact fun t n r hr=>agT _ _ t n r hr)
theorem Ip [Bk] (hc:∀k args,Le (cf k args) (ct k args)) (o:Oper) (f:Ft):Le ((C8 P o).f cf f) (iS P ct o f):=by
 have s:jK P (kU f) o.op=none→mU (kU f) o.op=none→Le (fun t n=>orS ((DE P o).f cf f t n) (kA (fZ P o.op (fun o=>(oD o).f f) t.get n) t n)) (iS P ct o f):=by
  intro h1 h2 t n r hr;simp only at hr
  cases hx:(DE P o).f cf f t n with
  |some q=>rw[hx]at hr;cases hr;exact BQ hc o f t n r hx
  |none =>
   rw[hx]at hr;have hr:kA (fZ P o.op (fun o=>(oD o).f f) t.get n) t n=some r:=hr
   rw[De h1 h2];simp only
   cases hs:fZ P o.op (fun o=>(oD o).f f) t.get n with
   |none=>rw[hs]at hr;cases hr
   |some q =>
    rw[hs]at hr;unfold DO;rw[XE,IC (h':=t.get) (nx':=n) hs];simp only[hs];exact hr
 unfold C8;cases h:o.op
 case load=>(rw[h]at s;exact s rfl rfl)
 case nilCheck=>(rw[h]at s;exact s rfl rfl)
 case fieldAddr=>(rw[h]at s;exact s rfl rfl)
 case indexAddr=>(rw[h]at s;exact s rfl rfl)
 case store=>(rw[h]at s;exact s rfl rfl)
 case call c =>
  obtain⟨cl,args,tys⟩:=c;cases cl with
  |builtin b =>
   cases b<;>first
    |(rw[h]at s;exact s rfl rfl)
    |exact BQ hc o f
  |_=>exact BQ hc o f
 all_goals exact BQ hc o f
theorem OX [Bk] (hc:∀k args,Le (cf k args) (ct k args)) (ops:Array Oper):∀(l:List Oper) (f:Ft),Le ((yB P ops l).f cf f) (zZ P ct ops l f)
 |[],f=>Le.refl _
 |o::l,f=>by
  have ih:=OX hc ops l;have go:Le (iK ((C8 P o).f cf f) fun v=>(yB P ops l).f cf ((Hi o.dst).f f v)) (fM (iS P ct o f) fun v=>zZ P ct ops l (f.st o.dst v)) :=
   Le.bind (Ip hc o f) fun v=>by rw[BO];exact ih _
  have mv:∀x,iS P ct o f=dP (kU f x)→Le ((yB P ops l).f cf ((Hi o.dst).f f ((oD x).f f))) (fM (iS P ct o f) fun v=>zZ P ct ops l (f.st o.dst v)):=by
   intro x hx;rw[hx,P6,BO,FJ];exact ih _
  simp only[yB,zZ];cases hg:o.guard with
  |none =>
   have hgt:pD ops o f=some true:=by unfold pD;rw[hg]
   rw[hgt];simp only
   split
   ·rename_i x hx
    refine mv x ?_
    unfold iS;rw[hx];rfl
   ·rename_i x hx
    refine mv x ?_
    unfold iS;rw[hx];rfl
   ·exact go
  |some q =>
   simp only
   cases pD ops o f with
   |none=>exact Le.fail
   |some b =>
    cases b
    ·simp only;rw[BO];exact ih _
    ·exact go
theorem afw {x y:MT AV} (h:Le x y):Le (ahW x) (N6 y):=by
 intro t n r hr;unfold ahW at hr;unfold N6;cases hx:x t n with
 |none=>rw[hx]at hr;cases hr
 |some q =>
  obtain⟨a,t1,n1,rd1,wr1⟩:=q;rw[hx]at hr;rw[h _ _ _ hx];exact hr
theorem OY [Bk] (hc:∀k args,Le (cf k args) (ct k args)) (ops:Array Oper):∀(l:List Oper) (f:Ft),Le ((Gg P ops l).f cf f) (wO P ct ops l f)
 |[],f=>Le.refl _
 |o::l,f=>by
  have ih:=OY hc ops l;simp only[Gg,wO];cases pD ops o f with
  |none=>exact Le.fail
  |some b =>
   cases b
   ·simp only
    exact Le.bind (by rw[BO];exact ih _) fun q=>Le.refl _
   ·simp only
    exact Le.bind (afw (Ip hc o f)) fun v=>Le.bind (by rw[BO];exact ih _) fun q=>Le.refl _
theorem afO [Bk] (hc:∀k args,Le (cf k args) (ct k args)) (ops:Array Oper) (f:Ft) :
  Le (if P.follows .mixedOrders then iK ((Gg P ops ops.toList).f cf f) fun q=>if Im ops q.2 then dP q.1 else cI else cI) (Dg P ct ops f):=by
 unfold Dg;split
 ·refine Le.bind (OY hc ops _ f) fun q=>?_
  by_cases h:Im ops q.2=true
  ·rw[if_pos h,if_pos (adO h)];exact Le.refl _
  ·rw[if_neg h];exact Le.fail
 ·exact Le.fail
theorem kS [Bk] (hc:∀k args,Le (cf k args) (ct k args)) {tp:Bool}:∀(n:Nat) (c:Code) (f:Ft),Le ((nK P tp c).f cf n f) (gQ P ct tp n c f)
 |0,c,f=>by
  cases c<;>try exact Le.fail
  case region id ops draw=>cases draw<;>exact Le.fail
 |n+1,c,f=>by
  cases c with
  |skip=>exact Le.refl _
  |region id ops draw =>
   cases draw
   ·show Le (iK ((yB P ops ops.toList).f cf f) fun f'=>dP (AX.normal,f')) (fM (zZ P ct ops ops.toList f) fun f'=>dP (AX.normal,f'))
    exact Le.bind (OX hc ops _ f) fun f'=>Le.refl _
   ·show Le (iK (if P.follows .mixedOrders then iK ((Gg P ops ops.toList).f cf f) fun q=>if Im ops q.2 then dP q.1 else cI else cI) fun f'=>dP (AX.normal,f')) (fM (Dg P ct ops f) fun f'=>dP (AX.normal,f'))
    exact Le.bind (afO hc ops f) fun f'=>Le.refl _
  |seq x y =>
   refine Le.bind (kS hc n x f) fun q=>?_
   obtain⟨a,f'⟩:=q;cases a with
   |normal=>exact kS hc n y f'
   |_=>exact Le.refl _
  |cond c x y =>
   show Le (match (oD c).f f with | .c (.bool b)=>bif b then(nK P tp x).f cf n f else(nK P tp y).f cf n f|_=>cI) (match kU f c with | .c (.bool b)=>gQ P ct tp n (if b then x else y) f|_=>cI)
   rw[FJ];split
   ·rename_i b _
    cases b
    ·exact kS hc n y f
    ·exact kS hc n x f
   ·exact Le.fail
  |block id c =>
   refine Le.bind (kS hc n c f) fun q=>?_
   obtain⟨a,f'⟩:=q;cases a with
   |exit id' =>
    simp only
    split<;>exact Le.refl _
   |_=>exact Le.refl _
  |loop c =>
   have key:∀(m:Nat) (f:Ft),m≤n+1→(∀m',m'<m→∀f,Le ((nK P tp c).f cf m' f) (gQ P ct tp m' c f))→Le (adl (nK P tp c) cf m f) (gQ P ct tp m (.loop c) f):=by
    intro m;induction m with
    |zero=>intro f _ _;exact Le.fail
    |succ m ih =>
     intro f hm hb;refine Le.bind (hb m (by omega) f) fun q=>?_
     obtain⟨a,f'⟩:=q;cases a with
     |normal=>exact ih f' (by omega) (fun m' h=>hb m' (by omega))
     |_=>exact Le.refl _
   exact key (n+1) f (Nat.le_refl _) fun m' h f=>kS hc m' c f
  |rangeFunc g ps as bd =>
   show Le (if tp then match (oD g).f f with
    | .fn (.func k) [] captured=>match Ft.list f 4096 0 with
     |none=>cI
     |some l=>iK (Ig l ps as bd) fun id=>iK (cf (.func k) (.DW id::captured)) fun _=>iK (Ea id xN) fun x=>dP (x,f)
    |_=>cI
   else cI) (if tp then match kU f g with
    | .fn (.func k) [] captured=>match Ft.list f 4096 0 with
     |none=>cI
     |some l=>fM (Ig l ps as bd) fun id=>fM (ct (.func k) (.DW id::captured)) fun _=>fM (Ea id xN) fun x=>dP (x,f)
    |_=>cI
   else cI)
   rw[FJ];cases tp with
   |false=>exact Le.fail
   |true =>
    simp only[if_true];split
    ·cases Ft.list f 4096 0 with
     |none=>exact Le.fail
     |some l=>exact Le.bind (Le.refl _) fun id=>Le.bind (hc _ _) fun _=>Le.bind (Le.refl _) fun x=>Le.refl _
    ·exact Le.fail
  |scope c=>exact kS hc n c f
  |label l=>exact Le.refl _
  |exit id=>exact Le.refl _
  |ret=>exact Le.refl _
  |_=>exact Le.fail
 termination_by n=>n
 decreasing_by all_goals omega
theorem OV {α:Type} {x y:MT α} (h:Le x y):Le (OW x) (xQ y):=by
 intro t n r hr;unfold OW at hr;unfold xQ;cases hx:x t n with
 |none=>rw[hx]at hr;cases hr
 |some q =>
  obtain⟨a,t1,n1,rd1,wr1⟩:=q;rw[hx]at hr;rw[h _ _ _ hx];exact hr
theorem adU [Bk] (L:Nat) (hc:∀k args,Le (cf k args) (ct k args)) (k:FuncId) (args:List AV):Le ((adV P L k).f cf args) (BZ P L ct k args):=by
 unfold adV BZ;cases P.funcs[k]? with
 |none=>exact Le.fail
 |some fn =>
  simp only
  have body:Le ((match fn.body with
    |none=>fun _ _=>cI
    | some c => if fn.name == "runtime.NumGoroutine" then fun _ _ => cI else fun call args =>
     OW (iK ((nK P true c).f call L (Ft.of (args.length+fn.ntmps) (args++List.replicate (fn.ntmps-args.length) .undef))) fun q=>match q.1 with
      | .exit _=>cI
      |_=>Rm P fn q.2):wY→List AV→MT AV) cf args) (match fn.body with
    |none=>cI
    | some c => if fn.name == "runtime.NumGoroutine" then cI else
     xQ (fM (gQ P ct true L c (Ft.of (args.length+fn.ntmps) (args++List.replicate (fn.ntmps-args.length) .undef))) fun q=>match q.1 with
      | .exit _=>cI
      |_=>Rm P fn q.2)):=by
   cases fn.body with
   |none=>exact Le.fail
   |some c =>
    simp only
    split
    ·exact Le.fail
    ·refine OV (Le.bind (kS hc L c _) fun q=>?_)
     split
     ·exact Le.fail
     ·exact Le.refl _
  cases pP fn with
  |none=>exact body
  |some t =>
   cases args with
   |nil=>exact body
   |cons x l =>
    cases l with
    |nil=>exact Le.refl _
    |cons y l=>exact body
theorem XO [Bk] (hc:∀k args,Le (cf k args) (ct k args)) (L id:Nat) (args:List AV):Le (PT P L cf id args) (BV P L ct id args):=by
 unfold PT BV;refine Le.bind (Le.refl _) fun q=>?_
 split
 ·refine Le.bind (kS hc L _ _) fun r=>?_
  obtain⟨x,f⟩:=r;cases x with
  |normal=>exact Le.bind (Le.refl _) fun _=>Le.bind (kS hc L _ _) fun s=>Le.refl _
  |_=>exact Le.fail
 ·exact Le.fail
theorem zI [Bk] (L:Nat):∀d k args,Le (jF P L d k args) (uK P L d k args)
 |0,k,args=>Le.fail
 |d+1,.func k,args=>by
  have ih:=adU (P:=P) L (zI L d) k args
  simp only[jF,uK];cases OP P k args with
  |some v=>exact Le.refl _
  |none =>
   simp only
   split
   ·exact Le.refl _
   ·exact ih
 |d+1,.yield id,args=>OV (XO (zI L d) L id args)
 |d+1,.method _,args=>Le.fail
 |d+1,.methodOf _ _,args=>Le.fail
 |d+1,.via _ _ _ _,args=>Le.fail
theorem IH [Bk] (L d:Nat) (k:FuncId) (args:List AV):Le (Di P L d k args) (uK P L d (.func k) args):=zI L d (.func k) args
theorem aaf [Bk] {L d:Nat} {k:FuncId} {args:List AV} {t:Tr} {n:Nat} (h:yN (Di P L d k args t n)=true):yN (uK P L d (.func k) args t n)=true:=by
 cases hr:Di P L d k args t n with
 |none=>rw[hr]at h;cases h
 |some r=>rw[hr]at h;rw[IH L d k args t n r hr];exact h
end
end Mc
namespace Mc
section
variable {P:Program}
theorem bW.none [Bk] [Ev] {A:Nat→Prop} {w:World} (hA:∀b,A b→b<w.heap.size) (hg:GOk A w):bW (fun _=>.no) A (fun _=>.no) w where
 out:=fun _ _ h=>by cases h
 El:=hA
 no:=fun _ _=>rfl
 dead:=fun _ h=>by cases h
 rL:=fun _ _ _ _ h=>by simp[bY.aN]at h
 inj:=fun _ _ _ h=>by cases h
 kI:=hg
 others:=fun _ _ h hB=>by subst h;exact absurd hB (by simp[bY.other])
 PR:=fun _=>trivial
theorem GOk.none [Bk] {A:Nat→Prop} {w:World} (h:Bk.kI=[]):GOk A w:=fun t ht=>absurd (h▸ht:t∈[]) List.not_mem_nil
theorem Ext.below [Bk] [Ev] {m m':Nat→St} {w w':World} (h:Ext m w m' w') (hm:∀id b,m id≠.at b):Below w.heap.size w w' :=
 ⟨h.os,h.tape,h.output,h.size,fun k hk=>(h.un k hk fun id=>hm id k).2⟩
theorem eT.plain [Bk] [Ev] {k:FuncId} {args:List AV} {R:AV→AH→Prop} (h:eT P k args (fun _=>.no) R) (vs:Array Value) (hl:vs.size=args.length) (w:World) (A:Nat→Prop) (hA:∀b,A b→b<w.heap.size) (hg:GOk A w) (hv:∀(i:Nat) (x:AV),args[i]?=some x→dG A w x (vs.getD i Go.undef)) :
  Calls P k vs w fun e w'=>∃v u m' h',e=.returned v∧R u h'∧Rd m' A w' u v∧bW m' A h' w'∧Below w.heap.size w w':=by
 refine(h (fun _=>.no) A w vs (bW.none hA hg) hl fun i x hx=>.pure _ _ ((hv i x hx).mono (Nat.le_refl _) fun b _ hb=>⟨?_,rfl⟩)).mono ?_
 ·rintro(h|⟨id,h⟩)
  ·exact hb h
  ·cases h
 ·rintro e w' ⟨v,u,m',h',h1,h2,h3,h4,h5⟩
  exact⟨v,u,m',h',h1,h2,h4,h3,h5.below fun id b h=>by cases h⟩
theorem Oq:Tr.leaf.get=fun _=>bY.no:=by funext j;exact @Tr.kR dI dN j
theorem akf:@jH dI dN P:=⟨fun k ps rs h=>absurd h List.not_mem_nil,fun k h=>absurd h List.not_mem_nil,fun k as r h=>absurd h List.not_mem_nil⟩
theorem XP {L d:Nat} {k:FuncId} (h:yN (@Di dI P L d k [] .leaf 0)=true) (w:World):Calls P k #[] w fun e w'=>e=.returned (.bool true)∧Below w.heap.size w w':=by
 obtain⟨h',hc⟩:=@Rg P dI dN akf L d k [] .leaf 0 (@aaf P dI L d k [] .leaf 0 h)
 rw[Oq]at hc;refine(@eT.plain P dI dN k [] _ hc #[] rfl w (fun _=>False) (fun _ h=>h.elim) (fun t ht=>absurd ht List.not_mem_nil) (by intro i x hx;simp at hx)).mono ?_
 rintro e w' ⟨v,u,m',h'',rfl,⟨rfl,-⟩,hr,-,hb⟩
 exact⟨by rw[@Rd.dY dI dN _ _ _ _ _ hr],hb⟩
theorem Xm:∀{l:List (Int×Int)} {xs:List Int},l.length=xs.length→(∀t∈l.zip xs,t.1.1≤t.2∧t.2≤t.1.2)→∀i,(l.getD i (0,0)).1≤xs.getD i 0∧xs.getD i 0≤(l.getD i (0,0)).2
 |[],[],_,_,i=>by simp
 |[],_::_,h,_,_=>by simp at h
 |_::_,[],h,_,_=>by simp at h
 |a::l,x::xs,h,hb,0=>hb (a,x) (by simp)
 |a::l,x::xs,h,hb,i+1=>by
  simp only[List.getD_cons_succ];exact Xm (by simpa using h) (fun t ht=>hb t (by rw[List.zip_cons_cons];exact List.mem_cons_of_mem _ ht)) i
inductive jO:List (Int×Int)→List Int→Prop
 |nil:jO [] []
 |cons {a b x:Int} {l:List (Int×Int)} {xs:List Int} (h1:a≤x) (h2:x≤b) (h:jO l xs):jO ((a,b)::l) (x::xs)
theorem jO.len {l:List (Int×Int)} {xs:List Int} (h:jO l xs):l.length=xs.length:=by induction h<;>simp_all
theorem jO.all {l:List (Int×Int)} {xs:List Int} (h:jO l xs):∀t∈l.zip xs,t.1.1≤t.2∧t.2≤t.1.2:=by
 induction h with
 |nil=>intro t ht;simp at ht
 |cons h1 h2 _ ih =>
  intro t ht;rw[List.zip_cons_cons]at ht;rcases List.mem_cons.1 ht with rfl|ht
  ·exact⟨h1,h2⟩
  ·exact ih t ht
inductive jQ (ρ:Nat→Int):List (Poly×Int×Int)→Prop
 |nil:jQ ρ []
 |cons {p:Poly} {a b:Int} {l:List (Poly×Int×Int)} (h1:a≤bJ ρ p) (h2:bJ ρ p≤b) (h:jQ ρ l):jQ ρ ((p,a,b)::l)
theorem jQ.all {ρ:Nat→Int} {l:List (Poly×Int×Int)} (h:jQ ρ l):∀t∈l,t.2.1≤bJ ρ t.1∧bJ ρ t.1≤t.2.2:=by
 induction h with
 |nil=>intro t ht;exact absurd ht List.not_mem_nil
 |cons h1 h2 _ ih =>
  intro t ht;rcases List.mem_cons.1 ht with rfl|ht
  ·exact⟨h1,h2⟩
  ·exact ih t ht
inductive vD (ρ:Nat→Int):List (Nat×Poly×Poly×Poly)→Prop
 |nil:vD ρ []
 |quo {p q r:Poly} {l:List (Nat×Poly×Poly×Poly)} (h1:bJ ρ r=(bJ ρ p).tdiv (bJ ρ q)) (h:vD ρ l):vD ρ ((0,p,q,r)::l)
 |rem {p q r:Poly} {l:List (Nat×Poly×Poly×Poly)} (h1:bJ ρ r=(bJ ρ p).tmod (bJ ρ q)) (h:vD ρ l):vD ρ ((1,p,q,r)::l)
 |agP {p q r:Poly} {l:List (Nat×Poly×Poly×Poly)} (h1:bJ ρ r=max (bJ ρ p) (bJ ρ q)) (h:vD ρ l):vD ρ ((2,p,q,r)::l)
theorem vD.all {ρ:Nat→Int} {l:List (Nat×Poly×Poly×Poly)} (h:vD ρ l):∀t∈l,(t.1=0→bJ ρ t.2.2.2=(bJ ρ t.2.1).tdiv (bJ ρ t.2.2.1))∧(t.1=1→bJ ρ t.2.2.2=(bJ ρ t.2.1).tmod (bJ ρ t.2.2.1))∧(t.1=2→bJ ρ t.2.2.2=max (bJ ρ t.2.1) (bJ ρ t.2.2.1)):=by
 induction h with
 |nil=>intro t ht;exact absurd ht List.not_mem_nil
 |quo h1 _ ih =>
  intro t ht;rcases List.mem_cons.1 ht with rfl|ht
  ·exact⟨fun _=>h1,fun h=>by simp at h,fun h=>by simp at h⟩
  ·exact ih t ht
 |rem h1 _ ih =>
  intro t ht;rcases List.mem_cons.1 ht with rfl|ht
  ·exact⟨fun h=>by simp at h,fun _=>h1,fun h=>by simp at h⟩
  ·exact ih t ht
 |agP h1 _ ih =>
  intro t ht;rcases List.mem_cons.1 ht with rfl|ht
  ·exact⟨fun h=>by simp at h,fun h=>by simp at h,fun _=>h1⟩
  ·exact ih t ht
def PL [Bk] [Ev] (P:Program) (l:List (Nat×List Poly×List Poly)):Prop:=∀k ps rs,(k,ps,rs)∈l→∀args h,toPs args=some ps→eT P k args h (fun v h'=>v=AU (rs.map AN)∧h'=h)
theorem PL.nil [Bk] [Ev]:PL P []:=fun k ps rs h=>absurd h List.not_mem_nil
def PG [Bk] [Ev] (P:Program) (l:List Nat):Prop:=∀k,k∈l→∀h,eT P k [] h (fun v h'=>v=.c (.bool true)∧h'=h)
theorem PG.nil [Bk] [Ev]:PG P []:=fun k h=>absurd h List.not_mem_nil
def MO [Bk] [Ev] (P:Program) (l:List (Nat×List AV×AV)):Prop:=∀k as r,(k,as,r)∈l→GM P k as r
theorem MO.nil [Bk] [Ev]:MO P []:=fun k as r h=>absurd h List.not_mem_nil
theorem MO.cons [Bk] [Ev] {k:Nat} {as:List AV} {r:AV} {l:List (Nat×List AV×AV)} (h:GM P k as r) (hl:MO P l):MO P ((k,as,r)::l):=by
 intro k' as' r' hm;rcases List.mem_cons.1 hm with e|hm
 ·cases e;exact h
 ·exact hl _ _ _ hm
theorem dG.cast (b1:Bk) (e1:@Ev b1) (b2:Bk) (e2:@Ev b2) (hxs:@Ev.xs b1 e1=@Ev.xs b2 e2) (hvs:@Ev.oM b1 e1=@Ev.oM b2 e2) (hss:@Ev.A4 b1 e1=@Ev.A4 b2 e2) {A:Nat→Prop} {w:World} {x:AV} {v:Value} (h:@dG b1 e1 A w x v):@dG b2 e2 A w x v:=by
 have hρ:@Ev.dL b1 e1=@Ev.dL b2 e2:=by funext i;unfold Ev.dL;rw[hxs]
 induction h with
 |c v=>exact .c v
 |undef=>exact .undef
 |emp a=>exact .emp a
 |agg cs vs hl h1 _ ih=>exact .agg cs vs hl h1 ih
 |aZ cs vs hl _ ih=>exact .aZ cs vs hl ih
 |lit sz aN b off cap vs hm hb hc hsz h1 hv _ ih=>exact .lit sz aN b off cap vs hm hb hc hsz h1 hv ih
 |nG sz a cap hm=>exact .nG sz a cap hm
 |gT sz aN i0 j0 b off vs hm hb hsz h1 hv _ ih=>exact .gT sz aN i0 j0 b off vs hm hb hsz h1 hv ih
 |fn f xs ys vs us hl hk _ _ ih1 ih2=>exact .fn f xs ys vs us hl hk ih1 ih2
 |pJ t x v _ ih=>exact .pJ t x v ih
 |e p=>rw[hρ];exact .e p
 |row n xs b off len cap hn hc hm hb hv=>exact .row n xs b off len cap (by rw[←hρ];exact hn) hc hm hb (by rw[←hρ];exact hv)
 |I8 n xs a cap hn=>exact .I8 n xs a cap (by rw[←hρ];exact hn)
 |o i =>
  have e:@Ev.val b1 e1 i=@Ev.val b2 e2 i:=by unfold Ev.val;rw[hvs]
  rw[e];exact .o i
 |any v h1=>exact .any v h1
 |seq sz base bG tail v hin h1 _ ih =>
  refine .seq sz base bG tail v (by intro q hq;have:=hin q hq;unfold XL at *;rw[←hρ];unfold Ev.seq at *;rw[←hss];exact this) h1 ?_
  have:@rowsOf b1 e1 base bG tail=@rowsOf b2 e2 base bG tail:=by unfold rowsOf Ev.seq;rw[hρ,hss]
  rw[←this];exact ih
 |tY sz base bG tail p off v hin h1 hp _ ih =>
  refine .tY sz base bG tail p off v (by intro q hq;have:=hin q hq;unfold XL at *;rw[←hρ];unfold Ev.seq at *;rw[←hss];exact this) h1 (by rw[←hρ];exact hp) ?_
  have:@rowsOf b1 e1 base bG tail=@rowsOf b2 e2 base bG tail:=by unfold rowsOf Ev.seq;rw[hρ,hss]
  rw[←this,←hρ];exact ih
 |nV v=>exact .nV v
theorem tO {r:AV→AV→Bool}:∀{a b:List AV},Ez r a b=true→a.length=b.length∧∀(i:Nat) (y:AV),b[i]?=some y→∃x,a[i]?=some x∧r x y=true
 |[],[],_=>⟨rfl,fun i y h=>by simp at h⟩
 |[],_::_,h=>by cases h
 |_::_,[],h=>by cases h
 |x::l,y::m,h=>by
  unfold Ez at h;rw[Bool.and_eq_true]at h;obtain⟨h1,h2⟩:=tO h.2;refine⟨by simp[h1],?_⟩
  intro i z hz;cases i with
  |zero=>cases hz;exact⟨x,rfl,h.1⟩
  |succ i=>exact h2 i z (by simpa using hz)
theorem BN {r:AV→AV→Bool}:∀{a b:List (List AV)},C6 r a b=true→a.length=b.length∧∀(i:Nat) (y:List AV),b[i]?=some y→∃x,a[i]?=some x∧Ez r x y=true
 |[],[],_=>⟨rfl,fun i y h=>by simp at h⟩
 |[],_::_,h=>by cases h
 |_::_,[],h=>by cases h
 |x::l,y::m,h=>by
  unfold C6 at h;rw[Bool.and_eq_true]at h;obtain⟨h1,h2⟩:=BN h.2;refine⟨by simp[h1],?_⟩
  intro i z hz;cases i with
  |zero=>cases hz;exact⟨x,rfl,h.1⟩
  |succ i=>exact h2 i z (by simpa using hz)
def isAny:AV→Bool
 | .any=>true
 |_=>false
def Hm [Bk]:Nat→AV→AV→Bool
 |0,_,_=>false
 |k+1,x,y=>bif isAny y then x.one else match x with
  | .c v=>match y with
   | .c u=>vEq v u
   | .e p=>match v with
    | .int .i64 n=>eqB (pM p (xJ n))==some true
    |_=>false
   |_=>false
  | .e q=>match y with
   | .e p=>decide (p=q)||eqB (pM p q)==some true
   | .c (.int .i64 n)=>eqB (pM q (xJ n))==some true
   |_=>false
  | .undef=>match y with | .undef=>true|_=>false
  | .emp=>match y with | .emp=>true | .lit _ []=>true|_=>false
  | .agg a=>match y with | .agg b=>Ez (Hm k) a b|_=>false
  | .aZ a=>match y with | .aZ b=>Ez (Hm k) a b|_=>false
  | .lit s a=>match y with | .lit s' b=>decide (s=s')&&C6 (Hm k) a b|_=>false
  | .row n a=>match y with | .row n' b=>decide (n=n')&&decide (a=b)|_=>false
  | .o i=>match y with | .o j=>decide (i=j)|_=>false
  | .seq s b u t=>zQ 16 (.seq s b u t) y
  |_=>false
theorem Ov {y:AV} (h:isAny y=true):y=.any:=by unfold isAny at h;split at h<;>first|rfl|cases h
theorem Pk [Bk] {k:Nat} {x y:AV} (h:Hm k x y=true) (h1:x.one=true):y.one=true:=by
 cases k with
 |zero=>cases h
 |succ k =>
  unfold Hm at h;cases hy:isAny y with
  |true=>rw[Ov hy];rfl
  |false =>
  rw[hy]at h;simp only[cond_false]at h;split at h
  ·split at h
   ·rw[←PY h];exact h1
   ·rfl
   ·cases h
  ·split at h
   ·rfl
   ·rfl
   ·cases h
  ·simp[AV.one]at h1
  ·split at h
   ·rfl
   ·rfl
   ·cases h
  ·simp[AV.one]at h1
  ·simp[AV.one]at h1
  ·split at h
   ·rfl
   ·cases h
  ·split at h
   ·rfl
   ·cases h
  ·split at h
   ·rfl
   ·cases h
  ·rw[←wM h];rfl
  ·cases h
theorem XA [Bk] [Ev] {A:Nat→Prop} {w:World}:∀{k:Nat} {x y:AV} {v:Value},Hm k x y=true→dG A w x v→dG A w y v
 |0,x,y,v,h,_=>by cases h
 |k+1,x,y,v,h,hr=>by
  have ih:∀{x y:AV} {v:Value},Hm k x y=true→dG A w x v→dG A w y v:=XA
  have pe:∀{p q:Poly},(eqB (pM p q)==some true)=true→bJ Ev.dL p=bJ Ev.dL q:=by
   intro p q hpq;have:=C7 (eq_of_beq hpq)
   rw[fQ]at this;have:=of_decide_eq_true this.symm
   omega
  unfold Hm at h;cases hy:isAny y with
  |true =>
   rw[hy]at h;rw[Ov hy];exact .any v (hr.one h)
  |false =>
  rw[hy]at h;simp only[cond_false]at h;split at h
  ·rename_i u
   split at h
   ·rw[←PY h];exact hr
   ·rename_i p
    split at h
    ·rename_i n
     cases hr;have:=pe h
     rw[qS]at this;rw[←this];exact .e p
    ·cases h
   ·cases h
  ·rename_i q
   split at h
   ·rename_i p
    cases hr;rw[Bool.or_eq_true]at h;rcases h with h|h
    ·rw[←of_decide_eq_true h];exact .e p
    ·rw[←pe h];exact .e p
   ·rename_i n
    cases hr;have:=pe h
    rw[qS]at this;rw[this];exact .c _
   ·cases h
  ·split at h
   ·exact hr
   ·cases h
  ·split at h
   ·exact hr
   ·cases hr;exact .nG _ _ 0 (Nat.zero_le _)
   ·cases h
  ·split at h
   ·obtain⟨h1,h2⟩:=tO h
    cases hr with
    |agg _ vs hl h3 h4 =>
     refine .agg _ vs (by rw[hl,h1]) ?_ ?_
     ·intro i y hy
      obtain⟨x,g1,g2⟩:=h2 i y hy;exact Pk g2 (h3 i x g1)
     ·intro i y hy
      obtain⟨x,g1,g2⟩:=h2 i y hy;exact ih g2 (h4 i x g1)
   ·cases h
  ·split at h
   ·obtain⟨h1,h2⟩:=tO h
    cases hr with
    |aZ _ vs hl h4 =>
     refine .aZ _ vs (by rw[hl,h1]) ?_
     intro i y hy;obtain⟨x,g1,g2⟩:=h2 i y hy;exact ih g2 (h4 i x g1)
   ·cases h
  ·rename_i s a
   split at h
   ·rename_i s' b
    rw[Bool.and_eq_true,decide_eq_true_eq]at h;obtain⟨rfl,h⟩:=h;obtain⟨h1,h2⟩:=BN h;have find:∀(i j:Nat) (y:AV),fW b i j=some y→∃x,fW a i j=some x∧Hm k x y=true:=by
     intro i j y hy;unfold fW at hy;cases hb:b[i]? with
     |none=>rw[hb]at hy;cases hy
     |some e =>
      rw[hb]at hy;obtain⟨e',g1,g2⟩:=h2 i e hb;obtain⟨-,l2⟩:=tO g2;obtain⟨x,q1,q2⟩:=l2 j y hy;exact⟨x,by unfold fW;rw[g1];exact q1,q2⟩
    cases hr with
    |lit _ _ bb off cap vs hA hb hc hsz h3 hv h4 =>
     rw[h1];refine .lit s b bb off cap vs hA hb (by rw[←h1];exact hc) ?_ ?_ ?_ ?_
     ·intro e he
      obtain⟨i,hi⟩:=List.mem_iff_getElem?.1 he
      obtain⟨e',g1,g2⟩:=h2 i e hi;rw[←(tO g2).1];exact hsz e' (List.mem_of_getElem? g1)
     ·intro i j y hy
      obtain⟨x,g1,g2⟩:=find i j y hy;exact Pk g2 (h3 i j x g1)
     ·intro i j y hy
      obtain⟨x,g1,g2⟩:=find i j y hy;exact hv i j x g1
     ·intro i j y hy
      obtain⟨x,g1,g2⟩:=find i j y hy;exact ih g2 (h4 i j x g1)
    |nG _ a0 cap hm =>
     have e:b=[]:=List.length_eq_zero_iff.1 h1.symm
     subst e;exact .nG _ a0 cap hm
   ·cases h
  ·split at h
   ·rw[Bool.and_eq_true,decide_eq_true_eq,decide_eq_true_eq]at h
    obtain⟨rfl,rfl⟩:=h;exact hr
   ·cases h
  ·split at h
   ·rw[decide_eq_true_eq]at h;subst h;exact hr
   ·cases h
  ·rw[←wM h];exact hr
  ·cases h
def Fe [Bk] (P:Program) (L d:Nat) (k:FuncId) (as:List AV) (r:AV):Bool :=
 match Di P L d k as .leaf 0 with
 |some q=>(match wD q.t.get 16 q.a with
  |some p=>Hm 16 p.1 r
  |none=>false)
 |none=>false
theorem ajH (b:Bk) (ev:@Ev b) (b2:Bk) (ev2:@Ev b2) (hxs:@Ev.xs b ev=@Ev.xs b2 ev2) {L d:Nat} {k:FuncId} {as:List AV} {r:AV} (h:@Fe b P L d k as r=true) (hx:@PL b ev P b.ext) (hy:@PG b ev P b.yes) (hk:@MO b ev P b.bT) (hgl:b.kI=b2.kI:=by rfl) (hvs:@Ev.oM b ev=@Ev.oM b2 ev2:=by rfl) (hss:@Ev.A4 b ev=@Ev.A4 b2 ev2:=by rfl):@GM b2 ev2 P k as r:=by
 intro A w vs hA hG hl hv;unfold Fe at h;split at h
 ·rename_i q hq
  split at h
  ·rename_i p hp
   obtain⟨p1,js⟩:=p;have hc:=@IG P b ev ⟨hx,hy,hk⟩ L d k as .leaf 0 q (@IH P b L d k as _ _ _ hq)
   rw[Oq]at hc;have hG1:@GOk b A w:=fun t ht=>hG t (show t∈b2.kI from hgl▸ht)
   have H0:@bW b ev (fun _=>.no) A (fun _=>.no) w:=@bW.none b ev A w hA hG1
   refine(hc (fun _=>.no) A w vs H0 hl fun i x hi=>@Rd.pure b ev (fun _=>.no) A w x _ ?_).mono ?_
   ·have:=dG.cast b2 ev2 b ev hxs.symm hvs.symm hss.symm (hv i x hi)
    refine @dG.mono b ev _ _ _ _ (Nat.le_refl _) (fun c _ hc=>⟨?_,rfl⟩) _ _ this
    rintro(h|⟨id,h⟩)
    ·exact hc h
    ·cases h
   ·rintro e w' ⟨v,u,m',h',rfl,⟨rfl,rfl⟩,H',hr,hE⟩
    have h1:=@CZ b ev m' A q.t.get w' H' js 16 q.a p1 js v hp (fun id h=>h) hr
    have h2:=dG.cast b ev b2 ev2 hxs hvs hss (@XA b ev _ _ 16 p1 r v h h1)
    refine⟨v,rfl,@dG.mono b2 ev2 _ _ _ _ (Nat.le_refl _) (fun c _ hc=>⟨fun h=>hc (.inl h),rfl⟩) _ _ h2,?_⟩
    exact @Ext.below b ev _ _ _ _ hE fun id b h=>by cases h
  ·cases h
 ·cases h
end
end Mc
namespace Mc
section
variable {P:Program}
structure CK (P:Program) (k:FuncId) (as:List AV) (r:AV):Prop where
 args:∀x∈as,Cl x
 res:Cl r
 ok:@GM dI dN P k as r
abbrev AV.i (v:Int):AV:=.c (.int .i64 v)
theorem CK.named (b:Bk) (ev:@Ev b) {k:FuncId} {as as':List AV} {r r':AV} (hc:CK P k as' r') (ea:as.map (@den b ev 12)=as') (er:@den b ev 12 r=r') (hu:lA 12 r=true):@GM b ev P k as r:=by
 subst ea;subst er;intro A w vs hA hG hl hv;refine(hc.ok A w vs hA (fun t h=>absurd h List.not_mem_nil) (by simpa using hl) ?_).mono ?_
 ·intro i y hy
  have hm:=List.mem_of_getElem? hy
  rw[List.getElem?_map]at hy;obtain⟨x,hx,rfl⟩:=Option.map_eq_some_iff.1 hy;exact dG.cl (b1:=b) (e1:=ev) (hc.args _ hm) (@dG.FQ b ev A w 12 x _ (hv i x hx))
 ·rintro e w' ⟨v,he,h1,h2⟩
  exact⟨v,he,@dG.Cj b ev A w' 12 r v hu (dG.cl (b2:=b) (e2:=ev) hc.res h1),h2⟩
theorem CK.ac7 (b:Bk) (ev:@Ev b) {L d:Nat} {k:FuncId} {as as':List AV} {r r':AV} (h:@Fe b P L d k as r=true) (hx:@PL b ev P b.ext) (hy:@PG b ev P b.yes) (hk:@MO b ev P b.bT) (ea:as.map (@den b ev 12)=as') (er:@den b ev 12 r=r') (ha:∀x∈as',Cl x) (hr:Cl r') (hu:as.all (lA 12)=true) (hg:b.kI=[]:=by rfl) :
  CK P k as' r':=by
 subst ea;subst er;refine⟨ha,hr,?_⟩
 have K:=ajH b ev b ev rfl h hx hy hk;intro A w vs hA hG hl hv;refine(K A w vs hA (@GOk.none b A w hg) (by simpa using hl) ?_).mono ?_
 ·intro i x hx
  have hy:(as.map (@den b ev 12))[i]?=some (@den b ev 12 x):=by rw[List.getElem?_map,hx];rfl
  exact @dG.Cj b ev A w 12 x _ (List.all_eq_true.1 hu x (List.mem_of_getElem? hx)) (dG.cl (b1:=dI) (e1:=dN) (ha _ (List.mem_of_getElem? hy)) (hv i _ hy))
 ·rintro e w' ⟨v,he,h1,h2⟩
  exact⟨v,he,dG.cl (b1:=b) (e1:=ev) hr (@dG.FQ b ev A w' 12 r v h1),h2⟩
theorem ajI (b:Bk) (ev:@Ev b):@MO b ev P []:=@MO.nil P b ev
theorem ah1 (b:Bk) (ev:@Ev b) {k:Nat} {as:List AV} {r:AV} {l:List (Nat×List AV×AV)} (h:@GM b ev P k as r) (hl:@MO b ev P l):@MO b ev P ((k,as,r)::l):=@MO.cons P b ev k as r l h hl
theorem adF (b:Bk) (ev:@Ev b):@PL b ev P []:=@PL.nil P b ev
theorem abq (b:Bk) (ev:@Ev b):@PG b ev P []:=@PG.nil P b ev
theorem aeU:∀l∈([]:List (List (List AV))),∀r∈l,∀x∈r,Cl x:=fun v h=>absurd h List.not_mem_nil
theorem abJ {l:List (List AV)} {ss:List (List (List AV))} (h:∀r∈l,∀x∈r,Cl x) (hl:∀l∈ss,∀r∈l,∀x∈r,Cl x):∀m∈l::ss,∀r∈m,∀x∈r,Cl x:=by
 intro u hu;rcases List.mem_cons.1 hu with rfl|hu
 ·exact h
 ·exact hl u hu
inductive kL (ρ:Nat→Int) (ss:List (List (List AV))):List (Nat×Poly)→Prop
 |nil:kL ρ ss []
 |cons {k:Nat} {p:Poly} {l:List (Nat×Poly)} (h1:((ss.getD k []).length:Int)=bJ ρ p) (h:kL ρ ss l):kL ρ ss ((k,p)::l)
theorem kL.all {ρ:Nat→Int} {ss:List (List (List AV))} {l:List (Nat×Poly)} (h:kL ρ ss l):∀t∈l,((ss.getD t.1 []).length:Int)=bJ ρ t.2:=by
 induction h with
 |nil=>intro t ht;exact absurd ht List.not_mem_nil
 |cons h1 h ih =>
  intro t ht;rcases List.mem_cons.1 ht with rfl|ht
  ·exact h1
  ·exact ih t ht
inductive yH (ρ:Nat→Int) (vl:Nat→Value) (ss:List (List (List AV))):List (Nat×Poly×List AV)→Prop
 |nil:yH ρ vl ss []
 |cons {k:Nat} {p:Poly} {r r0:List AV} {l:List (Nat×Poly×List AV)} (h0:0≤bJ ρ p) (h1:(ss.getD k [])[(bJ ρ p).toNat]?=some r0) (h2:r.map (zO ρ vl (fun i=>ss.getD i []) 12)=r0) (h3:r.all (lA 12)=true) (h:yH ρ vl ss l):yH ρ vl ss ((k,p,r)::l)
theorem yH.all {ρ:Nat→Int} {vl:Nat→Value} {ss:List (List (List AV))} {l:List (Nat×Poly×List AV)} (h:yH ρ vl ss l):∀t∈l,0≤bJ ρ t.2.1∧(ss.getD t.1 [])[(bJ ρ t.2.1).toNat]?=some (t.2.2.map (zO ρ vl (fun i=>ss.getD i []) 12))∧t.2.2.all (lA 12)=true:=by
 induction h with
 |nil=>intro t ht;exact absurd ht List.not_mem_nil
 |cons h0 h1 h2 h3 h ih =>
  intro t ht;rcases List.mem_cons.1 ht with rfl|ht
  ·exact⟨h0,by rw[h2];exact h1,h3⟩
  ·exact ih t ht
abbrev ajM (b:Bk) (xs:List Int) (vs:List Value) (ss:List (List (List AV))) (hd:vD (fun i=>xs.getD i 0) b.defs) (hb:jO b.vars xs) (hf:jQ (fun i=>xs.getD i 0) b.facts) (ho:∀v∈vs,v.oneCell'=true)
  (hl:kL (fun i=>xs.getD i 0) ss b.lens) (ha:yH (fun i=>xs.getD i 0) (fun i=>vs.getD i (.bool false)) ss b.kT) (hs:∀l∈ss,∀r∈l,∀x∈r,Cl x) (hk:b.kinds=[]:=by rfl) (hc:∀t∈b.aa3,ss.getD t.2.2 []=ss.getD t.1 []++ss.getD t.2.1 []:=by exact fun t h=>nomatch h):@Ev b :=
 @Ev.mk b xs (Xm hb.len hb.all) hf.all hd.all vs ho (fun i c h=>by rw[hk]at h;cases h) ss hl.all ha.all hs hc
end
end Mc
namespace Mc
inductive KI where
 |seq (y:Code)|blk (id:Nat)|scope
inductive Out where
 |done (x:AX) (f:Ft)|stop (c:Code) (k:List KI) (f:Ft)
def Out.push (i:KI):Out→Out
 | .stop c k f=>.stop c (k++[i]) f
 |o=>o
def mS [Bk] (P:Program) (call:wY) (L:Nat):Nat→Code→Ft→MT Out
 |0,_,_=>cI
 |n+1,.seq x y,f=>fM (mS P call L n x f) fun o=>match o with
  | .done .normal f'=>mS P call L n y f'
  |o=>dP (o.push (.seq y))
 |n+1,.cond c x y,f=>match kU f c with
  | .c (.bool b)=>mS P call L n (if b then x else y) f
  |_=>cI
 |n+1,.block id c,f=>fM (mS P call L n c f) fun o=>match o with
  | .done (.exit i) f'=>dP (if i=id then .done .normal f' else .done (.exit i) f')
  |o=>dP (o.push (.blk id))
 |n+1,.scope c,f=>fM (mS P call L n c f) fun o=>dP (o.push .scope)
 |n+1,.loop c,f=>dP (.stop c [] f)
 |n+1,c,f=>fM ((nK P true c).f call L f) fun q=>dP (.done q.1 q.2)
def rN [Bk] (P:Program) (call:wY) (L:Nat):List KI→AX→Ft→MT Out
 |[],x,f=>dP (.done x f)
 | .seq y::k,x,f=>match x with
  | .normal=>fM (mS P call L L y f) fun o=>match o with
   | .done x' f'=>rN P call L k x' f'
   | .stop c k' f'=>dP (.stop c (k'++k) f')
  |x=>rN P call L k x f
 | .blk id::k,x,f=>match x with
  | .exit i=>rN P call L k (if i=id then .normal else .exit i) f
  |x=>rN P call L k x f
 | .scope::k,x,f=>rN P call L k x f
section
variable {P:Program}
abbrev jA:=Exit→Act→World→Prop
structure eU [Bk] [Ev] (A:Nat→Prop) (w0:World) (a0:Act) (m:Nat→St) (w:World) (a:Act) (f:List AV) (h:AH):Prop where
 ext:Ext (fun _=>.no) w0 m w
 rel:bW m A h w
 fr:lN m A w f a
 new:rU w0 a0 a
def AW [Bk] [Ev] (P:Program) (A:Nat→Prop) (w0:World) (a0:Act) (c:Code) (Φ:jA) (f:List AV) (h:AH):Prop :=
 ∀m w a,eU A w0 a0 m w a f h→c.wpIn (fw none) 9 P Φ a w
def Sat [Bk] [Ev] (A:Nat→Prop) (w0:World) (a0:Act) (e:Exit) (Φ:jA) (f:List AV) (h:AH):Prop:=∀m w a,eU A w0 a0 m w a f h→Φ e a w
def KS (P:Program):List KI→jA→jA
 |[],Φ=>Φ
 | .seq y::k,Φ=>fun e a w=>match e with
  | .normal=>y.wpIn (fw none) 9 P (KS P k Φ) a w
  |e=>KS P k Φ e a w
 | .blk id::k,Φ=>fun e a w=>match e with
  | .exit i=>if i=id then KS P k Φ .normal a w else KS P k Φ (.exit i) a w
  |e=>KS P k Φ e a w
 | .scope::k,Φ=>fun e a w=>(∀l,e≠.goto l)∧KS P k Φ e a w
theorem zJ (k k':List KI) (Φ:jA):KS P (k++k') Φ=KS P k (KS P k' Φ):=by
 induction k with
 |nil=>rfl
 |cons i k ih=>cases i<;>simp only[List.cons_append,KS,ih]
def GJ [Bk] [Ev] (P:Program) (A:Nat→Prop) (w0:World) (a0:Act) (Φ:jA) (o:Out) (h:AH):Prop:=match o with
 | .done x f=>∀l,FR l f→Sat A w0 a0 x.to Φ l h
 | .stop c k f=>∀l,FR l f→AW P A w0 a0 (.loop c) (KS P k Φ) l h
theorem AW.ahS [Bk] [Ev] {A:Nat→Prop} {w0:World} {a0:Act} {c:Code} {Φ:jA} {f:List AV} {h:AH} {Q:Exit→List AV→AH→Prop} (k:iW P true c Q f h) (hq:∀e f' h',Q e f' h'→Sat A w0 a0 e Φ f' h'):AW P A w0 a0 c Φ f h:=by
 intro m w a pr;refine wpIn_mono (k none m A w a (fun _=>rfl) pr.rel pr.fr) ?_
 rintro e a' w' ⟨m',f',h',q,H',F',E',N'⟩
 exact hq e f' h' q m' w' a' ⟨pr.ext.trans E',H',F',pr.new.trans pr.ext.size N'⟩
theorem afx [Bk] [Ev] (hX:jH P) {L d:Nat} {c:Code} {f:Ft} {t:Tr} {n:Nat} {r:RT (AX×Ft)} (hr:(nK P true c).f (jF P L d) L f t n=some r) {A:Nat→Prop} {w0:World} {a0:Act} {Φ:jA}
  (ho:GJ P A w0 a0 Φ (.done r.a.1 r.a.2) r.t.get):∀l,FR l f→AW P A w0 a0 c Φ l t.get:=by
 intro l hl;have h1:=kS (zI (P:=P) L d) L c f t n r hr
 obtain⟨a,h2,e1,e2⟩:=kN (A2 (P:=P) L d) L c l f hl t n r h1
 refine AW.ahS (lM (uI hX L d) L c (fun e f' h'=>e=a.1.to∧f'=a.2∧h'=r.t.get) l t.get n _ h2 ⟨rfl,rfl,rfl⟩) ?_
 rintro e f' h' ⟨rfl,rfl,rfl⟩
 rw[e1];exact ho a.2 e2
theorem uP {α β:Type} {x:MT α} {k:α→MT β} {t:Tr} {n:Nat} {r:RT β} (h:fM x k t n=some r):∃q s,x t n=some q∧k q.a q.t q.n=some s∧r.a=s.a∧r.t=s.t∧r.n=s.n:=by
 unfold fM at h;cases h1:x t n with
 |none=>rw[h1]at h;cases h
 |some q =>
  rw[h1]at h;simp only at h
  cases h2:k q.a q.t q.n with
  |none=>rw[h2]at h;cases h
  |some s=>rw[h2]at h;cases h;exact⟨q,s,rfl,h2,rfl,rfl,rfl⟩
theorem oQ [Bk] [Ev] (hX:jH P) {L d:Nat} {A:Nat→Prop} {w0:World} {a0:Act}:∀(k:Nat) (c:Code) (Φ:jA) (f:Ft) (t:Tr) (n:Nat) (r:RT Out),mS P (jF P L d) L k c f t n=some r→GJ P A w0 a0 Φ r.a r.t.get→∀l,FR l f→AW P A w0 a0 c Φ l t.get
 |0,c,Φ,f,t,n,r,hr,ho=>by simp only[mS]at hr;cases hr
 |k+1,c,Φ,f,t,n,r,hr,ho=>by
  have leaf:mS P (jF P L d) L (k+1) c f t n=fM ((nK P true c).f (jF P L d) L f) (fun q=>dP (.done q.1 q.2)) t n→∀l,FR l f→AW P A w0 a0 c Φ l t.get:=by
   intro he;rw[he]at hr;obtain⟨q,s,h1,h2,e1,e2,-⟩:=uP hr;cases h2;simp only at e1 e2
   refine afx hX h1 ?_
   rw[e1,e2]at ho;exact ho
  cases c with
  |seq x y =>
   simp only[mS]at hr;obtain⟨q,s,h1,h2,e1,e2,-⟩:=uP hr;have key:GJ P A w0 a0 (KS P [.seq y] Φ) q.a q.t.get:=by
    cases hq:q.a with
    |stop c' k' f' =>
     rw[hq]at h2;cases h2;rw[e1,e2]at ho;intro l hl;have:=ho l hl
     rw[zJ]at this;exact this
    |done x' f' =>
     rw[hq]at h2;cases x' with
     |normal =>
      simp only at h2
      rw[e1,e2]at ho;have:=oQ hX k y Φ f' q.t q.n s h2 ho
      intro l hl m w a pr;exact this l hl m w a pr
     |_ =>
      cases h2;rw[e1,e2]at ho;intro l hl m w a pr;exact ho l hl m w a pr
   have:=oQ hX k x _ f t n q h1 key
   intro l hl m w a pr;refine wpIn_seq (wpIn_mono (this l hl m w a pr) ?_)
   intro e a' w' hk;cases e<;>exact hk
  |cond c x y =>
   have hex:∃b,kU f c=.c (.bool b)∧mS P (jF P L d) L k (if b then x else y) f t n=some r:=by
    simp only[mS]at hr;cases hv:kU f c with
    |c v=>cases v with
     |bool b=>simp only[hv]at hr;exact⟨b,rfl,hr⟩
     |_=>simp only[hv]at hr;cases hr
    |_=>simp only[hv]at hr;cases hr
   obtain⟨b,hb,hr⟩:=hex;have:=oQ hX k (if b then x else y) Φ f t n r hr ho
   intro l hl m w a pr;have hc:=pr.fr.eval c;rw[hl.ev,hb]at hc;exact wpIn_cond hc.bool (this l hl m w a pr)
  |block id c =>
   simp only[mS]at hr;obtain⟨q,s,h1,h2,e1,e2,-⟩:=uP hr;have key:GJ P A w0 a0 (KS P [.blk id] Φ) q.a q.t.get:=by
    cases hq:q.a with
    |stop c' k' f' =>
     rw[hq]at h2;cases h2;rw[e1,e2]at ho;intro l hl;have:=ho l hl
     rw[zJ]at this;exact this
    |done x' f' =>
     rw[hq]at h2;cases x' with
     |exit i =>
      simp only at h2
      cases h2;rw[e1,e2]at ho;intro l hl m w a pr;simp only[KS,AX.to];split
      ·rename_i hi;rw[if_pos hi]at ho;exact ho l hl m w a pr
      ·rename_i hi;rw[if_neg hi]at ho;exact ho l hl m w a pr
     |_ =>
      cases h2;rw[e1,e2]at ho;intro l hl m w a pr;exact ho l hl m w a pr
   have:=oQ hX k c _ f t n q h1 key
   intro l hl m w a pr;refine wpIn_block (wpIn_mono (this l hl m w a pr) ?_)
   intro e a' w' hk;cases e<;>exact hk
  |scope c =>
   simp only[mS]at hr;obtain⟨q,s,h1,h2,e1,e2,-⟩:=uP hr;cases h2;simp only at e1 e2
   have key:GJ P A w0 a0 (KS P [.scope] Φ) q.a q.t.get:=by
    rw[e1,e2]at ho;cases hq:q.a with
    |stop c' k' f' =>
     rw[hq]at ho;intro l hl;have:=ho l hl
     rw[zJ]at this;exact this
    |done x' f' =>
     rw[hq]at ho;intro l hl m w a pr;exact⟨by intro l;cases x'<;>simp[AX.to],ho l hl m w a pr⟩
   have:=oQ hX k c _ f t n q h1 key
   intro l hl m w a pr;exact EG (this l hl m w a pr)
  |loop c =>
   simp only[mS]at hr;cases hr;exact ho
  |_=>exact leaf rfl
theorem rM [Bk] [Ev] (hX:jH P) {L d:Nat} {A:Nat→Prop} {w0:World} {a0:Act} {Φ:jA}:∀(k:List KI) (x:AX) (f:Ft) (t:Tr) (n:Nat) (r:RT Out),rN P (jF P L d) L k x f t n=some r→GJ P A w0 a0 Φ r.a r.t.get→∀l,FR l f→Sat A w0 a0 x.to (KS P k Φ) l t.get
 |[],x,f,t,n,r,hr,ho=>by
  simp only[rN]at hr;cases hr;exact ho
 | .seq y::k,x,f,t,n,r,hr,ho=>by
  simp only[rN]at hr;cases x with
  |normal =>
   simp only at hr
   obtain⟨q,s,h1,h2,e1,e2,-⟩:=uP hr;rw[e1,e2]at ho;have key:GJ P A w0 a0 (KS P k Φ) q.a q.t.get:=by
    cases hq:q.a with
    |done x' f' =>
     rw[hq]at h2;exact rM hX k x' f' q.t q.n s h2 ho
    |stop c' k' f' =>
     rw[hq]at h2;cases h2;intro l hl;have:=ho l hl
     rw[zJ]at this;exact this
   intro l hl m w a pr;exact oQ hX L y _ f t n q h1 key l hl m w a pr
  |_ =>
   have:=rM hX k _ f t n r hr ho
   intro l hl m w a pr;exact this l hl m w a pr
 | .blk id::k,x,f,t,n,r,hr,ho=>by
  simp only[rN]at hr;cases x with
  |exit i =>
   have:=rM hX k _ f t n r hr ho
   intro l hl m w a pr;simp only[KS,AX.to];split
   ·rename_i hi;rw[if_pos hi]at this;exact this l hl m w a pr
   ·rename_i hi;rw[if_neg hi]at this;exact this l hl m w a pr
  |_ =>
   have:=rM hX k _ f t n r hr ho
   intro l hl m w a pr;exact this l hl m w a pr
 | .scope::k,x,f,t,n,r,hr,ho=>by
  simp only[rN]at hr;have:=rM hX k _ f t n r hr ho
  intro l hl m w a pr;exact⟨by intro l;cases x<;>simp[AX.to],this l hl m w a pr⟩
theorem eA {c:Code} {Φ:jA} (I:Nat→Act→World→Prop) (round:∀n a w,I n a w→c.wpIn (fw none) 9 P (fun e a' w'=>match e with | .normal=>∃n',n'<n∧I n' a' w'|e=>Φ e a' w') a w) {n:Nat} {a:Act} {w:World} (h0:I n a w):(Code.loop c).wpIn (fw none) 9 P Φ a w:=by
 obtain⟨μ,hμ⟩:=Oo (fun n (p:Act×World)=>I n p.1 p.2)
 refine wpIn_loop (fun a' w'=>∃n,I n a' w') (fun a' w'=>μ (a',w')) ⟨n,h0⟩ ?_
 intro a1 w1 hex;have h1:=(hμ (a1,w1) hex).1
 refine wpIn_mono (round _ a1 w1 h1) ?_
 intro e a2 w2 q;cases e with
 |normal =>
  obtain⟨n',hlt,hI⟩:=q;exact⟨⟨n',hI⟩,Nat.lt_of_le_of_lt ((hμ (a2,w2) ⟨n',hI⟩).2 n' hI) hlt⟩
 |_=>exact q
end
end Mc
namespace Mc
abbrev oU:=List (Option Nat)
def mOf (m:Nat→St) (ids:oU):Nat→St:=fun k=>match ids[k]? with
 |none=>.no
 |some none=>.rW
 |some (some i)=>m i
theorem CS {m:Nat→St} {ids:oU} {k b:Nat} (h:mOf m ids k=.at b):∃i,ids[k]?=some (some i)∧m i=.at b:=by
 unfold mOf at h;split at h
 ·cases h
 ·cases h
 ·rename_i i hi;exact⟨i,hi,h⟩
theorem Sk {m:Nat→St} {ids:oU} {A:Nat→Prop} {b:Nat} (h:Av (mOf m ids) A b):Av m A b:=by
 rcases h with h|⟨k,h⟩
 ·exact .inl h
 ·obtain⟨i,-,h⟩:=CS h
  exact .inr ⟨i,h⟩
theorem qU {m:Nat→St} {ids:oU} {k i:Nat} (h:ids[k]?=some (some i)):mOf m ids k=m i:=by unfold mOf;rw[h]
theorem Oc {m:Nat→St} {ids:oU} {k:Nat} (h:ids[k]?=some none):mOf m ids k=.rW:=by unfold mOf;rw[h]
def Slot (b1:Bk) (e1:@Ev b1) (b2:Bk) (e2:@Ev b2) (ids:oU) (x y:AV):Prop:=∀(m:Nat→St) (A:Nat→Prop) (w:World) (v:Value),@Rd b1 e1 m A w x v→@Rd b2 e2 (mOf m ids) A w y v
section
variable {b1:Bk} {e1:@Ev b1} {b2:Bk} {e2:@Ev b2} {ids:oU}
theorem Slot.nV {x:AV}:Slot b1 e1 b2 e2 ids x .nV:=fun m A w v h=>@Rd.pure b2 e2 _ A w _ _ (@dG.nV b2 e2 _ w v)
theorem Rd.adP [Bk] [Ev] {m:Nat→St} {A:Nat→Prop} {w:World}:∀(k:Nat) (x:AV) (v:Value),Rd m A w x v→Rd m A w (den k x) v
 |0,x,v,h=>h
 |k+1,x,v,h=>by
  have ih:∀(x:AV) (v:Value),Rd m A w x v→Rd m A w (den k x) v:=Rd.adP k
  cases h with
  |pure _ _ h=>exact .pure _ _ (h.FQ (k+1))
  |agg cs vs hl h1 hr =>
   refine .agg _ vs (by simpa using hl) ?_ ?_
   ·intro i x hx
    rw[List.getElem?_map]at hx;obtain⟨y,hy,rfl⟩:=Option.map_eq_some_iff.1 hx;exact(nJ k y).trans (h1 i y hy)
   ·intro i x hx
    rw[List.getElem?_map]at hx;obtain⟨y,hy,rfl⟩:=Option.map_eq_some_iff.1 hx;exact ih y _ (hr i y hy)
  |aZ cs vs hl hr =>
   refine .aZ _ vs (by simpa using hl) ?_
   intro i x hx;rw[List.getElem?_map]at hx;obtain⟨y,hy,rfl⟩:=Option.map_eq_some_iff.1 hx;exact ih y _ (hr i y hy)
  |pJ t x v hr=>exact .pJ t _ v (ih x v hr)
  |own T sz id i n b cap hm hb hn hc hr=>exact .own T sz id i n b cap hm hb hn hc hr
  |sA T sz id i a hm=>exact .sA T sz id i a hm
  |uD T sz id i n a n' cap hm=>exact .uD T sz id i n a n' cap hm
  |ptr sz id i off b hm hb=>exact .ptr sz id i off b hm hb
  |G2 sz id i off a hm=>exact .G2 sz id i off a hm
  |fn f xs ys vs us hl hk h g=>exact .fn f xs ys vs us hl hk h g
  |DW id b hm=>exact .DW id b hm
  |MS id b hm=>exact .MS id b hm
  |mpv id b hm=>exact .mpv id b hm
  |Se id b hm=>exact .Se id b hm
  |view T sz id i n b cap hm=>exact .view T sz id i n b cap hm
  |AT T sz id i n a cap hm=>exact .AT T sz id i n a cap hm
  |cE T sz id n b len cap hm hb hl hn hc hr=>exact .cE T sz id n b len cap hm hb hl hn hc hr
  |sG T sz id n a hm hn=>exact .sG T sz id n a hm hn
  |sJ T sz id n a n' cap hm=>exact .sJ T sz id n a n' cap hm
  |mC sz id p off b hm hb=>exact .mC sz id p off b hm hb
  |zX sz id p off a hm=>exact .zX sz id p off a hm
theorem Slot.data {x y d:AV} (hx:@den b1 e1 12 x=d) (hy:@den b2 e2 12 y=d) (hd:Cl d) (hu:lA 12 y=true):Slot b1 e1 b2 e2 ids x y:=by
 subst hx;intro m A w v h;have h1:=@Rd.cl b1 e1 m A w _ hd v (@Rd.adP b1 e1 m A w 12 x v h)
 have h2:=dG.cl (b2:=b2) (e2:=e2) hd h1
 rw[←hy]at h2;have h3:=@dG.Cj b2 e2 _ w 12 y v hu h2
 exact @Rd.pure b2 e2 _ A w _ _ (@dG.mono b2 e2 _ _ w w (Nat.le_refl _) (fun b _ hb=>⟨fun h=>hb (Sk h),rfl⟩) y v h3)
theorem Slot.own {T sz id id' i n:Nat} (h:ids[id']?=some (some id)):Slot b1 e1 b2 e2 ids (.own T sz id i n) (.own T sz id' i n):=by
 intro m A w v hr;have hm:=qU (m:=m) h
 cases hr with
 |pure _ _ h=>cases h
 |own _ _ _ _ _ b cap hm' hb hn hc hr=>exact @Rd.own b2 e2 _ A w T sz id' i n b cap (hm.trans hm') hb hn hc hr
 |sA _ _ _ _ a hm'=>exact @Rd.sA b2 e2 _ A w T sz id' i a (hm.trans hm')
 |uD _ _ _ _ _ a n' cap hm'=>exact @Rd.uD b2 e2 _ A w T sz id' i n a n' cap (hm.trans hm')
theorem Slot.ptr {sz id id' i off:Nat} (h:ids[id']?=some (some id)):Slot b1 e1 b2 e2 ids (.ptr sz id i off) (.ptr sz id' i off):=by
 intro m A w v hr;have hm:=qU (m:=m) h
 cases hr with
 |pure _ _ h=>cases h
 |ptr _ _ _ _ b hm' hb=>exact @Rd.ptr b2 e2 _ A w sz id' i off b (hm.trans hm') hb
 |G2 _ _ _ _ a hm'=>exact @Rd.G2 b2 e2 _ A w sz id' i off a (hm.trans hm')
theorem Slot.cE {T sz id id':Nat} {n n':Poly} (h:ids[id']?=some (some id)) (hn:bJ (@Ev.dL b1 e1) n=bJ (@Ev.dL b2 e2) n'):Slot b1 e1 b2 e2 ids (.cE T sz id n) (.cE T sz id' n'):=by
 intro m A w v hr;have hm:=qU (m:=m) h
 cases hr with
 |pure _ _ h=>cases h
 |cE _ _ _ _ b len cap hm' hb hl hn' hc hr=>exact @Rd.cE b2 e2 _ A w T sz id' n' b len cap (hm.trans hm') hb (hn▸hl) hn' hc hr
 |sG _ _ _ _ a hm' h0=>exact @Rd.sG b2 e2 _ A w T sz id' n' a (hm.trans hm') (hn▸h0)
 |sJ _ _ _ _ a n0 cap hm'=>exact @Rd.sJ b2 e2 _ A w T sz id' n' a n0 cap (hm.trans hm')
theorem Slot.acP {T sz id id' n:Nat} {n':Poly} (h:ids[id']?=some (some id)) (hn:(n:Int)=bJ (@Ev.dL b2 e2) n'):Slot b1 e1 b2 e2 ids (.own T sz id 0 n) (.cE T sz id' n'):=by
 intro m A w v hr;have hm:=qU (m:=m) h
 cases hr with
 |pure _ _ h=>cases h
 |own _ _ _ _ _ b cap hm' hb hn' hc hr =>
  rw[Nat.zero_mul];exact @Rd.cE b2 e2 _ A w T sz id' n' b n cap (hm.trans hm') hb hn.symm hn' hc (by rw[←hr,Nat.zero_add])
 |sA _ _ _ _ a hm'=>exact @Rd.sG b2 e2 _ A w T sz id' n' a (hm.trans hm') (by rw[←hn];rfl)
 |uD _ _ _ _ _ a n0 cap hm'=>exact @Rd.sJ b2 e2 _ A w T sz id' n' a n0 cap (hm.trans hm')
theorem Slot.mC {sz id id' off:Nat} {p p':Poly} (h:ids[id']?=some (some id)) (hn:bJ (@Ev.dL b1 e1) p=bJ (@Ev.dL b2 e2) p'):Slot b1 e1 b2 e2 ids (.mC sz id p off) (.mC sz id' p' off):=by
 intro m A w v hr;have hm:=qU (m:=m) h
 cases hr with
 |pure _ _ h=>cases h
 |mC _ _ _ _ b hm' hb=>rw[hn];exact @Rd.mC b2 e2 _ A w sz id' p' off b (hm.trans hm') hb
 |zX _ _ _ _ a hm'=>exact @Rd.zX b2 e2 _ A w sz id' p' off a (hm.trans hm')
inductive yD (b1:Bk) (e1:@Ev b1) (b2:Bk) (e2:@Ev b2) (ids:oU):List AV→List AV→Prop
 |nil:yD b1 e1 b2 e2 ids [] []
 |cons {x y:AV} {l l':List AV} (h:Slot b1 e1 b2 e2 ids x y) (hl:yD b1 e1 b2 e2 ids l l'):yD b1 e1 b2 e2 ids (x::l) (y::l')
theorem yD.get {l l':List AV} (h:yD b1 e1 b2 e2 ids l l'):l'.length=l.length∧∀(i:Nat) (y:AV),l'[i]?=some y→∃x,l[i]?=some x∧Slot b1 e1 b2 e2 ids x y:=by
 induction h with
 |nil=>exact⟨rfl,fun i y h=>by simp at h⟩
 |cons h hl ih =>
  refine⟨by simp[ih.1],?_⟩
  intro i z hz;cases i with
  |zero=>cases hz;exact⟨_,rfl,h⟩
  |succ i =>
   obtain⟨x,h1,h2⟩:=ih.2 i z (by simpa using hz)
   exact⟨x,by simpa using h1,h2⟩
theorem Slot.agg {cs cs':List AV} (h:yD b1 e1 b2 e2 ids cs cs') (h1:cs'.all (fun x=>x.one)=true):Slot b1 e1 b2 e2 ids (.agg cs) (.agg cs'):=by
 intro m A w v hr;obtain⟨hl,hs⟩:=h.get;obtain⟨vs,rfl,hv,hc⟩:=@Rd.oH b1 e1 m A w cs v hr
 refine @Rd.agg b2 e2 _ A w cs' vs (by rw[hv,hl]) ?_ ?_
 ·intro i y hy
  exact List.all_eq_true.1 h1 y (List.mem_of_getElem? hy)
 ·intro i y hy
  obtain⟨x,hx,hs⟩:=hs i y hy;exact hs m A w _ (hc i x hx).2
def Hr (b1:Bk) (e1:@Ev b1) (b2:Bk) (e2:@Ev b2) (ids:oU) (h1:AH) (o:Option Nat) (B:bY):Prop:=@mK b2 e2 B∧match o with
 |none=>∃T sz,@bY.aN b2 e2 B=some (T,sz,[])
 |some i=>∃T sz els1 els2,@bY.aN b1 e1 (h1 i)=some (T,sz,els1)∧@bY.aN b2 e2 B=some (T,sz,els2)∧els2.length=els1.length∧(∀(i j:Nat) (y:AV),fW els2 i j=some y→∃x,fW els1 i j=some x∧x.one=y.one∧Slot b1 e1 b2 e2 ids x y)∧((∀e∈els1,e.length=sz)→∀e∈els2,e.length=sz)
inductive PN (b1:Bk) (e1:@Ev b1) (b2:Bk) (e2:@Ev b2) (ids:oU) (h1:AH):oU→List bY→Prop
 |nil:PN b1 e1 b2 e2 ids h1 [] []
 |cons {o:Option Nat} {B:bY} {l:oU} {bs:List bY} (h:Hr b1 e1 b2 e2 ids h1 o B) (hl:PN b1 e1 b2 e2 ids h1 l bs):PN b1 e1 b2 e2 ids h1 (o::l) (B::bs)
theorem PN.get {h1:AH} {l:oU} {bs:List bY} (h:PN b1 e1 b2 e2 ids h1 l bs):l.length=bs.length∧∀(k:Nat) (o:Option Nat),l[k]?=some o→∃B,bs[k]?=some B∧Hr b1 e1 b2 e2 ids h1 o B:=by
 induction h with
 |nil=>exact⟨rfl,fun i y h=>by simp at h⟩
 |cons h hl ih =>
  refine⟨by simp[ih.1],?_⟩
  intro i z hz;cases i with
  |zero=>cases hz;exact⟨_,rfl,h⟩
  |succ i =>
   obtain⟨x,h1,h2⟩:=ih.2 i z (by simpa using hz)
   exact⟨x,by simpa using h1,h2⟩
def eZ (bs:List bY):AH:=fun k=>bs.getD k .no
theorem eU.to {A:Nat→Prop} {w0:World} {a0:Act} {m:Nat→St} {w:World} {a:Act} {f1 f2:List AV} {h1:AH} {bs:List bY} (pr:@eU b1 e1 A w0 a0 m w a f1 h1) (hf:yD b1 e1 b2 e2 ids f1 f2) (hB:PN b1 e1 b2 e2 ids h1 ids bs) (nd:∀(i j k:Nat),ids[i]?=some (some k)→ids[j]?=some (some k)→i=j) (hg:b2.kI=[]:=by rfl) :
  @eU b2 e2 A w0 a0 (mOf m ids) w a f2 (eZ bs):=by
 obtain⟨hl,hs⟩:=hf.get;obtain⟨bl,bg⟩:=hB.get;have at_:∀k B,eZ bs k=B→(B=.no∧mOf m ids k=.no)∨∃o,ids[k]?=some o∧Hr b1 e1 b2 e2 ids h1 o B:=by
  intro k B hk;cases ho:ids[k]? with
  |none =>
   refine .inl ⟨?_,by unfold mOf;rw[ho]⟩
   have hlt:bs.length≤k:=by rw[←bl];exact List.getElem?_eq_none_iff.1 ho
   rw[←hk];unfold eZ
   rw[List.getD,List.getElem?_eq_none hlt];rfl
  |some o =>
   obtain⟨B',h2,h3⟩:=bg k o ho;refine .inr ⟨o,rfl,?_⟩
   have:eZ bs k=B':=by unfold eZ;rw[List.getD,h2];rfl
   rw[←hk,this];exact h3
 have elsOf:∀o B,Hr b1 e1 b2 e2 ids h1 o B→∃t,@bY.aN b2 e2 B=some t:=by
  rintro(_|i) B ⟨-,h⟩
  ·obtain⟨T,sz,h⟩:=h;exact⟨_,h⟩
  ·obtain⟨T,sz,e1,e2,-,h,-⟩:=h;exact⟨_,h⟩
 obtain⟨E,⟨Hout,akl,Hno,Hdead,Harrs,Hinj,Hglob,Hoth,Hscs⟩,⟨Fsize,Frd,Fdef⟩,N⟩:=pr
 refine⟨?_,⟨?_,akl,?_,?_,?_,?_,?_,?_,?_⟩,⟨?_,?_,?_⟩,N⟩
 ·refine⟨E.os,E.tape,E.output,E.size,fun _ _ h=>(by cases h),fun _ h=>(by cases h),fun _ h=>(by cases h),?_,fun _ _ h=>(by cases h)⟩
  intro b hb hu;obtain⟨k1,k2⟩:=E.un b hb hu;refine⟨?_,k2⟩
  intro k hk;obtain⟨i,-,h⟩:=CS hk;exact k1 i h
 ·intro k b hk
  obtain⟨i,-,h⟩:=CS hk;exact Hout i b h
 ·intro k hk
  rcases at_ k _ hk with⟨-,h⟩|⟨o,-,h⟩
  ·exact h
  ·obtain⟨t,ht⟩:=elsOf o _ h
   cases ht
 ·intro k hk
  rcases at_ k _ hk with⟨h,-⟩|⟨o,-,h⟩
  ·cases h
  ·obtain⟨t,ht⟩:=elsOf o _ h
   cases ht
 ·intro k T sz aN hk
  rcases at_ k _ rfl with⟨h,-⟩|⟨o,ho,h⟩
  ·rw[h]at hk;cases hk
  ·cases o with
   |none =>
    obtain⟨-,T',sz',h⟩:=h;rw[hk]at h;cases h;exact .inl ⟨Oc ho,rfl⟩
   |some i =>
    obtain⟨-,T',sz',els1,els2,k1,k2,k3,k4,k5⟩:=h;rw[hk]at k2;cases k2;rw[qU ho];rcases Harrs i T sz els1 k1 with⟨g1,g2⟩|⟨b,cs,g1,g2,g3,g4,g5⟩
    ·refine .inl ⟨g1,?_⟩
     rw[g2]at k3;exact List.length_eq_zero_iff.1 k3
    ·refine .inr ⟨b,cs,g1,g2,by rw[k3];exact g3,k5 g4,?_⟩
     intro i' j y hy;obtain⟨x,q1,q2,q3⟩:=k4 i' j y hy;obtain⟨r1,r2⟩:=g5 _ _ _ q1;exact⟨by rw[←q2];exact r1,q3 m A w _ r2⟩
 ·intro i j b hi hj
  obtain⟨i',c1,c2⟩:=CS hi;obtain⟨j',c3,c4⟩:=CS hj;have:=Hinj i' j' b c2 c4
  subst this;exact nd i j i' c1 c3
 ·exact @GOk.none b2 A w hg
 ·intro k B hk hB'
  rcases at_ k B hk with⟨h,-⟩|⟨o,-,h⟩
  ·subst h;exact absurd hB' (by simp[bY.other])
  ·obtain⟨t,ht⟩:=elsOf o _ h
   rw[@bY.uS b2 e2 B hB']at ht;cases ht
 ·intro k
  rcases at_ k _ rfl with⟨h,-⟩|⟨o,-,h⟩
  ·rw[h];trivial
  ·exact h.1
 ·rw[Fsize,hl]
 ·intro i y hy
  obtain⟨x,hx,h⟩:=hs i y hy;exact h m A w _ (Frd i x hx)
 ·obtain⟨Ds,d1,d2,d3⟩:=Fdef
  refine⟨Ds,d1,d2,fun D hD=>⟨(d3 D hD).1,?_⟩⟩
  intro k hk;obtain⟨i,-,h⟩:=CS hk;exact(d3 D hD).2 i h
end
section
variable {P:Program}
def Fin (P:Program) (fn:Func) (A:Nat→Prop) (w0:World) (a0:Act) (r:AV):jA:=fun e a w=>(e=.normal∨e=.ret)∧∃(b:Bk) (ev:@Ev b) (m:Nat→St) (f:List AV) (h:AH) (x y:AV) (js:List Nat),@eU b ev A w0 a0 m w a f h∧eF P fn f h=some x∧wD h 16 x=some (y,js)∧@den b ev 12 y=r
theorem CK.jJ {F:FuncId} {fn:Func} {c:Code} {as:List AV} {r:AV} (hf:P.funcs[F]?=some fn) (hb:fn.body=some c) (ca:∀x∈as,Cl x) (cr:Cl r)
  (k:∀(A:Nat→Prop) (w0:World) (a0:Act),@AW dI dN P A w0 a0 c (Fin P fn A w0 a0 r) (as++List.replicate (fn.ntmps-as.length) .undef) (fun _=>.no)):CK P F as r:=by
 refine⟨ca,cr,?_⟩
 intro A w vs hA hG hl hv;have FR0:@lN dI dN (fun _=>.no) A w (as++List.replicate (fn.ntmps-as.length) .undef) { tmps:=vs++Array.replicate (fn.ntmps-vs.size) Go.undef,defers:=[] }:=by
  refine @lN.mk dI dN _ _ _ _ _ (by simp[hl]) ?_ (Marks.nil _ _)
  intro i x hx;rcases Nat.lt_or_ge i as.length with h|h
  ·rw[List.getElem?_append_left h]at hx
   have h2:=hv i x hx;have hlt:i<vs.size:=by omega
   have e1:(vs++Array.replicate (fn.ntmps-vs.size) Go.undef).getD i Go.undef=vs.getD i Go.undef:=by simp[Array.getElem?_append,hlt]
   rw[show({ tmps:=vs++Array.replicate (fn.ntmps-vs.size) Go.undef,defers:=[] }:Act).tmps.getD i Go.undef=vs.getD i Go.undef from e1]
   exact @Rd.pure dI dN _ A w x _ (@dG.mono dI dN A _ w w (Nat.le_refl _) (fun b _ hb=>⟨fun h=>h.elim hb (fun⟨_,h⟩=>by cases h),rfl⟩) x _ h2)
  ·rw[List.getElem?_append_right h,List.getElem?_replicate]at hx
   split at hx
   ·cases hx
    have hge:¬ i<vs.size:=by omega
    have:(vs++Array.replicate (fn.ntmps-vs.size) Go.undef).getD i Go.undef=Go.undef:=by
     simp[Array.getElem?_append,hge,Array.getElem?_replicate]
     split<;>rfl
    rw[show({ tmps:=vs++Array.replicate (fn.ntmps-vs.size) Go.undef,defers:=[] }:Act).tmps.getD i Go.undef=Go.undef from this]
    exact @Rd.pure dI dN _ A w _ _ (@dG.undef dI dN _ w)
   ·cases hx
 have pr0:@eU dI dN A w { tmps:=vs++Array.replicate (fn.ntmps-vs.size) Go.undef,defers:=[] } (fun _=>.no) w { tmps:=vs++Array.replicate (fn.ntmps-vs.size) Go.undef,defers:=[] } (as++List.replicate (fn.ntmps-as.length) .undef) (fun _=>.no) :=
  @eU.mk dI dN A w _ _ w _ _ _ (@Ext.refl dI dN _ w) (@bW.none dI dN A w hA (fun t h=>absurd h List.not_mem_nil)) FR0 (rU.refl _ _)
 refine BG (r:=none) (n:=9) |>.1 (callsIn_of_wp_marks hf hb trivial (wpIn_mono (k A w _ _ w _ pr0) ?_))
 rintro e a' w' ⟨he,b,ev,m',f',h',x,y,js,pr,hx,hy,hr⟩
 have fin:LeavesInM (fw none) 9 P fn a'.tmps (fun e w'=>∃v,e=.returned v∧@dG dI dN A w' r v∧Below w.heap.size w w') a'.defers .returning w':=by
  obtain⟨Ds,d1,d2,d3⟩:=pr.fr.defers;have d4:∀D∈Ds,w.heap.size≤D:=by
   intro D hD;rcases pr.new (mark D) (by rw[d1];exact List.mem_map_of_mem hD)with h1|⟨D',h1,h2⟩
   ·exact absurd h1 List.not_mem_nil
   ·simp only[mark,Target.collected.injEq]at h1
    omega
  obtain⟨r1,r2,r3⟩:=E5 Ds w' pr.rel d2 d3 d4 pr.ext;have F'':@lN b ev m' A (A3 w' Ds) f' { tmps:=a'.tmps,defers:=[] }:=@lN.mk b ev _ _ _ _ _ pr.fr.size (fun i x hx=>r3 _ _ (pr.fr.rd i x hx)) (Marks.nil _ _)
  obtain⟨v,s1,s2⟩:=Dx r1 F'' hx;rw[d1];refine wA Ds w' d2 (fun D hD=>(d3 D hD).1) ⟨v,s1,v,rfl,?_,@Ext.below b ev _ _ _ _ r2 fun id b h=>by cases h⟩
  have h1:=CZ r1 js hy (fun id h=>h) s2
  have h2:=@dG.FQ b ev _ _ 12 y v h1
  rw[hr]at h2;have h3:=dG.cl (b2:=dI) (e2:=dN) cr h2
  exact @dG.mono dI dN _ _ _ _ (Nat.le_refl _) (fun c _ hc=>⟨fun h=>hc (.inl h),rfl⟩) _ _ h3
 rcases he with rfl|rfl
 ·exact fin
 ·exact fin
end
end Mc
namespace Mc
def Ia (o:Option (RT Out)):Bool:=match o with|some r=>(match r.a with | .stop ..=>true|_=>false)|none=>false
def aF (o:Option (RT Out)):Code:=match o with|some r=>(match r.a with | .stop c _ _=>c|_=>.skip)|none=>.skip
def oK (o:Option (RT Out)):List KI:=match o with|some r=>(match r.a with | .stop _ k _=>k|_=>[])|none=>[]
def oF (o:Option (RT Out)):Ft:=match o with|some r=>(match r.a with | .stop _ _ f=>f | .done _ f=>f)|none=>.leaf
def oT (o:Option (RT Out)):Tr:=match o with|some r=>r.t|none=>.leaf
def Ic (o:Option (RT Out)):Option Nat:=match o with|some r=>(match r.a with | .done .normal _=>some 0 | .done .ret _=>some 1 | .done (.exit i) _=>some (i+2)|_=>none)|none=>none
def xOf:Nat→AX
 |0=>.normal
 |1=>.ret
 |k+2=>.exit k
theorem N0 {o:Option (RT Out)} (h:Ia o=true):∃r,o=some r∧r.a=.stop (aF o) (oK o) (oF o)∧r.t=oT o:=by
 unfold Ia at h;cases o with
 |none=>cases h
 |some r =>
  simp only at h
  cases hr:r.a with
  |stop c k f=>exact⟨r,rfl,by simp only[aF,oK,oF,hr],rfl⟩
  |done x f=>rw[hr]at h;cases h
theorem N4 {o:Option (RT Out)} {x:Nat} (h:Ic o=some x):∃r,o=some r∧r.a=.done (xOf x) (oF o)∧r.t=oT o:=by
 unfold Ic at h;cases o with
 |none=>cases h
 |some r =>
  simp only at h
  cases hr:r.a with
  |stop c k f=>rw[hr]at h;cases h
  |done y f =>
   rw[hr]at h;cases y<;>(simp only at h;cases h;exact⟨r,rfl,by simp only[oF,hr];rfl,rfl⟩)
theorem Xi {l l0:List AV} {ft:Ft} [Bk] [Ev] (h:FR l ft) (hl:Ft.list ft 4096 0=some l0):l=l0:=by
 have:=h.list 4096 0 l0 hl
 rw[this];rfl
section
variable {P:Program}
section
variable [Bk] [Ev]
theorem AW.stops (hX:jH P) {L d k N n:Nat} {A:Nat→Prop} {w0:World} {a0:Act} {c:Code} {Φ:jA} {f l0:List AV} {t:Tr} (o:Option (RT Out)) (ho:mS P (jF P L d) L k c (Ft.of N f) t n=o) (hs:Ia o=true) (hl:Ft.list (oF o) 4096 0=some l0) (hN:f.length≤N)
  (kk:AW P A w0 a0 (.loop (aF o)) (KS P (oK o) Φ) l0 (oT o).get):AW P A w0 a0 c Φ f t.get:=by
 obtain⟨r,h1,h2,h3⟩:=N0 hs;refine oQ hX k c Φ (Ft.of N f) t n r (ho.trans h1) ?_ f (fun k=>Ft.xV N f k hN)
 rw[h2,h3];intro l hfr;rw[Xi hfr hl];exact kk
theorem AW.ends (hX:jH P) {L d k N n x:Nat} {A:Nat→Prop} {w0:World} {a0:Act} {c:Code} {Φ:jA} {f l0:List AV} {t:Tr} (o:Option (RT Out)) (ho:mS P (jF P L d) L k c (Ft.of N f) t n=o) (hs:Ic o=some x) (hl:Ft.list (oF o) 4096 0=some l0) (hN:f.length≤N)
  (kk:Sat A w0 a0 (xOf x).to Φ l0 (oT o).get):AW P A w0 a0 c Φ f t.get:=by
 obtain⟨r,h1,h2,h3⟩:=N4 hs;refine oQ hX k c Φ (Ft.of N f) t n r (ho.trans h1) ?_ f (fun k=>Ft.xV N f k hN)
 rw[h2,h3];intro l hfr;rw[Xi hfr hl];exact kk
theorem Sat.stops (hX:jH P) {L d N n:Nat} {x:AX} {k:List KI} {A:Nat→Prop} {w0:World} {a0:Act} {Φ:jA} {f l0:List AV} {t:Tr} (o:Option (RT Out)) (ho:rN P (jF P L d) L k x (Ft.of N f) t n=o) (hs:Ia o=true) (hl:Ft.list (oF o) 4096 0=some l0) (hN:f.length≤N)
  (kk:AW P A w0 a0 (.loop (aF o)) (KS P (oK o) Φ) l0 (oT o).get):Sat A w0 a0 x.to (KS P k Φ) f t.get:=by
 obtain⟨r,h1,h2,h3⟩:=N0 hs;refine rM hX k x (Ft.of N f) t n r (ho.trans h1) ?_ f (fun k=>Ft.xV N f k hN)
 rw[h2,h3];intro l hfr;rw[Xi hfr hl];exact kk
theorem Sat.ends (hX:jH P) {L d N n y:Nat} {x:AX} {k:List KI} {A:Nat→Prop} {w0:World} {a0:Act} {Φ:jA} {f l0:List AV} {t:Tr} (o:Option (RT Out)) (ho:rN P (jF P L d) L k x (Ft.of N f) t n=o) (hs:Ic o=some y) (hl:Ft.list (oF o) 4096 0=some l0) (hN:f.length≤N)
  (kk:Sat A w0 a0 (xOf y).to Φ l0 (oT o).get):Sat A w0 a0 x.to (KS P k Φ) f t.get:=by
 obtain⟨r,h1,h2,h3⟩:=N4 hs;refine rM hX k x (Ft.of N f) t n r (ho.trans h1) ?_ f (fun k=>Ft.xV N f k hN)
 rw[h2,h3];intro l hfr;rw[Xi hfr hl];exact kk
end
def Dq (ids:oU):Nat→AV→AV→Bool
 |0,_,_=>false
 |k+1,x,y=>match y with
  | .nV=>true
  | .own T sz id i n=>(match x with | .own T' sz' id' i' n'=>decide (T'=T∧sz'=sz∧i'=i∧n'=n)&&decide (ids[id]?=some (some id'))|_=>false)
  | .ptr sz id i off=>(match x with | .ptr sz' id' i' off'=>decide (sz'=sz∧i'=i∧off'=off)&&decide (ids[id]?=some (some id'))|_=>false)
  | .cE T sz id n=>(match x with | .cE T' sz' id' n'=>decide (T'=T∧sz'=sz∧n'=n)&&decide (ids[id]?=some (some id'))|_=>false)
  | .mC sz id p off=>(match x with | .mC sz' id' p' off'=>decide (sz'=sz∧p'=p∧off'=off)&&decide (ids[id]?=some (some id'))|_=>false)
  | .agg cs=>(match x with | .agg cs'=>Ez (Dq ids k) cs' cs&&cs.all (fun x=>x.one)|_=>false)
  |y=>zQ 16 x y
def xM:Nat→AV→Bool
 |0,_=>false
 |k+1,x=>match x with
  | .c _ | .undef | .emp | .e _ | .o _ | .any | .seq .. | .row ..=>true
  | .agg l=>l.all (xM k)
  | .aZ l=>l.all (xM k)
  | .lit ..=>true
  |_=>false
theorem Rd.plain [Bk] [Ev] {m:Nat→St} {A:Nat→Prop} {w:World}:∀{k:Nat} {x:AV} {v:Value},xM k x=true→Rd m A w x v→dG (Av m A) w x v
 |0,x,v,h,_=>by cases h
 |k+1,x,v,h,hr=>by
  cases hr with
  |pure _ _ h=>exact h
  |agg cs vs hl h1 hr=>exact .agg cs vs hl h1 fun i x hx=>Rd.plain (List.all_eq_true.1 h x (List.mem_of_getElem? hx)) (hr i x hx)
  |aZ cs vs hl hr=>exact .aZ cs vs hl fun i x hx=>Rd.plain (List.all_eq_true.1 h x (List.mem_of_getElem? hx)) (hr i x hx)
  |_=>cases h
theorem Gv:∀{k:Nat} {x y:AV},zQ k x y=true→xM k y=true
 |0,x,y,h=>by cases h
 |k+1,x,y,h=>by
  have ihL:∀(a b:List AV),Ez (zQ k) a b=true→b.all (xM k)=true:=by
   intro a;induction a with
   |nil=>intro b h;cases b with
    |nil=>rfl
    |cons y b=>cases h
   |cons x a ih=>intro b h;cases b with
    |nil=>cases h
    |cons y b =>
     unfold Ez at h;rw[Bool.and_eq_true]at h;rw[List.all_cons,Gv h.1,ih b h.2];rfl
  unfold zQ at h;split at h<;>first|rfl|exact ihL _ _ h|cases h
theorem Slot.same [b:Bk] [e:Ev] {ids:oU} {x:AV} {k:Nat} (hp:xM k x=true):Slot b e b e ids x x:=fun m A w v h =>
 .pure _ _ ((h.plain hp).mono (Nat.le_refl _) fun c _ hc=>⟨fun h=>hc (Sk h),rfl⟩)
theorem EZ [b:Bk] [e:Ev] {ids:oU}:∀{k:Nat} {x y:AV},Dq ids k x y=true→Slot b e b e ids x y
 |0,x,y,h=>by cases h
 |k+1,x,y,h=>by
  unfold Dq at h;split at h
  ·exact Slot.nV
  ·split at h
   ·rw[Bool.and_eq_true,decide_eq_true_eq,decide_eq_true_eq]at h
    obtain⟨⟨rfl,rfl,rfl,rfl⟩,h⟩:=h
    exact Slot.own h
   ·cases h
  ·split at h
   ·rw[Bool.and_eq_true,decide_eq_true_eq,decide_eq_true_eq]at h
    obtain⟨⟨rfl,rfl,rfl⟩,h⟩:=h
    exact Slot.ptr h
   ·cases h
  ·split at h
   ·rw[Bool.and_eq_true,decide_eq_true_eq,decide_eq_true_eq]at h
    obtain⟨⟨rfl,rfl,rfl⟩,h⟩:=h
    exact Slot.cE h rfl
   ·cases h
  ·split at h
   ·rw[Bool.and_eq_true,decide_eq_true_eq,decide_eq_true_eq]at h
    obtain⟨⟨rfl,rfl,rfl⟩,h⟩:=h
    exact Slot.mC h rfl
   ·cases h
  ·split at h
   ·rename_i cs cs'
    rw[Bool.and_eq_true]at h;refine Slot.agg ?_ h.2
    have:∀(a c:List AV),Ez (Dq ids k) a c=true→yD b e b e ids a c:=by
     intro a;induction a with
     |nil=>intro c h;cases c with
      |nil=>exact .nil
      |cons y c=>cases h
     |cons x a ih=>intro c h;cases c with
      |nil=>cases h
      |cons y c =>
       unfold Ez at h;rw[Bool.and_eq_true]at h;exact .cons (EZ h.1) (ih c h.2)
    exact this _ _ h.1
   ·cases h
  ·have e1:=wM h
   have e2:=Gv h;rw[e1];exact Slot.same e2
def aih (ids:oU) (h:AH) (o:Option Nat) (B:bY):Bool:=match o with
 |none=>false
 |some i=>match B with
  | .cells T sz aN=>(match h i with | .cells T' sz' els'=>decide (T'=T∧sz'=sz)&&(C6 (Dq ids 16) els' aN&&aN.all (·.all fun x=>x.one))|_=>false)
  | .sc T sz base bG tail n=>(match h i with | .sc T' sz' base' ups' tail' n'=>decide (T'=T∧sz'=sz∧n'=n)&&(zQ 16 (.seq sz' base' ups' tail') (.seq sz base bG tail)&&(bG.all (·.2.all (xM 16))&&tail.all (·.all (xM 16))))|_=>false)
  |_=>false
theorem Ak [Bk] [Ev] {base:Nat} {bG:List (Poly×List AV)} {tail:List (List AV)} {e:List AV} (h:e∈rowsOf base bG tail):e∈Ev.seq base∨(∃q∈bG,e=q.2)∨e∈tail:=by
 have key:∀(bG:List (Poly×List AV)) (l:List (List AV)),e∈bG.foldl (fun l q=>l.set (bJ Ev.dL q.1).toNat q.2) l→e∈l∨∃q∈bG,e=q.2:=by
  intro bG;induction bG with
  |nil=>intro l h;exact .inl h
  |cons q bG ih =>
   intro l h;rcases ih _ h with h|⟨q',h1,h2⟩
   ·rcases List.mem_or_eq_of_mem_set h with h|h
    ·exact .inl h
    ·exact .inr ⟨q,List.mem_cons_self,h⟩
   ·exact .inr ⟨q',List.mem_cons_of_mem _ h1,h2⟩
 unfold rowsOf at h;rcases List.mem_append.1 h with h|h
 ·rcases key _ _ h with h|h
  ·exact .inl h
  ·exact .inr (.inl h)
 ·exact .inr (.inr h)
theorem Slot.cl [b:Bk] [e:Ev] {ids:oU} {x:AV} (hx:Cl x):Slot b e b e ids x x:=fun m A w v h =>
 .pure _ _ ((h.cl hx).mono (Nat.le_refl _) fun c _ hc=>⟨fun h=>hc (Sk h),rfl⟩)
theorem Xp {r:AV→AV→Bool} {a c:List (List AV)} (h:C6 r a c=true):c.length=a.length∧∀(i j:Nat) (y:AV),fW c i j=some y→∃x,fW a i j=some x∧r x y=true:=by
 obtain⟨h1,h2⟩:=BN h;refine⟨h1.symm,?_⟩
 intro i j y hy;unfold fW at hy;cases hc:c[i]? with
 |none=>rw[hc]at hy;cases hy
 |some e =>
  rw[hc]at hy;obtain⟨e',g1,g2⟩:=h2 i e hc;obtain⟨-,l2⟩:=tO g2;obtain⟨x,q1,q2⟩:=l2 j y hy;exact⟨x,by unfold fW;rw[g1];exact q1,q2⟩
theorem Xo {r:AV→AV→Bool} {a c:List (List AV)} {sz:Nat} (h:C6 r a c=true) (ha:∀e∈a,e.length=sz):∀e∈c,e.length=sz:=by
 intro e he;obtain⟨i,hi⟩:=List.mem_iff_getElem?.1 he
 obtain⟨e',g1,g2⟩:=(BN h).2 i e hi
 rw[←(tO g2).1];exact ha e' (List.mem_of_getElem? g1)
theorem Hz {ids:oU} {k:Nat} {x y:AV} (h:Dq ids k x y=true) (hy:y.one=true):x.one=true:=by
 cases k with
 |zero=>cases h
 |succ k =>
  unfold Dq at h;split at h
  ·simp[AV.one]at hy
  ·split at h
   ·rfl
   ·cases h
  ·split at h
   ·rfl
   ·cases h
  ·split at h
   ·rfl
   ·cases h
  ·split at h
   ·rfl
   ·cases h
  ·simp[AV.one]at hy
  ·rw[wM h];exact hy
theorem afY [b:Bk] [e:Ev] {ids:oU} {h:AH} (hs:∀i,mK (h i)) {o:Option Nat} {B:bY} (hb:aih ids h o B=true):Hr b e b e ids h o B:=by
 unfold aih at hb;cases o with
 |none=>cases hb
 |some i =>
  simp only at hb
  split at hb
  ·rename_i T sz aN
   split at hb
   ·rename_i T' sz' els' hi
    rw[Bool.and_eq_true,Bool.and_eq_true,decide_eq_true_eq]at hb;obtain⟨⟨rfl,rfl⟩,h2,h3⟩:=hb
    obtain⟨l1,l2⟩:=Xp h2;refine⟨trivial,T',sz',els',aN,by rw[hi];rfl,rfl,l1,?_,Xo h2⟩
    intro i j y hy;obtain⟨x,q1,q2⟩:=l2 i j y hy;obtain⟨r,hr,hyr⟩:=oG hy;have hy1:y.one=true:=List.all_eq_true.1 (List.all_eq_true.1 h3 r hr) y hyr
    exact⟨x,q1,by rw[hy1];exact Hz q2 hy1,EZ q2⟩
   ·cases hb
  ·rename_i T sz base bG tail n
   split at hb
   ·rename_i T' sz' base' ups' tail' n' hi
    rw[Bool.and_eq_true,Bool.and_eq_true,Bool.and_eq_true,decide_eq_true_eq]at hb;obtain⟨⟨rfl,rfl,rfl⟩,h2,h3,h4⟩:=hb
    have h2:=wM h2;cases h2;have hsc:=hs i;rw[hi]at hsc;refine⟨hsc,T',sz',rowsOf base bG tail,rowsOf base bG tail,by rw[hi];rfl,rfl,rfl,?_,fun h=>h⟩
    intro i j y hy;refine⟨y,hy,rfl,?_⟩
    obtain⟨r,hr,hyr⟩:=oG hy;rcases Ak hr with h|⟨q,h,rfl⟩|h
    ·exact Slot.cl (Ev.uA base r h y hyr)
    ·exact Slot.same (List.all_eq_true.1 (List.all_eq_true.1 h3 q h) y hyr)
    ·exact Slot.same (List.all_eq_true.1 (List.all_eq_true.1 h4 r h) y hyr)
   ·cases hb
  ·cases hb
def OA (n:Nat):oU:=(List.range n).map some
theorem yX {n k:Nat} (h:k<n):(OA n)[k]?=some (some k):=by unfold OA;rw[List.getElem?_map,List.getElem?_range h];rfl
section
variable {b1:Bk} {e1:@Ev b1} {b2:Bk} {e2:@Ev b2} {ids:oU}
end
def EN (bs:List bY):Tr:=(bs.foldl (fun(q:Tr×Nat) B=>(q.1.set q.2 B,q.2+1)) (.leaf,0)).1
theorem AY [Bk] [Ev] (bs:List bY):(EN bs).get=eZ bs:=by
 have key:∀(bs pre:List bY) (t:Tr),t.get=eZ pre→((bs.foldl (fun(q:Tr×Nat) B=>(q.1.set q.2 B,q.2+1)) (t,pre.length)).1).get=eZ (pre++bs):=by
  intro bs;induction bs with
  |nil=>intro pre t h;rw[List.append_nil];exact h
  |cons B bs ih =>
   intro pre t h;rw[List.foldl_cons];have:=ih (pre++[B]) (t.set pre.length B) ?_
   ·rw[List.append_assoc]at this
    simpa using this
   ·rw[Tr.Et,h]
    funext k
    unfold cJ eZ;by_cases hk:k=pre.length
    ·subst hk;simp[List.getD]
    ·rw[if_neg hk]
     rcases Nat.lt_or_ge k pre.length with hlt|hge
     ·simp[List.getD,List.getElem?_append_left hlt]
     ·have h1:pre.length+1≤k:=by omega
      simp[List.getD,List.getElem?_eq_none hge,List.getElem?_eq_none (show(pre++[B]).length≤k by simp;omega)]
 have h0:Tr.leaf.get=eZ []:=by
  funext k
  rw[Tr.kR];simp[eZ]
 exact key bs [] .leaf h0
def Hf (o:Option (RT Out)):List AV:=(Ft.list (oF o) 4096 0).getD []
def okB (o:Option (RT Out)):Bool:=(Ft.list (oF o) 4096 0).isSome
theorem ac6 {o:Option (RT Out)} (h:okB o=true):Ft.list (oF o) 4096 0=some (Hf o):=by
 unfold okB at h;unfold Hf;cases hh:Ft.list (oF o) 4096 0 with
 |none=>rw[hh]at h;cases h
 |some l=>rfl
def Hv (o:Option (RT Out)):Bool:=Ia o&&okB o
def yA (o:Option (RT Out)) (x:Nat):Bool:=decide (Ic o=some x)&&okB o
theorem M7 {o:Option (RT Out)} (h:Hv o=true):Ia o=true∧Ft.list (oF o) 4096 0=some (Hf o):=by
 unfold Hv at h;rw[Bool.and_eq_true]at h;exact⟨h.1,ac6 h.2⟩
theorem OT {o:Option (RT Out)} {x:Nat} (h:yA o x=true):Ic o=some x∧Ft.list (oF o) 4096 0=some (Hf o):=by
 unfold yA at h;rw[Bool.and_eq_true,decide_eq_true_eq]at h;exact⟨h.1,ac6 h.2⟩
theorem abZ (b:Bk) (ev:@Ev b) (hX:@jH b ev P) {L d k N n:Nat} {A:Nat→Prop} {w0:World} {a0:Act} {c:Code} {Φ:jA} {f:List AV} {bs:List bY} (o:Option (RT Out)) (ho:@mS b P (@jF b P L d) L k c (Ft.of N f) (EN bs) n=o) (hs:Hv o=true) (hN:f.length≤N)
  {m:Nat→St} {w:World} {a:Act} (pr:@eU b ev A w0 a0 m w a f (eZ bs)) (kk:∀m w a,@eU b ev A w0 a0 m w a (Hf o) (oT o).get→(Code.loop (aF o)).wpIn (fw none) 9 P (KS P (oK o) Φ) a w):c.wpIn (fw none) 9 P Φ a w:=by
 obtain⟨h1,h2⟩:=M7 hs;exact @AW.stops P b ev hX L d k N n A w0 a0 c Φ f (Hf o) (EN bs) o ho h1 h2 hN kk m w a (by rw[@AY b ev];exact pr)
theorem Bb (b:Bk) (ev:@Ev b) (hX:@jH b ev P) {L d k N n x:Nat} {A:Nat→Prop} {w0:World} {a0:Act} {c:Code} {Φ:jA} {f:List AV} {bs:List bY} (o:Option (RT Out)) (ho:@mS b P (@jF b P L d) L k c (Ft.of N f) (EN bs) n=o) (hs:yA o x=true) (hN:f.length≤N)
  {m:Nat→St} {w:World} {a:Act} (pr:@eU b ev A w0 a0 m w a f (eZ bs)) (kk:∀m w a,@eU b ev A w0 a0 m w a (Hf o) (oT o).get→Φ (xOf x).to a w):c.wpIn (fw none) 9 P Φ a w:=by
 obtain⟨h1,h2⟩:=OT hs;exact @AW.ends P b ev hX L d k N n x A w0 a0 c Φ f (Hf o) (EN bs) o ho h1 h2 hN kk m w a (by rw[@AY b ev];exact pr)
theorem ab1 (b:Bk) (ev:@Ev b) (hX:@jH b ev P) {L d N n:Nat} {x:AX} {k:List KI} {A:Nat→Prop} {w0:World} {a0:Act} {Φ:jA} {f:List AV} {bs:List bY} (o:Option (RT Out)) (ho:@rN b P (@jF b P L d) L k x (Ft.of N f) (EN bs) n=o) (hs:Hv o=true) (hN:f.length≤N)
  {m:Nat→St} {w:World} {a:Act} (pr:@eU b ev A w0 a0 m w a f (eZ bs)) (kk:∀m w a,@eU b ev A w0 a0 m w a (Hf o) (oT o).get→(Code.loop (aF o)).wpIn (fw none) 9 P (KS P (oK o) Φ) a w):KS P k Φ x.to a w:=by
 obtain⟨h1,h2⟩:=M7 hs;exact @Sat.stops P b ev hX L d N n x k A w0 a0 Φ f (Hf o) (EN bs) o ho h1 h2 hN kk m w a (by rw[@AY b ev];exact pr)
theorem Fg (b:Bk) (ev:@Ev b) (hX:@jH b ev P) {L d N n y:Nat} {x:AX} {k:List KI} {A:Nat→Prop} {w0:World} {a0:Act} {Φ:jA} {f:List AV} {bs:List bY} (o:Option (RT Out)) (ho:@rN b P (@jF b P L d) L k x (Ft.of N f) (EN bs) n=o) (hs:yA o y=true) (hN:f.length≤N)
  {m:Nat→St} {w:World} {a:Act} (pr:@eU b ev A w0 a0 m w a f (eZ bs)) (kk:∀m w a,@eU b ev A w0 a0 m w a (Hf o) (oT o).get→Φ (xOf y).to a w):KS P k Φ x.to a w:=by
 obtain⟨h1,h2⟩:=OT hs;exact @Sat.ends P b ev hX L d N n y x k A w0 a0 Φ f (Hf o) (EN bs) o ho h1 h2 hN kk m w a (by rw[@AY b ev];exact pr)
theorem xKn (b:Bk) (ev:@Ev b) (hk:@MO b ev P b.bT) (h1:b.ext=[]:=by rfl) (h2:b.yes=[]:=by rfl):@jH b ev P:=⟨by rw[h1];exact adF b ev,by rw[h2];exact abq b ev,hk⟩
theorem mA (xs:List Int) (i:Nat):bJ (fun k=>xs.getD k 0) [([i],1)]=xs.getD i 0:=by simp[bJ,lG]
end
end Mc
namespace Mc
def CQ:Nat→AV→Bool
 |0,_=>false
 |k+1,x=>match x with
  | .e _=>true
  | .o _=>true
  | .c _=>true
  | .undef=>true
  | .emp=>true
  | .any=>true
  | .agg cs=>cs.all (CQ k)
  | .aZ cs=>cs.all (CQ k)
  | .lit _ aN=>aN.all (·.all (CQ k))
  | .seq _ _ bG tail=>bG.all (fun q=>q.2.all (CQ k))&&tail.all (·.all (CQ k))
  | .pJ _ v=>CQ k v
  |_=>false
theorem Ms [Bk] [Ev]:∀(k:Nat) (x:AV),CQ k x=true→Cl (den k x)
 |0,x,h=>by cases h
 |k+1,x,h=>by
  have ih:∀(l:List AV),l.all (CQ k)=true→∀y∈l.map (den k),Cl y:=by
   intro l hl y hy;obtain⟨z,hz,rfl⟩:=List.mem_map.1 hy;exact Ms k z (List.all_eq_true.1 hl z hz)
  cases x with
  |e p=>exact .c _
  |o i=>exact .c _
  |c v=>exact .c v
  |undef=>exact .undef
  |emp=>exact .emp
  |any=>exact .any
  |agg cs=>exact .agg _ (ih cs h)
  |aZ cs=>exact .aZ _ (ih cs h)
  |pJ t v=>exact .pJ t _ (Ms k v h)
  |lit sz aN =>
   refine .lit sz _ ?_
   intro r hr;obtain⟨z,hz,rfl⟩:=List.mem_map.1 hr;exact ih z (List.all_eq_true.1 h z hz)
  |seq sz base bG tail =>
   simp only[CQ,Bool.and_eq_true]at h;refine .lit sz _ ?_
   rw[ML];have key:∀(us:List (Poly×List AV)) (l:List (List AV)),(∀e∈l,∀x∈e,Cl x)→(∀q∈us,∀x∈q.2,Cl x)→∀e∈us.foldl (fun l q=>l.set (PS Ev.dL q.1).toNat q.2) l,∀x∈e,Cl x:=by
    intro us;induction us with
    |nil=>intro l hl _;exact hl
    |cons q us ih2 =>
     intro l hl hq;refine ih2 _ ?_ fun q' hq'=>hq q' (List.mem_cons_of_mem _ hq')
     intro e he;rcases List.mem_or_eq_of_mem_set he with he|rfl
     ·exact hl e he
     ·exact hq q List.mem_cons_self
   intro r hr;rcases List.mem_append.1 hr with hr|hr
   ·refine key _ _ (Ev.uA base) ?_ r hr
    intro q hq;obtain⟨z,hz,rfl⟩:=List.mem_map.1 hq;exact ih z.2 (List.all_eq_true.1 h.1 z hz)
   ·obtain⟨z,hz,rfl⟩:=List.mem_map.1 hr
    exact ih z (List.all_eq_true.1 h.2 z hz)
  |_=>cases h
theorem rD:∀(k:Nat) (x:AV),Cl x→lA k x=true
 |0,_,_=>rfl
 |k+1,x,h=>by
  cases h with
  |c v=>rfl
  |undef=>rfl
  |emp=>rfl
  |any=>rfl
  |agg cs h=>exact List.all_eq_true.2 fun y hy=>rD k y (h y hy)
  |aZ cs h=>exact List.all_eq_true.2 fun y hy=>rD k y (h y hy)
  |lit sz aN h=>exact List.all_eq_true.2 fun r hr=>List.all_eq_true.2 fun y hy=>rD k y (h r hr y hy)
  |pJ t y h=>exact rD k y h
section
variable {b:Bk} {ev:@Ev b} {n:Nat}
end
section
variable {b:Bk} {ev:@Ev b} {n:Nat}
theorem Xz (b1:Bk) (e1:@Ev b1) (b2:Bk) (e2:@Ev b2) (ids:oU) {h1:AH} {bs:List bY} (f:Nat→Option Nat) (h:∀i B,bs[i]?=some B→Hr b1 e1 b2 e2 ids h1 (f i) B):PN b1 e1 b2 e2 ids h1 ((List.range bs.length).map f) bs:=by
 induction bs generalizing f with
 |nil=>exact .nil
 |cons B bs ih =>
  rw[List.length_cons,List.range_succ_eq_map,List.map_cons,List.map_map];exact .cons (h 0 B rfl) (ih (f∘Nat.succ) fun i B' hB=>h (i+1) B' (by simpa using hB))
end
theorem mY {ρ:Nat→Int} {r p q:Poly} {x y n:Int} (hr:bJ ρ r=x) (hp:bJ ρ p=y) (hq:bJ ρ q=n) (h0:0≤y) (h:x=y%n):bJ ρ r=(bJ ρ p).tmod (bJ ρ q):=by rw[hr,hp,hq,h,Int.tmod_eq_emod_of_nonneg h0]
theorem oZ (ρ:Nat→Int) (n:Int):bJ ρ [([],n)]=n:=by simp[bJ,lG]
theorem tT {ρ:Nat→Int} {p:Poly} {x:Int} {l:List (List AV)} {r:List AV} (hp:bJ ρ p=x) (h:l[x.toNat]?=some r):l[(bJ ρ p).toNat]?=some r:=by rw[hp];exact h
end Mc
end Go.Proofs.YtnepgggkgnckcaaGreat
