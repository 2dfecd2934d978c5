/-
 Texts joined and made small by wip/small.sh.
-/
import Derived.Test.YtnepgggkgnckcaaGreatJ2
set_option linter.unusedVariables false
set_option linter.unusedSimpArgs false
namespace Go.Proofs.YtnepgggkgnckcaaGreat
open Go.RowKit
namespace Mc
def ais [Bk] (P:Program) (x:Operand) (ρ:Operand→AV) (h:AH) (nx:Nat):Option AR :=
 some ⟨ρ x,[],[]⟩
def adf [Bk] (P:Program) (x:Operand) (ρ:Operand→AV) (h:AH) (nx:Nat):Option AR :=
 some ⟨ρ x,[],[]⟩
def abK [Bk] (P:Program) (c:Operand) (x:Operand) (y:Operand) (ρ:Operand→AV) (h:AH) (nx:Nat):Option AR :=
 match ρ c with
  | .c (.bool b)=>some ⟨bif b then ρ x else ρ y,[],[]⟩
  |_=>none
def Tq [Bk] (P:Program) (e:TypeId) (ρ:Operand→AV) (h:AH) (nx:Nat):Option AR :=
 match P.info? e with
  |some i=>match i.zero with
   |some z=>match fG (Mg z)with
    |some cs=>if jS h nx then some ⟨.ptr cs.length nx 0 0,[(nx,.cells e cs.length [cs])],[nx]⟩else none
    |none=>none
   |none=>none
  |none=>none
def agk [Bk] (P:Program) (e:TypeId) (x:Operand) (ρ:Operand→AV) (h:AH) (nx:Nat):Option AR :=
 match fG (ρ x)with
  |some cs=>if jS h nx then some ⟨.ptr cs.length nx 0 0,[(nx,.cells e cs.length [cs])],[nx]⟩else none
  |none=>none
def Tl [Bk] (P:Program) (t:TypeId) (parts:Array (Nat×Operand)) (ρ:Operand→AV) (h:AH) (nx:Nat):Option AR :=
 match LP P t (parts.toList.map fun p=>(p.1,ρ p.2))with
  |some cs=>some ⟨.agg cs,[],[]⟩
  |none=>none
def yY [Bk] (P:Program) (t:TypeId) (len:Nat) (parts:Array (Nat×Operand)) (ρ:Operand→AV) (h:AH) (nx:Nat):Option AR :=
 match P.underlying t with
  |some (.slice e)=>match P.info? e with
   |some i=>match i.zero with
    |some z=>match fG (Mg z)with
     |some zc=>if zc.length=i.size∧0<i.size∧0<len∧len*i.size≤16777216∧jS h nx=true then
       match vO (fun k=>some (k*i.size,i.size)) ((List.replicate len zc).flatten) (parts.toList.map fun p=>(p.1,ρ p.2))with
       |some cs=>some ⟨.own e i.size nx 0 len,[(nx,.cells e i.size (chunk i.size len cs))],[nx]⟩
       |none=>none
      else none
     |none=>none
    |none=>none
   |none=>none
  |_=>none
def abM [Bk] (P:Program) (t:TypeId) (x:Operand) (ρ:Operand→AV) (h:AH) (nx:Nat):Option AR :=
 match ρ x with
  | .ptr sz id i off=>match h id with
   | .cells _ s aW=>if s=sz then match aW[i]? with
     |some e=>match kR P t e off with
      |some v=>some ⟨v,[],[id]⟩
      |none=>none
     |none=>none
    else none
   |_=>none
  | .gI _ aW i off=>match aW[i]? with
   |some e=>match kR P t e off with
    |some v=>some ⟨v,[],[]⟩
    |none=>none
   |none=>none
  |_=>none
def Tg [Bk] (P:Program) (t:TypeId) (x:Operand) (y:Operand) (ρ:Operand→AV) (h:AH) (nx:Nat):Option AR :=
 match ρ x with
  | .ptr sz id i off=>match h id with
   | .cells T s aW=>if s=sz then match aW[i]?,fG (ρ y)with
     |some e,some xs=>if dB P t=some xs.length∧off+xs.length≤sz then some ⟨.undef,[(id,.cells T sz (aW.set i (iM e off xs)))],[id]⟩else none
     |_,_=>none
    else none
   |_=>none
  |_=>none
def Fc [Bk] (P:Program) (x:Operand) (ρ:Operand→AV) (h:AH) (nx:Nat):Option AR :=
 match ρ x with
  | .ptr sz id i off=>match h id with
   | .cells _ _ aW=>if(aW[i]?).isSome then some ⟨.ptr sz id i off,[],[id]⟩else none
   |_=>none
  | .gI sz aW i off=>some ⟨.gI sz aW i off,[],[]⟩
  | .fn (.func k) xs ys=>some ⟨.fn (.func k) xs ys,[],[]⟩
  |_=>none
def Tm [Bk] (P:Program) (op:BinOp) (t:TypeId) (x:Operand) (y:Operand) (ρ:Operand→AV) (h:AH) (nx:Nat):Option AR :=
 match aif P op t (Ln x) (Ln y) (ρ x) (ρ y)with
  |some r=>some ⟨r,[],[]⟩
  |none=>none
def abJ [Bk] (P:Program) (op:UnOp) (x:Operand) (ρ:Operand→AV) (h:AH) (nx:Nat):Option AR :=
 match ρ x with
  | .c u=>match unV op u with
   |some r=>some ⟨.c r,[],[]⟩
   |none=>none
  | .e p=>match op with
   | .neg=>if mD (oQ (-1) p)then some ⟨wP (oQ (-1) p),[],[]⟩else none
   |_=>none
  |_=>none
def L8 [Bk] (P:Program) (s:TypeId) (d:TypeId) (x:Operand) (ρ:Operand→AV) (h:AH) (nx:Nat):Option AR :=
 match ρ x with
  | .c (.int _ n)=>match P.underlying s,P.underlying d with
   |some _,some (.int k)=>some ⟨.c (.int k (k.wrap n)),[],[]⟩
   |_,_=>none
  | .c (.string b)=>match P.underlying s,P.underlying d with
   |some _,some .string=>some ⟨.c (.string b),[],[]⟩
   |_,_=>none
  | .e p=>match P.underlying s,P.underlying d with
   |some _,some (.int .i64)=>if mD p then some ⟨.e p,[],[]⟩else none
   |_,_=>none
  |_=>none
def uH [Bk] (P:Program) (t:TypeId) (x:Operand) (ρ:Operand→AV) (h:AH) (nx:Nat):Option AR :=
 if P.concrete t then some ⟨.pE t (ρ x),[],[]⟩else none
def Fe [Bk] (P:Program) (fn:Fn) (first:Array Operand) (captured:Array Operand) (ρ:Operand→AV) (h:AH) (nx:Nat):Option AR :=
 some ⟨.fn fn (first.toList.map ρ) (captured.toList.map ρ),[],[]⟩
def Cz [Bk] (P:Program) (t:TypeId) (x:Operand) (y:Operand) (ρ:Operand→AV) (h:AH) (nx:Nat):Option AR :=
 match ρ x,ρ y with
  | .c (.int _ l),.c (.int _ c)=>match P.underlying t with
   |some (.slice e)=>match P.info? e with
    |some i=>match i.zero with
     |some z=>match fG (Mg z)with
      |some zc=>if zc.length=i.size∧0≤l∧l≤c∧(i.bytes:Int)*c≤281474976710656∧c≤1099511627776∧jS h nx=true then
        some ⟨.own e i.size nx 0 l.toNat,[(nx,.cells e i.size (List.replicate l.toNat zc))],[nx]⟩else none
      |none=>none
     |none=>none
    |none=>none
   |_=>none
  |_,_=>none
def Th [Bk] (P:Program) (t:TypeId) (x:Operand) (lo:Option Operand) (hi:Option Operand) (mx:Option Operand) (ρ:Operand→AV) (h:AH) (nx:Nat):Option AR :=
 match mx with
  |some m=>match lo,hi with
   |none,some hi=>match ρ hi,ρ m with
    | .c (.int _ a),.c (.int _ b)=>match gB h (ρ x)with
     |some _=>if a=0∧b=0∧iQ P t=true∧(P.info? (P.elem t)).isSome=true then some ⟨.emp,[],oU (ρ x)⟩else none
     |none=>none
    |_,_=>none
   |some lo,some hi=>match ρ x with
    | .own T sz id i n=>match h id with
     | .cells T' s aW=>match eV ρ 0 (some lo),eV ρ n (some hi),eV ρ n (some m)with
      |some l,some u,some v=>if T'=T∧s=sz∧aW≠[]∧l≤u∧u≤v∧v≤n∧l<v∧iQ P t=true∧dB P (P.elem t)=some sz then some ⟨.view T sz id (i+l) (u-l),[],[id]⟩else
        if T'=T∧s=sz∧aW≠[]∧l=u∧u=v∧v≤n∧iQ P t=true∧dB P (P.elem t)=some sz then some ⟨.emp,[],[id]⟩else none
      |_,_,_=>none
     |_=>none
    | .lit sz aW=>match eV ρ 0 (some lo),eV ρ 0 (some hi),eV ρ 0 (some m)with
     |some l,some u,some v=>if aW≠[]∧l≤u∧u≤v∧v≤aW.length∧iQ P t=true∧dB P (P.elem t)=some sz then some ⟨.lit sz ((aW.drop l).take (u-l)),[],[]⟩else none
     |_,_,_=>none
    |_=>none
   |_,_=>none
  |none=>match ρ x with
   | .lit sz aW=>match eV ρ 0 lo,eV ρ aW.length hi with
    |some l,some u=>if l≤u∧u≤aW.length∧iQ P t=true∧dB P (P.elem t)=some sz then some ⟨.lit sz ((aW.drop l).take (u-l)),[],[]⟩else none
    |_,_=>none
   | .own T sz id i n=>match h id with
    | .cells T' s aW=>match eV ρ 0 lo,eV ρ n hi with
     |some l,some u=>if T'=T∧s=sz∧aW≠[]∧l≤u∧u≤n∧(l=0∨l<n)∧iQ P t=true∧dB P (P.elem t)=some sz then some ⟨.own T sz id (i+l) (u-l),[],[id]⟩else none
     |_,_=>none
    |_=>none
   | .c (.string s)=>match P.underlying t with
    |some .string=>match eV ρ 0 lo,eV ρ s.size hi with
     |some l,some u=>if l≤u∧u≤s.size then some ⟨.c (.string (s.extract l u)),[],[]⟩else none
     |_,_=>none
    |_=>none
   |_=>none
def CB [Bk] (P:Program) (t:TypeId) (x:Operand) (k:Nat) (ρ:Operand→AV) (h:AH) (nx:Nat):Option AR :=
 match lS P t k with
  |some (_,o',n)=>if n≠0 then match ρ x with
    | .ptr sz id i off=>match h id with
     | .cells _ s aW=>if s=sz∧(aW[i]?).isSome=true then some ⟨.ptr sz id i (off+o'),[],[id]⟩else none
     |_=>none
    | .gI sz aW i off=>some ⟨.gI sz aW i (off+o'),[],[]⟩
    |_=>none
   else none
  |none=>none
def Tk [Bk] (P:Program) (t:TypeId) (x:Operand) (k:Nat) (ρ:Operand→AV) (h:AH) (nx:Nat):Option AR :=
 match lS P t k with
  |some (ty,o',_)=>match ρ x with
   | .agg cs=>match kR P ty cs o' with
    |some v=>some ⟨v,[],[]⟩
    |none=>none
   |_=>none
  |none=>none
def CA [Bk] (P:Program) (t:TypeId) (x:Operand) (ix:Operand) (ρ:Operand→AV) (h:AH) (nx:Nat):Option AR :=
 match ρ ix with
  | .c (.int _ n)=>match P.underlying t with
   |some (.slice e)=>match ρ x with
    | .lit sz aW=>if dB P e=some sz∧0≤n∧n.toNat<aW.length then some ⟨.gI sz aW n.toNat 0,[],[]⟩else none
    | .own T sz id i n'=>match h id with
     | .cells T' s aW=>if T'=T∧s=sz∧dB P e=some sz∧0≤n∧n.toNat<n'∧(aW[i+n.toNat]?).isSome=true then some ⟨.ptr sz id (i+n.toNat) 0,[],[id]⟩else none
     |_=>none
    | .view T sz id i n'=>match h id with
     | .cells T' s aW=>if T'=T∧s=sz∧dB P e=some sz∧0≤n∧n.toNat<n'∧(aW[i+n.toNat]?).isSome=true then some ⟨.ptr sz id (i+n.toNat) 0,[],[id]⟩else none
     |_=>none
    | .row N xs=>match xs[n.toNat]? with
     |some p=>if dB P e=some 1∧0≤n∧R3 (pG (qI n) N)=some true then some ⟨.gI 1 [[wP p]] 0 0,[],[]⟩else none
     |none=>none
    |_=>none
   |some (.array len e)=>match dB P e with
    |some s=>if 0≤n∧n.toNat<len then match ρ x with
      | .ptr sz id i off=>match h id with
       | .cells _ s' aW=>if s'=sz∧(aW[i]?).isSome=true then some ⟨.ptr sz id i (off+n.toNat*s),[],[id]⟩else none
       |_=>none
      | .gI sz aW i off=>some ⟨.gI sz aW i (off+n.toNat*s),[],[]⟩
      |_=>none
     else none
    |none=>none
   |_=>none
  |_=>none
def Tj [Bk] (P:Program) (t:TypeId) (x:Operand) (ix:Operand) (ρ:Operand→AV) (h:AH) (nx:Nat):Option AR :=
 match ρ ix with
  | .c (.int _ n)=>match P.underlying t with
   |some (.array len e)=>match dB P e with
    |some s=>match ρ x with
     | .agg cs=>if 0≤n∧n.toNat<len then match kR P e cs (n.toNat*s)with
       |some v=>some ⟨v,[],[]⟩
       |none=>none
      else none
     |_=>none
    |none=>none
   |some .string=>match ρ x with
    | .c (.string s)=>match s[n.toNat]? with
     |some b=>if 0≤n then some ⟨.c (.int .u8 b.toNat),[],[]⟩else none
     |none=>none
    |_=>none
   |_=>none
  |_=>none
def L7 [Bk] (P:Program) (x:Operand) (k:Nat) (ρ:Operand→AV) (h:AH) (nx:Nat):Option AR :=
 match ρ x with
  | .bB vs=>match vs[k]? with
   |some v=>some ⟨v,[],[]⟩
   |none=>none
  |_=>none
def yX [Bk] (P:Program) (x:Operand) (asserted:TypeId) (ok:Bool) (ρ:Operand→AV) (h:AH) (nx:Nat):Option AR:=none
def Ti [Bk] (P:Program) (t:TypeId) (x:Operand) (ρ:Operand→AV) (h:AH) (nx:Nat):Option AR:=none
def abL [Bk] (P:Program) (x:Operand) (str:Bool) (ρ:Operand→AV) (h:AH) (nx:Nat):Option AR:=none
def L6 [Bk] (P:Program) (rs:Option Operand) (ρ:Operand→AV) (h:AH) (nx:Nat):Option AR:=none
def NT [Bk] (P:Program) (t:TypeId) (x:Operand) (k:Operand) (y:Operand) (ρ:Operand→AV) (h:AH) (nx:Nat):Option AR:=none
def NR [Bk] (P:Program) (t:TypeId) (x:Operand) (k:Operand) (ok:Bool) (ρ:Operand→AV) (h:AH) (nx:Nat):Option AR:=none
def Tp [Bk] (P:Program) (args:Array Operand) (argTypes:Array TypeId) (ρ:Operand→AV) (h:AH) (nx:Nat):Option AR :=
 match args.toList,argTypes.toList with
   |[x],[t]=>match P.underlying t with
    |some (.slice _)=>match gB h (ρ x)with
     |some aW=>some ⟨.c (.int .i64 aW.length),[],oU (ρ x)⟩
     |none=>match ρ x with
      | .row n _=>some ⟨wP n,[],[]⟩
      | .view _ _ _ _ n=>some ⟨.c (.int .i64 n),[],[]⟩
      |_=>none
    |some .string=>match ρ x with
     | .c (.string s)=>some ⟨.c (.int .i64 s.size),[],[]⟩
     |_=>none
    |_=>none
   |_,_=>none
def Ff [Bk] (P:Program) (args:Array Operand) (argTypes:Array TypeId) (ρ:Operand→AV) (h:AH) (nx:Nat):Option AR :=
 match args.toList,argTypes.toList with
   |[x,y],[t,t']=>if t'=t then sP P t (ρ x) (ρ y) h nx else none
   |_,_=>none
def To [Bk] (P:Program) (args:Array Operand) (argTypes:Array TypeId) (ρ:Operand→AV) (h:AH) (nx:Nat):Option AR :=
 match args.toList with
   |[x,y]=>match ρ x,ρ y with
    | .c (.int k p),.c (.int _ q)=>some ⟨.c (.int k (if q > p then q else p)),[],[]⟩
    |u,v=>match toP u,toP v with
     |some p,some q=>match Il p q with
      |some r=>some ⟨wP r,[],[]⟩
      |none=>none
     |_,_=>none
   |[x,y,z]=>match ρ x,ρ y,ρ z with
    | .c (.int k p),.c (.int _ q),.c (.int _ r)=>some ⟨.c (.int k (if r > (if q > p then q else p)then r else(if q > p then q else p))),[],[]⟩
    |_,_,_=>none
   |_=>none
def Tn [Bk] (P:Program) (args:Array Operand) (argTypes:Array TypeId) (ρ:Operand→AV) (h:AH) (nx:Nat):Option AR :=
 match args.toList with
   |[x,y]=>match ρ x,ρ y with
    | .c (.int k p),.c (.int _ q)=>some ⟨.c (.int k (if q<p then q else p)),[],[]⟩
    |u,v=>match toP u,toP v with
     |some p,some q=>match Ik p q with
      |some r=>some ⟨wP r,[],[]⟩
      |none=>none
     |_,_=>none
   |_=>none
def L9 [Bk] (P:Program) (args:Array Operand) (argTypes:Array TypeId) (ρ:Operand→AV) (h:AH) (nx:Nat):Option AR :=
 match args.toList,argTypes.toList with
   |[x],[t]=>match P.underlying t with
    |some (.slice e)=>match gB h (ρ x)with
     |some els0=>if els0.length=0 then some ⟨.bB [],[],oU (ρ x)⟩else
      match P.info? e with
      |some i=>match i.zero with
       |some z=>match fG (Mg z)with
        |some zc=>match ρ x with
         | .own T sz id a n=>match h id with
          | .cells T' s aW=>if T'=T∧s=sz∧zc.length=sz∧0<n∧a+n≤aW.length then some ⟨.bB [],[(id,.cells T sz (iM aW a (List.replicate n zc)))],[id]⟩else none
          |_=>none
         |_=>none
        |none=>none
       |none=>none
      |none=>none
     |none=>none
    |_=>none
   |_,_=>none
def ait [Bk] (P:Program) (b:Builtin) (args:Array Operand) (argTypes:Array TypeId) (ρ:Operand→AV) (h:AH) (nx:Nat):Option AR :=
 match b with
  | .len=>Tp P args argTypes ρ h nx
  | .append=>Ff P args argTypes ρ h nx
  | .max=>To P args argTypes ρ h nx
  | .min=>Tn P args argTypes ρ h nx
  | .clear=>L9 P args argTypes ρ h nx
  |_=>none
def aip [Bk] (P:Program) (op:Op) (ρ:Operand→AV) (h:AH) (nx:Nat):Option AR :=
 match op with
 | .move x=>ais P x ρ h nx
 | .assign x=>adf P x ρ h nx
 | .pick c x y=>abK P c x y ρ h nx
 | .alloc e=>Tq P e ρ h nx
 | .box e x=>agk P e x ρ h nx
 | .build t parts=>Tl P t parts ρ h nx
 | .buildSlice t len parts=>yY P t len parts ρ h nx
 | .load t x=>abM P t x ρ h nx
 | .store t x y=>Tg P t x y ρ h nx
 | .nilCheck x=>Fc P x ρ h nx
 | .binOp op t x y _=>Tm P op t x y ρ h nx
 | .unOp op _ x=>abJ P op x ρ h nx
 | .convert s d x=>L8 P s d x ρ h nx
 | .makeInterface t x=>uH P t x ρ h nx
 | .makeFunc fn first captured=>Fe P fn first captured ρ h nx
 | .makeSlice t x y=>Cz P t x y ρ h nx
 | .slice t x lo hi mx=>Th P t x lo hi mx ρ h nx
 | .fieldAddr t x k=>CB P t x k ρ h nx
 | .field t x k=>Tk P t x k ρ h nx
 | .indexAddr t x ix=>CA P t x ix ρ h nx
 | .index t x ix=>Tj P t x ix ρ h nx
 | .extract x k=>L7 P x k ρ h nx
 | .typeAssert x _ asserted ok=>yX P x asserted ok ρ h nx
 | .range t x=>Ti P t x ρ h nx
 | .next x str=>abL P x str ρ h nx
 | .makeMap _ rs=>L6 P rs ρ h nx
 | .insert t x k y=>NT P t x k y ρ h nx
 | .lookup t x k ok=>NR P t x k ok ρ h nx
 | .call { callee:=.builtin b,args,argTypes }=>ait P b args argTypes ρ h nx
 |_=>none
theorem abI [Bk] (P:Program) (op:Op) (ρ:Operand→AV) (h:AH) (nx:Nat):aip P op ρ h nx=hZ P op ρ h nx:=by
 cases op<;>rfl
inductive Tr where
 |leaf
 |node (v:bX) (l r:Tr)
def Tr.get:Tr→AH
 | .leaf,_=>.no
 | .node v _ _,0=>v
 | .node _ l r,k+1=>if k%2=0 then l.get (k/2)else r.get (k/2)
def Tr.put:Nat→Tr→Nat→bX→Tr
 |0,t,_,_=>t
 |_+1,.leaf,0,b=>.node b .leaf .leaf
 |_+1,.node _ l r,0,b=>.node b l r
 |f+1,.leaf,k+1,b=>if k%2=0 then .node .no (Tr.put f .leaf (k/2) b) .leaf else .node .no .leaf (Tr.put f .leaf (k/2) b)
 |f+1,.node v l r,k+1,b=>if k%2=0 then .node v (Tr.put f l (k/2) b) r else .node v l (Tr.put f r (k/2) b)
theorem Tr.kS [Bk] [Ev] (j:Nat):Tr.leaf.get j=.no:=by cases j<;>rfl
theorem Tr.pK [Bk] [Ev] (b:bX):∀(f:Nat) (t:Tr) (k j:Nat),k<f→(Tr.put f t k b).get j=if j=k then b else t.get j
 |0,t,k,j,h=>by omega
 |f+1,.leaf,0,j,h=>by
  cases j with
  |zero=>rfl
  |succ j =>
   rw[if_neg (by omega)]
   simp only[Tr.put,Tr.get];split<;>simp[Tr.kS]
 |f+1,.node v l r,0,j,h=>by
  cases j with
  |zero=>rfl
  |succ j =>
   rw[if_neg (by omega)]
   simp only[Tr.put,Tr.get]
 |f+1,.leaf,k+1,j,h=>by
  simp only[Tr.put];split
  ·rename_i hk
   cases j with
   |zero=>rw[if_neg (by omega)];rfl
   |succ j =>
    simp only[Tr.get];split
    ·rename_i hj
     rw[Tr.pK b f .leaf (k/2) (j/2) (by omega),Tr.kS]
     by_cases e:j=k
     ·subst e;simp
     ·rw[if_neg (by omega),if_neg (by omega)]
    ·rename_i hj
     rw[if_neg (by omega)];try simp[Tr.kS]
  ·rename_i hk
   cases j with
   |zero=>rw[if_neg (by omega)];rfl
   |succ j =>
    simp only[Tr.get];split
    ·rename_i hj
     rw[if_neg (by omega)];try simp[Tr.kS]
    ·rename_i hj
     rw[Tr.pK b f .leaf (k/2) (j/2) (by omega),Tr.kS]
     by_cases e:j=k
     ·subst e;simp
     ·rw[if_neg (by omega),if_neg (by omega)]
 |f+1,.node v l r,k+1,j,h=>by
  simp only[Tr.put];split
  ·rename_i hk
   cases j with
   |zero=>rw[if_neg (by omega)];rfl
   |succ j =>
    simp only[Tr.get];split
    ·rename_i hj
     rw[Tr.pK b f l (k/2) (j/2) (by omega)]
     by_cases e:j=k
     ·subst e;simp
     ·rw[if_neg (by omega),if_neg (by omega)]
    ·rename_i hj
     rw[if_neg (by omega)]
  ·rename_i hk
   cases j with
   |zero=>rw[if_neg (by omega)];rfl
   |succ j =>
    simp only[Tr.get];split
    ·rename_i hj
     rw[if_neg (by omega)]
    ·rename_i hj
     rw[Tr.pK b f r (k/2) (j/2) (by omega)]
     by_cases e:j=k
     ·subst e;simp
     ·rw[if_neg (by omega),if_neg (by omega)]
def Tr.set (t:Tr) (k:Nat) (b:bX):Tr:=Tr.put (k+1) t k b
theorem Tr.FV [Bk] [Ev] (t:Tr) (k:Nat) (b:bX):(t.set k b).get=cH t.get k b:=by
 funext j
 rw[Tr.set,Tr.pK b _ _ _ _ (by omega)]
 rfl
def Tr.bP (t:Tr):List (Nat×bX)→Tr
 |[]=>t
 |(i,b)::r=>(t.set i b).bP r
theorem Tr.AZ [Bk] [Ev]:∀(u:List (Nat×bX)) (t:Tr),(t.bP u).get=dW t.get u
 |[],t=>rfl
 |(i,b)::r,t=>by simp only[Tr.bP,dW];rw[Tr.AZ r,Tr.FV]
inductive Ft where
 |leaf
 |node (v:AV) (l r:Ft)
def Ft.get:Ft→Nat→Option AV
 | .leaf,_=>none
 | .node v _ _,0=>some v
 | .node _ l r,k+1=>if k%2=0 then l.get (k/2)else r.get (k/2)
def Ft.put:Nat→Ft→Nat→AV→Ft
 |0,t,_,_=>t
 |_+1,.leaf,_,_=>.leaf
 |_+1,.node _ l r,0,b=>.node b l r
 |f+1,.node v l r,k+1,b=>if k%2=0 then .node v (Ft.put f l (k/2) b) r else .node v l (Ft.put f r (k/2) b)
theorem Ft.kS [Bk] [Ev] (j:Nat):Ft.leaf.get j=none:=by cases j<;>rfl
theorem Ft.pK [Bk] [Ev] (b:AV):∀(f:Nat) (t:Ft) (k j:Nat),k<f→(Ft.put f t k b).get j=if j=k then(t.get k).map (fun _=>b)else t.get j
 |0,t,k,j,h=>by omega
 |f+1,.leaf,k,j,h=>by simp[Ft.put,Ft.kS]
 |f+1,.node v l r,0,j,h=>by
  cases j with
  |zero=>rfl
  |succ j=>rw[if_neg (by omega)];simp only[Ft.put,Ft.get]
 |f+1,.node v l r,k+1,j,h=>by
  simp only[Ft.put];split
  ·rename_i hk
   cases j with
   |zero=>rw[if_neg (by omega)];rfl
   |succ j =>
    simp only[Ft.get];split
    ·rename_i hj
     rw[Ft.pK b f l (k/2) (j/2) (by omega)]
     by_cases e:j=k
     ·subst e;simp[hk]
     ·rw[if_neg (by omega),if_neg (by omega)]
    ·rename_i hj
     rw[if_neg (by omega)]
  ·rename_i hk
   cases j with
   |zero=>rw[if_neg (by omega)];rfl
   |succ j =>
    simp only[Ft.get];split
    ·rename_i hj
     rw[if_neg (by omega)]
    ·rename_i hj
     rw[Ft.pK b f r (k/2) (j/2) (by omega)]
     by_cases e:j=k
     ·subst e;simp[hk]
     ·rw[if_neg (by omega),if_neg (by omega)]
def Ft.set (t:Ft) (d:Option Tmp) (b:AV):Ft:=match d with
 |none=>t
 |some k=>Ft.put (k+1) t k b
structure Ft.G where
 f:Ft→Option AV
structure Ft.H where
 f:Ft→AV→Ft
def Ft.look:Nat→Nat→Ft.G
 |0,_=>⟨fun _=>none⟩
 |n+1,k=>if k=0 then⟨fun t=>Ft.casesOn t none (fun v _ _=>some v)⟩else if(k-1)%2=0 then⟨fun t=>Ft.casesOn t none (fun _ l _=>(Ft.look n ((k-1)/2)).f l)⟩else⟨fun t=>Ft.casesOn t none (fun _ _ r=>(Ft.look n ((k-1)/2)).f r)⟩
def Ft.lay:Nat→Nat→Ft.H
 |0,_=>⟨fun t _=>t⟩
 |n+1,k=>if k=0 then⟨fun t b=>Ft.casesOn t .leaf (fun _ l r=>.node b l r)⟩else if(k-1)%2=0 then⟨fun t b=>Ft.casesOn t .leaf (fun v l r=>.node v ((Ft.lay n ((k-1)/2)).f l b) r)⟩else⟨fun t b=>Ft.casesOn t .leaf (fun v l r=>.node v l ((Ft.lay n ((k-1)/2)).f r b))⟩
theorem Ft.look_eq [Bk] [Ev]:∀(n k:Nat) (t:Ft),k<n→(Ft.look n k).f t=t.get k
 |0,k,t,h=>by omega
 |n+1,0,t,h=>by cases t<;>rfl
 |n+1,k+1,t,h=>by
  have e:k+1-1=k:=rfl
  simp only[Ft.look,Nat.add_one_ne_zero,if_false,e];split
  ·rename_i hk
   cases t with
   |leaf=>rfl
   |node v l r=>simp only[Ft.get,hk,if_true];exact Ft.look_eq n _ _ (by omega)
  ·rename_i hk
   cases t with
   |leaf=>rfl
   |node v l r=>simp only[Ft.get,hk,if_false];exact Ft.look_eq n _ _ (by omega)
theorem Ft.XJ [Bk] [Ev] (b:AV):∀(n k:Nat) (t:Ft),k<n→(Ft.lay n k).f t b=Ft.put n t k b
 |0,k,t,h=>by omega
 |n+1,0,t,h=>by cases t<;>rfl
 |n+1,k+1,t,h=>by
  have e:k+1-1=k:=rfl
  simp only[Ft.lay,Nat.add_one_ne_zero,if_false,e];split
  ·rename_i hk
   cases t with
   |leaf=>rfl
   |node v l r=>simp only[Ft.put,hk,if_true];rw[Ft.XJ b n _ _ (by omega)]
  ·rename_i hk
   cases t with
   |leaf=>rfl
   |node v l r=>simp only[Ft.put,hk,if_false];rw[Ft.XJ b n _ _ (by omega)]
def Ft.gt (t:Ft) (k:Nat):Option AV:=(Ft.look (k+1) k).f t
def Ft.st (t:Ft) (d:Option Tmp) (b:AV):Ft:=match d with
 |none=>t
 |some k=>(Ft.lay (k+1) k).f t b
theorem Ft.abi [Bk] [Ev] (t:Ft) (k:Nat):t.gt k=t.get k:=Ft.look_eq _ _ _ (by omega)
theorem Ft.alR [Bk] [Ev] (t:Ft) (d:Option Tmp) (b:AV):t.st d b=t.set d b:=by
 cases d with
 |none=>rfl
 |some k=>exact Ft.XJ b _ _ _ (by omega)
def yR:List AV→List AV
 |[]=>[]
 |[x]=>[x]
 |x::_::l=>x::yR l
def MA:List AV→List AV
 |[]=>[]
 |[_]=>[]
 |_::y::l=>y::MA l
theorem NA [Bk] [Ev]:∀(l:List AV) (k:Nat),(yR l)[k]?=l[2*k]?
 |[],k=>by simp[yR]
 |[x],0=>rfl
 |[x],k+1=>by simp[yR]
 |x::_::l,0=>rfl
 |x::y::l,k+1=>by
  simp only[yR,List.getElem?_cons_succ];rw[NA l k,show 2*(k+1)=2*k+2 by omega]
  rfl
theorem RQ [Bk] [Ev]:∀(l:List AV) (k:Nat),(MA l)[k]?=l[2*k+1]?
 |[],k=>by simp[MA]
 |[x],k=>by simp[MA]
 |x::y::l,0=>rfl
 |x::y::l,k+1=>by
  simp only[MA,List.getElem?_cons_succ];rw[RQ l k,show 2*(k+1)=2*k+1+1 by omega]
  rfl
def Ft.of:Nat→List AV→Ft
 |0,_=>.leaf
 |_+1,[]=>.leaf
 |f+1,x::l=>.node x (Ft.of f (yR l)) (Ft.of f (MA l))
theorem Nz [Bk] [Ev]:∀(l:List AV),(yR l).length≤l.length
 |[]=>by simp[yR]
 |[x]=>by simp[yR]
 |x::y::l=>by simp[yR];have:=Nz l;omega
theorem RP [Bk] [Ev]:∀(l:List AV),(MA l).length≤l.length
 |[]=>by simp[MA]
 |[x]=>by simp[MA]
 |x::y::l=>by simp[MA];have:=RP l;omega
theorem Ft.vA [Bk] [Ev]:∀(f:Nat) (l:List AV) (k:Nat),l.length≤f→(Ft.of f l).get k=l[k]?
 |0,l,k,h=>by
  have:l=[]:=List.length_eq_zero_iff.1 (by omega)
  subst this;simp[Ft.of,Ft.kS]
 |f+1,[],k,h=>by simp[Ft.of,Ft.kS]
 |f+1,x::l,0,h=>rfl
 |f+1,x::l,k+1,h=>by
  have h1:=Nz l;have h2:=RP l;simp only[List.length_cons]at h;simp only[Ft.of,Ft.get,List.getElem?_cons_succ];split
  ·rw[Ft.vA f _ _ (by omega),NA];congr 1;omega
  ·rw[Ft.vA f _ _ (by omega),RQ];congr 1;omega
def FR (f:List AV) (t:Ft):Prop:=∀k,t.get k=f[k]?
theorem FR.set [Bk] [Ev] {f:List AV} {t:Ft} (h:FR f t) (d:Option Tmp) (v:AV):FR (oY f d v) (t.set d v):=by
 cases d with
 |none=>exact h
 |some d =>
  intro k;simp only[Ft.set,oY];rw[Ft.pK v _ _ _ _ (by omega),List.getElem?_set]
  by_cases e:k=d
  ·subst e
   rw[if_pos rfl,if_pos rfl,h k];by_cases hl:k<f.length
   ·simp[hl]
   ·simp[hl]
  ·rw[if_neg e,if_neg (fun x=>e x.symm)]
   exact h k
theorem FR.st [Bk] [Ev] {f:List AV} {t:Ft} (h:FR f t) (d:Option Tmp) (v:AV):FR (oY f d v) (t.st d v):=by rw[Ft.alR];exact h.set d v
def kW (t:Ft):Operand→AV
 | .tmp k=>match t.gt k with|some v=>v|none=>.undef
 | .const v=>Mg v
 | .global g=>.c (.pointer (some ⟨g,0,none⟩))
 | .func k=>.fn (.func k) [] []
theorem FR.ev [Bk] [Ev] {f:List AV} {t:Ft} (h:FR f t):cV f=kW t:=by
 funext o
 cases o with
 |tmp k =>
  simp only[cV,kW,List.getD,Ft.abi,h k];cases f[k]?<;>rfl
 |_=>rfl
structure RT (α:Type) where
 a:α
 t:Tr
 n:Nat
 rd:List Nat
 wr:List Nat
abbrev MT (α:Type):=Tr→Nat→Option (RT α)
def yZ {α β:Type} (R:α→β→Prop) (x:M α) (y:MT β):Prop:=∀t n r,y t n=some r→∃a,x t.get n=some ⟨a,r.t.get,r.n,r.rd,r.wr⟩∧R a r.a
def cI {α:Type}:MT α:=fun _ _=>none
def dE {α:Type} (a:α):MT α:=fun t n=>some ⟨a,t,n,[],[]⟩
def eU {α β:Type} (x:MT α) (k:α→MT β):MT β:=fun t n =>
 match x t n with
 |none=>none
 |some r=>match k r.a r.t r.n with
  |none=>none
  |some s=>some ⟨s.a,s.t,s.n,r.rd++s.rd,r.wr++s.wr⟩
theorem eD [Bk] [Ev] {α β:Type} {R:α→β→Prop} {x:M α}:yZ R x cI:=fun t n r h=>by cases h
theorem gP [Bk] [Ev] {α β:Type} {R:α→β→Prop} {a:α} {b:β} (h:R a b):yZ R (mpure a) (dE b):=fun t n r hr=>by cases hr;exact⟨a,rfl,h⟩
theorem fW [Bk] [Ev] {α β γ δ:Type} {R:α→β→Prop} {S:γ→δ→Prop} {x:M α} {y:MT β} {k:α→M γ} {l:β→MT δ} (hx:yZ R x y) (hk:∀a b,R a b→yZ S (k a) (l b)):yZ S (jM x k) (eU y l):=by
 intro t n r h;unfold eU at h;cases h1:y t n with
 |none=>rw[h1]at h;cases h
 |some q =>
  rw[h1]at h;simp only at h
  cases h2:l q.a q.t q.n with
  |none=>rw[h2]at h;cases h
  |some s =>
   rw[h2]at h;cases h;obtain⟨a,e1,hR⟩:=hx t n q h1;obtain⟨c,e2,hS⟩:=hk a q.a hR q.t q.n s h2;refine⟨c,?_,hS⟩
   unfold jM;rw[e1];simp only
   rw[e2]
section
variable {P:Program}
def E9 [Bk] (P:Program) (op:Op) (ρ:Operand→AV) (h:AH) (nx:Nat):Option AR :=
 match aip P op ρ h nx with
 |some r=>some r
 |none=>fK P op ρ h nx
theorem agb [Bk] (op:Op) (ρ:Operand→AV) (h:AH) (nx:Nat):E9 P op ρ h nx=yI P op ρ h nx:=by unfold E9 yI;rw[abI];cases hZ P op ρ h nx<;>rfl
def ain [Bk] (P:Program) (op:Op) (f:Ft):MT AV:=fun t n =>
 match E9 P op (kW f) t.get n with
 |none=>none
 |some r=>some ⟨r.v,t.bP r.bP,if(r.bP.map (·.1)).contains n then n+1 else n,r.uJ,r.bP.map (·.1)⟩
theorem ag0 [Bk] [Ev] (op:Op) {f:List AV} {g:Ft} (hf:FR f g):yZ Eq (ML P op f) (ain P op g):=by
 intro t n r h;unfold ain at h;unfold ML;rw[hf.ev];rw[agb]at h;cases h1:yI P op (kW g) t.get n with
 |none=>rw[h1]at h;cases h
 |some q =>
  rw[h1]at h;cases h;exact⟨q.v,by simp[Tr.AZ],rfl⟩
def iO [Bk] (P:Program) (call:Fn→List AV→MT AV) (o:Oper) (f:Ft):MT AV :=
 match iY P (kW f) o.op with
 |some (k,args)=>call (.func k) args
 |none=>match mL (kW f) o.op with
  |some (id,args)=>call (.yield id) args
  |none=>ain P o.op f
def oW (ops:Array Oper) (o:Oper) (f:Ft):Option Bool :=
 match o.guard with
 |none=>some true
 |some (j,want)=>match (ops[j]?).bind (·.dst)with
  |none=>some false
  |some d=>match f.gt d with
   |some (.c (.bool b))=>some (b==want)
   |some .undef=>some false
   |none=>some false
   |_=>none
theorem FR.guard [Bk] [Ev] {f:List AV} {g:Ft} (h:FR f g) (ops:Array Oper) (o:Oper):kI ops o f=oW ops o g:=by
 unfold kI oW;cases o.guard with
 |none=>rfl
 |some p =>
  obtain⟨j,want⟩:=p;simp only
  cases(ops[j]?).bind (·.dst)with
  |none=>rfl
  |some d =>
   simp only[Ft.abi,h d];cases f[d]? with
   |none=>rfl
   |some v=>cases v with
    |c u=>cases u<;>rfl
    |_=>rfl
def yV [Bk] (P:Program) (call:Fn→List AV→MT AV) (ops:Array Oper):List Oper→Ft→MT Ft
 |[],f=>dE f
 |o::l,f=>match oW ops o f with
  |some true=>eU (iO P call o f) fun v=>yV P call ops l (f.st o.dst v)
  |some false=>yV P call ops l (f.st o.dst .undef)
  |none=>cI
def RW (x:MT AV):MT (AV×uI):=fun t n =>
 match x t n with
 |none=>none
 |some r=>some ⟨(r.a,⟨r.a,(r.wr++List.range' n (r.n-n)).map fun id=>(id,r.t.get id),r.rd,n,r.n,false⟩),r.t,r.n,r.rd,r.wr⟩
def vF [Bk] (P:Program) (call:Fn→List AV→MT AV) (ops:Array Oper):List Oper→Ft→MT (Ft×List uI)
 |[],f=>dE (f,[])
 |o::l,f=>match oW ops o f with
  |some true=>eU (RW (iO P call o f)) fun v=>eU (vF P call ops l (f.st o.dst v.1)) fun q=>dE (q.1,v.2::q.2)
  |some false=>eU (vF P call ops l (f.st o.dst .undef)) fun q=>dE (q.1,⟨.undef,[],[],0,0,true⟩::q.2)
  |none=>cI
def EA [Bk] (P:Program) (call:Fn→List AV→MT AV) (ops:Array Oper) (f:Ft):MT Ft :=
 if P.follows .mixedOrders then eU (vF P call ops ops.toList f) fun q=>if NC ops q.2 then dE q.1 else cI else cI
def wQ {α:Type} (x:MT α):MT α:=fun t n =>
 match x t n with
 |none=>none
 |some r=>some ⟨r.a,r.t,r.n,(r.rd.filter fun id=>!(decide (n≤id)&&decide (id<r.n))).eraseDups,(r.wr.filter fun id=>!(decide (n≤id)&&decide (id<r.n))).eraseDups⟩
def Ft.list (t:Ft):Nat→Nat→Option (List AV)
 |0,_=>none
 |n+1,k=>match t.gt k with
  |none=>some []
  |some v=>match Ft.list t n (k+1)with
   |none=>none
   |some l=>some (v::l)
theorem FR.list [Bk] [Ev] {f:List AV} {t:Ft} (h:FR f t):∀(n k:Nat) (l:List AV),Ft.list t n k=some l→l=f.drop k
 |0,k,l,hl=>by cases hl
 |n+1,k,l,hl=>by
  simp only[Ft.list,Ft.abi,h k]at hl;cases hk:f[k]? with
  |none =>
   rw[hk]at hl;cases hl;have:=List.getElem?_eq_none_iff.1 hk
   simp[List.drop_eq_nil_of_le this]
  |some v =>
   rw[hk]at hl;simp only at hl
   cases hr:Ft.list t n (k+1)with
   |none=>rw[hr]at hl;cases hl
   |some r =>
    rw[hr]at hl;cases hl;have:=FR.list h n (k+1) r hr
    obtain⟨hlt,hv⟩:=List.getElem?_eq_some_iff.1 hk
    rw[List.drop_eq_getElem_cons hlt,hv,this]
def Fx {α:Type} (id:Nat) (g:bX→Option (α×bX)):MT α:=fun t n =>
 match g (t.get id)with
 |none=>none
 |some (a,b)=>some ⟨a,t.set id b,n,[id],[id]⟩
def Nt (f:List AV) (ps:Array Tmp) (as bd:Code):MT Nat:=fun t n =>
 match t.get n with
 | .no=>some ⟨n,t.set n (.lp .ready f ps as bd),n+1,[n],[n]⟩
 |_=>none
theorem N7 [Bk] [Ev] {α:Type} (id:Nat) (g:bX→Option (α×bX)):yZ Eq (atL id g) (Fx id g):=by
 intro t n r hr;unfold Fx at hr;unfold atL;cases hg:g (t.get id)with
 |none=>rw[hg]at hr;cases hr
 |some p =>
  obtain⟨a,b⟩:=p;rw[hg]at hr;cases hr;exact⟨a,by simp only[Tr.FV],rfl⟩
theorem agY [Bk] [Ev] (f:List AV) (ps:Array Tmp) (as bd:Code):yZ Eq (Xy f ps as bd) (Nt f ps as bd):=by
 intro t n r hr;unfold Nt at hr;unfold Xy;split at hr
 ·rename_i hn
  cases hr;exact⟨n,by simp only[hn,Tr.FV],rfl⟩
 ·cases hr
def gE [Bk] (P:Program) (call:Fn→List AV→MT AV) (tp:Bool):Nat→Code→Ft→MT (AX×Ft)
 |0,_,_=>cI
 |n+1,.skip,f=>dE (.normal,f)
 |n+1,.region _ ops draw,f=>eU (if draw then EA P call ops f else yV P call ops ops.toList f) fun f'=>dE (.normal,f')
 |n+1,.seq x y,f=>eU (gE P call tp n x f) fun q=>match q.1 with
  | .normal=>gE P call tp n y q.2
  |_=>dE q
 |n+1,.cond c x y,f=>match kW f c with
  | .c (.bool b)=>gE P call tp n (if b then x else y) f
  |_=>cI
 |n+1,.block id c,f=>eU (gE P call tp n c f) fun q=>match q.1 with
  | .exit id'=>if id'=id then dE (.normal,q.2)else dE q
  |_=>dE q
 |n+1,.loop c,f=>eU (gE P call tp n c f) fun q=>match q.1 with
  | .normal=>gE P call tp n (.loop c) q.2
  |_=>dE q
 |n+1,.rangeFunc g ps as bd,f=>if tp then match kW f g with
   | .fn (.func k) [] captured=>match Ft.list f 4096 0 with
    |none=>cI
    |some l=>eU (Nt l ps as bd) fun id=>eU (call (.func k) (.rN id::captured)) fun _=>eU (Fx id wM) fun x=>dE (x,f)
   |_=>cI
  else cI
 |n+1,.scope c,f=>gE P call tp n c f
 |n+1,.label _,f=>dE (.normal,f)
 |n+1,.exit id,f=>dE (.exit id,f)
 |n+1,.ret,f=>dE (.ret,f)
 |n+1,_,_=>cI
def Cn [Bk] (P:Program) (L:Nat) (call:Fn→List AV→MT AV) (id:Nat) (args:List AV):MT AV :=
 eU (Fx id acL) fun q=>if args.length=q.2.1.size then
  eU (gE P call false L q.2.2.1 (Ft.of (Nb q.1 q.2.1 args).length (Nb q.1 q.2.1 args))) fun r=>match r.1 with
   | .normal=>eU (Fx id NK) fun _=>eU (gE P call false L q.2.2.2 r.2) fun s=>Fx id (MO s.1)
   |_=>cI
 else cI
def aaM (P:Program) (f:Ft) (h:AH):ResultVar→Option AV
 | .tmp t=>some ((f.gt t).getD .undef)
 | .cell t ty=>aby P ty h ((f.gt t).getD .undef)
def xL (P:Program) (fn:Func) (f:Ft) (h:AH):Option AV :=
 (fn.results.toList.mapM (aaM P f h)).map vJ
def Re (f:Ft):ResultVar→List Nat
 | .tmp _=>[]
 | .cell t _=>T8 ((f.gt t).getD .undef)
def Oh (f:Ft) (l:List ResultVar):List Nat:=l.flatMap (Re f)
def TZ (P:Program) (fn:Func) (f:Ft):MT AV:=fun t n =>
 match xL P fn f t.get with
 |none=>none
 |some v=>some ⟨v,t,n,Oh f fn.results.toList,[]⟩
def XZ (P:Program) (ty:TypeId) (x:AV):MT AV:=fun t n =>
 match P.underlying ty with
 |some (.slice e)=>match P.info? e with
  |some i=>match i.zero,gB t.get x with
   |some z,some aW=>if z.cells.size=i.size∧0<i.size∧(aW.all fun q=>q.length==i.size)=true∧I2 x i.size=true∧aW.length*i.bytes≤140737488355328∧aW.length≤1099511627776∧jS t.get n=true∧jS t.get (n+1)=true∧(oU x).contains n=false then
     some ⟨.own e i.size (n+1) 0 aW.length,t.bP [(n,.dead),(n+1,.cells e i.size aW)],n+2,n::(n+1)::oU x,[n,n+1]⟩else none
   |_,_=>none
  |none=>none
 |_=>none
def abw [Bk] (P:Program) (ty:TypeId) (x:AV):MT AV:=fun t n =>
 match P.underlying ty with
 |some (.slice e)=>match P.info? e with
  |some i=>match i.zero,lG t.get x with
   |some z,some (sz,base,bP,tail,N)=>if z.cells.size=i.size∧0<i.size∧sz=i.size∧Su N i.bytes=true∧jS t.get n=true∧jS t.get (n+1)=true∧(Fo x).contains n=false then
     some ⟨.cQ e i.size (n+1) N,t.bP [(n,.dead),(n+1,.sc e i.size base bP tail N)],n+2,n::(n+1)::Fo x,[n,n+1]⟩else none
   |_,_=>none
  |none=>none
 |_=>none
def F0 [Bk] (P:Program) (ty:TypeId) (x:AV):MT AV:=fun t n =>
 match XZ P ty x t n with
 |some r=>some r
 |none=>abw P ty x t n
def Cx [Bk] (P:Program) (L:Nat) (call:Fn→List AV→MT AV) (k:FuncId) (args:List AV):MT AV :=
 match P.funcs[k]? with
  |none=>cI
  |some fn=>match pJ fn,args with
   |some t,[x]=>F0 P t x
   |_,_=>match fn.body with
    |none=>cI
    | some c => if fn.name == "runtime.NumGoroutine" then cI else
     wQ (eU (gE P call true L c (Ft.of (args.length+fn.ntmps) (args++List.replicate (fn.ntmps-args.length) .undef))) fun q=>match q.1 with
      | .exit _=>cI
      |_=>TZ P fn q.2)
def knT [Bk] (k:FuncId) (args:List AV):MT AV:=fun t n =>
 match yF (rK t.get 16) args with
 |some (as,ids)=>match Sx k as Bk.bN with
  |some r=>bif Aj 8 r then some ⟨r,t,n,ids,[]⟩else some ⟨r,t.bP (ids.map fun id=>(id,bX.dead)),n,ids,ids⟩
  |none=>none
 |none=>none
def sZ [Bk] (P:Program) (L:Nat):Nat→Fn→List AV→MT AV
 |0,_,_=>cI
 |d+1,.func k,args=>match Sy P k args with
  |some v=>dE v
  |none=>if knB P k=true then knT k args else Cx P L (sZ P L d) k args
 |d+1,.yield id,args=>wQ (Cn P L (sZ P L d) id args)
 |_+1,_,_=>cI
variable {cm:Fn→List AV→M AV} {ct:Fn→List AV→MT AV}
theorem PY [Bk] [Ev] (hc:∀k args,yZ Eq (cm k args) (ct k args)) (o:Oper) {f:List AV} {g:Ft} (hf:FR f g):yZ Eq (uE P cm o f) (iO P ct o g):=by
 unfold uE iO;rw[hf.ev];cases iY P (kW g) o.op with
 |some p=>exact hc _ _
 |none =>
  cases mL (kW g) o.op with
  |some p=>exact hc _ _
  |none=>exact ag0 _ hf
theorem agZ [Bk] [Ev] {x:M AV} {y:MT AV} (h:yZ Eq x y):yZ Eq (XC x) (RW y):=by
 intro t n r hr;unfold RW at hr;cases h1:y t n with
 |none=>rw[h1]at hr;cases hr
 |some q =>
  rw[h1]at hr;cases hr;obtain⟨a,e1,rfl⟩:=h t n q h1;refine⟨_,?_,rfl⟩
  unfold XC;rw[e1]
theorem al7 [Bk] [Ev] {ops:Array Oper} {k:Nat} {o:Oper} {l:List Oper} (h:ops.toList.drop k=o::l):ops[k]?=some o∧ops.toList.drop (k+1)=l:=by
 have h1:ops.toList[k]?=some o:=by
  have:=congrArg (·[0]?) h
  simpa using this
 refine⟨by simpa using h1,?_⟩
 have:=congrArg (List.drop 1) h
 simpa[List.drop_drop,Nat.add_comm]using this
theorem N6 [Bk] [Ev] (hc:∀k args,yZ Eq (cm k args) (ct k args)) (ops:Array Oper):∀(l:List Oper) (k:Nat) (f:List AV) (g:Ft),ops.toList.drop k=l→FR f g→yZ FR (Pu P cm ops (List.range' k l.length) f) (yV P ct ops l g)
 |[],k,f,g,_,hf=>gP hf
 |o::l,k,f,g,hl,hf=>by
  obtain⟨h1,h2⟩:=al7 hl;simp only[List.length_cons,List.range'_succ,Pu,yV,h1];rw[hf.guard];cases oW ops o g with
  |none=>exact eD
  |some b =>
   cases b
   ·exact N6 hc ops l (k+1) _ _ h2 (hf.st _ _)
   ·exact fW (PY hc _ hf) fun v u e=>by subst e;exact N6 hc ops l (k+1) _ _ h2 (hf.st _ _)
theorem CW [Bk] [Ev] (hc:∀k args,yZ Eq (cm k args) (ct k args)) (ops:Array Oper):∀(l:List Oper) (k:Nat) (f:List AV) (g:Ft),ops.toList.drop k=l→FR f g→yZ (fun a b=>FR a.1 b.1∧a.2=b.2) (vG P cm ops (List.range' k l.length) f) (vF P ct ops l g)
 |[],k,f,g,_,hf=>gP ⟨hf,rfl⟩
 |o::l,k,f,g,hl,hf=>by
  obtain⟨h1,h2⟩:=al7 hl;simp only[List.length_cons,List.range'_succ,vG,vF,h1];rw[hf.guard];cases oW ops o g with
  |none=>exact eD
  |some b =>
   cases b
   ·exact fW (CW hc ops l (k+1) _ _ h2 (hf.st _ _)) fun a b e=>gP ⟨e.1,by simp only;rw[e.2]⟩
   ·exact fW (agZ (PY hc _ hf)) fun v u e=>by
     subst e;exact fW (CW hc ops l (k+1) _ _ h2 (hf.st _ _)) fun a b e=>gP ⟨e.1,by simp only;rw[e.2]⟩
theorem range_zero [Bk] [Ev] (n:Nat):List.range n=List.range' 0 n:=List.range_eq_range'
theorem adK [Bk] [Ev] (hc:∀k args,yZ Eq (cm k args) (ct k args)) (ops:Array Oper) {f:List AV} {g:Ft} (hf:FR f g):yZ FR (LZ P cm ops f) (EA P ct ops g):=by
 unfold LZ EA;split
 ·have:=CW (P:=P) hc ops ops.toList 0 f g (by simp) hf
  rw[range_zero,show ops.size=ops.toList.length by simp]
  refine fW this fun a b e=>?_
  rw[e.2];split
  ·exact gP e.1
  ·exact eD
 ·exact eD
theorem PZ [Bk] [Ev] {α β:Type} {R:α→β→Prop} {x:M α} {y:MT β} (h:yZ R x y):yZ R (wS x) (wQ y):=by
 intro t n r hr;unfold wQ at hr;cases h1:y t n with
 |none=>rw[h1]at hr;cases hr
 |some q =>
  rw[h1]at hr;cases hr;obtain⟨a,e1,hR⟩:=h t n q h1;refine⟨a,?_,hR⟩
  unfold wS;rw[e1]
theorem kA [Bk] [Ev] (hc:∀k args,yZ Eq (cm k args) (ct k args)) {tp:Bool}:∀(n:Nat) (c:Code) (f:List AV) (g:Ft),FR f g→yZ (fun a b=>a.1=b.1∧FR a.2 b.2) (eK P cm tp n c f) (gE P ct tp n c g)
 |0,c,f,g,hf=>by simp only[eK,gE];exact eD
 |n+1,c,f,g,hf=>by
  cases c with
  |skip=>exact gP ⟨rfl,hf⟩
  |region id ops draw =>
   simp only[eK,gE];refine fW (R:=FR) ?_ fun a b e=>gP ⟨rfl,e⟩
   cases draw
   ·have:=N6 (P:=P) hc ops ops.toList 0 f g (by simp) hf
    rw[range_zero,show ops.size=ops.toList.length by simp]
    exact this
   ·exact adK hc _ hf
  |seq x y =>
   simp only[eK,gE];refine fW (kA hc n x f g hf) fun a b e=>?_
   obtain⟨a1,a2⟩:=a;obtain⟨b1,b2⟩:=b;simp only at e
   obtain⟨rfl,e2⟩:=e;cases a1 with
   |normal=>exact kA hc n y _ _ e2
   |_=>exact gP ⟨rfl,e2⟩
  |cond c x y =>
   simp only[eK,gE];rw[hf.ev];cases kW g c with
   |c v=>cases v with
    |bool b=>exact kA hc n _ _ _ hf
    |_=>exact eD
   |_=>exact eD
  |scope c=>simp only[eK,gE];exact kA hc n c f g hf
  |label l=>exact gP ⟨rfl,hf⟩
  |block id c =>
   simp only[eK,gE];refine fW (kA hc n c f g hf) fun a b e=>?_
   obtain⟨a1,a2⟩:=a;obtain⟨b1,b2⟩:=b;simp only at e
   obtain⟨rfl,e2⟩:=e;cases a1 with
   |exit id'=>simp only;split<;>exact gP ⟨rfl,e2⟩
   |_=>exact gP ⟨rfl,e2⟩
  |loop c =>
   simp only[eK,gE];refine fW (kA hc n c f g hf) fun a b e=>?_
   obtain⟨a1,a2⟩:=a;obtain⟨b1,b2⟩:=b;simp only at e
   obtain⟨rfl,e2⟩:=e;cases a1 with
   |normal=>exact kA hc n _ _ _ e2
   |_=>exact gP ⟨rfl,e2⟩
  |rangeFunc gg ps as bd =>
   simp only[eK,gE];rw[hf.ev];cases tp with
   |false=>exact eD
   |true =>
    cases kW g gg with
    |fn F first captured =>
     cases F with
     |func k =>
      cases first with
      |nil =>
       simp only[if_true];cases hl:Ft.list g 4096 0 with
       |none=>exact eD
       |some l =>
        have e:=hf.list 4096 0 l hl;rw[List.drop_zero]at e;subst e;refine fW (agY _ _ _ _) fun a b e=>?_
        subst e;refine fW (hc _ _) fun c d e=>?_
        refine fW (N7 _ _) fun x y e=>?_
        subst e;exact gP ⟨rfl,hf⟩
      |cons _ _=>exact eD
     |_=>exact eD
    |_=>exact eD
  |exit id=>exact gP ⟨rfl,hf⟩
  |ret=>exact gP ⟨rfl,hf⟩
  |_=>simp only[eK,gE];exact eD
theorem ab4 [Bk] [Ev] (hc:∀k args,yZ Eq (cm k args) (ct k args)) (L id:Nat) (args:List AV):yZ Eq (zT P L cm id args) (Cn P L ct id args):=by
 unfold zT Cn;refine fW (N7 _ _) fun q q' e=>?_
 subst e;split
 ·refine fW (kA hc _ _ _ _ (fun k=>Ft.vA _ _ _ (Nat.le_refl _))) fun a b e=>?_
  obtain⟨a1,a2⟩:=a;obtain⟨b1,b2⟩:=b;simp only at e
  obtain⟨rfl,e2⟩:=e;cases a1 with
  |normal =>
   refine fW (N7 _ _) fun _ _ _=>fW (kA hc _ _ _ _ e2) fun a b e=>?_
   rw[e.1];exact N7 _ _
  |_=>exact eD
 ·exact eD
theorem FR.getD [Bk] [Ev] {f:List AV} {g:Ft} (h:FR f g) (t:Nat):f.getD t .undef=(g.gt t).getD .undef:=by rw[List.getD,Ft.abi,h t]
theorem agX [Bk] [Ev] (fn:Func) {f:List AV} {g:Ft} (hf:FR f g):yZ Eq (Mt P fn f) (TZ P fn g):=by
 have e1:∀h,dX P fn f h=xL P fn g h:=by
  intro h;unfold dX xL;have:yD P f h=aaM P g h:=by
   funext r
   cases r with
   |tmp t=>simp only[yD,aaM,hf.getD]
   |cell t ty=>simp only[yD,aaM,hf.getD]
  rw[this]
 have e2:∀l,II f l=Oh g l:=by
  intro l;unfold II Oh;congr 1
  funext r
  cases r with
  |tmp t=>rfl
  |cell t ty=>simp only[Oi,Re,hf.getD]
 intro t n r hr;unfold TZ at hr;unfold Mt;rw[e1];cases h1:xL P fn g t.get with
 |none=>rw[h1]at hr;cases hr
 |some v=>rw[h1]at hr;cases hr;exact⟨v,by simp only[e2],rfl⟩
theorem ab5 [Bk] [Ev] (ty:TypeId) (x:AV):yZ Eq (vC P ty x) (XZ P ty x):=by
 intro t n r hr;unfold XZ at hr;unfold vC;split at hr
 ·rename_i e he
  split at hr
  ·rename_i i hi
   split at hr
   ·rename_i z aW hz hx
    split at hr
    ·rename_i hc
     cases hr;refine⟨_,?_,rfl⟩
     simp only[he,hi,hz,hx];rw[if_pos hc];simp only[Tr.AZ]
    ·cases hr
   ·cases hr
  ·cases hr
 ·cases hr
theorem TP [Bk] [Ev] (ty:TypeId) (x:AV):yZ Eq (qQ P ty x) (F0 P ty x):=by
 intro t n r hr;unfold F0 at hr;split at hr
 ·rename_i r' h1
  cases hr;obtain⟨a,e,rfl⟩:=ab5 ty x t n r h1;exact⟨_,by unfold qQ;rw[e],rfl⟩
 ·have hS:∃a,vB P ty x t.get n=some ⟨a,r.t.get,r.n,r.rd,r.wr⟩∧a=r.a:=by
   unfold abw at hr;unfold vB;split at hr
   ·rename_i e he
    split at hr
    ·rename_i i hi
     split at hr
     ·rename_i z sz base bP tail N hz hx
      split at hr
      ·rename_i hc
       cases hr;refine⟨_,?_,rfl⟩
       simp only[he,hi,hz,hx];rw[if_pos hc];simp only[Tr.AZ]
      ·cases hr
     ·cases hr
    ·cases hr
   ·cases hr
  obtain⟨a,e,rfl⟩:=hS;exact⟨_,by unfold qQ;rw[EW (h':=t.get) (n':=n) e];exact e,rfl⟩
theorem ab6 [Bk] [Ev] (L:Nat) (ih:∀k args,yZ Eq (cm k args) (ct k args)) (k:FuncId) (args:List AV):yZ Eq (zW P L cm k args) (Cx P L ct k args):=by
  have plain:∀fn:Func,yZ Eq (match fn.body with
    |none=>jL
    | some c => if fn.name == "runtime.NumGoroutine" then jL else
     wS (jM (eK P cm true L c (args++List.replicate (fn.ntmps-args.length) .undef)) fun q=>match q.1 with
      | .exit _=>jL
      |_=>Mt P fn q.2)) (match fn.body with
    |none=>cI
    | some c => if fn.name == "runtime.NumGoroutine" then cI else
     wQ (eU (gE P ct true L c (Ft.of (args.length+fn.ntmps) (args++List.replicate (fn.ntmps-args.length) .undef))) fun q=>match q.1 with
      | .exit _=>cI
      |_=>TZ P fn q.2)):=by
   intro fn;cases fn.body with
   |none=>exact eD
   |some c =>
    simp only
    split
    ·exact eD
    ·refine PZ (fW (kA ih _ _ _ _ (fun k=>Ft.vA _ _ _ (by rw[List.length_append,List.length_replicate];omega))) fun a b e=>?_)
     obtain⟨a1,a2⟩:=a;obtain⟨b1,b2⟩:=b;simp only at e
     obtain⟨rfl,e2⟩:=e;cases a1 with
     |exit id=>exact eD
     |_=>exact agX (P:=P) _ e2
  simp only[zW,Cx];cases P.funcs[k]? with
  |none=>exact eD
  |some fn =>
   simp only
   cases pJ fn with
   |none=>exact plain fn
   |some t =>
    cases args with
    |nil=>exact plain fn
    |cons x l =>
     cases l with
     |nil=>exact TP _ _
     |cons y l=>exact plain fn
theorem aj4 [Bk] [Ev] (k:FuncId) (args:List AV):yZ Eq (knM k args) (knT k args):=by
 intro t n r hr;unfold knT at hr;unfold knM;split at hr
 ·rename_i as ids hf
  split at hr
  ·rename_i v hv
   cases hs:Aj 8 v with
   |true =>
    rw[hs]at hr;cases hr;refine⟨v,?_,rfl⟩
    rw[hf];simp only[hv,hs];rfl
   |false =>
    rw[hs]at hr;cases hr;refine⟨v,?_,rfl⟩
    rw[hf];simp only[hv,hs,Tr.AZ];rfl
  ·cases hr
 ·cases hr
theorem vW [Bk] [Ev] (L:Nat):∀d k args,yZ Eq (sY P L d k args) (sZ P L d k args)
 |0,k,args=>eD
 |d+1,.func k,args=>by
  have ih:=ab6 (P:=P) L (vW L d) k args
  simp only[sY,sZ];cases Sy P k args with
  |some v=>exact gP rfl
  |none =>
   simp only
   split
   ·exact aj4 k args
   ·exact ih
 |d+1,.yield id,args=>PZ (ab4 (vW L d) L id args)
 |d+1,.method _,args=>eD
 |d+1,.methodOf _ _,args=>eD
 |d+1,.via _ _ _ _,args=>eD
theorem NP [Bk] [Ev] (hX:iJ P) {L d:Nat} {k:FuncId} {args:List AV} {t:Tr} {n:Nat} {r:RT AV} (hr:sZ P L d (.func k) args t n=some r):dL P k args t.get (fun v h'=>v=r.a∧h'=r.t.get):=by
 obtain⟨a,e,rfl⟩:=vW L d (.func k) args t n r hr
 exact ade hX e
def uR (o:Option (RT AV)):Bool:=match o with|some r=>(match r.a with | .c (.bool b)=>b|_=>false)|none=>false
theorem TU [Bk] [Ev] (hX:iJ P) {L d:Nat} {k:FuncId} {args:List AV} {t:Tr} {n:Nat} (h:uR (sZ P L d (.func k) args t n)=true):∃h',dL P k args t.get (fun v h''=>v=.c (.bool true)∧h''=h'):=by
 unfold uR at h;split at h
 ·rename_i r hr
  split at h
  ·rename_i b hb
   subst h;exact⟨r.t.get,(NP hX hr).mono fun v h' ⟨e1,e2⟩=>⟨e1.trans hb,e2⟩⟩
  ·cases h
 ·cases h
end
end Mc
namespace Mc
def quiet (E:uI):Bool:=E.bP.isEmpty&&(E.uJ.isEmpty&&Nat.ble E.hi E.lo)
def R0 (E E':uI):Bool:=(yE E).all (fun id=>!EK E' id&&!(yE E').contains id)&&(yE E').all (fun id=>!EK E id&&!(yE E).contains id)
def ak9 (ops:Array Oper) (o o':Oper):Bool :=
 (match o.dst with|none=>true|some d=>!(sH ops o').contains d)&&(match o'.dst with|none=>true|some d=>!(sH ops o).contains d) &&
 (match o.dst,o'.dst with|some d,some d'=>d != d'|_,_=>true)
def aix (ops:Array Oper):Bool :=
 let anc:=yW ops ops.size
 (List.range ops.size).all fun j=>(Fk ops j).all (fun i=>decide (i<j))&&(anc.getD j []).all (fun i=>decide (i<j)) &&
  (List.range j).all fun i=>(anc.getD j []).contains i||(match ops[i]?,ops[j]? with|some o,some o'=>ak9 ops o o'|_,_=>false)
def MC:Nat→List uI→List (Nat×uI)
 |_,[]=>[]
 |k,E::l=>bif quiet E then MC (k+1) l else(k,E)::MC (k+1) l
def C0 (anc:List (List Nat)):List (Nat×uI)→Bool
 |[]=>true
 |p::l=>l.all (fun q=>(anc.getD q.1 []).contains p.1||R0 p.2 q.2)&&C0 anc l
def NB (ops:Array Oper) (Es:List uI):Bool:=aix ops&&(Es.length==ops.size&&C0 (yW ops ops.size) (MC 0 Es))
theorem ahc {E E':uI} (h:quiet E=true):R0 E E'=true:=by
 unfold quiet at h;simp only[Bool.and_eq_true,List.isEmpty_iff,Nat.ble_eq]at h;obtain⟨h1,h2,h3⟩:=h;have e:yE E=[]:=by simp[yE,h1]
 unfold R0;rw[e];simp only[List.all_nil,Bool.true_and,List.all_eq_true];intro id _;simp[EK,h2]
 omega
theorem ahb {E E':uI} (h:quiet E'=true):R0 E E'=true:=by
 unfold quiet at h;simp only[Bool.and_eq_true,List.isEmpty_iff,Nat.ble_eq]at h;obtain⟨h1,h2,h3⟩:=h;have e:yE E'=[]:=by simp[yE,h1]
 unfold R0;rw[e];simp only[List.all_nil,Bool.and_true,List.all_eq_true];intro id _;simp[EK,h2]
 omega
theorem R5 {anc:List (List Nat)}:∀(l:List uI) (k:Nat),(∀(j:Nat) (E:uI),l[j]?=some E→quiet E=false→(k+j,E)∈MC k l)
 |[],k,j,E,h,_=>by simp at h
 |E0::l,k,0,E,h,hq=>by
  cases h;unfold MC;rw[hq];exact List.mem_cons_self
 |E0::l,k,j+1,E,h,hq=>by
  have ih:=R5 (anc:=anc) l (k+1) j E (by simpa using h) hq
  rw[show k+1+j=k+(j+1)by omega]at ih
  unfold MC;cases quiet E0
  ·exact List.mem_cons_of_mem _ ih
  ·exact ih
theorem Nj {anc:List (List Nat)}:∀(l:List uI) (k:Nat),C0 anc (MC k l)=true→∀(i j:Nat) (E E':uI),i<j→l[i]?=some E→l[j]?=some E'→quiet E=false→quiet E'=false→(anc.getD (k+j) []).contains (k+i)=true∨R0 E E'=true
 |[],k,h,i,j,E,E',_,hi,_,_,_=>by simp at hi
 |E0::l,k,h,0,0,E,E',hij,_,_,_,_=>by omega
 |E0::l,k,h,i+1,0,E,E',hij,_,_,_,_=>by omega
 |E0::l,k,h,0,j+1,E,E',hij,hi,hj,hq,hq'=>by
  cases hi;unfold MC at h;rw[hq]at h;simp only[cond_false,C0,Bool.and_eq_true,List.all_eq_true,Bool.or_eq_true]at h;have:=h.1 _ (R5 (anc:=anc) l (k+1) j E' (by simpa using hj) hq')
  rw[show k+1+j=k+(j+1)by omega]at this
  exact this
 |E0::l,k,h,i+1,j+1,E,E',hij,hi,hj,hq,hq'=>by
  have h':C0 anc (MC (k+1) l)=true:=by
   unfold MC at h;cases h0:quiet E0<;>rw[h0]at h
   ·simp only[cond_false,C0,Bool.and_eq_true]at h
    exact h.2
   ·exact h
  have:=Nj l (k+1) h' i j E E' (by omega) (by simpa using hi) (by simpa using hj) hq hq'
  rw[show k+1+j=k+(j+1)by omega,show k+1+i=k+(i+1)by omega]at this
  exact this
theorem afF {ops:Array Oper} {Es:List uI} (h:NB ops Es=true):NC ops Es=true:=by
 unfold NB at h;simp only[Bool.and_eq_true,beq_iff_eq]at h;obtain⟨h1,h2,h3⟩:=h;unfold aix at h1;unfold NC;simp only[List.all_eq_true,Bool.and_eq_true,List.mem_range]at h1 ⊢;intro j hj;obtain⟨⟨a1,a2⟩,a3⟩:=h1 j hj
 refine⟨⟨a1,a2⟩,?_⟩
 intro i hi;have a4:=a3 i hi;rw[Bool.or_eq_true]at a4 ⊢;rcases a4 with a4|a4
 ·exact .inl a4
 have hEi:i<Es.length:=by omega
 have hEj:j<Es.length:=by omega
 have g1:Es[i]?=some Es[i]:=List.getElem?_eq_getElem hEi
 have g2:Es[j]?=some Es[j]:=List.getElem?_eq_getElem hEj
 have mem:(((yW ops ops.size).getD j []).contains i=true)∨R0 Es[i] Es[j]=true:=by
  cases q1:quiet Es[i]with
  |true=>exact .inr (ahc q1)
  |false =>
   cases q2:quiet Es[j]with
   |true=>exact .inr (ahb q2)
   |false =>
    have:=Nj Es 0 h3 i j _ _ hi g1 g2 q1 q2
    simpa using this
 rcases mem with m|m
 ·exact .inl m
 refine .inr ?_
 rw[g1,g2];cases ho:ops[i]? with
 |none=>rw[ho]at a4;cases a4
 |some o =>
  cases ho':ops[j]? with
  |none=>rw[ho,ho']at a4;cases a4
  |some o' =>
   rw[ho,ho']at a4;simp only at a4 ⊢
   unfold ak9 at a4;unfold R0 at m;unfold Py;rw[Bool.and_eq_true]at m;rw[Bool.and_eq_true,Bool.and_eq_true];exact⟨⟨a4,m.1⟩,m.2⟩
structure OF where
 f:Ft→AV
def nV:Operand→OF
 | .tmp k=>⟨fun t=>match (Ft.look (k+1) k).f t with|some v=>v|none=>.undef⟩
 | .const v=>⟨fun _=>Mg v⟩
 | .global g=>⟨fun _=>.c (.pointer (some ⟨g,0,none⟩))⟩
 | .func k=>⟨fun _=>.fn (.func k) [] []⟩
def ME:Option Tmp→Ft.H
 |none=>⟨fun t _=>t⟩
 |some k=>Ft.lay (k+1) k
def jU (r:Option AR):MT AV:=fun t n =>
 match r with
 |none=>none
 |some ⟨v,bP,uJ⟩=>match bP with
  |[]=>some ⟨v,t,n,uJ,[]⟩
  |u=>some ⟨v,t.bP u,if(u.map (·.1)).contains n then n+1 else n,uJ,u.map (·.1)⟩
def iH {α β:Type} (x:MT α) (k:α→MT β):MT β:=fun t n =>
 match x t n with
 |none=>none
 |some ⟨a,t1,n1,rd1,wr1⟩=>match k a t1 n1 with
  |none=>none
  |some ⟨b,t2,n2,rd2,wr2⟩=>some ⟨b,t2,n2,rd1++rd2,wr1++wr2⟩
abbrev vQ:=Fn→List AV→MT AV
structure SF where
 f:vQ→Ft→MT AV
def EV [Bk] (P:Program) (o:Oper):SF :=
 match o.op with
 | .move x=>⟨fun _ f t n=>some ⟨(nV x).f f,t,n,[],[]⟩⟩
 | .assign x=>⟨fun _ f t n=>some ⟨(nV x).f f,t,n,[],[]⟩⟩
 | .pick c x y=>⟨fun _ f tr nx=>jU (abK P c x y (fun o=>(nV o).f f) tr.get nx) tr nx⟩
 | .alloc e=>⟨fun _ f tr nx=>jU (Tq P e (fun o=>(nV o).f f) tr.get nx) tr nx⟩
 | .box e x=>⟨fun _ f tr nx=>jU (agk P e x (fun o=>(nV o).f f) tr.get nx) tr nx⟩
 | .build t parts=>⟨fun _ f tr nx=>jU (Tl P t parts (fun o=>(nV o).f f) tr.get nx) tr nx⟩
 | .buildSlice t len parts=>⟨fun _ f tr nx=>jU (yY P t len parts (fun o=>(nV o).f f) tr.get nx) tr nx⟩
 | .load t x=>⟨fun _ f tr nx=>jU (abM P t x (fun o=>(nV o).f f) tr.get nx) tr nx⟩
 | .store t x y=>⟨fun _ f tr nx=>jU (Tg P t x y (fun o=>(nV o).f f) tr.get nx) tr nx⟩
 | .nilCheck x=>⟨fun _ f tr nx=>jU (Fc P x (fun o=>(nV o).f f) tr.get nx) tr nx⟩
 | .binOp op t x y _=>⟨fun _ f tr nx=>jU (Tm P op t x y (fun o=>(nV o).f f) tr.get nx) tr nx⟩
 | .unOp op _ x=>⟨fun _ f tr nx=>jU (abJ P op x (fun o=>(nV o).f f) tr.get nx) tr nx⟩
 | .convert s d x=>⟨fun _ f tr nx=>jU (L8 P s d x (fun o=>(nV o).f f) tr.get nx) tr nx⟩
 | .makeInterface t x=>⟨fun _ f tr nx=>jU (uH P t x (fun o=>(nV o).f f) tr.get nx) tr nx⟩
 | .makeFunc fn first captured=>⟨fun _ f tr nx=>jU (Fe P fn first captured (fun o=>(nV o).f f) tr.get nx) tr nx⟩
 | .makeSlice t x y=>⟨fun _ f tr nx=>jU (Cz P t x y (fun o=>(nV o).f f) tr.get nx) tr nx⟩
 | .slice t x lo hi mx=>⟨fun _ f tr nx=>jU (Th P t x lo hi mx (fun o=>(nV o).f f) tr.get nx) tr nx⟩
 | .fieldAddr t x k=>⟨fun _ f tr nx=>jU (CB P t x k (fun o=>(nV o).f f) tr.get nx) tr nx⟩
 | .field t x k=>⟨fun _ f tr nx=>jU (Tk P t x k (fun o=>(nV o).f f) tr.get nx) tr nx⟩
 | .indexAddr t x ix=>⟨fun _ f tr nx=>jU (CA P t x ix (fun o=>(nV o).f f) tr.get nx) tr nx⟩
 | .index t x ix=>⟨fun _ f tr nx=>jU (Tj P t x ix (fun o=>(nV o).f f) tr.get nx) tr nx⟩
 | .extract x k=>⟨fun _ f tr nx=>jU (L7 P x k (fun o=>(nV o).f f) tr.get nx) tr nx⟩
 | .typeAssert x _ asserted ok=>⟨fun _ f tr nx=>jU (yX P x asserted ok (fun o=>(nV o).f f) tr.get nx) tr nx⟩
 | .range t x=>⟨fun _ f tr nx=>jU (Ti P t x (fun o=>(nV o).f f) tr.get nx) tr nx⟩
 | .next x str=>⟨fun _ f tr nx=>jU (abL P x str (fun o=>(nV o).f f) tr.get nx) tr nx⟩
 | .makeMap _ rs=>⟨fun _ f tr nx=>jU (L6 P rs (fun o=>(nV o).f f) tr.get nx) tr nx⟩
 | .insert t x k y=>⟨fun _ f tr nx=>jU (NT P t x k y (fun o=>(nV o).f f) tr.get nx) tr nx⟩
 | .lookup t x k ok=>⟨fun _ f tr nx=>jU (NR P t x k ok (fun o=>(nV o).f f) tr.get nx) tr nx⟩
 | .call { callee:=.builtin .len,args,argTypes }=>⟨fun _ f tr nx=>jU (Tp P args argTypes (fun o=>(nV o).f f) tr.get nx) tr nx⟩
 | .call { callee:=.builtin .append,args,argTypes }=>⟨fun _ f tr nx=>jU (Ff P args argTypes (fun o=>(nV o).f f) tr.get nx) tr nx⟩
 | .call { callee:=.builtin .max,args,argTypes }=>⟨fun _ f tr nx=>jU (To P args argTypes (fun o=>(nV o).f f) tr.get nx) tr nx⟩
 | .call { callee:=.builtin .min,args,argTypes }=>⟨fun _ f tr nx=>jU (Tn P args argTypes (fun o=>(nV o).f f) tr.get nx) tr nx⟩
 | .call { callee:=.builtin .clear,args,argTypes }=>⟨fun _ f tr nx=>jU (L9 P args argTypes (fun o=>(nV o).f f) tr.get nx) tr nx⟩
 | .call { callee:=.value g,args,.. }=>⟨fun call f=>match (nV g).f f with
  | .fn (.func k) first captured=>call (.func k) (first++(args.toList.map fun o=>(nV o).f f)++captured)
  | .rN id=>call (.yield id) (args.toList.map fun o=>(nV o).f f)
  |_=>cI⟩
 |_=>⟨fun call f=>iO P call o f⟩
def orS (x y:Option (RT AV)):Option (RT AV):=match x with
 |some r=>some r
 |none=>y
def Ep [Bk] (P:Program) (o:Oper):SF :=
 let c:=EV P o
 let s:SF:=⟨fun call f t n=>orS (c.f call f t n) (jU (fK P o.op (fun o=>(nV o).f f) t.get n) t n)⟩
 match o.op with
 | .load .. | .nilCheck .. | .fieldAddr .. | .indexAddr .. | .store ..=>s
 | .call { callee:=.builtin .len,.. }=>s
 | .call { callee:=.builtin .append,.. }=>s
 |_=>c
structure QF where
 f:vQ→Ft→MT Ft
def xC [Bk] (P:Program) (ops:Array Oper):List Oper→QF
 |[]=>⟨fun _ f=>dE f⟩
 |o::l=>match o.guard with
  |none=>match o.op with
   | .move x=>⟨fun call f=>(xC P ops l).f call ((ME o.dst).f f ((nV x).f f))⟩
   | .assign x=>⟨fun call f=>(xC P ops l).f call ((ME o.dst).f f ((nV x).f f))⟩
   |_=>⟨fun call f=>iH ((Ep P o).f call f) fun v=>(xC P ops l).f call ((ME o.dst).f f v)⟩
  |some _=>⟨fun call f=>match oW ops o f with
   |some true=>iH ((Ep P o).f call f) fun v=>(xC P ops l).f call ((ME o.dst).f f v)
   |some false=>(xC P ops l).f call ((ME o.dst).f f .undef)
   |none=>cI⟩
structure DF where
 f:vQ→Ft→MT (Ft×List uI)
def akj (x:MT AV):MT (AV×uI):=fun t n =>
 match x t n with
 |none=>none
 |some ⟨a,t1,n1,rd,wr⟩=>some ⟨(a,⟨a,(wr++List.range' n (n1-n)).map fun id=>(id,t1.get id),rd,n,n1,false⟩),t1,n1,rd,wr⟩
def LI [Bk] (P:Program) (ops:Array Oper):List Oper→DF
 |[]=>⟨fun _ f=>dE (f,[])⟩
 |o::l=>⟨fun call f=>match oW ops o f with
  |some true=>iH (akj ((Ep P o).f call f)) fun v=>iH ((LI P ops l).f call ((ME o.dst).f f v.1)) fun q=>dE (q.1,v.2::q.2)
  |some false=>iH ((LI P ops l).f call ((ME o.dst).f f .undef)) fun q=>dE (q.1,⟨.undef,[],[],0,0,true⟩::q.2)
  |none=>cI⟩
structure CF where
 f:vQ→Nat→Ft→MT (AX×Ft)
def afb (g:CF) (call:vQ):Nat→Ft→MT (AX×Ft)
 |0,_=>cI
 |n+1,f=>iH (g.f call n f) fun q=>match q with
  |(.normal,f')=>afb g call n f'
  |q=>dE q
def kT [Bk] (P:Program) (tp:Bool):Code→CF
 | .skip=>⟨fun _ n f=>match n with|0=>cI|_+1=>dE (.normal,f)⟩
 | .region _ ops draw=>if draw then⟨fun call n f=>match n with
   |0=>cI
   |_+1=>iH (if P.follows .mixedOrders then iH ((LI P ops ops.toList).f call f) fun q=>if NB ops q.2 then dE q.1 else cI else cI) fun f'=>dE (.normal,f')⟩
  else⟨fun call n f=>match n with
   |0=>cI
   |_+1=>iH ((xC P ops ops.toList).f call f) fun f'=>dE (.normal,f')⟩
 | .seq x y=>⟨fun call n f=>match n with
  |0=>cI
  |n+1=>iH ((kT P tp x).f call n f) fun q=>match q with
   |(.normal,f')=>(kT P tp y).f call n f'
   |q=>dE q⟩
 | .cond c x y=>⟨fun call n f=>match n with
  |0=>cI
  |n+1=>match (nV c).f f with
   | .c (.bool b)=>bif b then(kT P tp x).f call n f else(kT P tp y).f call n f
   |_=>cI⟩
 | .block id c=>⟨fun call n f=>match n with
  |0=>cI
  |n+1=>iH ((kT P tp c).f call n f) fun q=>match q with
   |(.exit id',f')=>if id'=id then dE (.normal,f')else dE (.exit id',f')
   |q=>dE q⟩
 | .loop c=>⟨fun call n f=>afb (kT P tp c) call n f⟩
 | .rangeFunc g ps as bd=>⟨fun call n f=>match n with
  |0=>cI
  |_+1=>if tp then match (nV g).f f with
    | .fn (.func k) [] captured=>match Ft.list f 4096 0 with
     |none=>cI
     |some l=>iH (Nt l ps as bd) fun id=>iH (call (.func k) (.rN id::captured)) fun _=>iH (Fx id wM) fun x=>dE (x,f)
    |_=>cI
   else cI⟩
 | .scope c=>⟨fun call n f=>match n with
  |0=>cI
  |n+1=>(kT P tp c).f call n f⟩
 | .label _=>⟨fun _ n f=>match n with|0=>cI|_+1=>dE (.normal,f)⟩
 | .exit id=>⟨fun _ n f=>match n with|0=>cI|_+1=>dE (.exit id,f)⟩
 | .ret=>⟨fun _ n f=>match n with|0=>cI|_+1=>dE (.ret,f)⟩
 |_=>⟨fun _ _ _=>cI⟩
def SD {α:Type} (x:MT α):MT α:=fun t n =>
 match x t n with
 |none=>none
 |some ⟨a,t1,n1,rd,wr⟩=>some ⟨a,t1,n1,(rd.filter fun id=>!(decide (n≤id)&&decide (id<n1))).eraseDups,(wr.filter fun id=>!(decide (n≤id)&&decide (id<n1))).eraseDups⟩
structure FF where
 f:vQ→List AV→MT AV
def afS [Bk] (P:Program) (L:Nat) (k:FuncId):FF :=
 match P.funcs[k]? with
  |none=>⟨fun _ _=>cI⟩
  |some fn =>
   let body:vQ→List AV→MT AV:=match fn.body with
    |none=>fun _ _=>cI
    | some c => if fn.name == "runtime.NumGoroutine" then fun _ _ => cI else fun call args =>
     SD (iH ((kT P true c).f call L (Ft.of (args.length+fn.ntmps) (args++List.replicate (fn.ntmps-args.length) .undef))) fun q=>match q.1 with
      | .exit _=>cI
      |_=>TZ P fn q.2)
   match pJ fn with
   |some t=>⟨fun call args=>match args with
    |[x]=>F0 P t x
    |_=>body call args⟩
   |none=>⟨body⟩
def TA [Bk] (P:Program) (L:Nat) (call:vQ) (id:Nat) (args:List AV):MT AV :=
 iH (Fx id acL) fun q=>if args.length=q.2.1.size then
  iH ((kT P false q.2.2.1).f call L (Ft.of (Nb q.1 q.2.1 args).length (Nb q.1 q.2.1 args))) fun r=>match r.1 with
   | .normal=>iH (Fx id NK) fun _=>iH ((kT P false q.2.2.2).f call L r.2) fun s=>Fx id (MO s.1)
   |_=>cI
 else cI
def gM [Bk] (P:Program) (L:Nat):Nat→Fn→List AV→MT AV
 |0,_,_=>cI
 |d+1,.func k,args=>match Sy P k args with
  |some v=>dE v
  |none=>if knB P k=true then knT k args else(afS P L k).f (gM P L d) args
 |d+1,.yield id,args=>SD (TA P L (gM P L d) id args)
 |_+1,_,_=>cI
def zV [Bk] (P:Program) (L d:Nat) (k:FuncId) (args:List AV):MT AV:=gM P L d (.func k) args
def Le {α:Type} (x y:MT α):Prop:=∀t n r,x t n=some r→y t n=some r
theorem Le.refl {α:Type} (x:MT α):Le x x:=fun _ _ _ h=>h
theorem Le.fail {α:Type} {y:MT α}:Le cI y:=fun _ _ _ h=>by cases h
theorem Le.bind {α β:Type} {x y:MT α} {k l:α→MT β} (h:Le x y) (hk:∀a,Le (k a) (l a)):Le (iH x k) (eU y l):=by
 intro t n r hr;unfold iH at hr;unfold eU;cases hx:x t n with
 |none=>rw[hx]at hr;cases hr
 |some q =>
  obtain⟨a,t1,n1,rd1,wr1⟩:=q;rw[hx]at hr;simp only at hr
  rw[h _ _ _ hx];simp only
  cases hy:k a t1 n1 with
  |none=>rw[hy]at hr;cases hr
  |some s =>
   obtain⟨b,t2,n2,rd2,wr2⟩:=s;rw[hy]at hr;rw[hk a _ _ _ hy];exact hr
theorem TI {α β:Type} (v:α) (k:α→MT β):eU (dE v) k=k v:=by
 funext t n
 unfold eU dE;simp only
 cases k v t n with
 |none=>rfl
 |some s=>obtain⟨b,t2,n2,rd2,wr2⟩:=s;simp
theorem I5 (o:Operand) (f:Ft):(nV o).f f=kW f o:=by cases o<;>rfl
theorem OH (f:Ft):(fun o=>(nV o).f f)=kW f:=funext fun o=>I5 o f
theorem Cg (d:Option Tmp) (f:Ft) (v:AV):(ME d).f f v=f.st d v:=by cases d<;>rfl
theorem ahI (r:Option AR) (t:Tr) (n:Nat):jU r t n=(match r with
 |none=>none
 |some r=>some ⟨r.v,t.bP r.bP,if(r.bP.map (·.1)).contains n then n+1 else n,r.uJ,r.bP.map (·.1)⟩):=by
 cases r with
 |none=>rfl
 |some r =>
  obtain⟨v,bP,uJ⟩:=r;cases bP with
  |nil=>rfl
  |cons u us=>rfl
section
variable {P:Program} {cf ct:vQ}
theorem agc [Bk] (op:Op) (f:Ft):ain P op f=fun t n=>jU (E9 P op (fun o=>(nV o).f f) t.get n) t n:=by
 funext t n
 rw[ahI,OH];rfl
theorem Ez [Bk] (hc:∀k args,Le (cf k args) (ct k args)) (o:Oper) (f:Ft):Le (iO P cf o f) (iO P ct o f):=by
 unfold iO;cases iY P (kW f) o.op with
 |none =>
  simp only
  cases mL (kW f) o.op with
  |none=>exact Le.refl _
  |some p=>exact hc _ _
 |some p=>exact hc _ _
theorem aah [Bk] {o:Oper} {f:Ft} {g:Operand} {args:Array Operand} {tys:Array TypeId} (h:o.op=.call ⟨.value g,args,tys⟩) {k:FuncId} {first captured:List AV} (hg:kW f g=.fn (.func k) first captured) :
  iO P ct o f=ct (.func k) (first++args.toList.map (kW f)++captured):=by
 unfold iO;have e:iY P (kW f) o.op=some (k,first++args.toList.map (kW f)++captured):=by
  rw[h];unfold iY;simp only[hg]
 rw[e]
theorem aag [Bk] {o:Oper} {f:Ft} {g:Operand} {args:Array Operand} {tys:Array TypeId} (h:o.op=.call ⟨.value g,args,tys⟩) {id:Nat} (hg:kW f g=.rN id) :
  iO P ct o f=ct (.yield id) (args.toList.map (kW f)):=by
 unfold iO;have e:iY P (kW f) o.op=none:=by
  rw[h];unfold iY;simp only[hg]
 have e2:mL (kW f) o.op=some (id,args.toList.map (kW f)):=by
  rw[h];unfold mL;simp only[hg]
 rw[e];simp only[e2]
theorem Ey [Bk] {o:Oper} {f:Ft} (h:iY P (kW f) o.op=none) (hy:mL (kW f) o.op=none):iO P ct o f=fun t n=>jU (E9 P o.op (fun o=>(nV o).f f) t.get n) t n:=by
 unfold iO;rw[h];simp only[hy];exact agc _ f
theorem ajc [Bk] (op:Op) (ρ:Operand→AV):Le (fun t n=>jU (aip P op ρ t.get n) t n) (fun t n=>jU (E9 P op ρ t.get n) t n):=by
 intro t n r hr;simp only at hr ⊢
 unfold E9;cases h:aip P op ρ t.get n with
 |none=>rw[h]at hr;cases hr
 |some q=>rw[h]at hr;exact hr
set_option maxHeartbeats 1000000 in
theorem Ci [Bk] (hc:∀k args,Le (cf k args) (ct k args)) (o:Oper) (f:Ft):Le ((EV P o).f cf f) (iO P ct o f):=by
 cases h:o.op
 case call c =>
  obtain⟨cl,args,tys⟩:=c;cases cl with
  |value g =>
   unfold EV;rw[h];show Le (match (nV g).f f with
    | .fn (.func k) first captured=>cf (.func k) (first++(args.toList.map fun o=>(nV o).f f)++captured)
    | .rN id=>cf (.yield id) (args.toList.map fun o=>(nV o).f f)
    |_=>cI) _
   rw[I5];split
   ·rename_i k first captured he
    rw[aah h he,OH];exact hc _ _
   ·rename_i id he
    rw[aag h he,OH];exact hc _ _
   ·exact Le.fail
  |builtin b =>
   unfold EV;rw[h];cases b<;>first
    |exact Ez hc o f
    |(rw[Ey (by rw[h];rfl) (by rw[h];rfl),h];exact fun t n r hr=>ajc _ _ t n r hr)
  |_ =>
   unfold EV;rw[h];exact Ez hc o f
 all_goals
  unfold EV;rw[h];first
   |exact Ez hc o f
   |(rw[Ey (by rw[h];rfl) (by rw[h];rfl),h];exact fun t n r hr=>ajc _ _ t n r hr)
theorem ND [Bk] (hc:∀k args,Le (cf k args) (ct k args)) (o:Oper) (f:Ft):Le ((Ep P o).f cf f) (iO P ct o f):=by
 have s:iY P (kW f) o.op=none→mL (kW f) o.op=none→Le (fun t n=>orS ((EV P o).f cf f t n) (jU (fK P o.op (fun o=>(nV o).f f) t.get n) t n)) (iO P ct o f):=by
  intro h1 h2 t n r hr;simp only at hr
  cases hx:(EV P o).f cf f t n with
  |some q=>rw[hx]at hr;cases hr;exact Ci hc o f t n r hx
  |none =>
   rw[hx]at hr;have hr:jU (fK P o.op (fun o=>(nV o).f f) t.get n) t n=some r:=hr
   rw[Ey h1 h2];simp only
   cases hs:fK P o.op (fun o=>(nV o).f f) t.get n with
   |none=>rw[hs]at hr;cases hr
   |some q =>
    rw[hs]at hr;unfold E9;rw[abI,NN (h':=t.get) (nx':=n) hs];simp only[hs];exact hr
 unfold Ep;cases h:o.op
 case load=>(rw[h]at s;exact s rfl rfl)
 case nilCheck=>(rw[h]at s;exact s rfl rfl)
 case fieldAddr=>(rw[h]at s;exact s rfl rfl)
 case indexAddr=>(rw[h]at s;exact s rfl rfl)
 case store=>(rw[h]at s;exact s rfl rfl)
 case call c =>
  obtain⟨cl,args,tys⟩:=c;cases cl with
  |builtin b =>
   cases b<;>first
    |(rw[h]at s;exact s rfl rfl)
    |exact Ci hc o f
  |_=>exact Ci hc o f
 all_goals exact Ci hc o f
theorem SE [Bk] (hc:∀k args,Le (cf k args) (ct k args)) (ops:Array Oper):∀(l:List Oper) (f:Ft),Le ((xC P ops l).f cf f) (yV P ct ops l f)
 |[],f=>Le.refl _
 |o::l,f=>by
  have ih:=SE hc ops l;have go:Le (iH ((Ep P o).f cf f) fun v=>(xC P ops l).f cf ((ME o.dst).f f v)) (eU (iO P ct o f) fun v=>yV P ct ops l (f.st o.dst v)) :=
   Le.bind (ND hc o f) fun v=>by rw[Cg];exact ih _
  have mv:∀x,iO P ct o f=dE (kW f x)→Le ((xC P ops l).f cf ((ME o.dst).f f ((nV x).f f))) (eU (iO P ct o f) fun v=>yV P ct ops l (f.st o.dst v)):=by
   intro x hx;rw[hx,TI,Cg,I5];exact ih _
  simp only[xC,yV];cases hg:o.guard with
  |none =>
   have hgt:oW ops o f=some true:=by unfold oW;rw[hg]
   rw[hgt];simp only
   split
   ·rename_i x hx
    refine mv x ?_
    unfold iO;rw[hx];rfl
   ·rename_i x hx
    refine mv x ?_
    unfold iO;rw[hx];rfl
   ·exact go
  |some q =>
   simp only
   cases oW ops o f with
   |none=>exact Le.fail
   |some b =>
    cases b
    ·simp only;rw[Cg];exact ih _
    ·exact go
theorem ahB {x y:MT AV} (h:Le x y):Le (akj x) (RW y):=by
 intro t n r hr;unfold akj at hr;unfold RW;cases hx:x t n with
 |none=>rw[hx]at hr;cases hr
 |some q =>
  obtain⟨a,t1,n1,rd1,wr1⟩:=q;rw[hx]at hr;rw[h _ _ _ hx];exact hr
theorem SG [Bk] (hc:∀k args,Le (cf k args) (ct k args)) (ops:Array Oper):∀(l:List Oper) (f:Ft),Le ((LI P ops l).f cf f) (vF P ct ops l f)
 |[],f=>Le.refl _
 |o::l,f=>by
  have ih:=SG hc ops l;simp only[LI,vF];cases oW ops o f with
  |none=>exact Le.fail
  |some b =>
   cases b
   ·simp only
    exact Le.bind (by rw[Cg];exact ih _) fun q=>Le.refl _
   ·simp only
    exact Le.bind (ahB (ND hc o f)) fun v=>Le.bind (by rw[Cg];exact ih _) fun q=>Le.refl _
theorem ahS [Bk] (hc:∀k args,Le (cf k args) (ct k args)) (ops:Array Oper) (f:Ft) :
  Le (if P.follows .mixedOrders then iH ((LI P ops ops.toList).f cf f) fun q=>if NB ops q.2 then dE q.1 else cI else cI) (EA P ct ops f):=by
 unfold EA;split
 ·refine Le.bind (SG hc ops _ f) fun q=>?_
  by_cases h:NB ops q.2=true
  ·rw[if_pos h,if_pos (afF h)];exact Le.refl _
  ·rw[if_neg h];exact Le.fail
 ·exact Le.fail
theorem kC [Bk] (hc:∀k args,Le (cf k args) (ct k args)) {tp:Bool}:∀(n:Nat) (c:Code) (f:Ft),Le ((kT P tp c).f cf n f) (gE P ct tp n c f)
 |0,c,f=>by
  cases c<;>try exact Le.fail
  case region id ops draw=>cases draw<;>exact Le.fail
 |n+1,c,f=>by
  cases c with
  |skip=>exact Le.refl _
  |region id ops draw =>
   cases draw
   ·show Le (iH ((xC P ops ops.toList).f cf f) fun f'=>dE (AX.normal,f')) (eU (yV P ct ops ops.toList f) fun f'=>dE (AX.normal,f'))
    exact Le.bind (SE hc ops _ f) fun f'=>Le.refl _
   ·show Le (iH (if P.follows .mixedOrders then iH ((LI P ops ops.toList).f cf f) fun q=>if NB ops q.2 then dE q.1 else cI else cI) fun f'=>dE (AX.normal,f')) (eU (EA P ct ops f) fun f'=>dE (AX.normal,f'))
    exact Le.bind (ahS hc ops f) fun f'=>Le.refl _
  |seq x y =>
   refine Le.bind (kC hc n x f) fun q=>?_
   obtain⟨a,f'⟩:=q;cases a with
   |normal=>exact kC hc n y f'
   |_=>exact Le.refl _
  |cond c x y =>
   show Le (match (nV c).f f with | .c (.bool b)=>bif b then(kT P tp x).f cf n f else(kT P tp y).f cf n f|_=>cI) (match kW f c with | .c (.bool b)=>gE P ct tp n (if b then x else y) f|_=>cI)
   rw[I5];split
   ·rename_i b _
    cases b
    ·exact kC hc n y f
    ·exact kC hc n x f
   ·exact Le.fail
  |block id c =>
   refine Le.bind (kC hc n c f) fun q=>?_
   obtain⟨a,f'⟩:=q;cases a with
   |exit id' =>
    simp only
    split<;>exact Le.refl _
   |_=>exact Le.refl _
  |loop c =>
   have key:∀(m:Nat) (f:Ft),m≤n+1→(∀m',m'<m→∀f,Le ((kT P tp c).f cf m' f) (gE P ct tp m' c f))→Le (afb (kT P tp c) cf m f) (gE P ct tp m (.loop c) f):=by
    intro m;induction m with
    |zero=>intro f _ _;exact Le.fail
    |succ m ih =>
     intro f hm hb;refine Le.bind (hb m (by omega) f) fun q=>?_
     obtain⟨a,f'⟩:=q;cases a with
     |normal=>exact ih f' (by omega) (fun m' h=>hb m' (by omega))
     |_=>exact Le.refl _
   exact key (n+1) f (Nat.le_refl _) fun m' h f=>kC hc m' c f
  |rangeFunc g ps as bd =>
   show Le (if tp then match (nV g).f f with
    | .fn (.func k) [] captured=>match Ft.list f 4096 0 with
     |none=>cI
     |some l=>iH (Nt l ps as bd) fun id=>iH (cf (.func k) (.rN id::captured)) fun _=>iH (Fx id wM) fun x=>dE (x,f)
    |_=>cI
   else cI) (if tp then match kW f g with
    | .fn (.func k) [] captured=>match Ft.list f 4096 0 with
     |none=>cI
     |some l=>eU (Nt l ps as bd) fun id=>eU (ct (.func k) (.rN id::captured)) fun _=>eU (Fx id wM) fun x=>dE (x,f)
    |_=>cI
   else cI)
   rw[I5];cases tp with
   |false=>exact Le.fail
   |true =>
    simp only[if_true];split
    ·cases Ft.list f 4096 0 with
     |none=>exact Le.fail
     |some l=>exact Le.bind (Le.refl _) fun id=>Le.bind (hc _ _) fun _=>Le.bind (Le.refl _) fun x=>Le.refl _
    ·exact Le.fail
  |scope c=>exact kC hc n c f
  |label l=>exact Le.refl _
  |exit id=>exact Le.refl _
  |ret=>exact Le.refl _
  |_=>exact Le.fail
 termination_by n=>n
 decreasing_by all_goals omega
theorem SC {α:Type} {x y:MT α} (h:Le x y):Le (SD x) (wQ y):=by
 intro t n r hr;unfold SD at hr;unfold wQ;cases hx:x t n with
 |none=>rw[hx]at hr;cases hr
 |some q =>
  obtain⟨a,t1,n1,rd1,wr1⟩:=q;rw[hx]at hr;rw[h _ _ _ hx];exact hr
theorem afR [Bk] (L:Nat) (hc:∀k args,Le (cf k args) (ct k args)) (k:FuncId) (args:List AV):Le ((afS P L k).f cf args) (Cx P L ct k args):=by
 unfold afS Cx;cases P.funcs[k]? with
 |none=>exact Le.fail
 |some fn =>
  simp only
  have body:Le ((match fn.body with
    |none=>fun _ _=>cI
    | some c => if fn.name == "runtime.NumGoroutine" then fun _ _ => cI else fun call args =>
     SD (iH ((kT P true c).f call L (Ft.of (args.length+fn.ntmps) (args++List.replicate (fn.ntmps-args.length) .undef))) fun q=>match q.1 with
      | .exit _=>cI
      |_=>TZ P fn q.2):vQ→List AV→MT AV) cf args) (match fn.body with
    |none=>cI
    | some c => if fn.name == "runtime.NumGoroutine" then cI else
     wQ (eU (gE P ct true L c (Ft.of (args.length+fn.ntmps) (args++List.replicate (fn.ntmps-args.length) .undef))) fun q=>match q.1 with
      | .exit _=>cI
      |_=>TZ P fn q.2)):=by
   cases fn.body with
   |none=>exact Le.fail
   |some c =>
    simp only
    split
    ·exact Le.fail
    ·refine SC (Le.bind (kC hc L c _) fun q=>?_)
     split
     ·exact Le.fail
     ·exact Le.refl _
  cases pJ fn with
  |none=>exact body
  |some t =>
   cases args with
   |nil=>exact body
   |cons x l =>
    cases l with
    |nil=>exact Le.refl _
    |cons y l=>exact body
theorem abP [Bk] (hc:∀k args,Le (cf k args) (ct k args)) (L id:Nat) (args:List AV):Le (TA P L cf id args) (Cn P L ct id args):=by
 unfold TA Cn;refine Le.bind (Le.refl _) fun q=>?_
 split
 ·refine Le.bind (kC hc L _ _) fun r=>?_
  obtain⟨x,f⟩:=r;cases x with
  |normal=>exact Le.bind (Le.refl _) fun _=>Le.bind (kC hc L _ _) fun s=>Le.refl _
  |_=>exact Le.fail
 ·exact Le.fail
theorem uG [Bk] (L:Nat):∀d k args,Le (gM P L d k args) (sZ P L d k args)
 |0,k,args=>Le.fail
 |d+1,.func k,args=>by
  have ih:=afR (P:=P) L (uG L d) k args
  simp only[gM,sZ];cases Sy P k args with
  |some v=>exact Le.refl _
  |none =>
   simp only
   split
   ·exact Le.refl _
   ·exact ih
 |d+1,.yield id,args=>SC (abP (uG L d) L id args)
 |d+1,.method _,args=>Le.fail
 |d+1,.methodOf _ _,args=>Le.fail
 |d+1,.via _ _ _ _,args=>Le.fail
theorem NQ [Bk] (L d:Nat) (k:FuncId) (args:List AV):Le (zV P L d k args) (sZ P L d (.func k) args):=uG L d (.func k) args
theorem ab9 [Bk] {L d:Nat} {k:FuncId} {args:List AV} {t:Tr} {n:Nat} (h:uR (zV P L d k args t n)=true):uR (sZ P L d (.func k) args t n)=true:=by
 cases hr:zV P L d k args t n with
 |none=>rw[hr]at h;cases h
 |some r=>rw[hr]at h;rw[NQ L d k args t n r hr];exact h
end
end Mc
namespace Mc
section
variable {P:Program}
theorem bW.none [Bk] [Ev] {A:Nat→Prop} {w:World} (hA:∀b,A b→b<w.heap.size) (hg:GOk A w):bW (fun _=>.no) A (fun _=>.no) w where
 out:=fun _ _ h=>by cases h
 FO:=hA
 no:=fun _ _=>rfl
 dead:=fun _ h=>by cases h
 qT:=fun _ _ _ _ h=>by simp[bX.aW]at h
 inj:=fun _ _ _ h=>by cases h
 jF:=hg
 others:=fun _ _ h hB=>by subst h;exact absurd hB (by simp[bX.other])
 PD:=fun _=>trivial
theorem GOk.none [Bk] {A:Nat→Prop} {w:World} (h:Bk.jF=[]):GOk A w:=fun t ht=>absurd (h▸ht:t∈[]) List.not_mem_nil
theorem Ext.below [Bk] [Ev] {m m':Nat→St} {w w':World} (h:Ext m w m' w') (hm:∀id b,m id≠.at b):Below w.heap.size w w' :=
 ⟨h.os,h.tape,h.output,h.size,fun k hk=>(h.un k hk fun id=>hm id k).2⟩
theorem dL.plain [Bk] [Ev] {k:FuncId} {args:List AV} {R:AV→AH→Prop} (h:dL P k args (fun _=>.no) R) (vs:Array Value) (hl:vs.size=args.length) (w:World) (A:Nat→Prop) (hA:∀b,A b→b<w.heap.size) (hg:GOk A w) (hv:∀(i:Nat) (x:AV),args[i]?=some x→cO A w x (vs.getD i Go.undef)) :
  Calls P k vs w fun e w'=>∃v u m' h',e=.returned v∧R u h'∧Rd m' A w' u v∧bW m' A h' w'∧Below w.heap.size w w':=by
 refine(h (fun _=>.no) A w vs (bW.none hA hg) hl fun i x hx=>.pure _ _ ((hv i x hx).mono (Nat.le_refl _) fun b _ hb=>⟨?_,rfl⟩)).mono ?_
 ·rintro(h|⟨id,h⟩)
  ·exact hb h
  ·cases h
 ·rintro e w' ⟨v,u,m',h',h1,h2,h3,h4,h5⟩
  exact⟨v,u,m',h',h1,h2,h4,h3,h5.below fun id b h=>by cases h⟩
theorem Se:Tr.leaf.get=fun _=>bX.no:=by funext j;exact @Tr.kS dI dN j
theorem NW [Bk] [Ev] (hX:iJ P) {L d:Nat} {k:FuncId} {args:List AV} (h:uR (zV P L d k args .leaf 0)=true) (vs:Array Value) (hl:vs.size=args.length) (w:World) (A:Nat→Prop) (hA:∀b,A b→b<w.heap.size) (hg:GOk A w) (hv:∀(i:Nat) (x:AV),args[i]?=some x→cO A w x (vs.getD i Go.undef)) :
  Calls P k vs w fun e w'=>e=.returned (.bool true)∧Below w.heap.size w w':=by
 obtain⟨h',hc⟩:=TU hX (ab9 h)
 rw[Se]at hc;refine(hc.plain vs hl w A hA hg hv).mono ?_
 rintro e w' ⟨v,u,m',h'',rfl,⟨rfl,-⟩,hr,-,hb⟩
 exact⟨by rw[hr.eA],hb⟩
theorem O8:∀{l:List (Int×Int)} {xs:List Int},l.length=xs.length→(∀t∈l.zip xs,t.1.1≤t.2∧t.2≤t.1.2)→∀i,(l.getD i (0,0)).1≤xs.getD i 0∧xs.getD i 0≤(l.getD i (0,0)).2
 |[],[],_,_,i=>by simp
 |[],_::_,h,_,_=>by simp at h
 |_::_,[],h,_,_=>by simp at h
 |a::l,x::xs,h,hb,0=>hb (a,x) (by simp)
 |a::l,x::xs,h,hb,i+1=>by
  simp only[List.getD_cons_succ];exact O8 (by simpa using h) (fun t ht=>hb t (by rw[List.zip_cons_cons];exact List.mem_cons_of_mem _ ht)) i
inductive kG:List (Int×Int)→List Int→Prop
 |nil:kG [] []
 |cons {a b x:Int} {l:List (Int×Int)} {xs:List Int} (h1:a≤x) (h2:x≤b) (h:kG l xs):kG ((a,b)::l) (x::xs)
theorem kG.len {l:List (Int×Int)} {xs:List Int} (h:kG l xs):l.length=xs.length:=by induction h<;>simp_all
theorem kG.all {l:List (Int×Int)} {xs:List Int} (h:kG l xs):∀t∈l.zip xs,t.1.1≤t.2∧t.2≤t.1.2:=by
 induction h with
 |nil=>intro t ht;simp at ht
 |cons h1 h2 _ ih =>
  intro t ht;rw[List.zip_cons_cons]at ht;rcases List.mem_cons.1 ht with rfl|ht
  ·exact⟨h1,h2⟩
  ·exact ih t ht
inductive kJ (ρ:Nat→Int):List (Poly×Int×Int)→Prop
 |nil:kJ ρ []
 |cons {p:Poly} {a b:Int} {l:List (Poly×Int×Int)} (h1:a≤bR ρ p) (h2:bR ρ p≤b) (h:kJ ρ l):kJ ρ ((p,a,b)::l)
theorem kJ.all {ρ:Nat→Int} {l:List (Poly×Int×Int)} (h:kJ ρ l):∀t∈l,t.2.1≤bR ρ t.1∧bR ρ t.1≤t.2.2:=by
 induction h with
 |nil=>intro t ht;exact absurd ht List.not_mem_nil
 |cons h1 h2 _ ih =>
  intro t ht;rcases List.mem_cons.1 ht with rfl|ht
  ·exact⟨h1,h2⟩
  ·exact ih t ht
inductive agn (ρ:Nat→Int):List (Nat×Poly×Poly×Poly)→Prop
 |nil:agn ρ []
 |cons {p q r:Poly} {l:List (Nat×Poly×Poly×Poly)} (h1:bR ρ r=max (bR ρ p) (bR ρ q)) (h:agn ρ l):agn ρ ((2,p,q,r)::l)
theorem agn.all {ρ:Nat→Int} {l:List (Nat×Poly×Poly×Poly)} (h:agn ρ l):∀t∈l,(t.1=0→bR ρ t.2.2.2=(bR ρ t.2.1).tdiv (bR ρ t.2.2.1))∧(t.1=1→bR ρ t.2.2.2=(bR ρ t.2.1).tmod (bR ρ t.2.2.1))∧(t.1=2→bR ρ t.2.2.2=max (bR ρ t.2.1) (bR ρ t.2.2.1)):=by
 induction h with
 |nil=>intro t ht;exact absurd ht List.not_mem_nil
 |cons h1 _ ih =>
  intro t ht;rcases List.mem_cons.1 ht with rfl|ht
  ·refine⟨fun h=>?_,fun h=>?_,fun _=>h1⟩
   ·simp at h
   ·simp at h
  ·exact ih t ht
inductive tP (ρ:Nat→Int):List (Nat×Poly×Poly×Poly)→Prop
 |nil:tP ρ []
 |quo {p q r:Poly} {l:List (Nat×Poly×Poly×Poly)} (h1:bR ρ r=(bR ρ p).tdiv (bR ρ q)) (h:tP ρ l):tP ρ ((0,p,q,r)::l)
 |rem {p q r:Poly} {l:List (Nat×Poly×Poly×Poly)} (h1:bR ρ r=(bR ρ p).tmod (bR ρ q)) (h:tP ρ l):tP ρ ((1,p,q,r)::l)
 |ai8 {p q r:Poly} {l:List (Nat×Poly×Poly×Poly)} (h1:bR ρ r=max (bR ρ p) (bR ρ q)) (h:tP ρ l):tP ρ ((2,p,q,r)::l)
theorem tP.all {ρ:Nat→Int} {l:List (Nat×Poly×Poly×Poly)} (h:tP ρ l):∀t∈l,(t.1=0→bR ρ t.2.2.2=(bR ρ t.2.1).tdiv (bR ρ t.2.2.1))∧(t.1=1→bR ρ t.2.2.2=(bR ρ t.2.1).tmod (bR ρ t.2.2.1))∧(t.1=2→bR ρ t.2.2.2=max (bR ρ t.2.1) (bR ρ t.2.2.1)):=by
 induction h with
 |nil=>intro t ht;exact absurd ht List.not_mem_nil
 |quo h1 _ ih =>
  intro t ht;rcases List.mem_cons.1 ht with rfl|ht
  ·exact⟨fun _=>h1,fun h=>by simp at h,fun h=>by simp at h⟩
  ·exact ih t ht
 |rem h1 _ ih =>
  intro t ht;rcases List.mem_cons.1 ht with rfl|ht
  ·exact⟨fun h=>by simp at h,fun _=>h1,fun h=>by simp at h⟩
  ·exact ih t ht
 |ai8 h1 _ ih =>
  intro t ht;rcases List.mem_cons.1 ht with rfl|ht
  ·exact⟨fun h=>by simp at h,fun h=>by simp at h,fun _=>h1⟩
  ·exact ih t ht
abbrev amE (b:Bk) (xs:List Int) (hd:b.defs=[]) (hb:kG b.vars xs) (hf:kJ (fun i=>xs.getD i 0) b.facts) (hk:b.kinds=[]:=by rfl) (hl:b.lens=[]:=by rfl) (ha:b.hH=[]:=by rfl) (hc:b.SU=[]:=by rfl):@Ev b :=
 @Ev.mk b xs (O8 hb.len hb.all) hf.all (fun t h=>absurd (hd▸h:t∈[]) List.not_mem_nil) [] (fun v h=>absurd h List.not_mem_nil) (fun i c h=>by rw[hk]at h;cases h) [] (fun t h=>absurd (hl▸h:t∈[]) List.not_mem_nil) (fun t h=>absurd (ha▸h:t∈[]) List.not_mem_nil) (fun l h=>absurd h List.not_mem_nil) (fun t h=>absurd (hc▸h:t∈[]) List.not_mem_nil)
theorem ahK [Bk] [Ev] {k:FuncId} (hc:∀w,Calls P k #[] w fun e w'=>e=.returned (.bool true)∧Below w.heap.size w w') (h:AH):dL P k [] h (fun v h'=>v=.c (.bool true)∧h'=h):=by
 intro m A w vs H hl hv;have e:vs=#[]:=by apply Array.eq_empty_of_size_eq_zero;simpa using hl
 subst e;refine(hc w).mono ?_
 rintro e w' ⟨rfl,hb⟩
 exact⟨_,_,m,h,rfl,⟨rfl,rfl⟩,H.below hb,.pure _ _ (.c _),Ext.qK H hb⟩
theorem toPs_vals [Bk] [Ev] {m:Nat→St} {A:Nat→Prop} {w:World}:∀{args:List AV} {ps:List Poly} {l:List Value},toPs args=some ps→l.length=args.length→(∀(i:Nat) (x:AV),args[i]?=some x→Rd m A w x (l.getD i Go.undef))→l=ps.map fun p=>Value.int .i64 (bR Ev.cX p)
 |[],ps,l,h,hl,_=>by
  cases h;exact List.length_eq_zero_iff.1 hl
 |x::args,ps,[],h,hl,_=>by simp at hl
 |x::args,ps,v::l,h,hl,hv=>by
  unfold toPs at h;split at h
  ·rename_i p q hp hq
   cases h;have h1:=toP_ok hp (hv 0 x rfl)
   have h2:=toPs_vals (l:=l) hq (by simpa using hl) (fun i y hy=>hv (i+1) y hy)
   simp only[List.getD_cons_zero]at h1;rw[List.map_cons,←h2,←h1]
  ·cases h
theorem ahL [Bk] [Ev] {k:FuncId} {ps rs:List Poly} (hc:∀w,Calls P k ((ps.map fun p=>Value.int .i64 (bR Ev.cX p)).toArray) w fun e w'=>e=.returned (.tuple ((rs.map fun p=>Value.int .i64 (bR Ev.cX p)).toArray))∧Below w.heap.size w w') (hr:rs.length≠1) (args:List AV) (h:AH) (ha:toPs args=some ps) :
  dL P k args h (fun v h'=>v=vJ (rs.map wP)∧h'=h):=by
 intro m A w vs H hl hv;have e:vs=(ps.map fun p=>Value.int .i64 (bR Ev.cX p)).toArray:=by
  apply Array.ext'
  rw[←toPs_vals (l:=vs.toList) ha (by simpa using hl) (fun i x hx=>by have:=hv i x hx;simpa[List.getD]using this)]
 subst e;have ht:vJ (rs.map wP)=.bB (rs.map wP):=by
  rcases rs with _|⟨a,_|⟨b,l⟩⟩
  ·rfl
  ·exact absurd rfl hr
  ·rfl
 rw[ht];refine(hc w).mono ?_
 rintro e w' ⟨rfl,hb⟩
 refine⟨_,.bB (rs.map wP),m,h,rfl,⟨rfl,rfl⟩,H.below hb,.pure _ _ (.bB _ _ (by simp) ?_),Ext.qK H hb⟩
 intro i x hx;rw[List.getElem?_map]at hx;cases hp:rs[i]? with
 |none=>rw[hp]at hx;cases hx
 |some p =>
  rw[hp]at hx;cases hx;have:((rs.map fun p=>Value.int .i64 (bR Ev.cX p)).toArray).getD i Go.undef=.int .i64 (bR Ev.cX p):=by simp[hp]
  rw[this];exact sQ _ _ p
def FD [Bk] [Ev] (P:Program) (l:List (Nat×List Poly×List Poly)):Prop:=∀k ps rs,(k,ps,rs)∈l→∀args h,toPs args=some ps→dL P k args h (fun v h'=>v=vJ (rs.map wP)∧h'=h)
theorem FD.nil [Bk] [Ev]:FD P []:=fun k ps rs h=>absurd h List.not_mem_nil
theorem FD.cons [Bk] [Ev] {k:Nat} {ps rs:List Poly} {l:List (Nat×List Poly×List Poly)} (h:∀args h,toPs args=some ps→dL P k args h (fun v h'=>v=vJ (rs.map wP)∧h'=h)) (hl:FD P l):FD P ((k,ps,rs)::l):=by
 intro k' ps' rs' hm;rcases List.mem_cons.1 hm with e|hm
 ·cases e;exact h
 ·exact hl _ _ _ hm
def Fz [Bk] [Ev] (P:Program) (l:List Nat):Prop:=∀k,k∈l→∀h,dL P k [] h (fun v h'=>v=.c (.bool true)∧h'=h)
theorem Fz.nil [Bk] [Ev]:Fz P []:=fun k h=>absurd h List.not_mem_nil
theorem Fz.cons [Bk] [Ev] {k:Nat} {l:List Nat} (hc:∀w,Calls P k #[] w fun e w'=>e=.returned (.bool true)∧Below w.heap.size w w') (hl:Fz P l):Fz P (k::l):=by
 intro k' hm h;rcases List.mem_cons.1 hm with e|hm
 ·cases e;exact ahK hc h
 ·exact hl _ hm h
def Mj [Bk] [Ev] (P:Program) (l:List (Nat×List AV×AV)):Prop:=∀k as r,(k,as,r)∈l→FC P k as r
theorem Mj.nil [Bk] [Ev]:Mj P []:=fun k as r h=>absurd h List.not_mem_nil
theorem Mj.cons [Bk] [Ev] {k:Nat} {as:List AV} {r:AV} {l:List (Nat×List AV×AV)} (h:FC P k as r) (hl:Mj P l):Mj P ((k,as,r)::l):=by
 intro k' as' r' hm;rcases List.mem_cons.1 hm with e|hm
 ·cases e;exact h
 ·exact hl _ _ _ hm
theorem cO.cast (b1:Bk) (e1:@Ev b1) (b2:Bk) (e2:@Ev b2) (hxs:@Ev.xs b1 e1=@Ev.xs b2 e2) (hvs:@Ev.oD b1 e1=@Ev.oD b2 e2) (hss:@Ev.Ai b1 e1=@Ev.Ai b2 e2) {A:Nat→Prop} {w:World} {x:AV} {v:Value} (h:@cO b1 e1 A w x v):@cO b2 e2 A w x v:=by
 have hρ:@Ev.cX b1 e1=@Ev.cX b2 e2:=by funext i;unfold Ev.cX;rw[hxs]
 induction h with
 |c v=>exact .c v
 |undef=>exact .undef
 |emp a=>exact .emp a
 |agg cs vs hl h1 _ ih=>exact .agg cs vs hl h1 ih
 |bB cs vs hl _ ih=>exact .bB cs vs hl ih
 |lit sz aW b off cap vs hm hb hc hsz h1 hv _ ih=>exact .lit sz aW b off cap vs hm hb hc hsz h1 hv ih
 |lJ sz a cap hm=>exact .lJ sz a cap hm
 |gI sz aW i0 j0 b off vs hm hb hsz h1 hv _ ih=>exact .gI sz aW i0 j0 b off vs hm hb hsz h1 hv ih
 |fn f xs ys vs us hl hk _ _ ih1 ih2=>exact .fn f xs ys vs us hl hk ih1 ih2
 |pE t x v _ ih=>exact .pE t x v ih
 |e p=>rw[hρ];exact .e p
 |row n xs b off len cap hn hc hm hb hv=>exact .row n xs b off len cap (by rw[←hρ];exact hn) hc hm hb (by rw[←hρ];exact hv)
 |Og n xs a cap hn=>exact .Og n xs a cap (by rw[←hρ];exact hn)
 |o i =>
  have e:@Ev.val b1 e1 i=@Ev.val b2 e2 i:=by unfold Ev.val;rw[hvs]
  rw[e];exact .o i
 |any v h1=>exact .any v h1
 |seq sz base bP tail v hin h1 _ ih =>
  refine .seq sz base bP tail v (by intro q hq;have:=hin q hq;unfold InB at *;rw[←hρ];unfold Ev.seq at *;rw[←hss];exact this) h1 ?_
  have:@rowsOf b1 e1 base bP tail=@rowsOf b2 e2 base bP tail:=by unfold rowsOf Ev.seq;rw[hρ,hss]
  rw[←this];exact ih
 |sR sz base bP tail p off v hin h1 hp _ ih =>
  refine .sR sz base bP tail p off v (by intro q hq;have:=hin q hq;unfold InB at *;rw[←hρ];unfold Ev.seq at *;rw[←hss];exact this) h1 (by rw[←hρ];exact hp) ?_
  have:@rowsOf b1 e1 base bP tail=@rowsOf b2 e2 base bP tail:=by unfold rowsOf Ev.seq;rw[hρ,hss]
  rw[←this,←hρ];exact ih
 |fY v=>exact .fY v
theorem sJ {r:AV→AV→Bool}:∀{a b:List AV},yS r a b=true→a.length=b.length∧∀(i:Nat) (y:AV),b[i]?=some y→∃x,a[i]?=some x∧r x y=true
 |[],[],_=>⟨rfl,fun i y h=>by simp at h⟩
 |[],_::_,h=>by cases h
 |_::_,[],h=>by cases h
 |x::l,y::m,h=>by
  unfold yS at h;rw[Bool.and_eq_true]at h;obtain⟨h1,h2⟩:=sJ h.2;refine⟨by simp[h1],?_⟩
  intro i z hz;cases i with
  |zero=>cases hz;exact⟨x,rfl,h.1⟩
  |succ i=>exact h2 i z (by simpa using hz)
theorem Ce {r:AV→AV→Bool}:∀{a b:List (List AV)},En r a b=true→a.length=b.length∧∀(i:Nat) (y:List AV),b[i]?=some y→∃x,a[i]?=some x∧yS r x y=true
 |[],[],_=>⟨rfl,fun i y h=>by simp at h⟩
 |[],_::_,h=>by cases h
 |_::_,[],h=>by cases h
 |x::l,y::m,h=>by
  unfold En at h;rw[Bool.and_eq_true]at h;obtain⟨h1,h2⟩:=Ce h.2;refine⟨by simp[h1],?_⟩
  intro i z hz;cases i with
  |zero=>cases hz;exact⟨x,rfl,h.1⟩
  |succ i=>exact h2 i z (by simpa using hz)
def isAny:AV→Bool
 | .any=>true
 |_=>false
def MI [Bk]:Nat→AV→AV→Bool
 |0,_,_=>false
 |k+1,x,y=>bif isAny y then x.one else match x with
  | .c v=>match y with
   | .c u=>vEq v u
   | .e p=>match v with
    | .int .i64 n=>eqB (pG p (qI n))==some true
    |_=>false
   |_=>false
  | .e q=>match y with
   | .e p=>decide (p=q)||eqB (pG p q)==some true
   | .c (.int .i64 n)=>eqB (pG q (qI n))==some true
   |_=>false
  | .undef=>match y with | .undef=>true|_=>false
  | .emp=>match y with | .emp=>true | .lit _ []=>true|_=>false
  | .agg a=>match y with | .agg b=>yS (MI k) a b|_=>false
  | .bB a=>match y with | .bB b=>yS (MI k) a b|_=>false
  | .lit s a=>match y with | .lit s' b=>decide (s=s')&&En (MI k) a b|_=>false
  | .row n a=>match y with | .row n' b=>decide (n=n')&&decide (a=b)|_=>false
  | .o i=>match y with | .o j=>decide (i=j)|_=>false
  | .seq s b u t=>yH 16 (.seq s b u t) y
  |_=>false
theorem Si {y:AV} (h:isAny y=true):y=.any:=by unfold isAny at h;split at h<;>first|rfl|cases h
theorem S6 [Bk] {k:Nat} {x y:AV} (h:MI k x y=true) (h1:x.one=true):y.one=true:=by
 cases k with
 |zero=>cases h
 |succ k =>
  unfold MI at h;cases hy:isAny y with
  |true=>rw[Si hy];rfl
  |false =>
  rw[hy]at h;simp only[cond_false]at h;split at h
  ·split at h
   ·rw[←TD h];exact h1
   ·rfl
   ·cases h
  ·split at h
   ·rfl
   ·rfl
   ·cases h
  ·simp[AV.one]at h1
  ·split at h
   ·rfl
   ·rfl
   ·cases h
  ·simp[AV.one]at h1
  ·simp[AV.one]at h1
  ·split at h
   ·rfl
   ·cases h
  ·split at h
   ·rfl
   ·cases h
  ·split at h
   ·rfl
   ·cases h
  ·rw[←vE h];rfl
  ·cases h
theorem abE [Bk] [Ev] {A:Nat→Prop} {w:World}:∀{k:Nat} {x y:AV} {v:Value},MI k x y=true→cO A w x v→cO A w y v
 |0,x,y,v,h,_=>by cases h
 |k+1,x,y,v,h,hr=>by
  have ih:∀{x y:AV} {v:Value},MI k x y=true→cO A w x v→cO A w y v:=abE
  have pe:∀{p q:Poly},(eqB (pG p q)==some true)=true→bR Ev.cX p=bR Ev.cX q:=by
   intro p q hpq;have:=Eo (eq_of_beq hpq)
   rw[eX]at this;have:=of_decide_eq_true this.symm
   omega
  unfold MI at h;cases hy:isAny y with
  |true =>
   rw[hy]at h;rw[Si hy];exact .any v (hr.one h)
  |false =>
  rw[hy]at h;simp only[cond_false]at h;split at h
  ·rename_i u
   split at h
   ·rw[←TD h];exact hr
   ·rename_i p
    split at h
    ·rename_i n
     cases hr;have:=pe h
     rw[oE]at this;rw[←this];exact .e p
    ·cases h
   ·cases h
  ·rename_i q
   split at h
   ·rename_i p
    cases hr;rw[Bool.or_eq_true]at h;rcases h with h|h
    ·rw[←of_decide_eq_true h];exact .e p
    ·rw[←pe h];exact .e p
   ·rename_i n
    cases hr;have:=pe h
    rw[oE]at this;rw[this];exact .c _
   ·cases h
  ·split at h
   ·exact hr
   ·cases h
  ·split at h
   ·exact hr
   ·cases hr;exact .lJ _ _ 0 (Nat.zero_le _)
   ·cases h
  ·split at h
   ·obtain⟨h1,h2⟩:=sJ h
    cases hr with
    |agg _ vs hl h3 h4 =>
     refine .agg _ vs (by rw[hl,h1]) ?_ ?_
     ·intro i y hy
      obtain⟨x,g1,g2⟩:=h2 i y hy;exact S6 g2 (h3 i x g1)
     ·intro i y hy
      obtain⟨x,g1,g2⟩:=h2 i y hy;exact ih g2 (h4 i x g1)
   ·cases h
  ·split at h
   ·obtain⟨h1,h2⟩:=sJ h
    cases hr with
    |bB _ vs hl h4 =>
     refine .bB _ vs (by rw[hl,h1]) ?_
     intro i y hy;obtain⟨x,g1,g2⟩:=h2 i y hy;exact ih g2 (h4 i x g1)
   ·cases h
  ·rename_i s a
   split at h
   ·rename_i s' b
    rw[Bool.and_eq_true,decide_eq_true_eq]at h;obtain⟨rfl,h⟩:=h;obtain⟨h1,h2⟩:=Ce h;have find:∀(i j:Nat) (y:AV),fD b i j=some y→∃x,fD a i j=some x∧MI k x y=true:=by
     intro i j y hy;unfold fD at hy;cases hb:b[i]? with
     |none=>rw[hb]at hy;cases hy
     |some e =>
      rw[hb]at hy;obtain⟨e',g1,g2⟩:=h2 i e hb;obtain⟨-,l2⟩:=sJ g2;obtain⟨x,q1,q2⟩:=l2 j y hy;exact⟨x,by unfold fD;rw[g1];exact q1,q2⟩
    cases hr with
    |lit _ _ bb off cap vs hA hb hc hsz h3 hv h4 =>
     rw[h1];refine .lit s b bb off cap vs hA hb (by rw[←h1];exact hc) ?_ ?_ ?_ ?_
     ·intro e he
      obtain⟨i,hi⟩:=List.mem_iff_getElem?.1 he
      obtain⟨e',g1,g2⟩:=h2 i e hi;rw[←(sJ g2).1];exact hsz e' (List.mem_of_getElem? g1)
     ·intro i j y hy
      obtain⟨x,g1,g2⟩:=find i j y hy;exact S6 g2 (h3 i j x g1)
     ·intro i j y hy
      obtain⟨x,g1,g2⟩:=find i j y hy;exact hv i j x g1
     ·intro i j y hy
      obtain⟨x,g1,g2⟩:=find i j y hy;exact ih g2 (h4 i j x g1)
    |lJ _ a0 cap hm =>
     have e:b=[]:=List.length_eq_zero_iff.1 h1.symm
     subst e;exact .lJ _ a0 cap hm
   ·cases h
  ·split at h
   ·rw[Bool.and_eq_true,decide_eq_true_eq,decide_eq_true_eq]at h
    obtain⟨rfl,rfl⟩:=h;exact hr
   ·cases h
  ·split at h
   ·rw[decide_eq_true_eq]at h;subst h;exact hr
   ·cases h
  ·rw[←vE h];exact hr
  ·cases h
def IF [Bk] (P:Program) (L d:Nat) (k:FuncId) (as:List AV) (r:AV):Bool :=
 match zV P L d k as .leaf 0 with
 |some q=>(match rK q.t.get 16 q.a with
  |some p=>MI 16 p.1 r
  |none=>false)
 |none=>false
theorem al3 (b:Bk) (ev:@Ev b) (b2:Bk) (ev2:@Ev b2) (hxs:@Ev.xs b ev=@Ev.xs b2 ev2) {L d:Nat} {k:FuncId} {as:List AV} {r:AV} (h:@IF b P L d k as r=true) (hx:@FD b ev P b.ext) (hy:@Fz b ev P b.yes) (hk:@Mj b ev P b.bN) (hgl:b.jF=b2.jF:=by rfl) (hvs:@Ev.oD b ev=@Ev.oD b2 ev2:=by rfl) (hss:@Ev.Ai b ev=@Ev.Ai b2 ev2:=by rfl):@FC b2 ev2 P k as r:=by
 intro A w vs hA hG hl hv;unfold IF at h;split at h
 ·rename_i q hq
  split at h
  ·rename_i p hp
   obtain⟨p1,js⟩:=p;have hc:=@NP P b ev ⟨hx,hy,hk⟩ L d k as .leaf 0 q (@NQ P b L d k as _ _ _ hq)
   rw[Se]at hc;have hG1:@GOk b A w:=fun t ht=>hG t (show t∈b2.jF from hgl▸ht)
   have H0:@bW b ev (fun _=>.no) A (fun _=>.no) w:=@bW.none b ev A w hA hG1
   refine(hc (fun _=>.no) A w vs H0 hl fun i x hi=>@Rd.pure b ev (fun _=>.no) A w x _ ?_).mono ?_
   ·have:=cO.cast b2 ev2 b ev hxs.symm hvs.symm hss.symm (hv i x hi)
    refine @cO.mono b ev _ _ _ _ (Nat.le_refl _) (fun c _ hc=>⟨?_,rfl⟩) _ _ this
    rintro(h|⟨id,h⟩)
    ·exact hc h
    ·cases h
   ·rintro e w' ⟨v,u,m',h',rfl,⟨rfl,rfl⟩,H',hr,hE⟩
    have h1:=@zP b ev m' A q.t.get w' H' js 16 q.a p1 js v hp (fun id h=>h) hr
    have h2:=cO.cast b ev b2 ev2 hxs hvs hss (@abE b ev _ _ 16 p1 r v h h1)
    refine⟨v,rfl,@cO.mono b2 ev2 _ _ _ _ (Nat.le_refl _) (fun c _ hc=>⟨fun h=>hc (.inl h),rfl⟩) _ _ h2,?_⟩
    exact @Ext.below b ev _ _ _ _ hE fun id b h=>by cases h
  ·cases h
 ·cases h
def adj [Bk] [Ev] (w:World) (args:List AV) (vs:List Value):Prop:=∀(i:Nat) (x:AV),args[i]?=some x→cO (fun _=>False) w x (vs.getD i Go.undef)
theorem adj.nil [Bk] [Ev] {w:World}:adj w [] []:=fun i x h=>by simp at h
theorem adj.cons [Bk] [Ev] {w:World} {x:AV} {args:List AV} {v:Value} {vs:List Value} (h:cO (fun _=>False) w x v) (hl:adj w args vs):adj w (x::args) (v::vs):=by
 intro i y hy;cases i with
 |zero=>cases hy;exact h
 |succ i=>exact hl i y hy
theorem cO.var [Bk] [Ev] {A:Nat→Prop} {w:World} {i:Nat} {v:Int} (h:bR Ev.cX (alU i)=v):cO A w (.e (alU i)) (.int .i64 v):=h▸.e _
theorem ajk (b:Bk) (ev:@Ev b) {L d:Nat} {k:FuncId} {args:List AV} (h:uR (@zV b P L d k args .leaf 0)=true) (hx:@FD b ev P b.ext) (hy:@Fz b ev P b.yes) (hk:@Mj b ev P b.bN) (vs:List Value) (hl:vs.length=args.length) (w:World) (hv:@adj b ev w args vs) (hg:b.jF=[]:=by rfl) :
  Calls P k vs.toArray w fun e w'=>e=.returned (.bool true)∧Below w.heap.size w w' :=
 @NW P b ev ⟨hx,hy,hk⟩ L d k args h vs.toArray (by simpa using hl) w (fun _=>False) (fun _ h=>h.elim) (@GOk.none b _ _ hg) (fun i x hx=>by have:=hv i x hx;simpa[List.getD]using this)
end
end Mc
namespace Mc
section
variable {P:Program}
structure CK (P:Program) (k:FuncId) (as:List AV) (r:AV):Prop where
 args:∀x∈as,Cl x
 res:Cl r
 ok:@FC dI dN P k as r
abbrev AV.i (v:Int):AV:=.c (.int .i64 v)
theorem CK.named (b:Bk) (ev:@Ev b) {k:FuncId} {as as':List AV} {r r':AV} (hc:CK P k as' r') (ea:as.map (@den b ev 12)=as') (er:@den b ev 12 r=r') (hu:lD 12 r=true):@FC b ev P k as r:=by
 subst ea;subst er;intro A w vs hA hG hl hv;refine(hc.ok A w vs hA (fun t h=>absurd h List.not_mem_nil) (by simpa using hl) ?_).mono ?_
 ·intro i y hy
  have hm:=List.mem_of_getElem? hy
  rw[List.getElem?_map]at hy;obtain⟨x,hx,rfl⟩:=Option.map_eq_some_iff.1 hy;exact cO.cl (b1:=b) (e1:=ev) (hc.args _ hm) (@cO.Lg b ev A w 12 x _ (hv i x hx))
 ·rintro e w' ⟨v,he,h1,h2⟩
  exact⟨v,he,@cO.CS b ev A w' 12 r v hu (cO.cl (b2:=b) (e2:=ev) hc.res h1),h2⟩
theorem CK.aeX (b:Bk) (ev:@Ev b) {L d:Nat} {k:FuncId} {as as':List AV} {r r':AV} (h:@IF b P L d k as r=true) (hx:@FD b ev P b.ext) (hy:@Fz b ev P b.yes) (hk:@Mj b ev P b.bN) (ea:as.map (@den b ev 12)=as') (er:@den b ev 12 r=r') (ha:∀x∈as',Cl x) (hr:Cl r') (hu:as.all (lD 12)=true) (hg:b.jF=[]:=by rfl) :
  CK P k as' r':=by
 subst ea;subst er;refine⟨ha,hr,?_⟩
 have K:=al3 b ev b ev rfl h hx hy hk;intro A w vs hA hG hl hv;refine(K A w vs hA (@GOk.none b A w hg) (by simpa using hl) ?_).mono ?_
 ·intro i x hx
  have hy:(as.map (@den b ev 12))[i]?=some (@den b ev 12 x):=by rw[List.getElem?_map,hx];rfl
  exact @cO.CS b ev A w 12 x _ (List.all_eq_true.1 hu x (List.mem_of_getElem? hx)) (cO.cl (b1:=dI) (e1:=dN) (ha _ (List.mem_of_getElem? hy)) (hv i _ hy))
 ·rintro e w' ⟨v,he,h1,h2⟩
  exact⟨v,he,cO.cl (b1:=b) (e1:=ev) hr (@cO.Lg b ev A w' 12 r v h1),h2⟩
theorem CK.cast {k:FuncId} {as as':List AV} {r r':AV} (h:CK P k as r) (ea:as=as') (er:r=r'):CK P k as' r':=by subst ea;subst er;exact h
theorem al4 (b:Bk) (ev:@Ev b):@Mj b ev P []:=@Mj.nil P b ev
theorem afl (b:Bk) (ev:@Ev b) {k:Nat} {as:List AV} {r:AV} {l:List (Nat×List AV×AV)} (h:@FC b ev P k as r) (hl:@Mj b ev P l):@Mj b ev P ((k,as,r)::l):=@Mj.cons P b ev k as r l h hl
theorem afy (b:Bk) (ev:@Ev b):@FD b ev P []:=@FD.nil P b ev
theorem adl (b:Bk) (ev:@Ev b):@Fz b ev P []:=@Fz.nil P b ev
theorem aeU:∀v∈([]:List Value),v.oneCell'=true:=fun v h=>absurd h List.not_mem_nil
theorem mC {v:Value} {l:List Value} (h:v.oneCell'=true) (hl:∀v∈l,v.oneCell'=true):∀u∈v::l,u.oneCell'=true:=by
 intro u hu;rcases List.mem_cons.1 hu with rfl|hu
 ·exact h
 ·exact hl u hu
theorem aaA:∀l∈([]:List (List (List AV))),∀r∈l,∀x∈r,Cl x:=fun v h=>absurd h List.not_mem_nil
theorem lH {l:List (List AV)} {ss:List (List (List AV))} (h:∀r∈l,∀x∈r,Cl x) (hl:∀l∈ss,∀r∈l,∀x∈r,Cl x):∀m∈l::ss,∀r∈m,∀x∈r,Cl x:=by
 intro u hu;rcases List.mem_cons.1 hu with rfl|hu
 ·exact h
 ·exact hl u hu
inductive lN (ρ:Nat→Int) (ss:List (List (List AV))):List (Nat×Poly)→Prop
 |nil:lN ρ ss []
 |cons {k:Nat} {p:Poly} {l:List (Nat×Poly)} (h1:((ss.getD k []).length:Int)=bR ρ p) (h:lN ρ ss l):lN ρ ss ((k,p)::l)
theorem lN.all {ρ:Nat→Int} {ss:List (List (List AV))} {l:List (Nat×Poly)} (h:lN ρ ss l):∀t∈l,((ss.getD t.1 []).length:Int)=bR ρ t.2:=by
 induction h with
 |nil=>intro t ht;exact absurd ht List.not_mem_nil
 |cons h1 h ih =>
  intro t ht;rcases List.mem_cons.1 ht with rfl|ht
  ·exact h1
  ·exact ih t ht
inductive vS (ρ:Nat→Int) (vl:Nat→Value) (ss:List (List (List AV))):List (Nat×Poly×List AV)→Prop
 |nil:vS ρ vl ss []
 |cons {k:Nat} {p:Poly} {r r0:List AV} {l:List (Nat×Poly×List AV)} (h0:0≤bR ρ p) (h1:(ss.getD k [])[(bR ρ p).toNat]?=some r0) (h2:r.map (yG ρ vl (fun i=>ss.getD i []) 12)=r0) (h3:r.all (lD 12)=true) (h:vS ρ vl ss l):vS ρ vl ss ((k,p,r)::l)
theorem vS.all {ρ:Nat→Int} {vl:Nat→Value} {ss:List (List (List AV))} {l:List (Nat×Poly×List AV)} (h:vS ρ vl ss l):∀t∈l,0≤bR ρ t.2.1∧(ss.getD t.1 [])[(bR ρ t.2.1).toNat]?=some (t.2.2.map (yG ρ vl (fun i=>ss.getD i []) 12))∧t.2.2.all (lD 12)=true:=by
 induction h with
 |nil=>intro t ht;exact absurd ht List.not_mem_nil
 |cons h0 h1 h2 h3 h ih =>
  intro t ht;rcases List.mem_cons.1 ht with rfl|ht
  ·exact⟨h0,by rw[h2];exact h1,h3⟩
  ·exact ih t ht
abbrev ajd (b:Bk) (xs:List Int) (vs:List Value) (ss:List (List (List AV))) (hd:tP (fun i=>xs.getD i 0) b.defs) (hb:kG b.vars xs) (hf:kJ (fun i=>xs.getD i 0) b.facts) (ho:∀v∈vs,v.oneCell'=true)
  (hl:lN (fun i=>xs.getD i 0) ss b.lens) (ha:vS (fun i=>xs.getD i 0) (fun i=>vs.getD i (.bool false)) ss b.hH) (hs:∀l∈ss,∀r∈l,∀x∈r,Cl x) (hk:b.kinds=[]:=by rfl) (hc:∀t∈b.SU,ss.getD t.2.2 []=ss.getD t.1 []++ss.getD t.2.1 []:=by exact fun t h=>nomatch h):@Ev b :=
 @Ev.mk b xs (O8 hb.len hb.all) hf.all hd.all vs ho (fun i c h=>by rw[hk]at h;cases h) ss hl.all ha.all hs hc
end
end Mc
namespace Mc
inductive KI where
 |seq (y:Code)|blk (id:Nat)|scope
inductive Out where
 |done (x:AX) (f:Ft)|stop (c:Code) (k:List KI) (f:Ft)
def Out.push (i:KI):Out→Out
 | .stop c k f=>.stop c (k++[i]) f
 |o=>o
def mH [Bk] (P:Program) (call:vQ) (L:Nat):Nat→Code→Ft→MT Out
 |0,_,_=>cI
 |n+1,.seq x y,f=>eU (mH P call L n x f) fun o=>match o with
  | .done .normal f'=>mH P call L n y f'
  |o=>dE (o.push (.seq y))
 |n+1,.cond c x y,f=>match kW f c with
  | .c (.bool b)=>mH P call L n (if b then x else y) f
  |_=>cI
 |n+1,.block id c,f=>eU (mH P call L n c f) fun o=>match o with
  | .done (.exit i) f'=>dE (if i=id then .done .normal f' else .done (.exit i) f')
  |o=>dE (o.push (.blk id))
 |n+1,.scope c,f=>eU (mH P call L n c f) fun o=>dE (o.push .scope)
 |n+1,.loop c,f=>dE (.stop c [] f)
 |n+1,c,f=>eU ((kT P true c).f call L f) fun q=>dE (.done q.1 q.2)
def qV [Bk] (P:Program) (call:vQ) (L:Nat):List KI→AX→Ft→MT Out
 |[],x,f=>dE (.done x f)
 | .seq y::k,x,f=>match x with
  | .normal=>eU (mH P call L L y f) fun o=>match o with
   | .done x' f'=>qV P call L k x' f'
   | .stop c k' f'=>dE (.stop c (k'++k) f')
  |x=>qV P call L k x f
 | .blk id::k,x,f=>match x with
  | .exit i=>qV P call L k (if i=id then .normal else .exit i) f
  |x=>qV P call L k x f
 | .scope::k,x,f=>qV P call L k x f
section
variable {P:Program}
abbrev nA:=Exit→Act→World→Prop
structure gZ [Bk] [Ev] (A:Nat→Prop) (w0:World) (a0:Act) (m:Nat→St) (w:World) (a:Act) (f:List AV) (h:AH):Prop where
 ext:Ext (fun _=>.no) w0 m w
 rel:bW m A h w
 fr:jZ m A w f a
 new:qZ w0 a0 a
def AW [Bk] [Ev] (P:Program) (A:Nat→Prop) (w0:World) (a0:Act) (c:Code) (Φ:nA) (f:List AV) (h:AH):Prop :=
 ∀m w a,gZ A w0 a0 m w a f h→c.wpIn (fw none) 9 P Φ a w
def Sat [Bk] [Ev] (A:Nat→Prop) (w0:World) (a0:Act) (e:Exit) (Φ:nA) (f:List AV) (h:AH):Prop:=∀m w a,gZ A w0 a0 m w a f h→Φ e a w
def KS (P:Program):List KI→nA→nA
 |[],Φ=>Φ
 | .seq y::k,Φ=>fun e a w=>match e with
  | .normal=>y.wpIn (fw none) 9 P (KS P k Φ) a w
  |e=>KS P k Φ e a w
 | .blk id::k,Φ=>fun e a w=>match e with
  | .exit i=>if i=id then KS P k Φ .normal a w else KS P k Φ (.exit i) a w
  |e=>KS P k Φ e a w
 | .scope::k,Φ=>fun e a w=>(∀l,e≠.goto l)∧KS P k Φ e a w
theorem yB (k k':List KI) (Φ:nA):KS P (k++k') Φ=KS P k (KS P k' Φ):=by
 induction k with
 |nil=>rfl
 |cons i k ih=>cases i<;>simp only[List.cons_append,KS,ih]
def Ma [Bk] [Ev] (P:Program) (A:Nat→Prop) (w0:World) (a0:Act) (Φ:nA) (o:Out) (h:AH):Prop:=match o with
 | .done x f=>∀l,FR l f→Sat A w0 a0 x.to Φ l h
 | .stop c k f=>∀l,FR l f→AW P A w0 a0 (.loop c) (KS P k Φ) l h
theorem AW.akf [Bk] [Ev] {A:Nat→Prop} {w0:World} {a0:Act} {c:Code} {Φ:nA} {f:List AV} {h:AH} {Q:Exit→List AV→AH→Prop} (k:fT P true c Q f h) (hq:∀e f' h',Q e f' h'→Sat A w0 a0 e Φ f' h'):AW P A w0 a0 c Φ f h:=by
 intro m w a pr;refine wpIn_mono (k none m A w a (fun _=>rfl) pr.rel pr.fr) ?_
 rintro e a' w' ⟨m',f',h',q,H',F',E',N'⟩
 exact hq e f' h' q m' w' a' ⟨pr.ext.trans E',H',F',pr.new.trans pr.ext.size N'⟩
theorem ahD [Bk] [Ev] (hX:iJ P) {L d:Nat} {c:Code} {f:Ft} {t:Tr} {n:Nat} {r:RT (AX×Ft)} (hr:(kT P true c).f (gM P L d) L f t n=some r) {A:Nat→Prop} {w0:World} {a0:Act} {Φ:nA}
  (ho:Ma P A w0 a0 Φ (.done r.a.1 r.a.2) r.t.get):∀l,FR l f→AW P A w0 a0 c Φ l t.get:=by
 intro l hl;have h1:=kC (uG (P:=P) L d) L c f t n r hr
 obtain⟨a,h2,e1,e2⟩:=kA (vW (P:=P) L d) L c l f hl t n r h1
 refine AW.akf (kX (nZ hX L d) L c (fun e f' h'=>e=a.1.to∧f'=a.2∧h'=r.t.get) l t.get n _ h2 ⟨rfl,rfl,rfl⟩) ?_
 rintro e f' h' ⟨rfl,rfl,rfl⟩
 rw[e1];exact ho a.2 e2
theorem tT {α β:Type} {x:MT α} {k:α→MT β} {t:Tr} {n:Nat} {r:RT β} (h:eU x k t n=some r):∃q s,x t n=some q∧k q.a q.t q.n=some s∧r.a=s.a∧r.t=s.t∧r.n=s.n:=by
 unfold eU at h;cases h1:x t n with
 |none=>rw[h1]at h;cases h
 |some q =>
  rw[h1]at h;simp only at h
  cases h2:k q.a q.t q.n with
  |none=>rw[h2]at h;cases h
  |some s=>rw[h2]at h;cases h;exact⟨q,s,rfl,h2,rfl,rfl,rfl⟩
theorem oJ [Bk] [Ev] (hX:iJ P) {L d:Nat} {A:Nat→Prop} {w0:World} {a0:Act}:∀(k:Nat) (c:Code) (Φ:nA) (f:Ft) (t:Tr) (n:Nat) (r:RT Out),mH P (gM P L d) L k c f t n=some r→Ma P A w0 a0 Φ r.a r.t.get→∀l,FR l f→AW P A w0 a0 c Φ l t.get
 |0,c,Φ,f,t,n,r,hr,ho=>by simp only[mH]at hr;cases hr
 |k+1,c,Φ,f,t,n,r,hr,ho=>by
  have leaf:mH P (gM P L d) L (k+1) c f t n=eU ((kT P true c).f (gM P L d) L f) (fun q=>dE (.done q.1 q.2)) t n→∀l,FR l f→AW P A w0 a0 c Φ l t.get:=by
   intro he;rw[he]at hr;obtain⟨q,s,h1,h2,e1,e2,-⟩:=tT hr;cases h2;simp only at e1 e2
   refine ahD hX h1 ?_
   rw[e1,e2]at ho;exact ho
  cases c with
  |seq x y =>
   simp only[mH]at hr;obtain⟨q,s,h1,h2,e1,e2,-⟩:=tT hr;have key:Ma P A w0 a0 (KS P [.seq y] Φ) q.a q.t.get:=by
    cases hq:q.a with
    |stop c' k' f' =>
     rw[hq]at h2;cases h2;rw[e1,e2]at ho;intro l hl;have:=ho l hl
     rw[yB]at this;exact this
    |done x' f' =>
     rw[hq]at h2;cases x' with
     |normal =>
      simp only at h2
      rw[e1,e2]at ho;have:=oJ hX k y Φ f' q.t q.n s h2 ho
      intro l hl m w a pr;exact this l hl m w a pr
     |_ =>
      cases h2;rw[e1,e2]at ho;intro l hl m w a pr;exact ho l hl m w a pr
   have:=oJ hX k x _ f t n q h1 key
   intro l hl m w a pr;refine wpIn_seq (wpIn_mono (this l hl m w a pr) ?_)
   intro e a' w' hk;cases e<;>exact hk
  |cond c x y =>
   have hex:∃b,kW f c=.c (.bool b)∧mH P (gM P L d) L k (if b then x else y) f t n=some r:=by
    simp only[mH]at hr;cases hv:kW f c with
    |c v=>cases v with
     |bool b=>simp only[hv]at hr;exact⟨b,rfl,hr⟩
     |_=>simp only[hv]at hr;cases hr
    |_=>simp only[hv]at hr;cases hr
   obtain⟨b,hb,hr⟩:=hex;have:=oJ hX k (if b then x else y) Φ f t n r hr ho
   intro l hl m w a pr;have hc:=pr.fr.eval c;rw[hl.ev,hb]at hc;exact wpIn_cond hc.bool (this l hl m w a pr)
  |block id c =>
   simp only[mH]at hr;obtain⟨q,s,h1,h2,e1,e2,-⟩:=tT hr;have key:Ma P A w0 a0 (KS P [.blk id] Φ) q.a q.t.get:=by
    cases hq:q.a with
    |stop c' k' f' =>
     rw[hq]at h2;cases h2;rw[e1,e2]at ho;intro l hl;have:=ho l hl
     rw[yB]at this;exact this
    |done x' f' =>
     rw[hq]at h2;cases x' with
     |exit i =>
      simp only at h2
      cases h2;rw[e1,e2]at ho;intro l hl m w a pr;simp only[KS,AX.to];split
      ·rename_i hi;rw[if_pos hi]at ho;exact ho l hl m w a pr
      ·rename_i hi;rw[if_neg hi]at ho;exact ho l hl m w a pr
     |_ =>
      cases h2;rw[e1,e2]at ho;intro l hl m w a pr;exact ho l hl m w a pr
   have:=oJ hX k c _ f t n q h1 key
   intro l hl m w a pr;refine wpIn_block (wpIn_mono (this l hl m w a pr) ?_)
   intro e a' w' hk;cases e<;>exact hk
  |scope c =>
   simp only[mH]at hr;obtain⟨q,s,h1,h2,e1,e2,-⟩:=tT hr;cases h2;simp only at e1 e2
   have key:Ma P A w0 a0 (KS P [.scope] Φ) q.a q.t.get:=by
    rw[e1,e2]at ho;cases hq:q.a with
    |stop c' k' f' =>
     rw[hq]at ho;intro l hl;have:=ho l hl
     rw[yB]at this;exact this
    |done x' f' =>
     rw[hq]at ho;intro l hl m w a pr;exact⟨by intro l;cases x'<;>simp[AX.to],ho l hl m w a pr⟩
   have:=oJ hX k c _ f t n q h1 key
   intro l hl m w a pr;exact Ib (this l hl m w a pr)
  |loop c =>
   simp only[mH]at hr;cases hr;exact ho
  |_=>exact leaf rfl
theorem qU [Bk] [Ev] (hX:iJ P) {L d:Nat} {A:Nat→Prop} {w0:World} {a0:Act} {Φ:nA}:∀(k:List KI) (x:AX) (f:Ft) (t:Tr) (n:Nat) (r:RT Out),qV P (gM P L d) L k x f t n=some r→Ma P A w0 a0 Φ r.a r.t.get→∀l,FR l f→Sat A w0 a0 x.to (KS P k Φ) l t.get
 |[],x,f,t,n,r,hr,ho=>by
  simp only[qV]at hr;cases hr;exact ho
 | .seq y::k,x,f,t,n,r,hr,ho=>by
  simp only[qV]at hr;cases x with
  |normal =>
   simp only at hr
   obtain⟨q,s,h1,h2,e1,e2,-⟩:=tT hr;rw[e1,e2]at ho;have key:Ma P A w0 a0 (KS P k Φ) q.a q.t.get:=by
    cases hq:q.a with
    |done x' f' =>
     rw[hq]at h2;exact qU hX k x' f' q.t q.n s h2 ho
    |stop c' k' f' =>
     rw[hq]at h2;cases h2;intro l hl;have:=ho l hl
     rw[yB]at this;exact this
   intro l hl m w a pr;exact oJ hX L y _ f t n q h1 key l hl m w a pr
  |_ =>
   have:=qU hX k _ f t n r hr ho
   intro l hl m w a pr;exact this l hl m w a pr
 | .blk id::k,x,f,t,n,r,hr,ho=>by
  simp only[qV]at hr;cases x with
  |exit i =>
   have:=qU hX k _ f t n r hr ho
   intro l hl m w a pr;simp only[KS,AX.to];split
   ·rename_i hi;rw[if_pos hi]at this;exact this l hl m w a pr
   ·rename_i hi;rw[if_neg hi]at this;exact this l hl m w a pr
  |_ =>
   have:=qU hX k _ f t n r hr ho
   intro l hl m w a pr;exact this l hl m w a pr
 | .scope::k,x,f,t,n,r,hr,ho=>by
  simp only[qV]at hr;have:=qU hX k _ f t n r hr ho
  intro l hl m w a pr;exact⟨by intro l;cases x<;>simp[AX.to],this l hl m w a pr⟩
theorem fQ {c:Code} {Φ:nA} (I:Nat→Act→World→Prop) (round:∀n a w,I n a w→c.wpIn (fw none) 9 P (fun e a' w'=>match e with | .normal=>∃n',n'<n∧I n' a' w'|e=>Φ e a' w') a w) {n:Nat} {a:Act} {w:World} (h0:I n a w):(Code.loop c).wpIn (fw none) 9 P Φ a w:=by
 obtain⟨μ,hμ⟩:=Sd (fun n (p:Act×World)=>I n p.1 p.2)
 refine wpIn_loop (fun a' w'=>∃n,I n a' w') (fun a' w'=>μ (a',w')) ⟨n,h0⟩ ?_
 intro a1 w1 hex;have h1:=(hμ (a1,w1) hex).1
 refine wpIn_mono (round _ a1 w1 h1) ?_
 intro e a2 w2 q;cases e with
 |normal =>
  obtain⟨n',hlt,hI⟩:=q;exact⟨⟨n',hI⟩,Nat.lt_of_le_of_lt ((hμ (a2,w2) ⟨n',hI⟩).2 n' hI) hlt⟩
 |_=>exact q
end
end Mc
namespace Mc
abbrev lP:=List (Option Nat)
def AN (m:Nat→St) (ids:lP):Nat→St:=fun k=>match ids[k]? with
 |none=>.no
 |some none=>.pF
 |some (some i)=>m i
theorem qL {m:Nat→St} {ids:lP} {k b:Nat} (h:AN m ids k=.at b):∃i,ids[k]?=some (some i)∧m i=.at b:=by
 unfold AN at h;split at h
 ·cases h
 ·cases h
 ·rename_i i hi;exact⟨i,hi,h⟩
theorem OT {m:Nat→St} {ids:lP} {A:Nat→Prop} {b:Nat} (h:Av (AN m ids) A b):Av m A b:=by
 rcases h with h|⟨k,h⟩
 ·exact .inl h
 ·obtain⟨i,-,h⟩:=qL h
  exact .inr ⟨i,h⟩
theorem jC {m:Nat→St} {ids:lP} {k i:Nat} (h:ids[k]?=some (some i)):AN m ids k=m i:=by unfold AN;rw[h]
theorem Lj {m:Nat→St} {ids:lP} {k:Nat} (h:ids[k]?=some none):AN m ids k=.pF:=by unfold AN;rw[h]
def Slot (b1:Bk) (e1:@Ev b1) (b2:Bk) (e2:@Ev b2) (ids:lP) (x y:AV):Prop:=∀(m:Nat→St) (A:Nat→Prop) (w:World) (v:Value),@Rd b1 e1 m A w x v→@Rd b2 e2 (AN m ids) A w y v
section
variable {b1:Bk} {e1:@Ev b1} {b2:Bk} {e2:@Ev b2} {ids:lP}
theorem Slot.fY {x:AV}:Slot b1 e1 b2 e2 ids x .fY:=fun m A w v h=>@Rd.pure b2 e2 _ A w _ _ (@cO.fY b2 e2 _ w v)
theorem Rd.XV [Bk] [Ev] {m:Nat→St} {A:Nat→Prop} {w:World}:∀(k:Nat) (x:AV) (v:Value),Rd m A w x v→Rd m A w (den k x) v
 |0,x,v,h=>h
 |k+1,x,v,h=>by
  have ih:∀(x:AV) (v:Value),Rd m A w x v→Rd m A w (den k x) v:=Rd.XV k
  cases h with
  |pure _ _ h=>exact .pure _ _ (h.Lg (k+1))
  |agg cs vs hl h1 hr =>
   refine .agg _ vs (by simpa using hl) ?_ ?_
   ·intro i x hx
    rw[List.getElem?_map]at hx;obtain⟨y,hy,rfl⟩:=Option.map_eq_some_iff.1 hx;exact(mS k y).trans (h1 i y hy)
   ·intro i x hx
    rw[List.getElem?_map]at hx;obtain⟨y,hy,rfl⟩:=Option.map_eq_some_iff.1 hx;exact ih y _ (hr i y hy)
  |bB cs vs hl hr =>
   refine .bB _ vs (by simpa using hl) ?_
   intro i x hx;rw[List.getElem?_map]at hx;obtain⟨y,hy,rfl⟩:=Option.map_eq_some_iff.1 hx;exact ih y _ (hr i y hy)
  |pE t x v hr=>exact .pE t _ v (ih x v hr)
  |own T sz id i n b cap hm hb hn hc hr=>exact .own T sz id i n b cap hm hb hn hc hr
  |rG T sz id i a hm=>exact .rG T sz id i a hm
  |sW T sz id i n a n' cap hm=>exact .sW T sz id i n a n' cap hm
  |ptr sz id i off b hm hb=>exact .ptr sz id i off b hm hb
  |Mu sz id i off a hm=>exact .Mu sz id i off a hm
  |fn f xs ys vs us hl hk h g=>exact .fn f xs ys vs us hl hk h g
  |rN id b hm=>exact .rN id b hm
  |Ml id b hm=>exact .Ml id b hm
  |mpv id b hm=>exact .mpv id b hm
  |XB id b hm=>exact .XB id b hm
  |view T sz id i n b cap hm=>exact .view T sz id i n b cap hm
  |Ac T sz id i n a cap hm=>exact .Ac T sz id i n a cap hm
  |cQ T sz id n b len cap hm hb hl hn hc hr=>exact .cQ T sz id n b len cap hm hb hl hn hc hr
  |rU T sz id n a hm hn=>exact .rU T sz id n a hm hn
  |rV T sz id n a n' cap hm=>exact .rV T sz id n a n' cap hm
  |lV sz id p off b hm hb=>exact .lV sz id p off b hm hb
  |yP sz id p off a hm=>exact .yP sz id p off a hm
theorem Slot.data {x y d:AV} (hx:@den b1 e1 12 x=d) (hy:@den b2 e2 12 y=d) (hd:Cl d) (hu:lD 12 y=true):Slot b1 e1 b2 e2 ids x y:=by
 subst hx;intro m A w v h;have h1:=@Rd.cl b1 e1 m A w _ hd v (@Rd.XV b1 e1 m A w 12 x v h)
 have h2:=cO.cl (b2:=b2) (e2:=e2) hd h1
 rw[←hy]at h2;have h3:=@cO.CS b2 e2 _ w 12 y v hu h2
 exact @Rd.pure b2 e2 _ A w _ _ (@cO.mono b2 e2 _ _ w w (Nat.le_refl _) (fun b _ hb=>⟨fun h=>hb (OT h),rfl⟩) y v h3)
theorem Slot.own {T sz id id' i n:Nat} (h:ids[id']?=some (some id)):Slot b1 e1 b2 e2 ids (.own T sz id i n) (.own T sz id' i n):=by
 intro m A w v hr;have hm:=jC (m:=m) h
 cases hr with
 |pure _ _ h=>cases h
 |own _ _ _ _ _ b cap hm' hb hn hc hr=>exact @Rd.own b2 e2 _ A w T sz id' i n b cap (hm.trans hm') hb hn hc hr
 |rG _ _ _ _ a hm'=>exact @Rd.rG b2 e2 _ A w T sz id' i a (hm.trans hm')
 |sW _ _ _ _ _ a n' cap hm'=>exact @Rd.sW b2 e2 _ A w T sz id' i n a n' cap (hm.trans hm')
theorem Slot.ptr {sz id id' i off:Nat} (h:ids[id']?=some (some id)):Slot b1 e1 b2 e2 ids (.ptr sz id i off) (.ptr sz id' i off):=by
 intro m A w v hr;have hm:=jC (m:=m) h
 cases hr with
 |pure _ _ h=>cases h
 |ptr _ _ _ _ b hm' hb=>exact @Rd.ptr b2 e2 _ A w sz id' i off b (hm.trans hm') hb
 |Mu _ _ _ _ a hm'=>exact @Rd.Mu b2 e2 _ A w sz id' i off a (hm.trans hm')
theorem Slot.cQ {T sz id id':Nat} {n n':Poly} (h:ids[id']?=some (some id)) (hn:bR (@Ev.cX b1 e1) n=bR (@Ev.cX b2 e2) n'):Slot b1 e1 b2 e2 ids (.cQ T sz id n) (.cQ T sz id' n'):=by
 intro m A w v hr;have hm:=jC (m:=m) h
 cases hr with
 |pure _ _ h=>cases h
 |cQ _ _ _ _ b len cap hm' hb hl hn' hc hr=>exact @Rd.cQ b2 e2 _ A w T sz id' n' b len cap (hm.trans hm') hb (hn▸hl) hn' hc hr
 |rU _ _ _ _ a hm' h0=>exact @Rd.rU b2 e2 _ A w T sz id' n' a (hm.trans hm') (hn▸h0)
 |rV _ _ _ _ a n0 cap hm'=>exact @Rd.rV b2 e2 _ A w T sz id' n' a n0 cap (hm.trans hm')
theorem Slot.aeE {T sz id id' n:Nat} {n':Poly} (h:ids[id']?=some (some id)) (hn:(n:Int)=bR (@Ev.cX b2 e2) n'):Slot b1 e1 b2 e2 ids (.own T sz id 0 n) (.cQ T sz id' n'):=by
 intro m A w v hr;have hm:=jC (m:=m) h
 cases hr with
 |pure _ _ h=>cases h
 |own _ _ _ _ _ b cap hm' hb hn' hc hr =>
  rw[Nat.zero_mul];exact @Rd.cQ b2 e2 _ A w T sz id' n' b n cap (hm.trans hm') hb hn.symm hn' hc (by rw[←hr,Nat.zero_add])
 |rG _ _ _ _ a hm'=>exact @Rd.rU b2 e2 _ A w T sz id' n' a (hm.trans hm') (by rw[←hn];rfl)
 |sW _ _ _ _ _ a n0 cap hm'=>exact @Rd.rV b2 e2 _ A w T sz id' n' a n0 cap (hm.trans hm')
theorem Slot.lV {sz id id' off:Nat} {p p':Poly} (h:ids[id']?=some (some id)) (hn:bR (@Ev.cX b1 e1) p=bR (@Ev.cX b2 e2) p'):Slot b1 e1 b2 e2 ids (.lV sz id p off) (.lV sz id' p' off):=by
 intro m A w v hr;have hm:=jC (m:=m) h
 cases hr with
 |pure _ _ h=>cases h
 |lV _ _ _ _ b hm' hb=>rw[hn];exact @Rd.lV b2 e2 _ A w sz id' p' off b (hm.trans hm') hb
 |yP _ _ _ _ a hm'=>exact @Rd.yP b2 e2 _ A w sz id' p' off a (hm.trans hm')
inductive kF (b1:Bk) (e1:@Ev b1) (b2:Bk) (e2:@Ev b2) (ids:lP):List AV→List AV→Prop
 |nil:kF b1 e1 b2 e2 ids [] []
 |cons {x y:AV} {l l':List AV} (h:Slot b1 e1 b2 e2 ids x y) (hl:kF b1 e1 b2 e2 ids l l'):kF b1 e1 b2 e2 ids (x::l) (y::l')
theorem kF.get {l l':List AV} (h:kF b1 e1 b2 e2 ids l l'):l'.length=l.length∧∀(i:Nat) (y:AV),l'[i]?=some y→∃x,l[i]?=some x∧Slot b1 e1 b2 e2 ids x y:=by
 induction h with
 |nil=>exact⟨rfl,fun i y h=>by simp at h⟩
 |cons h hl ih =>
  refine⟨by simp[ih.1],?_⟩
  intro i z hz;cases i with
  |zero=>cases hz;exact⟨_,rfl,h⟩
  |succ i =>
   obtain⟨x,h1,h2⟩:=ih.2 i z (by simpa using hz)
   exact⟨x,by simpa using h1,h2⟩
theorem kF.append {l1 l1' l2 l2':List AV} (h:kF b1 e1 b2 e2 ids l1 l1') (g:kF b1 e1 b2 e2 ids l2 l2'):kF b1 e1 b2 e2 ids (l1++l2) (l1'++l2'):=by
 induction h with
 |nil=>exact g
 |cons h hl ih=>exact .cons h ih
theorem Slot.agg {cs cs':List AV} (h:kF b1 e1 b2 e2 ids cs cs') (h1:cs'.all (fun x=>x.one)=true):Slot b1 e1 b2 e2 ids (.agg cs) (.agg cs'):=by
 intro m A w v hr;obtain⟨hl,hs⟩:=h.get;obtain⟨vs,rfl,hv,hc⟩:=@Rd.nY b1 e1 m A w cs v hr
 refine @Rd.agg b2 e2 _ A w cs' vs (by rw[hv,hl]) ?_ ?_
 ·intro i y hy
  exact List.all_eq_true.1 h1 y (List.mem_of_getElem? hy)
 ·intro i y hy
  obtain⟨x,hx,hs⟩:=hs i y hy;exact hs m A w _ (hc i x hx).2
def yK (b1:Bk) (e1:@Ev b1) (b2:Bk) (e2:@Ev b2) (ids:lP) (h1:AH) (o:Option Nat) (B:bX):Prop:=@lM b2 e2 B∧match o with
 |none=>∃T sz,@bX.aW b2 e2 B=some (T,sz,[])
 |some i=>∃T sz els1 els2,@bX.aW b1 e1 (h1 i)=some (T,sz,els1)∧@bX.aW b2 e2 B=some (T,sz,els2)∧els2.length=els1.length∧(∀(i j:Nat) (y:AV),fD els2 i j=some y→∃x,fD els1 i j=some x∧x.one=y.one∧Slot b1 e1 b2 e2 ids x y)∧((∀e∈els1,e.length=sz)→∀e∈els2,e.length=sz)
inductive PC (b1:Bk) (e1:@Ev b1) (b2:Bk) (e2:@Ev b2) (ids:lP) (h1:AH):lP→List bX→Prop
 |nil:PC b1 e1 b2 e2 ids h1 [] []
 |cons {o:Option Nat} {B:bX} {l:lP} {bs:List bX} (h:yK b1 e1 b2 e2 ids h1 o B) (hl:PC b1 e1 b2 e2 ids h1 l bs):PC b1 e1 b2 e2 ids h1 (o::l) (B::bs)
theorem PC.get {h1:AH} {l:lP} {bs:List bX} (h:PC b1 e1 b2 e2 ids h1 l bs):l.length=bs.length∧∀(k:Nat) (o:Option Nat),l[k]?=some o→∃B,bs[k]?=some B∧yK b1 e1 b2 e2 ids h1 o B:=by
 induction h with
 |nil=>exact⟨rfl,fun i y h=>by simp at h⟩
 |cons h hl ih =>
  refine⟨by simp[ih.1],?_⟩
  intro i z hz;cases i with
  |zero=>cases hz;exact⟨_,rfl,h⟩
  |succ i =>
   obtain⟨x,h1,h2⟩:=ih.2 i z (by simpa using hz)
   exact⟨x,by simpa using h1,h2⟩
def eS (bs:List bX):AH:=fun k=>bs.getD k .no
theorem gZ.to {A:Nat→Prop} {w0:World} {a0:Act} {m:Nat→St} {w:World} {a:Act} {f1 f2:List AV} {h1:AH} {bs:List bX} (pr:@gZ b1 e1 A w0 a0 m w a f1 h1) (hf:kF b1 e1 b2 e2 ids f1 f2) (hB:PC b1 e1 b2 e2 ids h1 ids bs) (nd:∀(i j k:Nat),ids[i]?=some (some k)→ids[j]?=some (some k)→i=j) (hg:b2.jF=[]:=by rfl) :
  @gZ b2 e2 A w0 a0 (AN m ids) w a f2 (eS bs):=by
 obtain⟨hl,hs⟩:=hf.get;obtain⟨bl,bg⟩:=hB.get;have at_:∀k B,eS bs k=B→(B=.no∧AN m ids k=.no)∨∃o,ids[k]?=some o∧yK b1 e1 b2 e2 ids h1 o B:=by
  intro k B hk;cases ho:ids[k]? with
  |none =>
   refine .inl ⟨?_,by unfold AN;rw[ho]⟩
   have hlt:bs.length≤k:=by rw[←bl];exact List.getElem?_eq_none_iff.1 ho
   rw[←hk];unfold eS
   rw[List.getD,List.getElem?_eq_none hlt];rfl
  |some o =>
   obtain⟨B',h2,h3⟩:=bg k o ho;refine .inr ⟨o,rfl,?_⟩
   have:eS bs k=B':=by unfold eS;rw[List.getD,h2];rfl
   rw[←hk,this];exact h3
 have elsOf:∀o B,yK b1 e1 b2 e2 ids h1 o B→∃t,@bX.aW b2 e2 B=some t:=by
  rintro(_|i) B ⟨-,h⟩
  ·obtain⟨T,sz,h⟩:=h;exact⟨_,h⟩
  ·obtain⟨T,sz,e1,e2,-,h,-⟩:=h;exact⟨_,h⟩
 obtain⟨E,⟨Hout,tO,Hno,Hdead,Harrs,Hinj,Hglob,Hoth,Hscs⟩,⟨Fsize,Frd,Fdef⟩,N⟩:=pr
 refine⟨?_,⟨?_,tO,?_,?_,?_,?_,?_,?_,?_⟩,⟨?_,?_,?_⟩,N⟩
 ·refine⟨E.os,E.tape,E.output,E.size,fun _ _ h=>(by cases h),fun _ h=>(by cases h),fun _ h=>(by cases h),?_,fun _ _ h=>(by cases h)⟩
  intro b hb hu;obtain⟨k1,k2⟩:=E.un b hb hu;refine⟨?_,k2⟩
  intro k hk;obtain⟨i,-,h⟩:=qL hk;exact k1 i h
 ·intro k b hk
  obtain⟨i,-,h⟩:=qL hk;exact Hout i b h
 ·intro k hk
  rcases at_ k _ hk with⟨-,h⟩|⟨o,-,h⟩
  ·exact h
  ·obtain⟨t,ht⟩:=elsOf o _ h
   cases ht
 ·intro k hk
  rcases at_ k _ hk with⟨h,-⟩|⟨o,-,h⟩
  ·cases h
  ·obtain⟨t,ht⟩:=elsOf o _ h
   cases ht
 ·intro k T sz aW hk
  rcases at_ k _ rfl with⟨h,-⟩|⟨o,ho,h⟩
  ·rw[h]at hk;cases hk
  ·cases o with
   |none =>
    obtain⟨-,T',sz',h⟩:=h;rw[hk]at h;cases h;exact .inl ⟨Lj ho,rfl⟩
   |some i =>
    obtain⟨-,T',sz',els1,els2,k1,k2,k3,k4,k5⟩:=h;rw[hk]at k2;cases k2;rw[jC ho];rcases Harrs i T sz els1 k1 with⟨g1,g2⟩|⟨b,cs,g1,g2,g3,g4,g5⟩
    ·refine .inl ⟨g1,?_⟩
     rw[g2]at k3;exact List.length_eq_zero_iff.1 k3
    ·refine .inr ⟨b,cs,g1,g2,by rw[k3];exact g3,k5 g4,?_⟩
     intro i' j y hy;obtain⟨x,q1,q2,q3⟩:=k4 i' j y hy;obtain⟨r1,r2⟩:=g5 _ _ _ q1;exact⟨by rw[←q2];exact r1,q3 m A w _ r2⟩
 ·intro i j b hi hj
  obtain⟨i',c1,c2⟩:=qL hi;obtain⟨j',c3,c4⟩:=qL hj;have:=Hinj i' j' b c2 c4
  subst this;exact nd i j i' c1 c3
 ·exact @GOk.none b2 A w hg
 ·intro k B hk hB'
  rcases at_ k B hk with⟨h,-⟩|⟨o,-,h⟩
  ·subst h;exact absurd hB' (by simp[bX.other])
  ·obtain⟨t,ht⟩:=elsOf o _ h
   rw[@bX.pS b2 e2 B hB']at ht;cases ht
 ·intro k
  rcases at_ k _ rfl with⟨h,-⟩|⟨o,-,h⟩
  ·rw[h];trivial
  ·exact h.1
 ·rw[Fsize,hl]
 ·intro i y hy
  obtain⟨x,hx,h⟩:=hs i y hy;exact h m A w _ (Frd i x hx)
 ·obtain⟨Ds,d1,d2,d3⟩:=Fdef
  refine⟨Ds,d1,d2,fun D hD=>⟨(d3 D hD).1,?_⟩⟩
  intro k hk;obtain⟨i,-,h⟩:=qL hk;exact(d3 D hD).2 i h
end
section
variable {P:Program}
def Fin (P:Program) (fn:Func) (A:Nat→Prop) (w0:World) (a0:Act) (r:AV):nA:=fun e a w=>(e=.normal∨e=.ret)∧∃(b:Bk) (ev:@Ev b) (m:Nat→St) (f:List AV) (h:AH) (x y:AV) (js:List Nat),@gZ b ev A w0 a0 m w a f h∧dX P fn f h=some x∧rK h 16 x=some (y,js)∧@den b ev 12 y=r
theorem Sat.fin [b:Bk] [ev:Ev] {fn:Func} {A:Nat→Prop} {w0:World} {a0:Act} {r x y:AV} {js:List Nat} {e:Exit} {f:List AV} {h:AH} (he:e=.normal∨e=.ret) (hx:dX P fn f h=some x) (hy:rK h 16 x=some (y,js)) (hr:den 12 y=r):Sat A w0 a0 e (Fin P fn A w0 a0 r) f h :=
 fun m w a pr=>⟨he,b,ev,m,f,h,x,y,js,pr,hx,hy,hr⟩
theorem CK.gY {F:FuncId} {fn:Func} {c:Code} {as:List AV} {r:AV} (hf:P.funcs[F]?=some fn) (hb:fn.body=some c) (ca:∀x∈as,Cl x) (cr:Cl r)
  (k:∀(A:Nat→Prop) (w0:World) (a0:Act),@AW dI dN P A w0 a0 c (Fin P fn A w0 a0 r) (as++List.replicate (fn.ntmps-as.length) .undef) (fun _=>.no)):CK P F as r:=by
 refine⟨ca,cr,?_⟩
 intro A w vs hA hG hl hv;have FR0:@jZ dI dN (fun _=>.no) A w (as++List.replicate (fn.ntmps-as.length) .undef) { tmps:=vs++Array.replicate (fn.ntmps-vs.size) Go.undef,defers:=[] }:=by
  refine @jZ.mk dI dN _ _ _ _ _ (by simp[hl]) ?_ (Marks.nil _ _)
  intro i x hx;rcases Nat.lt_or_ge i as.length with h|h
  ·rw[List.getElem?_append_left h]at hx
   have h2:=hv i x hx;have hlt:i<vs.size:=by omega
   have e1:(vs++Array.replicate (fn.ntmps-vs.size) Go.undef).getD i Go.undef=vs.getD i Go.undef:=by simp[Array.getElem?_append,hlt]
   rw[show({ tmps:=vs++Array.replicate (fn.ntmps-vs.size) Go.undef,defers:=[] }:Act).tmps.getD i Go.undef=vs.getD i Go.undef from e1]
   exact @Rd.pure dI dN _ A w x _ (@cO.mono dI dN A _ w w (Nat.le_refl _) (fun b _ hb=>⟨fun h=>h.elim hb (fun⟨_,h⟩=>by cases h),rfl⟩) x _ h2)
  ·rw[List.getElem?_append_right h,List.getElem?_replicate]at hx
   split at hx
   ·cases hx
    have hge:¬ i<vs.size:=by omega
    have:(vs++Array.replicate (fn.ntmps-vs.size) Go.undef).getD i Go.undef=Go.undef:=by
     simp[Array.getElem?_append,hge,Array.getElem?_replicate]
     split<;>rfl
    rw[show({ tmps:=vs++Array.replicate (fn.ntmps-vs.size) Go.undef,defers:=[] }:Act).tmps.getD i Go.undef=Go.undef from this]
    exact @Rd.pure dI dN _ A w _ _ (@cO.undef dI dN _ w)
   ·cases hx
 have pr0:@gZ dI dN A w { tmps:=vs++Array.replicate (fn.ntmps-vs.size) Go.undef,defers:=[] } (fun _=>.no) w { tmps:=vs++Array.replicate (fn.ntmps-vs.size) Go.undef,defers:=[] } (as++List.replicate (fn.ntmps-as.length) .undef) (fun _=>.no) :=
  @gZ.mk dI dN A w _ _ w _ _ _ (@Ext.refl dI dN _ w) (@bW.none dI dN A w hA (fun t h=>absurd h List.not_mem_nil)) FR0 (qZ.refl _ _)
 refine A3 (r:=none) (n:=9) |>.1 (callsIn_of_wp_marks hf hb trivial (wpIn_mono (k A w _ _ w _ pr0) ?_))
 rintro e a' w' ⟨he,b,ev,m',f',h',x,y,js,pr,hx,hy,hr⟩
 have fin:LeavesInM (fw none) 9 P fn a'.tmps (fun e w'=>∃v,e=.returned v∧@cO dI dN A w' r v∧Below w.heap.size w w') a'.defers .returning w':=by
  obtain⟨Ds,d1,d2,d3⟩:=pr.fr.defers;have d4:∀D∈Ds,w.heap.size≤D:=by
   intro D hD;rcases pr.new (mark D) (by rw[d1];exact List.mem_map_of_mem hD)with h1|⟨D',h1,h2⟩
   ·exact absurd h1 List.not_mem_nil
   ·simp only[mark,Target.collected.injEq]at h1
    omega
  obtain⟨r1,r2,r3⟩:=Iq Ds w' pr.rel d2 d3 d4 pr.ext;have F'':@jZ b ev m' A (Af w' Ds) f' { tmps:=a'.tmps,defers:=[] }:=@jZ.mk b ev _ _ _ _ _ pr.fr.size (fun i x hx=>r3 _ _ (pr.fr.rd i x hx)) (Marks.nil _ _)
  obtain⟨v,s1,s2⟩:=EN r1 F'' hx;rw[d1];refine uY Ds w' d2 (fun D hD=>(d3 D hD).1) ⟨v,s1,v,rfl,?_,@Ext.below b ev _ _ _ _ r2 fun id b h=>by cases h⟩
  have h1:=zP r1 js hy (fun id h=>h) s2
  have h2:=@cO.Lg b ev _ _ 12 y v h1
  rw[hr]at h2;have h3:=cO.cl (b2:=dI) (e2:=dN) cr h2
  exact @cO.mono dI dN _ _ _ _ (Nat.le_refl _) (fun c _ hc=>⟨fun h=>hc (.inl h),rfl⟩) _ _ h3
 rcases he with rfl|rfl
 ·exact fin
 ·exact fin
end
end Mc
namespace Mc
def Np (o:Option (RT Out)):Bool:=match o with|some r=>(match r.a with | .stop ..=>true|_=>false)|none=>false
def bE (o:Option (RT Out)):Code:=match o with|some r=>(match r.a with | .stop c _ _=>c|_=>.skip)|none=>.skip
def oK (o:Option (RT Out)):List KI:=match o with|some r=>(match r.a with | .stop _ k _=>k|_=>[])|none=>[]
def oF (o:Option (RT Out)):Ft:=match o with|some r=>(match r.a with | .stop _ _ f=>f | .done _ f=>f)|none=>.leaf
def oT (o:Option (RT Out)):Tr:=match o with|some r=>r.t|none=>.leaf
def Nq (o:Option (RT Out)):Option Nat:=match o with|some r=>(match r.a with | .done .normal _=>some 0 | .done .ret _=>some 1 | .done (.exit i) _=>some (i+2)|_=>none)|none=>none
def xOf:Nat→AX
 |0=>.normal
 |1=>.ret
 |k+2=>.exit k
theorem RR {o:Option (RT Out)} (h:Np o=true):∃r,o=some r∧r.a=.stop (bE o) (oK o) (oF o)∧r.t=oT o:=by
 unfold Np at h;cases o with
 |none=>cases h
 |some r =>
  simp only at h
  cases hr:r.a with
  |stop c k f=>exact⟨r,rfl,by simp only[bE,oK,oF,hr],rfl⟩
  |done x f=>rw[hr]at h;cases h
theorem Lh {o:Option (RT Out)} {x:Nat} (h:Nq o=some x):∃r,o=some r∧r.a=.done (xOf x) (oF o)∧r.t=oT o:=by
 unfold Nq at h;cases o with
 |none=>cases h
 |some r =>
  simp only at h
  cases hr:r.a with
  |stop c k f=>rw[hr]at h;cases h
  |done y f =>
   rw[hr]at h;cases y<;>(simp only at h;cases h;exact⟨r,rfl,by simp only[oF,hr];rfl,rfl⟩)
theorem Sq {l l0:List AV} {ft:Ft} [Bk] [Ev] (h:FR l ft) (hl:Ft.list ft 4096 0=some l0):l=l0:=by
 have:=h.list 4096 0 l0 hl
 rw[this];rfl
section
variable {P:Program}
section
variable [Bk] [Ev]
theorem AW.stops (hX:iJ P) {L d k N n:Nat} {A:Nat→Prop} {w0:World} {a0:Act} {c:Code} {Φ:nA} {f l0:List AV} {t:Tr} (o:Option (RT Out)) (ho:mH P (gM P L d) L k c (Ft.of N f) t n=o) (hs:Np o=true) (hl:Ft.list (oF o) 4096 0=some l0) (hN:f.length≤N)
  (kk:AW P A w0 a0 (.loop (bE o)) (KS P (oK o) Φ) l0 (oT o).get):AW P A w0 a0 c Φ f t.get:=by
 obtain⟨r,h1,h2,h3⟩:=RR hs;refine oJ hX k c Φ (Ft.of N f) t n r (ho.trans h1) ?_ f (fun k=>Ft.vA N f k hN)
 rw[h2,h3];intro l hfr;rw[Sq hfr hl];exact kk
theorem AW.ends (hX:iJ P) {L d k N n x:Nat} {A:Nat→Prop} {w0:World} {a0:Act} {c:Code} {Φ:nA} {f l0:List AV} {t:Tr} (o:Option (RT Out)) (ho:mH P (gM P L d) L k c (Ft.of N f) t n=o) (hs:Nq o=some x) (hl:Ft.list (oF o) 4096 0=some l0) (hN:f.length≤N)
  (kk:Sat A w0 a0 (xOf x).to Φ l0 (oT o).get):AW P A w0 a0 c Φ f t.get:=by
 obtain⟨r,h1,h2,h3⟩:=Lh hs;refine oJ hX k c Φ (Ft.of N f) t n r (ho.trans h1) ?_ f (fun k=>Ft.vA N f k hN)
 rw[h2,h3];intro l hfr;rw[Sq hfr hl];exact kk
theorem Sat.stops (hX:iJ P) {L d N n:Nat} {x:AX} {k:List KI} {A:Nat→Prop} {w0:World} {a0:Act} {Φ:nA} {f l0:List AV} {t:Tr} (o:Option (RT Out)) (ho:qV P (gM P L d) L k x (Ft.of N f) t n=o) (hs:Np o=true) (hl:Ft.list (oF o) 4096 0=some l0) (hN:f.length≤N)
  (kk:AW P A w0 a0 (.loop (bE o)) (KS P (oK o) Φ) l0 (oT o).get):Sat A w0 a0 x.to (KS P k Φ) f t.get:=by
 obtain⟨r,h1,h2,h3⟩:=RR hs;refine qU hX k x (Ft.of N f) t n r (ho.trans h1) ?_ f (fun k=>Ft.vA N f k hN)
 rw[h2,h3];intro l hfr;rw[Sq hfr hl];exact kk
theorem Sat.ends (hX:iJ P) {L d N n y:Nat} {x:AX} {k:List KI} {A:Nat→Prop} {w0:World} {a0:Act} {Φ:nA} {f l0:List AV} {t:Tr} (o:Option (RT Out)) (ho:qV P (gM P L d) L k x (Ft.of N f) t n=o) (hs:Nq o=some y) (hl:Ft.list (oF o) 4096 0=some l0) (hN:f.length≤N)
  (kk:Sat A w0 a0 (xOf y).to Φ l0 (oT o).get):Sat A w0 a0 x.to (KS P k Φ) f t.get:=by
 obtain⟨r,h1,h2,h3⟩:=Lh hs;refine qU hX k x (Ft.of N f) t n r (ho.trans h1) ?_ f (fun k=>Ft.vA N f k hN)
 rw[h2,h3];intro l hfr;rw[Sq hfr hl];exact kk
end
def yM (ids:lP):Nat→AV→AV→Bool
 |0,_,_=>false
 |k+1,x,y=>match y with
  | .fY=>true
  | .own T sz id i n=>(match x with | .own T' sz' id' i' n'=>decide (T'=T∧sz'=sz∧i'=i∧n'=n)&&decide (ids[id]?=some (some id'))|_=>false)
  | .ptr sz id i off=>(match x with | .ptr sz' id' i' off'=>decide (sz'=sz∧i'=i∧off'=off)&&decide (ids[id]?=some (some id'))|_=>false)
  | .cQ T sz id n=>(match x with | .cQ T' sz' id' n'=>decide (T'=T∧sz'=sz∧n'=n)&&decide (ids[id]?=some (some id'))|_=>false)
  | .lV sz id p off=>(match x with | .lV sz' id' p' off'=>decide (sz'=sz∧p'=p∧off'=off)&&decide (ids[id]?=some (some id'))|_=>false)
  | .agg cs=>(match x with | .agg cs'=>yS (yM ids k) cs' cs&&cs.all (fun x=>x.one)|_=>false)
  |y=>yH 16 x y
def wK:Nat→AV→Bool
 |0,_=>false
 |k+1,x=>match x with
  | .c _ | .undef | .emp | .e _ | .o _ | .any | .seq .. | .row ..=>true
  | .agg l=>l.all (wK k)
  | .bB l=>l.all (wK k)
  | .lit ..=>true
  |_=>false
theorem Rd.plain [Bk] [Ev] {m:Nat→St} {A:Nat→Prop} {w:World}:∀{k:Nat} {x:AV} {v:Value},wK k x=true→Rd m A w x v→cO (Av m A) w x v
 |0,x,v,h,_=>by cases h
 |k+1,x,v,h,hr=>by
  cases hr with
  |pure _ _ h=>exact h
  |agg cs vs hl h1 hr=>exact .agg cs vs hl h1 fun i x hx=>Rd.plain (List.all_eq_true.1 h x (List.mem_of_getElem? hx)) (hr i x hx)
  |bB cs vs hl hr=>exact .bB cs vs hl fun i x hx=>Rd.plain (List.all_eq_true.1 h x (List.mem_of_getElem? hx)) (hr i x hx)
  |_=>cases h
theorem LV:∀{k:Nat} {x y:AV},yH k x y=true→wK k y=true
 |0,x,y,h=>by cases h
 |k+1,x,y,h=>by
  have ihL:∀(a b:List AV),yS (yH k) a b=true→b.all (wK k)=true:=by
   intro a;induction a with
   |nil=>intro b h;cases b with
    |nil=>rfl
    |cons y b=>cases h
   |cons x a ih=>intro b h;cases b with
    |nil=>cases h
    |cons y b =>
     unfold yS at h;rw[Bool.and_eq_true]at h;rw[List.all_cons,LV h.1,ih b h.2];rfl
  unfold yH at h;split at h<;>first|rfl|exact ihL _ _ h|cases h
theorem Slot.same [b:Bk] [e:Ev] {ids:lP} {x:AV} {k:Nat} (hp:wK k x=true):Slot b e b e ids x x:=fun m A w v h =>
 .pure _ _ ((h.plain hp).mono (Nat.le_refl _) fun c _ hc=>⟨fun h=>hc (OT h),rfl⟩)
theorem Ae [b:Bk] [e:Ev] {ids:lP}:∀{k:Nat} {x y:AV},yM ids k x y=true→Slot b e b e ids x y
 |0,x,y,h=>by cases h
 |k+1,x,y,h=>by
  unfold yM at h;split at h
  ·exact Slot.fY
  ·split at h
   ·rw[Bool.and_eq_true,decide_eq_true_eq,decide_eq_true_eq]at h
    obtain⟨⟨rfl,rfl,rfl,rfl⟩,h⟩:=h
    exact Slot.own h
   ·cases h
  ·split at h
   ·rw[Bool.and_eq_true,decide_eq_true_eq,decide_eq_true_eq]at h
    obtain⟨⟨rfl,rfl,rfl⟩,h⟩:=h
    exact Slot.ptr h
   ·cases h
  ·split at h
   ·rw[Bool.and_eq_true,decide_eq_true_eq,decide_eq_true_eq]at h
    obtain⟨⟨rfl,rfl,rfl⟩,h⟩:=h
    exact Slot.cQ h rfl
   ·cases h
  ·split at h
   ·rw[Bool.and_eq_true,decide_eq_true_eq,decide_eq_true_eq]at h
    obtain⟨⟨rfl,rfl,rfl⟩,h⟩:=h
    exact Slot.lV h rfl
   ·cases h
  ·split at h
   ·rename_i cs cs'
    rw[Bool.and_eq_true]at h;refine Slot.agg ?_ h.2
    have:∀(a c:List AV),yS (yM ids k) a c=true→kF b e b e ids a c:=by
     intro a;induction a with
     |nil=>intro c h;cases c with
      |nil=>exact .nil
      |cons y c=>cases h
     |cons x a ih=>intro c h;cases c with
      |nil=>cases h
      |cons y c =>
       unfold yS at h;rw[Bool.and_eq_true]at h;exact .cons (Ae h.1) (ih c h.2)
    exact this _ _ h.1
   ·cases h
  ·have e1:=vE h
   have e2:=LV h;rw[e1];exact Slot.same e2
theorem MR [b:Bk] [e:Ev] {ids:lP} {k:Nat}:∀{l l':List AV},yS (yM ids k) l l'=true→kF b e b e ids l l'
 |[],[],_=>.nil
 |[],_::_,h=>by cases h
 |_::_,[],h=>by cases h
 |x::l,y::m,h=>by
  unfold yS at h;rw[Bool.and_eq_true]at h;exact .cons (Ae h.1) (MR h.2)
def aie (ids:lP) (h:AH) (o:Option Nat) (B:bX):Bool:=match o with
 |none=>false
 |some i=>match B with
  | .cells T sz aW=>(match h i with | .cells T' sz' els'=>decide (T'=T∧sz'=sz)&&(En (yM ids 16) els' aW&&aW.all (·.all fun x=>x.one))|_=>false)
  | .sc T sz base bP tail n=>(match h i with | .sc T' sz' base' ups' tail' n'=>decide (T'=T∧sz'=sz∧n'=n)&&(yH 16 (.seq sz' base' ups' tail') (.seq sz base bP tail)&&(bP.all (·.2.all (wK 16))&&tail.all (·.all (wK 16))))|_=>false)
  |_=>false
def abB (ids:lP) (h:AH):lP→List bX→Bool
 |[],[]=>true
 |o::l,B::bs=>aie ids h o B&&abB ids h l bs
 |_,_=>false
theorem zH [Bk] [Ev] {base:Nat} {bP:List (Poly×List AV)} {tail:List (List AV)} {e:List AV} (h:e∈rowsOf base bP tail):e∈Ev.seq base∨(∃q∈bP,e=q.2)∨e∈tail:=by
 have key:∀(bP:List (Poly×List AV)) (l:List (List AV)),e∈bP.foldl (fun l q=>l.set (bR Ev.cX q.1).toNat q.2) l→e∈l∨∃q∈bP,e=q.2:=by
  intro bP;induction bP with
  |nil=>intro l h;exact .inl h
  |cons q bP ih =>
   intro l h;rcases ih _ h with h|⟨q',h1,h2⟩
   ·rcases List.mem_or_eq_of_mem_set h with h|h
    ·exact .inl h
    ·exact .inr ⟨q,List.mem_cons_self,h⟩
   ·exact .inr ⟨q',List.mem_cons_of_mem _ h1,h2⟩
 unfold rowsOf at h;rcases List.mem_append.1 h with h|h
 ·rcases key _ _ h with h|h
  ·exact .inl h
  ·exact .inr (.inl h)
 ·exact .inr (.inr h)
theorem Slot.cl [b:Bk] [e:Ev] {ids:lP} {x:AV} (hx:Cl x):Slot b e b e ids x x:=fun m A w v h =>
 .pure _ _ ((h.cl hx).mono (Nat.le_refl _) fun c _ hc=>⟨fun h=>hc (OT h),rfl⟩)
theorem abr {r:AV→AV→Bool} {a c:List (List AV)} (h:En r a c=true):c.length=a.length∧∀(i j:Nat) (y:AV),fD c i j=some y→∃x,fD a i j=some x∧r x y=true:=by
 obtain⟨h1,h2⟩:=Ce h;refine⟨h1.symm,?_⟩
 intro i j y hy;unfold fD at hy;cases hc:c[i]? with
 |none=>rw[hc]at hy;cases hy
 |some e =>
  rw[hc]at hy;obtain⟨e',g1,g2⟩:=h2 i e hc;obtain⟨-,l2⟩:=sJ g2;obtain⟨x,q1,q2⟩:=l2 j y hy;exact⟨x,by unfold fD;rw[g1];exact q1,q2⟩
theorem abq {r:AV→AV→Bool} {a c:List (List AV)} {sz:Nat} (h:En r a c=true) (ha:∀e∈a,e.length=sz):∀e∈c,e.length=sz:=by
 intro e he;obtain⟨i,hi⟩:=List.mem_iff_getElem?.1 he
 obtain⟨e',g1,g2⟩:=(Ce h).2 i e hi
 rw[←(sJ g2).1];exact ha e' (List.mem_of_getElem? g1)
theorem MU {ids:lP} {k:Nat} {x y:AV} (h:yM ids k x y=true) (hy:y.one=true):x.one=true:=by
 cases k with
 |zero=>cases h
 |succ k =>
  unfold yM at h;split at h
  ·simp[AV.one]at hy
  ·split at h
   ·rfl
   ·cases h
  ·split at h
   ·rfl
   ·cases h
  ·split at h
   ·rfl
   ·cases h
  ·split at h
   ·rfl
   ·cases h
  ·simp[AV.one]at hy
  ·rw[vE h];exact hy
theorem abD [b:Bk] [e:Ev] {ids:lP} {h:AH} (hs:∀i,lM (h i)) {o:Option Nat} {B:bX} (hb:aie ids h o B=true):yK b e b e ids h o B:=by
 unfold aie at hb;cases o with
 |none=>cases hb
 |some i =>
  simp only at hb
  split at hb
  ·rename_i T sz aW
   split at hb
   ·rename_i T' sz' els' hi
    rw[Bool.and_eq_true,Bool.and_eq_true,decide_eq_true_eq]at hb;obtain⟨⟨rfl,rfl⟩,h2,h3⟩:=hb
    obtain⟨l1,l2⟩:=abr h2;refine⟨trivial,T',sz',els',aW,by rw[hi];rfl,rfl,l1,?_,abq h2⟩
    intro i j y hy;obtain⟨x,q1,q2⟩:=l2 i j y hy;obtain⟨r,hr,hyr⟩:=mU hy;have hy1:y.one=true:=List.all_eq_true.1 (List.all_eq_true.1 h3 r hr) y hyr
    exact⟨x,q1,by rw[hy1];exact MU q2 hy1,Ae q2⟩
   ·cases hb
  ·rename_i T sz base bP tail n
   split at hb
   ·rename_i T' sz' base' ups' tail' n' hi
    rw[Bool.and_eq_true,Bool.and_eq_true,Bool.and_eq_true,decide_eq_true_eq]at hb;obtain⟨⟨rfl,rfl,rfl⟩,h2,h3,h4⟩:=hb
    have h2:=vE h2;cases h2;have hsc:=hs i;rw[hi]at hsc;refine⟨hsc,T',sz',rowsOf base bP tail,rowsOf base bP tail,by rw[hi];rfl,rfl,rfl,?_,fun h=>h⟩
    intro i j y hy;refine⟨y,hy,rfl,?_⟩
    obtain⟨r,hr,hyr⟩:=mU hy;rcases zH hr with h|⟨q,h,rfl⟩|h
    ·exact Slot.cl (Ev.qC base r h y hyr)
    ·exact Slot.same (List.all_eq_true.1 (List.all_eq_true.1 h3 q h) y hyr)
    ·exact Slot.same (List.all_eq_true.1 (List.all_eq_true.1 h4 r h) y hyr)
   ·cases hb
  ·cases hb
theorem SY [b:Bk] [e:Ev] {ids:lP} {h:AH} (hs:∀i,lM (h i)):∀{l:lP} {bs:List bX},abB ids h l bs=true→PC b e b e ids h l bs
 |[],[],_=>.nil
 |[],_::_,h=>by cases h
 |_::_,[],h=>by cases h
 |o::l,B::bs,h=>by
  unfold abB at h;rw[Bool.and_eq_true]at h;exact .cons (abD hs h.1) (SY hs h.2)
def ndB (ids:lP):Bool:=decide ids.Nodup
theorem akh {ids:lP} (h:ndB ids=true):∀(i j k:Nat),ids[i]?=some (some k)→ids[j]?=some (some k)→i=j:=by
 intro i j k hi hj;have hn:ids.Nodup:=of_decide_eq_true h
 have h1:=(List.getElem?_eq_some_iff.1 hi)
 have h2:=(List.getElem?_eq_some_iff.1 hj)
 obtain⟨l1,e1⟩:=h1;obtain⟨l2,e2⟩:=h2;have hp:=List.pairwise_iff_getElem.1 hn;rcases Nat.lt_trichotomy i j with h|h|h
 ·exact absurd (e1.trans e2.symm) (hp i j l1 l2 h)
 ·exact h
 ·exact absurd (e2.trans e1.symm) (hp j i l2 l1 h)
theorem gZ.short [b:Bk] [e:Ev] {ids:lP} {A:Nat→Prop} {w0:World} {a0:Act} {m:Nat→St} {w:World} {a:Act} {f1 f2:List AV} {h1:AH} {bs:List bX} (pr:gZ A w0 a0 m w a f1 h1) (hf:yS (yM ids 16) f1 f2=true) (hB:abB ids h1 ids bs=true) (nd:ndB ids=true) (hg:b.jF=[]:=by rfl) :
  gZ A w0 a0 (AN m ids) w a f2 (eS bs):=pr.to (MR hf) (SY pr.rel.PD hB) (akh nd) hg
def nD (n:Nat):lP:=(List.range n).map some
theorem iR {n k:Nat} (h:k<n):(nD n)[k]?=some (some k):=by unfold nD;rw[List.getElem?_map,List.getElem?_range h];rfl
section
variable {b1:Bk} {e1:@Ev b1} {b2:Bk} {e2:@Ev b2} {ids:lP}
theorem yK.sc {h1:AH} {i T sz base base':Nat} {bP:List (Poly×List AV)} {tail:List (List AV)} {n n':Poly} (hi:h1 i=.sc T sz base bP tail n) (hr:@den b1 e1 12 (.seq sz base bP tail)=.lit sz (@Ev.seq b2 e2 base')) (hn:bR (@Ev.cX b2 e2) n'=((@Ev.seq b2 e2 base').length:Int)) :
  yK b1 e1 b2 e2 ids h1 (some i) (.sc T sz base' [] [] n'):=by
 have hrows:@rowsOf b2 e2 base' [] []=@Ev.seq b2 e2 base':=by unfold rowsOf;rw[List.append_nil];rfl
 rw[@Pc b1 e1]at hr;injection hr with _ hr
 refine⟨⟨by rw[hrows];exact hn,fun q hq=>absurd hq List.not_mem_nil⟩,T,sz,@rowsOf b1 e1 base bP tail,@Ev.seq b2 e2 base',by rw[hi];rfl,by simp only[bX.aW];rw[hrows],by rw[←hr,List.length_map],?_,?_⟩
 ·intro i j y hy
  have hy0:=hy;rw[←hr,nX]at hy;obtain⟨x,hx,rfl⟩:=Option.map_eq_some_iff.1 hy;refine⟨x,hx,(@mS b1 e1 11 x).symm,?_⟩
  obtain⟨r,h2,h3⟩:=mU hy0;have nP:Cl (@den b1 e1 11 x):=@Ev.qC b2 e2 base' r h2 _ h3
  intro m A w v h;have k1:=@Rd.cl b1 e1 m A w _ nP v (@Rd.XV b1 e1 m A w 11 x v h)
  exact @Rd.pure b2 e2 _ A w _ _ (@cO.mono b2 e2 _ _ w w (Nat.le_refl _) (fun b _ hb=>⟨fun h=>hb (OT h),rfl⟩) _ v (cO.cl (b2:=b2) (e2:=e2) nP k1))
 ·intro h e he
  rw[←hr]at he;obtain⟨e',he',rfl⟩:=List.mem_map.1 he;rw[List.length_map];exact h e' he'
theorem yK.pF {h1:AH} {T sz base':Nat} {n':Poly} (hr:@Ev.seq b2 e2 base'=[]) (hn:bR (@Ev.cX b2 e2) n'=0):yK b1 e1 b2 e2 ids h1 none (.sc T sz base' [] [] n'):=by
 have hrows:@rowsOf b2 e2 base' [] []=[]:=by unfold rowsOf;rw[List.append_nil];exact hr
 exact⟨⟨by rw[hrows];exact hn,fun q hq=>absurd hq List.not_mem_nil⟩,T,sz,by simp only[bX.aW];rw[hrows]⟩
end
def zD (bs:List bX):Tr:=(bs.foldl (fun(q:Tr×Nat) B=>(q.1.set q.2 B,q.2+1)) (.leaf,0)).1
theorem vU [Bk] [Ev] (bs:List bX):(zD bs).get=eS bs:=by
 have key:∀(bs pre:List bX) (t:Tr),t.get=eS pre→((bs.foldl (fun(q:Tr×Nat) B=>(q.1.set q.2 B,q.2+1)) (t,pre.length)).1).get=eS (pre++bs):=by
  intro bs;induction bs with
  |nil=>intro pre t h;rw[List.append_nil];exact h
  |cons B bs ih =>
   intro pre t h;rw[List.foldl_cons];have:=ih (pre++[B]) (t.set pre.length B) ?_
   ·rw[List.append_assoc]at this
    simpa using this
   ·rw[Tr.FV,h]
    funext k
    unfold cH eS;by_cases hk:k=pre.length
    ·subst hk;simp[List.getD]
    ·rw[if_neg hk]
     rcases Nat.lt_or_ge k pre.length with hlt|hge
     ·simp[List.getD,List.getElem?_append_left hlt]
     ·have h1:pre.length+1≤k:=by omega
      simp[List.getD,List.getElem?_eq_none hge,List.getElem?_eq_none (show(pre++[B]).length≤k by simp;omega)]
 have h0:Tr.leaf.get=eS []:=by
  funext k
  rw[Tr.kS];simp[eS]
 exact key bs [] .leaf h0
def Lm (o:Option (RT Out)):List AV:=(Ft.list (oF o) 4096 0).getD []
def okB (o:Option (RT Out)):Bool:=(Ft.list (oF o) 4096 0).isSome
theorem aeW {o:Option (RT Out)} (h:okB o=true):Ft.list (oF o) 4096 0=some (Lm o):=by
 unfold okB at h;unfold Lm;cases hh:Ft.list (oF o) 4096 0 with
 |none=>rw[hh]at h;cases h
 |some l=>rfl
def MP (o:Option (RT Out)):Bool:=Np o&&okB o
def vP (o:Option (RT Out)) (x:Nat):Bool:=decide (Nq o=some x)&&okB o
theorem PV {o:Option (RT Out)} (h:MP o=true):Np o=true∧Ft.list (oF o) 4096 0=some (Lm o):=by
 unfold MP at h;rw[Bool.and_eq_true]at h;exact⟨h.1,aeW h.2⟩
theorem LA {o:Option (RT Out)} {x:Nat} (h:vP o x=true):Nq o=some x∧Ft.list (oF o) 4096 0=some (Lm o):=by
 unfold vP at h;rw[Bool.and_eq_true,decide_eq_true_eq]at h;exact⟨h.1,aeW h.2⟩
theorem adS (b:Bk) (ev:@Ev b) (hX:@iJ b ev P) {L d k N n:Nat} {A:Nat→Prop} {w0:World} {a0:Act} {c:Code} {Φ:nA} {f:List AV} {bs:List bX} (o:Option (RT Out)) (ho:@mH b P (@gM b P L d) L k c (Ft.of N f) (zD bs) n=o) (hs:MP o=true) (hN:f.length≤N)
  {m:Nat→St} {w:World} {a:Act} (pr:@gZ b ev A w0 a0 m w a f (eS bs)) (kk:∀m w a,@gZ b ev A w0 a0 m w a (Lm o) (oT o).get→(Code.loop (bE o)).wpIn (fw none) 9 P (KS P (oK o) Φ) a w):c.wpIn (fw none) 9 P Φ a w:=by
 obtain⟨h1,h2⟩:=PV hs;exact @AW.stops P b ev hX L d k N n A w0 a0 c Φ f (Lm o) (zD bs) o ho h1 h2 hN kk m w a (by rw[@vU b ev];exact pr)
theorem Aq (b:Bk) (ev:@Ev b) (hX:@iJ b ev P) {L d k N n x:Nat} {A:Nat→Prop} {w0:World} {a0:Act} {c:Code} {Φ:nA} {f:List AV} {bs:List bX} (o:Option (RT Out)) (ho:@mH b P (@gM b P L d) L k c (Ft.of N f) (zD bs) n=o) (hs:vP o x=true) (hN:f.length≤N)
  {m:Nat→St} {w:World} {a:Act} (pr:@gZ b ev A w0 a0 m w a f (eS bs)) (kk:∀m w a,@gZ b ev A w0 a0 m w a (Lm o) (oT o).get→Φ (xOf x).to a w):c.wpIn (fw none) 9 P Φ a w:=by
 obtain⟨h1,h2⟩:=LA hs;exact @AW.ends P b ev hX L d k N n x A w0 a0 c Φ f (Lm o) (zD bs) o ho h1 h2 hN kk m w a (by rw[@vU b ev];exact pr)
theorem adW (b:Bk) (ev:@Ev b) (hX:@iJ b ev P) {L d N n:Nat} {x:AX} {k:List KI} {A:Nat→Prop} {w0:World} {a0:Act} {Φ:nA} {f:List AV} {bs:List bX} (o:Option (RT Out)) (ho:@qV b P (@gM b P L d) L k x (Ft.of N f) (zD bs) n=o) (hs:MP o=true) (hN:f.length≤N)
  {m:Nat→St} {w:World} {a:Act} (pr:@gZ b ev A w0 a0 m w a f (eS bs)) (kk:∀m w a,@gZ b ev A w0 a0 m w a (Lm o) (oT o).get→(Code.loop (bE o)).wpIn (fw none) 9 P (KS P (oK o) Φ) a w):KS P k Φ x.to a w:=by
 obtain⟨h1,h2⟩:=PV hs;exact @Sat.stops P b ev hX L d N n x k A w0 a0 Φ f (Lm o) (zD bs) o ho h1 h2 hN kk m w a (by rw[@vU b ev];exact pr)
theorem IH (b:Bk) (ev:@Ev b) (hX:@iJ b ev P) {L d N n y:Nat} {x:AX} {k:List KI} {A:Nat→Prop} {w0:World} {a0:Act} {Φ:nA} {f:List AV} {bs:List bX} (o:Option (RT Out)) (ho:@qV b P (@gM b P L d) L k x (Ft.of N f) (zD bs) n=o) (hs:vP o y=true) (hN:f.length≤N)
  {m:Nat→St} {w:World} {a:Act} (pr:@gZ b ev A w0 a0 m w a f (eS bs)) (kk:∀m w a,@gZ b ev A w0 a0 m w a (Lm o) (oT o).get→Φ (xOf y).to a w):KS P k Φ x.to a w:=by
 obtain⟨h1,h2⟩:=LA hs;exact @Sat.ends P b ev hX L d N n y x k A w0 a0 Φ f (Lm o) (zD bs) o ho h1 h2 hN kk m w a (by rw[@vU b ev];exact pr)
theorem xKn (b:Bk) (ev:@Ev b) (hk:@Mj b ev P b.bN) (h1:b.ext=[]:=by rfl) (h2:b.yes=[]:=by rfl):@iJ b ev P:=⟨by rw[h1];exact afy b ev,by rw[h2];exact adl b ev,hk⟩
theorem kP (xs:List Int) (i:Nat):bR (fun k=>xs.getD k 0) [([i],1)]=xs.getD i 0:=by simp[bR,rH]
end
end Mc
namespace Mc
def Ef:Nat→AV→Bool
 |0,_=>false
 |k+1,x=>match x with
  | .e _=>true
  | .o _=>true
  | .c _=>true
  | .undef=>true
  | .emp=>true
  | .any=>true
  | .agg cs=>cs.all (Ef k)
  | .bB cs=>cs.all (Ef k)
  | .lit _ aW=>aW.all (·.all (Ef k))
  | .seq _ _ bP tail=>bP.all (fun q=>q.2.all (Ef k))&&tail.all (·.all (Ef k))
  | .pE _ v=>Ef k v
  |_=>false
theorem LC [Bk] [Ev]:∀(k:Nat) (x:AV),Ef k x=true→Cl (den k x)
 |0,x,h=>by cases h
 |k+1,x,h=>by
  have ih:∀(l:List AV),l.all (Ef k)=true→∀y∈l.map (den k),Cl y:=by
   intro l hl y hy;obtain⟨z,hz,rfl⟩:=List.mem_map.1 hy;exact LC k z (List.all_eq_true.1 hl z hz)
  cases x with
  |e p=>exact .c _
  |o i=>exact .c _
  |c v=>exact .c v
  |undef=>exact .undef
  |emp=>exact .emp
  |any=>exact .any
  |agg cs=>exact .agg _ (ih cs h)
  |bB cs=>exact .bB _ (ih cs h)
  |pE t v=>exact .pE t _ (LC k v h)
  |lit sz aW =>
   refine .lit sz _ ?_
   intro r hr;obtain⟨z,hz,rfl⟩:=List.mem_map.1 hr;exact ih z (List.all_eq_true.1 h z hz)
  |seq sz base bP tail =>
   simp only[Ef,Bool.and_eq_true]at h;refine .lit sz _ ?_
   rw[Px];have key:∀(us:List (Poly×List AV)) (l:List (List AV)),(∀e∈l,∀x∈e,Cl x)→(∀q∈us,∀x∈q.2,Cl x)→∀e∈us.foldl (fun l q=>l.set (evP Ev.cX q.1).toNat q.2) l,∀x∈e,Cl x:=by
    intro us;induction us with
    |nil=>intro l hl _;exact hl
    |cons q us ih2 =>
     intro l hl hq;refine ih2 _ ?_ fun q' hq'=>hq q' (List.mem_cons_of_mem _ hq')
     intro e he;rcases List.mem_or_eq_of_mem_set he with he|rfl
     ·exact hl e he
     ·exact hq q List.mem_cons_self
   intro r hr;rcases List.mem_append.1 hr with hr|hr
   ·refine key _ _ (Ev.qC base) ?_ r hr
    intro q hq;obtain⟨z,hz,rfl⟩:=List.mem_map.1 hq;exact ih z.2 (List.all_eq_true.1 h.1 z hz)
   ·obtain⟨z,hz,rfl⟩:=List.mem_map.1 hr
    exact ih z (List.all_eq_true.1 h.2 z hz)
  |_=>cases h
theorem qR:∀(k:Nat) (x:AV),Cl x→lD k x=true
 |0,_,_=>rfl
 |k+1,x,h=>by
  cases h with
  |c v=>rfl
  |undef=>rfl
  |emp=>rfl
  |any=>rfl
  |agg cs h=>exact List.all_eq_true.2 fun y hy=>qR k y (h y hy)
  |bB cs h=>exact List.all_eq_true.2 fun y hy=>qR k y (h y hy)
  |lit sz aW h=>exact List.all_eq_true.2 fun r hr=>List.all_eq_true.2 fun y hy=>qR k y (h r hr y hy)
  |pE t y h=>exact qR k y h
section
variable {b:Bk} {ev:@Ev b} {n:Nat}
end
section
variable {b:Bk} {ev:@Ev b} {n:Nat}
theorem abA (b1:Bk) (e1:@Ev b1) (b2:Bk) (e2:@Ev b2) (ids:lP) {h1:AH} {bs:List bX} (f:Nat→Option Nat) (h:∀i B,bs[i]?=some B→yK b1 e1 b2 e2 ids h1 (f i) B):PC b1 e1 b2 e2 ids h1 ((List.range bs.length).map f) bs:=by
 induction bs generalizing f with
 |nil=>exact .nil
 |cons B bs ih =>
  rw[List.length_cons,List.range_succ_eq_map,List.map_cons,List.map_map];exact .cons (h 0 B rfl) (ih (f∘Nat.succ) fun i B' hB=>h (i+1) B' (by simpa using hB))
end
theorem aha {ρ:Nat→Int} {r p q:Poly} {x y n:Int} (hr:bR ρ r=x) (hp:bR ρ p=y) (hq:bR ρ q=n) (h0:0≤y) (h:x=y/n):bR ρ r=(bR ρ p).tdiv (bR ρ q):=by rw[hr,hp,hq,h,Int.tdiv_eq_ediv_of_nonneg h0]
theorem ag7 {ρ:Nat→Int} {r p q:Poly} {x y n:Int} (hr:bR ρ r=x) (hp:bR ρ p=y) (hq:bR ρ q=n) (h0:0≤y) (h:x=y%n):bR ρ r=(bR ρ p).tmod (bR ρ q):=by rw[hr,hp,hq,h,Int.tmod_eq_emod_of_nonneg h0]
theorem ad3 (ρ:Nat→Int) (n:Int):bR ρ [([],n)]=n:=by simp[bR,rH]
theorem uD {ρ:Nat→Int} {p:Poly} {x:Int} {l:List (List AV)} {r:List AV} (hp:bR ρ p=x) (h:l[x.toNat]?=some r):l[(bR ρ p).toNat]?=some r:=by rw[hp];exact h
end Mc
end Go.Proofs.YtnepgggkgnckcaaGreat
