/-
 Texts joined and made small by wip/small.sh.
-/
import Derived.Test.YtnepgggkgnckcaaGreatJ2
set_option linter.all false
set_option maxHeartbeats 1000000
namespace Go.Proofs.YtnepgggkgnckcaaGreat
open Go.RowKit
namespace Mc
variable {α β:Type}
def alm [Bk] (P:Program) (x:Operand) (ρ:Operand->AV) (h:AH) (nx:Nat):Option AR :=
 some ⟨ρ x,[],[]⟩
def afG [Bk] (P:Program) (x:Operand) (ρ:Operand->AV) (h:AH) (nx:Nat):Option AR :=
 some ⟨ρ x,[],[]⟩
def aed [Bk] (P:Program) (c:Operand) (x:Operand) (y:Operand) (ρ:Operand->AV) (h:AH) (nx:Nat):Option AR :=
 match ρ c with
  | .c (.bool b)=>some ⟨bif b then ρ x else ρ y,[],[]⟩
  |_=>none
def aam [Bk] (P:Program) (e:TypeId) (ρ:Operand->AV) (h:AH) (nx:Nat):Option AR :=
 match P.info? e with
  |some i=>match i.zero with
   |some z=>match jD (SC z)with
    |some cs=>if lN h nx then some ⟨.ptr cs.length nx 0 0,[(nx,.cells e cs.length [cs])],[nx]⟩else none
    |none=>none
   |none=>none
  |none=>none
def ajl [Bk] (P:Program) (e:TypeId) (x:Operand) (ρ:Operand->AV) (h:AH) (nx:Nat):Option AR :=
 match jD (ρ x)with
  |some cs=>if lN h nx then some ⟨.ptr cs.length nx 0 0,[(nx,.cells e cs.length [cs])],[nx]⟩else none
  |none=>none
def aah [Bk] (P:Program) (t:TypeId) (a:Array (Nat×Operand)) (ρ:Operand->AV) (h:AH) (nx:Nat):Option AR :=
 match Nv P t (a.toList.map fun p=>(p.1,ρ p.2))with
  |some cs=>some ⟨.agg cs,[],[]⟩
  |none=>none
def A4 [Bk] (P:Program) (t:TypeId) (len:Nat) (a:Array (Nat×Operand)) (ρ:Operand->AV) (h:AH) (nx:Nat):Option AR :=
 match P.underlying t with
  |some (.slice e)=>match P.info? e with
   |some i=>match i.zero with
    |some z=>match jD (SC z)with
     |some zc=>if zc.length=i.size/\0<i.size/\0<len/\len*i.size<=16777216/\lN h nx=true then
       match yM (fun k=>some (k*i.size,i.size)) ((List.replicate len zc).flatten) (a.toList.map fun p=>(p.1,ρ p.2))with
       |some cs=>some ⟨.own e i.size nx 0 len,[(nx,.cells e i.size (chunk i.size len cs))],[nx]⟩
       |none=>none
      else none
     |none=>none
    |none=>none
   |none=>none
  |_=>none
def aef [Bk] (P:Program) (t:TypeId) (x:Operand) (ρ:Operand->AV) (h:AH) (nx:Nat):Option AR :=
 match ρ x with
  | .ptr a id i off=>match h id with
   | .cells _ s bL=>if s=a then match bL[i]? with
     |some e=>match mJ P t e off with
      |some v=>some ⟨v,[],[id]⟩
      |none=>none
     |none=>none
    else none
   |_=>none
  | .iZ _ bL i off=>match bL[i]? with
   |some e=>match mJ P t e off with
    |some v=>some ⟨v,[],[]⟩
    |none=>none
   |none=>none
  |_=>none
def aac [Bk] (P:Program) (t:TypeId) (x:Operand) (y:Operand) (ρ:Operand->AV) (h:AH) (nx:Nat):Option AR :=
 match ρ x with
  | .ptr b id i off=>match h id with
   | .cells T s bL=>if s=b then match bL[i]?,jD (ρ y)with
     |some e,some a=>if eO P t=some a.length/\off+a.length<=b then some ⟨.undef,[(id,.cells T b (bL.set i (nN e off a)))],[id]⟩else none
     |_,_=>none
    else none
   |_=>none
  |_=>none
def I4 [Bk] (P:Program) (x:Operand) (ρ:Operand->AV) (h:AH) (nx:Nat):Option AR :=
 match ρ x with
  | .ptr a id i off=>match h id with
   | .cells _ _ bL=>if(bL[i]?).isSome then some ⟨.ptr a id i off,[],[id]⟩else none
   |_=>none
  | .iZ a bL i off=>some ⟨.iZ a bL i off,[],[]⟩
  | .fn (.func k) c b=>some ⟨.fn (.func k) c b,[],[]⟩
  |_=>none
def aai [Bk] (P:Program) (op:BinOp) (t:TypeId) (x:Operand) (y:Operand) (ρ:Operand->AV) (h:AH) (nx:Nat):Option AR :=
 match ak7 P op t (MY x) (MY y) (ρ x) (ρ y)with
  |some r=>some ⟨r,[],[]⟩
  |none=>none
def aec [Bk] (P:Program) (op:UnOp) (x:Operand) (ρ:Operand->AV) (h:AH) (nx:Nat):Option AR :=
 match ρ x with
  | .c u=>match unV op u with
   |some r=>some ⟨.c r,[],[]⟩
   |none=>none
  | .e p=>match op with
   | .neg=>if mD (qV (-1) p)then some ⟨CM (qV (-1) p),[],[]⟩else none
   |_=>none
  |_=>none
def NJ [Bk] (P:Program) (s:TypeId) (d:TypeId) (x:Operand) (ρ:Operand->AV) (h:AH) (nx:Nat):Option AR :=
 match ρ x with
  | .c (.int _ n)=>match P.underlying s,P.underlying d with
   |some _,some (.int k)=>some ⟨.c (.int k (k.wrap n)),[],[]⟩
   |_,_=>none
  | .c (.string b)=>match P.underlying s,P.underlying d with
   |some _,some .string=>some ⟨.c (.string b),[],[]⟩
   |_,_=>none
  | .e p=>match P.underlying s,P.underlying d with
   |some _,some (.int .i64)=>if mD p then some ⟨.e p,[],[]⟩else none
   |_,_=>none
  |_=>none
def wT [Bk] (P:Program) (t:TypeId) (x:Operand) (ρ:Operand->AV) (h:AH) (nx:Nat):Option AR :=
 if P.concrete t then some ⟨.rG t (ρ x),[],[]⟩else none
def I5 [Bk] (P:Program) (fn:Fn) (first:Array Operand) (a:Array Operand) (ρ:Operand->AV) (h:AH) (nx:Nat):Option AR :=
 some ⟨.fn fn (first.toList.map ρ) (a.toList.map ρ),[],[]⟩
def E6 [Bk] (P:Program) (t:TypeId) (x:Operand) (y:Operand) (ρ:Operand->AV) (h:AH) (nx:Nat):Option AR :=
 match ρ x,ρ y with
  | .c (.int _ l),.c (.int _ c)=>match P.underlying t with
   |some (.slice e)=>match P.info? e with
    |some i=>match i.zero with
     |some z=>match jD (SC z)with
      |some zc=>if zc.length=i.size/\0<=l/\l<=c/\(i.bytes:Int)*c<=281474976710656/\c<=1099511627776/\lN h nx=true then
        some ⟨.own e i.size nx 0 l.toNat,[(nx,.cells e i.size (List.replicate l.toNat zc))],[nx]⟩else none
      |none=>none
     |none=>none
    |none=>none
   |_=>none
  |_,_=>none
def aad [Bk] (P:Program) (t:TypeId) (x:Operand) (f:Option Operand) (e:Option Operand) (j:Option Operand) (ρ:Operand->AV) (h:AH) (nx:Nat):Option AR :=
 match j with
  |some m=>match f,e with
   |none,some e=>match ρ e,ρ m with
    | .c (.int _ a),.c (.int _ b)=>match jX h (ρ x)with
     |some _=>if a=0/\b=0/\kG P t=true/\(P.info? (P.elem t)).isSome=true then some ⟨.emp,[],uC (ρ x)⟩else none
     |none=>none
    |_,_=>none
   |some f,some e=>match ρ x with
    | .own T d id i n=>match h id with
     | .cells g s bL=>match gU ρ 0 (some f),gU ρ n (some e),gU ρ n (some m)with
      |some l,some u,some v=>if g=T/\s=d/\bL≠[]/\l<=u/\u<=v/\v<=n/\l<v/\kG P t=true/\eO P (P.elem t)=some d then some ⟨.view T d id (i+l) (u-l),[],[id]⟩else
        if g=T/\s=d/\bL≠[]/\l=u/\u=v/\v<=n/\kG P t=true/\eO P (P.elem t)=some d then some ⟨.emp,[],[id]⟩else none
      |_,_,_=>none
     |_=>none
    | .lit d bL=>match gU ρ 0 (some f),gU ρ 0 (some e),gU ρ 0 (some m)with
     |some l,some u,some v=>if bL≠[]/\l<=u/\u<=v/\v<=bL.length/\kG P t=true/\eO P (P.elem t)=some d then some ⟨.lit d ((bL.drop l).take (u-l)),[],[]⟩else none
     |_,_,_=>none
    |_=>none
   |_,_=>none
  |none=>match ρ x with
   | .lit d bL=>match gU ρ 0 f,gU ρ bL.length e with
    |some l,some u=>if l<=u/\u<=bL.length/\kG P t=true/\eO P (P.elem t)=some d then some ⟨.lit d ((bL.drop l).take (u-l)),[],[]⟩else none
    |_,_=>none
   | .own T d id i n=>match h id with
    | .cells g s bL=>match gU ρ 0 f,gU ρ n e with
     |some l,some u=>if g=T/\s=d/\bL≠[]/\l<=u/\u<=n/\(l=0\/l<n)/\kG P t=true/\eO P (P.elem t)=some d then some ⟨.own T d id (i+l) (u-l),[],[id]⟩else none
     |_,_=>none
    |_=>none
   | .c (.string s)=>match P.underlying t with
    |some .string=>match gU ρ 0 f,gU ρ s.size e with
     |some l,some u=>if l<=u/\u<=s.size then some ⟨.c (.string (s.extract l u)),[],[]⟩else none
     |_,_=>none
    |_=>none
   |_=>none
def E8 [Bk] (P:Program) (t:TypeId) (x:Operand) (k:Nat) (ρ:Operand->AV) (h:AH) (nx:Nat):Option AR :=
 match nM P t k with
  |some (_,b,n)=>if n≠0 then match ρ x with
    | .ptr a id i off=>match h id with
     | .cells _ s bL=>if s=a/\(bL[i]?).isSome=true then some ⟨.ptr a id i (off+b),[],[id]⟩else none
     |_=>none
    | .iZ a bL i off=>some ⟨.iZ a bL i (off+b),[],[]⟩
    |_=>none
   else none
  |none=>none
def aag [Bk] (P:Program) (t:TypeId) (x:Operand) (k:Nat) (ρ:Operand->AV) (h:AH) (nx:Nat):Option AR :=
 match nM P t k with
  |some (a,b,_)=>match ρ x with
   | .agg cs=>match mJ P a cs b with
    |some v=>some ⟨v,[],[]⟩
    |none=>none
   |_=>none
  |none=>none
def E7 [Bk] (P:Program) (t:TypeId) (x:Operand) (ix:Operand) (ρ:Operand->AV) (h:AH) (nx:Nat):Option AR :=
 match ρ ix with
  | .c (.int _ n)=>match P.underlying t with
   |some (.slice e)=>match ρ x with
    | .lit a bL=>if eO P e=some a/\0<=n/\n.toNat<bL.length then some ⟨.iZ a bL n.toNat 0,[],[]⟩else none
    | .own T a id i n'=>match h id with
     | .cells b s bL=>if b=T/\s=a/\eO P e=some a/\0<=n/\n.toNat<n'/\(bL[i+n.toNat]?).isSome=true then some ⟨.ptr a id (i+n.toNat) 0,[],[id]⟩else none
     |_=>none
    | .view T a id i n'=>match h id with
     | .cells b s bL=>if b=T/\s=a/\eO P e=some a/\0<=n/\n.toNat<n'/\(bL[i+n.toNat]?).isSome=true then some ⟨.ptr a id (i+n.toNat) 0,[],[id]⟩else none
     |_=>none
    | .row N d=>match d[n.toNat]? with
     |some p=>if eO P e=some 1/\0<=n/\TW (rM (yZ n) N)=some true then some ⟨.iZ 1 [[CM p]] 0 0,[],[]⟩else none
     |none=>none
    |_=>none
   |some (.array len e)=>match eO P e with
    |some s=>if 0<=n/\n.toNat<len then match ρ x with
      | .ptr a id i off=>match h id with
       | .cells _ f bL=>if f=a/\(bL[i]?).isSome=true then some ⟨.ptr a id i (off+n.toNat*s),[],[id]⟩else none
       |_=>none
      | .iZ a bL i off=>some ⟨.iZ a bL i (off+n.toNat*s),[],[]⟩
      |_=>none
     else none
    |none=>none
   |_=>none
  |_=>none
def aaf [Bk] (P:Program) (t:TypeId) (x:Operand) (ix:Operand) (ρ:Operand->AV) (h:AH) (nx:Nat):Option AR :=
 match ρ ix with
  | .c (.int _ n)=>match P.underlying t with
   |some (.array len e)=>match eO P e with
    |some s=>match ρ x with
     | .agg cs=>if 0<=n/\n.toNat<len then match mJ P e cs (n.toNat*s)with
       |some v=>some ⟨v,[],[]⟩
       |none=>none
      else none
     |_=>none
    |none=>none
   |some .string=>match ρ x with
    | .c (.string s)=>match s[n.toNat]? with
     |some b=>if 0<=n then some ⟨.c (.int .u8 b.toNat),[],[]⟩else none
     |none=>none
    |_=>none
   |_=>none
  |_=>none
def NI [Bk] (P:Program) (x:Operand) (k:Nat) (ρ:Operand->AV) (h:AH) (nx:Nat):Option AR :=
 match ρ x with
  | .bG vs=>match vs[k]? with
   |some v=>some ⟨v,[],[]⟩
   |none=>none
  |_=>none
def A3 [Bk] (P:Program) (x:Operand) (a:TypeId) (ok:Bool) (ρ:Operand->AV) (h:AH) (nx:Nat):Option AR:=none
def aae [Bk] (P:Program) (t:TypeId) (x:Operand) (ρ:Operand->AV) (h:AH) (nx:Nat):Option AR:=none
def aee [Bk] (P:Program) (x:Operand) (a:Bool) (ρ:Operand->AV) (h:AH) (nx:Nat):Option AR:=none
def NH [Bk] (P:Program) (rs:Option Operand) (ρ:Operand->AV) (h:AH) (nx:Nat):Option AR:=none
def PH [Bk] (P:Program) (t:TypeId) (x:Operand) (k:Operand) (y:Operand) (ρ:Operand->AV) (h:AH) (nx:Nat):Option AR:=none
def PG [Bk] (P:Program) (t:TypeId) (x:Operand) (k:Operand) (ok:Bool) (ρ:Operand->AV) (h:AH) (nx:Nat):Option AR:=none
def aal [Bk] (P:Program) (args:Array Operand) (argTypes:Array TypeId) (ρ:Operand->AV) (h:AH) (nx:Nat):Option AR :=
 match args.toList,argTypes.toList with
   |[x],[t]=>match P.underlying t with
    |some (.slice _)=>match jX h (ρ x)with
     |some bL=>some ⟨.c (.int .i64 bL.length),[],uC (ρ x)⟩
     |none=>match ρ x with
      | .row n _=>some ⟨CM n,[],[]⟩
      | .view _ _ _ _ n=>some ⟨.c (.int .i64 n),[],[]⟩
      |_=>none
    |some .string=>match ρ x with
     | .c (.string s)=>some ⟨.c (.int .i64 s.size),[],[]⟩
     |_=>none
    |_=>none
   |_,_=>none
def I6 [Bk] (P:Program) (args:Array Operand) (argTypes:Array TypeId) (ρ:Operand->AV) (h:AH) (nx:Nat):Option AR :=
 match args.toList,argTypes.toList with
   |[x,y],[t,a]=>if a=t then vA P t (ρ x) (ρ y) h nx else none
   |_,_=>none
def aak [Bk] (P:Program) (args:Array Operand) (argTypes:Array TypeId) (ρ:Operand->AV) (h:AH) (nx:Nat):Option AR :=
 match args.toList with
   |[x,y]=>match ρ x,ρ y with
    | .c (.int k p),.c (.int _ q)=>some ⟨.c (.int k (if q > p then q else p)),[],[]⟩
    |u,v=>match toP u,toP v with
     |some p,some q=>match L5 p q with
      |some r=>some ⟨CM r,[],[]⟩
      |none=>none
     |_,_=>none
   |[x,y,z]=>match ρ x,ρ y,ρ z with
    | .c (.int k p),.c (.int _ q),.c (.int _ r)=>some ⟨.c (.int k (if r > (if q > p then q else p)then r else(if q > p then q else p))),[],[]⟩
    |_,_,_=>none
   |_=>none
def aaj [Bk] (P:Program) (args:Array Operand) (argTypes:Array TypeId) (ρ:Operand->AV) (h:AH) (nx:Nat):Option AR :=
 match args.toList with
   |[x,y]=>match ρ x,ρ y with
    | .c (.int k p),.c (.int _ q)=>some ⟨.c (.int k (if q<p then q else p)),[],[]⟩
    |u,v=>match toP u,toP v with
     |some p,some q=>match L4 p q with
      |some r=>some ⟨CM r,[],[]⟩
      |none=>none
     |_,_=>none
   |_=>none
def NK [Bk] (P:Program) (args:Array Operand) (argTypes:Array TypeId) (ρ:Operand->AV) (h:AH) (nx:Nat):Option AR:=none
def aln [Bk] (P:Program) (b:Builtin) (args:Array Operand) (argTypes:Array TypeId) (ρ:Operand->AV) (h:AH) (nx:Nat):Option AR :=
 match b with
  | .len=>aal P args argTypes ρ h nx
  | .append=>I6 P args argTypes ρ h nx
  | .max=>aak P args argTypes ρ h nx
  | .min=>aaj P args argTypes ρ h nx
  | .clear=>NK P args argTypes ρ h nx
  |_=>none
def ali [Bk] (P:Program) (op:Op) (ρ:Operand->AV) (h:AH) (nx:Nat):Option AR :=
 match op with
 | .move x=>alm P x ρ h nx
 | .assign x=>afG P x ρ h nx
 | .pick c x y=>aed P c x y ρ h nx
 | .alloc e=>aam P e ρ h nx
 | .box e x=>ajl P e x ρ h nx
 | .build t a=>aah P t a ρ h nx
 | .buildSlice t len a=>A4 P t len a ρ h nx
 | .load t x=>aef P t x ρ h nx
 | .store t x y=>aac P t x y ρ h nx
 | .nilCheck x=>I4 P x ρ h nx
 | .binOp op t x y _=>aai P op t x y ρ h nx
 | .unOp op _ x=>aec P op x ρ h nx
 | .convert s d x=>NJ P s d x ρ h nx
 | .makeInterface t x=>wT P t x ρ h nx
 | .makeFunc fn first f=>I5 P fn first f ρ h nx
 | .makeSlice t x y=>E6 P t x y ρ h nx
 | .slice t x l m j=>aad P t x l m j ρ h nx
 | .fieldAddr t x k=>E8 P t x k ρ h nx
 | .field t x k=>aag P t x k ρ h nx
 | .indexAddr t x ix=>E7 P t x ix ρ h nx
 | .index t x ix=>aaf P t x ix ρ h nx
 | .extract x k=>NI P x k ρ h nx
 | .typeAssert x _ g ok=>A3 P x g ok ρ h nx
 | .range t x=>aae P t x ρ h nx
 | .next x i=>aee P x i ρ h nx
 | .makeMap _ rs=>NH P rs ρ h nx
 | .insert t x k y=>PH P t x k y ρ h nx
 | .lookup t x k ok=>PG P t x k ok ρ h nx
 | .call { callee:=.builtin b,args,argTypes }=>aln P b args argTypes ρ h nx
 |_=>none
theorem aeb [Bk] (P:Program) (op:Op) (ρ:Operand->AV) (h:AH) (nx:Nat):ali P op ρ h nx=jI P op ρ h nx:=by
 cases op<;>rfl
inductive Tr where
 |leaf
 |node (v:dC) (l r:Tr)
def Tr.get:Tr->AH
 | .leaf,_=>.no
 | .node v _ _,0=>v
 | .node _ l r,k+1=>if k%2=0 then l.get (k/2)else r.get (k/2)
def Tr.put:Nat->Tr->Nat->dC->Tr
 |0,t,_,_=>t
 |_+1,.leaf,0,b=>.node b .leaf .leaf
 |_+1,.node _ l r,0,b=>.node b l r
 |f+1,.leaf,k+1,b=>if k%2=0 then .node .no (Tr.put f .leaf (k/2) b) .leaf else .node .no .leaf (Tr.put f .leaf (k/2) b)
 |f+1,.node v l r,k+1,b=>if k%2=0 then .node v (Tr.put f l (k/2) b) r else .node v l (Tr.put f r (k/2) b)
theorem Tr.nG [Bk] [Ev] (j:Nat):Tr.leaf.get j=.no:=by cases j<;>rfl
def Tr.rT [Bk] [Ev] (b:dC):∀(f:Nat) (t:Tr) (k j:Nat),k<f->(Tr.put f t k b).get j=if j=k then b else t.get j
 |0,t,k,j,h=>by omega
 |f+1,.leaf,0,j,h=>by
  cases j<;>simp_all[Tr.put,Tr.get]
 |f+1,.node v l r,0,j,h=>by
  cases j<;>simp_all[Tr.put,Tr.get]
 |f+1,.leaf,k+1,j,h=>by
  simp only[Tr.put];split
  .rename_i c
   cases j with
   |zero=>rw[if_neg (by omega)];rfl
   |succ j =>
    simp only[Tr.get];split
    .rename_i a
     rw[Tr.rT b f .leaf (k/2) (j/2) (by omega),Tr.nG];by_cases e:j=k
     .subst e;simp
     .rw[if_neg (by omega),if_neg (by omega)]
    .rename_i a
     rw[if_neg (by omega)];try simp[Tr.nG]
  .rename_i c
   cases j with
   |zero=>rw[if_neg (by omega)];rfl
   |succ j =>
    simp only[Tr.get];split
    .rename_i a
     rw[if_neg (by omega)];try simp[Tr.nG]
    .rename_i a
     rw[Tr.rT b f .leaf (k/2) (j/2) (by omega),Tr.nG];by_cases e:j=k
     .subst e;simp
     .rw[if_neg (by omega),if_neg (by omega)]
 |f+1,.node v l r,k+1,j,h=>by
  simp only[Tr.put];split
  .rename_i c
   cases j with
   |zero=>rw[if_neg (by omega)];rfl
   |succ j =>
    simp only[Tr.get];split
    .rename_i a
     rw[Tr.rT b f l (k/2) (j/2) (by omega)];by_cases e:j=k
     .subst e;simp
     .rw[if_neg (by omega),if_neg (by omega)]
    .rename_i a
     rw[if_neg (by omega)]
  .rename_i c
   cases j with
   |zero=>rw[if_neg (by omega)];rfl
   |succ j =>
    simp only[Tr.get];split
    .rename_i a
     rw[if_neg (by omega)]
    .rename_i a
     rw[Tr.rT b f r (k/2) (j/2) (by omega)];by_cases e:j=k
     .subst e;simp
     .rw[if_neg (by omega),if_neg (by omega)]
def Tr.set (t:Tr) (k:Nat) (b:dC):Tr:=Tr.put (k+1) t k b
def Tr.adH [Bk] [Ev] (t:Tr) (k:Nat) (b:dC):(t.set k b).get=gO t.get k b:=by
 funext j;rw[Tr.set,Tr.rT b _ _ _ _ (by omega)];rfl
def Tr.cJ (t:Tr):List (Nat×dC)->Tr
 |[]=>t
 |(i,b)::r=>(t.set i b).cJ r
theorem Tr.EG [Bk] [Ev]:∀(u:List (Nat×dC)) (t:Tr),(t.cJ u).get=gE t.get u
 |[],t=>rfl
 |(i,b)::r,t=>by simp only[Tr.cJ,gE];rw[Tr.EG r,Tr.adH]
inductive Ft where
 |leaf
 |node (v:AV) (l r:Ft)
def Ft.get:Ft->Nat->Option AV
 | .leaf,_=>none
 | .node v _ _,0=>some v
 | .node _ l r,k+1=>if k%2=0 then l.get (k/2)else r.get (k/2)
def Ft.put:Nat->Ft->Nat->AV->Ft
 |0,t,_,_=>t
 |_+1,.leaf,_,_=>.leaf
 |_+1,.node _ l r,0,b=>.node b l r
 |f+1,.node v l r,k+1,b=>if k%2=0 then .node v (Ft.put f l (k/2) b) r else .node v l (Ft.put f r (k/2) b)
theorem Ft.nG [Bk] [Ev] (j:Nat):Ft.leaf.get j=none:=by cases j<;>rfl
def Ft.rT [Bk] [Ev] (b:AV):∀(f:Nat) (t:Ft) (k j:Nat),k<f->(Ft.put f t k b).get j=if j=k then(t.get k).map (fun _=>b)else t.get j
 |0,t,k,j,h=>by omega
 |f+1,.leaf,k,j,h=>by simp[Ft.put,Ft.nG]
 |f+1,.node v l r,0,j,h=>by
  cases j<;>simp_all[Ft.put,Ft.get]
 |f+1,.node v l r,k+1,j,h=>by
  simp only[Ft.put];split
  .rename_i a
   cases j with
   |zero=>rw[if_neg (by omega)];rfl
   |succ j =>
    simp only[Ft.get];split
    .rename_i c
     rw[Ft.rT b f l (k/2) (j/2) (by omega)];by_cases e:j=k
     .subst e;simp[a]
     .rw[if_neg (by omega),if_neg (by omega)]
    .rename_i c
     rw[if_neg (by omega)]
  .rename_i a
   cases j with
   |zero=>rw[if_neg (by omega)];rfl
   |succ j =>
    simp only[Ft.get];split
    .rename_i c
     rw[if_neg (by omega)]
    .rename_i c
     rw[Ft.rT b f r (k/2) (j/2) (by omega)];by_cases e:j=k
     .subst e;simp[a]
     .rw[if_neg (by omega),if_neg (by omega)]
def Ft.set (t:Ft) (d:Option Tmp) (b:AV):Ft:=match d with
 |none=>t
 |some k=>Ft.put (k+1) t k b
structure Ft.G where
 f:Ft->Option AV
structure Ft.H where
 f:Ft->AV->Ft
def Ft.look:Nat->Nat->Ft.G
 |0,_=>⟨fun _=>none⟩
 |n+1,k=>if k=0 then⟨fun t=>Ft.casesOn t none (fun v _ _=>some v)⟩else if(k-1)%2=0 then⟨fun t=>Ft.casesOn t none (fun _ l _=>(Ft.look n ((k-1)/2)).f l)⟩else⟨fun t=>Ft.casesOn t none (fun _ _ r=>(Ft.look n ((k-1)/2)).f r)⟩
def Ft.lay:Nat->Nat->Ft.H
 |0,_=>⟨fun t _=>t⟩
 |n+1,k=>if k=0 then⟨fun t b=>Ft.casesOn t .leaf (fun _ l r=>.node b l r)⟩else if(k-1)%2=0 then⟨fun t b=>Ft.casesOn t .leaf (fun v l r=>.node v ((Ft.lay n ((k-1)/2)).f l b) r)⟩else⟨fun t b=>Ft.casesOn t .leaf (fun v l r=>.node v l ((Ft.lay n ((k-1)/2)).f r b))⟩
section
variable [Bk] [Ev]
def Ft.look_eq:∀(n k:Nat) (t:Ft),k<n->(Ft.look n k).f t=t.get k
 |0,k,t,h=>by omega
 |n+1,0,t,h=>by cases t<;>rfl
 |n+1,k+1,t,h=>by
  have e:k+1-1=k:=rfl;simp only[Ft.look,Nat.add_one_ne_zero,if_false,e];split
  .rename_i a
   cases t with
   |leaf=>rfl
   |node v l r=>simp only[Ft.get,a,if_true];exact Ft.look_eq n _ _ (by omega)
  .rename_i a
   cases t with
   |leaf=>rfl
   |node v l r=>simp only[Ft.get,a,if_false];exact Ft.look_eq n _ _ (by omega)
def Ft.abP (b:AV):∀(n k:Nat) (t:Ft),k<n->(Ft.lay n k).f t b=Ft.put n t k b
 |0,k,t,h=>by omega
 |n+1,0,t,h=>by cases t<;>rfl
 |n+1,k+1,t,h=>by
  have e:k+1-1=k:=rfl;simp only[Ft.lay,Nat.add_one_ne_zero,if_false,e];split
  .rename_i a
   cases t with
   |leaf=>rfl
   |node v l r=>simp only[Ft.put,a,if_true];rw[Ft.abP b n _ _ (by omega)]
  .rename_i a
   cases t with
   |leaf=>rfl
   |node v l r=>simp only[Ft.put,a,if_false];rw[Ft.abP b n _ _ (by omega)]
def Ft.gt (t:Ft) (k:Nat):Option AV:=(Ft.look (k+1) k).f t
def Ft.st (t:Ft) (d:Option Tmp) (b:AV):Ft:=match d with
 |none=>t
 |some k=>(Ft.lay (k+1) k).f t b
def Ft.adF (t:Ft) (k:Nat):t.gt k=t.get k:=Ft.look_eq _ _ _ (by omega)
def Ft.aoX (t:Ft) (d:Option Tmp) (b:AV):t.st d b=t.set d b:=by
 cases d with
 |none=>rfl
 |some k=>exact Ft.abP b _ _ _ (by omega)
def AU:List AV->List AV
 |[]=>[]
 |[x]=>[x]
 |x::_::l=>x::AU l
def Of:List AV->List AV
 |[]=>[]
 |[_]=>[]
 |_::y::l=>y::Of l
def Ph:∀(l:List AV) (k:Nat),(AU l)[k]?=l[2*k]?
 |[],k=>by simp[AU]
 |[x],0=>rfl
 |[x],k+1=>by simp[AU]
 |x::_::l,0=>rfl
 |x::y::l,k+1=>by
  simp only[AU,a4h];rw[Ph l k,show 2*(k+1)=2*k+2 by omega];rfl
def TM:∀(l:List AV) (k:Nat),(Of l)[k]?=l[2*k+1]?
 |[],k=>by simp[Of]
 |[x],k=>by simp[Of]
 |x::y::l,0=>rfl
 |x::y::l,k+1=>by
  simp only[Of,a4h];rw[TM l k,show 2*(k+1)=2*k+1+1 by omega];rfl
def Ft.of:Nat->List AV->Ft
 |0,_=>.leaf
 |_+1,[]=>.leaf
 |f+1,x::l=>.node x (Ft.of f (AU l)) (Ft.of f (Of l))
def Pg:∀(l:List AV),(AU l).length<=l.length
 |[]=>by simp[AU]
 |[x]=>by simp[AU]
 |x::y::l=>by simp[AU];have:=Pg l;omega
def TL:∀(l:List AV),(Of l).length<=l.length
 |[]=>by simp[Of]
 |[x]=>by simp[Of]
 |x::y::l=>by simp[Of];have:=TL l;omega
def Ft.CA:∀(f:Nat) (l:List AV) (k:Nat),l.length<=f->(Ft.of f l).get k=l[k]?
 |0,l,k,h=>by
  simp_all[Ft.of,Ft.nG]
 |f+1,[],k,h=>by simp[Ft.of,Ft.nG]
 |f+1,x::l,0,h=>rfl
 |f+1,x::l,k+1,h=>by
  have b:=Pg l;have a:=TL l;simp only[a0t]at h;simp only[Ft.of,Ft.get,a4h];split
  .rw[Ft.CA f _ _ (by omega),Ph];congr 1;omega
  .rw[Ft.CA f _ _ (by omega),TM];congr 1;omega
def FR (f:List AV) (t:Ft):Prop:=∀k,t.get k=f[k]?
def FR.set {f:List AV} {t:Ft} (h:FR f t) (d:Option Tmp) (v:AV):FR (qY f d v) (t.set d v):=by
 cases d with
 |none=>exact h
 |some d =>
  intro k;simp only[Ft.set,qY];rw[Ft.rT v _ _ _ _ (by omega),a0r];by_cases e:k=d
  .subst e
   rw[if_pos rfl,if_pos rfl,h k];grind
  .rw[if_neg e,if_neg (fun x=>e x.symm)]
   exact h k
def FR.st {f:List AV} {t:Ft} (h:FR f t) (d:Option Tmp) (v:AV):FR (qY f d v) (t.st d v):=by rw[Ft.aoX];exact h.set d v
def qP (t:Ft):Operand->AV
 | .tmp k=>match t.gt k with|some v=>v|none=>.undef
 | .const v=>SC v
 | .global g=>.c (.pointer (some ⟨g,0,none⟩))
 | .func k=>.fn (.func k) [] []
def FR.ev {f:List AV} {t:Ft} (h:FR f t):eJ f=qP t:=by
 funext o;cases o with
 |tmp k =>
  simp only[eJ,qP,List.getD,Ft.adF,h k];grind
 |_=>rfl
end
structure RT (α:Type) where
 a:α
 t:Tr
 n:Nat
 rd:List Nat
 wr:List Nat
abbrev MT (α:Type):=Tr->Nat->Option (RT α)
def Fj (R:α->β->Prop) (x:M α) (y:MT β):Prop:=∀t n r,y t n=some r->∃a,x t.get n=some ⟨a,r.t.get,r.n,r.rd,r.wr⟩/\R a r.a
def eN:MT α:=fun _ _=>none
def fH (a:α):MT α:=fun t n=>some ⟨a,t,n,[],[]⟩
def jV (x:MT α) (k:α->MT β):MT β:=fun t n =>
 match x t n with
 |none=>none
 |some r=>match k r.a r.t r.n with
  |none=>none
  |some s=>some ⟨s.a,s.t,s.n,r.rd++s.rd,r.wr++s.wr⟩
def iR [Bk] [Ev] {R:α->β->Prop} {x:M α}:Fj R x eN:=fun t n r h=>by cases h
def jJ [Bk] [Ev] {R:α->β->Prop} {a:α} {b:β} (h:R a b):Fj R (mpure a) (fH b):=fun t n r c=>by cases c;exact⟨a,rfl,h⟩
def nD [Bk] [Ev] {e d:Type} {R:α->β->Prop} {S:e->d->Prop} {x:M α} {y:MT β} {k:α->M e} {l:β->MT d} (i:Fj R x y) (j:∀a b,R a b->Fj S (k a) (l b)):Fj S (oP x k) (jV y l):=by
 intro t n r h;unfold jV at h;cases g:y t n with
 |none=>simp_all
 |some q =>
  rw[g]at h;simp only at h;cases f:l q.a q.t q.n with
  |none=>simp_all
  |some s =>
   rw[f]at h;cases h;obtain⟨a,e1,m⟩:=i t n q g;obtain⟨c,e2,o⟩:=j a q.a m q.t q.n s f;simp_all[oP]
section
variable {P:Program}
def I1 [Bk] (P:Program) (op:Op) (ρ:Operand->AV) (h:AH) (nx:Nat):Option AR :=
 match ali P op ρ h nx with
 |some r=>some r
 |none=>iC P op ρ h nx
theorem aja [Bk] (op:Op) (ρ:Operand->AV) (h:AH) (nx:Nat):I1 P op ρ h nx=CE P op ρ h nx:=by grind[I1,CE,aeb]
def alg [Bk] (P:Program) (op:Op) (f:Ft):MT AV:=fun t n =>
 match I1 P op (qP f) t.get n with
 |none=>none
 |some r=>some ⟨r.v,t.cJ r.cJ,if(r.cJ.map (·.1)).contains n then n+1 else n,r.wX,r.cJ.map (·.1)⟩
def ajN [Bk] [Ev] (op:Op) {f:List AV} {g:Ft} (a:FR f g):Fj Eq (Ov P op f) (alg P op g):=by
 intro t n r h;unfold alg at h;unfold Ov;rw[a.ev];grind[aja,Tr.EG]
def jZ [Bk] (P:Program) (call:Fn->List AV->MT AV) (o:Oper) (f:Ft):MT AV :=
 match mC P (qP f) o.op with
 |some (k,args)=>call (.func k) args
 |none=>match pK (qP f) o.op with
  |some (id,args)=>call (.yield id) args
  |none=>alg P o.op f
def qX (ops:Array Oper) (o:Oper) (f:Ft):Option Bool :=
 match o.guard with
 |none=>some true
 |some (j,a)=>match (ops[j]?).bind (·.dst)with
  |none=>some false
  |some d=>match f.gt d with
   |some (.c (.bool b))=>some (b==a)
   |some .undef=>some false
   |none=>some false
   |_=>none
def FR.guard [Bk] [Ev] {f:List AV} {g:Ft} (h:FR f g) (ops:Array Oper) (o:Oper):lY ops o f=qX ops o g:=by
 unfold lY qX;cases o.guard with
 |none=>rfl
 |some p =>
  obtain⟨j,a⟩:=p;simp only;cases(ops[j]?).bind (·.dst)with
  |none=>rfl
  |some d =>
   simp only[Ft.adF,h d];grind
def A0 [Bk] (P:Program) (call:Fn->List AV->MT AV) (ops:Array Oper):List Oper->Ft->MT Ft
 |[],f=>fH f
 |o::l,f=>match qX ops o f with
  |some true=>jV (jZ P call o f) fun v=>A0 P call ops l (f.st o.dst v)
  |some false=>A0 P call ops l (f.st o.dst .undef)
  |none=>eN
def TQ (x:MT AV):MT (AV×wV):=fun t n =>
 match x t n with
 |none=>none
 |some r=>some ⟨(r.a,⟨r.a,(r.wr++List.range' n (r.n-n)).map fun id=>(id,r.t.get id),r.rd,n,r.n,false⟩),r.t,r.n,r.rd,r.wr⟩
def yB [Bk] (P:Program) (call:Fn->List AV->MT AV) (ops:Array Oper):List Oper->Ft->MT (Ft×List wV)
 |[],f=>fH (f,[])
 |o::l,f=>match qX ops o f with
  |some true=>jV (TQ (jZ P call o f)) fun v=>jV (yB P call ops l (f.st o.dst v.1)) fun q=>fH (q.1,v.2::q.2)
  |some false=>jV (yB P call ops l (f.st o.dst .undef)) fun q=>fH (q.1,⟨.undef,[],[],0,0,true⟩::q.2)
  |none=>eN
def Io [Bk] (P:Program) (call:Fn->List AV->MT AV) (ops:Array Oper) (f:Ft):MT Ft :=
 if P.follows .mixedOrders then jV (yB P call ops ops.toList f) fun q=>if Pk ops q.2 then fH q.1 else eN else eN
def Cx (x:MT α):MT α:=fun t n =>
 match x t n with
 |none=>none
 |some r=>some ⟨r.a,r.t,r.n,(r.rd.filter fun id=>!(decide (n<=id)&&decide (id<r.n))).eraseDups,(r.wr.filter fun id=>!(decide (n<=id)&&decide (id<r.n))).eraseDups⟩
def Ft.list (t:Ft):Nat->Nat->Option (List AV)
 |0,_=>none
 |n+1,k=>match t.gt k with
  |none=>some []
  |some v=>match Ft.list t n (k+1)with
   |none=>none
   |some l=>some (v::l)
def FR.list [Bk] [Ev] {f:List AV} {t:Ft} (h:FR f t):∀(n k:Nat) (l:List AV),Ft.list t n k=some l->l=f.drop k
 |0,k,l,a=>by cases a
 |n+1,k,l,a=>by
  simp only[Ft.list,Ft.adF,h k]at a;cases c:f[k]? with
  |none =>
   simp_all
  |some v =>
   rw[c]at a;simp only at a;cases b:Ft.list t n (k+1)with
   |none=>simp_all
   |some r =>
    rw[b]at a;cases a;have:=FR.list h n (k+1) r b
    grind[List.drop_eq_getElem_cons]
def jR [Bk] (P:Program) (call:Fn->List AV->MT AV) (tp:Bool):Nat->Code->Ft->MT (AX×Ft)
 |0,_,_=>eN
 |n+1,.skip,f=>fH (.normal,f)
 |n+1,.region _ ops draw,f=>jV (if draw then Io P call ops f else A0 P call ops ops.toList f) fun d=>fH (.normal,d)
 |n+1,.seq x y,f=>jV (jR P call tp n x f) fun q=>match q.1 with
  | .normal=>jR P call tp n y q.2
  |_=>fH q
 |n+1,.cond c x y,f=>match qP f c with
  | .c (.bool b)=>jR P call tp n (if b then x else y) f
  |_=>eN
 |n+1,.block id c,f=>jV (jR P call tp n c f) fun q=>match q.1 with
  | .exit a=>if a=id then fH (.normal,q.2)else fH q
  |_=>fH q
 |n+1,.loop c,f=>jV (jR P call tp n c f) fun q=>match q.1 with
  | .normal=>jR P call tp n (.loop c) q.2
  |_=>fH q
 |n+1,.scope c,f=>jR P call tp n c f
 |n+1,.label _,f=>fH (.normal,f)
 |n+1,.exit id,f=>fH (.exit id,f)
 |n+1,.ret,f=>fH (.ret,f)
 |n+1,_,_=>eN
def ac0 (P:Program) (f:Ft) (h:AH):ResultVar->Option AV
 | .tmp t=>some ((f.gt t).getD .undef)
 | .cell t a=>ad3 P a h ((f.gt t).getD .undef)
def FC (P:Program) (fn:Func) (f:Ft) (h:AH):Option AV :=
 (fn.results.toList.mapM (ac0 P f h)).map CW
def Tj (f:Ft):ResultVar->List Nat
 | .tmp _=>[]
 | .cell t _=>aa3 ((f.gt t).getD .undef)
def Ra (f:Ft) (l:List ResultVar):List Nat:=l.flatMap (Tj f)
def aaX (P:Program) (fn:Func) (f:Ft):MT AV:=fun t n =>
 match FC P fn f t.get with
 |none=>none
 |some v=>some ⟨v,t,n,Ra f fn.results.toList,[]⟩
def ab1 (P:Program) (a:TypeId) (x:AV):MT AV:=fun t n =>
 match P.underlying a with
 |some (.slice e)=>match P.info? e with
  |some i=>match i.zero,jX t.get x with
   |some z,some bL=>if z.cells.size=i.size/\0<i.size/\(bL.all fun q=>q.length==i.size)=true/\MM x i.size=true/\bL.length*i.bytes<=140737488355328/\bL.length<=1099511627776/\lN t.get n=true/\lN t.get (n+1)=true/\(uC x).contains n=false then
     some ⟨.own e i.size (n+1) 0 bL.length,t.cJ [(n,.dead),(n+1,.cells e i.size bL)],n+2,n::(n+1)::uC x,[n,n+1]⟩else none
   |_,_=>none
  |none=>none
 |_=>none
def adZ [Bk] (P:Program) (a:TypeId) (x:AV):MT AV:=fun t n =>
 match P.underlying a with
 |some (.slice e)=>match P.info? e with
  |some i=>match i.zero,nC t.get x with
   |some z,some (b,base,cJ,tail,N)=>if z.cells.size=i.size/\0<i.size/\b=i.size/\Xn N i.bytes=true/\lN t.get n=true/\lN t.get (n+1)=true/\(Lj x).contains n=false then
     some ⟨.cZ e i.size (n+1) N,t.cJ [(n,.dead),(n+1,.sc e i.size base cJ tail N)],n+2,n::(n+1)::Lj x,[n,n+1]⟩else none
   |_,_=>none
  |none=>none
 |_=>none
def LM [Bk] (P:Program) (a:TypeId) (x:AV):MT AV:=fun t n =>
 match ab1 P a x t n with
 |some r=>some r
 |none=>adZ P a x t n
def EZ [Bk] (P:Program) (L:Nat) (call:Fn->List AV->MT AV) (k:FuncId) (args:List AV):MT AV :=
 match P.funcs[k]? with
  |none=>eN
  |some fn=>match rQ fn,args with
   |some t,[x]=>LM P t x
   |_,_=>match fn.body with
    |none=>eN
    | some c => if fn.name == "runtime.NumGoroutine" then eN else
     Cx (jV (jR P call true L c (Ft.of (args.length+fn.ntmps) (args++List.replicate (fn.ntmps-args.length) .undef))) fun q=>match q.1 with
      | .exit _=>eN
      |_=>aaX P fn q.2)
def knT [Bk] (k:FuncId) (args:List AV):MT AV:=fun t n =>
 match AL (vR t.get 16) args with
 |some (as,ids)=>match Xp k as Bk.bR with
  |some r=>bif ID 8 r then some ⟨r,t,n,ids,[]⟩else some ⟨r,t.cJ (ids.map fun id=>(id,dC.dead)),n,ids,ids⟩
  |none=>none
 |none=>none
def CH [Bk] (P:Program) (L:Nat):Nat->Fn->List AV->MT AV
 |0,_,_=>eN
 |d+1,.func k,args=>match Xr P k args with
  |some v=>fH v
  |none=>if knB P k=true then knT k args else EZ P L (CH P L d) k args
 |_+1,_,_=>eN
variable {cm:Fn->List AV->M AV} {ct:Fn->List AV->MT AV}
section
variable [Bk] [Ev]
def S6 (b:∀k args,Fj Eq (cm k args) (ct k args)) (o:Oper) {f:List AV} {g:Ft} (a:FR f g):Fj Eq (wP P cm o f) (jZ P ct o g):=by
 unfold wP jZ;rw[a.ev];cases mC P (qP g) o.op with
 |some p=>simp_all
 |none =>
  cases pK (qP g) o.op with
  |some p=>simp_all
  |none=>exact ajN _ a
def ajM {x:M AV} {y:MT AV} (h:Fj Eq x y):Fj Eq (abE x) (TQ y):=by
 intro t n r b;unfold TQ at b;cases c:y t n with
 |none=>simp_all
 |some q =>
  rw[c]at b;cases b;obtain⟨a,e1,rfl⟩:=h t n q c;simp_all[abE]
def apd {ops:Array Oper} {k:Nat} {o:Oper} {l:List Oper} (h:ops.toList.drop k=o::l):ops[k]?=some o/\ops.toList.drop (k+1)=l:=by
 have a:ops.toList[k]?=some o:=by
  have:=congrArg (·[0]?) h
  grind
 refine⟨by simp_all,?_⟩;have:=congrArg (List.drop 1) h;simpa[List.drop_drop,Nat.add_comm]using this
def PV (c:∀k args,Fj Eq (cm k args) (ct k args)) (ops:Array Oper):∀(l:List Oper) (k:Nat) (f:List AV) (g:Ft),ops.toList.drop k=l->FR f g->Fj FR (Ss P cm ops (List.range' k l.length) f) (A0 P ct ops l g)
 |[],k,f,g,_,a=>jJ a
 |o::l,k,f,g,h,a=>by
  obtain⟨i,d⟩:=apd h;simp only[a0t,a38,Ss,A0,i];rw[a.guard];cases qX ops o g with
  |none=>exact iR
  |some b =>
   cases b
   .exact PV c ops l (k+1) _ _ d (a.st _ _)
   .exact nD (S6 c _ a) fun v u e=>by subst e;exact PV c ops l (k+1) _ _ d (a.st _ _)
def Fz (d:∀k args,Fj Eq (cm k args) (ct k args)) (ops:Array Oper):∀(l:List Oper) (k:Nat) (f:List AV) (g:Ft),ops.toList.drop k=l->FR f g->Fj (fun a b=>FR a.1 b.1/\a.2=b.2) (yC P cm ops (List.range' k l.length) f) (yB P ct ops l g)
 |[],k,f,g,_,c=>jJ ⟨c,rfl⟩
 |o::l,k,f,g,i,c=>by
  obtain⟨j,h⟩:=apd i;simp only[a0t,a38,yC,yB,j];rw[c.guard];cases qX ops o g with
  |none=>exact iR
  |some b =>
   cases b
   .exact nD (Fz d ops l (k+1) _ _ h (c.st _ _)) fun a b e=>jJ ⟨e.1,by simp_all⟩
   .exact nD (ajM (S6 d _ c)) fun v u e=>by
     subst e;exact nD (Fz d ops l (k+1) _ _ h (c.st _ _)) fun a b e=>jJ ⟨e.1,by simp_all⟩
def range_zero (n:Nat):List.range n=List.range' 0 n:=List.range_eq_range'
def af3 (d:∀k args,Fj Eq (cm k args) (ct k args)) (ops:Array Oper) {f:List AV} {g:Ft} (c:FR f g):Fj FR (NB P cm ops f) (Io P ct ops g):=by
 unfold NB Io;split
 .have:=Fz (P:=P) d ops ops.toList 0 f g (by simp) c
  rw[range_zero,show ops.size=ops.toList.length by simp];refine nD this fun a b e=>?_;rw[e.2];split
  .exact jJ e.1
  .exact iR
 .exact iR
def af4 {R:α->β->Prop} {x:M α} {y:MT β} (h:Fj R x y):Fj R (Ey x) (Cx y):=by
 intro t n r b;unfold Cx at b;cases c:y t n with
 |none=>simp_all
 |some q =>
  rw[c]at b;cases b;obtain⟨a,e1,d⟩:=h t n q c;simp_all[Ey]
def oM (h:∀k args,Fj Eq (cm k args) (ct k args)) {tp:Bool}:∀(n:Nat) (c:Code) (f:List AV) (g:Ft),FR f g->Fj (fun a b=>a.1=b.1/\FR a.2 b.2) (gP P cm tp n c f) (jR P ct tp n c g)
 |0,c,f,g,d=>by simp only[gP,jR];exact iR
 |n+1,c,f,g,d=>by
  cases c with
  |skip=>exact jJ ⟨rfl,d⟩
  |region id ops draw =>
   simp only[gP,jR];refine nD (R:=FR) ?_ fun a b e=>jJ ⟨rfl,e⟩
   cases draw
   .have:=PV (P:=P) h ops ops.toList 0 f g (by simp) d
    simp_all[range_zero]
   .exact af3 h _ d
  |seq x y =>
   simp only[gP,jR];refine nD (oM h n x f g d) fun a b e=>?_
   obtain⟨i,a2⟩:=a;obtain⟨b1,b2⟩:=b;simp only at e;obtain⟨rfl,e2⟩:=e;cases i with
   |normal=>exact oM h n y _ _ e2
   |_=>exact jJ ⟨rfl,e2⟩
  |cond c x y =>
   simp only[gP,jR];rw[d.ev];cases qP g c with
   |c v=>cases v with
    |bool b=>exact oM h n _ _ _ d
    |_=>exact iR
   |_=>exact iR
  |scope c=>simp only[gP,jR];exact oM h n c f g d
  |label l=>exact jJ ⟨rfl,d⟩
  |block id c =>
   simp only[gP,jR];refine nD (oM h n c f g d) fun a b e=>?_
   obtain⟨i,a2⟩:=a;obtain⟨b1,b2⟩:=b;simp only at e;obtain⟨rfl,e2⟩:=e;cases i with
   |exit j=>simp only;split<;>exact jJ ⟨rfl,e2⟩
   |_=>exact jJ ⟨rfl,e2⟩
  |loop c =>
   simp only[gP,jR];refine nD (oM h n c f g d) fun a b e=>?_
   obtain⟨i,a2⟩:=a;obtain⟨b1,b2⟩:=b;simp only at e;obtain⟨rfl,e2⟩:=e;cases i with
   |normal=>exact oM h n _ _ _ e2
   |_=>exact jJ ⟨rfl,e2⟩
  |exit id=>exact jJ ⟨rfl,d⟩
  |ret=>exact jJ ⟨rfl,d⟩
  |_=>simp only[gP,jR];exact iR
def FR.getD {f:List AV} {g:Ft} (h:FR f g) (t:Nat):f.getD t .undef=(g.gt t).getD .undef:=by rw[List.getD,Ft.adF,h t]
def ajL (fn:Func) {f:List AV} {g:Ft} (a:FR f g):Fj Eq (N5 P fn f) (aaX P fn g):=by
 have e1:∀h,fJ P fn f h=FC P fn g h:=by
  intro h;unfold fJ FC;have:AJ P f h=ac0 P g h:=by
   funext r;cases r with
   |tmp t=>simp only[AJ,ac0,a.getD]
   |cell t b=>simp only[AJ,ac0,a.getD]
  rw[this]
 have e2:∀l,Mu f l=Ra g l:=by
  intro l;unfold Mu Ra;congr 1;funext r;cases r with
  |tmp t=>rfl
  |cell t b=>simp only[Rb,Tj,a.getD]
 intro t n r c;grind[aaX,N5]
def aeA (a:TypeId) (x:AV):Fj Eq (xY P a x) (ab1 P a x):=by
 intro t n r b;grind[ab1,xY,Tr.EG]
def aaI (c:TypeId) (x:AV):Fj Eq (tT P c x) (LM P c x):=by
 intro t n r b;unfold LM at b;split at b
 .rename_i r' d
  cases b;obtain⟨a,e,rfl⟩:=aeA c x t n r d;simp_all[tT]
 .have h:∃a,xX P c x t.get n=some ⟨a,r.t.get,r.n,r.rd,r.wr⟩/\a=r.a:=by
   unfold adZ at b;unfold xX;split at b
   .rename_i e g
    split at b
    .rename_i i f
     split at b<;>grind[Tr.EG]
    simp_all
   simp_all
  grind[tT,IU]
def aeB (L:Nat) (d:∀k args,Fj Eq (cm k args) (ct k args)) (k:FuncId) (args:List AV):Fj Eq (CI P L cm k args) (EZ P L ct k args):=by
  have plain:∀fn:Func,Fj Eq (match fn.body with
    |none=>mX
    | some c => if fn.name == "runtime.NumGoroutine" then mX else
     Ey (oP (gP P cm true L c (args++List.replicate (fn.ntmps-args.length) .undef)) fun q=>match q.1 with
      | .exit _=>mX
      |_=>N5 P fn q.2)) (match fn.body with
    |none=>eN
    | some c => if fn.name == "runtime.NumGoroutine" then eN else
     Cx (jV (jR P ct true L c (Ft.of (args.length+fn.ntmps) (args++List.replicate (fn.ntmps-args.length) .undef))) fun q=>match q.1 with
      | .exit _=>eN
      |_=>aaX P fn q.2)):=by
   intro fn;cases fn.body with
   |none=>exact iR
   |some c =>
    simp only;split
    .exact iR
    .refine af4 (nD (oM d _ _ _ _ (fun k=>Ft.CA _ _ _ (by simp_all))) fun a b e=>?_)
     obtain⟨f,a2⟩:=a;obtain⟨b1,b2⟩:=b;simp only at e;obtain⟨rfl,e2⟩:=e;cases f with
     |exit id=>exact iR
     |_=>exact ajL (P:=P) _ e2
  simp only[CI,EZ];cases P.funcs[k]? with
  |none=>exact iR
  |some fn =>
   simp only;cases rQ fn with
   |none=>grind
   |some t =>
    cases args with
    |nil=>grind
    |cons x l =>
     cases l with
     |nil=>exact aaI _ _
     |cons y l=>grind
def anq (k:FuncId) (args:List AV):Fj Eq (knM k args) (knT k args):=by
 intro t n r a;grind[knT,knM,Tr.EG]
def Mf (L:Nat):∀d k args,Fj Eq (yD P L d k args) (CH P L d k args)
 |0,k,args=>iR
 |d+1,.func k,args=>by
  have a:=aeB (P:=P) L (Mf L d) k args;simp only[yD,CH];cases Xr P k args with
  |some v=>exact jJ rfl
  |none =>
   simp only;split
   .exact anq k args
   omega
 |d+1,.yield id,args=>iR
 |d+1,.method _,args=>iR
 |d+1,.methodOf _ _,args=>iR
 |d+1,.via _ _ _ _,args=>iR
end
def afD [Bk] [Ev] (c:lL P) {L d:Nat} {k:FuncId} {args:List AV} {t:Tr} {n:Nat} {r:RT AV} (b:CH P L d (.func k) args t n=some r):jA P k args t.get (fun v h'=>v=r.a/\h'=r.t.get):=by
 obtain⟨a,e,rfl⟩:=Mf L d (.func k) args t n r b;exact afC c e
end
end Mc
namespace Mc
variable {β α:Type} {o:Oper}
def quiet (E:wV):Bool:=E.cJ.isEmpty&&(E.wX.isEmpty&&Nat.ble E.hi E.lo)
def TU (E a:wV):Bool:=(EE E).all (fun id=>!Mm a id&&!(EE a).contains id)&&(EE a).all (fun id=>!Mm E id&&!(EE E).contains id)
def aou (ops:Array Oper) (o a:Oper):Bool :=
 (match o.dst with|none=>true|some d=>!(yK ops a).contains d)&&(match a.dst with|none=>true|some d=>!(yK ops o).contains d) &&
 (match o.dst,a.dst with|some d,some d'=>d != d'|_,_=>true)
def alH (ops:Array Oper):Bool :=
 let a:=A2 ops ops.size
 (List.range ops.size).all fun j=>(MB ops j).all (fun i=>decide (i<j))&&(a.getD j []).all (fun i=>decide (i<j)) &&
  (List.range j).all fun i=>(a.getD j []).contains i||(match ops[i]?,ops[j]? with|some o,some o'=>aou ops o o'|_,_=>false)
def Oh:Nat->List wV->List (Nat×wV)
 |_,[]=>[]
 |k,E::l=>bif quiet E then Oh (k+1) l else(k,E)::Oh (k+1) l
def FI (anc:List (List Nat)):List (Nat×wV)->Bool
 |[]=>true
 |p::l=>l.all (fun q=>(anc.getD q.1 []).contains p.1||TU p.2 q.2)&&FI anc l
def Pj (ops:Array Oper) (a:List wV):Bool:=alH ops&&(a.length==ops.size&&FI (A2 ops ops.size) (Oh 0 a))
def aj0 {E a:wV} (h:quiet E=true):TU E a=true:=by
 grind[quiet,Nat.ble_eq,EE,TU,Mm]
def ajZ {E a:wV} (h:quiet a=true):TU E a=true:=by
 grind[quiet,Nat.ble_eq,EE,TU,Mm]
def TY {anc:List (List Nat)}:∀(l:List wV) (k:Nat),(∀(j:Nat) (E:wV),l[j]?=some E->quiet E=false->(k+j,E)∈Oh k l)
 |[],k,j,E,h,_=>by simp at h
 |b::l,k,0,E,h,a=>by
  simp_all[Oh]
 |b::l,k,j+1,E,h,a=>by
  have c:=TY (anc:=anc) l (k+1) j E (by simp_all) a
  grind[Oh]
def O1 {anc:List (List Nat)}:∀(l:List wV) (k:Nat),FI anc (Oh k l)=true->∀(i j:Nat) (E a:wV),i<j->l[i]?=some E->l[j]?=some a->quiet E=false->quiet a=false->(anc.getD (k+j) []).contains (k+i)=true\/TU E a=true
 |[],k,h,i,j,E,a,_,d,_,_,_=>by simp at d
 |f::l,k,h,0,0,E,a,c,_,_,_,_=>by omega
 |f::l,k,h,i+1,0,E,a,c,_,_,_,_=>by omega
 |f::l,k,h,0,j+1,E,a,c,d,g,e,b=>by
  cases d;unfold Oh at h;rw[e]at h;simp only[cond_false,FI,a0e,a0i,a1w]at h;have:=h.1 _ (TY (anc:=anc) l (k+1) j a (by simp_all) b)
  grind
 |f::l,k,h,i+1,j+1,E,a,c,d,g,e,b=>by
  have h':FI anc (Oh (k+1) l)=true:=by
   grind[Oh,FI]
  have:=O1 l (k+1) h' i j E a (by omega) (by simp_all) (by simp_all) e b
  grind
def aix {ops:Array Oper} {a:List wV} (h:Pj ops a=true):Pk ops a=true:=by
 unfold Pj at h;simp only[a0e,beq_iff_eq]at h;obtain⟨c,u,q⟩:=h;unfold alH at c;unfold Pk;simp only[a0i,a0e,a0v]at c |-;intro j p;obtain⟨⟨s,a2⟩,r⟩:=c j p;refine⟨⟨s,a2⟩,?_⟩;intro i g;have b:=r i g;rw[a1w]at b |-;rcases b with b|b
 .grind
 have l:i<a.length:=by omega
 have k:j<a.length:=by omega
 have g1:a[i]?=some a[i]:=a0d l;have g2:a[j]?=some a[j]:=a0d k
 have mem:(((A2 ops ops.size).getD j []).contains i=true)\/TU a[i] a[j]=true:=by
  cases e:quiet a[i]with
  |true=>exact .inr (aj0 e)
  |false =>
   cases d:quiet a[j]with
   |true=>exact .inr (ajZ d)
   |false =>
    have:=O1 a 0 q i j _ _ g g1 g2 e d
    grind
 rcases mem with m|m
 .grind
 refine .inr ?_;rw[g1,g2];cases n:ops[i]? with
 |none=>simp_all
 |some o =>
  cases f:ops[j]? with
  |none=>grind
  |some t =>
   rw[n,f]at b;simp only at b |-;unfold aou at b;unfold TU at m;unfold Sx;rw[a0e]at m;rw[a0e,a0e];exact⟨⟨b,m.1⟩,m.2⟩
structure OF where
 f:Ft->AV
def qS:Operand->OF
 | .tmp k=>⟨fun t=>match (Ft.look (k+1) k).f t with|some v=>v|none=>.undef⟩
 | .const v=>⟨fun _=>SC v⟩
 | .global g=>⟨fun _=>.c (.pointer (some ⟨g,0,none⟩))⟩
 | .func k=>⟨fun _=>.fn (.func k) [] []⟩
def Ok:Option Tmp->Ft.H
 |none=>⟨fun t _=>t⟩
 |some k=>Ft.lay (k+1) k
def lO (r:Option AR):MT AV:=fun t n =>
 match r with
 |none=>none
 |some ⟨v,cJ,a⟩=>match cJ with
  |[]=>some ⟨v,t,n,a,[]⟩
  |u=>some ⟨v,t.cJ u,if(u.map (·.1)).contains n then n+1 else n,a,u.map (·.1)⟩
def oE (x:MT α) (k:α->MT β):MT β:=fun t n =>
 match x t n with
 |none=>none
 |some ⟨a,h,j,f,d⟩=>match k a h j with
  |none=>none
  |some ⟨b,g,i,e,c⟩=>some ⟨b,g,i,f++e,d++c⟩
abbrev zZ:=Fn->List AV->MT AV
structure SF where
 f:zZ->Ft->MT AV
def IT [Bk] (P:Program) (o:Oper):SF :=
 match o.op with
 | .move x=>⟨fun _ f t n=>some ⟨(qS x).f f,t,n,[],[]⟩⟩
 | .assign x=>⟨fun _ f t n=>some ⟨(qS x).f f,t,n,[],[]⟩⟩
 | .pick c x y=>⟨fun _ f a nx=>lO (aed P c x y (fun o=>(qS o).f f) a.get nx) a nx⟩
 | .alloc e=>⟨fun _ f a nx=>lO (aam P e (fun o=>(qS o).f f) a.get nx) a nx⟩
 | .box e x=>⟨fun _ f a nx=>lO (ajl P e x (fun o=>(qS o).f f) a.get nx) a nx⟩
 | .build t h=>⟨fun _ f a nx=>lO (aah P t h (fun o=>(qS o).f f) a.get nx) a nx⟩
 | .buildSlice t len h=>⟨fun _ f a nx=>lO (A4 P t len h (fun o=>(qS o).f f) a.get nx) a nx⟩
 | .load t x=>⟨fun _ f a nx=>lO (aef P t x (fun o=>(qS o).f f) a.get nx) a nx⟩
 | .store t x y=>⟨fun _ f a nx=>lO (aac P t x y (fun o=>(qS o).f f) a.get nx) a nx⟩
 | .nilCheck x=>⟨fun _ f a nx=>lO (I4 P x (fun o=>(qS o).f f) a.get nx) a nx⟩
 | .binOp op t x y _=>⟨fun _ f a nx=>lO (aai P op t x y (fun o=>(qS o).f f) a.get nx) a nx⟩
 | .unOp op _ x=>⟨fun _ f a nx=>lO (aec P op x (fun o=>(qS o).f f) a.get nx) a nx⟩
 | .convert s d x=>⟨fun _ f a nx=>lO (NJ P s d x (fun o=>(qS o).f f) a.get nx) a nx⟩
 | .makeInterface t x=>⟨fun _ f a nx=>lO (wT P t x (fun o=>(qS o).f f) a.get nx) a nx⟩
 | .makeFunc fn first b=>⟨fun _ f a nx=>lO (I5 P fn first b (fun o=>(qS o).f f) a.get nx) a nx⟩
 | .makeSlice t x y=>⟨fun _ f a nx=>lO (E6 P t x y (fun o=>(qS o).f f) a.get nx) a nx⟩
 | .slice t x m p l=>⟨fun _ f a nx=>lO (aad P t x m p l (fun o=>(qS o).f f) a.get nx) a nx⟩
 | .fieldAddr t x k=>⟨fun _ f a nx=>lO (E8 P t x k (fun o=>(qS o).f f) a.get nx) a nx⟩
 | .field t x k=>⟨fun _ f a nx=>lO (aag P t x k (fun o=>(qS o).f f) a.get nx) a nx⟩
 | .indexAddr t x ix=>⟨fun _ f a nx=>lO (E7 P t x ix (fun o=>(qS o).f f) a.get nx) a nx⟩
 | .index t x ix=>⟨fun _ f a nx=>lO (aaf P t x ix (fun o=>(qS o).f f) a.get nx) a nx⟩
 | .extract x k=>⟨fun _ f a nx=>lO (NI P x k (fun o=>(qS o).f f) a.get nx) a nx⟩
 | .typeAssert x _ i ok=>⟨fun _ f a nx=>lO (A3 P x i ok (fun o=>(qS o).f f) a.get nx) a nx⟩
 | .range t x=>⟨fun _ f a nx=>lO (aae P t x (fun o=>(qS o).f f) a.get nx) a nx⟩
 | .next x j=>⟨fun _ f a nx=>lO (aee P x j (fun o=>(qS o).f f) a.get nx) a nx⟩
 | .makeMap _ rs=>⟨fun _ f a nx=>lO (NH P rs (fun o=>(qS o).f f) a.get nx) a nx⟩
 | .insert t x k y=>⟨fun _ f a nx=>lO (PH P t x k y (fun o=>(qS o).f f) a.get nx) a nx⟩
 | .lookup t x k ok=>⟨fun _ f a nx=>lO (PG P t x k ok (fun o=>(qS o).f f) a.get nx) a nx⟩
 | .call { callee:=.builtin .len,args,argTypes }=>⟨fun _ f a nx=>lO (aal P args argTypes (fun o=>(qS o).f f) a.get nx) a nx⟩
 | .call { callee:=.builtin .append,args,argTypes }=>⟨fun _ f a nx=>lO (I6 P args argTypes (fun o=>(qS o).f f) a.get nx) a nx⟩
 | .call { callee:=.builtin .max,args,argTypes }=>⟨fun _ f a nx=>lO (aak P args argTypes (fun o=>(qS o).f f) a.get nx) a nx⟩
 | .call { callee:=.builtin .min,args,argTypes }=>⟨fun _ f a nx=>lO (aaj P args argTypes (fun o=>(qS o).f f) a.get nx) a nx⟩
 | .call { callee:=.builtin .clear,args,argTypes }=>⟨fun _ f a nx=>lO (NK P args argTypes (fun o=>(qS o).f f) a.get nx) a nx⟩
 | .call { callee:=.value g,args,.. }=>⟨fun call f=>match (qS g).f f with
  | .fn (.func k) first b=>call (.func k) (first++(args.toList.map fun o=>(qS o).f f)++b)
  | .yld id=>call (.yield id) (args.toList.map fun o=>(qS o).f f)
  |_=>eN⟩
 |_=>⟨fun call f=>jZ P call o f⟩
def orS (x y:Option (RT AV)):Option (RT AV):=match x with
 |some r=>some r
 |none=>y
def Ie [Bk] (P:Program) (o:Oper):SF :=
 let c:=IT P o;let s:SF:=⟨fun call f t n=>orS (c.f call f t n) (lO (iC P o.op (fun o=>(qS o).f f) t.get n) t n)⟩
 match o.op with
 | .load .. | .nilCheck .. | .fieldAddr .. | .indexAddr .. | .store ..=>s
 | .call { callee:=.builtin .len,.. }=>s
 | .call { callee:=.builtin .append,.. }=>s
 |_=>c
structure QF where
 f:zZ->Ft->MT Ft
def zR [Bk] (P:Program) (ops:Array Oper):List Oper->QF
 |[]=>⟨fun _ f=>fH f⟩
 |o::l=>match o.guard with
  |none=>match o.op with
   | .move x=>⟨fun call f=>(zR P ops l).f call ((Ok o.dst).f f ((qS x).f f))⟩
   | .assign x=>⟨fun call f=>(zR P ops l).f call ((Ok o.dst).f f ((qS x).f f))⟩
   |_=>⟨fun call f=>oE ((Ie P o).f call f) fun v=>(zR P ops l).f call ((Ok o.dst).f f v)⟩
  |some _=>⟨fun call f=>match qX ops o f with
   |some true=>oE ((Ie P o).f call f) fun v=>(zR P ops l).f call ((Ok o.dst).f f v)
   |some false=>(zR P ops l).f call ((Ok o.dst).f f .undef)
   |none=>eN⟩
structure DF where
 f:zZ->Ft->MT (Ft×List wV)
def anI (x:MT AV):MT (AV×wV):=fun t n =>
 match x t n with
 |none=>none
 |some ⟨a,c,b,rd,wr⟩=>some ⟨(a,⟨a,(wr++List.range' n (b-n)).map fun id=>(id,c.get id),rd,n,b,false⟩),c,b,rd,wr⟩
def Nk [Bk] (P:Program) (ops:Array Oper):List Oper->DF
 |[]=>⟨fun _ f=>fH (f,[])⟩
 |o::l=>⟨fun call f=>match qX ops o f with
  |some true=>oE (anI ((Ie P o).f call f)) fun v=>oE ((Nk P ops l).f call ((Ok o.dst).f f v.1)) fun q=>fH (q.1,v.2::q.2)
  |some false=>oE ((Nk P ops l).f call ((Ok o.dst).f f .undef)) fun q=>fH (q.1,⟨.undef,[],[],0,0,true⟩::q.2)
  |none=>eN⟩
structure CF where
 f:zZ->Nat->Ft->MT (AX×Ft)
def ahY (g:CF) (call:zZ):Nat->Ft->MT (AX×Ft)
 |0,_=>eN
 |n+1,f=>oE (g.f call n f) fun q=>match q with
  |(.normal,a)=>ahY g call n a
  |q=>fH q
def qM [Bk] (P:Program) (tp:Bool):Code->CF
 | .skip=>⟨fun _ n f=>match n with|0=>eN|_+1=>fH (.normal,f)⟩
 | .region _ ops draw=>if draw then⟨fun call n f=>match n with
   |0=>eN
   |_+1=>oE (if P.follows .mixedOrders then oE ((Nk P ops ops.toList).f call f) fun q=>if Pj ops q.2 then fH q.1 else eN else eN) fun a=>fH (.normal,a)⟩
  else⟨fun call n f=>match n with
   |0=>eN
   |_+1=>oE ((zR P ops ops.toList).f call f) fun a=>fH (.normal,a)⟩
 | .seq x y=>⟨fun call n f=>match n with
  |0=>eN
  |n+1=>oE ((qM P tp x).f call n f) fun q=>match q with
   |(.normal,a)=>(qM P tp y).f call n a
   |q=>fH q⟩
 | .cond c x y=>⟨fun call n f=>match n with
  |0=>eN
  |n+1=>match (qS c).f f with
   | .c (.bool b)=>bif b then(qM P tp x).f call n f else(qM P tp y).f call n f
   |_=>eN⟩
 | .block id c=>⟨fun call n f=>match n with
  |0=>eN
  |n+1=>oE ((qM P tp c).f call n f) fun q=>match q with
   |(.exit d,a)=>if d=id then fH (.normal,a)else fH (.exit d,a)
   |q=>fH q⟩
 | .loop c=>⟨fun call n f=>ahY (qM P tp c) call n f⟩
 | .scope c=>⟨fun call n f=>match n with
  |0=>eN
  |n+1=>(qM P tp c).f call n f⟩
 | .label _=>⟨fun _ n f=>match n with|0=>eN|_+1=>fH (.normal,f)⟩
 | .exit id=>⟨fun _ n f=>match n with|0=>eN|_+1=>fH (.exit id,f)⟩
 | .ret=>⟨fun _ n f=>match n with|0=>eN|_+1=>fH (.ret,f)⟩
 |_=>⟨fun _ _ _=>eN⟩
def adY (x:MT α):MT α:=fun t n =>
 match x t n with
 |none=>none
 |some ⟨a,c,b,rd,wr⟩=>some ⟨a,c,b,(rd.filter fun id=>!(decide (n<=id)&&decide (id<b))).eraseDups,(wr.filter fun id=>!(decide (n<=id)&&decide (id<b))).eraseDups⟩
structure FF where
 f:zZ->List AV->MT AV
def aiQ [Bk] (P:Program) (L:Nat) (k:FuncId):FF :=
 match P.funcs[k]? with
  |none=>⟨fun _ _=>eN⟩
  |some fn =>
   let body:zZ->List AV->MT AV:=match fn.body with
    |none=>fun _ _=>eN
    | some c => if fn.name == "runtime.NumGoroutine" then fun _ _ => eN else fun call args =>
     adY (oE ((qM P true c).f call L (Ft.of (args.length+fn.ntmps) (args++List.replicate (fn.ntmps-args.length) .undef))) fun q=>match q.1 with
      | .exit _=>eN
      |_=>aaX P fn q.2)
   match rQ fn with
   |some t=>⟨fun call args=>match args with
    |[x]=>LM P t x
    |_=>body call args⟩
   |none=>⟨body⟩
def lG [Bk] (P:Program) (L:Nat):Nat->Fn->List AV->MT AV
 |0,_,_=>eN
 |d+1,.func k,args=>match Xr P k args with
  |some v=>fH v
  |none=>if knB P k=true then knT k args else(aiQ P L k).f (lG P L d) args
 |_+1,_,_=>eN
def ajj [Bk] (P:Program) (L d:Nat) (k:FuncId) (args:List AV):MT AV:=lG P L d (.func k) args
def Le (x y:MT α):Prop:=∀t n r,x t n=some r->y t n=some r
def Le.refl {α:Type} (x:MT α):Le x x:=fun _ _ _ h=>h
def Le.fail {y:MT α}:Le eN y:=fun _ _ _ h=>by cases h
def Le.bind {x y:MT α} {k l:α->MT β} (h:Le x y) (i:∀a,Le (k a) (l a)):Le (oE x k) (jV y l):=by
 intro t n r c;unfold oE at c;unfold jV;cases e:x t n with
 |none=>simp_all
 |some q =>
  obtain⟨a,f,g,p,m⟩:=q;rw[e]at c;simp only at c;rw[h _ _ _ e];simp only;cases d:k a f g with
  |none=>simp_all
  |some s =>
   obtain⟨b,u,v,o,j⟩:=s;rw[d]at c;rw[i a _ _ _ d];exact c
def aaD (v:α) (k:α->MT β):jV (fH v) k=k v:=by
 funext t n;unfold jV fH;simp only;cases k v t n<;>simp_all
def Ru (o:Operand) (f:Ft):(qS o).f f=qP f o:=by cases o<;>rfl
theorem Rt (f:Ft):(fun o=>(qS o).f f)=qP f:=funext fun o=>Ru o f
theorem ER (d:Option Tmp) (f:Ft) (v:AV):(Ok d).f f v=f.st d v:=by cases d<;>rfl
def akB (r:Option AR) (t:Tr) (n:Nat):lO r t n=(match r with
 |none=>none
 |some r=>some ⟨r.v,t.cJ r.cJ,if(r.cJ.map (·.1)).contains n then n+1 else n,r.wX,r.cJ.map (·.1)⟩):=by
 cases r with
 |none=>rfl
 |some r =>
  obtain⟨v,cJ,a⟩:=r;cases cJ with
  |nil=>rfl
  |cons u b=>rfl
section
variable {P:Program} {cf ct:zZ}
def ajb [Bk] (op:Op) (f:Ft):alg P op f=fun t n=>lO (I1 P op (fun o=>(qS o).f f) t.get n) t n:=by
 funext t n;rw[akB,Rt];rfl
def Im [Bk] (a:∀k args,Le (cf k args) (ct k args)) (o:Oper) (f:Ft):Le (jZ P cf o f) (jZ P ct o f):=by
 unfold jZ;cases mC P (qP f) o.op with
 |none =>
  simp only;cases pK (qP f) o.op with
  |none=>exact Le.refl _
  |some p=>simp_all
 |some p=>simp_all
theorem acn [Bk] {f:Ft} {g:Operand} {args:Array Operand} {b:Array TypeId} (h:o.op=.call ⟨.value g,args,b⟩) {k:FuncId} {first a:List AV} (c:qP f g=.fn (.func k) first a) :
  jZ P ct o f=ct (.func k) (first++args.toList.map (qP f)++a):=by
 simp_all[jZ,mC]
theorem acm [Bk] {f:Ft} {g:Operand} {args:Array Operand} {a:Array TypeId} (h:o.op=.call ⟨.value g,args,a⟩) {id:Nat} (b:qP f g=.yld id) :
  jZ P ct o f=ct (.yield id) (args.toList.map (qP f)):=by
 simp_all[jZ,mC,pK]
def Il [Bk] {f:Ft} (h:mC P (qP f) o.op=none) (a:pK (qP f) o.op=none):jZ P ct o f=fun t n=>lO (I1 P o.op (fun o=>(qS o).f f) t.get n) t n:=by
 unfold jZ;rw[h];simp only[a];exact ajb _ f
def amU [Bk] (op:Op) (ρ:Operand->AV):Le (fun t n=>lO (ali P op ρ t.get n) t n) (fun t n=>lO (I1 P op ρ t.get n) t n):=by
 intro t n r a;simp only at a |-;unfold I1;cases h:ali P op ρ t.get n with
 |none=>rw[h]at a;cases a
 |some q=>simp_all
def ET [Bk] (e:∀k args,Le (cf k args) (ct k args)) (o:Oper) (f:Ft):Le ((IT P o).f cf f) (jZ P ct o f):=by
 cases h:o.op
 case call c =>
  obtain⟨cl,args,i⟩:=c;cases cl with
  |value g =>
   unfold IT;rw[h];show Le (match (qS g).f f with
    | .fn (.func k) first a=>cf (.func k) (first++(args.toList.map fun o=>(qS o).f f)++a)
    | .yld id=>cf (.yield id) (args.toList.map fun o=>(qS o).f f)
    |_=>eN) _
   rw[Ru];split
   .grind[acn,Rt]
   .grind[acm,Rt]
   .exact Le.fail
  |builtin b =>
   unfold IT;rw[h];cases b<;>first
    |exact Im e o f
    |(rw[Il (by rw[h];rfl) (by rw[h];rfl),h];exact fun t n r d=>amU _ _ t n r d)
  |_ =>
   unfold IT;rw[h];exact Im e o f
 all_goals
  unfold IT;rw[h];first
   |exact Im e o f
   |(rw[Il (by rw[h];rfl) (by rw[h];rfl),h];exact fun t n r d=>amU _ _ t n r d)
def Pn [Bk] (d:∀k args,Le (cf k args) (ct k args)) (o:Oper) (f:Ft):Le ((Ie P o).f cf f) (jZ P ct o f):=by
 have s:mC P (qP f) o.op=none->pK (qP f) o.op=none->Le (fun t n=>orS ((IT P o).f cf f t n) (lO (iC P o.op (fun o=>(qS o).f f) t.get n) t n)) (jZ P ct o f):=by
  intro i g t n r a;simp only at a;cases e:(IT P o).f cf f t n with
  |some q=>rw[e]at a;cases a;exact ET d o f t n r e
  |none =>
   rw[e]at a;have a:lO (iC P o.op (fun o=>(qS o).f f) t.get n) t n=some r:=a;rw[Il i g];simp only;cases hs:iC P o.op (fun o=>(qS o).f f) t.get n with
   |none=>rw[hs]at a;cases a
   |some q =>
    grind[I1,aeb,PC]
 unfold Ie;cases h:o.op
 case load=>(rw[h]at s;exact s rfl rfl)
 case nilCheck=>(rw[h]at s;exact s rfl rfl)
 case fieldAddr=>(rw[h]at s;exact s rfl rfl)
 case indexAddr=>(rw[h]at s;exact s rfl rfl)
 case store=>(rw[h]at s;exact s rfl rfl)
 case call c =>
  obtain⟨cl,args,j⟩:=c;cases cl with
  |builtin b =>
   cases b<;>first
    |(rw[h]at s;exact s rfl rfl)
    |exact ET d o f
  |_=>exact ET d o f
 all_goals exact ET d o f
def Xz [Bk] (e:∀k args,Le (cf k args) (ct k args)) (ops:Array Oper):∀(l:List Oper) (f:Ft),Le ((zR P ops l).f cf f) (A0 P ct ops l f)
 |[],f=>Le.refl _
 |o::l,f=>by
  have g:=Xz e ops l;have go:Le (oE ((Ie P o).f cf f) fun v=>(zR P ops l).f cf ((Ok o.dst).f f v)) (jV (jZ P ct o f) fun v=>A0 P ct ops l (f.st o.dst v)) :=
   Le.bind (Pn e o f) fun v=>by simp_all[ER]
  have c:∀x,jZ P ct o f=fH (qP f x)->Le ((zR P ops l).f cf ((Ok o.dst).f f ((qS x).f f))) (jV (jZ P ct o f) fun v=>A0 P ct ops l (f.st o.dst v)):=by
   simp_all[aaD,ER,Ru]
  simp only[zR,A0];cases h:o.guard with
  |none =>
   have d:qX ops o f=some true:=(by simp_all[qX]);rw[d];simp only;split
   .rename_i x a
    refine c x ?_;unfold jZ;rw[a];rfl
   .rename_i x a
    refine c x ?_;unfold jZ;rw[a];rfl
   omega
  |some q =>
   simp only;cases qX ops o f with
   |none=>exact Le.fail
   |some b =>
    grind[ER]
def akq {x y:MT AV} (h:Le x y):Le (anI x) (TQ y):=by
 intro t n r b;unfold anI at b;unfold TQ;cases c:x t n with
 |none=>simp_all
 |some q =>
  obtain⟨a,f,g,e,d⟩:=q;rw[c]at b;rw[h _ _ _ c];exact b
def XA [Bk] (a:∀k args,Le (cf k args) (ct k args)) (ops:Array Oper):∀(l:List Oper) (f:Ft),Le ((Nk P ops l).f cf f) (yB P ct ops l f)
 |[],f=>Le.refl _
 |o::l,f=>by
  have c:=XA a ops l;simp only[Nk,yB];cases qX ops o f with
  |none=>exact Le.fail
  |some b =>
   cases b
   .simp only
    exact Le.bind (by simp_all[ER]) fun q=>Le.refl _
   .simp only
    exact Le.bind (akq (Pn a o f)) fun v=>Le.bind (by simp_all[ER]) fun q=>Le.refl _
def akI [Bk] (a:∀k args,Le (cf k args) (ct k args)) (ops:Array Oper) (f:Ft) :
  Le (if P.follows .mixedOrders then oE ((Nk P ops ops.toList).f cf f) fun q=>if Pj ops q.2 then fH q.1 else eN else eN) (Io P ct ops f):=by
 unfold Io;split
 .refine Le.bind (XA a ops _ f) fun q=>?_
  by_cases h:Pj ops q.2=true
  .rw[if_pos h,if_pos (aix h)];exact Le.refl _
  .rw[if_neg h];exact Le.fail
 .exact Le.fail
def oW [Bk] (e:∀k args,Le (cf k args) (ct k args)) {tp:Bool}:∀(n:Nat) (c:Code) (f:Ft),Le ((qM P tp c).f cf n f) (jR P ct tp n c f)
 |0,c,f=>by
  cases c<;>try exact Le.fail
  case region id ops draw=>cases draw<;>exact Le.fail
 |n+1,c,f=>by
  cases c with
  |skip=>exact Le.refl _
  |region id ops draw =>
   cases draw
   .show Le (oE ((zR P ops ops.toList).f cf f) fun d=>fH (AX.normal,d)) (jV (A0 P ct ops ops.toList f) fun d=>fH (AX.normal,d))
    exact Le.bind (Xz e ops _ f) fun d=>Le.refl _
   .show Le (oE (if P.follows .mixedOrders then oE ((Nk P ops ops.toList).f cf f) fun q=>if Pj ops q.2 then fH q.1 else eN else eN) fun d=>fH (AX.normal,d)) (jV (Io P ct ops f) fun d=>fH (AX.normal,d))
    exact Le.bind (akI e ops f) fun d=>Le.refl _
  |seq x y =>
   refine Le.bind (oW e n x f) fun q=>?_;obtain⟨a,d⟩:=q;cases a with
   |normal=>exact oW e n y d
   |_=>exact Le.refl _
  |cond c x y =>
   show Le (match (qS c).f f with | .c (.bool b)=>bif b then(qM P tp x).f cf n f else(qM P tp y).f cf n f|_=>eN) (match qP f c with | .c (.bool b)=>jR P ct tp n (if b then x else y) f|_=>eN);rw[Ru];split
   .rename_i b _
    cases b
    .exact oW e n y f
    .exact oW e n x f
   .exact Le.fail
  |block id c =>
   refine Le.bind (oW e n c f) fun q=>?_;obtain⟨a,d⟩:=q;cases a with
   |exit j =>
    simp only;split<;>exact Le.refl _
   |_=>exact Le.refl _
  |loop c =>
   have key:∀(m:Nat) (f:Ft),m<=n+1->(∀g,g<m->∀f,Le ((qM P tp c).f cf g f) (jR P ct tp g c f))->Le (ahY (qM P tp c) cf m f) (jR P ct tp m (.loop c) f):=by
    intro m;induction m with
    |zero=>intro f _ _;exact Le.fail
    |succ m o =>
     intro f p i;refine Le.bind (i m (by omega) f) fun q=>?_
     obtain⟨a,d⟩:=q;cases a with
     |normal=>grind
     |_=>exact Le.refl _
   exact key (n+1) f (a0h _) fun g h f=>oW e g c f
  |scope c=>exact oW e n c f
  |label l=>exact Le.refl _
  |exit id=>exact Le.refl _
  |ret=>exact Le.refl _
  |_=>exact Le.fail
 termination_by n=>n
 decreasing_by all_goals omega
def aiO {x y:MT α} (h:Le x y):Le (adY x) (Cx y):=by
 intro t n r b;unfold adY at b;unfold Cx;cases c:x t n with
 |none=>simp_all
 |some q =>
  obtain⟨a,f,g,e,d⟩:=q;rw[c]at b;rw[h _ _ _ c];exact b
def aiP [Bk] (L:Nat) (a:∀k args,Le (cf k args) (ct k args)) (k:FuncId) (args:List AV):Le ((aiQ P L k).f cf args) (EZ P L ct k args):=by
 unfold aiQ EZ;cases P.funcs[k]? with
 |none=>exact Le.fail
 |some fn =>
  simp only
  have body:Le ((match fn.body with
    |none=>fun _ _=>eN
    | some c => if fn.name == "runtime.NumGoroutine" then fun _ _ => eN else fun call args =>
     adY (oE ((qM P true c).f call L (Ft.of (args.length+fn.ntmps) (args++List.replicate (fn.ntmps-args.length) .undef))) fun q=>match q.1 with
      | .exit _=>eN
      |_=>aaX P fn q.2):zZ->List AV->MT AV) cf args) (match fn.body with
    |none=>eN
    | some c => if fn.name == "runtime.NumGoroutine" then eN else
     Cx (jV (jR P ct true L c (Ft.of (args.length+fn.ntmps) (args++List.replicate (fn.ntmps-args.length) .undef))) fun q=>match q.1 with
      | .exit _=>eN
      |_=>aaX P fn q.2)):=by
   cases fn.body with
   |none=>exact Le.fail
   |some c =>
    simp only;split
    .exact Le.fail
    .refine aiO (Le.bind (oW a L c _) fun q=>?_)
     split
     .exact Le.fail
     .exact Le.refl _
  cases rQ fn with
  |none=>exact body
  |some t =>
   cases args with
   |nil=>exact body
   |cons x l =>
    cases l with
    |nil=>exact Le.refl _
    |cons y l=>exact body
def Iq [Bk] (L:Nat):∀d k args,Le (lG P L d k args) (CH P L d k args)
 |0,k,args=>Le.fail
 |d+1,.func k,args=>by
  have a:=aiP (P:=P) L (Iq L d) k args;simp only[lG,CH];cases Xr P k args with
  |some v=>exact Le.refl _
  |none =>
   simp only;split
   .exact Le.refl _
   omega
 |d+1,.yield id,args=>Le.fail
 |d+1,.method _,args=>Le.fail
 |d+1,.methodOf _ _,args=>Le.fail
 |d+1,.via _ _ _ _,args=>Le.fail
def afE [Bk] (L d:Nat) (k:FuncId) (args:List AV):Le (ajj P L d k args) (CH P L d (.func k) args):=Iq L d (.func k) args
end
end Mc
namespace Mc
section
variable {P:Program}
def dV.none [Bk] [Ev] {A:Nat->Prop} {w:World} (c:∀b,A b->b<w.heap.size) (a:GOk A w):dV (fun _=>.no) A (fun _=>.no) w where
 out:=fun _ _ h=>by cases h
 old:=c
 no:=fun _ _=>rfl
 dead:=fun _ h=>by cases h
 wQ:=fun _ _ _ _ h=>by grind[dC.bL]
 inj:=fun _ _ _ h=>by cases h
 mS:=a
 others:=fun _ _ h d=>by grind[dC.other]
 scs:=fun _=>trivial
def GOk.none [Bk] {A:Nat->Prop} {w:World} (h:Bk.mS=[]):GOk A w:=fun t a=>absurd (h▸a:t∈[]) a0b
def Ext.below [Bk] [Ev] {m a:Nat->St} {w w':World} (h:Ext m w a w') (c:∀id b,m id≠.at b):Below w.heap.size w w' :=
 ⟨h.os,h.tape,h.output,h.size,fun k d=>(h.un k d fun id=>c id k).2⟩
def ah4:Tr.leaf.get=fun _=>dC.no:=by funext j;exact @Tr.nG dK dN j
def adQ:∀{l:List (Int×Int)} {xs:List Int},l.length=xs.length->(∀t∈l.zip xs,t.1.1<=t.2/\t.2<=t.1.2)->∀i,(l.getD i (0,0)).1<=xs.getD i 0/\xs.getD i 0<=(l.getD i (0,0)).2
 |[],[],_,_,i=>by simp
 |[],_::_,h,_,_=>by simp at h
 |_::_,[],h,_,_=>by simp at h
 |a::l,x::xs,h,b,0=>b (a,x) (by simp)
 |a::l,x::xs,h,b,i+1=>by
  simp only[List.getD_cons_succ];exact adQ (by simp_all) (fun t c=>b t (by simp_all)) i
inductive jH:List (Int×Int)->List Int->Prop
 |nil:jH [] []
 |cons {a b x:Int} {l:List (Int×Int)} {xs:List Int} (h1:a<=x) (h2:x<=b) (h:jH l xs):jH ((a,b)::l) (x::xs)
def jH.len {l:List (Int×Int)} {xs:List Int} (h:jH l xs):l.length=xs.length:=by induction h<;>simp_all
def jH.all {l:List (Int×Int)} {xs:List Int} (h:jH l xs):∀t∈l.zip xs,t.1.1<=t.2/\t.2<=t.1.2:=by
 induction h with
 |nil=>simp_all
 |cons c b _ a =>
  grind[List.zip_cons_cons]
inductive jT (ρ:Nat->Int):List (Poly×Int×Int)->Prop
 |nil:jT ρ []
 |cons {p:Poly} {a b:Int} {l:List (Poly×Int×Int)} (h1:a<=cQ ρ p) (h2:cQ ρ p<=b) (h:jT ρ l):jT ρ ((p,a,b)::l)
def jT.all {ρ:Nat->Int} {l:List (Poly×Int×Int)} (h:jT ρ l):∀t∈l,t.2.1<=cQ ρ t.1/\cQ ρ t.1<=t.2.2:=by
 induction h<;>grind
inductive wW (ρ:Nat->Int):List (Nat×Poly×Poly×Poly)->Prop
 |nil:wW ρ []
 |quo {p q r:Poly} {l:List (Nat×Poly×Poly×Poly)} (h1:cQ ρ r=(cQ ρ p).tdiv (cQ ρ q)) (h:wW ρ l):wW ρ ((0,p,q,r)::l)
 |rem {p q r:Poly} {l:List (Nat×Poly×Poly×Poly)} (h1:cQ ρ r=(cQ ρ p).tmod (cQ ρ q)) (h:wW ρ l):wW ρ ((1,p,q,r)::l)
 |adG {p q r:Poly} {l:List (Nat×Poly×Poly×Poly)} (h1:cQ ρ r=max (cQ ρ p) (cQ ρ q)) (h:wW ρ l):wW ρ ((2,p,q,r)::l)
def wW.all {ρ:Nat->Int} {l:List (Nat×Poly×Poly×Poly)} (h:wW ρ l):∀t∈l,(t.1=0->cQ ρ t.2.2.2=(cQ ρ t.2.1).tdiv (cQ ρ t.2.2.1))/\(t.1=1->cQ ρ t.2.2.2=(cQ ρ t.2.1).tmod (cQ ρ t.2.2.1))/\(t.1=2->cQ ρ t.2.2.2=max (cQ ρ t.2.1) (cQ ρ t.2.2.1)):=by
 induction h with
 |nil=>simp_all
 |quo c _ b =>
  intro t a;rcases a0c.1 a with rfl|a<;>grind
 |rem c _ b =>
  intro t a;rcases a0c.1 a with rfl|a<;>grind
 |adG c _ b =>
  grind
def aaq [Bk] [Ev] (P:Program) (l:List (Nat×List Poly×List Poly)):Prop:=∀k ps rs,(k,ps,rs)∈l->∀args h,toPs args=some ps->jA P k args h (fun v h'=>v=CW (rs.map CM)/\h'=h)
def aaq.nil [Bk] [Ev]:aaq P []:=fun k ps rs h=>absurd h a0b
def aan [Bk] [Ev] (P:Program) (l:List Nat):Prop:=∀k,k∈l->∀h,jA P k [] h (fun v h'=>v=.c (.bool true)/\h'=h)
def aan.nil [Bk] [Ev]:aan P []:=fun k h=>absurd h a0b
def SB [Bk] [Ev] (P:Program) (l:List (Nat×List AV×AV)):Prop:=∀k as r,(k,as,r)∈l->NR P k as r
def SB.nil [Bk] [Ev]:SB P []:=fun k as r h=>absurd h a0b
def SB.cons [Bk] [Ev] {k:Nat} {as:List AV} {r:AV} {l:List (Nat×List AV×AV)} (h:NR P k as r) (b:SB P l):SB P ((k,as,r)::l):=by
 intro k' c r' a;rcases a0c.1 a with e|a
 .simp_all
 .exact b _ _ _ a
def eE.cast (b1:Bk) (e1:@Ev b1) (b2:Bk) (e2:@Ev b2) (J:@Ev.xs b1 e1=@Ev.xs b2 e2) (K:@Ev.LU b1 e1=@Ev.LU b2 e2) (L:@Ev.C7 b1 e1=@Ev.C7 b2 e2) {A:Nat->Prop} {w:World} {x:AV} {v:Value} (h:@eE b1 e1 A w x v):@eE b2 e2 A w x v:=by
 have B:@Ev.eZ b1 e1=@Ev.eZ b2 e2:=by grind[Ev.eZ]
 induction h with
 |c v=>exact .c v
 |undef=>exact .undef
 |emp a=>exact .emp a
 |agg cs vs q g _ d=>exact .agg cs vs q g d
 |bG cs vs q _ d=>exact .bG cs vs q d
 |lit j bL b off cap vs k r u m g s _ d=>exact .lit j bL b off cap vs k r u m g s d
 |nR j a cap k=>exact .nR j a cap k
 |iZ j bL G F b off vs k r m g s _ d=>exact .iZ j bL G F b off vs k r m g s d
 |fn f l D vs E q I _ _ z y=>exact .fn f l D vs E q I z y
 |rG t x v _ d=>exact .rG t x v d
 |e p=>rw[B];exact .e p
 |row n l b off len cap H u k r s=>exact .row n l b off len cap (by simp_all) u k r (by simp_all)
 |Tg n l a cap H=>exact .Tg n l a cap (by simp_all)
 |o i =>
  have e:@Ev.val b1 e1 i=@Ev.val b2 e2 i:=by simp_all[Ev.val]
  rw[e];exact .o i
 |any v g=>exact .any v g
 |seq j base cJ tail v C g _ d =>
  refine .seq j base cJ tail v (by grind[InB,Ev.seq]) g ?_
  simp_all[rowsOf,Ev.seq]
 |vD j base cJ tail p off v C g M _ d =>
  refine .vD j base cJ tail p off v (by grind[InB,Ev.seq]) g (by simp_all) ?_
  simp_all[rowsOf,Ev.seq]
 |pT v=>exact .pT v
def uW {r:AV->AV->Bool}:∀{a b:List AV},LL r a b=true->a.length=b.length/\∀(i:Nat) (y:AV),b[i]?=some y->∃x,a[i]?=some x/\r x y=true
 |[],[],_=>⟨rfl,fun i y h=>by simp at h⟩
 |[],_::_,h=>by cases h
 |_::_,[],h=>by cases h
 |x::l,y::m,h=>by
  unfold LL at h;rw[a0e]at h;obtain⟨d,c⟩:=uW h.2;grind
def EP {r:AV->AV->Bool}:∀{a b:List (List AV)},Ia r a b=true->a.length=b.length/\∀(i:Nat) (y:List AV),b[i]?=some y->∃x,a[i]?=some x/\LL r x y=true
 |[],[],_=>⟨rfl,fun i y h=>by simp at h⟩
 |[],_::_,h=>by cases h
 |_::_,[],h=>by cases h
 |x::l,y::m,h=>by
  unfold Ia at h;rw[a0e]at h;obtain⟨d,c⟩:=EP h.2;grind
def isAny:AV->Bool
 | .any=>true
 |_=>false
def Ot [Bk]:Nat->AV->AV->Bool
 |0,_,_=>false
 |k+1,x,y=>bif isAny y then x.one else match x with
  | .c v=>match y with
   | .c u=>vEq v u
   | .e p=>match v with
    | .int .i64 n=>eqB (rM p (yZ n))==some true
    |_=>false
   |_=>false
  | .e q=>match y with
   | .e p=>decide (p=q)||eqB (rM p q)==some true
   | .c (.int .i64 n)=>eqB (rM q (yZ n))==some true
   |_=>false
  | .undef=>match y with | .undef=>true|_=>false
  | .emp=>match y with | .emp=>true | .lit _ []=>true|_=>false
  | .agg a=>match y with | .agg b=>LL (Ot k) a b|_=>false
  | .bG a=>match y with | .bG b=>LL (Ot k) a b|_=>false
  | .lit s a=>match y with | .lit d b=>decide (s=d)&&Ia (Ot k) a b|_=>false
  | .row n a=>match y with | .row n' b=>decide (n=n')&&decide (a=b)|_=>false
  | .o i=>match y with | .o j=>decide (i=j)|_=>false
  | .seq s b u t=>AN 16 (.seq s b u t) y
  |_=>false
def T9 {y:AV} (h:isAny y=true):y=.any:=by grind[isAny]
def XX [Bk] {k:Nat} {x y:AV} (h:Ot k x y=true) (h1:x.one=true):y.one=true:=by
 cases k with
 |zero=>cases h
 |succ k =>
  unfold Ot at h;cases a:isAny y with
  |true=>rw[T9 a];rfl
  |false =>
  rw[a]at h;simp only[cond_false]at h;split at h
  .split at h
   .grind[aaz]
   .rfl
   .cases h
  .split at h
   .rfl
   .rfl
   .cases h
  .grind
  .split at h
   .rfl
   .rfl
   .cases h
  .simp_all[AV.one]
  .simp_all[AV.one]
  .split at h
   .rfl
   .cases h
  .grind
  .grind
  .grind[yA]
  .cases h
def ad8 [Bk] [Ev] {A:Nat->Prop} {w:World}:∀{k:Nat} {x y:AV} {v:Value},Ot k x y=true->eE A w x v->eE A w y v
 |0,x,y,v,h,_=>by cases h
 |k+1,x,y,v,h,f=>by
  have L:∀{x y:AV} {v:Value},Ot k x y=true->eE A w x v->eE A w y v:=ad8
  have pe:∀{p q:Poly},(eqB (rM p q)==some true)=true->cQ Ev.eZ p=cQ Ev.eZ q:=by
   intro p q t;have:=Ib (eq_of_beq t)
   grind[iA]
  unfold Ot at h;cases d:isAny y with
  |true =>
   rw[d]at h;rw[T9 d];exact .any v (f.one h)
  |false =>
  rw[d]at h;simp only[cond_false]at h;split at h
  .rename_i u
   split at h
   .grind[aaz]
   .rename_i p
    split at h
    .rename_i n
     cases f;have:=pe h;rw[sY]at this;rw[<-this];exact .e p
    .cases h
   .cases h
  .rename_i q
   split at h
   .rename_i p
    cases f;rw[a1w]at h;rcases h with h|h
    .rw[<-of_decide_eq_true h];exact .e p
    .rw[<-pe h];exact .e p
   .rename_i n
    cases f;have:=pe h;rw[sY]at this;rw[this];exact .c _
   .cases h
  .grind
  .split at h
   .exact f
   .cases f;exact .nR _ _ 0 (a0j _)
   .cases h
  .split at h
   .obtain⟨m,g⟩:=uW h
    cases f with
    |agg _ vs C o z =>
     refine .agg _ vs (by omega) ?_ ?_
     .intro i y d
      obtain⟨x,g1,g2⟩:=g i y d;exact XX g2 (o i x g1)
     grind
   .cases h
  .split at h
   .obtain⟨m,g⟩:=uW h
    cases f with
    |bG _ vs C z =>
     refine .bG _ vs (by omega) ?_
     grind
   .cases h
  .rename_i s a
   split at h
   .rename_i J b
    rw[a0e,decide_eq_true_eq]at h;obtain⟨rfl,h⟩:=h;obtain⟨m,g⟩:=EP h;have r:∀(i j:Nat) (y:AV),iE b i j=some y->∃x,iE a i j=some x/\Ot k x y=true:=by
     intro i j y d;unfold iE at d;cases l:b[i]? with
     |none=>simp_all
     |some e =>
      rw[l]at d;obtain⟨G,g1,g2⟩:=g i e l;obtain⟨-,K⟩:=uW g2;simp_all[iE]
    cases f with
    |lit _ _ H off cap vs F l N I o M z =>
     rw[m];refine .lit s b H off cap vs F l (by omega) ?_ ?_ ?_ ?_
     .intro e E
      obtain⟨i,D⟩:=a1j.1 E;obtain⟨G,g1,g2⟩:=g i e D;rw[<-(uW g2).1];grind
     .intro i j y d
      obtain⟨x,g1,g2⟩:=r i j y d;exact XX g2 (o i j x g1)
     .grind
     grind
    |nR _ a0 cap B =>
     have e:b=[]:=a14.1 m.symm;subst e;exact .nR _ a0 cap B
   .cases h
  .grind
  .grind
  .grind[yA]
  .cases h
def Mq [Bk] (P:Program) (L d:Nat) (k:FuncId) (as:List AV) (r:AV):Bool :=
 match ajj P L d k as .leaf 0 with
 |some q=>(match vR q.t.get 16 q.a with
  |some p=>Ot 16 p.1 r
  |none=>false)
 |none=>false
def ao9 (b:Bk) (ev:@Ev b) (b2:Bk) (ev2:@Ev b2) (g:@Ev.xs b ev=@Ev.xs b2 ev2) {L d:Nat} {k:FuncId} {as:List AV} {r:AV} (h:@Mq b P L d k as r=true) (z:@aaq b ev P b.ext) (y:@aan b ev P b.yes) (H:@SB b ev P b.bR) (n:b.mS=b2.mS:=by rfl) (j:@Ev.LU b ev=@Ev.LU b2 ev2:=by rfl) (l:@Ev.C7 b ev=@Ev.C7 b2 ev2:=by rfl):@NR b2 ev2 P k as r:=by
 intro A w vs M J G B;unfold Mq at h;split at h
 .rename_i q E
  split at h
  .rename_i p F
   obtain⟨p1,m⟩:=p;have f:=@afD P b ev ⟨z,y,H⟩ L d k as .leaf 0 q (@afE P b L d k as _ _ _ E);rw[ah4]at f;have o:@GOk b A w:=fun t C=>J t (show t∈b2.mS from n▸C);have Q:@dV b ev (fun _=>.no) A (fun _=>.no) w:=@dV.none b ev A w M o;refine(f (fun _=>.no) A w vs Q G fun i x I=>@Rd.pure b ev (fun _=>.no) A w x _ ?_).mono ?_
   .have:=eE.cast b2 ev2 b ev g.symm j.symm l.symm (B i x I)
    refine @eE.mono b ev _ _ _ _ (a0h _) (fun c _ f=>⟨?_,rfl⟩) _ _ this;rintro(h|⟨id,h⟩)<;>simp_all
   .rintro e w' ⟨v,u,s,h',rfl,⟨rfl,rfl⟩,R,D,K⟩
    have O:=@F7 b ev s A q.t.get w' R m 16 q.a p1 m v F (fun id h=>h) D;have N:=eE.cast b ev b2 ev2 g j l (@ad8 b ev _ _ 16 p1 r v h O);refine⟨v,rfl,@eE.mono b2 ev2 _ _ _ _ (a0h _) (fun c _ f=>⟨fun h=>f (.inl h),rfl⟩) _ _ N,?_⟩;exact @Ext.below b ev _ _ _ _ K fun id b h=>by cases h
  .cases h
 .cases h
end
end Mc
namespace Mc
section
variable {P:Program}
structure CK (P:Program) (k:FuncId) (as:List AV) (r:AV):Prop where
 args:∀x∈as,Cl x
 res:Cl r
 ok:@NR dK dN P k as r
abbrev AV.i (v:Int):AV:=.c (.int .i64 v)
def CK.named (b:Bk) (ev:@Ev b) {k:FuncId} {as a:List AV} {r r':AV} (d:CK P k a r') (q:as.map (@den b ev 12)=a) (er:@den b ev 12 r=r') (j:mW 12 r=true):@NR b ev P k as r:=by
 subst q;subst er;intro A w vs n u s g;refine(d.ok A w vs n (fun t h=>absurd h a0b) (by simp_all) ?_).mono ?_
 .intro i y c
  have l:=a0a c;rw[a0o]at c;obtain⟨x,f,rfl⟩:=a1b.1 c;exact eE.cl (b1:=b) (e1:=ev) (d.args _ l) (@eE.MV b ev A w 12 x _ (g i x f))
 .rintro e w' ⟨v,m,p,o⟩
  exact⟨v,m,@eE.Fs b ev A w' 12 r v j (eE.cl (b2:=b) (e2:=ev) d.res p),o⟩
def CK.ahH (b:Bk) (ev:@Ev b) {L d:Nat} {k:FuncId} {as a:List AV} {r r':AV} (h:@Mq b P L d k as r=true) (f:@aaq b ev P b.ext) (c:@aan b ev P b.yes) (n:@SB b ev P b.bR) (u:as.map (@den b ev 12)=a) (er:@den b ev 12 r=r') (j:∀x∈a,Cl x) (g:Cl r') (m:as.all (mW 12)=true) (o:b.mS=[]:=by rfl) :
  CK P k a r':=by
 subst u;subst er;refine⟨j,g,?_⟩;have K:=ao9 b ev b ev rfl h f c n;intro A w vs q z y l;refine(K A w vs q (@GOk.none b A w o) (by simp_all) ?_).mono ?_
 .intro i x f
  have c:(as.map (@den b ev 12))[i]?=some (@den b ev 12 x):=by simp_all
  exact @eE.Fs b ev A w 12 x _ (a0i.1 m x (a0a f)) (eE.cl (b1:=dK) (e1:=dN) (j _ (a0a c)) (l i _ c))
 .rintro e w' ⟨v,p,t,s⟩
  exact⟨v,p,eE.cl (b1:=b) (e1:=ev) g (@eE.MV b ev A w' 12 r v t),s⟩
def apa (b:Bk) (ev:@Ev b):@SB b ev P []:=@SB.nil P b ev
def anM (b:Bk) (ev:@Ev b) {k:Nat} {as:List AV} {r:AV} {l:List (Nat×List AV×AV)} (h:@NR b ev P k as r) (a:@SB b ev P l):@SB b ev P ((k,as,r)::l):=@SB.cons P b ev k as r l h a
def amW (b:Bk) (ev:@Ev b):@aaq b ev P []:=@aaq.nil P b ev
def aly (b:Bk) (ev:@Ev b):@aan b ev P []:=@aan.nil P b ev
def ajK:∀l∈([]:List (List (List AV))),∀r∈l,∀x∈r,Cl x:=fun v h=>absurd h a0b
def af0 {l:List (List AV)} {ss:List (List (List AV))} (h:∀r∈l,∀x∈r,Cl x) (a:∀l∈ss,∀r∈l,∀x∈r,Cl x):∀m∈l::ss,∀r∈m,∀x∈r,Cl x:=by
 grind
inductive kP (ρ:Nat->Int) (ss:List (List (List AV))):List (Nat×Poly)->Prop
 |nil:kP ρ ss []
 |cons {k:Nat} {p:Poly} {l:List (Nat×Poly)} (h1:((ss.getD k []).length:Int)=cQ ρ p) (h:kP ρ ss l):kP ρ ss ((k,p)::l)
def kP.all {ρ:Nat->Int} {ss:List (List (List AV))} {l:List (Nat×Poly)} (h:kP ρ ss l):∀t∈l,((ss.getD t.1 []).length:Int)=cQ ρ t.2:=by
 induction h<;>grind
inductive Aa (ρ:Nat->Int) (vl:Nat->Value) (ss:List (List (List AV))):List (Nat×Poly×List AV)->Prop
 |nil:Aa ρ vl ss []
 |cons {k:Nat} {p:Poly} {r r0:List AV} {l:List (Nat×Poly×List AV)} (h0:0<=cQ ρ p) (h1:(ss.getD k [])[(cQ ρ p).toNat]?=some r0) (h2:r.map (AM ρ vl (fun i=>ss.getD i []) 12)=r0) (h3:r.all (mW 12)=true) (h:Aa ρ vl ss l):Aa ρ vl ss ((k,p,r)::l)
def Aa.all {ρ:Nat->Int} {a:Nat->Value} {ss:List (List (List AV))} {l:List (Nat×Poly×List AV)} (h:Aa ρ a ss l):∀t∈l,0<=cQ ρ t.2.1/\(ss.getD t.1 [])[(cQ ρ t.2.1).toNat]?=some (t.2.2.map (AM ρ a (fun i=>ss.getD i []) 12))/\t.2.2.all (mW 12)=true:=by
 induction h<;>grind
abbrev apf (b:Bk) (xs:List Int) (vs:List Value) (ss:List (List (List AV))) (g:wW (fun i=>xs.getD i 0) b.defs) (a:jH b.vars xs) (f:jT (fun i=>xs.getD i 0) b.facts) (d:∀v∈vs,v.oneCell'=true)
  (e:kP (fun i=>xs.getD i 0) ss b.lens) (k:Aa (fun i=>xs.getD i 0) (fun i=>vs.getD i (.bool false)) ss b.gI) (hs:∀l∈ss,∀r∈l,∀x∈r,Cl x) (m:b.kinds=[]:=by rfl) (j:∀t∈b.afj,ss.getD t.2.2 []=ss.getD t.1 []++ss.getD t.2.1 []:=by exact fun t h=>nomatch h):@Ev b :=
 @Ev.mk b xs (adQ a.len a.all) f.all g.all vs d (fun i c h=>by simp_all) ss e.all k.all hs j
end
end Mc
namespace Mc
inductive KI where
 |seq (y:Code)|blk (id:Nat)|scope
inductive Out where
 |done (x:AX) (f:Ft)|stop (c:Code) (k:List KI) (f:Ft)
def Out.push (i:KI):Out->Out
 | .stop c k f=>.stop c (k++[i]) f
 |o=>o
def oG [Bk] (P:Program) (call:zZ) (L:Nat):Nat->Code->Ft->MT Out
 |0,_,_=>eN
 |n+1,.seq x y,f=>jV (oG P call L n x f) fun o=>match o with
  | .done .normal a=>oG P call L n y a
  |o=>fH (o.push (.seq y))
 |n+1,.cond c x y,f=>match qP f c with
  | .c (.bool b)=>oG P call L n (if b then x else y) f
  |_=>eN
 |n+1,.block id c,f=>jV (oG P call L n c f) fun o=>match o with
  | .done (.exit i) a=>fH (if i=id then .done .normal a else .done (.exit i) a)
  |o=>fH (o.push (.blk id))
 |n+1,.scope c,f=>jV (oG P call L n c f) fun o=>fH (o.push .scope)
 |n+1,.loop c,f=>fH (.stop c [] f)
 |n+1,c,f=>jV ((qM P true c).f call L f) fun q=>fH (.done q.1 q.2)
def tW [Bk] (P:Program) (call:zZ) (L:Nat):List KI->AX->Ft->MT Out
 |[],x,f=>fH (.done x f)
 | .seq y::k,x,f=>match x with
  | .normal=>jV (oG P call L L y f) fun o=>match o with
   | .done b a=>tW P call L k b a
   | .stop c k' a=>fH (.stop c (k'++k) a)
  |x=>tW P call L k x f
 | .blk id::k,x,f=>match x with
  | .exit i=>tW P call L k (if i=id then .normal else .exit i) f
  |x=>tW P call L k x f
 | .scope::k,x,f=>tW P call L k x f
section
variable {P:Program}
abbrev iO:=Exit->Act->World->Prop
structure dZ [Bk] [Ev] (A:Nat->Prop) (w0:World) (a0:Act) (m:Nat->St) (w:World) (a:Act) (f:List AV) (h:AH):Prop where
 ext:Ext (fun _=>.no) w0 m w
 rel:dV m A h w
 fr:nJ m A w f a
 new:tZ w0 a0 a
def AW [Bk] [Ev] (P:Program) (A:Nat->Prop) (w0:World) (a0:Act) (c:Code) (Φ:iO) (f:List AV) (h:AH):Prop :=
 ∀m w a,dZ A w0 a0 m w a f h->c.wpIn (fw none) 9 P Φ a w
section
variable [Bk] [Ev]
def Sat (A:Nat->Prop) (w0:World) (a0:Act) (e:Exit) (Φ:iO) (f:List AV) (h:AH):Prop:=∀m w a,dZ A w0 a0 m w a f h->Φ e a w
def KS (P:Program):List KI->iO->iO
 |[],Φ=>Φ
 | .seq y::k,Φ=>fun e a w=>match e with
  | .normal=>y.wpIn (fw none) 9 P (KS P k Φ) a w
  |e=>KS P k Φ e a w
 | .blk id::k,Φ=>fun e a w=>match e with
  | .exit i=>if i=id then KS P k Φ .normal a w else KS P k Φ (.exit i) a w
  |e=>KS P k Φ e a w
 | .scope::k,Φ=>fun e a w=>(∀l,e≠.goto l)/\KS P k Φ e a w
def AI (k k':List KI) (Φ:iO):KS P (k++k') Φ=KS P k (KS P k' Φ):=by
 induction k with
 |nil=>rfl
 |cons i k a=>cases i<;>simp only[a2a,KS,a]
def NO (P:Program) (A:Nat->Prop) (w0:World) (a0:Act) (Φ:iO) (o:Out) (h:AH):Prop:=match o with
 | .done x f=>∀l,FR l f->Sat A w0 a0 x.to Φ l h
 | .stop c k f=>∀l,FR l f->AW P A w0 a0 (.loop c) (KS P k Φ) l h
def AW.anD {A:Nat->Prop} {w0:World} {a0:Act} {c:Code} {Φ:iO} {f:List AV} {h:AH} {Q:Exit->List AV->AH->Prop} (k:kV P true c Q f h) (i:∀e d h',Q e d h'->Sat A w0 a0 e Φ d h'):AW P A w0 a0 c Φ f h:=by
 intro m w a b;refine wpIn_mono (k none m A w a (fun _=>rfl) b.rel b.fr) ?_;rintro e j w' ⟨g,d,h',q,n,o,p,l⟩;exact i e d h' q g w' j ⟨b.ext.trans p,n,o,b.new.trans b.ext.size l⟩
def aks (j:lL P) {L d:Nat} {c:Code} {f:Ft} {t:Tr} {n:Nat} {r:RT (AX×Ft)} (g:(qM P true c).f (lG P L d) L f t n=some r) {A:Nat->Prop} {w0:World} {a0:Act} {Φ:iO}
  (h:NO P A w0 a0 Φ (.done r.a.1 r.a.2) r.t.get):∀l,FR l f->AW P A w0 a0 c Φ l t.get:=by
 intro l i;have m:=oW (Iq (P:=P) L d) L c f t n r g;obtain⟨a,k,e1,e2⟩:=oM (Mf (P:=P) L d) L c l f i t n r m;refine AW.anD (qQ (vP j L d) L c (fun e b h'=>e=a.1.to/\b=a.2/\h'=r.t.get) l t.get n _ k ⟨rfl,rfl,rfl⟩) ?_;rintro e b h' ⟨rfl,rfl,rfl⟩;rw[e1];exact h a.2 e2
def vU {α β:Type} {x:MT α} {k:α->MT β} {t:Tr} {n:Nat} {r:RT β} (h:jV x k t n=some r):∃q s,x t n=some q/\k q.a q.t q.n=some s/\r.a=s.a/\r.t=s.t/\r.n=s.n:=by
 grind[jV]
def qO (B:lL P) {L d:Nat} {A:Nat->Prop} {w0:World} {a0:Act}:∀(k:Nat) (c:Code) (Φ:iO) (f:Ft) (t:Tr) (n:Nat) (r:RT Out),oG P (lG P L d) L k c f t n=some r->NO P A w0 a0 Φ r.a r.t.get->∀l,FR l f->AW P A w0 a0 c Φ l t.get
 |0,c,Φ,f,t,n,r,j,h=>by simp only[oG]at j;cases j
 |k+1,c,Φ,f,t,n,r,j,h=>by
  have leaf:oG P (lG P L d) L (k+1) c f t n=jV ((qM P true c).f (lG P L d) L f) (fun q=>fH (.done q.1 q.2)) t n->∀l,FR l f->AW P A w0 a0 c Φ l t.get:=by
   intro K;rw[K]at j;obtain⟨q,s,z,p,e1,e2,-⟩:=vU j;cases p;simp only at e1 e2;refine aks B z ?_
   simp_all
  cases c with
  |seq x y =>
   simp only[oG]at j;obtain⟨q,s,z,p,e1,e2,-⟩:=vU j;have key:NO P A w0 a0 (KS P [.seq y] Φ) q.a q.t.get:=by
    cases u:q.a with
    |stop J k' C =>
     rw[u]at p;cases p;rw[e1,e2]at h;intro l g;have:=h l g
     simp_all[AI]
    |done D C =>
     rw[u]at p;cases D with
     |normal =>
      simp only at p;rw[e1,e2]at h;have:=qO B k y Φ C q.t q.n s p h;intro l g m w a o;exact this l g m w a o
     |_ =>
      cases p;rw[e1,e2]at h;intro l g m w a o;exact h l g m w a o
   have:=qO B k x _ f t n q z key;intro l g m w a o;refine wpIn_seq (wpIn_mono (this l g m w a o) ?_);intro e N w' E;cases e<;>exact E
  |cond c x y =>
   have H:∃b,qP f c=.c (.bool b)/\oG P (lG P L d) L k (if b then x else y) f t n=some r:=by
    simp only[oG]at j;cases G:qP f c with
    |c v=>cases v with
     |bool b=>simp_all
     |_=>simp only[G]at j;cases j
    |_=>simp only[G]at j;cases j
   obtain⟨b,M,j⟩:=H;have:=qO B k (if b then x else y) Φ f t n r j h;intro l g m w a o;have I:=o.fr.eval c;rw[g.ev,M]at I;exact wpIn_cond I.bool (this l g m w a o)
  |block id c =>
   simp only[oG]at j;obtain⟨q,s,z,p,e1,e2,-⟩:=vU j;have key:NO P A w0 a0 (KS P [.blk id] Φ) q.a q.t.get:=by
    cases u:q.a with
    |stop J k' C =>
     rw[u]at p;cases p;rw[e1,e2]at h;intro l g;have:=h l g
     simp_all[AI]
    |done D C =>
     rw[u]at p;cases D with
     |exit i =>
      simp only at p;cases p;rw[e1,e2]at h;intro l g m w a o;simp only[KS,AX.to];split
      .rename_i F;rw[if_pos F]at h;exact h l g m w a o
      .rename_i F;rw[if_neg F]at h;exact h l g m w a o
     |_ =>
      cases p;rw[e1,e2]at h;intro l g m w a o;exact h l g m w a o
   have:=qO B k c _ f t n q z key;intro l g m w a o;refine wpIn_block (wpIn_mono (this l g m w a o) ?_);intro e N w' E;cases e<;>exact E
  |scope c =>
   simp only[oG]at j;obtain⟨q,s,z,p,e1,e2,-⟩:=vU j;cases p;simp only at e1 e2
   have key:NO P A w0 a0 (KS P [.scope] Φ) q.a q.t.get:=by
    rw[e1,e2]at h;cases u:q.a with
    |stop J k' C =>
     rw[u]at h;intro l g;have:=h l g
     simp_all[AI]
    |done D C =>
     rw[u]at h;intro l g m w a o;exact⟨by intro l;cases D<;>simp[AX.to],h l g m w a o⟩
   have:=qO B k c _ f t n q z key;intro l g m w a o;exact LO (this l g m w a o)
  |loop c =>
   simp only[oG]at j;cases j;exact h
  |_=>exact leaf rfl
def tV (h:lL P) {L d:Nat} {A:Nat->Prop} {w0:World} {a0:Act} {Φ:iO}:∀(k:List KI) (x:AX) (f:Ft) (t:Tr) (n:Nat) (r:RT Out),tW P (lG P L d) L k x f t n=some r->NO P A w0 a0 Φ r.a r.t.get->∀l,FR l f->Sat A w0 a0 x.to (KS P k Φ) l t.get
 |[],x,f,t,n,r,b,e=>by
  simp only[tW]at b;cases b;exact e
 | .seq y::k,x,f,t,n,r,b,e=>by
  simp only[tW]at b;cases x with
  |normal =>
   simp only at b
   obtain⟨q,s,z,j,e1,e2,-⟩:=vU b;rw[e1,e2]at e;have key:NO P A w0 a0 (KS P k Φ) q.a q.t.get:=by
    cases p:q.a with
    |done v u =>
     rw[p]at j;exact tV h k v u q.t q.n s j e
    |stop B k' u =>
     rw[p]at j;cases j;intro l c;have:=e l c
     simp_all[AI]
   intro l c m w a g;exact qO h L y _ f t n q z key l c m w a g
  |_ =>
   have:=tV h k _ f t n r b e;intro l c m w a g;exact this l c m w a g
 | .blk id::k,x,f,t,n,r,b,e=>by
  simp only[tW]at b;cases x with
  |exit i =>
   have:=tV h k _ f t n r b e;intro l c m w a g;simp only[KS,AX.to];split
   .rename_i o;rw[if_pos o]at this;exact this l c m w a g
   .rename_i o;rw[if_neg o]at this;exact this l c m w a g
  |_ =>
   have:=tV h k _ f t n r b e;intro l c m w a g;exact this l c m w a g
 | .scope::k,x,f,t,n,r,b,e=>by
  simp only[tW]at b;have:=tV h k _ f t n r b e;intro l c m w a g;exact⟨by intro l;cases x<;>simp[AX.to],this l c m w a g⟩
end
def cN {c:Code} {Φ:iO} (I:Nat->Act->World->Prop) (round:∀n a w,I n a w->c.wpIn (fw none) 9 P (fun e b w'=>match e with | .normal=>∃n',n'<n/\I n' b w'|e=>Φ e b w') a w) {n:Nat} {a:Act} {w:World} (o:I n a w):(Code.loop c).wpIn (fw none) 9 P Φ a w:=by
 obtain⟨k,d⟩:=T8 (fun n (p:Act×World)=>I n p.1 p.2);refine wpIn_loop (fun b w'=>∃n,I n b w') (fun b w'=>k (b,w')) ⟨n,o⟩ ?_;intro j g i;have m:=(d (j,g) i).1;refine wpIn_mono (round _ j g m) ?_;intro e a2 l q;cases e with
 |normal =>
  obtain⟨n',h,f⟩:=q;exact⟨⟨n',f⟩,a39 ((d (a2,l) ⟨n',f⟩).2 n' f) h⟩
 |_=>exact q
end
end Mc
namespace Mc
variable {m:Nat->St}
abbrev qB:=List (Option Nat)
def mOf (m:Nat->St) (ids:qB):Nat->St:=fun k=>match ids[k]? with
 |none=>.no
 |some none=>.uB
 |some (some i)=>m i
def FX {ids:qB} {k b:Nat} (h:mOf m ids k=.at b):∃i,ids[k]?=some (some i)/\m i=.at b:=by
 grind[mOf]
def abK {ids:qB} {A:Nat->Prop} {b:Nat} (h:Av (mOf m ids) A b):Av m A b:=by
 rcases h with h|⟨k,h⟩
 .exact .inl h
 .obtain⟨i,-,h⟩:=FX h
  exact .inr ⟨i,h⟩
def sZ {ids:qB} {k i:Nat} (h:ids[k]?=some (some i)):mOf m ids k=m i:=by simp_all[mOf]
def TV {ids:qB} {k:Nat} (h:ids[k]?=some none):mOf m ids k=.uB:=by simp_all[mOf]
def Slot (b1:Bk) (e1:@Ev b1) (b2:Bk) (e2:@Ev b2) (ids:qB) (x y:AV):Prop:=∀(m:Nat->St) (A:Nat->Prop) (w:World) (v:Value),@Rd b1 e1 m A w x v->@Rd b2 e2 (mOf m ids) A w y v
section
variable {b1:Bk} {e1:@Ev b1} {b2:Bk} {e2:@Ev b2} {ids:qB}
def Slot.pT {x:AV}:Slot b1 e1 b2 e2 ids x .pT:=fun m A w v h=>@Rd.pure b2 e2 _ A w _ _ (@eE.pT b2 e2 _ w v)
def Rd.aiy [Bk] [Ev] {m:Nat->St} {A:Nat->Prop} {w:World}:∀(k:Nat) (x:AV) (v:Value),Rd m A w x v->Rd m A w (den k x) v
 |0,x,v,h=>h
 |k+1,x,v,h=>by
  have s:∀(x:AV) (v:Value),Rd m A w x v->Rd m A w (den k x) v:=Rd.aiy k;cases h with
  |pure _ _ h=>exact .pure _ _ (h.MV (k+1))
  |agg cs vs r E e =>
   refine .agg _ vs (by simp_all) ?_ ?_
   .intro i x j
    rw[a0o]at j;obtain⟨y,o,rfl⟩:=a1b.1 j;exact(oU k y).trans (E i y o)
   .intro i x j
    rw[a0o]at j;obtain⟨y,o,rfl⟩:=a1b.1 j;exact s y _ (e i y o)
  |bG cs vs r e =>
   refine .bG _ vs (by simp_all) ?_;intro i x j;rw[a0o]at j;obtain⟨y,o,rfl⟩:=a1b.1 j;exact s y _ (e i y o)
  |rG t x v e=>exact .rG t _ v (s x v e)
  |own T d id i n b cap c l q u e=>exact .own T d id i n b cap c l q u e
  |vJ T d id i a c=>exact .vJ T d id i a c
  |wC T d id i n a n' cap c=>exact .wC T d id i n a n' cap c
  |ptr d id i off b c l=>exact .ptr d id i off b c l
  |N6 d id i off a c=>exact .N6 d id i off a c
  |fn f B z vs C r D h g=>exact .fn f B z vs C r D h g
  |yld id b c=>exact .yld id b c
  |aau id b c=>exact .aau id b c
  |mpv id b c=>exact .mpv id b c
  |abD id b c=>exact .abD id b c
  |view T d id i n b cap c=>exact .view T d id i n b cap c
  |CU T d id i n a cap c=>exact .CU T d id i n a cap c
  |cZ T d id n b len cap c l r q u e=>exact .cZ T d id n b len cap c l r q u e
  |uH T d id n a c q=>exact .uH T d id n a c q
  |uI T d id n a n' cap c=>exact .uI T d id n a n' cap c
  |nP d id p off b c l=>exact .nP d id p off b c l
  |AT d id p off a c=>exact .AT d id p off a c
def Slot.data {x y d:AV} (f:@den b1 e1 12 x=d) (e:@den b2 e2 12 y=d) (a:Cl d) (g:mW 12 y=true):Slot b1 e1 b2 e2 ids x y:=by
 subst f;intro m A w v h;have k:=@Rd.cl b1 e1 m A w _ a v (@Rd.aiy b1 e1 m A w 12 x v h);have c:=eE.cl (b2:=b2) (e2:=e2) a k;rw[<-e]at c;have j:=@eE.Fs b2 e2 _ w 12 y v g c;exact @Rd.pure b2 e2 _ A w _ _ (@eE.mono b2 e2 _ _ w w (a0h _) (fun b _ i=>⟨fun h=>i (abK h),rfl⟩) y v j)
def Slot.own {T sz id c i n:Nat} (h:ids[c]?=some (some id)):Slot b1 e1 b2 e2 ids (.own T sz id i n) (.own T sz c i n):=by
 intro m A w v e;have f:=sZ (m:=m) h;cases e with
 |pure _ _ h=>cases h
 |own _ _ _ _ _ b cap d k g j e=>exact @Rd.own b2 e2 _ A w T sz c i n b cap (f.trans d) k g j e
 |vJ _ _ _ _ a d=>exact @Rd.vJ b2 e2 _ A w T sz c i a (f.trans d)
 |wC _ _ _ _ _ a n' cap d=>exact @Rd.wC b2 e2 _ A w T sz c i n a n' cap (f.trans d)
def Slot.ptr {sz id c i off:Nat} (h:ids[c]?=some (some id)):Slot b1 e1 b2 e2 ids (.ptr sz id i off) (.ptr sz c i off):=by
 intro m A w v f;have e:=sZ (m:=m) h;cases f with
 |pure _ _ h=>cases h
 |ptr _ _ _ _ b d g=>exact @Rd.ptr b2 e2 _ A w sz c i off b (e.trans d) g
 |N6 _ _ _ _ a d=>exact @Rd.N6 b2 e2 _ A w sz c i off a (e.trans d)
def Slot.cZ {T sz id c:Nat} {n n':Poly} (h:ids[c]?=some (some id)) (i:cQ (@Ev.eZ b1 e1) n=cQ (@Ev.eZ b2 e2) n'):Slot b1 e1 b2 e2 ids (.cZ T sz id n) (.cZ T sz c n'):=by
 intro m A w v e;have f:=sZ (m:=m) h;cases e with
 |pure _ _ h=>cases h
 |cZ _ _ _ _ b len cap d o k g l e=>exact @Rd.cZ b2 e2 _ A w T sz c n' b len cap (f.trans d) o (i▸k) g l e
 |uH _ _ _ _ a d p=>exact @Rd.uH b2 e2 _ A w T sz c n' a (f.trans d) (i▸p)
 |uI _ _ _ _ a j cap d=>exact @Rd.uI b2 e2 _ A w T sz c n' a j cap (f.trans d)
def Slot.ahq {T sz id c n:Nat} {n':Poly} (h:ids[c]?=some (some id)) (j:(n:Int)=cQ (@Ev.eZ b2 e2) n'):Slot b1 e1 b2 e2 ids (.own T sz id 0 n) (.cZ T sz c n'):=by
 intro m A w v f;have e:=sZ (m:=m) h;cases f with
 |pure _ _ h=>cases h
 |own _ _ _ _ _ b cap d l g k f =>
  rw[a36];exact @Rd.cZ b2 e2 _ A w T sz c n' b n cap (e.trans d) l j.symm g k (by simp_all)
 |vJ _ _ _ _ a d=>exact @Rd.uH b2 e2 _ A w T sz c n' a (e.trans d) (by omega)
 |wC _ _ _ _ _ a i cap d=>exact @Rd.uI b2 e2 _ A w T sz c n' a i cap (e.trans d)
def Slot.nP {sz id c off:Nat} {p e:Poly} (h:ids[c]?=some (some id)) (i:cQ (@Ev.eZ b1 e1) p=cQ (@Ev.eZ b2 e2) e):Slot b1 e1 b2 e2 ids (.nP sz id p off) (.nP sz c e off):=by
 intro m A w v g;have f:=sZ (m:=m) h;cases g with
 |pure _ _ h=>cases h
 |nP _ _ _ _ b d j=>rw[i];exact @Rd.nP b2 e2 _ A w sz c e off b (f.trans d) j
 |AT _ _ _ _ a d=>exact @Rd.AT b2 e2 _ A w sz c e off a (f.trans d)
inductive zY (b1:Bk) (e1:@Ev b1) (b2:Bk) (e2:@Ev b2) (ids:qB):List AV->List AV->Prop
 |nil:zY b1 e1 b2 e2 ids [] []
 |cons {x y:AV} {l l':List AV} (h:Slot b1 e1 b2 e2 ids x y) (hl:zY b1 e1 b2 e2 ids l l'):zY b1 e1 b2 e2 ids (x::l) (y::l')
def zY.get {l l':List AV} (h:zY b1 e1 b2 e2 ids l l'):l'.length=l.length/\∀(i:Nat) (y:AV),l'[i]?=some y->∃x,l[i]?=some x/\Slot b1 e1 b2 e2 ids x y:=by
 induction h<;>grind
def Slot.agg {cs cs':List AV} (h:zY b1 e1 b2 e2 ids cs cs') (h1:cs'.all (fun x=>x.one)=true):Slot b1 e1 b2 e2 ids (.agg cs) (.agg cs'):=by
 intro m A w v c;obtain⟨f,hs⟩:=h.get;obtain⟨vs,rfl,e,d⟩:=@Rd.qA b1 e1 m A w cs v c;refine @Rd.agg b2 e2 _ A w cs' vs (by omega) ?_ ?_
 .grind
 .intro i y a
  obtain⟨x,b,hs⟩:=hs i y a;exact hs m A w _ (d i x b).2
def Oy (b1:Bk) (e1:@Ev b1) (b2:Bk) (e2:@Ev b2) (ids:qB) (h1:AH) (o:Option Nat) (B:dC):Prop:=@sA b2 e2 B/\match o with
 |none=>∃T c,@dC.bL b2 e2 B=some (T,c,[])
 |some i=>∃T c b a,@dC.bL b1 e1 (h1 i)=some (T,c,b)/\@dC.bL b2 e2 B=some (T,c,a)/\a.length=b.length/\(∀(i j:Nat) (y:AV),iE a i j=some y->∃x,iE b i j=some x/\x.one=y.one/\Slot b1 e1 b2 e2 ids x y)/\((∀e∈b,e.length=c)->∀e∈a,e.length=c)
inductive aas (b1:Bk) (e1:@Ev b1) (b2:Bk) (e2:@Ev b2) (ids:qB) (h1:AH):qB->List dC->Prop
 |nil:aas b1 e1 b2 e2 ids h1 [] []
 |cons {o:Option Nat} {B:dC} {l:qB} {bs:List dC} (h:Oy b1 e1 b2 e2 ids h1 o B) (hl:aas b1 e1 b2 e2 ids h1 l bs):aas b1 e1 b2 e2 ids h1 (o::l) (B::bs)
def aas.get {h1:AH} {l:qB} {bs:List dC} (h:aas b1 e1 b2 e2 ids h1 l bs):l.length=bs.length/\∀(k:Nat) (o:Option Nat),l[k]?=some o->∃B,bs[k]?=some B/\Oy b1 e1 b2 e2 ids h1 o B:=by
 induction h<;>grind
def eB (bs:List dC):AH:=fun k=>bs.getD k .no
def dZ.to {A:Nat->Prop} {w0:World} {a0:Act} {w:World} {a:Act} {f1 f2:List AV} {h1:AH} {bs:List dC} (K:@dZ b1 e1 A w0 a0 m w a f1 h1) (U:zY b1 e1 b2 e2 ids f1 f2) (X:aas b1 e1 b2 e2 ids h1 ids bs) (nd:∀(i j k:Nat),ids[i]?=some (some k)->ids[j]?=some (some k)->i=j) (S:b2.mS=[]:=by rfl) :
  @dZ b2 e2 A w0 a0 (mOf m ids) w a f2 (eB bs):=by
 obtain⟨hl,hs⟩:=U.get;obtain⟨bl,bg⟩:=X.get;have at_:∀k B,eB bs k=B->(B=.no/\mOf m ids k=.no)\/∃o,ids[k]?=some o/\Oy b1 e1 b2 e2 ids h1 o B:=by
  grind[mOf,eB]
 have d:∀o B,Oy b1 e1 b2 e2 ids h1 o B->∃t,@dC.bL b2 e2 B=some t:=by
  rintro(_|i) B ⟨-,h⟩<;>grind
 obtain⟨E,⟨ac,v,af,F,f,ae,C,ad,ab⟩,⟨G,z,p⟩,N⟩:=K;refine⟨?_,⟨?_,v,?_,?_,?_,?_,?_,?_,?_⟩,⟨?_,?_,?_⟩,N⟩
 .refine⟨E.os,E.tape,E.output,E.size,fun _ _ h=>(by cases h),fun _ h=>(by cases h),fun _ h=>(by cases h),?_,fun _ _ h=>(by cases h)⟩
  intro b V P;obtain⟨r,e⟩:=E.un b V P;refine⟨?_,e⟩;intro k c;obtain⟨i,-,h⟩:=FX c;grind
 .intro k b c
  obtain⟨i,-,h⟩:=FX c;grind
 .intro k c
  rcases at_ k _ c with⟨-,h⟩|⟨o,-,h⟩
  .exact h
  .obtain⟨t,l⟩:=d o _ h
   cases l
 .intro k c
  rcases at_ k _ c with⟨h,-⟩|⟨o,-,h⟩
  .cases h
  .obtain⟨t,l⟩:=d o _ h
   cases l
 .intro k T H bL c
  rcases at_ k _ rfl with⟨h,-⟩|⟨o,u,h⟩
  .rw[h]at c;cases c
  .cases o with
   |none =>
    obtain⟨-,T',q,h⟩:=h;rw[c]at h;cases h;exact .inl ⟨TV u,rfl⟩
   |some i =>
    obtain⟨-,T',q,n,aa,r,e,k3,M,L⟩:=h;rw[c]at e;cases e;rw[sZ u];rcases f i T H n r with⟨g1,g2⟩|⟨b,cs,g1,g2,g3,Z,Y⟩
    .grind
    .refine .inr ⟨b,cs,g1,g2,by grind,L Z,?_⟩
     intro s j y g;obtain⟨x,J,q2,I⟩:=M s j y g;obtain⟨r1,r2⟩:=Y _ _ _ J;exact⟨by grind,I m A w _ r2⟩
 .intro i j b R Q
  obtain⟨s,c1,c2⟩:=FX R;obtain⟨j',c3,c4⟩:=FX Q;grind
 .exact @GOk.none b2 A w S
 .grind[dC.other,dC.aeR]
 .intro k
  rcases at_ k _ rfl with⟨h,-⟩|⟨o,-,h⟩
  .rw[h];trivial
  .exact h.1
 .omega
 .intro i y g
  obtain⟨x,O,h⟩:=hs i y g;exact h m A w _ (z i x O)
 .obtain⟨Ds,d1,d2,d3⟩:=p
  refine⟨Ds,d1,d2,fun D W=>⟨(d3 D W).1,?_⟩⟩;intro k c;obtain⟨i,-,h⟩:=FX c;grind
end
section
variable {P:Program}
def Fin (P:Program) (fn:Func) (A:Nat->Prop) (w0:World) (a0:Act) (r:AV):iO:=fun e a w=>(e=.normal\/e=.ret)/\∃(b:Bk) (ev:@Ev b) (m:Nat->St) (f:List AV) (h:AH) (x y:AV) (c:List Nat),@dZ b ev A w0 a0 m w a f h/\fJ P fn f h=some x/\vR h 16 x=some (y,c)/\@den b ev 12 y=r
def CK.fP {F:FuncId} {fn:Func} {c:Code} {as:List AV} {r:AV} (Q:P.funcs[F]?=some fn) (j:fn.body=some c) (Y:∀x∈as,Cl x) (B:Cl r)
  (k:∀(A:Nat->Prop) (w0:World) (a0:Act),@AW dK dN P A w0 a0 c (Fin P fn A w0 a0 r) (as++List.replicate (fn.ntmps-as.length) .undef) (fun _=>.no)):CK P F as r:=by
 refine⟨Y,B,?_⟩
 intro A w vs T Z O M;have C:@nJ dK dN (fun _=>.no) A w (as++List.replicate (fn.ntmps-as.length) .undef) { tmps:=vs++Array.replicate (fn.ntmps-vs.size) Go.undef,defers:=[] }:=by
  refine @nJ.mk dK dN _ _ _ _ _ (by simp[O]) ?_ (Marks.nil _ _);intro i x a;rcases a0u i as.length with h|h
  .rw[a18 h]at a
   have f:=M i x a;have p:i<vs.size:=(by omega);have e1:(vs++Array.replicate (fn.ntmps-vs.size) Go.undef).getD i Go.undef=vs.getD i Go.undef:=(by simp[a1p,p]);rw[show({ tmps:=vs++Array.replicate (fn.ntmps-vs.size) Go.undef,defers:=[] }:Act).tmps.getD i Go.undef=vs.getD i Go.undef from e1];exact @Rd.pure dK dN _ A w x _ (@eE.mono dK dN A _ w w (a0h _) (fun b _ j=>⟨fun h=>h.elim j (fun⟨_,h⟩=>by cases h),rfl⟩) x _ f)
  .rw[a1u h,a4y]at a
   split at a
   .cases a
    have q:¬ i<vs.size:=(by omega)
    have:(vs++Array.replicate (fn.ntmps-vs.size) Go.undef).getD i Go.undef=Go.undef:=by
     simp[a1p,q,a3s]
     simp_all
    rw[show({ tmps:=vs++Array.replicate (fn.ntmps-vs.size) Go.undef,defers:=[] }:Act).tmps.getD i Go.undef=Go.undef from this];exact @Rd.pure dK dN _ A w _ _ (@eE.undef dK dN _ w)
   simp_all
 have o:@dZ dK dN A w { tmps:=vs++Array.replicate (fn.ntmps-vs.size) Go.undef,defers:=[] } (fun _=>.no) w { tmps:=vs++Array.replicate (fn.ntmps-vs.size) Go.undef,defers:=[] } (as++List.replicate (fn.ntmps-as.length) .undef) (fun _=>.no) :=
  @dZ.mk dK dN A w _ _ w _ _ _ (@Ext.refl dK dN _ w) (@dV.none dK dN A w T (fun t h=>absurd h a0b)) C (tZ.refl _ _)
 refine M9 (r:=none) (n:=9) |>.1 (callsIn_of_wp_marks Q j trivial (wpIn_mono (k A w _ _ w _ o) ?_));rintro e m w' ⟨R,b,ev,J,V,h',x,y,K,d,a,L,N⟩
 have fin:LeavesInM (fw none) 9 P fn m.tmps (fun e w'=>∃v,e=.returned v/\@eE dK dN A w' r v/\Below w.heap.size w w') m.defers .returning w':=by
  obtain⟨g,X,z,u⟩:=d.fr.defers;have W:∀D∈g,w.heap.size<=D:=by
   intro D s;rcases d.new (mark D) (by grind)with l|⟨D',l,f⟩<;>simp_all[mark]
  obtain⟨r1,r2,I⟩:=Mg g w' d.rel z u W d.ext;have E:@nJ b ev J A (C0 w' g) V { tmps:=m.tmps,defers:=[] }:=@nJ.mk b ev _ _ _ _ _ d.fr.size (fun i x a=>I _ _ (d.fr.rd i x a)) (Marks.nil _ _);obtain⟨v,H,G⟩:=IG r1 E a;rw[X];refine xT g w' z (fun D s=>(u D s).1) ⟨v,H,v,rfl,?_,@Ext.below b ev _ _ _ _ r2 fun id b h=>by cases h⟩
  have l:=F7 r1 K L (fun id h=>h) G;have f:=@eE.MV b ev _ _ 12 y v l;rw[N]at f;have U:=eE.cl (b2:=dK) (e2:=dN) B f;exact @eE.mono dK dN _ _ _ _ (a0h _) (fun c _ S=>⟨fun h=>S (.inl h),rfl⟩) _ _ U
 rcases R with rfl|rfl
 .exact fin
 .exact fin
end
end Mc
namespace Mc
variable {o:Option (RT Out)} {m:Nat->St} {A:Nat->Prop} {ids:qB} {k:Nat} {Φ:iO} {bs:List dC}
def O4 (o:Option (RT Out)):Bool:=match o with|some r=>(match r.a with | .stop ..=>true|_=>false)|none=>false
def aW (o:Option (RT Out)):Code:=match o with|some r=>(match r.a with | .stop c _ _=>c|_=>.skip)|none=>.skip
def oK (o:Option (RT Out)):List KI:=match o with|some r=>(match r.a with | .stop _ k _=>k|_=>[])|none=>[]
def oF (o:Option (RT Out)):Ft:=match o with|some r=>(match r.a with | .stop _ _ f=>f | .done _ f=>f)|none=>.leaf
def oT (o:Option (RT Out)):Tr:=match o with|some r=>r.t|none=>.leaf
def O6 (o:Option (RT Out)):Option Nat:=match o with|some r=>(match r.a with | .done .normal _=>some 0 | .done .ret _=>some 1 | .done (.exit i) _=>some (i+2)|_=>none)|none=>none
def xOf:Nat->AX
 |0=>.normal
 |1=>.ret
 |k+2=>.exit k
def TN (h:O4 o=true):∃r,o=some r/\r.a=.stop (aW o) (oK o) (oF o)/\r.t=oT o:=by
 unfold O4 at h;cases o with
 |none=>cases h
 |some r =>
  simp only at h;cases b:r.a with
  |stop c k f=>exact⟨r,rfl,by simp_all[aW,oK,oF],rfl⟩
  |done x f=>simp_all
def TO {x:Nat} (h:O6 o=some x):∃r,o=some r/\r.a=.done (xOf x) (oF o)/\r.t=oT o:=by
 unfold O6 at h;cases o with
 |none=>cases h
 |some r =>
  simp only at h;cases b:r.a with
  |stop c k f=>simp_all
  |done y f =>
   rw[b]at h;cases y<;>(simp only at h;cases h;exact⟨r,rfl,by simp only[oF,b];rfl,rfl⟩)
theorem adL {l a:List AV} {b:Ft} [Bk] [Ev] (h:FR l b) (c:Ft.list b 4096 0=some a):l=a:=by
 have:=h.list 4096 0 a c
 simp_all
section
variable {P:Program}
section
variable [Bk] [Ev]
def AW.stops (e:lL P) {L d k N n:Nat} {A:Nat->Prop} {w0:World} {a0:Act} {c:Code} {Φ:iO} {f a:List AV} {t:Tr} (o:Option (RT Out)) (b:oG P (lG P L d) L k c (Ft.of N f) t n=o) (hs:O4 o=true) (q:Ft.list (oF o) 4096 0=some a) (g:f.length<=N)
  (p:AW P A w0 a0 (.loop (aW o)) (KS P (oK o) Φ) a (oT o).get):AW P A w0 a0 c Φ f t.get:=by
 obtain⟨r,j,i,h⟩:=TN hs;refine qO e k c Φ (Ft.of N f) t n r (b.trans j) ?_ f (fun k=>Ft.CA N f k g);rw[i,h];intro l m;grind[adL]
def AW.ends (e:lL P) {L d k N n x:Nat} {A:Nat->Prop} {w0:World} {a0:Act} {c:Code} {Φ:iO} {f a:List AV} {t:Tr} (o:Option (RT Out)) (b:oG P (lG P L d) L k c (Ft.of N f) t n=o) (hs:O6 o=some x) (q:Ft.list (oF o) 4096 0=some a) (g:f.length<=N)
  (p:Sat A w0 a0 (xOf x).to Φ a (oT o).get):AW P A w0 a0 c Φ f t.get:=by
 obtain⟨r,j,i,h⟩:=TO hs;refine qO e k c Φ (Ft.of N f) t n r (b.trans j) ?_ f (fun k=>Ft.CA N f k g);rw[i,h];intro l m;grind[adL]
def Sat.stops (c:lL P) {L d N n:Nat} {x:AX} {k:List KI} {A:Nat->Prop} {w0:World} {a0:Act} {Φ:iO} {f a:List AV} {t:Tr} (o:Option (RT Out)) (b:tW P (lG P L d) L k x (Ft.of N f) t n=o) (hs:O4 o=true) (p:Ft.list (oF o) 4096 0=some a) (e:f.length<=N)
  (m:AW P A w0 a0 (.loop (aW o)) (KS P (oK o) Φ) a (oT o).get):Sat A w0 a0 x.to (KS P k Φ) f t.get:=by
 obtain⟨r,i,h,g⟩:=TN hs;refine tV c k x (Ft.of N f) t n r (b.trans i) ?_ f (fun k=>Ft.CA N f k e);rw[h,g];intro l j;grind[adL]
def Sat.ends (c:lL P) {L d N n y:Nat} {x:AX} {k:List KI} {A:Nat->Prop} {w0:World} {a0:Act} {Φ:iO} {f a:List AV} {t:Tr} (o:Option (RT Out)) (b:tW P (lG P L d) L k x (Ft.of N f) t n=o) (hs:O6 o=some y) (p:Ft.list (oF o) 4096 0=some a) (e:f.length<=N)
  (m:Sat A w0 a0 (xOf y).to Φ a (oT o).get):Sat A w0 a0 x.to (KS P k Φ) f t.get:=by
 obtain⟨r,i,h,g⟩:=TO hs;refine tV c k x (Ft.of N f) t n r (b.trans i) ?_ f (fun k=>Ft.CA N f k e);rw[h,g];intro l j;grind[adL]
end
def Iw (ids:qB):Nat->AV->AV->Bool
 |0,_,_=>false
 |k+1,x,y=>match y with
  | .pT=>true
  | .own T c id i n=>(match x with | .own f a b e n'=>decide (f=T/\a=c/\e=i/\n'=n)&&decide (ids[id]?=some (some b))|_=>false)
  | .ptr c id i off=>(match x with | .ptr a b e d=>decide (a=c/\e=i/\d=off)&&decide (ids[id]?=some (some b))|_=>false)
  | .cZ T c id n=>(match x with | .cZ f a b n'=>decide (f=T/\a=c/\n'=n)&&decide (ids[id]?=some (some b))|_=>false)
  | .nP c id p off=>(match x with | .nP a b h d=>decide (a=c/\h=p/\d=off)&&decide (ids[id]?=some (some b))|_=>false)
  | .agg cs=>(match x with | .agg g=>LL (Iw ids k) g cs&&cs.all (fun x=>x.one)|_=>false)
  |y=>AN 16 x y
def zC:Nat->AV->Bool
 |0,_=>false
 |k+1,x=>match x with
  | .c _ | .undef | .emp | .e _ | .o _ | .any | .seq .. | .row ..=>true
  | .agg l=>l.all (zC k)
  | .bG l=>l.all (zC k)
  | .lit ..=>true
  |_=>false
def Rd.plain [Bk] [Ev] {w:World}:∀{k:Nat} {x:AV} {v:Value},zC k x=true->Rd m A w x v->eE (Av m A) w x v
 |0,x,v,h,_=>by cases h
 |k+1,x,v,h,b=>by
  cases b with
  |pure _ _ h=>exact h
  |agg cs vs c d b=>exact .agg cs vs c d fun i x a=>Rd.plain (a0i.1 h x (a0a a)) (b i x a)
  |bG cs vs c b=>exact .bG cs vs c fun i x a=>Rd.plain (a0i.1 h x (a0a a)) (b i x a)
  |_=>cases h
def Nz:∀{k:Nat} {x y:AV},AN k x y=true->zC k y=true
 |0,x,y,h=>by cases h
 |k+1,x,y,h=>by
  have c:∀(a b:List AV),LL (AN k) a b=true->b.all (zC k)=true:=by
   intro a;induction a with
   |nil=>intro b h;cases b with
    |nil=>rfl
    |cons y b=>cases h
   |cons x a d=>intro b h;cases b with
    |nil=>cases h
    |cons y b =>
     unfold LL at h;rw[a0e]at h;rw[a4i,Nz h.1,d b h.2];rfl
  unfold AN at h;split at h<;>first|rfl|exact c _ _ h|cases h
def Slot.same [b:Bk] [e:Ev] {x:AV} (a:zC k x=true):Slot b e b e ids x x:=fun m A w v h =>
 .pure _ _ ((h.plain a).mono (a0h _) fun c _ d=>⟨fun h=>d (abK h),rfl⟩)
def Me [b:Bk] [e:Ev] {ids:qB}:∀{k:Nat} {x y:AV},Iw ids k x y=true->Slot b e b e ids x y
 |0,x,y,h=>by cases h
 |k+1,x,y,h=>by
  unfold Iw at h;split at h
  .exact Slot.pT
  .split at h
   .rw[a0e,decide_eq_true_eq,decide_eq_true_eq]at h
    obtain⟨⟨rfl,rfl,rfl,rfl⟩,h⟩:=h;exact Slot.own h
   .cases h
  .split at h
   .rw[a0e,decide_eq_true_eq,decide_eq_true_eq]at h
    obtain⟨⟨rfl,rfl,rfl⟩,h⟩:=h;exact Slot.ptr h
   .cases h
  .split at h
   .rw[a0e,decide_eq_true_eq,decide_eq_true_eq]at h
    obtain⟨⟨rfl,rfl,rfl⟩,h⟩:=h;exact Slot.cZ h rfl
   .cases h
  .split at h
   .rw[a0e,decide_eq_true_eq,decide_eq_true_eq]at h
    obtain⟨⟨rfl,rfl,rfl⟩,h⟩:=h;exact Slot.nP h rfl
   .cases h
  .split at h
   .rename_i cs f
    rw[a0e]at h;refine Slot.agg ?_ h.2
    have:∀(a c:List AV),LL (Iw ids k) a c=true->zY b e b e ids a c:=by
     intro a;induction a with
     |nil=>intro c h;cases c with
      |nil=>exact .nil
      |cons y c=>cases h
     |cons x a d=>intro c h;cases c with
      |nil=>cases h
      |cons y c =>
       unfold LL at h;rw[a0e]at h;exact .cons (Me h.1) (d c h.2)
    simp_all
   .cases h
  .have e1:=yA h
   have e2:=Nz h;rw[e1];exact Slot.same e2
def aob (ids:qB) (h:AH) (o:Option Nat) (B:dC):Bool:=match o with
 |none=>false
 |some i=>match B with
  | .cells T c bL=>(match h i with | .cells g a f=>decide (g=T/\a=c)&&(Ia (Iw ids 16) f bL&&bL.all (·.all fun x=>x.one))|_=>false)
  | .sc T c base cJ tail n=>(match h i with | .sc g a d e b n'=>decide (g=T/\a=c/\n'=n)&&(AN 16 (.seq a d e b) (.seq c base cJ tail)&&(cJ.all (·.2.all (zC 16))&&tail.all (·.all (zC 16))))|_=>false)
  |_=>false
def A8 [Bk] [Ev] {base:Nat} {cJ:List (Poly×List AV)} {tail:List (List AV)} {e:List AV} (h:e∈rowsOf base cJ tail):e∈Ev.seq base\/(∃q∈cJ,e=q.2)\/e∈tail:=by
 have key:∀(cJ:List (Poly×List AV)) (l:List (List AV)),e∈cJ.foldl (fun l q=>l.set (cQ Ev.eZ q.1).toNat q.2) l->e∈l\/∃q∈cJ,e=q.2:=by
  intro cJ;induction cJ<;>grind
 grind[rowsOf]
def Slot.cl [b:Bk] [e:Ev] {ids:qB} {x:AV} (a:Cl x):Slot b e b e ids x x:=fun m A w v h =>
 .pure _ _ ((h.cl a).mono (a0h _) fun c _ d=>⟨fun h=>d (abK h),rfl⟩)
def adS {r:AV->AV->Bool} {a c:List (List AV)} (h:Ia r a c=true):c.length=a.length/\∀(i j:Nat) (y:AV),iE c i j=some y->∃x,iE a i j=some x/\r x y=true:=by
 obtain⟨g,f⟩:=EP h;refine⟨g.symm,?_⟩;intro i j y b;unfold iE at b;cases d:c[i]? with
 |none=>simp_all
 |some e =>
  rw[d]at b;obtain⟨l,g1,g2⟩:=f i e d;obtain⟨-,k⟩:=uW g2;simp_all[iE]
def adR {r:AV->AV->Bool} {a c:List (List AV)} {sz:Nat} (h:Ia r a c=true) (f:∀e∈a,e.length=sz):∀e∈c,e.length=sz:=by
 intro e d;obtain⟨i,b⟩:=a1j.1 d;obtain⟨g,g1,g2⟩:=(EP h).2 i e b;rw[<-(uW g2).1];grind
def OD {x y:AV} (h:Iw ids k x y=true) (a:y.one=true):x.one=true:=by
 cases k with
 |zero=>cases h
 |succ k =>
  unfold Iw at h;grind[AV.one,yA]
def ak6 [b:Bk] [e:Ev] {h:AH} (hs:∀i,sA (h i)) {o:Option Nat} {B:dC} (a:aob ids h o B=true):Oy b e b e ids h o B:=by
 unfold aob at a;cases o with
 |none=>cases a
 |some i =>
  simp only at a;split at a
  .rename_i T C bL
   split at a
   .rename_i u f t k
    rw[a0e,a0e,decide_eq_true_eq]at a;obtain⟨⟨rfl,rfl⟩,d,s⟩:=a;obtain⟨F,E⟩:=adS d;refine⟨trivial,u,f,t,bL,by rw[k];rfl,rfl,F,?_,adR d⟩;intro i j y g;obtain⟨x,D,v⟩:=E i j y g;obtain⟨r,p,c⟩:=pZ g;have l:y.one=true:=a0i.1 (a0i.1 s r p) y c;exact⟨x,D,by rw[l];exact OD v l,Me v⟩
   simp_all
  .rename_i T C base cJ tail n
   split at a
   .rename_i u f z A w n' k
    rw[a0e,a0e,a0e,decide_eq_true_eq]at a;obtain⟨⟨rfl,rfl,rfl⟩,d,s,G⟩:=a;have d:=yA d;cases d;have m:=hs i;rw[k]at m;refine⟨m,u,f,rowsOf base cJ tail,rowsOf base cJ tail,by rw[k];rfl,rfl,rfl,?_,fun h=>h⟩
    intro i j y g;refine⟨y,g,rfl,?_⟩;obtain⟨r,p,c⟩:=pZ g;rcases A8 p with h|⟨q,h,rfl⟩|h
    .exact Slot.cl (Ev.vF base r h y c)
    .exact Slot.same (a0i.1 (a0i.1 s q h) y c)
    .exact Slot.same (a0i.1 (a0i.1 G r h) y c)
   simp_all
  simp_all
def Xe (n:Nat):qB:=(List.range n).map some
def Ap {n:Nat} (h:k<n):(Xe n)[k]?=some (some k):=by simp_all[Xe]
section
variable {b1:Bk} {e1:@Ev b1} {b2:Bk} {e2:@Ev b2} {ids:qB}
end
def LY (bs:List dC):Tr:=(bs.foldl (fun(q:Tr×Nat) B=>(q.1.set q.2 B,q.2+1)) (.leaf,0)).1
def CX [Bk] [Ev] (bs:List dC):(LY bs).get=eB bs:=by
 have key:∀(bs a:List dC) (t:Tr),t.get=eB a->((bs.foldl (fun(q:Tr×Nat) B=>(q.1.set q.2 B,q.2+1)) (t,a.length)).1).get=eB (a++bs):=by
  intro bs;induction bs with
  |nil=>simp_all
  |cons B bs b =>
   intro a t h;rw[a25];have:=b (a++[B]) (t.set a.length B) ?_
   .simp_all
   .rw[Tr.adH,h]
    funext k;unfold gO eB;by_cases c:k=a.length
    .simp_all
    .rw[if_neg c]
     rcases a0u k a.length with e|f
     .grind
     .have g:a.length+1<=k:=by omega
      simp_all
 have d:Tr.leaf.get=eB []:=by
  grind[Tr.nG,eB]
 exact key bs [] .leaf d
def LA (o:Option (RT Out)):List AV:=(Ft.list (oF o) 4096 0).getD []
def okB (o:Option (RT Out)):Bool:=(Ft.list (oF o) 4096 0).isSome
def ahG (h:okB o=true):Ft.list (oF o) 4096 0=some (LA o):=by
 unfold okB at h;unfold LA;cases a:Ft.list (oF o) 4096 0<;>simp_all
def OB (o:Option (RT Out)):Bool:=O4 o&&okB o
def pI (o:Option (RT Out)) (x:Nat):Bool:=decide (O6 o=some x)&&okB o
def SW (h:OB o=true):O4 o=true/\Ft.list (oF o) 4096 0=some (LA o):=by
 unfold OB at h;rw[a0e]at h;exact⟨h.1,ahG h.2⟩
def Xw {x:Nat} (h:pI o x=true):O6 o=some x/\Ft.list (oF o) 4096 0=some (LA o):=by
 unfold pI at h;rw[a0e,decide_eq_true_eq]at h;exact⟨h.1,ahG h.2⟩
def agn (b:Bk) (ev:@Ev b) (h:@lL b ev P) {L d N n:Nat} {w0:World} {a0:Act} {c:Code} {f:List AV} (o:Option (RT Out)) (g:@oG b P (@lG b P L d) L k c (Ft.of N f) (LY bs) n=o) (hs:OB o=true) (i:f.length<=N)
  {w:World} {a:Act} (p:@dZ b ev A w0 a0 m w a f (eB bs)) (e:∀m w a,@dZ b ev A w0 a0 m w a (LA o) (oT o).get->(Code.loop (aW o)).wpIn (fw none) 9 P (KS P (oK o) Φ) a w):c.wpIn (fw none) 9 P Φ a w:=by
 obtain⟨l,j⟩:=SW hs;exact @AW.stops P b ev h L d k N n A w0 a0 c Φ f (LA o) (LY bs) o g l j i e m w a (by simp_all[CX])
def Ef (b:Bk) (ev:@Ev b) (h:@lL b ev P) {L d N n x:Nat} {w0:World} {a0:Act} {c:Code} {f:List AV} (o:Option (RT Out)) (g:@oG b P (@lG b P L d) L k c (Ft.of N f) (LY bs) n=o) (hs:pI o x=true) (i:f.length<=N)
  {w:World} {a:Act} (p:@dZ b ev A w0 a0 m w a f (eB bs)) (e:∀m w a,@dZ b ev A w0 a0 m w a (LA o) (oT o).get->Φ (xOf x).to a w):c.wpIn (fw none) 9 P Φ a w:=by
 obtain⟨l,j⟩:=Xw hs;exact @AW.ends P b ev h L d k N n x A w0 a0 c Φ f (LA o) (LY bs) o g l j i e m w a (by simp_all[CX])
def agq (b:Bk) (ev:@Ev b) (g:@lL b ev P) {L d N n:Nat} {x:AX} {k:List KI} {w0:World} {a0:Act} {f:List AV} (o:Option (RT Out)) (e:@tW b P (@lG b P L d) L k x (Ft.of N f) (LY bs) n=o) (hs:OB o=true) (h:f.length<=N)
  {w:World} {a:Act} (l:@dZ b ev A w0 a0 m w a f (eB bs)) (c:∀m w a,@dZ b ev A w0 a0 m w a (LA o) (oT o).get->(Code.loop (aW o)).wpIn (fw none) 9 P (KS P (oK o) Φ) a w):KS P k Φ x.to a w:=by
 obtain⟨j,i⟩:=SW hs;exact @Sat.stops P b ev g L d N n x k A w0 a0 Φ f (LA o) (LY bs) o e j i h c m w a (by simp_all[CX])
def Mt (b:Bk) (ev:@Ev b) (g:@lL b ev P) {L d N n y:Nat} {x:AX} {k:List KI} {w0:World} {a0:Act} {f:List AV} (o:Option (RT Out)) (e:@tW b P (@lG b P L d) L k x (Ft.of N f) (LY bs) n=o) (hs:pI o y=true) (h:f.length<=N)
  {w:World} {a:Act} (l:@dZ b ev A w0 a0 m w a f (eB bs)) (c:∀m w a,@dZ b ev A w0 a0 m w a (LA o) (oT o).get->Φ (xOf y).to a w):KS P k Φ x.to a w:=by
 obtain⟨j,i⟩:=Xw hs;exact @Sat.ends P b ev g L d N n y x k A w0 a0 Φ f (LA o) (LY bs) o e j i h c m w a (by simp_all[CX])
def xKn (b:Bk) (ev:@Ev b) (a:@SB b ev P b.bR) (h1:b.ext=[]:=by rfl) (c:b.yes=[]:=by rfl):@lL b ev P:=⟨by simp_all,by simp_all,a⟩
def lW (xs:List Int) (i:Nat):cQ (fun k=>xs.getD k 0) [([i],1)]=xs.getD i 0:=by simp[cQ,uA]
end
end Mc
namespace Mc
variable {ρ:Nat->Int}
def FW:Nat->AV->Bool
 |0,_=>false
 |k+1,x=>match x with
  | .e _=>true
  | .o _=>true
  | .c _=>true
  | .undef=>true
  | .emp=>true
  | .any=>true
  | .agg cs=>cs.all (FW k)
  | .bG cs=>cs.all (FW k)
  | .lit _ bL=>bL.all (·.all (FW k))
  | .seq _ _ cJ tail=>cJ.all (fun q=>q.2.all (FW k))&&tail.all (·.all (FW k))
  | .rG _ v=>FW k v
  |_=>false
def Sc [Bk] [Ev]:∀(k:Nat) (x:AV),FW k x=true->Cl (den k x)
 |0,x,h=>by cases h
 |k+1,x,h=>by
  have f:∀(l:List AV),l.all (FW k)=true->∀y∈l.map (den k),Cl y:=by
   intro l s y w;obtain⟨z,a,rfl⟩:=a0l.1 w;exact Sc k z (a0i.1 s z a)
  cases x with
  |e p=>exact .c _
  |o i=>exact .c _
  |c v=>exact .c v
  |undef=>exact .undef
  |emp=>exact .emp
  |any=>exact .any
  |agg cs=>exact .agg _ (f cs h)
  |bG cs=>exact .bG _ (f cs h)
  |rG t v=>exact .rG t _ (Sc k v h)
  |lit g bL =>
   refine .lit g _ ?_;intro r b;obtain⟨z,a,rfl⟩:=a0l.1 b;exact f z (a0i.1 h z a)
  |seq g base cJ tail =>
   simp only[FW,a0e]at h;refine .lit g _ ?_
   rw[Sw];have key:∀(d:List (Poly×List AV)) (l:List (List AV)),(∀e∈l,∀x∈e,Cl x)->(∀q∈d,∀x∈q.2,Cl x)->∀e∈d.foldl (fun l q=>l.set (evP Ev.eZ q.1).toNat q.2) l,∀x∈e,Cl x:=by
    intro d;induction d with
    |nil=>simp_all
    |cons q d m =>
     intro l s j;refine m _ ?_ fun u n=>j u (a03 _ n)
     grind
   intro r b;rcases a0m.1 b with b|b
   .refine key _ _ (Ev.vF base) ?_ r b
    intro q j;obtain⟨z,a,rfl⟩:=a0l.1 j;exact f z.2 (a0i.1 h.1 z a)
   .obtain⟨z,a,rfl⟩:=a0l.1 b
    exact f z (a0i.1 h.2 z a)
  |_=>cases h
def tU:∀(k:Nat) (x:AV),Cl x->mW k x=true
 |0,_,_=>rfl
 |k+1,x,h=>by
  cases h with
  |c v=>rfl
  |undef=>rfl
  |emp=>rfl
  |any=>rfl
  |agg cs h=>exact a0i.2 fun y a=>tU k y (h y a)
  |bG cs h=>exact a0i.2 fun y a=>tU k y (h y a)
  |lit d bL h=>exact a0i.2 fun r b=>a0i.2 fun y a=>tU k y (h r b y a)
  |rG t y h=>exact tU k y h
section
variable {b:Bk} {ev:@Ev b} {n:Nat}
end
section
variable {b:Bk} {ev:@Ev b} {n:Nat}
def ad7 (b1:Bk) (e1:@Ev b1) (b2:Bk) (e2:@Ev b2) (ids:qB) {h1:AH} {bs:List dC} (f:Nat->Option Nat) (h:∀i B,bs[i]?=some B->Oy b1 e1 b2 e2 ids h1 (f i) B):aas b1 e1 b2 e2 ids h1 ((List.range bs.length).map f) bs:=by
 induction bs generalizing f with
 |nil=>exact .nil
 |cons B bs a =>
  rw[a0t,List.range_succ_eq_map,a01,a2i];exact .cons (h 0 B rfl) (a (f∘Nat.succ) fun i b c=>h (i+1) b (by simp_all))
end
def ajY {r p q:Poly} {x y n:Int} (a:cQ ρ r=x) (c:cQ ρ p=y) (b:cQ ρ q=n) (d:0<=y) (h:x=y/n):cQ ρ r=(cQ ρ p).tdiv (cQ ρ q):=by grind
def ajU {r p q:Poly} {x y n:Int} (a:cQ ρ r=x) (c:cQ ρ p=y) (b:cQ ρ q=n) (d:0<=y) (h:x=y%n):cQ ρ r=(cQ ρ p).tmod (cQ ρ q):=by grind
def agx (ρ:Nat->Int) (n:Int):cQ ρ [([],n)]=n:=by simp[cQ,uA]
def rH {p:Poly} {x:Int} {l:List (List AV)} {r:List AV} (a:cQ ρ p=x) (h:l[x.toNat]?=some r):l[(cQ ρ p).toNat]?=some r:=by simp_all
end Mc
end Go.Proofs.YtnepgggkgnckcaaGreat
