/-
 Texts joined and made small by wip/small.sh.
-/
import Derived.Test.YtnepgggkgnckcaaGreatJ2
set_option linter.all false
set_option maxHeartbeats 1000000
namespace Go.Proofs.YtnepgggkgnckcaaGreat
open Go.RowKit
namespace Mc
variable {β α:Type}
def ale [Bk] (P:Program) (x:Operand) (ρ:Operand->AV) (h:AH) (nx:Nat):Option AR :=
 some ⟨ρ x,[],[]⟩
def aft [Bk] (P:Program) (x:Operand) (ρ:Operand->AV) (h:AH) (nx:Nat):Option AR :=
 some ⟨ρ x,[],[]⟩
def adW [Bk] (P:Program) (c:Operand) (x:Operand) (y:Operand) (ρ:Operand->AV) (h:AH) (nx:Nat):Option AR :=
 match ρ c with
  | .c (.bool b)=>some ⟨bif b then ρ x else ρ y,[],[]⟩
  |_=>none
def aaj [Bk] (P:Program) (e:TypeId) (ρ:Operand->AV) (h:AH) (nx:Nat):Option AR :=
 match P.info? e with
  |some i=>match i.zero with
   |some z=>match jF (SB z)with
    |some cs=>if lN h nx then some ⟨.ptr cs.length nx 0 0,[(nx,.cells e cs.length [cs])],[nx]⟩else none
    |none=>none
   |none=>none
  |none=>none
def ai0 [Bk] (P:Program) (e:TypeId) (x:Operand) (ρ:Operand->AV) (h:AH) (nx:Nat):Option AR :=
 match jF (ρ x)with
  |some cs=>if lN h nx then some ⟨.ptr cs.length nx 0 0,[(nx,.cells e cs.length [cs])],[nx]⟩else none
  |none=>none
def aae [Bk] (P:Program) (t:TypeId) (a:Array (Nat×Operand)) (ρ:Operand->AV) (h:AH) (nx:Nat):Option AR :=
 match Nz P t (a.toList.map fun p=>(p.1,ρ p.2))with
  |some cs=>some ⟨.agg cs,[],[]⟩
  |none=>none
def Cs [Bk] (P:Program) (t:TypeId) (len:Nat) (a:Array (Nat×Operand)) (ρ:Operand->AV) (h:AH) (nx:Nat):Option AR :=
 match P.underlying t with
  |some (.slice e)=>match P.info? e with
   |some i=>match i.zero with
    |some z=>match jF (SB z)with
     |some zc=>if zc.length=i.size/\0<i.size/\0<len/\len*i.size<=16777216/\lN h nx=true then
       match yS (fun k=>some (k*i.size,i.size)) ((List.replicate len zc).flatten) (a.toList.map fun p=>(p.1,ρ p.2))with
       |some cs=>some ⟨.own e i.size nx 0 len,[(nx,.cells e i.size (chunk i.size len cs))],[nx]⟩
       |none=>none
      else none
     |none=>none
    |none=>none
   |none=>none
  |_=>none
def adY [Bk] (P:Program) (t:TypeId) (x:Operand) (ρ:Operand->AV) (h:AH) (nx:Nat):Option AR :=
 match ρ x with
  | .ptr a id i off=>match h id with
   | .cells _ s bG=>if s=a then match bG[i]? with
     |some e=>match mM P t e off with
      |some v=>some ⟨v,[],[id]⟩
      |none=>none
     |none=>none
    else none
   |_=>none
  | .iY _ bG i off=>match bG[i]? with
   |some e=>match mM P t e off with
    |some v=>some ⟨v,[],[]⟩
    |none=>none
   |none=>none
  |_=>none
def X9 [Bk] (P:Program) (t:TypeId) (x:Operand) (y:Operand) (ρ:Operand->AV) (h:AH) (nx:Nat):Option AR :=
 match ρ x with
  | .ptr b id i off=>match h id with
   | .cells T s bG=>if s=b then match bG[i]?,jF (ρ y)with
     |some e,some a=>if eK P t=some a.length/\off+a.length<=b then some ⟨.undef,[(id,.cells T b (bG.set i (nN e off a)))],[id]⟩else none
     |_,_=>none
    else none
   |_=>none
  |_=>none
def Lf [Bk] (P:Program) (x:Operand) (ρ:Operand->AV) (h:AH) (nx:Nat):Option AR :=
 match ρ x with
  | .ptr a id i off=>match h id with
   | .cells _ _ bG=>if(bG[i]?).isSome then some ⟨.ptr a id i off,[],[id]⟩else none
   |_=>none
  | .iY a bG i off=>some ⟨.iY a bG i off,[],[]⟩
  | .fn (.func k) c b=>some ⟨.fn (.func k) c b,[],[]⟩
  |_=>none
def aaf [Bk] (P:Program) (op:BinOp) (t:TypeId) (x:Operand) (y:Operand) (ρ:Operand->AV) (h:AH) (nx:Nat):Option AR :=
 match ak0 P op t (M7 x) (M7 y) (ρ x) (ρ y)with
  |some r=>some ⟨r,[],[]⟩
  |none=>none
def adV [Bk] (P:Program) (op:UnOp) (x:Operand) (ρ:Operand->AV) (h:AH) (nx:Nat):Option AR :=
 match ρ x with
  | .c u=>match unV op u with
   |some r=>some ⟨.c r,[],[]⟩
   |none=>none
  | .e p=>match op with
   | .neg=>if mJ (qP (-1) p)then some ⟨C9 (qP (-1) p),[],[]⟩else none
   |_=>none
  |_=>none
def NO [Bk] (P:Program) (s:TypeId) (d:TypeId) (x:Operand) (ρ:Operand->AV) (h:AH) (nx:Nat):Option AR :=
 match ρ x with
  | .c (.int _ n)=>match P.underlying s,P.underlying d with
   |some _,some (.int k)=>some ⟨.c (.int k (k.wrap n)),[],[]⟩
   |_,_=>none
  | .c (.string b)=>match P.underlying s,P.underlying d with
   |some _,some .string=>some ⟨.c (.string b),[],[]⟩
   |_,_=>none
  | .e p=>match P.underlying s,P.underlying d with
   |some _,some (.int .i64)=>if mJ p then some ⟨.e p,[],[]⟩else none
   |_,_=>none
  |_=>none
def wY [Bk] (P:Program) (t:TypeId) (x:Operand) (ρ:Operand->AV) (h:AH) (nx:Nat):Option AR :=
 if P.concrete t then some ⟨.qZ t (ρ x),[],[]⟩else none
def Lg [Bk] (P:Program) (fn:Fn) (first:Array Operand) (a:Array Operand) (ρ:Operand->AV) (h:AH) (nx:Nat):Option AR :=
 some ⟨.fn fn (first.toList.map ρ) (a.toList.map ρ),[],[]⟩
def Fg [Bk] (P:Program) (t:TypeId) (x:Operand) (y:Operand) (ρ:Operand->AV) (h:AH) (nx:Nat):Option AR :=
 match ρ x,ρ y with
  | .c (.int _ l),.c (.int _ c)=>match P.underlying t with
   |some (.slice e)=>match P.info? e with
    |some i=>match i.zero with
     |some z=>match jF (SB z)with
      |some zc=>if zc.length=i.size/\0<=l/\l<=c/\(i.bytes:Int)*c<=281474976710656/\c<=1099511627776/\lN h nx=true then
        some ⟨.own e i.size nx 0 l.toNat,[(nx,.cells e i.size (List.replicate l.toNat zc))],[nx]⟩else none
      |none=>none
     |none=>none
    |none=>none
   |_=>none
  |_,_=>none
def aaa [Bk] (P:Program) (t:TypeId) (x:Operand) (f:Option Operand) (e:Option Operand) (j:Option Operand) (ρ:Operand->AV) (h:AH) (nx:Nat):Option AR :=
 match j with
  |some m=>match f,e with
   |none,some e=>match ρ e,ρ m with
    | .c (.int _ a),.c (.int _ b)=>match jX h (ρ x)with
     |some _=>if a=0/\b=0/\kF P t=true/\(P.info? (P.elem t)).isSome=true then some ⟨.emp,[],uM (ρ x)⟩else none
     |none=>none
    |_,_=>none
   |some f,some e=>match ρ x with
    | .own T d id i n=>match h id with
     | .cells g s bG=>match gR ρ 0 (some f),gR ρ n (some e),gR ρ n (some m)with
      |some l,some u,some v=>if g=T/\s=d/\bG≠[]/\l<=u/\u<=v/\v<=n/\l<v/\kF P t=true/\eK P (P.elem t)=some d then some ⟨.view T d id (i+l) (u-l),[],[id]⟩else
        if g=T/\s=d/\bG≠[]/\l=u/\u=v/\v<=n/\kF P t=true/\eK P (P.elem t)=some d then some ⟨.emp,[],[id]⟩else none
      |_,_,_=>none
     |_=>none
    | .lit d bG=>match gR ρ 0 (some f),gR ρ 0 (some e),gR ρ 0 (some m)with
     |some l,some u,some v=>if bG≠[]/\l<=u/\u<=v/\v<=bG.length/\kF P t=true/\eK P (P.elem t)=some d then some ⟨.lit d ((bG.drop l).take (u-l)),[],[]⟩else none
     |_,_,_=>none
    |_=>none
   |_,_=>none
  |none=>match ρ x with
   | .lit d bG=>match gR ρ 0 f,gR ρ bG.length e with
    |some l,some u=>if l<=u/\u<=bG.length/\kF P t=true/\eK P (P.elem t)=some d then some ⟨.lit d ((bG.drop l).take (u-l)),[],[]⟩else none
    |_,_=>none
   | .own T d id i n=>match h id with
    | .cells g s bG=>match gR ρ 0 f,gR ρ n e with
     |some l,some u=>if g=T/\s=d/\bG≠[]/\l<=u/\u<=n/\(l=0\/l<n)/\kF P t=true/\eK P (P.elem t)=some d then some ⟨.own T d id (i+l) (u-l),[],[id]⟩else none
     |_,_=>none
    |_=>none
   | .c (.string s)=>match P.underlying t with
    |some .string=>match gR ρ 0 f,gR ρ s.size e with
     |some l,some u=>if l<=u/\u<=s.size then some ⟨.c (.string (s.extract l u)),[],[]⟩else none
     |_,_=>none
    |_=>none
   |_=>none
def Fj [Bk] (P:Program) (t:TypeId) (x:Operand) (k:Nat) (ρ:Operand->AV) (h:AH) (nx:Nat):Option AR :=
 match nM P t k with
  |some (_,b,n)=>if n≠0 then match ρ x with
    | .ptr a id i off=>match h id with
     | .cells _ s bG=>if s=a/\(bG[i]?).isSome=true then some ⟨.ptr a id i (off+b),[],[id]⟩else none
     |_=>none
    | .iY a bG i off=>some ⟨.iY a bG i (off+b),[],[]⟩
    |_=>none
   else none
  |none=>none
def aad [Bk] (P:Program) (t:TypeId) (x:Operand) (k:Nat) (ρ:Operand->AV) (h:AH) (nx:Nat):Option AR :=
 match nM P t k with
  |some (a,b,_)=>match ρ x with
   | .agg cs=>match mM P a cs b with
    |some v=>some ⟨v,[],[]⟩
    |none=>none
   |_=>none
  |none=>none
def Fh [Bk] (P:Program) (t:TypeId) (x:Operand) (ix:Operand) (ρ:Operand->AV) (h:AH) (nx:Nat):Option AR :=
 match ρ ix with
  | .c (.int _ n)=>match P.underlying t with
   |some (.slice e)=>match ρ x with
    | .lit a bG=>if eK P e=some a/\0<=n/\n.toNat<bG.length then some ⟨.iY a bG n.toNat 0,[],[]⟩else none
    | .own T a id i n'=>match h id with
     | .cells b s bG=>if b=T/\s=a/\eK P e=some a/\0<=n/\n.toNat<n'/\(bG[i+n.toNat]?).isSome=true then some ⟨.ptr a id (i+n.toNat) 0,[],[id]⟩else none
     |_=>none
    | .view T a id i n'=>match h id with
     | .cells b s bG=>if b=T/\s=a/\eK P e=some a/\0<=n/\n.toNat<n'/\(bG[i+n.toNat]?).isSome=true then some ⟨.ptr a id (i+n.toNat) 0,[],[id]⟩else none
     |_=>none
    | .row N d=>match d[n.toNat]? with
     |some p=>if eK P e=some 1/\0<=n/\TU (rK (zM n) N)=some true then some ⟨.iY 1 [[C9 p]] 0 0,[],[]⟩else none
     |none=>none
    |_=>none
   |some (.array len e)=>match eK P e with
    |some s=>if 0<=n/\n.toNat<len then match ρ x with
      | .ptr a id i off=>match h id with
       | .cells _ f bG=>if f=a/\(bG[i]?).isSome=true then some ⟨.ptr a id i (off+n.toNat*s),[],[id]⟩else none
       |_=>none
      | .iY a bG i off=>some ⟨.iY a bG i (off+n.toNat*s),[],[]⟩
      |_=>none
     else none
    |none=>none
   |_=>none
  |_=>none
def aac [Bk] (P:Program) (t:TypeId) (x:Operand) (ix:Operand) (ρ:Operand->AV) (h:AH) (nx:Nat):Option AR :=
 match ρ ix with
  | .c (.int _ n)=>match P.underlying t with
   |some (.array len e)=>match eK P e with
    |some s=>match ρ x with
     | .agg cs=>if 0<=n/\n.toNat<len then match mM P e cs (n.toNat*s)with
       |some v=>some ⟨v,[],[]⟩
       |none=>none
      else none
     |_=>none
    |none=>none
   |some .string=>match ρ x with
    | .c (.string s)=>match s[n.toNat]? with
     |some b=>if 0<=n then some ⟨.c (.int .u8 b.toNat),[],[]⟩else none
     |none=>none
    |_=>none
   |_=>none
  |_=>none
def NN [Bk] (P:Program) (x:Operand) (k:Nat) (ρ:Operand->AV) (h:AH) (nx:Nat):Option AR :=
 match ρ x with
  | .bE vs=>match vs[k]? with
   |some v=>some ⟨v,[],[]⟩
   |none=>none
  |_=>none
def Co [Bk] (P:Program) (x:Operand) (a:TypeId) (ok:Bool) (ρ:Operand->AV) (h:AH) (nx:Nat):Option AR:=none
def aab [Bk] (P:Program) (t:TypeId) (x:Operand) (ρ:Operand->AV) (h:AH) (nx:Nat):Option AR:=none
def adX [Bk] (P:Program) (x:Operand) (a:Bool) (ρ:Operand->AV) (h:AH) (nx:Nat):Option AR:=none
def NM [Bk] (P:Program) (rs:Option Operand) (ρ:Operand->AV) (h:AH) (nx:Nat):Option AR:=none
def PM [Bk] (P:Program) (t:TypeId) (x:Operand) (k:Operand) (y:Operand) (ρ:Operand->AV) (h:AH) (nx:Nat):Option AR:=none
def PL [Bk] (P:Program) (t:TypeId) (x:Operand) (k:Operand) (ok:Bool) (ρ:Operand->AV) (h:AH) (nx:Nat):Option AR:=none
def aai [Bk] (P:Program) (args:Array Operand) (argTypes:Array TypeId) (ρ:Operand->AV) (h:AH) (nx:Nat):Option AR :=
 match args.toList,argTypes.toList with
   |[x],[t]=>match P.underlying t with
    |some (.slice _)=>match jX h (ρ x)with
     |some bG=>some ⟨.c (.int .i64 bG.length),[],uM (ρ x)⟩
     |none=>match ρ x with
      | .row n _=>some ⟨C9 n,[],[]⟩
      | .view _ _ _ _ n=>some ⟨.c (.int .i64 n),[],[]⟩
      |_=>none
    |some .string=>match ρ x with
     | .c (.string s)=>some ⟨.c (.int .i64 s.size),[],[]⟩
     |_=>none
    |_=>none
   |_,_=>none
def Lh [Bk] (P:Program) (args:Array Operand) (argTypes:Array TypeId) (ρ:Operand->AV) (h:AH) (nx:Nat):Option AR :=
 match args.toList,argTypes.toList with
   |[x,y],[t,a]=>if a=t then vC P t (ρ x) (ρ y) h nx else none
   |_,_=>none
def aah [Bk] (P:Program) (args:Array Operand) (argTypes:Array TypeId) (ρ:Operand->AV) (h:AH) (nx:Nat):Option AR :=
 match args.toList with
   |[x,y]=>match ρ x,ρ y with
    | .c (.int k p),.c (.int _ q)=>some ⟨.c (.int k (if q > p then q else p)),[],[]⟩
    |u,v=>match toP u,toP v with
     |some p,some q=>match Mb p q with
      |some r=>some ⟨C9 r,[],[]⟩
      |none=>none
     |_,_=>none
   |[x,y,z]=>match ρ x,ρ y,ρ z with
    | .c (.int k p),.c (.int _ q),.c (.int _ r)=>some ⟨.c (.int k (if r > (if q > p then q else p)then r else(if q > p then q else p))),[],[]⟩
    |_,_,_=>none
   |_=>none
def aag [Bk] (P:Program) (args:Array Operand) (argTypes:Array TypeId) (ρ:Operand->AV) (h:AH) (nx:Nat):Option AR :=
 match args.toList with
   |[x,y]=>match ρ x,ρ y with
    | .c (.int k p),.c (.int _ q)=>some ⟨.c (.int k (if q<p then q else p)),[],[]⟩
    |u,v=>match toP u,toP v with
     |some p,some q=>match Ma p q with
      |some r=>some ⟨C9 r,[],[]⟩
      |none=>none
     |_,_=>none
   |_=>none
def NP [Bk] (P:Program) (args:Array Operand) (argTypes:Array TypeId) (ρ:Operand->AV) (h:AH) (nx:Nat):Option AR:=none
def alf [Bk] (P:Program) (b:Builtin) (args:Array Operand) (argTypes:Array TypeId) (ρ:Operand->AV) (h:AH) (nx:Nat):Option AR :=
 match b with
  | .len=>aai P args argTypes ρ h nx
  | .append=>Lh P args argTypes ρ h nx
  | .max=>aah P args argTypes ρ h nx
  | .min=>aag P args argTypes ρ h nx
  | .clear=>NP P args argTypes ρ h nx
  |_=>none
def alb [Bk] (P:Program) (op:Op) (ρ:Operand->AV) (h:AH) (nx:Nat):Option AR :=
 match op with
 | .move x=>ale P x ρ h nx
 | .assign x=>aft P x ρ h nx
 | .pick c x y=>adW P c x y ρ h nx
 | .alloc e=>aaj P e ρ h nx
 | .box e x=>ai0 P e x ρ h nx
 | .build t a=>aae P t a ρ h nx
 | .buildSlice t len a=>Cs P t len a ρ h nx
 | .load t x=>adY P t x ρ h nx
 | .store t x y=>X9 P t x y ρ h nx
 | .nilCheck x=>Lf P x ρ h nx
 | .binOp op t x y _=>aaf P op t x y ρ h nx
 | .unOp op _ x=>adV P op x ρ h nx
 | .convert s d x=>NO P s d x ρ h nx
 | .makeInterface t x=>wY P t x ρ h nx
 | .makeFunc fn first f=>Lg P fn first f ρ h nx
 | .makeSlice t x y=>Fg P t x y ρ h nx
 | .slice t x l m j=>aaa P t x l m j ρ h nx
 | .fieldAddr t x k=>Fj P t x k ρ h nx
 | .field t x k=>aad P t x k ρ h nx
 | .indexAddr t x ix=>Fh P t x ix ρ h nx
 | .index t x ix=>aac P t x ix ρ h nx
 | .extract x k=>NN P x k ρ h nx
 | .typeAssert x _ g ok=>Co P x g ok ρ h nx
 | .range t x=>aab P t x ρ h nx
 | .next x i=>adX P x i ρ h nx
 | .makeMap _ rs=>NM P rs ρ h nx
 | .insert t x k y=>PM P t x k y ρ h nx
 | .lookup t x k ok=>PL P t x k ok ρ h nx
 | .call { callee:=.builtin b,args,argTypes }=>alf P b args argTypes ρ h nx
 |_=>none
theorem adU [Bk] (P:Program) (op:Op) (ρ:Operand->AV) (h:AH) (nx:Nat):alb P op ρ h nx=jJ P op ρ h nx:=by
 cases op<;>rfl
inductive Tr where
 |leaf
 |node (v:dI) (l r:Tr)
def Tr.get:Tr->AH
 | .leaf,_=>.no
 | .node v _ _,0=>v
 | .node _ l r,k+1=>if k%2=0 then l.get (k/2)else r.get (k/2)
def Tr.put:Nat->Tr->Nat->dI->Tr
 |0,t,_,_=>t
 |_+1,.leaf,0,b=>.node b .leaf .leaf
 |_+1,.node _ l r,0,b=>.node b l r
 |f+1,.leaf,k+1,b=>if k%2=0 then .node .no (Tr.put f .leaf (k/2) b) .leaf else .node .no .leaf (Tr.put f .leaf (k/2) b)
 |f+1,.node v l r,k+1,b=>if k%2=0 then .node v (Tr.put f l (k/2) b) r else .node v l (Tr.put f r (k/2) b)
def Tr.nH [Bk] [Ev] (j:Nat):Tr.leaf.get j=.no:=by cases j<;>rfl
def Tr.rN [Bk] [Ev] (b:dI):∀(f:Nat) (t:Tr) (k j:Nat),k<f->(Tr.put f t k b).get j=if j=k then b else t.get j
 |0,t,k,j,h=>by omega
 |f+1,.leaf,0,j,h=>by
  cases j<;>simp_all[Tr.put,Tr.get]
 |f+1,.node v l r,0,j,h=>by
  cases j<;>simp_all[Tr.put,Tr.get]
 |f+1,.leaf,k+1,j,h=>by
  simp only[Tr.put];split
  .rename_i c
   cases j with
   |zero=>rw[if_neg (by omega)];rfl
   |succ j =>
    simp only[Tr.get];split
    .rename_i a
     rw[Tr.rN b f .leaf (k/2) (j/2) (by omega),Tr.nH];by_cases e:j=k
     .subst e;simp
     .rw[if_neg (by omega),if_neg (by omega)]
    .rename_i a
     rw[if_neg (by omega)];try simp[Tr.nH]
  .rename_i c
   cases j with
   |zero=>rw[if_neg (by omega)];rfl
   |succ j =>
    simp only[Tr.get];split
    .rename_i a
     rw[if_neg (by omega)];try simp[Tr.nH]
    .rename_i a
     rw[Tr.rN b f .leaf (k/2) (j/2) (by omega),Tr.nH];by_cases e:j=k
     .subst e;simp
     .rw[if_neg (by omega),if_neg (by omega)]
 |f+1,.node v l r,k+1,j,h=>by
  simp only[Tr.put];split
  .rename_i c
   cases j with
   |zero=>rw[if_neg (by omega)];rfl
   |succ j =>
    simp only[Tr.get];split
    .rename_i a
     rw[Tr.rN b f l (k/2) (j/2) (by omega)];by_cases e:j=k
     .subst e;simp
     .rw[if_neg (by omega),if_neg (by omega)]
    .rename_i a
     rw[if_neg (by omega)]
  .rename_i c
   cases j with
   |zero=>rw[if_neg (by omega)];rfl
   |succ j =>
    simp only[Tr.get];split
    .rename_i a
     rw[if_neg (by omega)]
    .rename_i a
     rw[Tr.rN b f r (k/2) (j/2) (by omega)];by_cases e:j=k
     .subst e;simp
     .rw[if_neg (by omega),if_neg (by omega)]
def Tr.set (t:Tr) (k:Nat) (b:dI):Tr:=Tr.put (k+1) t k b
def Tr.adt [Bk] [Ev] (t:Tr) (k:Nat) (b:dI):(t.set k b).get=gO t.get k b:=by
 funext j;rw[Tr.set,Tr.rN b _ _ _ _ (by omega)];rfl
def Tr.bZ (t:Tr):List (Nat×dI)->Tr
 |[]=>t
 |(i,b)::r=>(t.set i b).bZ r
theorem Tr.EU [Bk] [Ev]:∀(u:List (Nat×dI)) (t:Tr),(t.bZ u).get=fZ t.get u
 |[],t=>rfl
 |(i,b)::r,t=>by simp only[Tr.bZ,fZ];rw[Tr.EU r,Tr.adt]
inductive Ft where
 |leaf
 |node (v:AV) (l r:Ft)
def Ft.get:Ft->Nat->Option AV
 | .leaf,_=>none
 | .node v _ _,0=>some v
 | .node _ l r,k+1=>if k%2=0 then l.get (k/2)else r.get (k/2)
def Ft.put:Nat->Ft->Nat->AV->Ft
 |0,t,_,_=>t
 |_+1,.leaf,_,_=>.leaf
 |_+1,.node _ l r,0,b=>.node b l r
 |f+1,.node v l r,k+1,b=>if k%2=0 then .node v (Ft.put f l (k/2) b) r else .node v l (Ft.put f r (k/2) b)
def Ft.nH [Bk] [Ev] (j:Nat):Ft.leaf.get j=none:=by cases j<;>rfl
def Ft.rN [Bk] [Ev] (b:AV):∀(f:Nat) (t:Ft) (k j:Nat),k<f->(Ft.put f t k b).get j=if j=k then(t.get k).map (fun _=>b)else t.get j
 |0,t,k,j,h=>by omega
 |f+1,.leaf,k,j,h=>by simp[Ft.put,Ft.nH]
 |f+1,.node v l r,0,j,h=>by
  cases j<;>simp_all[Ft.put,Ft.get]
 |f+1,.node v l r,k+1,j,h=>by
  simp only[Ft.put];split
  .rename_i a
   cases j with
   |zero=>rw[if_neg (by omega)];rfl
   |succ j =>
    simp only[Ft.get];split
    .rename_i c
     rw[Ft.rN b f l (k/2) (j/2) (by omega)];by_cases e:j=k
     .subst e;simp[a]
     .rw[if_neg (by omega),if_neg (by omega)]
    .rename_i c
     rw[if_neg (by omega)]
  .rename_i a
   cases j with
   |zero=>rw[if_neg (by omega)];rfl
   |succ j =>
    simp only[Ft.get];split
    .rename_i c
     rw[if_neg (by omega)]
    .rename_i c
     rw[Ft.rN b f r (k/2) (j/2) (by omega)];by_cases e:j=k
     .subst e;simp[a]
     .rw[if_neg (by omega),if_neg (by omega)]
def Ft.set (t:Ft) (d:Option Tmp) (b:AV):Ft:=match d with
 |none=>t
 |some k=>Ft.put (k+1) t k b
structure Ft.G where
 f:Ft->Option AV
structure Ft.H where
 f:Ft->AV->Ft
def Ft.look:Nat->Nat->Ft.G
 |0,_=>⟨fun _=>none⟩
 |n+1,k=>if k=0 then⟨fun t=>Ft.casesOn t none (fun v _ _=>some v)⟩else if(k-1)%2=0 then⟨fun t=>Ft.casesOn t none (fun _ l _=>(Ft.look n ((k-1)/2)).f l)⟩else⟨fun t=>Ft.casesOn t none (fun _ _ r=>(Ft.look n ((k-1)/2)).f r)⟩
def Ft.lay:Nat->Nat->Ft.H
 |0,_=>⟨fun t _=>t⟩
 |n+1,k=>if k=0 then⟨fun t b=>Ft.casesOn t .leaf (fun _ l r=>.node b l r)⟩else if(k-1)%2=0 then⟨fun t b=>Ft.casesOn t .leaf (fun v l r=>.node v ((Ft.lay n ((k-1)/2)).f l b) r)⟩else⟨fun t b=>Ft.casesOn t .leaf (fun v l r=>.node v l ((Ft.lay n ((k-1)/2)).f r b))⟩
section
variable [Bk] [Ev]
def Ft.look_eq:∀(n k:Nat) (t:Ft),k<n->(Ft.look n k).f t=t.get k
 |0,k,t,h=>by omega
 |n+1,0,t,h=>by cases t<;>rfl
 |n+1,k+1,t,h=>by
  have e:k+1-1=k:=rfl;simp only[Ft.look,Nat.add_one_ne_zero,if_false,e];split
  .rename_i a
   cases t with
   |leaf=>rfl
   |node v l r=>simp only[Ft.get,a,if_true];exact Ft.look_eq n _ _ (by omega)
  .rename_i a
   cases t with
   |leaf=>rfl
   |node v l r=>simp only[Ft.get,a,if_false];exact Ft.look_eq n _ _ (by omega)
def Ft.abH (b:AV):∀(n k:Nat) (t:Ft),k<n->(Ft.lay n k).f t b=Ft.put n t k b
 |0,k,t,h=>by omega
 |n+1,0,t,h=>by cases t<;>rfl
 |n+1,k+1,t,h=>by
  have e:k+1-1=k:=rfl;simp only[Ft.lay,Nat.add_one_ne_zero,if_false,e];split
  .rename_i a
   cases t with
   |leaf=>rfl
   |node v l r=>simp only[Ft.put,a,if_true];rw[Ft.abH b n _ _ (by omega)]
  .rename_i a
   cases t with
   |leaf=>rfl
   |node v l r=>simp only[Ft.put,a,if_false];rw[Ft.abH b n _ _ (by omega)]
def Ft.gt (t:Ft) (k:Nat):Option AV:=(Ft.look (k+1) k).f t
def Ft.st (t:Ft) (d:Option Tmp) (b:AV):Ft:=match d with
 |none=>t
 |some k=>(Ft.lay (k+1) k).f t b
def Ft.adr (t:Ft) (k:Nat):t.gt k=t.get k:=Ft.look_eq _ _ _ (by omega)
def Ft.aom (t:Ft) (d:Option Tmp) (b:AV):t.st d b=t.set d b:=by
 cases d with
 |none=>rfl
 |some k=>exact Ft.abH b _ _ _ (by omega)
def Cg:List AV->List AV
 |[]=>[]
 |[x]=>[x]
 |x::_::l=>x::Cg l
def Ol:List AV->List AV
 |[]=>[]
 |[_]=>[]
 |_::y::l=>y::Ol l
def Po:∀(l:List AV) (k:Nat),(Cg l)[k]?=l[2*k]?
 |[],k=>by simp[Cg]
 |[x],0=>rfl
 |[x],k+1=>by simp[Cg]
 |x::_::l,0=>rfl
 |x::y::l,k+1=>by
  simp only[Cg,a37];rw[Po l k,show 2*(k+1)=2*k+2 by omega];rfl
def TJ:∀(l:List AV) (k:Nat),(Ol l)[k]?=l[2*k+1]?
 |[],k=>by simp[Ol]
 |[x],k=>by simp[Ol]
 |x::y::l,0=>rfl
 |x::y::l,k+1=>by
  simp only[Ol,a37];rw[TJ l k,show 2*(k+1)=2*k+1+1 by omega];rfl
def Ft.of:Nat->List AV->Ft
 |0,_=>.leaf
 |_+1,[]=>.leaf
 |f+1,x::l=>.node x (Ft.of f (Cg l)) (Ft.of f (Ol l))
def Pn:∀(l:List AV),(Cg l).length<=l.length
 |[]=>by simp[Cg]
 |[x]=>by simp[Cg]
 |x::y::l=>by simp[Cg];have:=Pn l;omega
def TI:∀(l:List AV),(Ol l).length<=l.length
 |[]=>by simp[Ol]
 |[x]=>by simp[Ol]
 |x::y::l=>by simp[Ol];have:=TI l;omega
def Ft.CV:∀(f:Nat) (l:List AV) (k:Nat),l.length<=f->(Ft.of f l).get k=l[k]?
 |0,l,k,h=>by
  simp_all[Ft.of,Ft.nH]
 |f+1,[],k,h=>by simp[Ft.of,Ft.nH]
 |f+1,x::l,0,h=>rfl
 |f+1,x::l,k+1,h=>by
  have b:=Pn l;have a:=TI l;simp only[a0v]at h;simp only[Ft.of,Ft.get,a37];split
  .rw[Ft.CV f _ _ (by omega),Po];congr 1;omega
  .rw[Ft.CV f _ _ (by omega),TJ];congr 1;omega
def FR (f:List AV) (t:Ft):Prop:=∀k,t.get k=f[k]?
def FR.set {f:List AV} {t:Ft} (h:FR f t) (d:Option Tmp) (v:AV):FR (qS f d v) (t.set d v):=by
 cases d with
 |none=>exact h
 |some d =>
  intro k;simp only[Ft.set,qS];rw[Ft.rN v _ _ _ _ (by omega),a0o];by_cases e:k=d
  .subst e
   rw[if_pos rfl,if_pos rfl,h k];grind
  .rw[if_neg e,if_neg (fun x=>e x.symm)]
   exact h k
def FR.st {f:List AV} {t:Ft} (h:FR f t) (d:Option Tmp) (v:AV):FR (qS f d v) (t.st d v):=by rw[Ft.aom];exact h.set d v
def qJ (t:Ft):Operand->AV
 | .tmp k=>match t.gt k with|some v=>v|none=>.undef
 | .const v=>SB v
 | .global g=>.c (.pointer (some ⟨g,0,none⟩))
 | .func k=>.fn (.func k) [] []
def FR.ev {f:List AV} {t:Ft} (h:FR f t):eF f=qJ t:=by
 funext o;cases o with
 |tmp k =>
  simp only[eF,qJ,List.getD,Ft.adr,h k];grind
 |_=>rfl
end
structure RT (α:Type) where
 a:α
 t:Tr
 n:Nat
 rd:List Nat
 wr:List Nat
abbrev MT (α:Type):=Tr->Nat->Option (RT α)
def Fu (R:α->β->Prop) (x:M α) (y:MT β):Prop:=∀t n r,y t n=some r->∃a,x t.get n=some ⟨a,r.t.get,r.n,r.rd,r.wr⟩/\R a r.a
def eJ:MT α:=fun _ _=>none
def eZ (a:α):MT α:=fun t n=>some ⟨a,t,n,[],[]⟩
def jV (x:MT α) (k:α->MT β):MT β:=fun t n =>
 match x t n with
 |none=>none
 |some r=>match k r.a r.t r.n with
  |none=>none
  |some s=>some ⟨s.a,s.t,s.n,r.rd++s.rd,r.wr++s.wr⟩
def iL [Bk] [Ev] {R:α->β->Prop} {x:M α}:Fu R x eJ:=fun t n r h=>by cases h
def jK [Bk] [Ev] {R:α->β->Prop} {a:α} {b:β} (h:R a b):Fu R (mpure a) (eZ b):=fun t n r c=>by cases c;exact⟨a,rfl,h⟩
def nB [Bk] [Ev] {e d:Type} {R:α->β->Prop} {S:e->d->Prop} {x:M α} {y:MT β} {k:α->M e} {l:β->MT d} (i:Fu R x y) (j:∀a b,R a b->Fu S (k a) (l b)):Fu S (oN x k) (jV y l):=by
 intro t n r h;unfold jV at h;cases g:y t n with
 |none=>simp_all
 |some q =>
  rw[g]at h;simp only at h;cases f:l q.a q.t q.n with
  |none=>simp_all
  |some s =>
   rw[f]at h;cases h;obtain⟨a,e1,m⟩:=i t n q g;obtain⟨c,e2,o⟩:=j a q.a m q.t q.n s f;simp_all[oN]
section
variable {P:Program}
def I8 [Bk] (P:Program) (op:Op) (ρ:Operand->AV) (h:AH) (nx:Nat):Option AR :=
 match alb P op ρ h nx with
 |some r=>some r
 |none=>iC P op ρ h nx
theorem aiO [Bk] (op:Op) (ρ:Operand->AV) (h:AH) (nx:Nat):I8 P op ρ h nx=CY P op ρ h nx:=by grind[I8,CY,adU]
def ak9 [Bk] (P:Program) (op:Op) (f:Ft):MT AV:=fun t n =>
 match I8 P op (qJ f) t.get n with
 |none=>none
 |some r=>some ⟨r.v,t.bZ r.bZ,if(r.bZ.map (·.1)).contains n then n+1 else n,r.xC,r.bZ.map (·.1)⟩
def ajv [Bk] [Ev] (op:Op) {f:List AV} {g:Ft} (a:FR f g):Fu Eq (OB P op f) (ak9 P op g):=by
 intro t n r h;unfold ak9 at h;unfold OB;rw[a.ev];grind[aiO,Tr.EU]
def jY [Bk] (P:Program) (call:Fn->List AV->MT AV) (o:Oper) (f:Ft):MT AV :=
 match mI P (qJ f) o.op with
 |some (k,args)=>call (.func k) args
 |none=>match pG (qJ f) o.op with
  |some (id,args)=>call (.yield id) args
  |none=>ak9 P o.op f
def qR (ops:Array Oper) (o:Oper) (f:Ft):Option Bool :=
 match o.guard with
 |none=>some true
 |some (j,a)=>match (ops[j]?).bind (·.dst)with
  |none=>some false
  |some d=>match f.gt d with
   |some (.c (.bool b))=>some (b==a)
   |some .undef=>some false
   |none=>some false
   |_=>none
def FR.guard [Bk] [Ev] {f:List AV} {g:Ft} (h:FR f g) (ops:Array Oper) (o:Oper):mD ops o f=qR ops o g:=by
 unfold mD qR;cases o.guard with
 |none=>rfl
 |some p =>
  obtain⟨j,a⟩:=p;simp only;cases(ops[j]?).bind (·.dst)with
  |none=>rfl
  |some d =>
   simp only[Ft.adr,h d];grind
def Cj [Bk] (P:Program) (call:Fn->List AV->MT AV) (ops:Array Oper):List Oper->Ft->MT Ft
 |[],f=>eZ f
 |o::l,f=>match qR ops o f with
  |some true=>jV (jY P call o f) fun v=>Cj P call ops l (f.st o.dst v)
  |some false=>Cj P call ops l (f.st o.dst .undef)
  |none=>eJ
def TN (x:MT AV):MT (AV×xA):=fun t n =>
 match x t n with
 |none=>none
 |some r=>some ⟨(r.a,⟨r.a,(r.wr++List.range' n (r.n-n)).map fun id=>(id,r.t.get id),r.rd,n,r.n,false⟩),r.t,r.n,r.rd,r.wr⟩
def yH [Bk] (P:Program) (call:Fn->List AV->MT AV) (ops:Array Oper):List Oper->Ft->MT (Ft×List xA)
 |[],f=>eZ (f,[])
 |o::l,f=>match qR ops o f with
  |some true=>jV (TN (jY P call o f)) fun v=>jV (yH P call ops l (f.st o.dst v.1)) fun q=>eZ (q.1,v.2::q.2)
  |some false=>jV (yH P call ops l (f.st o.dst .undef)) fun q=>eZ (q.1,⟨.undef,[],[],0,0,true⟩::q.2)
  |none=>eJ
def Iz [Bk] (P:Program) (call:Fn->List AV->MT AV) (ops:Array Oper) (f:Ft):MT Ft :=
 if P.follows .mixedOrders then jV (yH P call ops ops.toList f) fun q=>if Pq ops q.2 then eZ q.1 else eJ else eJ
def CS (x:MT α):MT α:=fun t n =>
 match x t n with
 |none=>none
 |some r=>some ⟨r.a,r.t,r.n,(r.rd.filter fun id=>!(decide (n<=id)&&decide (id<r.n))).eraseDups,(r.wr.filter fun id=>!(decide (n<=id)&&decide (id<r.n))).eraseDups⟩
def Ft.list (t:Ft):Nat->Nat->Option (List AV)
 |0,_=>none
 |n+1,k=>match t.gt k with
  |none=>some []
  |some v=>match Ft.list t n (k+1)with
   |none=>none
   |some l=>some (v::l)
def FR.list [Bk] [Ev] {f:List AV} {t:Ft} (h:FR f t):∀(n k:Nat) (l:List AV),Ft.list t n k=some l->l=f.drop k
 |0,k,l,a=>by cases a
 |n+1,k,l,a=>by
  simp only[Ft.list,Ft.adr,h k]at a;cases c:f[k]? with
  |none =>
   simp_all
  |some v =>
   rw[c]at a;simp only at a;cases b:Ft.list t n (k+1)with
   |none=>simp_all
   |some r =>
    rw[b]at a;cases a;have:=FR.list h n (k+1) r b
    grind[List.drop_eq_getElem_cons]
def jR [Bk] (P:Program) (call:Fn->List AV->MT AV) (tp:Bool):Nat->Code->Ft->MT (AX×Ft)
 |0,_,_=>eJ
 |n+1,.skip,f=>eZ (.normal,f)
 |n+1,.region _ ops draw,f=>jV (if draw then Iz P call ops f else Cj P call ops ops.toList f) fun d=>eZ (.normal,d)
 |n+1,.seq x y,f=>jV (jR P call tp n x f) fun q=>match q.1 with
  | .normal=>jR P call tp n y q.2
  |_=>eZ q
 |n+1,.cond c x y,f=>match qJ f c with
  | .c (.bool b)=>jR P call tp n (if b then x else y) f
  |_=>eJ
 |n+1,.block id c,f=>jV (jR P call tp n c f) fun q=>match q.1 with
  | .exit a=>if a=id then eZ (.normal,q.2)else eZ q
  |_=>eZ q
 |n+1,.loop c,f=>jV (jR P call tp n c f) fun q=>match q.1 with
  | .normal=>jR P call tp n (.loop c) q.2
  |_=>eZ q
 |n+1,.scope c,f=>jR P call tp n c f
 |n+1,.label _,f=>eZ (.normal,f)
 |n+1,.exit id,f=>eZ (.exit id,f)
 |n+1,.ret,f=>eZ (.ret,f)
 |n+1,_,_=>eJ
def acP (P:Program) (f:Ft) (h:AH):ResultVar->Option AV
 | .tmp t=>some ((f.gt t).getD .undef)
 | .cell t a=>adN P a h ((f.gt t).getD .undef)
def FM (P:Program) (fn:Func) (f:Ft) (h:AH):Option AV :=
 (fn.results.toList.mapM (acP P f h)).map Ee
def Th (f:Ft):ResultVar->List Nat
 | .tmp _=>[]
 | .cell t _=>aa0 ((f.gt t).getD .undef)
def Re (f:Ft) (l:List ResultVar):List Nat:=l.flatMap (Th f)
def aaT (P:Program) (fn:Func) (f:Ft):MT AV:=fun t n =>
 match FM P fn f t.get with
 |none=>none
 |some v=>some ⟨v,t,n,Re f fn.results.toList,[]⟩
def abU (P:Program) (a:TypeId) (x:AV):MT AV:=fun t n =>
 match P.underlying a with
 |some (.slice e)=>match P.info? e with
  |some i=>match i.zero,jX t.get x with
   |some z,some bG=>if z.cells.size=i.size/\0<i.size/\(bG.all fun q=>q.length==i.size)=true/\MS x i.size=true/\bG.length*i.bytes<=140737488355328/\bG.length<=1099511627776/\lN t.get n=true/\lN t.get (n+1)=true/\(uM x).contains n=false then
     some ⟨.own e i.size (n+1) 0 bG.length,t.bZ [(n,.dead),(n+1,.cells e i.size bG)],n+2,n::(n+1)::uM x,[n,n+1]⟩else none
   |_,_=>none
  |none=>none
 |_=>none
def adJ [Bk] (P:Program) (a:TypeId) (x:AV):MT AV:=fun t n =>
 match P.underlying a with
 |some (.slice e)=>match P.info? e with
  |some i=>match i.zero,nA t.get x with
   |some z,some (b,base,bZ,tail,N)=>if z.cells.size=i.size/\0<i.size/\b=i.size/\Xi N i.bytes=true/\lN t.get n=true/\lN t.get (n+1)=true/\(Lq x).contains n=false then
     some ⟨.dD e i.size (n+1) N,t.bZ [(n,.dead),(n+1,.sc e i.size base bZ tail N)],n+2,n::(n+1)::Lq x,[n,n+1]⟩else none
   |_,_=>none
  |none=>none
 |_=>none
def LV [Bk] (P:Program) (a:TypeId) (x:AV):MT AV:=fun t n =>
 match abU P a x t n with
 |some r=>some r
 |none=>adJ P a x t n
def Ff [Bk] (P:Program) (L:Nat) (call:Fn->List AV->MT AV) (k:FuncId) (args:List AV):MT AV :=
 match P.funcs[k]? with
  |none=>eJ
  |some fn=>match rL fn,args with
   |some t,[x]=>LV P t x
   |_,_=>match fn.body with
    |none=>eJ
    | some c => if fn.name == "runtime.NumGoroutine" then eJ else
     CS (jV (jR P call true L c (Ft.of (args.length+fn.ntmps) (args++List.replicate (fn.ntmps-args.length) .undef))) fun q=>match q.1 with
      | .exit _=>eJ
      |_=>aaT P fn q.2)
def knT [Bk] (k:FuncId) (args:List AV):MT AV:=fun t n =>
 match AS (wA t.get 16) args with
 |some (as,ids)=>match Xl k as Bk.bQ with
  |some r=>bif IK 8 r then some ⟨r,t,n,ids,[]⟩else some ⟨r,t.bZ (ids.map fun id=>(id,dI.dead)),n,ids,ids⟩
  |none=>none
 |none=>none
def C0 [Bk] (P:Program) (L:Nat):Nat->Fn->List AV->MT AV
 |0,_,_=>eJ
 |d+1,.func k,args=>match Xn P k args with
  |some v=>eZ v
  |none=>if knB P k=true then knT k args else Ff P L (C0 P L d) k args
 |_+1,_,_=>eJ
variable {cm:Fn->List AV->M AV} {ct:Fn->List AV->MT AV}
section
variable [Bk] [Ev]
def S6 (b:∀k args,Fu Eq (cm k args) (ct k args)) (o:Oper) {f:List AV} {g:Ft} (a:FR f g):Fu Eq (wU P cm o f) (jY P ct o g):=by
 unfold wU jY;rw[a.ev];cases mI P (qJ g) o.op with
 |some p=>simp_all
 |none =>
  cases pG (qJ g) o.op with
  |some p=>simp_all
  |none=>exact ajv _ a
def aju {x:M AV} {y:MT AV} (h:Fu Eq x y):Fu Eq (abw x) (TN y):=by
 intro t n r b;unfold TN at b;cases c:y t n with
 |none=>simp_all
 |some q =>
  rw[c]at b;cases b;obtain⟨a,e1,rfl⟩:=h t n q c;simp_all[abw]
def aoA {ops:Array Oper} {k:Nat} {o:Oper} {l:List Oper} (h:ops.toList.drop k=o::l):ops[k]?=some o/\ops.toList.drop (k+1)=l:=by
 have a:ops.toList[k]?=some o:=by
  have:=congrArg (·[0]?) h
  grind
 refine⟨by simp_all,?_⟩;have:=congrArg (List.drop 1) h;simpa[List.drop_drop,Nat.add_comm]using this
def P5 (c:∀k args,Fu Eq (cm k args) (ct k args)) (ops:Array Oper):∀(l:List Oper) (k:Nat) (f:List AV) (g:Ft),ops.toList.drop k=l->FR f g->Fu FR (Sq P cm ops (List.range' k l.length) f) (Cj P ct ops l g)
 |[],k,f,g,_,a=>jK a
 |o::l,k,f,g,h,a=>by
  obtain⟨i,d⟩:=aoA h;simp only[a0v,a4j,Sq,Cj,i];rw[a.guard];cases qR ops o g with
  |none=>exact iL
  |some b =>
   cases b
   .exact P5 c ops l (k+1) _ _ d (a.st _ _)
   .exact nB (S6 c _ a) fun v u e=>by subst e;exact P5 c ops l (k+1) _ _ d (a.st _ _)
def FI (d:∀k args,Fu Eq (cm k args) (ct k args)) (ops:Array Oper):∀(l:List Oper) (k:Nat) (f:List AV) (g:Ft),ops.toList.drop k=l->FR f g->Fu (fun a b=>FR a.1 b.1/\a.2=b.2) (yI P cm ops (List.range' k l.length) f) (yH P ct ops l g)
 |[],k,f,g,_,c=>jK ⟨c,rfl⟩
 |o::l,k,f,g,i,c=>by
  obtain⟨j,h⟩:=aoA i;simp only[a0v,a4j,yI,yH,j];rw[c.guard];cases qR ops o g with
  |none=>exact iL
  |some b =>
   cases b
   .exact nB (FI d ops l (k+1) _ _ h (c.st _ _)) fun a b e=>jK ⟨e.1,by simp_all⟩
   .exact nB (aju (S6 d _ c)) fun v u e=>by
     subst e;exact nB (FI d ops l (k+1) _ _ h (c.st _ _)) fun a b e=>jK ⟨e.1,by simp_all⟩
def range_zero (n:Nat):List.range n=List.range' 0 n:=List.range_eq_range'
def afU (d:∀k args,Fu Eq (cm k args) (ct k args)) (ops:Array Oper) {f:List AV} {g:Ft} (c:FR f g):Fu FR (NI P cm ops f) (Iz P ct ops g):=by
 unfold NI Iz;split
 .have:=FI (P:=P) d ops ops.toList 0 f g (by simp) c
  rw[range_zero,show ops.size=ops.toList.length by simp];refine nB this fun a b e=>?_;rw[e.2];split
  .exact jK e.1
  .exact iL
 .exact iL
def afV {R:α->β->Prop} {x:M α} {y:MT β} (h:Fu R x y):Fu R (EK x) (CS y):=by
 intro t n r b;unfold CS at b;cases c:y t n with
 |none=>simp_all
 |some q =>
  rw[c]at b;cases b;obtain⟨a,e1,d⟩:=h t n q c;simp_all[EK]
def oG (h:∀k args,Fu Eq (cm k args) (ct k args)) {tp:Bool}:∀(n:Nat) (c:Code) (f:List AV) (g:Ft),FR f g->Fu (fun a b=>a.1=b.1/\FR a.2 b.2) (gP P cm tp n c f) (jR P ct tp n c g)
 |0,c,f,g,d=>by simp only[gP,jR];exact iL
 |n+1,c,f,g,d=>by
  cases c with
  |skip=>exact jK ⟨rfl,d⟩
  |region id ops draw =>
   simp only[gP,jR];refine nB (R:=FR) ?_ fun a b e=>jK ⟨rfl,e⟩
   cases draw
   .have:=P5 (P:=P) h ops ops.toList 0 f g (by simp) d
    simp_all[range_zero]
   .exact afU h _ d
  |seq x y =>
   simp only[gP,jR];refine nB (oG h n x f g d) fun a b e=>?_
   obtain⟨i,a2⟩:=a;obtain⟨b1,b2⟩:=b;simp only at e;obtain⟨rfl,e2⟩:=e;cases i with
   |normal=>exact oG h n y _ _ e2
   |_=>exact jK ⟨rfl,e2⟩
  |cond c x y =>
   simp only[gP,jR];rw[d.ev];cases qJ g c with
   |c v=>cases v with
    |bool b=>exact oG h n _ _ _ d
    |_=>exact iL
   |_=>exact iL
  |scope c=>simp only[gP,jR];exact oG h n c f g d
  |label l=>exact jK ⟨rfl,d⟩
  |block id c =>
   simp only[gP,jR];refine nB (oG h n c f g d) fun a b e=>?_
   obtain⟨i,a2⟩:=a;obtain⟨b1,b2⟩:=b;simp only at e;obtain⟨rfl,e2⟩:=e;cases i with
   |exit j=>simp only;split<;>exact jK ⟨rfl,e2⟩
   |_=>exact jK ⟨rfl,e2⟩
  |loop c =>
   simp only[gP,jR];refine nB (oG h n c f g d) fun a b e=>?_
   obtain⟨i,a2⟩:=a;obtain⟨b1,b2⟩:=b;simp only at e;obtain⟨rfl,e2⟩:=e;cases i with
   |normal=>exact oG h n _ _ _ e2
   |_=>exact jK ⟨rfl,e2⟩
  |exit id=>exact jK ⟨rfl,d⟩
  |ret=>exact jK ⟨rfl,d⟩
  |_=>simp only[gP,jR];exact iL
def FR.getD {f:List AV} {g:Ft} (h:FR f g) (t:Nat):f.getD t .undef=(g.gt t).getD .undef:=by rw[List.getD,Ft.adr,h t]
def ajt (fn:Func) {f:List AV} {g:Ft} (a:FR f g):Fu Eq (Ob P fn f) (aaT P fn g):=by
 have e1:∀h,fF P fn f h=FM P fn g h:=by
  intro h;unfold fF FM;have:AN P f h=acP P g h:=by
   funext r;cases r with
   |tmp t=>simp only[AN,acP,a.getD]
   |cell t b=>simp only[AN,acP,a.getD]
  rw[this]
 have e2:∀l,MA f l=Re g l:=by
  intro l;unfold MA Re;congr 1;funext r;cases r with
  |tmp t=>rfl
  |cell t b=>simp only[Rf,Th,a.getD]
 intro t n r c;grind[aaT,Ob]
def aej (a:TypeId) (x:AV):Fu Eq (yC P a x) (abU P a x):=by
 intro t n r b;grind[abU,yC,Tr.EU]
def aaE (c:TypeId) (x:AV):Fu Eq (uB P c x) (LV P c x):=by
 intro t n r b;unfold LV at b;split at b
 .rename_i r' d
  cases b;obtain⟨a,e,rfl⟩:=aej c x t n r d;simp_all[uB]
 .have h:∃a,yB P c x t.get n=some ⟨a,r.t.get,r.n,r.rd,r.wr⟩/\a=r.a:=by
   unfold adJ at b;unfold yB;split at b
   .rename_i e g
    split at b
    .rename_i i f
     split at b<;>grind[Tr.EU]
    simp_all
   simp_all
  grind[uB,IZ]
def aek (L:Nat) (d:∀k args,Fu Eq (cm k args) (ct k args)) (k:FuncId) (args:List AV):Fu Eq (C5 P L cm k args) (Ff P L ct k args):=by
  have plain:∀fn:Func,Fu Eq (match fn.body with
    |none=>mV
    | some c => if fn.name == "runtime.NumGoroutine" then mV else
     EK (oN (gP P cm true L c (args++List.replicate (fn.ntmps-args.length) .undef)) fun q=>match q.1 with
      | .exit _=>mV
      |_=>Ob P fn q.2)) (match fn.body with
    |none=>eJ
    | some c => if fn.name == "runtime.NumGoroutine" then eJ else
     CS (jV (jR P ct true L c (Ft.of (args.length+fn.ntmps) (args++List.replicate (fn.ntmps-args.length) .undef))) fun q=>match q.1 with
      | .exit _=>eJ
      |_=>aaT P fn q.2)):=by
   intro fn;cases fn.body with
   |none=>exact iL
   |some c =>
    simp only;split
    .exact iL
    .refine afV (nB (oG d _ _ _ _ (fun k=>Ft.CV _ _ _ (by simp_all))) fun a b e=>?_)
     obtain⟨f,a2⟩:=a;obtain⟨b1,b2⟩:=b;simp only at e;obtain⟨rfl,e2⟩:=e;cases f with
     |exit id=>exact iL
     |_=>exact ajt (P:=P) _ e2
  simp only[C5,Ff];cases P.funcs[k]? with
  |none=>exact iL
  |some fn =>
   simp only;cases rL fn with
   |none=>grind
   |some t =>
    cases args with
    |nil=>grind
    |cons x l =>
     cases l with
     |nil=>exact aaE _ _
     |cons y l=>grind
def amV (k:FuncId) (args:List AV):Fu Eq (knM k args) (knT k args):=by
 intro t n r a;grind[knT,knM,Tr.EU]
def Ml (L:Nat):∀d k args,Fu Eq (yJ P L d k args) (C0 P L d k args)
 |0,k,args=>iL
 |d+1,.func k,args=>by
  have a:=aek (P:=P) L (Ml L d) k args;simp only[yJ,C0];cases Xn P k args with
  |some v=>exact jK rfl
  |none =>
   simp only;split
   .exact amV k args
   omega
 |d+1,.yield id,args=>iL
 |d+1,.method _,args=>iL
 |d+1,.methodOf _ _,args=>iL
 |d+1,.via _ _ _ _,args=>iL
end
def afq [Bk] [Ev] (c:lL P) {L d:Nat} {k:FuncId} {args:List AV} {t:Tr} {n:Nat} {r:RT AV} (b:C0 P L d (.func k) args t n=some r):jA P k args t.get (fun v h'=>v=r.a/\h'=r.t.get):=by
 obtain⟨a,e,rfl⟩:=Ml L d (.func k) args t n r b;exact afp c e
end
end Mc
namespace Mc
variable {β α:Type} {o:Oper}
def quiet (E:xA):Bool:=E.bZ.isEmpty&&(E.xC.isEmpty&&Nat.ble E.hi E.lo)
def TS (E a:xA):Bool:=(ES E).all (fun id=>!Ms a id&&!(ES a).contains id)&&(ES a).all (fun id=>!Ms E id&&!(ES E).contains id)
def an0 (ops:Array Oper) (o a:Oper):Bool :=
 (match o.dst with|none=>true|some d=>!(yQ ops a).contains d)&&(match a.dst with|none=>true|some d=>!(yQ ops o).contains d) &&
 (match o.dst,a.dst with|some d,some d'=>d != d'|_,_=>true)
def alu (ops:Array Oper):Bool :=
 let a:=Cn ops ops.size
 (List.range ops.size).all fun j=>(MI ops j).all (fun i=>decide (i<j))&&(a.getD j []).all (fun i=>decide (i<j)) &&
  (List.range j).all fun i=>(a.getD j []).contains i||(match ops[i]?,ops[j]? with|some o,some o'=>an0 ops o o'|_,_=>false)
def On:Nat->List xA->List (Nat×xA)
 |_,[]=>[]
 |k,E::l=>bif quiet E then On (k+1) l else(k,E)::On (k+1) l
def FV (anc:List (List Nat)):List (Nat×xA)->Bool
 |[]=>true
 |p::l=>l.all (fun q=>(anc.getD q.1 []).contains p.1||TS p.2 q.2)&&FV anc l
def Pp (ops:Array Oper) (a:List xA):Bool:=alu ops&&(a.length==ops.size&&FV (Cn ops ops.size) (On 0 a))
def ajK {E a:xA} (h:quiet E=true):TS E a=true:=by
 grind[quiet,Nat.ble_eq,ES,TS,Ms]
def ajJ {E a:xA} (h:quiet a=true):TS E a=true:=by
 grind[quiet,Nat.ble_eq,ES,TS,Ms]
def TW {anc:List (List Nat)}:∀(l:List xA) (k:Nat),(∀(j:Nat) (E:xA),l[j]?=some E->quiet E=false->(k+j,E)∈On k l)
 |[],k,j,E,h,_=>by simp at h
 |b::l,k,0,E,h,a=>by
  simp_all[On]
 |b::l,k,j+1,E,h,a=>by
  have c:=TW (anc:=anc) l (k+1) j E (by simp_all) a
  grind[On]
def Pa {anc:List (List Nat)}:∀(l:List xA) (k:Nat),FV anc (On k l)=true->∀(i j:Nat) (E a:xA),i<j->l[i]?=some E->l[j]?=some a->quiet E=false->quiet a=false->(anc.getD (k+j) []).contains (k+i)=true\/TS E a=true
 |[],k,h,i,j,E,a,_,d,_,_,_=>by simp at d
 |f::l,k,h,0,0,E,a,c,_,_,_,_=>by omega
 |f::l,k,h,i+1,0,E,a,c,_,_,_,_=>by omega
 |f::l,k,h,0,j+1,E,a,c,d,g,e,b=>by
  cases d;unfold On at h;rw[e]at h;simp only[cond_false,FV,a0e,a0k,a15]at h;have:=h.1 _ (TW (anc:=anc) l (k+1) j a (by simp_all) b)
  grind
 |f::l,k,h,i+1,j+1,E,a,c,d,g,e,b=>by
  have h':FV anc (On (k+1) l)=true:=by
   grind[On,FV]
  have:=Pa l (k+1) h' i j E a (by omega) (by simp_all) (by simp_all) e b
  grind
def aid {ops:Array Oper} {a:List xA} (h:Pp ops a=true):Pq ops a=true:=by
 unfold Pp at h;simp only[a0e,beq_iff_eq]at h;obtain⟨c,w,s⟩:=h;unfold alu at c;unfold Pq;simp only[a0k,a0e,a0t]at c |-;intro j r;obtain⟨⟨u,a2⟩,t⟩:=c j r;refine⟨⟨u,a2⟩,?_⟩;intro i g;have b:=t i g;rw[a15]at b |-;rcases b with b|b
 .grind
 have l:i<a.length:=by omega
 have k:j<a.length:=by omega
 have p:a[i]?=some a[i]:=a0f l;have n:a[j]?=some a[j]:=a0f k
 have mem:(((Cn ops ops.size).getD j []).contains i=true)\/TS a[i] a[j]=true:=by
  cases e:quiet a[i]with
  |true=>exact .inr (ajK e)
  |false =>
   cases d:quiet a[j]with
   |true=>exact .inr (ajJ d)
   |false =>
    have:=Pa a 0 s i j _ _ g p n e d
    grind
 rcases mem with m|m
 .grind
 refine .inr ?_;rw[p,n];cases q:ops[i]? with
 |none=>simp_all
 |some o =>
  cases f:ops[j]? with
  |none=>grind
  |some v =>
   rw[q,f]at b;simp only at b |-;unfold an0 at b;unfold TS at m;unfold Su;rw[a0e]at m;rw[a0e,a0e];exact⟨⟨b,m.1⟩,m.2⟩
structure OF where
 f:Ft->AV
def qM:Operand->OF
 | .tmp k=>⟨fun t=>match (Ft.look (k+1) k).f t with|some v=>v|none=>.undef⟩
 | .const v=>⟨fun _=>SB v⟩
 | .global g=>⟨fun _=>.c (.pointer (some ⟨g,0,none⟩))⟩
 | .func k=>⟨fun _=>.fn (.func k) [] []⟩
def Ou:Option Tmp->Ft.H
 |none=>⟨fun t _=>t⟩
 |some k=>Ft.lay (k+1) k
def lP (r:Option AR):MT AV:=fun t n =>
 match r with
 |none=>none
 |some ⟨v,bZ,a⟩=>match bZ with
  |[]=>some ⟨v,t,n,a,[]⟩
  |u=>some ⟨v,t.bZ u,if(u.map (·.1)).contains n then n+1 else n,a,u.map (·.1)⟩
def nZ (x:MT α) (k:α->MT β):MT β:=fun t n =>
 match x t n with
 |none=>none
 |some ⟨a,h,j,f,d⟩=>match k a h j with
  |none=>none
  |some ⟨b,g,i,e,c⟩=>some ⟨b,g,i,f++e,d++c⟩
abbrev Ae:=Fn->List AV->MT AV
structure SF where
 f:Ae->Ft->MT AV
def IY [Bk] (P:Program) (o:Oper):SF :=
 match o.op with
 | .move x=>⟨fun _ f t n=>some ⟨(qM x).f f,t,n,[],[]⟩⟩
 | .assign x=>⟨fun _ f t n=>some ⟨(qM x).f f,t,n,[],[]⟩⟩
 | .pick c x y=>⟨fun _ f a nx=>lP (adW P c x y (fun o=>(qM o).f f) a.get nx) a nx⟩
 | .alloc e=>⟨fun _ f a nx=>lP (aaj P e (fun o=>(qM o).f f) a.get nx) a nx⟩
 | .box e x=>⟨fun _ f a nx=>lP (ai0 P e x (fun o=>(qM o).f f) a.get nx) a nx⟩
 | .build t h=>⟨fun _ f a nx=>lP (aae P t h (fun o=>(qM o).f f) a.get nx) a nx⟩
 | .buildSlice t len h=>⟨fun _ f a nx=>lP (Cs P t len h (fun o=>(qM o).f f) a.get nx) a nx⟩
 | .load t x=>⟨fun _ f a nx=>lP (adY P t x (fun o=>(qM o).f f) a.get nx) a nx⟩
 | .store t x y=>⟨fun _ f a nx=>lP (X9 P t x y (fun o=>(qM o).f f) a.get nx) a nx⟩
 | .nilCheck x=>⟨fun _ f a nx=>lP (Lf P x (fun o=>(qM o).f f) a.get nx) a nx⟩
 | .binOp op t x y _=>⟨fun _ f a nx=>lP (aaf P op t x y (fun o=>(qM o).f f) a.get nx) a nx⟩
 | .unOp op _ x=>⟨fun _ f a nx=>lP (adV P op x (fun o=>(qM o).f f) a.get nx) a nx⟩
 | .convert s d x=>⟨fun _ f a nx=>lP (NO P s d x (fun o=>(qM o).f f) a.get nx) a nx⟩
 | .makeInterface t x=>⟨fun _ f a nx=>lP (wY P t x (fun o=>(qM o).f f) a.get nx) a nx⟩
 | .makeFunc fn first b=>⟨fun _ f a nx=>lP (Lg P fn first b (fun o=>(qM o).f f) a.get nx) a nx⟩
 | .makeSlice t x y=>⟨fun _ f a nx=>lP (Fg P t x y (fun o=>(qM o).f f) a.get nx) a nx⟩
 | .slice t x m p l=>⟨fun _ f a nx=>lP (aaa P t x m p l (fun o=>(qM o).f f) a.get nx) a nx⟩
 | .fieldAddr t x k=>⟨fun _ f a nx=>lP (Fj P t x k (fun o=>(qM o).f f) a.get nx) a nx⟩
 | .field t x k=>⟨fun _ f a nx=>lP (aad P t x k (fun o=>(qM o).f f) a.get nx) a nx⟩
 | .indexAddr t x ix=>⟨fun _ f a nx=>lP (Fh P t x ix (fun o=>(qM o).f f) a.get nx) a nx⟩
 | .index t x ix=>⟨fun _ f a nx=>lP (aac P t x ix (fun o=>(qM o).f f) a.get nx) a nx⟩
 | .extract x k=>⟨fun _ f a nx=>lP (NN P x k (fun o=>(qM o).f f) a.get nx) a nx⟩
 | .typeAssert x _ i ok=>⟨fun _ f a nx=>lP (Co P x i ok (fun o=>(qM o).f f) a.get nx) a nx⟩
 | .range t x=>⟨fun _ f a nx=>lP (aab P t x (fun o=>(qM o).f f) a.get nx) a nx⟩
 | .next x j=>⟨fun _ f a nx=>lP (adX P x j (fun o=>(qM o).f f) a.get nx) a nx⟩
 | .makeMap _ rs=>⟨fun _ f a nx=>lP (NM P rs (fun o=>(qM o).f f) a.get nx) a nx⟩
 | .insert t x k y=>⟨fun _ f a nx=>lP (PM P t x k y (fun o=>(qM o).f f) a.get nx) a nx⟩
 | .lookup t x k ok=>⟨fun _ f a nx=>lP (PL P t x k ok (fun o=>(qM o).f f) a.get nx) a nx⟩
 | .call { callee:=.builtin .len,args,argTypes }=>⟨fun _ f a nx=>lP (aai P args argTypes (fun o=>(qM o).f f) a.get nx) a nx⟩
 | .call { callee:=.builtin .append,args,argTypes }=>⟨fun _ f a nx=>lP (Lh P args argTypes (fun o=>(qM o).f f) a.get nx) a nx⟩
 | .call { callee:=.builtin .max,args,argTypes }=>⟨fun _ f a nx=>lP (aah P args argTypes (fun o=>(qM o).f f) a.get nx) a nx⟩
 | .call { callee:=.builtin .min,args,argTypes }=>⟨fun _ f a nx=>lP (aag P args argTypes (fun o=>(qM o).f f) a.get nx) a nx⟩
 | .call { callee:=.builtin .clear,args,argTypes }=>⟨fun _ f a nx=>lP (NP P args argTypes (fun o=>(qM o).f f) a.get nx) a nx⟩
 | .call { callee:=.value g,args,.. }=>⟨fun call f=>match (qM g).f f with
  | .fn (.func k) first b=>call (.func k) (first++(args.toList.map fun o=>(qM o).f f)++b)
  | .yld id=>call (.yield id) (args.toList.map fun o=>(qM o).f f)
  |_=>eJ⟩
 |_=>⟨fun call f=>jY P call o f⟩
def orS (x y:Option (RT AV)):Option (RT AV):=match x with
 |some r=>some r
 |none=>y
def Iq [Bk] (P:Program) (o:Oper):SF :=
 let c:=IY P o;let s:SF:=⟨fun call f t n=>orS (c.f call f t n) (lP (iC P o.op (fun o=>(qM o).f f) t.get n) t n)⟩
 match o.op with
 | .load .. | .nilCheck .. | .fieldAddr .. | .indexAddr .. | .store ..=>s
 | .call { callee:=.builtin .len,.. }=>s
 | .call { callee:=.builtin .append,.. }=>s
 |_=>c
structure QF where
 f:Ae->Ft->MT Ft
def zY [Bk] (P:Program) (ops:Array Oper):List Oper->QF
 |[]=>⟨fun _ f=>eZ f⟩
 |o::l=>match o.guard with
  |none=>match o.op with
   | .move x=>⟨fun call f=>(zY P ops l).f call ((Ou o.dst).f f ((qM x).f f))⟩
   | .assign x=>⟨fun call f=>(zY P ops l).f call ((Ou o.dst).f f ((qM x).f f))⟩
   |_=>⟨fun call f=>nZ ((Iq P o).f call f) fun v=>(zY P ops l).f call ((Ou o.dst).f f v)⟩
  |some _=>⟨fun call f=>match qR ops o f with
   |some true=>nZ ((Iq P o).f call f) fun v=>(zY P ops l).f call ((Ou o.dst).f f v)
   |some false=>(zY P ops l).f call ((Ou o.dst).f f .undef)
   |none=>eJ⟩
structure DF where
 f:Ae->Ft->MT (Ft×List xA)
def anb (x:MT AV):MT (AV×xA):=fun t n =>
 match x t n with
 |none=>none
 |some ⟨a,c,b,rd,wr⟩=>some ⟨(a,⟨a,(wr++List.range' n (b-n)).map fun id=>(id,c.get id),rd,n,b,false⟩),c,b,rd,wr⟩
def Nr [Bk] (P:Program) (ops:Array Oper):List Oper->DF
 |[]=>⟨fun _ f=>eZ (f,[])⟩
 |o::l=>⟨fun call f=>match qR ops o f with
  |some true=>nZ (anb ((Iq P o).f call f)) fun v=>nZ ((Nr P ops l).f call ((Ou o.dst).f f v.1)) fun q=>eZ (q.1,v.2::q.2)
  |some false=>nZ ((Nr P ops l).f call ((Ou o.dst).f f .undef)) fun q=>eZ (q.1,⟨.undef,[],[],0,0,true⟩::q.2)
  |none=>eJ⟩
structure CF where
 f:Ae->Nat->Ft->MT (AX×Ft)
def ahA (g:CF) (call:Ae):Nat->Ft->MT (AX×Ft)
 |0,_=>eJ
 |n+1,f=>nZ (g.f call n f) fun q=>match q with
  |(.normal,a)=>ahA g call n a
  |q=>eZ q
def qF [Bk] (P:Program) (tp:Bool):Code->CF
 | .skip=>⟨fun _ n f=>match n with|0=>eJ|_+1=>eZ (.normal,f)⟩
 | .region _ ops draw=>if draw then⟨fun call n f=>match n with
   |0=>eJ
   |_+1=>nZ (if P.follows .mixedOrders then nZ ((Nr P ops ops.toList).f call f) fun q=>if Pp ops q.2 then eZ q.1 else eJ else eJ) fun a=>eZ (.normal,a)⟩
  else⟨fun call n f=>match n with
   |0=>eJ
   |_+1=>nZ ((zY P ops ops.toList).f call f) fun a=>eZ (.normal,a)⟩
 | .seq x y=>⟨fun call n f=>match n with
  |0=>eJ
  |n+1=>nZ ((qF P tp x).f call n f) fun q=>match q with
   |(.normal,a)=>(qF P tp y).f call n a
   |q=>eZ q⟩
 | .cond c x y=>⟨fun call n f=>match n with
  |0=>eJ
  |n+1=>match (qM c).f f with
   | .c (.bool b)=>bif b then(qF P tp x).f call n f else(qF P tp y).f call n f
   |_=>eJ⟩
 | .block id c=>⟨fun call n f=>match n with
  |0=>eJ
  |n+1=>nZ ((qF P tp c).f call n f) fun q=>match q with
   |(.exit d,a)=>if d=id then eZ (.normal,a)else eZ (.exit d,a)
   |q=>eZ q⟩
 | .loop c=>⟨fun call n f=>ahA (qF P tp c) call n f⟩
 | .scope c=>⟨fun call n f=>match n with
  |0=>eJ
  |n+1=>(qF P tp c).f call n f⟩
 | .label _=>⟨fun _ n f=>match n with|0=>eJ|_+1=>eZ (.normal,f)⟩
 | .exit id=>⟨fun _ n f=>match n with|0=>eJ|_+1=>eZ (.exit id,f)⟩
 | .ret=>⟨fun _ n f=>match n with|0=>eJ|_+1=>eZ (.ret,f)⟩
 |_=>⟨fun _ _ _=>eJ⟩
def adI (x:MT α):MT α:=fun t n =>
 match x t n with
 |none=>none
 |some ⟨a,c,b,rd,wr⟩=>some ⟨a,c,b,(rd.filter fun id=>!(decide (n<=id)&&decide (id<b))).eraseDups,(wr.filter fun id=>!(decide (n<=id)&&decide (id<b))).eraseDups⟩
structure FF where
 f:Ae->List AV->MT AV
def aiy [Bk] (P:Program) (L:Nat) (k:FuncId):FF :=
 match P.funcs[k]? with
  |none=>⟨fun _ _=>eJ⟩
  |some fn =>
   let body:Ae->List AV->MT AV:=match fn.body with
    |none=>fun _ _=>eJ
    | some c => if fn.name == "runtime.NumGoroutine" then fun _ _ => eJ else fun call args =>
     adI (nZ ((qF P true c).f call L (Ft.of (args.length+fn.ntmps) (args++List.replicate (fn.ntmps-args.length) .undef))) fun q=>match q.1 with
      | .exit _=>eJ
      |_=>aaT P fn q.2)
   match rL fn with
   |some t=>⟨fun call args=>match args with
    |[x]=>LV P t x
    |_=>body call args⟩
   |none=>⟨body⟩
def lG [Bk] (P:Program) (L:Nat):Nat->Fn->List AV->MT AV
 |0,_,_=>eJ
 |d+1,.func k,args=>match Xn P k args with
  |some v=>eZ v
  |none=>if knB P k=true then knT k args else(aiy P L k).f (lG P L d) args
 |_+1,_,_=>eJ
def aiY [Bk] (P:Program) (L d:Nat) (k:FuncId) (args:List AV):MT AV:=lG P L d (.func k) args
def Le (x y:MT α):Prop:=∀t n r,x t n=some r->y t n=some r
def Le.refl {α:Type} (x:MT α):Le x x:=fun _ _ _ h=>h
def Le.fail {y:MT α}:Le eJ y:=fun _ _ _ h=>by cases h
def Le.bind {x y:MT α} {k l:α->MT β} (h:Le x y) (i:∀a,Le (k a) (l a)):Le (nZ x k) (jV y l):=by
 intro t n r c;unfold nZ at c;unfold jV;cases e:x t n with
 |none=>simp_all
 |some q =>
  obtain⟨a,f,g,p,m⟩:=q;rw[e]at c;simp only at c;rw[h _ _ _ e];simp only;cases d:k a f g with
  |none=>simp_all
  |some s =>
   obtain⟨b,u,v,o,j⟩:=s;rw[d]at c;rw[i a _ _ _ d];exact c
def aaz (v:α) (k:α->MT β):jV (eZ v) k=k v:=by
 funext t n;unfold jV eZ;simp only;cases k v t n<;>simp_all
def Rv (o:Operand) (f:Ft):(qM o).f f=qJ f o:=by cases o<;>rfl
theorem Ru (f:Ft):(fun o=>(qM o).f f)=qJ f:=funext fun o=>Rv o f
theorem E7 (d:Option Tmp) (f:Ft) (v:AV):(Ou d).f f v=f.st d v:=by cases d<;>rfl
def akt (r:Option AR) (t:Tr) (n:Nat):lP r t n=(match r with
 |none=>none
 |some r=>some ⟨r.v,t.bZ r.bZ,if(r.bZ.map (·.1)).contains n then n+1 else n,r.xC,r.bZ.map (·.1)⟩):=by
 cases r with
 |none=>rfl
 |some r =>
  obtain⟨v,bZ,a⟩:=r;cases bZ with
  |nil=>rfl
  |cons u b=>rfl
section
variable {P:Program} {cf ct:Ae}
def aiP [Bk] (op:Op) (f:Ft):ak9 P op f=fun t n=>lP (I8 P op (fun o=>(qM o).f f) t.get n) t n:=by
 funext t n;rw[akt,Ru];rfl
def Iy [Bk] (a:∀k args,Le (cf k args) (ct k args)) (o:Oper) (f:Ft):Le (jY P cf o f) (jY P ct o f):=by
 unfold jY;cases mI P (qJ f) o.op with
 |none =>
  simp only;cases pG (qJ f) o.op with
  |none=>exact Le.refl _
  |some p=>simp_all
 |some p=>simp_all
theorem ace [Bk] {f:Ft} {g:Operand} {args:Array Operand} {b:Array TypeId} (h:o.op=.call ⟨.value g,args,b⟩) {k:FuncId} {first a:List AV} (c:qJ f g=.fn (.func k) first a) :
  jY P ct o f=ct (.func k) (first++args.toList.map (qJ f)++a):=by
 simp_all[jY,mI]
theorem acd [Bk] {f:Ft} {g:Operand} {args:Array Operand} {a:Array TypeId} (h:o.op=.call ⟨.value g,args,a⟩) {id:Nat} (b:qJ f g=.yld id) :
  jY P ct o f=ct (.yield id) (args.toList.map (qJ f)):=by
 simp_all[jY,mI,pG]
def Iw [Bk] {f:Ft} (h:mI P (qJ f) o.op=none) (a:pG (qJ f) o.op=none):jY P ct o f=fun t n=>lP (I8 P o.op (fun o=>(qM o).f f) t.get n) t n:=by
 unfold jY;rw[h];simp only[a];exact aiP _ f
def amw [Bk] (op:Op) (ρ:Operand->AV):Le (fun t n=>lP (alb P op ρ t.get n) t n) (fun t n=>lP (I8 P op ρ t.get n) t n):=by
 intro t n r a;simp only at a |-;unfold I8;cases h:alb P op ρ t.get n with
 |none=>rw[h]at a;cases a
 |some q=>simp_all
def E9 [Bk] (e:∀k args,Le (cf k args) (ct k args)) (o:Oper) (f:Ft):Le ((IY P o).f cf f) (jY P ct o f):=by
 cases h:o.op
 case call c =>
  obtain⟨cl,args,i⟩:=c;cases cl with
  |value g =>
   unfold IY;rw[h];show Le (match (qM g).f f with
    | .fn (.func k) first a=>cf (.func k) (first++(args.toList.map fun o=>(qM o).f f)++a)
    | .yld id=>cf (.yield id) (args.toList.map fun o=>(qM o).f f)
    |_=>eJ) _
   rw[Rv];split
   .grind[ace,Ru]
   .grind[acd,Ru]
   .exact Le.fail
  |builtin b =>
   unfold IY;rw[h];cases b<;>first
    |exact Iy e o f
    |(rw[Iw (by rw[h];rfl) (by rw[h];rfl),h];exact fun t n r d=>amw _ _ t n r d)
  |_ =>
   unfold IY;rw[h];exact Iy e o f
 all_goals
  unfold IY;rw[h];first
   |exact Iy e o f
   |(rw[Iw (by rw[h];rfl) (by rw[h];rfl),h];exact fun t n r d=>amw _ _ t n r d)
def Pu [Bk] (d:∀k args,Le (cf k args) (ct k args)) (o:Oper) (f:Ft):Le ((Iq P o).f cf f) (jY P ct o f):=by
 have s:mI P (qJ f) o.op=none->pG (qJ f) o.op=none->Le (fun t n=>orS ((IY P o).f cf f t n) (lP (iC P o.op (fun o=>(qM o).f f) t.get n) t n)) (jY P ct o f):=by
  intro i g t n r a;simp only at a;cases e:(IY P o).f cf f t n with
  |some q=>rw[e]at a;cases a;exact E9 d o f t n r e
  |none =>
   rw[e]at a;have a:lP (iC P o.op (fun o=>(qM o).f f) t.get n) t n=some r:=a;rw[Iw i g];simp only;cases hs:iC P o.op (fun o=>(qM o).f f) t.get n with
   |none=>rw[hs]at a;cases a
   |some q =>
    grind[I8,adU,PH]
 unfold Iq;cases h:o.op
 case load=>(rw[h]at s;exact s rfl rfl)
 case nilCheck=>(rw[h]at s;exact s rfl rfl)
 case fieldAddr=>(rw[h]at s;exact s rfl rfl)
 case indexAddr=>(rw[h]at s;exact s rfl rfl)
 case store=>(rw[h]at s;exact s rfl rfl)
 case call c =>
  obtain⟨cl,args,j⟩:=c;cases cl with
  |builtin b =>
   cases b<;>first
    |(rw[h]at s;exact s rfl rfl)
    |exact E9 d o f
  |_=>exact E9 d o f
 all_goals exact E9 d o f
def Xw [Bk] (e:∀k args,Le (cf k args) (ct k args)) (ops:Array Oper):∀(l:List Oper) (f:Ft),Le ((zY P ops l).f cf f) (Cj P ct ops l f)
 |[],f=>Le.refl _
 |o::l,f=>by
  have g:=Xw e ops l;have go:Le (nZ ((Iq P o).f cf f) fun v=>(zY P ops l).f cf ((Ou o.dst).f f v)) (jV (jY P ct o f) fun v=>Cj P ct ops l (f.st o.dst v)) :=
   Le.bind (Pu e o f) fun v=>by simp_all[E7]
  have c:∀x,jY P ct o f=eZ (qJ f x)->Le ((zY P ops l).f cf ((Ou o.dst).f f ((qM x).f f))) (jV (jY P ct o f) fun v=>Cj P ct ops l (f.st o.dst v)):=by
   simp_all[aaz,E7,Rv]
  simp only[zY,Cj];cases h:o.guard with
  |none =>
   have d:qR ops o f=some true:=(by simp_all[qR]);rw[d];simp only;split
   .rename_i x a
    refine c x ?_;unfold jY;rw[a];rfl
   .rename_i x a
    refine c x ?_;unfold jY;rw[a];rfl
   omega
  |some q =>
   simp only;cases qR ops o f with
   |none=>exact Le.fail
   |some b =>
    grind[E7]
def akf {x y:MT AV} (h:Le x y):Le (anb x) (TN y):=by
 intro t n r b;unfold anb at b;unfold TN;cases c:x t n with
 |none=>simp_all
 |some q =>
  obtain⟨a,f,g,e,d⟩:=q;rw[c]at b;rw[h _ _ _ c];exact b
def Xx [Bk] (a:∀k args,Le (cf k args) (ct k args)) (ops:Array Oper):∀(l:List Oper) (f:Ft),Le ((Nr P ops l).f cf f) (yH P ct ops l f)
 |[],f=>Le.refl _
 |o::l,f=>by
  have c:=Xx a ops l;simp only[Nr,yH];cases qR ops o f with
  |none=>exact Le.fail
  |some b =>
   cases b
   .simp only
    exact Le.bind (by simp_all[E7]) fun q=>Le.refl _
   .simp only
    exact Le.bind (akf (Pu a o f)) fun v=>Le.bind (by simp_all[E7]) fun q=>Le.refl _
def akA [Bk] (a:∀k args,Le (cf k args) (ct k args)) (ops:Array Oper) (f:Ft) :
  Le (if P.follows .mixedOrders then nZ ((Nr P ops ops.toList).f cf f) fun q=>if Pp ops q.2 then eZ q.1 else eJ else eJ) (Iz P ct ops f):=by
 unfold Iz;split
 .refine Le.bind (Xx a ops _ f) fun q=>?_
  by_cases h:Pp ops q.2=true
  .rw[if_pos h,if_pos (aid h)];exact Le.refl _
  .rw[if_neg h];exact Le.fail
 .exact Le.fail
def oW [Bk] (e:∀k args,Le (cf k args) (ct k args)) {tp:Bool}:∀(n:Nat) (c:Code) (f:Ft),Le ((qF P tp c).f cf n f) (jR P ct tp n c f)
 |0,c,f=>by
  cases c<;>try exact Le.fail
  case region id ops draw=>cases draw<;>exact Le.fail
 |n+1,c,f=>by
  cases c with
  |skip=>exact Le.refl _
  |region id ops draw =>
   cases draw
   .show Le (nZ ((zY P ops ops.toList).f cf f) fun d=>eZ (AX.normal,d)) (jV (Cj P ct ops ops.toList f) fun d=>eZ (AX.normal,d))
    exact Le.bind (Xw e ops _ f) fun d=>Le.refl _
   .show Le (nZ (if P.follows .mixedOrders then nZ ((Nr P ops ops.toList).f cf f) fun q=>if Pp ops q.2 then eZ q.1 else eJ else eJ) fun d=>eZ (AX.normal,d)) (jV (Iz P ct ops f) fun d=>eZ (AX.normal,d))
    exact Le.bind (akA e ops f) fun d=>Le.refl _
  |seq x y =>
   refine Le.bind (oW e n x f) fun q=>?_;obtain⟨a,d⟩:=q;cases a with
   |normal=>exact oW e n y d
   |_=>exact Le.refl _
  |cond c x y =>
   show Le (match (qM c).f f with | .c (.bool b)=>bif b then(qF P tp x).f cf n f else(qF P tp y).f cf n f|_=>eJ) (match qJ f c with | .c (.bool b)=>jR P ct tp n (if b then x else y) f|_=>eJ);rw[Rv];split
   .rename_i b _
    cases b
    .exact oW e n y f
    .exact oW e n x f
   .exact Le.fail
  |block id c =>
   refine Le.bind (oW e n c f) fun q=>?_;obtain⟨a,d⟩:=q;cases a with
   |exit j =>
    simp only;split<;>exact Le.refl _
   |_=>exact Le.refl _
  |loop c =>
   have key:∀(m:Nat) (f:Ft),m<=n+1->(∀g,g<m->∀f,Le ((qF P tp c).f cf g f) (jR P ct tp g c f))->Le (ahA (qF P tp c) cf m f) (jR P ct tp m (.loop c) f):=by
    intro m;induction m with
    |zero=>intro f _ _;exact Le.fail
    |succ m o =>
     intro f p i;refine Le.bind (i m (by omega) f) fun q=>?_
     obtain⟨a,d⟩:=q;cases a with
     |normal=>grind
     |_=>exact Le.refl _
   exact key (n+1) f (a0g _) fun g h f=>oW e g c f
  |scope c=>exact oW e n c f
  |label l=>exact Le.refl _
  |exit id=>exact Le.refl _
  |ret=>exact Le.refl _
  |_=>exact Le.fail
 termination_by n=>n
 decreasing_by all_goals omega
def aiw {x y:MT α} (h:Le x y):Le (adI x) (CS y):=by
 intro t n r b;unfold adI at b;unfold CS;cases c:x t n with
 |none=>simp_all
 |some q =>
  obtain⟨a,f,g,e,d⟩:=q;rw[c]at b;rw[h _ _ _ c];exact b
def aix [Bk] (L:Nat) (a:∀k args,Le (cf k args) (ct k args)) (k:FuncId) (args:List AV):Le ((aiy P L k).f cf args) (Ff P L ct k args):=by
 unfold aiy Ff;cases P.funcs[k]? with
 |none=>exact Le.fail
 |some fn =>
  simp only
  have body:Le ((match fn.body with
    |none=>fun _ _=>eJ
    | some c => if fn.name == "runtime.NumGoroutine" then fun _ _ => eJ else fun call args =>
     adI (nZ ((qF P true c).f call L (Ft.of (args.length+fn.ntmps) (args++List.replicate (fn.ntmps-args.length) .undef))) fun q=>match q.1 with
      | .exit _=>eJ
      |_=>aaT P fn q.2):Ae->List AV->MT AV) cf args) (match fn.body with
    |none=>eJ
    | some c => if fn.name == "runtime.NumGoroutine" then eJ else
     CS (jV (jR P ct true L c (Ft.of (args.length+fn.ntmps) (args++List.replicate (fn.ntmps-args.length) .undef))) fun q=>match q.1 with
      | .exit _=>eJ
      |_=>aaT P fn q.2)):=by
   cases fn.body with
   |none=>exact Le.fail
   |some c =>
    simp only;split
    .exact Le.fail
    .refine aiw (Le.bind (oW a L c _) fun q=>?_)
     split
     .exact Le.fail
     .exact Le.refl _
  cases rL fn with
  |none=>exact body
  |some t =>
   cases args with
   |nil=>exact body
   |cons x l =>
    cases l with
    |nil=>exact Le.refl _
    |cons y l=>exact body
def IB [Bk] (L:Nat):∀d k args,Le (lG P L d k args) (C0 P L d k args)
 |0,k,args=>Le.fail
 |d+1,.func k,args=>by
  have a:=aix (P:=P) L (IB L d) k args;simp only[lG,C0];cases Xn P k args with
  |some v=>exact Le.refl _
  |none =>
   simp only;split
   .exact Le.refl _
   omega
 |d+1,.yield id,args=>Le.fail
 |d+1,.method _,args=>Le.fail
 |d+1,.methodOf _ _,args=>Le.fail
 |d+1,.via _ _ _ _,args=>Le.fail
def afr [Bk] (L d:Nat) (k:FuncId) (args:List AV):Le (aiY P L d k args) (C0 P L d (.func k) args):=IB L d (.func k) args
end
end Mc
namespace Mc
section
variable {P:Program}
def dU.none [Bk] [Ev] {A:Nat->Prop} {w:World} (c:∀b,A b->b<w.heap.size) (a:GOk A w):dU (fun _=>.no) A (fun _=>.no) w where
 out:=fun _ _ h=>by cases h
 old:=c
 no:=fun _ _=>rfl
 dead:=fun _ h=>by cases h
 wV:=fun _ _ _ _ h=>by grind[dI.bG]
 inj:=fun _ _ _ h=>by cases h
 mT:=a
 others:=fun _ _ h d=>by grind[dI.other]
 scs:=fun _=>trivial
def GOk.none [Bk] {A:Nat->Prop} {w:World} (h:Bk.mT=[]):GOk A w:=fun t a=>absurd (h▸a:t∈[]) a0b
def Ext.below [Bk] [Ev] {m a:Nat->St} {w w':World} (h:Ext m w a w') (c:∀id b,m id≠.at b):Below w.heap.size w w' :=
 ⟨h.os,h.tape,h.output,h.size,fun k d=>(h.un k d fun id=>c id k).2⟩
def ahI:Tr.leaf.get=fun _=>dI.no:=by funext j;exact @Tr.nH dY dZ j
def adB:∀{l:List (Int×Int)} {xs:List Int},l.length=xs.length->(∀t∈l.zip xs,t.1.1<=t.2/\t.2<=t.1.2)->∀i,(l.getD i (0,0)).1<=xs.getD i 0/\xs.getD i 0<=(l.getD i (0,0)).2
 |[],[],_,_,i=>by simp
 |[],_::_,h,_,_=>by simp at h
 |_::_,[],h,_,_=>by simp at h
 |a::l,x::xs,h,b,0=>b (a,x) (by simp)
 |a::l,x::xs,h,b,i+1=>by
  simp only[List.getD_cons_succ];exact adB (by simp_all) (fun t c=>b t (by simp_all)) i
inductive jI:List (Int×Int)->List Int->Prop
 |nil:jI [] []
 |cons {a b x:Int} {l:List (Int×Int)} {xs:List Int} (h1:a<=x) (h2:x<=b) (h:jI l xs):jI ((a,b)::l) (x::xs)
def jI.len {l:List (Int×Int)} {xs:List Int} (h:jI l xs):l.length=xs.length:=by induction h<;>simp_all
def jI.all {l:List (Int×Int)} {xs:List Int} (h:jI l xs):∀t∈l.zip xs,t.1.1<=t.2/\t.2<=t.1.2:=by
 induction h with
 |nil=>simp_all
 |cons c b _ a =>
  grind[List.zip_cons_cons]
inductive jT (ρ:Nat->Int):List (Poly×Int×Int)->Prop
 |nil:jT ρ []
 |cons {p:Poly} {a b:Int} {l:List (Poly×Int×Int)} (h1:a<=cI ρ p) (h2:cI ρ p<=b) (h:jT ρ l):jT ρ ((p,a,b)::l)
def jT.all {ρ:Nat->Int} {l:List (Poly×Int×Int)} (h:jT ρ l):∀t∈l,t.2.1<=cI ρ t.1/\cI ρ t.1<=t.2.2:=by
 induction h<;>grind
inductive xB (ρ:Nat->Int):List (Nat×Poly×Poly×Poly)->Prop
 |nil:xB ρ []
 |quo {p q r:Poly} {l:List (Nat×Poly×Poly×Poly)} (h1:cI ρ r=(cI ρ p).tdiv (cI ρ q)) (h:xB ρ l):xB ρ ((0,p,q,r)::l)
 |rem {p q r:Poly} {l:List (Nat×Poly×Poly×Poly)} (h1:cI ρ r=(cI ρ p).tmod (cI ρ q)) (h:xB ρ l):xB ρ ((1,p,q,r)::l)
 |ads {p q r:Poly} {l:List (Nat×Poly×Poly×Poly)} (h1:cI ρ r=max (cI ρ p) (cI ρ q)) (h:xB ρ l):xB ρ ((2,p,q,r)::l)
def xB.all {ρ:Nat->Int} {l:List (Nat×Poly×Poly×Poly)} (h:xB ρ l):∀t∈l,(t.1=0->cI ρ t.2.2.2=(cI ρ t.2.1).tdiv (cI ρ t.2.2.1))/\(t.1=1->cI ρ t.2.2.2=(cI ρ t.2.1).tmod (cI ρ t.2.2.1))/\(t.1=2->cI ρ t.2.2.2=max (cI ρ t.2.1) (cI ρ t.2.2.1)):=by
 induction h with
 |nil=>simp_all
 |quo c _ b =>
  intro t a;rcases a0d.1 a with rfl|a<;>grind
 |rem c _ b =>
  intro t a;rcases a0d.1 a with rfl|a<;>grind
 |ads c _ b =>
  grind
def aan [Bk] [Ev] (P:Program) (l:List (Nat×List Poly×List Poly)):Prop:=∀k ps rs,(k,ps,rs)∈l->∀args h,toPs args=some ps->jA P k args h (fun v h'=>v=Ee (rs.map C9)/\h'=h)
def aan.nil [Bk] [Ev]:aan P []:=fun k ps rs h=>absurd h a0b
def aak [Bk] [Ev] (P:Program) (l:List Nat):Prop:=∀k,k∈l->∀h,jA P k [] h (fun v h'=>v=.c (.bool true)/\h'=h)
def aak.nil [Bk] [Ev]:aak P []:=fun k h=>absurd h a0b
def Sx [Bk] [Ev] (P:Program) (l:List (Nat×List AV×AV)):Prop:=∀k as r,(k,as,r)∈l->NV P k as r
def Sx.nil [Bk] [Ev]:Sx P []:=fun k as r h=>absurd h a0b
def Sx.cons [Bk] [Ev] {k:Nat} {as:List AV} {r:AV} {l:List (Nat×List AV×AV)} (h:NV P k as r) (b:Sx P l):Sx P ((k,as,r)::l):=by
 intro k' c r' a;rcases a0d.1 a with e|a
 .simp_all
 .exact b _ _ _ a
def eC.cast (b1:Bk) (e1:@Ev b1) (b2:Bk) (e2:@Ev b2) (J:@Ev.xs b1 e1=@Ev.xs b2 e2) (K:@Ev.L4 b1 e1=@Ev.L4 b2 e2) (L:@Ev.Ej b1 e1=@Ev.Ej b2 e2) {A:Nat->Prop} {w:World} {x:AV} {v:Value} (h:@eC b1 e1 A w x v):@eC b2 e2 A w x v:=by
 have B:@Ev.eW b1 e1=@Ev.eW b2 e2:=by grind[Ev.eW]
 induction h with
 |c v=>exact .c v
 |undef=>exact .undef
 |emp a=>exact .emp a
 |agg cs vs q g _ d=>exact .agg cs vs q g d
 |bE cs vs q _ d=>exact .bE cs vs q d
 |lit j bG b off cap vs k r u m g s _ d=>exact .lit j bG b off cap vs k r u m g s d
 |nQ j a cap k=>exact .nQ j a cap k
 |iY j bG G F b off vs k r m g s _ d=>exact .iY j bG G F b off vs k r m g s d
 |fn f l D vs E q I _ _ z y=>exact .fn f l D vs E q I z y
 |qZ t x v _ d=>exact .qZ t x v d
 |e p=>rw[B];exact .e p
 |row n l b off len cap H u k r s=>exact .row n l b off len cap (by simp_all) u k r (by simp_all)
 |Tf n l a cap H=>exact .Tf n l a cap (by simp_all)
 |o i =>
  have e:@Ev.val b1 e1 i=@Ev.val b2 e2 i:=by simp_all[Ev.val]
  rw[e];exact .o i
 |any v g=>exact .any v g
 |seq j base bZ tail v C g _ d =>
  refine .seq j base bZ tail v (by grind[InB,Ev.seq]) g ?_
  simp_all[rowsOf,Ev.seq]
 |vH j base bZ tail p off v C g M _ d =>
  refine .vH j base bZ tail p off v (by grind[InB,Ev.seq]) g (by simp_all) ?_
  simp_all[rowsOf,Ev.seq]
 |pP v=>exact .pP v
def uZ {r:AV->AV->Bool}:∀{a b:List AV},LQ r a b=true->a.length=b.length/\∀(i:Nat) (y:AV),b[i]?=some y->∃x,a[i]?=some x/\r x y=true
 |[],[],_=>⟨rfl,fun i y h=>by simp at h⟩
 |[],_::_,h=>by cases h
 |_::_,[],h=>by cases h
 |x::l,y::m,h=>by
  unfold LQ at h;rw[a0e]at h;obtain⟨d,c⟩:=uZ h.2;grind
def E6 {r:AV->AV->Bool}:∀{a b:List (List AV)},Im r a b=true->a.length=b.length/\∀(i:Nat) (y:List AV),b[i]?=some y->∃x,a[i]?=some x/\LQ r x y=true
 |[],[],_=>⟨rfl,fun i y h=>by simp at h⟩
 |[],_::_,h=>by cases h
 |_::_,[],h=>by cases h
 |x::l,y::m,h=>by
  unfold Im at h;rw[a0e]at h;obtain⟨d,c⟩:=E6 h.2;grind
def isAny:AV->Bool
 | .any=>true
 |_=>false
def Oz [Bk]:Nat->AV->AV->Bool
 |0,_,_=>false
 |k+1,x,y=>bif isAny y then x.one else match x with
  | .c v=>match y with
   | .c u=>vEq v u
   | .e p=>match v with
    | .int .i64 n=>eqB (rK p (zM n))==some true
    |_=>false
   |_=>false
  | .e q=>match y with
   | .e p=>decide (p=q)||eqB (rK p q)==some true
   | .c (.int .i64 n)=>eqB (rK q (zM n))==some true
   |_=>false
  | .undef=>match y with | .undef=>true|_=>false
  | .emp=>match y with | .emp=>true | .lit _ []=>true|_=>false
  | .agg a=>match y with | .agg b=>LQ (Oz k) a b|_=>false
  | .bE a=>match y with | .bE b=>LQ (Oz k) a b|_=>false
  | .lit s a=>match y with | .lit d b=>decide (s=d)&&Im (Oz k) a b|_=>false
  | .row n a=>match y with | .row n' b=>decide (n=n')&&decide (a=b)|_=>false
  | .o i=>match y with | .o j=>decide (i=j)|_=>false
  | .seq s b u t=>AY 16 (.seq s b u t) y
  |_=>false
def T6 {y:AV} (h:isAny y=true):y=.any:=by grind[isAny]
def XV [Bk] {k:Nat} {x y:AV} (h:Oz k x y=true) (h1:x.one=true):y.one=true:=by
 cases k with
 |zero=>cases h
 |succ k =>
  unfold Oz at h;cases a:isAny y with
  |true=>rw[T6 a];rfl
  |false =>
  rw[a]at h;simp only[cond_false]at h;split at h
  .split at h
   .grind[aav]
   .rfl
   .cases h
  .split at h
   .rfl
   .rfl
   .cases h
  .grind
  .split at h
   .rfl
   .rfl
   .cases h
  .simp_all[AV.one]
  .simp_all[AV.one]
  .split at h
   .rfl
   .cases h
  .grind
  .grind
  .grind[yE]
  .cases h
def adR [Bk] [Ev] {A:Nat->Prop} {w:World}:∀{k:Nat} {x y:AV} {v:Value},Oz k x y=true->eC A w x v->eC A w y v
 |0,x,y,v,h,_=>by cases h
 |k+1,x,y,v,h,f=>by
  have M:∀{x y:AV} {v:Value},Oz k x y=true->eC A w x v->eC A w y v:=adR
  have pe:∀{p q:Poly},(eqB (rK p q)==some true)=true->cI Ev.eW p=cI Ev.eW q:=by
   intro p q B;have:=Io (eq_of_beq B)
   grind[iA]
  unfold Oz at h;cases d:isAny y with
  |true =>
   rw[d]at h;rw[T6 d];exact .any v (f.one h)
  |false =>
  rw[d]at h;simp only[cond_false]at h;split at h
  .rename_i u
   split at h
   .grind[aav]
   .rename_i p
    split at h
    .rename_i n
     cases f;have:=pe h;rw[tS]at this;rw[<-this];exact .e p
    .cases h
   .cases h
  .rename_i q
   split at h
   .rename_i p
    cases f;rw[a15]at h;rcases h with h|h
    .rw[<-of_decide_eq_true h];exact .e p
    .rw[<-pe h];exact .e p
   .rename_i n
    cases f;have:=pe h;rw[tS]at this;rw[this];exact .c _
   .cases h
  .grind
  .split at h
   .exact f
   .cases f;exact .nQ _ _ 0 (a0n _)
   .cases h
  .split at h
   .obtain⟨r,l⟩:=uZ h
    cases f with
    |agg _ vs E t C =>
     refine .agg _ vs (by omega) ?_ ?_
     .intro i y d
      obtain⟨x,m,g⟩:=l i y d;exact XV g (t i x m)
     grind
   .cases h
  .split at h
   .obtain⟨r,l⟩:=uZ h
    cases f with
    |bE _ vs E C =>
     refine .bE _ vs (by omega) ?_
     grind
   .cases h
  .rename_i s a
   split at h
   .rename_i L b
    rw[a0e,decide_eq_true_eq]at h;obtain⟨rfl,h⟩:=h;obtain⟨r,l⟩:=E6 h;have z:∀(i j:Nat) (y:AV),iE b i j=some y->∃x,iE a i j=some x/\Oz k x y=true:=by
     intro i j y d;unfold iE at d;cases o:b[i]? with
     |none=>simp_all
     |some e =>
      rw[o]at d;obtain⟨I,m,g⟩:=l i e o;obtain⟨-,l2⟩:=uZ g;simp_all[iE]
    cases f with
    |lit _ _ J off cap vs H o O K t N C =>
     rw[r];refine .lit s b J off cap vs H o (by omega) ?_ ?_ ?_ ?_
     .intro e G
      obtain⟨i,F⟩:=a1s.1 G;obtain⟨I,m,g⟩:=l i e F;rw[<-(uZ g).1];grind
     .intro i j y d
      obtain⟨x,m,g⟩:=z i j y d;exact XV g (t i j x m)
     .grind
     grind
    |nQ _ a0 cap D =>
     have e:b=[]:=a1f.1 r.symm;subst e;exact .nQ _ a0 cap D
   .cases h
  .grind
  .grind
  .grind[yE]
  .cases h
def Mw [Bk] (P:Program) (L d:Nat) (k:FuncId) (as:List AV) (r:AV):Bool :=
 match aiY P L d k as .leaf 0 with
 |some q=>(match wA q.t.get 16 q.a with
  |some p=>Oz 16 p.1 r
  |none=>false)
 |none=>false
def aow (b:Bk) (ev:@Ev b) (b2:Bk) (ev2:@Ev b2) (g:@Ev.xs b ev=@Ev.xs b2 ev2) {L d:Nat} {k:FuncId} {as:List AV} {r:AV} (h:@Mw b P L d k as r=true) (z:@aan b ev P b.ext) (y:@aak b ev P b.yes) (H:@Sx b ev P b.bQ) (n:b.mT=b2.mT:=by rfl) (j:@Ev.L4 b ev=@Ev.L4 b2 ev2:=by rfl) (l:@Ev.Ej b ev=@Ev.Ej b2 ev2:=by rfl):@NV b2 ev2 P k as r:=by
 intro A w vs M J G B;unfold Mw at h;split at h
 .rename_i q E
  split at h
  .rename_i p F
   obtain⟨p1,m⟩:=p;have f:=@afq P b ev ⟨z,y,H⟩ L d k as .leaf 0 q (@afr P b L d k as _ _ _ E);rw[ahI]at f;have o:@GOk b A w:=fun t C=>J t (show t∈b2.mT from n▸C);have Q:@dU b ev (fun _=>.no) A (fun _=>.no) w:=@dU.none b ev A w M o;refine(f (fun _=>.no) A w vs Q G fun i x I=>@Rd.pure b ev (fun _=>.no) A w x _ ?_).mono ?_
   .have:=eC.cast b2 ev2 b ev g.symm j.symm l.symm (B i x I)
    refine @eC.mono b ev _ _ _ _ (a0g _) (fun c _ f=>⟨?_,rfl⟩) _ _ this;rintro(h|⟨id,h⟩)<;>simp_all
   .rintro e w' ⟨v,u,s,h',rfl,⟨rfl,rfl⟩,R,D,K⟩
    have O:=@Ij b ev s A q.t.get w' R m 16 q.a p1 m v F (fun id h=>h) D;have N:=eC.cast b ev b2 ev2 g j l (@adR b ev _ _ 16 p1 r v h O);refine⟨v,rfl,@eC.mono b2 ev2 _ _ _ _ (a0g _) (fun c _ f=>⟨fun h=>f (.inl h),rfl⟩) _ _ N,?_⟩;exact @Ext.below b ev _ _ _ _ K fun id b h=>by cases h
  .cases h
 .cases h
end
end Mc
namespace Mc
section
variable {P:Program}
structure CK (P:Program) (k:FuncId) (as:List AV) (r:AV):Prop where
 args:∀x∈as,Cl x
 res:Cl r
 ok:@NV dY dZ P k as r
abbrev AV.i (v:Int):AV:=.c (.int .i64 v)
def CK.named (b:Bk) (ev:@Ev b) {k:FuncId} {as a:List AV} {r r':AV} (d:CK P k a r') (s:as.map (@den b ev 12)=a) (er:@den b ev 12 r=r') (j:mU 12 r=true):@NV b ev P k as r:=by
 subst s;subst er;intro A w vs o u m g;refine(d.ok A w vs o (fun t h=>absurd h a0b) (by simpa using m) ?_).mono ?_
 .intro i y c
  have l:=a0a c;rw[a0l]at c;obtain⟨x,f,rfl⟩:=a1c.1 c;exact eC.cl (b1:=b) (e1:=ev) (d.args _ l) (@eC.M4 b ev A w 12 x _ (g i x f))
 .rintro e w' ⟨v,n,q,p⟩
  exact⟨v,n,@eC.FB b ev A w' 12 r v j (eC.cl (b2:=b) (e2:=ev) d.res q),p⟩
def CK.ahk (b:Bk) (ev:@Ev b) {L d:Nat} {k:FuncId} {as a:List AV} {r r':AV} (h:@Mw b P L d k as r=true) (f:@aan b ev P b.ext) (c:@aak b ev P b.yes) (o:@Sx b ev P b.bQ) (y:as.map (@den b ev 12)=a) (er:@den b ev 12 r=r') (j:∀x∈a,Cl x) (g:Cl r') (m:as.all (mU 12)=true) (p:b.mT=[]:=by rfl) :
  CK P k a r':=by
 subst y;subst er;refine⟨j,g,?_⟩;have K:=aow b ev b ev rfl h f c o;intro A w vs s z n l;refine(K A w vs s (@GOk.none b A w p) (by simpa using n) ?_).mono ?_
 .intro i x f
  have c:(as.map (@den b ev 12))[i]?=some (@den b ev 12 x):=by rw[a0l,f];rfl
  exact @eC.FB b ev A w 12 x _ (a0k.1 m x (a0a f)) (eC.cl (b1:=dY) (e1:=dZ) (j _ (a0a c)) (l i _ c))
 .rintro e w' ⟨v,q,u,t⟩
  exact⟨v,q,eC.cl (b1:=b) (e1:=ev) g (@eC.M4 b ev A w' 12 r v u),t⟩
def aox (b:Bk) (ev:@Ev b):@Sx b ev P []:=@Sx.nil P b ev
def anh (b:Bk) (ev:@Ev b) {k:Nat} {as:List AV} {r:AV} {l:List (Nat×List AV×AV)} (h:@NV b ev P k as r) (a:@Sx b ev P l):@Sx b ev P ((k,as,r)::l):=@Sx.cons P b ev k as r l h a
def ah5 (b:Bk) (ev:@Ev b):@aan b ev P []:=@aan.nil P b ev
def afx (b:Bk) (ev:@Ev b):@aak b ev P []:=@aak.nil P b ev
def ajs:∀l∈([]:List (List (List AV))),∀r∈l,∀x∈r,Cl x:=fun v h=>absurd h a0b
def afR {l:List (List AV)} {ss:List (List (List AV))} (h:∀r∈l,∀x∈r,Cl x) (b:∀l∈ss,∀r∈l,∀x∈r,Cl x):∀m∈l::ss,∀r∈m,∀x∈r,Cl x:=by
 intro u a;rcases a0d.1 a with rfl|a
 .exact h
 .exact b u a
inductive kM (ρ:Nat->Int) (ss:List (List (List AV))):List (Nat×Poly)->Prop
 |nil:kM ρ ss []
 |cons {k:Nat} {p:Poly} {l:List (Nat×Poly)} (h1:((ss.getD k []).length:Int)=cI ρ p) (h:kM ρ ss l):kM ρ ss ((k,p)::l)
def kM.all {ρ:Nat->Int} {ss:List (List (List AV))} {l:List (Nat×Poly)} (h:kM ρ ss l):∀t∈l,((ss.getD t.1 []).length:Int)=cI ρ t.2:=by
 induction h with
 |nil=>intro t a;exact absurd a a0b
 |cons c h b =>
  intro t a;rcases a0d.1 a with rfl|a
  .exact c
  .exact b t a
inductive Af (ρ:Nat->Int) (vl:Nat->Value) (ss:List (List (List AV))):List (Nat×Poly×List AV)->Prop
 |nil:Af ρ vl ss []
 |cons {k:Nat} {p:Poly} {r r0:List AV} {l:List (Nat×Poly×List AV)} (h0:0<=cI ρ p) (h1:(ss.getD k [])[(cI ρ p).toNat]?=some r0) (h2:r.map (AU ρ vl (fun i=>ss.getD i []) 12)=r0) (h3:r.all (mU 12)=true) (h:Af ρ vl ss l):Af ρ vl ss ((k,p,r)::l)
def Af.all {ρ:Nat->Int} {b:Nat->Value} {ss:List (List (List AV))} {l:List (Nat×Poly×List AV)} (h:Af ρ b ss l):∀t∈l,0<=cI ρ t.2.1/\(ss.getD t.1 [])[(cI ρ t.2.1).toNat]?=some (t.2.2.map (AU ρ b (fun i=>ss.getD i []) 12))/\t.2.2.all (mU 12)=true:=by
 induction h with
 |nil=>intro t a;exact absurd a a0b
 |cons g f e d h c =>
  intro t a;rcases a0d.1 a with rfl|a
  .exact⟨g,by rw[e];exact f,d⟩
  .exact c t a
abbrev aoC (b:Bk) (xs:List Int) (vs:List Value) (ss:List (List (List AV))) (j:xB (fun i=>xs.getD i 0) b.defs) (a:jI b.vars xs) (g:jT (fun i=>xs.getD i 0) b.facts) (d:∀v∈vs,v.oneCell'=true)
  (e:kM (fun i=>xs.getD i 0) ss b.lens) (m:Af (fun i=>xs.getD i 0) (fun i=>vs.getD i (.bool false)) ss b.iG) (hs:∀l∈ss,∀r∈l,∀x∈r,Cl x) (f:b.kinds=[]:=by rfl) (k:∀t∈b.ae5,ss.getD t.2.2 []=ss.getD t.1 []++ss.getD t.2.1 []:=by exact fun t h=>nomatch h):@Ev b :=
 @Ev.mk b xs (adB a.len a.all) g.all j.all vs d (fun i c h=>by rw[f]at h;cases h) ss e.all m.all hs k
end
end Mc
namespace Mc
inductive KI where
 |seq (y:Code)|blk (id:Nat)|scope
inductive Out where
 |done (x:AX) (f:Ft)|stop (c:Code) (k:List KI) (f:Ft)
def Out.push (i:KI):Out->Out
 | .stop c k f=>.stop c (k++[i]) f
 |o=>o
def oC [Bk] (P:Program) (call:Ae) (L:Nat):Nat->Code->Ft->MT Out
 |0,_,_=>eJ
 |n+1,.seq x y,f=>jV (oC P call L n x f) fun o=>match o with
  | .done .normal a=>oC P call L n y a
  |o=>eZ (o.push (.seq y))
 |n+1,.cond c x y,f=>match qJ f c with
  | .c (.bool b)=>oC P call L n (if b then x else y) f
  |_=>eJ
 |n+1,.block id c,f=>jV (oC P call L n c f) fun o=>match o with
  | .done (.exit i) a=>eZ (if i=id then .done .normal a else .done (.exit i) a)
  |o=>eZ (o.push (.blk id))
 |n+1,.scope c,f=>jV (oC P call L n c f) fun o=>eZ (o.push .scope)
 |n+1,.loop c,f=>eZ (.stop c [] f)
 |n+1,c,f=>jV ((qF P true c).f call L f) fun q=>eZ (.done q.1 q.2)
def uE [Bk] (P:Program) (call:Ae) (L:Nat):List KI->AX->Ft->MT Out
 |[],x,f=>eZ (.done x f)
 | .seq y::k,x,f=>match x with
  | .normal=>jV (oC P call L L y f) fun o=>match o with
   | .done b a=>uE P call L k b a
   | .stop c k' a=>eZ (.stop c (k'++k) a)
  |x=>uE P call L k x f
 | .blk id::k,x,f=>match x with
  | .exit i=>uE P call L k (if i=id then .normal else .exit i) f
  |x=>uE P call L k x f
 | .scope::k,x,f=>uE P call L k x f
section
variable {P:Program}
abbrev kI:=Exit->Act->World->Prop
structure fD [Bk] [Ev] (A:Nat->Prop) (w0:World) (a0:Act) (m:Nat->St) (w:World) (a:Act) (f:List AV) (h:AH):Prop where
 ext:Ext (fun _=>.no) w0 m w
 rel:dU m A h w
 fr:nJ m A w f a
 new:uI w0 a0 a
def AW [Bk] [Ev] (P:Program) (A:Nat->Prop) (w0:World) (a0:Act) (c:Code) (Φ:kI) (f:List AV) (h:AH):Prop :=
 ∀m w a,fD A w0 a0 m w a f h->c.wpIn (fw none) 9 P Φ a w
section
variable [Bk] [Ev]
def Sat (A:Nat->Prop) (w0:World) (a0:Act) (e:Exit) (Φ:kI) (f:List AV) (h:AH):Prop:=∀m w a,fD A w0 a0 m w a f h->Φ e a w
def KS (P:Program):List KI->kI->kI
 |[],Φ=>Φ
 | .seq y::k,Φ=>fun e a w=>match e with
  | .normal=>y.wpIn (fw none) 9 P (KS P k Φ) a w
  |e=>KS P k Φ e a w
 | .blk id::k,Φ=>fun e a w=>match e with
  | .exit i=>if i=id then KS P k Φ .normal a w else KS P k Φ (.exit i) a w
  |e=>KS P k Φ e a w
 | .scope::k,Φ=>fun e a w=>(∀l,e≠.goto l)/\KS P k Φ e a w
def AM (k k':List KI) (Φ:kI):KS P (k++k') Φ=KS P k (KS P k' Φ):=by
 induction k with
 |nil=>rfl
 |cons i k a=>cases i<;>simp only[a2a,KS,a]
def NU (P:Program) (A:Nat->Prop) (w0:World) (a0:Act) (Φ:kI) (o:Out) (h:AH):Prop:=match o with
 | .done x f=>∀l,FR l f->Sat A w0 a0 x.to Φ l h
 | .stop c k f=>∀l,FR l f->AW P A w0 a0 (.loop c) (KS P k Φ) l h
def AW.am6 {A:Nat->Prop} {w0:World} {a0:Act} {c:Code} {Φ:kI} {f:List AV} {h:AH} {Q:Exit->List AV->AH->Prop} (k:kT P true c Q f h) (i:∀e d h',Q e d h'->Sat A w0 a0 e Φ d h'):AW P A w0 a0 c Φ f h:=by
 intro m w a b;refine wpIn_mono (k none m A w a (fun _=>rfl) b.rel b.fr) ?_;rintro e j w' ⟨g,d,h',q,n,o,p,l⟩;exact i e d h' q g w' j ⟨b.ext.trans p,n,o,b.new.trans b.ext.size l⟩
def akh (j:lL P) {L d:Nat} {c:Code} {f:Ft} {t:Tr} {n:Nat} {r:RT (AX×Ft)} (g:(qF P true c).f (lG P L d) L f t n=some r) {A:Nat->Prop} {w0:World} {a0:Act} {Φ:kI}
  (h:NU P A w0 a0 Φ (.done r.a.1 r.a.2) r.t.get):∀l,FR l f->AW P A w0 a0 c Φ l t.get:=by
 intro l i;have m:=oW (IB (P:=P) L d) L c f t n r g;obtain⟨a,k,e1,e2⟩:=oG (Ml (P:=P) L d) L c l f i t n r m;refine AW.am6 (qK (vV j L d) L c (fun e b h'=>e=a.1.to/\b=a.2/\h'=r.t.get) l t.get n _ k ⟨rfl,rfl,rfl⟩) ?_;rintro e b h' ⟨rfl,rfl,rfl⟩;rw[e1];exact h a.2 e2
def wD {α β:Type} {x:MT α} {k:α->MT β} {t:Tr} {n:Nat} {r:RT β} (h:jV x k t n=some r):∃q s,x t n=some q/\k q.a q.t q.n=some s/\r.a=s.a/\r.t=s.t/\r.n=s.n:=by
 unfold jV at h;cases c:x t n with
 |none=>rw[c]at h;cases h
 |some q =>
  rw[c]at h;simp only at h;cases b:k q.a q.t q.n with
  |none=>rw[b]at h;cases h
  |some s=>rw[b]at h;cases h;exact⟨q,s,rfl,b,rfl,rfl,rfl⟩
def qI (B:lL P) {L d:Nat} {A:Nat->Prop} {w0:World} {a0:Act}:∀(k:Nat) (c:Code) (Φ:kI) (f:Ft) (t:Tr) (n:Nat) (r:RT Out),oC P (lG P L d) L k c f t n=some r->NU P A w0 a0 Φ r.a r.t.get->∀l,FR l f->AW P A w0 a0 c Φ l t.get
 |0,c,Φ,f,t,n,r,j,g=>by simp only[oC]at j;cases j
 |k+1,c,Φ,f,t,n,r,j,g=>by
  have leaf:oC P (lG P L d) L (k+1) c f t n=jV ((qF P true c).f (lG P L d) L f) (fun q=>eZ (.done q.1 q.2)) t n->∀l,FR l f->AW P A w0 a0 c Φ l t.get:=by
   intro K;rw[K]at j;obtain⟨q,s,z,p,e1,e2,-⟩:=wD j;cases p;simp only at e1 e2;refine akh B z ?_;rw[e1,e2]at g;exact g
  cases c with
  |seq x y =>
   simp only[oC]at j;obtain⟨q,s,z,p,e1,e2,-⟩:=wD j;have key:NU P A w0 a0 (KS P [.seq y] Φ) q.a q.t.get:=by
    cases u:q.a with
    |stop J k' C =>
     rw[u]at p;cases p;rw[e1,e2]at g;intro l h;have:=g l h;rw[AM]at this;exact this
    |done D C =>
     rw[u]at p;cases D with
     |normal =>
      simp only at p;rw[e1,e2]at g;have:=qI B k y Φ C q.t q.n s p g;intro l h m w a o;exact this l h m w a o
     |_ =>
      cases p;rw[e1,e2]at g;intro l h m w a o;exact g l h m w a o
   have:=qI B k x _ f t n q z key;intro l h m w a o;refine wpIn_seq (wpIn_mono (this l h m w a o) ?_);intro e N w' F;cases e<;>exact F
  |cond c x y =>
   have H:∃b,qJ f c=.c (.bool b)/\oC P (lG P L d) L k (if b then x else y) f t n=some r:=by
    simp only[oC]at j;cases E:qJ f c with
    |c v=>cases v with
     |bool b=>simp only[E]at j;exact⟨b,rfl,j⟩
     |_=>simp only[E]at j;cases j
    |_=>simp only[E]at j;cases j
   obtain⟨b,M,j⟩:=H;have:=qI B k (if b then x else y) Φ f t n r j g;intro l h m w a o;have I:=o.fr.eval c;rw[h.ev,M]at I;exact wpIn_cond I.bool (this l h m w a o)
  |block id c =>
   simp only[oC]at j;obtain⟨q,s,z,p,e1,e2,-⟩:=wD j;have key:NU P A w0 a0 (KS P [.blk id] Φ) q.a q.t.get:=by
    cases u:q.a with
    |stop J k' C =>
     rw[u]at p;cases p;rw[e1,e2]at g;intro l h;have:=g l h;rw[AM]at this;exact this
    |done D C =>
     rw[u]at p;cases D with
     |exit i =>
      simp only at p;cases p;rw[e1,e2]at g;intro l h m w a o;simp only[KS,AX.to];split
      .rename_i G;rw[if_pos G]at g;exact g l h m w a o
      .rename_i G;rw[if_neg G]at g;exact g l h m w a o
     |_ =>
      cases p;rw[e1,e2]at g;intro l h m w a o;exact g l h m w a o
   have:=qI B k c _ f t n q z key;intro l h m w a o;refine wpIn_block (wpIn_mono (this l h m w a o) ?_);intro e N w' F;cases e<;>exact F
  |scope c =>
   simp only[oC]at j;obtain⟨q,s,z,p,e1,e2,-⟩:=wD j;cases p;simp only at e1 e2
   have key:NU P A w0 a0 (KS P [.scope] Φ) q.a q.t.get:=by
    rw[e1,e2]at g;cases u:q.a with
    |stop J k' C =>
     rw[u]at g;intro l h;have:=g l h;rw[AM]at this;exact this
    |done D C =>
     rw[u]at g;intro l h m w a o;exact⟨by intro l;cases D<;>simp[AX.to],g l h m w a o⟩
   have:=qI B k c _ f t n q z key;intro l h m w a o;exact LX (this l h m w a o)
  |loop c =>
   simp only[oC]at j;cases j;exact g
  |_=>exact leaf rfl
def uD (h:lL P) {L d:Nat} {A:Nat->Prop} {w0:World} {a0:Act} {Φ:kI}:∀(k:List KI) (x:AX) (f:Ft) (t:Tr) (n:Nat) (r:RT Out),uE P (lG P L d) L k x f t n=some r->NU P A w0 a0 Φ r.a r.t.get->∀l,FR l f->Sat A w0 a0 x.to (KS P k Φ) l t.get
 |[],x,f,t,n,r,b,e=>by
  simp only[uE]at b;cases b;exact e
 | .seq y::k,x,f,t,n,r,b,e=>by
  simp only[uE]at b;cases x with
  |normal =>
   simp only at b
   obtain⟨q,s,z,j,e1,e2,-⟩:=wD b;rw[e1,e2]at e;have key:NU P A w0 a0 (KS P k Φ) q.a q.t.get:=by
    cases p:q.a with
    |done v u =>
     rw[p]at j;exact uD h k v u q.t q.n s j e
    |stop B k' u =>
     rw[p]at j;cases j;intro l c;have:=e l c;rw[AM]at this;exact this
   intro l c m w a g;exact qI h L y _ f t n q z key l c m w a g
  |_ =>
   have:=uD h k _ f t n r b e;intro l c m w a g;exact this l c m w a g
 | .blk id::k,x,f,t,n,r,b,e=>by
  simp only[uE]at b;cases x with
  |exit i =>
   have:=uD h k _ f t n r b e;intro l c m w a g;simp only[KS,AX.to];split
   .rename_i o;rw[if_pos o]at this;exact this l c m w a g
   .rename_i o;rw[if_neg o]at this;exact this l c m w a g
  |_ =>
   have:=uD h k _ f t n r b e;intro l c m w a g;exact this l c m w a g
 | .scope::k,x,f,t,n,r,b,e=>by
  simp only[uE]at b;have:=uD h k _ f t n r b e;intro l c m w a g;exact⟨by intro l;cases x<;>simp[AX.to],this l c m w a g⟩
end
def dQ {c:Code} {Φ:kI} (I:Nat->Act->World->Prop) (round:∀n a w,I n a w->c.wpIn (fw none) 9 P (fun e b w'=>match e with | .normal=>∃n',n'<n/\I n' b w'|e=>Φ e b w') a w) {n:Nat} {a:Act} {w:World} (o:I n a w):(Code.loop c).wpIn (fw none) 9 P Φ a w:=by
 obtain⟨k,d⟩:=T4 (fun n (p:Act×World)=>I n p.1 p.2);refine wpIn_loop (fun b w'=>∃n,I n b w') (fun b w'=>k (b,w')) ⟨n,o⟩ ?_;intro j g i;have m:=(d (j,g) i).1;refine wpIn_mono (round _ j g m) ?_;intro e a2 l q;cases e with
 |normal =>
  obtain⟨n',h,f⟩:=q;exact⟨⟨n',f⟩,a4k ((d (a2,l) ⟨n',f⟩).2 n' f) h⟩
 |_=>exact q
end
end Mc
namespace Mc
variable {m:Nat->St}
abbrev pZ:=List (Option Nat)
def mOf (m:Nat->St) (ids:pZ):Nat->St:=fun k=>match ids[k]? with
 |none=>.no
 |some none=>.uK
 |some (some i)=>m i
def F9 {ids:pZ} {k b:Nat} (h:mOf m ids k=.at b):∃i,ids[k]?=some (some i)/\m i=.at b:=by
 unfold mOf at h;split at h
 .cases h
 .cases h
 .rename_i i a;exact⟨i,a,h⟩
def abC {ids:pZ} {A:Nat->Prop} {b:Nat} (h:Av (mOf m ids) A b):Av m A b:=by
 rcases h with h|⟨k,h⟩
 .exact .inl h
 .obtain⟨i,-,h⟩:=F9 h
  exact .inr ⟨i,h⟩
def tW {ids:pZ} {k i:Nat} (h:ids[k]?=some (some i)):mOf m ids k=m i:=by unfold mOf;rw[h]
def TT {ids:pZ} {k:Nat} (h:ids[k]?=some none):mOf m ids k=.uK:=by unfold mOf;rw[h]
def Slot (b1:Bk) (e1:@Ev b1) (b2:Bk) (e2:@Ev b2) (ids:pZ) (x y:AV):Prop:=∀(m:Nat->St) (A:Nat->Prop) (w:World) (v:Value),@Rd b1 e1 m A w x v->@Rd b2 e2 (mOf m ids) A w y v
section
variable {b1:Bk} {e1:@Ev b1} {b2:Bk} {e2:@Ev b2} {ids:pZ}
def Slot.pP {x:AV}:Slot b1 e1 b2 e2 ids x .pP:=fun m A w v h=>@Rd.pure b2 e2 _ A w _ _ (@eC.pP b2 e2 _ w v)
def Rd.aie [Bk] [Ev] {m:Nat->St} {A:Nat->Prop} {w:World}:∀(k:Nat) (x:AV) (v:Value),Rd m A w x v->Rd m A w (den k x) v
 |0,x,v,h=>h
 |k+1,x,v,h=>by
  have s:∀(x:AV) (v:Value),Rd m A w x v->Rd m A w (den k x) v:=Rd.aie k;cases h with
  |pure _ _ h=>exact .pure _ _ (h.M4 (k+1))
  |agg cs vs l E e =>
   refine .agg _ vs (by simpa using l) ?_ ?_
   .intro i x j
    rw[a0l]at j;obtain⟨y,q,rfl⟩:=a1c.1 j;exact(oU k y).trans (E i y q)
   .intro i x j
    rw[a0l]at j;obtain⟨y,q,rfl⟩:=a1c.1 j;exact s y _ (e i y q)
  |bE cs vs l e =>
   refine .bE _ vs (by simpa using l) ?_;intro i x j;rw[a0l]at j;obtain⟨y,q,rfl⟩:=a1c.1 j;exact s y _ (e i y q)
  |qZ t x v e=>exact .qZ t _ v (s x v e)
  |own T d id i n b cap c o r u e=>exact .own T d id i n b cap c o r u e
  |vN T d id i a c=>exact .vN T d id i a c
  |wK T d id i n a n' cap c=>exact .wK T d id i n a n' cap c
  |ptr d id i off b c o=>exact .ptr d id i off b c o
  |Oc d id i off a c=>exact .Oc d id i off a c
  |fn f B z vs C l D h g=>exact .fn f B z vs C l D h g
  |yld id b c=>exact .yld id b c
  |aar id b c=>exact .aar id b c
  |mpv id b c=>exact .mpv id b c
  |abv id b c=>exact .abv id b c
  |view T d id i n b cap c=>exact .view T d id i n b cap c
  |Ec T d id i n a cap c=>exact .Ec T d id i n a cap c
  |dD T d id n b len cap c o l r u e=>exact .dD T d id n b len cap c o l r u e
  |uP T d id n a c r=>exact .uP T d id n a c r
  |uQ T d id n a n' cap c=>exact .uQ T d id n a n' cap c
  |nP d id p off b c o=>exact .nP d id p off b c o
  |A6 d id p off a c=>exact .A6 d id p off a c
def Slot.data {x y d:AV} (f:@den b1 e1 12 x=d) (e:@den b2 e2 12 y=d) (a:Cl d) (g:mU 12 y=true):Slot b1 e1 b2 e2 ids x y:=by
 subst f;intro m A w v h;have k:=@Rd.cl b1 e1 m A w _ a v (@Rd.aie b1 e1 m A w 12 x v h);have c:=eC.cl (b2:=b2) (e2:=e2) a k;rw[<-e]at c;have j:=@eC.FB b2 e2 _ w 12 y v g c;exact @Rd.pure b2 e2 _ A w _ _ (@eC.mono b2 e2 _ _ w w (a0g _) (fun b _ i=>⟨fun h=>i (abC h),rfl⟩) y v j)
def Slot.own {T sz id c i n:Nat} (h:ids[c]?=some (some id)):Slot b1 e1 b2 e2 ids (.own T sz id i n) (.own T sz c i n):=by
 intro m A w v e;have f:=tW (m:=m) h;cases e with
 |pure _ _ h=>cases h
 |own _ _ _ _ _ b cap d k g j e=>exact @Rd.own b2 e2 _ A w T sz c i n b cap (f.trans d) k g j e
 |vN _ _ _ _ a d=>exact @Rd.vN b2 e2 _ A w T sz c i a (f.trans d)
 |wK _ _ _ _ _ a n' cap d=>exact @Rd.wK b2 e2 _ A w T sz c i n a n' cap (f.trans d)
def Slot.ptr {sz id c i off:Nat} (h:ids[c]?=some (some id)):Slot b1 e1 b2 e2 ids (.ptr sz id i off) (.ptr sz c i off):=by
 intro m A w v f;have e:=tW (m:=m) h;cases f with
 |pure _ _ h=>cases h
 |ptr _ _ _ _ b d g=>exact @Rd.ptr b2 e2 _ A w sz c i off b (e.trans d) g
 |Oc _ _ _ _ a d=>exact @Rd.Oc b2 e2 _ A w sz c i off a (e.trans d)
def Slot.dD {T sz id c:Nat} {n n':Poly} (h:ids[c]?=some (some id)) (i:cI (@Ev.eW b1 e1) n=cI (@Ev.eW b2 e2) n'):Slot b1 e1 b2 e2 ids (.dD T sz id n) (.dD T sz c n'):=by
 intro m A w v e;have f:=tW (m:=m) h;cases e with
 |pure _ _ h=>cases h
 |dD _ _ _ _ b len cap d o k g l e=>exact @Rd.dD b2 e2 _ A w T sz c n' b len cap (f.trans d) o (i▸k) g l e
 |uP _ _ _ _ a d p=>exact @Rd.uP b2 e2 _ A w T sz c n' a (f.trans d) (i▸p)
 |uQ _ _ _ _ a j cap d=>exact @Rd.uQ b2 e2 _ A w T sz c n' a j cap (f.trans d)
def Slot.ag3 {T sz id c n:Nat} {n':Poly} (h:ids[c]?=some (some id)) (i:(n:Int)=cI (@Ev.eW b2 e2) n'):Slot b1 e1 b2 e2 ids (.own T sz id 0 n) (.dD T sz c n'):=by
 intro m A w v e;have f:=tW (m:=m) h;cases e with
 |pure _ _ h=>cases h
 |own _ _ _ _ _ b cap d l g k e =>
  rw[a3t];exact @Rd.dD b2 e2 _ A w T sz c n' b n cap (f.trans d) l i.symm g k (by rw[<-e,a02])
 |vN _ _ _ _ a d=>exact @Rd.uP b2 e2 _ A w T sz c n' a (f.trans d) (by rw[<-i];rfl)
 |wK _ _ _ _ _ a j cap d=>exact @Rd.uQ b2 e2 _ A w T sz c n' a j cap (f.trans d)
def Slot.nP {sz id c off:Nat} {p e:Poly} (h:ids[c]?=some (some id)) (i:cI (@Ev.eW b1 e1) p=cI (@Ev.eW b2 e2) e):Slot b1 e1 b2 e2 ids (.nP sz id p off) (.nP sz c e off):=by
 intro m A w v g;have f:=tW (m:=m) h;cases g with
 |pure _ _ h=>cases h
 |nP _ _ _ _ b d j=>rw[i];exact @Rd.nP b2 e2 _ A w sz c e off b (f.trans d) j
 |A6 _ _ _ _ a d=>exact @Rd.A6 b2 e2 _ A w sz c e off a (f.trans d)
inductive Ad (b1:Bk) (e1:@Ev b1) (b2:Bk) (e2:@Ev b2) (ids:pZ):List AV->List AV->Prop
 |nil:Ad b1 e1 b2 e2 ids [] []
 |cons {x y:AV} {l l':List AV} (h:Slot b1 e1 b2 e2 ids x y) (hl:Ad b1 e1 b2 e2 ids l l'):Ad b1 e1 b2 e2 ids (x::l) (y::l')
def Ad.get {l l':List AV} (h:Ad b1 e1 b2 e2 ids l l'):l'.length=l.length/\∀(i:Nat) (y:AV),l'[i]?=some y->∃x,l[i]?=some x/\Slot b1 e1 b2 e2 ids x y:=by
 induction h with
 |nil=>exact⟨rfl,fun i y h=>by simp at h⟩
 |cons h e a =>
  refine⟨by simp[a.1],?_⟩;intro i z b;cases i with
  |zero=>cases b;exact⟨_,rfl,h⟩
  |succ i =>
   obtain⟨x,d,c⟩:=a.2 i z (by simpa using b);exact⟨x,by simpa using d,c⟩
def Slot.agg {cs cs':List AV} (h:Ad b1 e1 b2 e2 ids cs cs') (h1:cs'.all (fun x=>x.one)=true):Slot b1 e1 b2 e2 ids (.agg cs) (.agg cs'):=by
 intro m A w v d;obtain⟨e,hs⟩:=h.get;obtain⟨vs,rfl,c,f⟩:=@Rd.pY b1 e1 m A w cs v d;refine @Rd.agg b2 e2 _ A w cs' vs (by rw[c,e]) ?_ ?_
 .intro i y a
  exact a0k.1 h1 y (a0a a)
 .intro i y a
  obtain⟨x,b,hs⟩:=hs i y a;exact hs m A w _ (f i x b).2
def OG (b1:Bk) (e1:@Ev b1) (b2:Bk) (e2:@Ev b2) (ids:pZ) (h1:AH) (o:Option Nat) (B:dI):Prop:=@rW b2 e2 B/\match o with
 |none=>∃T c,@dI.bG b2 e2 B=some (T,c,[])
 |some i=>∃T c b a,@dI.bG b1 e1 (h1 i)=some (T,c,b)/\@dI.bG b2 e2 B=some (T,c,a)/\a.length=b.length/\(∀(i j:Nat) (y:AV),iE a i j=some y->∃x,iE b i j=some x/\x.one=y.one/\Slot b1 e1 b2 e2 ids x y)/\((∀e∈b,e.length=c)->∀e∈a,e.length=c)
inductive aap (b1:Bk) (e1:@Ev b1) (b2:Bk) (e2:@Ev b2) (ids:pZ) (h1:AH):pZ->List dI->Prop
 |nil:aap b1 e1 b2 e2 ids h1 [] []
 |cons {o:Option Nat} {B:dI} {l:pZ} {bs:List dI} (h:OG b1 e1 b2 e2 ids h1 o B) (hl:aap b1 e1 b2 e2 ids h1 l bs):aap b1 e1 b2 e2 ids h1 (o::l) (B::bs)
def aap.get {h1:AH} {l:pZ} {bs:List dI} (h:aap b1 e1 b2 e2 ids h1 l bs):l.length=bs.length/\∀(k:Nat) (o:Option Nat),l[k]?=some o->∃B,bs[k]?=some B/\OG b1 e1 b2 e2 ids h1 o B:=by
 induction h with
 |nil=>exact⟨rfl,fun i y h=>by simp at h⟩
 |cons h d a =>
  refine⟨by simp[a.1],?_⟩;intro i z b;cases i with
  |zero=>cases b;exact⟨_,rfl,h⟩
  |succ i =>
   obtain⟨x,h1,c⟩:=a.2 i z (by simpa using b);exact⟨x,by simpa using h1,c⟩
def fH (bs:List dI):AH:=fun k=>bs.getD k .no
def fD.to {A:Nat->Prop} {w0:World} {a0:Act} {w:World} {a:Act} {O M:List AV} {h1:AH} {bs:List dI} (Y:@fD b1 e1 A w0 a0 m w a O h1) (hf:Ad b1 e1 b2 e2 ids O M) (hB:aap b1 e1 b2 e2 ids h1 ids bs) (Z:∀(i j k:Nat),ids[i]?=some (some k)->ids[j]?=some (some k)->i=j) (hg:b2.mT=[]:=by rfl) :
  @fD b2 e2 A w0 a0 (mOf m ids) w a M (fH bs):=by
 obtain⟨hl,hs⟩:=hf.get;obtain⟨bl,bg⟩:=hB.get;have at_:∀k B,fH bs k=B->(B=.no/\mOf m ids k=.no)\/∃o,ids[k]?=some o/\OG b1 e1 b2 e2 ids h1 o B:=by
  intro k B c;cases f:ids[k]? with
  |none =>
   refine .inl ⟨?_,by unfold mOf;rw[f]⟩;have K:bs.length<=k:=by rw[<-bl];exact a24.1 f
   rw[<-c];unfold fH;rw[List.getD,a04 K];rfl
  |some o =>
   obtain⟨B',h2,h3⟩:=bg k o f;refine .inr ⟨o,rfl,?_⟩;have:fH bs k=B':=by unfold fH;rw[List.getD,h2];rfl
   rw[<-c,this];exact h3
 have d:∀o B,OG b1 e1 b2 e2 ids h1 o B->∃t,@dI.bG b2 e2 B=some t:=by
  rintro(_|i) B ⟨-,h⟩
  .obtain⟨T,r,h⟩:=h;exact⟨_,h⟩
  .obtain⟨T,r,e1,e2,-,h,-⟩:=h;exact⟨_,h⟩
 obtain⟨E,⟨G,Q,ad,U,n,H,S,ac,ab⟩,⟨p,R,I⟩,N⟩:=Y;refine⟨?_,⟨?_,Q,?_,?_,?_,?_,?_,?_,?_⟩,⟨?_,?_,?_⟩,N⟩
 .refine⟨E.os,E.tape,E.output,E.size,fun _ _ h=>(by cases h),fun _ h=>(by cases h),fun _ h=>(by cases h),?_,fun _ _ h=>(by cases h)⟩
  intro b hb hu;obtain⟨u,g⟩:=E.un b hb hu;refine⟨?_,g⟩;intro k c;obtain⟨i,-,h⟩:=F9 c;exact u i h
 .intro k b c
  obtain⟨i,-,h⟩:=F9 c;exact G i b h
 .intro k c
  rcases at_ k _ c with⟨-,h⟩|⟨o,-,h⟩
  .exact h
  .obtain⟨t,e⟩:=d o _ h
   cases e
 .intro k c
  rcases at_ k _ c with⟨h,-⟩|⟨o,-,h⟩
  .cases h
  .obtain⟨t,e⟩:=d o _ h
   cases e
 .intro k T r bG c
  rcases at_ k _ rfl with⟨h,-⟩|⟨o,f,h⟩
  .rw[h]at c;cases c
  .cases o with
   |none =>
    obtain⟨-,T',J,h⟩:=h;rw[c]at h;cases h;exact .inl ⟨TT f,rfl⟩
   |some i =>
    obtain⟨-,T',J,F,aa,u,g,s,k4,k5⟩:=h;rw[c]at g;cases g;rw[tW f];rcases n i T r F u with⟨C,z⟩|⟨b,cs,C,z,g3,g4,g5⟩
    .refine .inl ⟨C,?_⟩
     rw[z]at s;exact a1f.1 s
    .refine .inr ⟨b,cs,C,z,by rw[s];exact g3,k5 g4,?_⟩
     intro l j y v;obtain⟨x,X,W,V⟩:=k4 l j y v;obtain⟨r1,r2⟩:=g5 _ _ _ X;exact⟨by rw[<-W];exact r1,V m A w _ r2⟩
 .intro i j b hi hj
  obtain⟨l,c1,c2⟩:=F9 hi;obtain⟨j',c3,c4⟩:=F9 hj;have:=H l j' b c2 c4;subst this;exact Z i j l c1 c3
 .exact @GOk.none b2 A w hg
 .intro k B c q
  rcases at_ k B c with⟨h,-⟩|⟨o,-,h⟩
  .subst h;exact absurd q (by simp[dI.other])
  .obtain⟨t,e⟩:=d o _ h
   rw[@dI.aeB b2 e2 B q]at e;cases e
 .intro k
  rcases at_ k _ rfl with⟨h,-⟩|⟨o,-,h⟩
  .rw[h];trivial
  .exact h.1
 .rw[p,hl]
 .intro i y v
  obtain⟨x,hx,h⟩:=hs i y v;exact h m A w _ (R i x hx)
 .obtain⟨Ds,d1,d2,P⟩:=I
  refine⟨Ds,d1,d2,fun D L=>⟨(P D L).1,?_⟩⟩;intro k c;obtain⟨i,-,h⟩:=F9 c;exact(P D L).2 i h
end
section
variable {P:Program}
def Fin (P:Program) (fn:Func) (A:Nat->Prop) (w0:World) (a0:Act) (r:AV):kI:=fun e a w=>(e=.normal\/e=.ret)/\∃(b:Bk) (ev:@Ev b) (m:Nat->St) (f:List AV) (h:AH) (x y:AV) (c:List Nat),@fD b ev A w0 a0 m w a f h/\fF P fn f h=some x/\wA h 16 x=some (y,c)/\@den b ev 12 y=r
def CK.hY {F:FuncId} {fn:Func} {c:Code} {as:List AV} {r:AV} (R:P.funcs[F]?=some fn) (l:fn.body=some c) (Y:∀x∈as,Cl x) (C:Cl r)
  (k:∀(A:Nat->Prop) (w0:World) (a0:Act),@AW dY dZ P A w0 a0 c (Fin P fn A w0 a0 r) (as++List.replicate (fn.ntmps-as.length) .undef) (fun _=>.no)):CK P F as r:=by
 refine⟨Y,C,?_⟩
 intro A w vs U Z Q N;have E:@nJ dY dZ (fun _=>.no) A w (as++List.replicate (fn.ntmps-as.length) .undef) { tmps:=vs++Array.replicate (fn.ntmps-vs.size) Go.undef,defers:=[] }:=by
  refine @nJ.mk dY dZ _ _ _ _ _ (by simp[Q]) ?_ (Marks.nil _ _);intro i x a;rcases a0z i as.length with h|h
  .rw[a12 h]at a
   have f:=N i x a;have q:i<vs.size:=(by omega);have e1:(vs++Array.replicate (fn.ntmps-vs.size) Go.undef).getD i Go.undef=vs.getD i Go.undef:=(by simp[a1z,q]);rw[show({ tmps:=vs++Array.replicate (fn.ntmps-vs.size) Go.undef,defers:=[] }:Act).tmps.getD i Go.undef=vs.getD i Go.undef from e1];exact @Rd.pure dY dZ _ A w x _ (@eC.mono dY dZ A _ w w (a0g _) (fun b _ l=>⟨fun h=>h.elim l (fun⟨_,h⟩=>by cases h),rfl⟩) x _ f)
  .rw[a14 h,a30]at a
   split at a
   .cases a
    have s:¬ i<vs.size:=(by omega)
    have:(vs++Array.replicate (fn.ntmps-vs.size) Go.undef).getD i Go.undef=Go.undef:=by
     simp[a1z,s,a31];split<;>rfl
    rw[show({ tmps:=vs++Array.replicate (fn.ntmps-vs.size) Go.undef,defers:=[] }:Act).tmps.getD i Go.undef=Go.undef from this];exact @Rd.pure dY dZ _ A w _ _ (@eC.undef dY dZ _ w)
   .cases a
 have p:@fD dY dZ A w { tmps:=vs++Array.replicate (fn.ntmps-vs.size) Go.undef,defers:=[] } (fun _=>.no) w { tmps:=vs++Array.replicate (fn.ntmps-vs.size) Go.undef,defers:=[] } (as++List.replicate (fn.ntmps-as.length) .undef) (fun _=>.no) :=
  @fD.mk dY dZ A w _ _ w _ _ _ (@Ext.refl dY dZ _ w) (@dU.none dY dZ A w U (fun t h=>absurd h a0b)) E (uI.refl _ _)
 refine Nh (r:=none) (n:=9) |>.1 (callsIn_of_wp_marks R l trivial (wpIn_mono (k A w _ _ w _ p) ?_));rintro e o w' ⟨S,b,ev,K,W,h',x,y,L,d,a,M,O⟩
 have fin:LeavesInM (fw none) 9 P fn o.tmps (fun e w'=>∃v,e=.returned v/\@eC dY dZ A w' r v/\Below w.heap.size w w') o.defers .returning w':=by
  obtain⟨j,B,z,u⟩:=d.fr.defers;have X:∀D∈j,w.heap.size<=D:=by
   intro D m;rcases d.new (mark D) (by rw[B];exact a3r m)with g|⟨D',g,f⟩
   .exact absurd g a0b
   .simp only[mark,Target.collected.injEq]at g
    omega
  obtain⟨r1,r2,J⟩:=Mm j w' d.rel z u X d.ext;have G:@nJ b ev K A (Eh w' j) W { tmps:=o.tmps,defers:=[] }:=@nJ.mk b ev _ _ _ _ _ d.fr.size (fun i x a=>J _ _ (d.fr.rd i x a)) (Marks.nil _ _);obtain⟨v,I,H⟩:=IN r1 G a;rw[B];refine yA j w' z (fun D m=>(u D m).1) ⟨v,I,v,rfl,?_,@Ext.below b ev _ _ _ _ r2 fun id b h=>by cases h⟩
  have g:=Ij r1 L M (fun id h=>h) H;have f:=@eC.M4 b ev _ _ 12 y v g;rw[O]at f;have V:=eC.cl (b2:=dY) (e2:=dZ) C f;exact @eC.mono dY dZ _ _ _ _ (a0g _) (fun c _ T=>⟨fun h=>T (.inl h),rfl⟩) _ _ V
 rcases S with rfl|rfl
 .exact fin
 .exact fin
end
end Mc
namespace Mc
variable {o:Option (RT Out)} {m:Nat->St} {A:Nat->Prop} {ids:pZ} {k:Nat} {Φ:kI} {bs:List dI}
def Pc (o:Option (RT Out)):Bool:=match o with|some r=>(match r.a with | .stop ..=>true|_=>false)|none=>false
def bB (o:Option (RT Out)):Code:=match o with|some r=>(match r.a with | .stop c _ _=>c|_=>.skip)|none=>.skip
def oK (o:Option (RT Out)):List KI:=match o with|some r=>(match r.a with | .stop _ k _=>k|_=>[])|none=>[]
def oF (o:Option (RT Out)):Ft:=match o with|some r=>(match r.a with | .stop _ _ f=>f | .done _ f=>f)|none=>.leaf
def oT (o:Option (RT Out)):Tr:=match o with|some r=>r.t|none=>.leaf
def Pe (o:Option (RT Out)):Option Nat:=match o with|some r=>(match r.a with | .done .normal _=>some 0 | .done .ret _=>some 1 | .done (.exit i) _=>some (i+2)|_=>none)|none=>none
def xOf:Nat->AX
 |0=>.normal
 |1=>.ret
 |k+2=>.exit k
def TK (h:Pc o=true):∃r,o=some r/\r.a=.stop (bB o) (oK o) (oF o)/\r.t=oT o:=by
 unfold Pc at h;cases o with
 |none=>cases h
 |some r =>
  simp only at h;cases b:r.a with
  |stop c k f=>exact⟨r,rfl,by simp only[bB,oK,oF,b],rfl⟩
  |done x f=>rw[b]at h;cases h
def TL {x:Nat} (h:Pe o=some x):∃r,o=some r/\r.a=.done (xOf x) (oF o)/\r.t=oT o:=by
 unfold Pe at h;cases o with
 |none=>cases h
 |some r =>
  simp only at h;cases b:r.a with
  |stop c k f=>rw[b]at h;cases h
  |done y f =>
   rw[b]at h;cases y<;>(simp only at h;cases h;exact⟨r,rfl,by simp only[oF,b];rfl,rfl⟩)
def adw {l a:List AV} {b:Ft} [Bk] [Ev] (h:FR l b) (c:Ft.list b 4096 0=some a):l=a:=by
 have:=h.list 4096 0 a c;rw[this];rfl
section
variable {P:Program}
section
variable [Bk] [Ev]
def AW.stops (i:lL P) {L d k N n:Nat} {A:Nat->Prop} {w0:World} {a0:Act} {c:Code} {Φ:kI} {f a:List AV} {t:Tr} (o:Option (RT Out)) (g:oC P (lG P L d) L k c (Ft.of N f) t n=o) (hs:Pc o=true) (h:Ft.list (oF o) 4096 0=some a) (j:f.length<=N)
  (e:AW P A w0 a0 (.loop (bB o)) (KS P (oK o) Φ) a (oT o).get):AW P A w0 a0 c Φ f t.get:=by
 obtain⟨r,q,p,m⟩:=TK hs;refine qI i k c Φ (Ft.of N f) t n r (g.trans q) ?_ f (fun k=>Ft.CV N f k j);rw[p,m];intro l b;rw[adw b h];exact e
def AW.ends (i:lL P) {L d k N n x:Nat} {A:Nat->Prop} {w0:World} {a0:Act} {c:Code} {Φ:kI} {f a:List AV} {t:Tr} (o:Option (RT Out)) (g:oC P (lG P L d) L k c (Ft.of N f) t n=o) (hs:Pe o=some x) (h:Ft.list (oF o) 4096 0=some a) (j:f.length<=N)
  (e:Sat A w0 a0 (xOf x).to Φ a (oT o).get):AW P A w0 a0 c Φ f t.get:=by
 obtain⟨r,q,p,m⟩:=TL hs;refine qI i k c Φ (Ft.of N f) t n r (g.trans q) ?_ f (fun k=>Ft.CV N f k j);rw[p,m];intro l b;rw[adw b h];exact e
def Sat.stops (h:lL P) {L d N n:Nat} {x:AX} {k:List KI} {A:Nat->Prop} {w0:World} {a0:Act} {Φ:kI} {f a:List AV} {t:Tr} (o:Option (RT Out)) (e:uE P (lG P L d) L k x (Ft.of N f) t n=o) (hs:Pc o=true) (g:Ft.list (oF o) 4096 0=some a) (i:f.length<=N)
  (c:AW P A w0 a0 (.loop (bB o)) (KS P (oK o) Φ) a (oT o).get):Sat A w0 a0 x.to (KS P k Φ) f t.get:=by
 obtain⟨r,p,m,j⟩:=TK hs;refine uD h k x (Ft.of N f) t n r (e.trans p) ?_ f (fun k=>Ft.CV N f k i);rw[m,j];intro l b;rw[adw b g];exact c
def Sat.ends (h:lL P) {L d N n y:Nat} {x:AX} {k:List KI} {A:Nat->Prop} {w0:World} {a0:Act} {Φ:kI} {f a:List AV} {t:Tr} (o:Option (RT Out)) (e:uE P (lG P L d) L k x (Ft.of N f) t n=o) (hs:Pe o=some y) (g:Ft.list (oF o) 4096 0=some a) (i:f.length<=N)
  (c:Sat A w0 a0 (xOf y).to Φ a (oT o).get):Sat A w0 a0 x.to (KS P k Φ) f t.get:=by
 obtain⟨r,p,m,j⟩:=TL hs;refine uD h k x (Ft.of N f) t n r (e.trans p) ?_ f (fun k=>Ft.CV N f k i);rw[m,j];intro l b;rw[adw b g];exact c
end
def IG (ids:pZ):Nat->AV->AV->Bool
 |0,_,_=>false
 |k+1,x,y=>match y with
  | .pP=>true
  | .own T c id i n=>(match x with | .own f a b e n'=>decide (f=T/\a=c/\e=i/\n'=n)&&decide (ids[id]?=some (some b))|_=>false)
  | .ptr c id i off=>(match x with | .ptr a b e d=>decide (a=c/\e=i/\d=off)&&decide (ids[id]?=some (some b))|_=>false)
  | .dD T c id n=>(match x with | .dD f a b n'=>decide (f=T/\a=c/\n'=n)&&decide (ids[id]?=some (some b))|_=>false)
  | .nP c id p off=>(match x with | .nP a b h d=>decide (a=c/\h=p/\d=off)&&decide (ids[id]?=some (some b))|_=>false)
  | .agg cs=>(match x with | .agg g=>LQ (IG ids k) g cs&&cs.all (fun x=>x.one)|_=>false)
  |y=>AY 16 x y
def zN:Nat->AV->Bool
 |0,_=>false
 |k+1,x=>match x with
  | .c _ | .undef | .emp | .e _ | .o _ | .any | .seq .. | .row ..=>true
  | .agg l=>l.all (zN k)
  | .bE l=>l.all (zN k)
  | .lit ..=>true
  |_=>false
def Rd.plain [Bk] [Ev] {w:World}:∀{k:Nat} {x:AV} {v:Value},zN k x=true->Rd m A w x v->eC (Av m A) w x v
 |0,x,v,h,_=>by cases h
 |k+1,x,v,h,b=>by
  cases b with
  |pure _ _ h=>exact h
  |agg cs vs c d b=>exact .agg cs vs c d fun i x a=>Rd.plain (a0k.1 h x (a0a a)) (b i x a)
  |bE cs vs c b=>exact .bE cs vs c fun i x a=>Rd.plain (a0k.1 h x (a0a a)) (b i x a)
  |_=>cases h
def NF:∀{k:Nat} {x y:AV},AY k x y=true->zN k y=true
 |0,x,y,h=>by cases h
 |k+1,x,y,h=>by
  have c:∀(a b:List AV),LQ (AY k) a b=true->b.all (zN k)=true:=by
   intro a;induction a with
   |nil=>intro b h;cases b with
    |nil=>rfl
    |cons y b=>cases h
   |cons x a d=>intro b h;cases b with
    |nil=>cases h
    |cons y b =>
     unfold LQ at h;rw[a0e]at h;rw[a4o,NF h.1,d b h.2];rfl
  unfold AY at h;split at h<;>first|rfl|exact c _ _ h|cases h
def Slot.same [b:Bk] [e:Ev] {x:AV} (a:zN k x=true):Slot b e b e ids x x:=fun m A w v h =>
 .pure _ _ ((h.plain a).mono (a0g _) fun c _ d=>⟨fun h=>d (abC h),rfl⟩)
def Mk [b:Bk] [e:Ev] {ids:pZ}:∀{k:Nat} {x y:AV},IG ids k x y=true->Slot b e b e ids x y
 |0,x,y,h=>by cases h
 |k+1,x,y,h=>by
  unfold IG at h;split at h
  .exact Slot.pP
  .split at h
   .rw[a0e,decide_eq_true_eq,decide_eq_true_eq]at h
    obtain⟨⟨rfl,rfl,rfl,rfl⟩,h⟩:=h;exact Slot.own h
   .cases h
  .split at h
   .rw[a0e,decide_eq_true_eq,decide_eq_true_eq]at h
    obtain⟨⟨rfl,rfl,rfl⟩,h⟩:=h;exact Slot.ptr h
   .cases h
  .split at h
   .rw[a0e,decide_eq_true_eq,decide_eq_true_eq]at h
    obtain⟨⟨rfl,rfl,rfl⟩,h⟩:=h;exact Slot.dD h rfl
   .cases h
  .split at h
   .rw[a0e,decide_eq_true_eq,decide_eq_true_eq]at h
    obtain⟨⟨rfl,rfl,rfl⟩,h⟩:=h;exact Slot.nP h rfl
   .cases h
  .split at h
   .rename_i cs f
    rw[a0e]at h;refine Slot.agg ?_ h.2
    have:∀(a c:List AV),LQ (IG ids k) a c=true->Ad b e b e ids a c:=by
     intro a;induction a with
     |nil=>intro c h;cases c with
      |nil=>exact .nil
      |cons y c=>cases h
     |cons x a d=>intro c h;cases c with
      |nil=>cases h
      |cons y c =>
       unfold LQ at h;rw[a0e]at h;exact .cons (Mk h.1) (d c h.2)
    exact this _ _ h.1
   .cases h
  .have e1:=yE h
   have e2:=NF h;rw[e1];exact Slot.same e2
def anJ (ids:pZ) (h:AH) (o:Option Nat) (B:dI):Bool:=match o with
 |none=>false
 |some i=>match B with
  | .cells T c bG=>(match h i with | .cells g a f=>decide (g=T/\a=c)&&(Im (IG ids 16) f bG&&bG.all (·.all fun x=>x.one))|_=>false)
  | .sc T c base bZ tail n=>(match h i with | .sc g a d e b n'=>decide (g=T/\a=c/\n'=n)&&(AY 16 (.seq a d e b) (.seq c base bZ tail)&&(bZ.all (·.2.all (zN 16))&&tail.all (·.all (zN 16))))|_=>false)
  |_=>false
def CC [Bk] [Ev] {base:Nat} {bZ:List (Poly×List AV)} {tail:List (List AV)} {e:List AV} (h:e∈rowsOf base bZ tail):e∈Ev.seq base\/(∃q∈bZ,e=q.2)\/e∈tail:=by
 have key:∀(bZ:List (Poly×List AV)) (l:List (List AV)),e∈bZ.foldl (fun l q=>l.set (cI Ev.eW q.1).toNat q.2) l->e∈l\/∃q∈bZ,e=q.2:=by
  intro bZ;induction bZ with
  |nil=>intro l h;exact .inl h
  |cons q bZ b =>
   intro l h;rcases b _ h with h|⟨a,d,c⟩
   .rcases a08 h with h|h
    .exact .inl h
    .exact .inr ⟨q,a1b,h⟩
   .exact .inr ⟨a,a06 _ d,c⟩
 unfold rowsOf at h;rcases a0m.1 h with h|h
 .rcases key _ _ h with h|h
  .exact .inl h
  .exact .inr (.inl h)
 .exact .inr (.inr h)
def Slot.cl [b:Bk] [e:Ev] {ids:pZ} {x:AV} (a:Cl x):Slot b e b e ids x x:=fun m A w v h =>
 .pure _ _ ((h.cl a).mono (a0g _) fun c _ d=>⟨fun h=>d (abC h),rfl⟩)
def adD {r:AV->AV->Bool} {a c:List (List AV)} (h:Im r a c=true):c.length=a.length/\∀(i j:Nat) (y:AV),iE c i j=some y->∃x,iE a i j=some x/\r x y=true:=by
 obtain⟨l,k⟩:=E6 h;refine⟨l.symm,?_⟩;intro i j y b;unfold iE at b;cases d:c[i]? with
 |none=>rw[d]at b;cases b
 |some e =>
  rw[d]at b;obtain⟨o,n,m⟩:=k i e d;obtain⟨-,l2⟩:=uZ m;obtain⟨x,g,f⟩:=l2 j y b;exact⟨x,by unfold iE;rw[n];exact g,f⟩
def adC {r:AV->AV->Bool} {a c:List (List AV)} {sz:Nat} (h:Im r a c=true) (f:∀e∈a,e.length=sz):∀e∈c,e.length=sz:=by
 intro e d;obtain⟨i,b⟩:=a1s.1 d;obtain⟨k,j,g⟩:=(E6 h).2 i e b;rw[<-(uZ g).1];exact f k (a0a j)
def OM {x y:AV} (h:IG ids k x y=true) (a:y.one=true):x.one=true:=by
 cases k with
 |zero=>cases h
 |succ k =>
  unfold IG at h;split at h
  .simp[AV.one]at a
  .split at h
   .rfl
   .cases h
  .split at h
   .rfl
   .cases h
  .split at h
   .rfl
   .cases h
  .split at h
   .rfl
   .cases h
  .simp[AV.one]at a
  .rw[yE h];exact a
def akZ [b:Bk] [e:Ev] {h:AH} (hs:∀i,rW (h i)) {o:Option Nat} {B:dI} (a:anJ ids h o B=true):OG b e b e ids h o B:=by
 unfold anJ at a;cases o with
 |none=>cases a
 |some i =>
  simp only at a;split at a
  .rename_i T C bG
   split at a
   .rename_i u f t k
    rw[a0e,a0e,decide_eq_true_eq]at a;obtain⟨⟨rfl,rfl⟩,d,s⟩:=a;obtain⟨l1,l2⟩:=adD d;refine⟨trivial,u,f,t,bG,by rw[k];rfl,rfl,l1,?_,adC d⟩;intro i j y g;obtain⟨x,D,v⟩:=l2 i j y g;obtain⟨r,p,c⟩:=pX g;have l:y.one=true:=a0k.1 (a0k.1 s r p) y c;exact⟨x,D,by rw[l];exact OM v l,Mk v⟩
   .cases a
  .rename_i T C base bZ tail n
   split at a
   .rename_i u f z A w n' k
    rw[a0e,a0e,a0e,decide_eq_true_eq]at a;obtain⟨⟨rfl,rfl,rfl⟩,d,s,E⟩:=a;have d:=yE d;cases d;have m:=hs i;rw[k]at m;refine⟨m,u,f,rowsOf base bZ tail,rowsOf base bZ tail,by rw[k];rfl,rfl,rfl,?_,fun h=>h⟩
    intro i j y g;refine⟨y,g,rfl,?_⟩;obtain⟨r,p,c⟩:=pX g;rcases CC p with h|⟨q,h,rfl⟩|h
    .exact Slot.cl (Ev.vI base r h y c)
    .exact Slot.same (a0k.1 (a0k.1 s q h) y c)
    .exact Slot.same (a0k.1 (a0k.1 E r h) y c)
   .cases a
  .cases a
def Xa (n:Nat):pZ:=(List.range n).map some
def Aw {n:Nat} (h:k<n):(Xa n)[k]?=some (some k):=by unfold Xa;rw[a0l,a4p h];rfl
section
variable {b1:Bk} {e1:@Ev b1} {b2:Bk} {e2:@Ev b2} {ids:pZ}
end
def L8 (bs:List dI):Tr:=(bs.foldl (fun(q:Tr×Nat) B=>(q.1.set q.2 B,q.2+1)) (.leaf,0)).1
def Ef [Bk] [Ev] (bs:List dI):(L8 bs).get=fH bs:=by
 have key:∀(bs a:List dI) (t:Tr),t.get=fH a->((bs.foldl (fun(q:Tr×Nat) B=>(q.1.set q.2 B,q.2+1)) (t,a.length)).1).get=fH (a++bs):=by
  intro bs;induction bs with
  |nil=>intro a t h;rw[a1r];exact h
  |cons B bs e =>
   intro a t h;rw[a2l];have:=e (a++[B]) (t.set a.length B) ?_
   .rw[a3e]at this
    simpa using this
   .rw[Tr.adt,h]
    funext k;unfold gO fH;by_cases c:k=a.length
    .subst c;simp[List.getD]
    .rw[if_neg c]
     rcases a0z k a.length with b|d
     .simp[List.getD,a12 b]
     .have g:a.length+1<=k:=by omega
      simp[List.getD,a04 d,a04 (show(a++[B]).length<=k by simp;omega)]
 have f:Tr.leaf.get=fH []:=by
  funext k;rw[Tr.nH];simp[fH]
 exact key bs [] .leaf f
def LH (o:Option (RT Out)):List AV:=(Ft.list (oF o) 4096 0).getD []
def okB (o:Option (RT Out)):Bool:=(Ft.list (oF o) 4096 0).isSome
def ahj (h:okB o=true):Ft.list (oF o) 4096 0=some (LH o):=by
 unfold okB at h;unfold LH;cases a:Ft.list (oF o) 4096 0 with
 |none=>rw[a]at h;cases h
 |some l=>rfl
def OK (o:Option (RT Out)):Bool:=Pc o&&okB o
def pF (o:Option (RT Out)) (x:Nat):Bool:=decide (Pe o=some x)&&okB o
def SW (h:OK o=true):Pc o=true/\Ft.list (oF o) 4096 0=some (LH o):=by
 unfold OK at h;rw[a0e]at h;exact⟨h.1,ahj h.2⟩
def Xt {x:Nat} (h:pF o x=true):Pe o=some x/\Ft.list (oF o) 4096 0=some (LH o):=by
 unfold pF at h;rw[a0e,decide_eq_true_eq]at h;exact⟨h.1,ahj h.2⟩
def agb (b:Bk) (ev:@Ev b) (i:@lL b ev P) {L d N n:Nat} {w0:World} {a0:Act} {c:Code} {f:List AV} (o:Option (RT Out)) (h:@oC b P (@lG b P L d) L k c (Ft.of N f) (L8 bs) n=o) (hs:OK o=true) (j:f.length<=N)
  {w:World} {a:Act} (e:@fD b ev A w0 a0 m w a f (fH bs)) (g:∀m w a,@fD b ev A w0 a0 m w a (LH o) (oT o).get->(Code.loop (bB o)).wpIn (fw none) 9 P (KS P (oK o) Φ) a w):c.wpIn (fw none) 9 P Φ a w:=by
 obtain⟨p,l⟩:=SW hs;exact @AW.stops P b ev i L d k N n A w0 a0 c Φ f (LH o) (L8 bs) o h p l j g m w a (by rw[@Ef b ev];exact e)
def Ep (b:Bk) (ev:@Ev b) (i:@lL b ev P) {L d N n x:Nat} {w0:World} {a0:Act} {c:Code} {f:List AV} (o:Option (RT Out)) (h:@oC b P (@lG b P L d) L k c (Ft.of N f) (L8 bs) n=o) (hs:pF o x=true) (j:f.length<=N)
  {w:World} {a:Act} (e:@fD b ev A w0 a0 m w a f (fH bs)) (g:∀m w a,@fD b ev A w0 a0 m w a (LH o) (oT o).get->Φ (xOf x).to a w):c.wpIn (fw none) 9 P Φ a w:=by
 obtain⟨p,l⟩:=Xt hs;exact @AW.ends P b ev i L d k N n x A w0 a0 c Φ f (LH o) (L8 bs) o h p l j g m w a (by rw[@Ef b ev];exact e)
def age (b:Bk) (ev:@Ev b) (h:@lL b ev P) {L d N n:Nat} {x:AX} {k:List KI} {w0:World} {a0:Act} {f:List AV} (o:Option (RT Out)) (g:@uE b P (@lG b P L d) L k x (Ft.of N f) (L8 bs) n=o) (hs:OK o=true) (i:f.length<=N)
  {w:World} {a:Act} (c:@fD b ev A w0 a0 m w a f (fH bs)) (e:∀m w a,@fD b ev A w0 a0 m w a (LH o) (oT o).get->(Code.loop (bB o)).wpIn (fw none) 9 P (KS P (oK o) Φ) a w):KS P k Φ x.to a w:=by
 obtain⟨l,j⟩:=SW hs;exact @Sat.stops P b ev h L d N n x k A w0 a0 Φ f (LH o) (L8 bs) o g l j i e m w a (by rw[@Ef b ev];exact c)
def Mz (b:Bk) (ev:@Ev b) (h:@lL b ev P) {L d N n y:Nat} {x:AX} {k:List KI} {w0:World} {a0:Act} {f:List AV} (o:Option (RT Out)) (g:@uE b P (@lG b P L d) L k x (Ft.of N f) (L8 bs) n=o) (hs:pF o y=true) (i:f.length<=N)
  {w:World} {a:Act} (c:@fD b ev A w0 a0 m w a f (fH bs)) (e:∀m w a,@fD b ev A w0 a0 m w a (LH o) (oT o).get->Φ (xOf y).to a w):KS P k Φ x.to a w:=by
 obtain⟨l,j⟩:=Xt hs;exact @Sat.ends P b ev h L d N n y x k A w0 a0 Φ f (LH o) (L8 bs) o g l j i e m w a (by rw[@Ef b ev];exact c)
def xKn (b:Bk) (ev:@Ev b) (a:@Sx b ev P b.bQ) (h1:b.ext=[]:=by rfl) (c:b.yes=[]:=by rfl):@lL b ev P:=⟨by rw[h1];exact ah5 b ev,by rw[c];exact afx b ev,a⟩
def lZ (xs:List Int) (i:Nat):cI (fun k=>xs.getD k 0) [([i],1)]=xs.getD i 0:=by simp[cI,uJ]
end
end Mc
namespace Mc
variable {ρ:Nat->Int}
def F8:Nat->AV->Bool
 |0,_=>false
 |k+1,x=>match x with
  | .e _=>true
  | .o _=>true
  | .c _=>true
  | .undef=>true
  | .emp=>true
  | .any=>true
  | .agg cs=>cs.all (F8 k)
  | .bE cs=>cs.all (F8 k)
  | .lit _ bG=>bG.all (·.all (F8 k))
  | .seq _ _ bZ tail=>bZ.all (fun q=>q.2.all (F8 k))&&tail.all (·.all (F8 k))
  | .qZ _ v=>F8 k v
  |_=>false
def R9 [Bk] [Ev]:∀(k:Nat) (x:AV),F8 k x=true->Cl (den k x)
 |0,x,h=>by cases h
 |k+1,x,h=>by
  have f:∀(l:List AV),l.all (F8 k)=true->∀y∈l.map (den k),Cl y:=by
   intro l g y A;obtain⟨z,a,rfl⟩:=a0j.1 A;exact R9 k z (a0k.1 g z a)
  cases x with
  |e p=>exact .c _
  |o i=>exact .c _
  |c v=>exact .c v
  |undef=>exact .undef
  |emp=>exact .emp
  |any=>exact .any
  |agg cs=>exact .agg _ (f cs h)
  |bE cs=>exact .bE _ (f cs h)
  |qZ t v=>exact .qZ t _ (R9 k v h)
  |lit m bG =>
   refine .lit m _ ?_;intro r b;obtain⟨z,a,rfl⟩:=a0j.1 b;exact f z (a0k.1 h z a)
  |seq m base bZ tail =>
   simp only[F8,a0e]at h;refine .lit m _ ?_
   rw[Ss];have key:∀(d:List (Poly×List AV)) (l:List (List AV)),(∀e∈l,∀x∈e,Cl x)->(∀q∈d,∀x∈q.2,Cl x)->∀e∈d.foldl (fun l q=>l.set (evP Ev.eW q.1).toNat q.2) l,∀x∈e,Cl x:=by
    intro d;induction d with
    |nil=>intro l g _;exact g
    |cons q d s =>
     intro l g j;refine s _ ?_ fun w u=>j w (a06 _ u);intro e n;rcases a08 n with n|rfl
     .exact g e n
     .exact j q a1b
   intro r b;rcases a0m.1 b with b|b
   .refine key _ _ (Ev.vI base) ?_ r b
    intro q j;obtain⟨z,a,rfl⟩:=a0j.1 j;exact f z.2 (a0k.1 h.1 z a)
   .obtain⟨z,a,rfl⟩:=a0j.1 b
    exact f z (a0k.1 h.2 z a)
  |_=>cases h
def uC:∀(k:Nat) (x:AV),Cl x->mU k x=true
 |0,_,_=>rfl
 |k+1,x,h=>by
  cases h with
  |c v=>rfl
  |undef=>rfl
  |emp=>rfl
  |any=>rfl
  |agg cs h=>exact a0k.2 fun y a=>uC k y (h y a)
  |bE cs h=>exact a0k.2 fun y a=>uC k y (h y a)
  |lit d bG h=>exact a0k.2 fun r b=>a0k.2 fun y a=>uC k y (h r b y a)
  |qZ t y h=>exact uC k y h
section
variable {b:Bk} {ev:@Ev b} {n:Nat}
end
section
variable {b:Bk} {ev:@Ev b} {n:Nat}
def adQ (b1:Bk) (e1:@Ev b1) (b2:Bk) (e2:@Ev b2) (ids:pZ) {h1:AH} {bs:List dI} (f:Nat->Option Nat) (h:∀i B,bs[i]?=some B->OG b1 e1 b2 e2 ids h1 (f i) B):aap b1 e1 b2 e2 ids h1 ((List.range bs.length).map f) bs:=by
 induction bs generalizing f with
 |nil=>exact .nil
 |cons B bs a =>
  rw[a0v,List.range_succ_eq_map,a0r,a16];exact .cons (h 0 B rfl) (a (f∘Nat.succ) fun i c b=>h (i+1) c (by simpa using b))
end
def ajI {r p q:Poly} {x y n:Int} (a:cI ρ r=x) (c:cI ρ p=y) (b:cI ρ q=n) (d:0<=y) (h:x=y/n):cI ρ r=(cI ρ p).tdiv (cI ρ q):=by rw[a,c,b,h,Int.tdiv_eq_ediv_of_nonneg d]
def ajE {r p q:Poly} {x y n:Int} (a:cI ρ r=x) (c:cI ρ p=y) (b:cI ρ q=n) (d:0<=y) (h:x=y%n):cI ρ r=(cI ρ p).tmod (cI ρ q):=by rw[a,c,b,h,Int.tmod_eq_emod_of_nonneg d]
def agm (ρ:Nat->Int) (n:Int):cI ρ [([],n)]=n:=by simp[cI,uJ]
def qH {p:Poly} {x:Int} {l:List (List AV)} {r:List AV} (a:cI ρ p=x) (h:l[x.toNat]?=some r):l[(cI ρ p).toNat]?=some r:=by rw[a];exact h
end Mc
end Go.Proofs.YtnepgggkgnckcaaGreat
