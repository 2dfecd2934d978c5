/-
 Texts joined and made small by wip/small.sh.
-/
import Derived.WalkKit
import Derived.Orders
import Derived.Maps.AppendAt
import Derived.Below
import Derived.Great.BuildSlice
import Derived.Laws.MakeOwn
import Derived.Laws.CopyRow
import Derived.IntWalk
import Derived.Laws.Slices
import Derived.Laws.OwnMore
import Derived.Laws.StructEq
import Derived.OrdersIn
import Derived.RangeFuncRecord
import Derived.MapKept
set_option linter.unusedVariables false
set_option linter.unusedSimpArgs false
namespace Go.Proofs.YtnepgggkgnckcaaGreat
open Go.RowKit
namespace Mc
abbrev Poly:=List (List Nat×Int)
def lG (ρ:Nat→Int):List Nat→Int
 |[]=>1
 |i::m=>ρ i*lG ρ m
def bJ (ρ:Nat→Int):Poly→Int
 |[]=>0
 |t::p=>t.2*lG ρ t.1+bJ ρ p
def ltM:List Nat→List Nat→Bool
 |[],[]=>false
 |[],_::_=>true
 |_::_,[]=>false
 |a::x,b::y=>if a=b then ltM x y else decide (a<b)
def afv (i:Nat):List Nat→List Nat
 |[]=>[i]
 |j::m=>if i≤j then i::j::m else j::afv i m
def adg:List Nat→List Nat→List Nat
 |[],y=>y
 |i::x,y=>afv i (adg x y)
def pins (m:List Nat) (c:Int):Poly→Poly
 |[]=>if c=0 then[]else[(m,c)]
 |t::q=>if m=t.1 then(if c+t.2=0 then q else(m,c+t.2)::q)else if ltM m t.1 then(m,c)::t::q else t::pins m c q
def uQ:Poly→Poly→Poly
 |[],q=>q
 |t::p,q=>pins t.1 t.2 (uQ p q)
def pA (k:Int) (p:Poly):Poly:=if k=0 then[]else p.map fun t=>(t.1,k*t.2)
def ND (m:List Nat) (c:Int):Poly→Poly
 |[]=>[]
 |t::q=>pins (adg m t.1) (c*t.2) (ND m c q)
def acg:Poly→Poly→Poly
 |[],_=>[]
 |t::p,q=>uQ (ND t.1 t.2 q) (acg p q)
def xJ (n:Int):Poly:=if n=0 then[]else[([],n)]
def pM (p q:Poly):Poly:=uQ (pA (-1) q) p
section
variable {ρ:Nat→Int}
theorem N9 (i:Nat):∀m,lG ρ (afv i m)=ρ i*lG ρ m
 |[]=>rfl
 |j::m=>by
  unfold afv;split
  ·rfl
  ·simp only[lG,N9 i m]
   rw[←Int.mul_assoc,←Int.mul_assoc,Int.mul_comm (ρ j)]
theorem N8:∀x y,lG ρ (adg x y)=lG ρ x*lG ρ y
 |[],y=>by simp[adg,lG]
 |i::x,y=>by rw[adg,N9,N8 x y,lG,Int.mul_assoc]
theorem FC (m:List Nat) (c:Int):∀q,bJ ρ (pins m c q)=c*lG ρ m+bJ ρ q
 |[]=>by
  unfold pins;split
  ·rename_i h;subst h;simp[bJ]
  ·rfl
 |t::q=>by
  unfold pins;split
  ·rename_i h
   subst h;split
   ·rename_i h
    simp only[bJ];have:c*lG ρ t.1+(t.2*lG ρ t.1+bJ ρ q)=(c+t.2)*lG ρ t.1+bJ ρ q:=by rw[Int.add_mul];omega
    rw[this,h];simp
   ·simp only[bJ];rw[Int.add_mul];omega
  ·split
   ·rfl
   ·simp only[bJ,FC m c q];omega
theorem nC:∀p q,bJ ρ (uQ p q)=bJ ρ p+bJ ρ q
 |[],q=>by simp[uQ,bJ]
 |t::p,q=>by rw[uQ,FC,nC p q,bJ];omega
theorem TM (k:Int):∀p:Poly,bJ ρ (p.map fun t=>(t.1,k*t.2))=k*bJ ρ p
 |[]=>by simp[bJ]
 |t::p=>by
  simp only[List.map_cons,bJ,TM k p];rw[Int.mul_add,Int.mul_assoc]
theorem qR (k:Int) (p:Poly):bJ ρ (pA k p)=k*bJ ρ p:=by
 unfold pA;split
 ·rename_i h;subst h;simp[bJ]
 ·exact TM k p
theorem HW (m:List Nat) (c:Int):∀q,bJ ρ (ND m c q)=c*lG ρ m*bJ ρ q
 |[]=>by simp[ND,bJ]
 |t::q=>by
  rw[ND,FC,HW m c q,N8,bJ,Int.mul_add];congr 1
  rw[Int.mul_assoc,Int.mul_assoc,←Int.mul_assoc t.2,Int.mul_comm t.2,Int.mul_assoc]
theorem FB:∀p q,bJ ρ (acg p q)=bJ ρ p*bJ ρ q
 |[],q=>by simp[acg,bJ]
 |t::p,q=>by rw[acg,nC,HW,FB p q,bJ,Int.add_mul]
theorem qS (n:Int):bJ ρ (xJ n)=n:=by
 unfold xJ;split
 ·rename_i h;rw[h];rfl
 ·simp[bJ,lG]
theorem fQ (p q:Poly):bJ ρ (pM p q)=bJ ρ p-bJ ρ q:=by
 rw[pM,nC,qR];omega
end
inductive AV where
 |c (v:Value)
 |undef
 |emp
 |agg (cs:List AV)
 |aZ (vs:List AV)
 |lit (sz:Nat) (aN:List (List AV))
 |own (T sz id i n:Nat)
 |ptr (sz id i off:Nat)
 |gT (sz:Nat) (aN:List (List AV)) (i off:Nat)
 |fn (f:Fn) (first captured:List AV)
 |pJ (t:TypeId) (v:AV)
 |e (p:Poly)
 |row (n:Poly) (xs:List Poly)
 |o (i:Nat)
 |DW (id:Nat)
 |mpv (id:Nat)
 |view (T sz id i n:Nat)
 |any
 |seq (sz base:Nat) (bG:List (Poly×List AV)) (tail:List (List AV))
 |tY (sz base:Nat) (bG:List (Poly×List AV)) (tail:List (List AV)) (p:Poly) (off:Nat)
 |cE (T sz id:Nat) (n:Poly)
 |mC (sz id:Nat) (p:Poly) (off:Nat)
 |nV
def evT (ρ:Nat→Int):List Nat×Int→Int
 |([],c)=>c
 |([i],c)=>if c=1 then ρ i else if c=-1 then -ρ i else c*ρ i
 |t=>t.2*lG ρ t.1
def evG (ρ:Nat→Int):Int→Poly→Int
 |a,[]=>a
 |a,t::p=>evG ρ (match t with
  |([i],c)=>if c=1 then a+ρ i else if c=-1 then a-ρ i else a+c*ρ i
  |t=>a+t.2*lG ρ t.1) p
def PS (ρ:Nat→Int):Poly→Int
 |[]=>0
 |t::p=>evG ρ (evT ρ t) p
theorem adH (ρ:Nat→Int) (t:List Nat×Int):evT ρ t=t.2*lG ρ t.1:=by
 unfold evT;split
 ·simp[lG]
 ·split
  ·rename_i h;subst h;simp[lG]
  ·split
   ·rename_i h;subst h;simp[lG]
   ·simp[lG]
 ·rfl
theorem adI (ρ:Nat→Int):∀(p:Poly) (a:Int),evG ρ a p=a+bJ ρ p
 |[],a=>by simp[evG,bJ]
 |t::p,a=>by
  have h:=adH ρ t;simp only[evG,bJ,adI ρ p];split
  ·simp only[evT]at h
   simp only[lG,Int.mul_one]at h ⊢;split
   ·rename_i k;subst k;omega
   ·split
    ·rename_i k;subst k;omega
    ·omega
  ·omega
theorem uG (ρ:Nat→Int) (p:Poly):PS ρ p=bJ ρ p:=by
 cases p with
 |nil=>rfl
 |cons t p=>simp only[PS,bJ,adI,adH]
def abi {α:Type} (l:List α):List α→List α
 |[]=>l
 |x::t=>l++x::t
theorem ML {α:Type} (l t:List α):abi l t=l++t:=by cases t<;>simp[abi]
def zO (ρ:Nat→Int) (vl:Nat→Value) (sq:Nat→List (List AV)):Nat→AV→AV
 |0,x=>x
 |k+1,x=>match x with
  | .e p=>.c (.int .i64 (PS ρ p))
  | .o i=>.c (vl i)
  | .agg cs=>.agg (cs.map (zO ρ vl sq k))
  | .aZ cs=>.aZ (cs.map (zO ρ vl sq k))
  | .lit sz aN=>.lit sz (aN.map (·.map (zO ρ vl sq k)))
  | .seq sz base bG tail=>.lit sz (abi ((bG.map fun q=>(q.1,q.2.map (zO ρ vl sq k))).foldl (fun l q=>l.set (PS ρ q.1).toNat q.2) (sq base)) (tail.map (·.map (zO ρ vl sq k))))
  | .pJ t v=>.pJ t (zO ρ vl sq k v)
  |x=>x
def lA:Nat→AV→Bool
 |0,_=>true
 |k+1,x=>match x with
  | .agg cs=>cs.all (lA k)
  | .aZ cs=>cs.all (lA k)
  | .lit _ aN=>aN.all (·.all (lA k))
  | .seq _ _ bG tail=>bG.isEmpty&&tail.all (·.all (lA k))
  | .pJ _ v=>lA k v
  |_=>true
inductive Cl:AV→Prop
 |c (v:Value):Cl (.c v)
 |undef:Cl .undef
 |emp:Cl .emp
 |any:Cl .any
 |agg (cs:List AV) (h:∀x∈cs,Cl x):Cl (.agg cs)
 |aZ (cs:List AV) (h:∀x∈cs,Cl x):Cl (.aZ cs)
 |lit (sz:Nat) (aN:List (List AV)) (h:∀e∈aN,∀x∈e,Cl x):Cl (.lit sz aN)
 |pJ (t:TypeId) (x:AV) (h:Cl x):Cl (.pJ t x)
theorem Cl.den {ρ:Nat→Int} {vl:Nat→Value} {sq:Nat→List (List AV)} {x:AV} (h:Cl x):∀k,zO ρ vl sq k x=x:=by
 have mp:∀(l:List AV) (g:AV→AV),(∀x∈l,g x=x)→l.map g=l:=fun l g hg=>by
  conv=>rhs;rw[←List.map_id l]
  exact List.map_congr_left hg
 induction h with
 |agg cs h ih=>intro k;cases k with
  |zero=>rfl
  |succ k=>simp only[zO];rw[mp cs _ fun x hx=>ih x hx k]
 |aZ cs h ih=>intro k;cases k with
  |zero=>rfl
  |succ k=>simp only[zO];rw[mp cs _ fun x hx=>ih x hx k]
 |lit sz aN h ih=>intro k;cases k with
  |zero=>rfl
  |succ k =>
   simp only[zO];congr 1
   conv=>rhs;rw[←List.map_id aN]
   exact List.map_congr_left fun e he=>mp e _ fun x hx=>ih e he x hx k
 |pJ t x h ih=>intro k;cases k with
  |zero=>rfl
  |succ k=>simp only[zO];rw[ih k]
 |_=>intro k;cases k<;>rfl
class Bk where
 vars:List (Int×Int):=[]
 facts:List (Poly×Int×Int):=[]
 defs:List (Nat×Poly×Poly×Poly):=[]
 ext:List (Nat×List Poly×List Poly):=[]
 yes:List Nat:=[]
 bT:List (Nat×List AV×AV):=[]
 kI:List (Nat×List Int):=[]
 kinds:List Bool:=[]
 lens:List (Nat×Poly):=[]
 kT:List (Nat×Poly×List AV):=[]
 aa3:List (Nat×Nat×Nat):=[]
def Bk.var [Bk] (i:Nat):Int×Int:=Bk.vars.getD i (0,0)
class Ev [Bk] where
 xs:List Int
 vars:∀i,(Bk.var i).1≤xs.getD i 0∧xs.getD i 0≤(Bk.var i).2
 facts:∀t∈Bk.facts,t.2.1≤bJ (fun i=>xs.getD i 0) t.1∧bJ (fun i=>xs.getD i 0) t.1≤t.2.2
 defs:∀t∈Bk.defs,(t.1=0→bJ (fun i=>xs.getD i 0) t.2.2.2=(bJ (fun i=>xs.getD i 0) t.2.1).tdiv (bJ (fun i=>xs.getD i 0) t.2.2.1)) ∧
  (t.1=1→bJ (fun i=>xs.getD i 0) t.2.2.2=(bJ (fun i=>xs.getD i 0) t.2.1).tmod (bJ (fun i=>xs.getD i 0) t.2.2.1)) ∧
  (t.1=2→bJ (fun i=>xs.getD i 0) t.2.2.2=max (bJ (fun i=>xs.getD i 0) t.2.1) (bJ (fun i=>xs.getD i 0) t.2.2.1))
 oM:List Value
 afp:∀v∈oM,v.oneCell'=true
 kin:∀i b,Bk.kinds[i]?=some b→(b=true→∃s,oM.getD i (.bool false)=.string s)∧(b=false→∃c,oM.getD i (.bool false)=.bool c)
 A4:List (List (List AV))
 ahJ:∀t∈Bk.lens,((A4.getD t.1 []).length:Int)=bJ (fun i=>xs.getD i 0) t.2
 sat:∀t∈Bk.kT,0≤bJ (fun i=>xs.getD i 0) t.2.1∧(A4.getD t.1 [])[(bJ (fun i=>xs.getD i 0) t.2.1).toNat]?=some (t.2.2.map (zO (fun i=>xs.getD i 0) (fun i=>oM.getD i (.bool false)) (fun i=>A4.getD i []) 12))∧t.2.2.all (lA 12)=true
 spl:∀l∈A4,∀r∈l,∀x∈r,Cl x
 cat:∀t∈Bk.aa3,A4.getD t.2.2 []=A4.getD t.1 []++A4.getD t.2.1 []
def Ev.dL [Bk] [Ev]:Nat→Int:=fun i=>Ev.xs.getD i 0
def Ev.seq [Bk] [Ev] (i:Nat):List (List AV):=Ev.A4.getD i []
def rowsOf [Bk] [Ev] (base:Nat) (bG:List (Poly×List AV)) (tail:List (List AV)):List (List AV):=bG.foldl (fun l q=>l.set (bJ Ev.dL q.1).toNat q.2) (Ev.seq base)++tail
def XL [Bk] [Ev] (base:Nat) (p:Poly):Prop:=0≤bJ Ev.dL p∧(bJ Ev.dL p).toNat<(Ev.seq base).length
theorem gE [Bk] [Ev] (base:Nat) (bG:List (Poly×List AV)) (tail:List (List AV)):(rowsOf base bG tail).length=(Ev.seq base).length+tail.length:=by
 unfold rowsOf;rw[List.length_append];congr 1
 have:∀(bG:List (Poly×List AV)) (l:List (List AV)),(bG.foldl (fun l q=>l.set (bJ Ev.dL q.1).toNat q.2) l).length=l.length:=by
  intro bG;induction bG with
  |nil=>intro l;rfl
  |cons q bG ih=>intro l;rw[List.foldl_cons,ih,List.length_set]
 exact this bG _
def den [Bk] [Ev] (k:Nat) (x:AV):AV:=zO Ev.dL (fun i=>Ev.oM.getD i (.bool false)) Ev.seq k x
theorem Ev.uA [Bk] [Ev] (i:Nat):∀r∈Ev.seq i,∀x∈r,Cl x:=by
 unfold Ev.seq;rw[List.getD];cases h:(Ev.A4)[i]? with
 |none=>intro r hr;exact absurd hr List.not_mem_nil
 |some l=>exact Ev.spl l (List.mem_of_getElem? h)
theorem Xr [Bk] [Ev] (k sz base:Nat) (bG:List (Poly×List AV)) (tail:List (List AV)):den (k+1) (.seq sz base bG tail)=.lit sz ((rowsOf base bG tail).map (·.map (den k))):=by
 have hb:(Ev.seq base).map (·.map (den k))=Ev.seq base:=by
  conv=>rhs;rw[←List.map_id (Ev.seq base)]
  refine List.map_congr_left fun e he=>?_
  show e.map (den k)=id e
  conv=>rhs;rw[id,←List.map_id e]
  exact List.map_congr_left fun x hx=>(Ev.uA base e he x hx).den k
 have hf:∀(bG:List (Poly×List AV)) (l:List (List AV)),(bG.map fun q=>(q.1,q.2.map (den k))).foldl (fun l q=>l.set (PS Ev.dL q.1).toNat q.2) (l.map (·.map (den k)))=(bG.foldl (fun l q=>l.set (bJ Ev.dL q.1).toNat q.2) l).map (·.map (den k)):=by
  intro bG;induction bG with
  |nil=>intro l;rfl
  |cons q bG ih =>
   intro l;simp only[List.map_cons,List.foldl_cons];rw[←ih,List.map_set,uG]
 show AV.lit sz (abi ((bG.map fun q=>(q.1,q.2.map (den k))).foldl (fun l q=>l.set (PS Ev.dL q.1).toNat q.2) (Ev.seq base)) (tail.map (·.map (den k))))=_
 rw[ML];unfold rowsOf;rw[List.map_append,←hf,hb]
def Ev.val [Bk] [Ev] (i:Nat):Value:=Ev.oM.getD i (.bool false)
theorem Ev.val_one [Bk] [Ev] (i:Nat):(Ev.val i).oneCell'=true:=by
 unfold Ev.val;rw[List.getD];cases h:(Ev.oM)[i]? with
 |none=>rfl
 |some v=>exact Ev.afp v (List.mem_of_getElem? h)
def adx (a b:Int×Int):Int×Int:=(min (min (a.1*b.1) (a.1*b.2)) (min (a.2*b.1) (a.2*b.2)),max (max (a.1*b.1) (a.1*b.2)) (max (a.2*b.1) (a.2*b.2)))
theorem Sc {x a b y:Int} (h1:a≤x) (h2:x≤b):x*y≤max (a*y) (b*y):=by
 rcases Int.le_total 0 y with h|h
 ·exact Int.le_trans (Int.mul_le_mul_of_nonneg_right h2 h) (Int.le_max_right _ _)
 ·exact Int.le_trans (Int.mul_le_mul_of_nonpos_right h1 h) (Int.le_max_left _ _)
theorem Sd {x a b y:Int} (h1:a≤x) (h2:x≤b):min (a*y) (b*y)≤x*y:=by
 rcases Int.le_total 0 y with h|h
 ·exact Int.le_trans (Int.min_le_left _ _) (Int.mul_le_mul_of_nonneg_right h1 h)
 ·exact Int.le_trans (Int.min_le_right _ _) (Int.mul_le_mul_of_nonpos_right h2 h)
theorem Xd {a b:Int×Int} {x y:Int} (hx:a.1≤x∧x≤a.2) (hy:b.1≤y∧y≤b.2):(adx a b).1≤x*y∧x*y≤(adx a b).2:=by
 have u:=Sc (y:=y) hx.1 hx.2
 have l:=Sd (y:=y) hx.1 hx.2
 have u1:=Sc (y:=a.1) hy.1 hy.2
 have l1:=Sd (y:=a.1) hy.1 hy.2
 have u2:=Sc (y:=a.2) hy.1 hy.2
 have l2:=Sd (y:=a.2) hy.1 hy.2
 rw[Int.mul_comm b.1,Int.mul_comm b.2,Int.mul_comm y]at u1 l1 u2 l2;unfold adx;simp only
 generalize x*y=z at *
 omega
def afV [Bk]:List Nat→Int×Int
 |[]=>(1,1)
 |i::m=>adx (Bk.var i) (afV m)
theorem Xy [Bk] [Ev]:∀m,(afV m).1≤lG Ev.dL m∧lG Ev.dL m≤(afV m).2
 |[]=>⟨Int.le_refl _,Int.le_refl _⟩
 |i::m=>Xd (Ev.vars i) (Xy m)
def aa6 [Bk]:Poly→Int×Int
 |[]=>(0,0)
 |t::p=>let b:=adx (t.2,t.2) (afV t.1);let r:=aa6 p;(b.1+r.1,b.2+r.2)
theorem MC [Bk] [Ev]:∀p,(aa6 p).1≤bJ Ev.dL p∧bJ Ev.dL p≤(aa6 p).2
 |[]=>⟨Int.le_refl _,Int.le_refl _⟩
 |t::p=>by
  have h1:=Xd (a:=(t.2,t.2)) (x:=t.2) ⟨Int.le_refl _,Int.le_refl _⟩ (Xy t.1)
  have h2:=MC p;simp only[aa6,bJ];omega
def narrow (p:Poly):List (Poly×Int×Int)→Int×Int→Int×Int
 |[],b=>b
 |t::l,b=>narrow p l (if t.1=p then(max b.1 t.2.1,min b.2 t.2.2)else if pA (-1) t.1=p then(max b.1 (-t.2.2),min b.2 (-t.2.1))else b)
theorem CP {ρ:Nat→Int} (p:Poly):∀(l:List (Poly×Int×Int)) (b:Int×Int),(∀t∈l,t.2.1≤bJ ρ t.1∧bJ ρ t.1≤t.2.2)→b.1≤bJ ρ p∧bJ ρ p≤b.2→(narrow p l b).1≤bJ ρ p∧bJ ρ p≤(narrow p l b).2
 |[],b,_,h=>h
 |t::l,b,hl,h=>by
  refine CP p l _ (fun t ht=>hl t (List.mem_cons_of_mem _ ht)) ?_
  have ht:=hl t List.mem_cons_self;split
  ·rename_i e
   rw[e]at ht;simp only
   omega
  ·split
   ·rename_i e
    have:=qR (ρ:=ρ) (-1) t.1
    rw[e]at this;simp only
    omega
   ·exact h
def content:Poly→Nat
 |[]=>0
 |t::p=>Nat.gcd t.2.natAbs (content p)
def nQ:Poly→Int×Poly
 |([],c)::r=>(c,r)
 |p=>(0,p)
theorem aaa {ρ:Nat→Int} (p:Poly):bJ ρ p=(nQ p).1+bJ ρ (nQ p).2:=by
 unfold nQ;split
 ·simp[bJ,lG]
 ·simp
def bnd [Bk] (p:Poly):Int×Int :=
 let c:=nQ p
 match c.2 with
 |[]=>(c.1,c.1)
 |q =>
  let g:=content q
  let r:=q.map fun t=>(t.1,t.2/(g:Int))
  if pA g r=q then let b:=narrow r Bk.facts (aa6 r);(c.1+g*b.1,c.1+g*b.2)
  else let b:=narrow q Bk.facts (aa6 q);(c.1+b.1,c.1+b.2)
theorem Db [Bk] [Ev] (p:Poly):(bnd p).1≤bJ Ev.dL p∧bJ Ev.dL p≤(bnd p).2:=by
 have hs:=aaa (ρ:=Ev.dL) p
 unfold bnd;simp only
 split
 ·rename_i h
  rw[h]at hs;simp only[bJ]at hs;simp only
  omega
 ·split
  ·rename_i h
   have e:=qR (ρ:=Ev.dL) (content (nQ p).2:Int) ((nQ p).2.map fun t=>(t.1,t.2/(content (nQ p).2:Int)))
   rw[h]at e;have k:=CP ((nQ p).2.map fun t=>(t.1,t.2/(content (nQ p).2:Int))) Bk.facts _ Ev.facts (MC _)
   have k1:=Int.mul_le_mul_of_nonneg_left k.1 (Int.natCast_nonneg (content (nQ p).2))
   have k2:=Int.mul_le_mul_of_nonneg_left k.2 (Int.natCast_nonneg (content (nQ p).2))
   simp only
   change bJ Ev.dL (nQ p).2=_*bJ Ev.dL _ at e
   constructor
   ·rw[hs,e];exact Int.add_le_add_left k1 _
   ·rw[hs,e];exact Int.add_le_add_left k2 _
  ·have k:=CP (nQ p).2 Bk.facts _ Ev.facts (MC _)
   simp only
   constructor
   ·rw[hs];exact Int.add_le_add_left k.1 _
   ·rw[hs];exact Int.add_le_add_left k.2 _
def kE [Bk] (p:Poly):Bool:=let b:=bnd p;decide (-9223372036854775808≤b.1)&&decide (b.2<9223372036854775808)
theorem Ss [Bk] [Ev] {p:Poly} (h:kE p=true):-9223372036854775808≤bJ Ev.dL p∧bJ Ev.dL p<9223372036854775808:=by
 have k:=Db p;unfold kE at h;simp only[Bool.and_eq_true,decide_eq_true_eq]at h;omega
def Oe [Bk] (p:Poly):Option Bool:=let b:=bnd p;if b.2<0 then some true else if 0≤b.1 then some false else none
theorem nU [Bk] [Ev] {p:Poly} {b:Bool} (h:Oe p=some b):b=decide (bJ Ev.dL p<0):=by
 have k:=Db p;unfold Oe at h;simp only at h
 split at h
 ·cases h
  symm;rw[decide_eq_true_eq];omega
 ·split at h
  ·cases h
   symm;rw[decide_eq_false_iff_not];omega
  ·cases h
def eqB [Bk] (p:Poly):Option Bool:=let b:=bnd p;if b.2<0 then some false else if 0<b.1 then some false else if b.1=0∧b.2=0 then some true else none
theorem C7 [Bk] [Ev] {p:Poly} {b:Bool} (h:eqB p=some b):b=decide (bJ Ev.dL p=0):=by
 have k:=Db p;unfold eqB at h;simp only at h
 split at h
 ·cases h
  symm;rw[decide_eq_false_iff_not];omega
 ·split at h
  ·cases h
   symm;rw[decide_eq_false_iff_not];omega
  ·split at h
   ·cases h
    symm;rw[decide_eq_true_eq];omega
   ·cases h
def findD (k:Nat) (p q:Poly):List (Nat×Poly×Poly×Poly)→Option Poly
 |[]=>none
 |t::l=>if t.1=k∧t.2.1=p∧t.2.2.1=q then some t.2.2.2 else findD k p q l
theorem BJ {k:Nat} {p q r:Poly}:∀{l:List (Nat×Poly×Poly×Poly)},findD k p q l=some r→(k,p,q,r)∈l
 |[],h=>by cases h
 |t::l,h=>by
  unfold findD at h;split at h
  ·rename_i e
   cases h;obtain⟨rfl,rfl,rfl⟩:=e;exact List.mem_cons_self
  ·exact List.mem_cons_of_mem _ (BJ h)
def nzB [Bk] (p:Poly):Bool:=let b:=bnd p;decide (b.2<0)||decide (0<b.1)
theorem ac9 [Bk] [Ev] {p:Poly} (h:nzB p=true):bJ Ev.dL p≠0:=by
 have k:=Db p;unfold nzB at h;simp only[Bool.or_eq_true,decide_eq_true_eq]at h;omega
abbrev dI:Bk:={}
theorem adJ (i:Nat):(@Bk.var dI i).1≤(([]:List Int).getD i 0)∧(([]:List Int).getD i 0)≤(@Bk.var dI i).2:=by
 show((([]:List (Int×Int)).getD i (0,0)).1≤_)∧(_≤(([]:List (Int×Int)).getD i (0,0)).2)
 simp
abbrev dN:@Ev dI:=@Ev.mk dI [] adJ (fun t h=>absurd h List.not_mem_nil) (fun t h=>absurd h List.not_mem_nil) [] (fun v h=>absurd h List.not_mem_nil) (fun i b h=>by cases h) [] (fun t h=>absurd h List.not_mem_nil) (fun t h=>absurd h List.not_mem_nil) (fun l h=>absurd h List.not_mem_nil) (fun t h=>absurd h List.not_mem_nil)
end Mc
namespace Mc
def AV.one:AV→Bool
 | .c v=>v.oneCell'
 | .undef | .agg _ | .aZ _ | .nV=>false
 |_=>true
inductive St where
 |no|dead|rW|at (b:Nat)
def fW (aN:List (List AV)) (i j:Nat):Option AV:=(aN[i]?).bind (·[j]?)
def dV (w:World) (b:Nat):Nat:=match w.heap[b]? with|some (.cells c _ _)=>c.size|_=>0
inductive dG [Bk] [Ev] (A:Nat→Prop) (w:World):AV→Value→Prop
 |c (v:Value):dG A w (.c v) v
 |undef:dG A w .undef Go.undef
 |emp (a:Option Addr):dG A w .emp (.slice a 0 0)
 |agg (cs:List AV) (vs:Array Value) (hl:vs.size=cs.length) (h1:∀(i:Nat) (x:AV),cs[i]?=some x→x.one=true) (h:∀(i:Nat) (x:AV),cs[i]?=some x→dG A w x (vs.getD i Go.undef)):dG A w (.agg cs) (.agg vs)
 |aZ (cs:List AV) (vs:Array Value) (hl:vs.size=cs.length) (h:∀(i:Nat) (x:AV),cs[i]?=some x→dG A w x (vs.getD i Go.undef)):dG A w (.aZ cs) (.tuple vs)
 |lit (sz:Nat) (aN:List (List AV)) (b off cap:Nat) (vs:Nat→Nat→Value) (hA:¬ A b) (hb:b<w.heap.size) (hc:aN.length≤cap∧cap≤maxLen) (hsz:∀e∈aN,e.length=sz)
   (h1:∀(i j:Nat) (x:AV),fW aN i j=some x→x.one=true) (hv:∀(i j:Nat) (x:AV),fW aN i j=some x→w.cell? ⟨b,off+(i*sz+j),none⟩=some (vs i j)) (h:∀(i j:Nat) (x:AV),fW aN i j=some x→dG A w x (vs i j)) :
   dG A w (.lit sz aN) (.slice (some ⟨b,off,none⟩) aN.length cap)
 |nG (sz:Nat) (a:Option Addr) (cap:Nat) (hm:cap≤maxLen):dG A w (.lit sz []) (.slice a 0 cap)
 |gT (sz:Nat) (aN:List (List AV)) (i0 j0 b off:Nat) (vs:Nat→Nat→Value) (hA:¬ A b) (hb:b<w.heap.size) (hsz:∀e∈aN,e.length=sz)
   (h1:∀(i j:Nat) (x:AV),fW aN i j=some x→x.one=true) (hv:∀(i j:Nat) (x:AV),fW aN i j=some x→w.cell? ⟨b,off+(i*sz+j),none⟩=some (vs i j)) (h:∀(i j:Nat) (x:AV),fW aN i j=some x→dG A w x (vs i j)) :
   dG A w (.gT sz aN i0 j0) (.pointer (some ⟨b,off+(i0*sz+j0),none⟩))
 |fn (f:Fn) (xs ys:List AV) (vs us:Array Value) (hl:vs.size=xs.length) (hk:us.size=ys.length) (h:∀(i:Nat) (x:AV),xs[i]?=some x→dG A w x (vs.getD i Go.undef)) (g:∀(i:Nat) (x:AV),ys[i]?=some x→dG A w x (us.getD i Go.undef)) :
   dG A w (.fn f xs ys) (.func f vs us)
 |pJ (t:TypeId) (x:AV) (v:Value) (h:dG A w x v):dG A w (.pJ t x) (.iface t v)
 |e (p:Poly):dG A w (.e p) (.int .i64 (bJ Ev.dL p))
 |row (n:Poly) (xs:List Poly) (b off len cap:Nat) (hn:bJ Ev.dL n=len) (hc:len≤cap) (hA:¬ A b) (hb:b<w.heap.size) (hv:∀(j:Nat) (p:Poly),xs[j]?=some p→j<len→w.cell? ⟨b,off+j,none⟩=some (.int .i64 (bJ Ev.dL p))) :
   dG A w (.row n xs) (.slice (some ⟨b,off,none⟩) len cap)
 |I8 (n:Poly) (xs:List Poly) (a:Option Addr) (cap:Nat) (hn:bJ Ev.dL n=0):dG A w (.row n xs) (.slice a 0 cap)
 |o (i:Nat):dG A w (.o i) (Ev.val i)
 |any (v:Value) (h1:v.oneCell'=true):dG A w .any v
 |seq (sz base:Nat) (bG:List (Poly×List AV)) (tail:List (List AV)) (v:Value) (hin:∀q∈bG,XL base q.1) (h1:v.oneCell'=true) (h:dG A w (.lit sz (rowsOf base bG tail)) v):dG A w (.seq sz base bG tail) v
 |tY (sz base:Nat) (bG:List (Poly×List AV)) (tail:List (List AV)) (p:Poly) (off:Nat) (v:Value) (hin:∀q∈bG,XL base q.1) (h1:v.oneCell'=true) (hp:0≤bJ Ev.dL p) (h:dG A w (.gT sz (rowsOf base bG tail) (bJ Ev.dL p).toNat off) v):dG A w (.tY sz base bG tail p off) v
 |nV (v:Value):dG A w .nV v
theorem dG.one [Bk] [Ev] {A:Nat→Prop} {w:World} {x:AV} {v:Value} (h:dG A w x v) (h1:x.one=true):v.oneCell'=true:=by
 cases h<;>first|exact h1|rfl|exact Ev.val_one _|assumption|(simp[AV.one]at h1)
theorem dG.mono [Bk] [Ev] {A A':Nat→Prop} {w w':World} (hs:w.heap.size≤w'.heap.size) (hA:∀b,b<w.heap.size→¬ A b→¬ A' b∧w'.heap[b]?=w.heap[b]?) {x:AV} {v:Value} (h:dG A w x v):dG A' w' x v:=by
 have hcell:∀b o,b<w.heap.size→¬ A b→w'.cell? ⟨b,o,none⟩=w.cell? ⟨b,o,none⟩:=fun b o hb hn=>World.cell?_of_block (hA b hb hn).2
 induction h with
 |c v=>exact .c v
 |undef=>exact .undef
 |emp a=>exact .emp a
 |agg cs vs hl h1 _ ih=>exact .agg cs vs hl h1 ih
 |aZ cs vs hl _ ih=>exact .aZ cs vs hl ih
 |lit sz aN b off cap vs hm hb hc hsz h1 hv _ ih =>
  exact .lit sz aN b off cap vs (hA b hb hm).1 (Nat.lt_of_lt_of_le hb hs) hc hsz h1 (fun i j x hx=>(hcell b _ hb hm).trans (hv i j x hx)) ih
 |nG sz a cap hm=>exact .nG sz a cap hm
 |gT sz aN i0 j0 b off vs hm hb hsz h1 hv _ ih =>
  exact .gT sz aN i0 j0 b off vs (hA b hb hm).1 (Nat.lt_of_lt_of_le hb hs) hsz h1 (fun i j x hx=>(hcell b _ hb hm).trans (hv i j x hx)) ih
 |fn f xs ys vs us hl hk _ _ ih1 ih2=>exact .fn f xs ys vs us hl hk ih1 ih2
 |pJ t x v _ ih=>exact .pJ t x v ih
 |e p=>exact .e p
 |row n xs b off len cap hn hc hm hb hv=>exact .row n xs b off len cap hn hc (hA b hb hm).1 (Nat.lt_of_lt_of_le hb hs) fun j p hx hj=>(hcell b _ hb hm).trans (hv j p hx hj)
 |I8 n xs a cap hn=>exact .I8 n xs a cap hn
 |o i=>exact .o i
 |any v h1=>exact .any v h1
 |seq sz base bG tail v hin h1 _ ih=>exact .seq sz base bG tail v hin h1 ih
 |tY sz base bG tail p off v hin h1 hp _ ih=>exact .tY sz base bG tail p off v hin h1 hp ih
 |nV v=>exact .nV v
def Av (m:Nat→St) (A:Nat→Prop):Nat→Prop:=fun b=>A b∨∃id,m id=.at b
inductive Rd [Bk] [Ev] (m:Nat→St) (A:Nat→Prop) (w:World):AV→Value→Prop
 |pure (x:AV) (v:Value) (h:dG (Av m A) w x v):Rd m A w x v
 |agg (cs:List AV) (vs:Array Value) (hl:vs.size=cs.length) (h1:∀(i:Nat) (x:AV),cs[i]?=some x→x.one=true) (h:∀(i:Nat) (x:AV),cs[i]?=some x→Rd m A w x (vs.getD i Go.undef)):Rd m A w (.agg cs) (.agg vs)
 |aZ (cs:List AV) (vs:Array Value) (hl:vs.size=cs.length) (h:∀(i:Nat) (x:AV),cs[i]?=some x→Rd m A w x (vs.getD i Go.undef)):Rd m A w (.aZ cs) (.tuple vs)
 |own (T sz id i n b cap:Nat) (hm:m id=.at b) (hb:b<w.heap.size) (hn:n≤cap) (hc:cap≤maxLen) (hr:(i+cap)*sz=dV w b):Rd m A w (.own T sz id i n) (.slice (some ⟨b,i*sz,none⟩) n cap)
 |sA (T sz id i:Nat) (a:Option Addr) (hm:m id=.rW):Rd m A w (.own T sz id i 0) (.slice a 0 0)
 |uD (T sz id i n:Nat) (a:Option Addr) (n' cap:Nat) (hm:m id=.dead):Rd m A w (.own T sz id i n) (.slice a n' cap)
 |ptr (sz id i off b:Nat) (hm:m id=.at b) (hb:b<w.heap.size):Rd m A w (.ptr sz id i off) (.pointer (some ⟨b,i*sz+off,none⟩))
 |G2 (sz id i off:Nat) (a:Option Addr) (hm:m id=.dead):Rd m A w (.ptr sz id i off) (.pointer a)
 |fn (f:Fn) (xs ys:List AV) (vs us:Array Value) (hl:vs.size=xs.length) (hk:us.size=ys.length) (h:∀(i:Nat) (x:AV),xs[i]?=some x→Rd m A w x (vs.getD i Go.undef)) (g:∀(i:Nat) (x:AV),ys[i]?=some x→Rd m A w x (us.getD i Go.undef)) :
   Rd m A w (.fn f xs ys) (.func f vs us)
 |pJ (t:TypeId) (x:AV) (v:Value) (h:Rd m A w x v):Rd m A w (.pJ t x) (.iface t v)
 |DW (id b:Nat) (hm:m id=.at b):Rd m A w (.DW id) (.func (.yield b) #[] #[])
 |MS (id b:Nat) (hm:m id=.dead):Rd m A w (.DW id) (.func (.yield b) #[] #[])
 |mpv (id b:Nat) (hm:m id=.at b):Rd m A w (.mpv id) (.map (some b))
 |Se (id b:Nat) (hm:m id=.dead):Rd m A w (.mpv id) (.map (some b))
 |view (T sz id i n b cap:Nat) (hm:m id=.at b):Rd m A w (.view T sz id i n) (.slice (some ⟨b,i*sz,none⟩) n cap)
 |AT (T sz id i n:Nat) (a:Option Addr) (cap:Nat) (hm:m id=.dead):Rd m A w (.view T sz id i n) (.slice a n cap)
 |cE (T sz id:Nat) (n:Poly) (b len cap:Nat) (hm:m id=.at b) (hb:b<w.heap.size) (hl:bJ Ev.dL n=len) (hn:len≤cap) (hc:cap≤maxLen) (hr:cap*sz=dV w b):Rd m A w (.cE T sz id n) (.slice (some ⟨b,0,none⟩) len cap)
 |sG (T sz id:Nat) (n:Poly) (a:Option Addr) (hm:m id=.rW) (hn:bJ Ev.dL n=0):Rd m A w (.cE T sz id n) (.slice a 0 0)
 |sJ (T sz id:Nat) (n:Poly) (a:Option Addr) (n' cap:Nat) (hm:m id=.dead):Rd m A w (.cE T sz id n) (.slice a n' cap)
 |mC (sz id:Nat) (p:Poly) (off b:Nat) (hm:m id=.at b) (hb:b<w.heap.size):Rd m A w (.mC sz id p off) (.pointer (some ⟨b,(bJ Ev.dL p).toNat*sz+off,none⟩))
 |zX (sz id:Nat) (p:Poly) (off:Nat) (a:Option Addr) (hm:m id=.dead):Rd m A w (.mC sz id p off) (.pointer a)
theorem Rd.one [Bk] [Ev] {m:Nat→St} {A:Nat→Prop} {w:World} {x:AV} {v:Value} (h:Rd m A w x v) (h1:x.one=true):v.oneCell'=true:=by
 cases h<;>first|rfl|exact dG.one ‹_› h1|(simp[AV.one]at h1)
structure Ext (m:Nat→St) (w:World) (m':Nat→St) (w':World):Prop where
 os:w'.os=w.os
 tape:w'.tape=w.tape
 output:w'.output=w.output
 size:w.heap.size≤w'.heap.size
 at_:∀id b,m id=.at b→m' id=.at b∨m' id=.dead
 dead:∀id,m id=.dead→m' id=.dead
 rW:∀id,m id=.rW→m' id=.rW∨m' id=.dead
 un:∀b,b<w.heap.size→(∀id,m id≠.at b)→(∀id,m' id≠.at b)∧w'.heap[b]?=w.heap[b]?
 rows:∀id b,m id=.at b→m' id=.at b→dV w' b=dV w b
theorem Ext.refl [Bk] [Ev] (m:Nat→St) (w:World):Ext m w m w:=⟨rfl,rfl,rfl,Nat.le_refl _,fun _ _ h=>.inl h,fun _ h=>h,fun _ h=>.inl h,fun _ _ h=>⟨h,rfl⟩,fun _ _ _ _=>rfl⟩
theorem Ext.trans [Bk] [Ev] {m:Nat→St} {w:World} {m':Nat→St} {w':World} {m'':Nat→St} {w'':World} (h:Ext m w m' w') (k:Ext m' w' m'' w''):Ext m w m'' w'':=by
 refine⟨k.os.trans h.os,k.tape.trans h.tape,k.output.trans h.output,Nat.le_trans h.size k.size,?_,fun id hd=>k.dead id (h.dead id hd),fun id hv=>(h.rW id hv).elim (k.rW id) (fun d=>.inr (k.dead id d)),?_,?_⟩
 ·intro id b hb
  rcases h.at_ id b hb with h1|h1
  ·exact k.at_ id b h1
  ·exact .inr (k.dead id h1)
 ·intro b hb hu
  obtain⟨h1,h2⟩:=h.un b hb hu;obtain⟨k1,k2⟩:=k.un b (by have:=h.size;omega) h1
  exact⟨k1,k2.trans h2⟩
 ·intro id b h1 h2
  rcases h.at_ id b h1 with h3|h3
  ·exact(k.rows id b h3 h2).trans (h.rows id b h1 h3)
  ·rw[k.dead id h3]at h2;cases h2
theorem Rd.ext [Bk] [Ev] {m:Nat→St} {A:Nat→Prop} {w:World} {m':Nat→St} {w':World} (E:Ext m w m' w') {x:AV} {v:Value} (h:Rd m A w x v):Rd m' A w' x v:=by
 induction h with
 |pure x v h =>
  refine .pure x v (h.mono E.size fun b hb hn=>?_)
  have h2:=E.un b hb (fun id hid=>hn (.inr ⟨id,hid⟩))
  exact⟨fun k=>k.elim (fun k=>hn (.inl k)) (fun⟨id,k⟩=>h2.1 id k),h2.2⟩
 |agg cs vs hl h1 _ ih=>exact .agg cs vs hl h1 ih
 |aZ cs vs hl _ ih=>exact .aZ cs vs hl ih
 |own T sz id i n b cap hm hb hn hc hr =>
  rcases E.at_ id b hm with h|h
  ·exact .own T sz id i n b cap h (Nat.lt_of_lt_of_le hb E.size) hn hc (hr.trans (E.rows id b hm h).symm)
  ·exact .uD T sz id i n _ _ _ h
 |sA T sz id i a hm =>
  rcases E.rW id hm with h|h
  ·exact .sA T sz id i a h
  ·exact .uD T sz id i 0 a 0 0 h
 |uD T sz id i n a n' cap hm=>exact .uD T sz id i n a n' cap (E.dead id hm)
 |ptr sz id i off b hm hb =>
  rcases E.at_ id b hm with h|h
  ·exact .ptr sz id i off b h (Nat.lt_of_lt_of_le hb E.size)
  ·exact .G2 sz id i off _ h
 |G2 sz id i off a hm=>exact .G2 sz id i off a (E.dead id hm)
 |fn f xs ys vs us hl hk _ _ ih1 ih2=>exact .fn f xs ys vs us hl hk ih1 ih2
 |pJ t x v _ ih=>exact .pJ t x v ih
 |DW id b hm =>
  rcases E.at_ id b hm with h|h
  ·exact .DW id b h
  ·exact .MS id b h
 |MS id b hm=>exact .MS id b (E.dead id hm)
 |mpv id b hm =>
  rcases E.at_ id b hm with h|h
  ·exact .mpv id b h
  ·exact .Se id b h
 |Se id b hm=>exact .Se id b (E.dead id hm)
 |view T sz id i n b cap hm =>
  rcases E.at_ id b hm with h|h
  ·exact .view T sz id i n b cap h
  ·exact .AT T sz id i n _ _ h
 |AT T sz id i n a cap hm=>exact .AT T sz id i n a cap (E.dead id hm)
 |cE T sz id n b len cap hm hb hl hn hc hr =>
  rcases E.at_ id b hm with h|h
  ·exact .cE T sz id n b len cap h (Nat.lt_of_lt_of_le hb E.size) hl hn hc (hr.trans (E.rows id b hm h).symm)
  ·exact .sJ T sz id n _ _ _ h
 |sG T sz id n a hm hn =>
  rcases E.rW id hm with h|h
  ·exact .sG T sz id n a h hn
  ·exact .sJ T sz id n a 0 0 h
 |sJ T sz id n a n' cap hm=>exact .sJ T sz id n a n' cap (E.dead id hm)
 |mC sz id p off b hm hb =>
  rcases E.at_ id b hm with h|h
  ·exact .mC sz id p off b h (Nat.lt_of_lt_of_le hb E.size)
  ·exact .zX sz id p off _ h
 |zX sz id p off a hm=>exact .zX sz id p off a (E.dead id hm)
inductive LS where
 |ready|busy|done (c:Code)
def LS.st:LS→LoopState
 | .ready=>.ready
 | .busy=>.busy
 | .done _=>.done
def LS.pe:LS→Option Code
 | .done c=>some c
 |_=>none
inductive bY where
 |no|dead|cells (T sz:Nat) (aN:List (List AV))|lp (st:LS) (f:List AV) (ps:Array Tmp) (assign body:Code)
 |it (s:ByteArray) (pos:Nat)|mp (es:List (Int×AV))
 |sc (T sz base:Nat) (bG:List (Poly×List AV)) (tail:List (List AV)) (n:Poly)
def bY.aN [Bk] [Ev]:bY→Option (Nat×Nat×List (List AV))
 | .cells T sz aN=>some (T,sz,aN)
 | .sc T sz base bG tail _=>some (T,sz,rowsOf base bG tail)
 |_=>none
def mK [Bk] [Ev]:bY→Prop
 | .sc _ _ base bG tail n=>bJ Ev.dL n=((rowsOf base bG tail).length:Int)∧∀q∈bG,XL base q.1
 |_=>True
theorem mK.NV [Bk] [Ev] {B:bY} (h:B.aN=none):mK B:=by cases B<;>first|trivial|(simp[bY.aN]at h)
def bY.other:bY→Bool
 | .lp .. | .it .. | .mp ..=>true
 |_=>false
def abo [Bk] [Ev] (m:Nat→St) (A:Nat→Prop) (w:World) (b:Nat) (st:LS) (f:List AV) (ps:Array Tmp) (assign body:Code):Prop :=
 ∃L:Loop,w.heap[b]?=some (.loop L)∧L.state=st.st∧L.pending=st.pe∧L.params=ps∧L.assign=assign∧L.body=body∧L.tmps.size=f.length∧∀(i:Nat) (x:AV),f[i]?=some x→Rd m A w x (L.tmps.getD i Go.undef)
theorem abo.ext [Bk] [Ev] {m m':Nat→St} {A:Nat→Prop} {w w':World} {b:Nat} {st:LS} {f:List AV} {ps:Array Tmp} {assign body:Code} (h:abo m A w b st f ps assign body) (E:Ext m w m' w') (hb:w'.heap[b]?=w.heap[b]?):abo m' A w' b st f ps assign body:=by
 obtain⟨L,h1,h2,h3,h4,h5,h6,h7,h8⟩:=h;exact⟨L,hb.trans h1,h2,h3,h4,h5,h6,h7,fun i x hx=>(h8 i x hx).ext E⟩
def pV [Bk] [Ev] (m:Nat→St) (A:Nat→Prop) (w:World) (b:Nat):bY→Prop
 | .lp st f ps as bd=>abo m A w b st f ps as bd
 | .it s pos=>w.heap[b]?=some (.stringIter s pos)
 | .mp es=>∃(ms:Array MapEntry) (clock:Nat),w.heap[b]?=some (.map ms clock)∧ms.size=es.length∧∀(i:Nat) (k:Int) (x:AV),es[i]?=some (k,x)→∃e,ms[i]?=some e∧e.key=.int .i64 k∧Rd m A w x e.val
 |_=>False
theorem pV.ext [Bk] [Ev] {m m':Nat→St} {A:Nat→Prop} {w w':World} {b:Nat} {B:bY} (h:pV m A w b B) (E:Ext m w m' w') (hb:w'.heap[b]?=w.heap[b]?):pV m' A w' b B:=by
 cases B with
 |lp st f ps as bd=>exact abo.ext h E hb
 |it s pos=>exact hb.trans h
 |mp es =>
  obtain⟨ms,clock,h1,h2,h3⟩:=h;refine⟨ms,clock,hb.trans h1,h2,fun i k x hx=>?_⟩
  obtain⟨e,g1,g2,g3⟩:=h3 i k x hx;exact⟨e,g1,g2,g3.ext E⟩
 |_=>exact h
theorem pV.lt [Bk] [Ev] {m:Nat→St} {A:Nat→Prop} {w:World} {b:Nat} {B:bY} (h:pV m A w b B):b<w.heap.size:=by
 cases B with
 |lp st f ps as bd=>obtain⟨L,h1,-⟩:=h;exact(Array.getElem?_eq_some_iff.1 h1).1
 |it s pos=>exact(Array.getElem?_eq_some_iff.1 h).1
 |mp es=>obtain⟨ms,clock,h1,-⟩:=h;exact(Array.getElem?_eq_some_iff.1 h1).1
 |_=>exact h.elim
def GOk [Bk] (A:Nat→Prop) (w:World):Prop:=∀t∈Bk.kI,A t.1∧t.1<w.heap.size∧∀(j:Nat) (v:Int),t.2[j]?=some v→w.cell? ⟨t.1,j,none⟩=some (.int .u8 v)
theorem GOk.ext [Bk] {A:Nat→Prop} {m:Nat→St} {w:World} {m':Nat→St} {w':World} (g:GOk A w) (out:∀id b,m id=.at b→¬ A b) (E:Ext m w m' w'):GOk A w':=by
 intro t ht;obtain⟨h1,h2,h3⟩:=g t ht;have h4:=(E.un t.1 h2 fun id hid=>out id t.1 hid h1).2
 exact⟨h1,Nat.lt_of_lt_of_le h2 E.size,fun j v hv=>(World.cell?_of_block (a:=⟨t.1,j,none⟩) h4).trans (h3 j v hv)⟩
structure bW [Bk] [Ev] (m:Nat→St) (A:Nat→Prop) (h:Nat→bY) (w:World):Prop where
 out:∀id b,m id=.at b→¬ A b
 El:∀b,A b→b<w.heap.size
 no:∀id,h id=.no→m id=.no
 dead:∀id,h id=.dead→m id=.dead
 rL:∀id T sz aN,(h id).aN=some (T,sz,aN)→(m id=.rW∧aN=[])∨∃b cs,m id=.at b∧w.heap[b]?=some (.cells cs T (0,0))∧aN.length*sz≤cs.size∧(∀e∈aN,e.length=sz) ∧
  ∀(i j:Nat) (x:AV),fW aN i j=some x→x.one=true∧Rd m A w x (cs.getD (i*sz+j) Go.undef)
 inj:∀i j b,m i=.at b→m j=.at b→i=j
 kI:GOk A w
 others:∀id B,h id=B→B.other=true→∃b,m id=.at b∧pV m A w b B
 PR:∀id,mK (h id)
theorem bW.cells [Bk] [Ev] {m:Nat→St} {A:Nat→Prop} {h:Nat→bY} {w:World} (H:bW m A h w) (id T sz:Nat) (aN:List (List AV)) (hh:h id=.cells T sz aN):(m id=.rW∧aN=[])∨∃b cs,m id=.at b∧w.heap[b]?=some (.cells cs T (0,0))∧aN.length*sz≤cs.size∧(∀e∈aN,e.length=sz) ∧
  ∀(i j:Nat) (x:AV),fW aN i j=some x→x.one=true∧Rd m A w x (cs.getD (i*sz+j) Go.undef):=H.rL id T sz aN (by rw[hh];rfl)
theorem bW.loops [Bk] [Ev] {m:Nat→St} {A:Nat→Prop} {h:Nat→bY} {w:World} (H:bW m A h w) (id:Nat) (st:LS) (f:List AV) (ps:Array Tmp) (assign body:Code) (hh:h id=.lp st f ps assign body):∃b,m id=.at b∧abo m A w b st f ps assign body:=H.others id _ hh rfl
theorem bW.kX [Bk] [Ev] {m m':Nat→St} {A:Nat→Prop} {h h':Nat→bY} {w w':World} (H:bW m A h w) (E:Ext m w m' w') (k:∀id B,h' id=B→B.other=true→h id=B∧∀b,m id=.at b→m' id=.at b∧w'.heap[b]?=w.heap[b]?) :
  ∀id B,h' id=B→B.other=true→∃b,m' id=.at b∧pV m' A w' b B:=by
 intro id B hh hB;obtain⟨k1,k2⟩:=k id B hh hB;obtain⟨b,h1,h2⟩:=H.others id B k1 hB;obtain⟨k3,k4⟩:=k2 b h1;exact⟨b,k3,h2.ext E k4⟩
theorem bW.lt [Bk] [Ev] {m:Nat→St} {A:Nat→Prop} {h:Nat→bY} {w:World} (H:bW m A h w) {id b:Nat} (hb:m id=.at b):b<w.heap.size:=by
 cases hh:h id with
 |no=>rw[H.no id hh]at hb;cases hb
 |dead=>rw[H.dead id hh]at hb;cases hb
 |cells T sz aN =>
  obtain⟨h1,-⟩|⟨b',cs,h1,h2,-⟩:=H.cells id T sz aN hh
  ·rw[hb]at h1;cases h1
  rw[hb]at h1;cases h1;rcases Nat.lt_or_ge b w.heap.size with h|h
  ·exact h
  ·simp[Array.getElem?_eq_none h]at h2
 |lp st f ps assign body =>
  obtain⟨b',h1,h2⟩:=H.others id _ hh rfl;rw[hb]at h1;cases h1;exact h2.lt
 |sc T sz base bG tail n =>
  obtain⟨h1,-⟩|⟨b',cs,h1,h2,-⟩:=H.rL id T sz _ (by rw[hh];rfl)
  ·rw[hb]at h1;cases h1
  rw[hb]at h1;cases h1;exact(Array.getElem?_eq_some_iff.1 h2).1
 |it s pos =>
  obtain⟨b',h1,h2⟩:=H.others id _ hh rfl;rw[hb]at h1;cases h1;exact h2.lt
 |mp es =>
  obtain⟨b',h1,h2⟩:=H.others id _ hh rfl;rw[hb]at h1;cases h1;exact h2.lt
theorem bY.zA [Bk] [Ev] {B:bY} {t:Nat×Nat×List (List AV)} (h:B.aN=some t):B.other=false:=by cases B<;>first|rfl|(simp[bY.aN]at h)
theorem bY.uS [Bk] [Ev] {B:bY} (h:B.other=true):B.aN=none:=by cases B<;>first|rfl|(simp[bY.other]at h)
theorem bY.xZ [Bk] [Ev] {B:bY} {t:Nat×Nat×List (List AV)} (h:B.aN=some t):B≠.no∧B≠.dead:=by constructor<;>(rintro rfl;simp[bY.aN]at h)
def cJ (h:Nat→bY) (id:Nat) (b:bY):Nat→bY:=fun k=>if k=id then b else h k
theorem mR [Bk] [Ev] (h:Nat→bY) (id:Nat) (b:bY):cJ h id b id=b:=by simp[cJ]
theorem fU [Bk] [Ev] (h:Nat→bY) {id k:Nat} (b:bY) (hk:k≠id):cJ h id b k=h k:=by simp[cJ,hk]
theorem mK.set [Bk] [Ev] {h:Nat→bY} {id:Nat} {B:bY} (H:∀id,mK (h id)) (hB:mK B):∀k,mK (cJ h id B k):=by
 intro k;by_cases e:k=id
 ·rw[cJ,if_pos e];exact hB
 ·rw[cJ,if_neg e];exact H k
def sset (m:Nat→St) (id:Nat) (s:St):Nat→St:=fun k=>if k=id then s else m k
theorem gU [Bk] [Ev] {aN:List (List AV)} {sz i j:Nat} {x:AV} (h:fW aN i j=some x) (hsz:∀e∈aN,e.length=sz):i<aN.length∧j<sz∧i*sz+j<aN.length*sz:=by
 unfold fW at h;cases he:aN[i]? with
 |none=>rw[he]at h;cases h
 |some e =>
  rw[he]at h;simp only[Option.bind_some]at h;have h1:i<aN.length:=(List.getElem?_eq_some_iff.1 he).1
  have h2:j<e.length:=(List.getElem?_eq_some_iff.1 h).1
  have h3:e.length=sz:=hsz e (List.mem_of_getElem? he)
  refine⟨h1,by omega,?_⟩
  have:(i+1)*sz≤aN.length*sz:=Nat.mul_le_mul_right _ h1
  rw[Nat.succ_mul]at this;omega
theorem bW.block [Bk] [Ev] {m:Nat→St} {A:Nat→Prop} {h:Nat→bY} {w:World} (H:bW m A h w) {id T sz i:Nat} {aN:List (List AV)} {e:List AV} (hh:h id=.cells T sz aN) (he:aN[i]?=some e) :
  ∃b cs,m id=.at b∧w.heap[b]?=some (.cells cs T (0,0))∧aN.length*sz≤cs.size∧(∀e∈aN,e.length=sz)∧∀(i j:Nat) (x:AV),fW aN i j=some x→x.one=true∧Rd m A w x (cs.getD (i*sz+j) Go.undef):=by
 obtain⟨-,rfl⟩|h:=H.cells id T sz aN hh
 ·simp at he
 ·exact h
theorem Ext.xP [Bk] [Ev] {m:Nat→St} {A:Nat→Prop} {h:Nat→bY} {w w':World} (H:bW m A h w) (g:Below w.heap.size w w'):Ext m w m w':=by
 have hr:∀b,b<w.heap.size→w'.heap[b]?=w.heap[b]?:=g.block
 exact⟨g.os,g.tape,g.output,g.size,fun _ _ h=>.inl h,fun _ h=>h,fun _ h=>.inl h,fun b hb hu=>⟨hu,hr b hb⟩,fun id b h1 h2=>by simp[dV,hr b (H.lt h1)]⟩
theorem bW.below [Bk] [Ev] {m:Nat→St} {A:Nat→Prop} {h:Nat→bY} {w w':World} (H:bW m A h w) (g:Below w.heap.size w w'):bW m A h w':=by
 have E:=Ext.xP H g;refine⟨H.out,fun b hb=>by have:=H.El b hb;have:=g.size;omega,H.no,H.dead,?_,H.inj,H.kI.ext H.out E,H.kX E fun id B hh hB=>⟨hh,fun b hb=>⟨hb,g.block b (H.lt hb)⟩⟩,H.PR⟩
 intro id T sz aN hh;obtain hv|⟨b,cs,h1,h2,h3,h4,h5⟩:=H.rL id T sz aN hh
 ·exact .inl hv
 exact .inr ⟨b,cs,h1,(g.block b (H.lt h1)).trans h2,h3,h4,fun i j x hx=>⟨(h5 i j x hx).1,(h5 i j x hx).2.ext E⟩⟩
theorem bW.aed [Bk] [Ev] {m:Nat→St} {A:Nat→Prop} {h:Nat→bY} {w:World} (H:bW m A h w) {id T sz:Nat} {aN:List (List AV)} {cs:Array Value} {B:bY} (hB:B.aN=some (T,sz,aN)) (hS:mK B) (hid:h id=.no) (h3:aN.length*sz≤cs.size) (h4:∀e∈aN,e.length=sz)
  (h5:∀(i j:Nat) (x:AV),fW aN i j=some x→x.one=true∧Rd m A w x (cs.getD (i*sz+j) Go.undef)) :
  bW (sset m id (.at w.heap.size)) A (cJ h id B) (w.alloc (.cells cs T))∧Ext m w (sset m id (.at w.heap.size)) (w.alloc (.cells cs T)):=by
 have hmid:=H.no id hid;have hlt:∀k b,m k=.at b→b<w.heap.size:=fun k b hb=>H.lt hb
 have hold:∀b,b<w.heap.size→(w.alloc (.cells cs T)).heap[b]?=w.heap[b]?:=fun b hb=>by
  show(w.heap.push _)[b]?=_
  rw[Array.getElem?_push,if_neg (by omega)]
 have E:Ext m w (sset m id (.at w.heap.size)) (w.alloc (.cells cs T)):=by
  refine⟨rfl,rfl,rfl,by simp,?_,?_,?_,?_,?_⟩
  ·intro k b hb
   refine .inl ?_
   unfold sset;rw[if_neg]
   ·exact hb
   ·rintro rfl;rw[hmid]at hb;cases hb
  ·intro k hk
   unfold sset;rw[if_neg]
   ·exact hk
   ·rintro rfl;rw[hmid]at hk;cases hk
  ·intro k hk
   refine .inl ?_
   unfold sset;rw[if_neg]
   ·exact hk
   ·rintro rfl;rw[hmid]at hk;cases hk
  ·intro b hb hu
   refine⟨?_,hold b hb⟩
   intro k;unfold sset;split
   ·intro e;cases e;omega
   ·exact hu k
  ·intro k b h1 h2
   simp[dV,hold b (hlt k b h1)]
 refine⟨⟨?_,fun b hb=>by have:=H.El b hb;simp;omega,?_,?_,?_,?_,H.kI.ext H.out E,H.kX E fun id' B1 hh hB1=>?_,mK.set H.PR hS⟩,E⟩
 ·intro k b hk hA
  unfold sset at hk;split at hk
  ·cases hk;have:=H.El _ hA;omega
  ·exact H.out k b hk hA
 ·intro k hk
  unfold cJ at hk;unfold sset
  split at hk
  ·exact absurd hk (bY.xZ hB).1
  ·rename_i hne;rw[if_neg hne];exact H.no k hk
 ·intro k hk
  unfold cJ at hk;unfold sset
  split at hk
  ·exact absurd hk (bY.xZ hB).2
  ·rename_i hne;rw[if_neg hne];exact H.dead k hk
 ·intro k T' sz' els' hk
  unfold cJ at hk;split at hk
  ·rename_i he
   rw[hB]at hk;cases hk;subst he;refine .inr ⟨w.heap.size,cs,by simp[sset],?_,h3,h4,fun i j x hx=>⟨(h5 i j x hx).1,(h5 i j x hx).2.ext E⟩⟩
   show(w.heap.push _)[w.heap.size]?=_
   simp
  ·rename_i hne
   obtain⟨g1,g2⟩|⟨b,cs',g1,g2,g3,g4,g5⟩:=H.rL k T' sz' els' hk
   ·exact .inl ⟨by simp[sset,hne,g1],g2⟩
   refine .inr ⟨b,cs',by simp[sset,hne,g1],?_,g3,g4,fun i j x hx=>⟨(g5 i j x hx).1,(g5 i j x hx).2.ext E⟩⟩
   rw[hold b (hlt k b g1)];exact g2
 ·intro i j b hi hj
  unfold sset at hi hj;split at hi<;>split at hj
  ·rename_i a c;rw[a,c]
  ·cases hi;have:=hlt j _ hj;omega
  ·cases hj;have:=hlt i _ hi;omega
  ·exact H.inj i j b hi hj
 ·unfold cJ at hh
  split at hh
  ·subst hh;rw[bY.zA hB]at hB1;cases hB1
  ·rename_i hne
   exact⟨hh,fun b hb=>⟨by simp[sset,hne,hb],hold b (hlt id' b hb)⟩⟩
theorem bW.alloc [Bk] [Ev] {m:Nat→St} {A:Nat→Prop} {h:Nat→bY} {w:World} (H:bW m A h w) {id T sz:Nat} {aN:List (List AV)} {cs:Array Value} (hid:h id=.no) (h3:aN.length*sz≤cs.size) (h4:∀e∈aN,e.length=sz)
  (h5:∀(i j:Nat) (x:AV),fW aN i j=some x→x.one=true∧Rd m A w x (cs.getD (i*sz+j) Go.undef)) :
  bW (sset m id (.at w.heap.size)) A (cJ h id (.cells T sz aN)) (w.alloc (.cells cs T))∧Ext m w (sset m id (.at w.heap.size)) (w.alloc (.cells cs T)) :=
 H.aed rfl trivial hid h3 h4 h5
theorem bW.abt [Bk] [Ev] {m:Nat→St} {A:Nat→Prop} {h:Nat→bY} {w w':World} (H:bW m A h w) {id T sz b:Nat} {els':List (List AV)} {cs cs':Array Value} {B:bY} (hB:B.aN=some (T,sz,els')) (hS:mK B) (hb:m id=.at b)
  (hw:w'.heap[b]?=some (.cells cs' T (0,0))) (hw0:w.heap[b]?=some (.cells cs T (0,0))) (hsz:cs'.size=cs.size) (hoth:∀k,k≠b→w'.heap[k]?=w.heap[k]?) (hos:w'.os=w.os) (ht:w'.tape=w.tape) (ho:w'.output=w.output) (hsize:w'.heap.size=w.heap.size)
  (h3:els'.length*sz≤cs'.size) (h4:∀e∈els',e.length=sz) (h5:∀(i j:Nat) (x:AV),fW els' i j=some x→x.one=true∧Rd m A w x (cs'.getD (i*sz+j) Go.undef)) :
  bW m A (cJ h id B) w'∧Ext m w m w':=by
 have E:Ext m w m w':=by
  refine⟨hos,ht,ho,by omega,fun _ _ h=>.inl h,fun _ h=>h,fun _ h=>.inl h,?_,?_⟩
  ·intro k hk hu
   exact⟨hu,hoth k (by rintro rfl;exact hu id hb)⟩
  ·intro id' k hk1 hk2
   by_cases e:k=b
   ·subst e;simp[dV,hw,hw0,hsz]
   ·simp[dV,hoth k e]
 refine⟨⟨H.out,fun b hb=>by have:=H.El b hb;omega,?_,?_,?_,H.inj,H.kI.ext H.out E,H.kX E fun id' B1 hh hB1=>?_,mK.set H.PR hS⟩,E⟩
 ·intro k hk
  unfold cJ at hk;split at hk
  ·exact absurd hk (bY.xZ hB).1
  ·exact H.no k hk
 ·intro k hk
  unfold cJ at hk;split at hk
  ·exact absurd hk (bY.xZ hB).2
  ·exact H.dead k hk
 ·intro k T' sz' els'' hk
  unfold cJ at hk;split at hk
  ·rename_i he
   rw[hB]at hk;cases hk;subst he;exact .inr ⟨b,cs',hb,hw,h3,h4,fun i j x hx=>⟨(h5 i j x hx).1,(h5 i j x hx).2.ext E⟩⟩
  ·rename_i hne
   obtain g|⟨b',cs'',g1,g2,g3,g4,g5⟩:=H.rL k T' sz' els'' hk
   ·exact .inl g
   refine .inr ⟨b',cs'',g1,?_,g3,g4,fun i j x hx=>⟨(g5 i j x hx).1,(g5 i j x hx).2.ext E⟩⟩
   rw[hoth b' (by rintro rfl;exact hne (H.inj k id b' g1 hb))]
   exact g2
 ·unfold cJ at hh
  split at hh
  ·subst hh;rw[bY.zA hB]at hB1;cases hB1
  ·rename_i hne
   exact⟨hh,fun k hk=>⟨hk,hoth k (by rintro rfl;exact hne (H.inj id' id k hk hb))⟩⟩
theorem bW.write [Bk] [Ev] {m:Nat→St} {A:Nat→Prop} {h:Nat→bY} {w w':World} (H:bW m A h w) {id T sz b:Nat} {aN els':List (List AV)} {cs cs':Array Value} (hid:h id=.cells T sz aN) (hb:m id=.at b)
  (hw:w'.heap[b]?=some (.cells cs' T (0,0))) (hw0:w.heap[b]?=some (.cells cs T (0,0))) (hsz:cs'.size=cs.size) (hoth:∀k,k≠b→w'.heap[k]?=w.heap[k]?) (hos:w'.os=w.os) (ht:w'.tape=w.tape) (ho:w'.output=w.output) (hsize:w'.heap.size=w.heap.size)
  (h3:els'.length*sz≤cs'.size) (h4:∀e∈els',e.length=sz) (h5:∀(i j:Nat) (x:AV),fW els' i j=some x→x.one=true∧Rd m A w x (cs'.getD (i*sz+j) Go.undef)) :
  bW m A (cJ h id (.cells T sz els')) w'∧Ext m w m w' :=
 H.abt rfl trivial hb hw hw0 hsz hoth hos ht ho hsize h3 h4 h5
theorem bW.drew [Bk] [Ev] {m:Nat→St} {A:Nat→Prop} {h:Nat→bY} {w:World} (H:bW m A h w):bW m A h w.drew∧Ext m w m w.drew:=by
 have b:Below w.heap.size w w.drew:=(Below.refl _ _).drew
 exact⟨H.below b,Ext.xP H b⟩
theorem pT {aN:List (List AV)} {g:AV→AV} (i j:Nat):fW (aN.map (·.map g)) i j=(fW aN i j).map g:=by
 unfold fW;rw[List.getElem?_map];cases aN[i]? with
 |none=>rfl
 |some e=>simp
theorem oG {aN:List (List AV)} {i j:Nat} {x:AV} (h:fW aN i j=some x):∃e∈aN,x∈e:=by
 unfold fW at h;cases he:aN[i]? with
 |none=>rw[he]at h;cases h
 |some e =>
  rw[he]at h;exact⟨e,List.mem_of_getElem? he,List.mem_of_getElem? h⟩
theorem nJ [Bk] [Ev]:∀(k:Nat) (x:AV),(den k x).one=x.one
 |0,x=>rfl
 |k+1,x=>by
  cases x<;>first|rfl|exact Ev.val_one _
theorem dG.Sm [Bk] [Ev] {A:Nat→Prop} {w:World} {g:AV→AV} {sz:Nat} {aN:List (List AV)} (hg:∀e∈aN,∀x∈e,∀v,dG A w x v→dG A w (g x) v) (h1:∀x,(g x).one=x.one) {v:Value} (h:dG A w (.lit sz aN) v):dG A w (.lit sz (aN.map (·.map g))) v:=by
 generalize hy:AV.lit sz aN=y at h
 cases h with
 |lit s es b off cap vs hA hb hc hsz h1' hv hr =>
  cases hy;have hlen:(aN.map (·.map g)).length=aN.length:=by simp
  rw[←hlen]at hc ⊢;refine .lit sz _ b off cap vs hA hb hc ?_ ?_ ?_ ?_
  ·intro e he
   obtain⟨e',he',rfl⟩:=List.mem_map.1 he;rw[List.length_map];exact hsz e' he'
  ·intro i j x hx
   rw[pT]at hx;obtain⟨y,hy,rfl⟩:=Option.map_eq_some_iff.1 hx;rw[h1];exact h1' i j y hy
  ·intro i j x hx
   rw[pT]at hx;obtain⟨y,hy,rfl⟩:=Option.map_eq_some_iff.1 hx;exact hv i j y hy
  ·intro i j x hx
   rw[pT]at hx;obtain⟨y,hy,rfl⟩:=Option.map_eq_some_iff.1 hx;obtain⟨e,he,hye⟩:=oG hy;exact hg e he y hye _ (hr i j y hy)
 |nG s a cap hm =>
  cases hy;exact .nG sz a cap hm
 |_=>cases hy
theorem dG.adn [Bk] [Ev] {A:Nat→Prop} {w:World} {g:AV→AV} {sz:Nat} {aN:List (List AV)} (hg:∀e∈aN,∀x∈e,∀v,dG A w (g x) v→dG A w x v) (h1:∀x,(g x).one=x.one) {v:Value} (h:dG A w (.lit sz (aN.map (·.map g))) v):dG A w (.lit sz aN) v:=by
 generalize hy:AV.lit sz (aN.map (·.map g))=y at h
 cases h with
 |lit s es b off cap vs hA hb hc hsz h1' hv hr =>
  cases hy;have hlen:(aN.map (·.map g)).length=aN.length:=by simp
  rw[hlen]at hc ⊢;refine .lit sz aN b off cap vs hA hb hc ?_ ?_ ?_ ?_
  ·intro e he
   have:=hsz (e.map g) (List.mem_map_of_mem he)
   simpa using this
  ·intro i j x hx
   have:=h1' i j (g x) (by rw[pT,hx];rfl)
   rwa[h1]at this
  ·intro i j x hx
   exact hv i j (g x) (by rw[pT,hx];rfl)
  ·intro i j x hx
   obtain⟨e,he,hye⟩:=oG hx;exact hg e he x hye _ (hr i j (g x) (by rw[pT,hx];rfl))
 |nG s a cap hm =>
  injection hy with e1 e2
  rw[List.map_eq_nil_iff]at e2;subst e2;exact .nG sz a cap hm
 |_=>cases hy
theorem dG.ais [Bk] [Ev] {A:Nat→Prop} {w:World} {g:AV→AV} {cs:List AV} (hg:∀x∈cs,∀v,dG A w x v→dG A w (g x) v) (h1:∀x,(g x).one=x.one) {v:Value} (h:dG A w (.agg cs) v):dG A w (.agg (cs.map g)) v:=by
 cases h with
 |agg _ vs hl h1' hr =>
  refine .agg _ vs (by simpa using hl) ?_ ?_
  ·intro i x hx
   rw[List.getElem?_map]at hx;obtain⟨y,hy,rfl⟩:=Option.map_eq_some_iff.1 hx;rw[h1];exact h1' i y hy
  ·intro i x hx
   rw[List.getElem?_map]at hx;obtain⟨y,hy,rfl⟩:=Option.map_eq_some_iff.1 hx;exact hg y (List.mem_of_getElem? hy) _ (hr i y hy)
theorem dG.ait [Bk] [Ev] {A:Nat→Prop} {w:World} {g:AV→AV} {cs:List AV} (hg:∀x∈cs,∀v,dG A w (g x) v→dG A w x v) (h1:∀x,(g x).one=x.one) {v:Value} (h:dG A w (.agg (cs.map g)) v):dG A w (.agg cs) v:=by
 cases h with
 |agg _ vs hl h1' hr =>
  refine .agg cs vs (by simpa using hl) ?_ ?_
  ·intro i x hx
   have:=h1' i (g x) (by rw[List.getElem?_map,hx];rfl)
   rwa[h1]at this
  ·intro i x hx
   exact hg x (List.mem_of_getElem? hx) _ (hr i (g x) (by rw[List.getElem?_map,hx];rfl))
theorem dG.ag4 [Bk] [Ev] {A:Nat→Prop} {w:World} {g:AV→AV} {cs:List AV} (hg:∀x∈cs,∀v,dG A w x v→dG A w (g x) v) {v:Value} (h:dG A w (.aZ cs) v):dG A w (.aZ (cs.map g)) v:=by
 cases h with
 |aZ _ vs hl hr =>
  refine .aZ _ vs (by simpa using hl) ?_
  intro i x hx;rw[List.getElem?_map]at hx;obtain⟨y,hy,rfl⟩:=Option.map_eq_some_iff.1 hx;exact hg y (List.mem_of_getElem? hy) _ (hr i y hy)
theorem dG.ag5 [Bk] [Ev] {A:Nat→Prop} {w:World} {g:AV→AV} {cs:List AV} (hg:∀x∈cs,∀v,dG A w (g x) v→dG A w x v) {v:Value} (h:dG A w (.aZ (cs.map g)) v):dG A w (.aZ cs) v:=by
 cases h with
 |aZ _ vs hl hr =>
  refine .aZ cs vs (by simpa using hl) ?_
  intro i x hx;exact hg x (List.mem_of_getElem? hx) _ (hr i (g x) (by rw[List.getElem?_map,hx];rfl))
theorem dG.FQ [Bk] [Ev] {A:Nat→Prop} {w:World}:∀(k:Nat) (x:AV) (v:Value),dG A w x v→dG A w (den k x) v
 |0,x,v,h=>h
 |k+1,x,v,h=>by
  have ih:∀(x:AV) (v:Value),dG A w x v→dG A w (den k x) v:=dG.FQ k
  cases h with
  |e p =>
   have:den (k+1) (.e p)=.c (.int .i64 (bJ Ev.dL p)):=by rw[←uG];rfl
   rw[this];exact .c _
  |o i=>exact .c _
  |agg cs vs hl h1 hr=>exact dG.ais (fun x _=>ih x) (nJ k) (.agg cs vs hl h1 hr)
  |aZ cs vs hl hr=>exact dG.ag4 (fun x _=>ih x) (.aZ cs vs hl hr)
  |lit sz aN b off cap vs hA hb hc hsz h1 hv hr=>exact dG.Sm (fun e _ x _=>ih x) (nJ k) (.lit sz aN b off cap vs hA hb hc hsz h1 hv hr)
  |nG sz a cap hm=>exact dG.Sm (fun e _ x _=>ih x) (nJ k) (.nG sz a cap hm)
  |seq sz base bG tail v hin h1 hr=>rw[Xr];exact dG.Sm (fun e _ x _=>ih x) (nJ k) hr
  |pJ t x v hr=>exact .pJ t _ v (ih x v hr)
  |c v=>exact .c v
  |undef=>exact .undef
  |emp a=>exact .emp a
  |gT sz aN i0 j0 b off vs hA hb hsz h1 hv hr=>exact .gT sz aN i0 j0 b off vs hA hb hsz h1 hv hr
  |fn f xs ys vs us hl hk h g=>exact .fn f xs ys vs us hl hk h g
  |row n xs b off len cap hn hc hA hb hv=>exact .row n xs b off len cap hn hc hA hb hv
  |I8 n xs a cap hn=>exact .I8 n xs a cap hn
  |any v h1=>exact .any v h1
  |tY sz base bG tail p off v hin h1 hp hr=>exact .tY sz base bG tail p off v hin h1 hp hr
  |nV v=>exact .nV v
theorem dG.Cj [Bk] [Ev] {A:Nat→Prop} {w:World}:∀(k:Nat) (x:AV) (v:Value),lA k x=true→dG A w (den k x) v→dG A w x v
 |0,x,v,_,h=>h
 |k+1,x,v,hu,h=>by
  have ih:∀(x:AV),lA k x=true→∀(v:Value),dG A w (den k x) v→dG A w x v:=fun x hu v=>dG.Cj k x v hu
  cases x with
  |e p =>
   have h:dG A w (.c (.int .i64 (PS Ev.dL p))) v:=h
   rw[uG]at h;cases h;exact .e p
  |o i =>
   have h:dG A w (.c (Ev.val i)) v:=h
   cases h;exact .o i
  |agg cs=>exact dG.ait (fun x hx=>ih x (List.all_eq_true.1 hu x hx)) (nJ k) h
  |aZ cs=>exact dG.ag5 (fun x hx=>ih x (List.all_eq_true.1 hu x hx)) h
  |lit sz aN=>exact dG.adn (fun e he x hx=>ih x (List.all_eq_true.1 (List.all_eq_true.1 hu e he) x hx)) (nJ k) h
  |seq sz base bG tail =>
   simp only[lA,Bool.and_eq_true,List.isEmpty_iff]at hu;obtain⟨rfl,hu⟩:=hu;rw[Xr]at h;refine .seq sz base [] tail v (fun q hq=>absurd hq List.not_mem_nil) (h.one rfl) (dG.adn (fun e he x hx=>?_) (nJ k) h)
   unfold rowsOf at he;rw[List.foldl_nil]at he;rcases List.mem_append.1 he with he|he
   ·intro v hv
    have e1:den k x=x:=(Ev.uA base e he x hx).den k
    rw[e1]at hv;exact hv
   ·exact ih x (List.all_eq_true.1 (List.all_eq_true.1 hu e he) x hx)
  |pJ t y =>
   have hd:dG A w (.pJ t (den k y)) v:=h
   cases hd with|pJ _ _ u hr=>exact .pJ t y u (ih y hu u hr)
  |_=>exact h
theorem dG.cl {b1:Bk} {e1:@Ev b1} {b2:Bk} {e2:@Ev b2} {A:Nat→Prop} {w:World} {x:AV} (hx:Cl x):∀{v:Value},@dG b1 e1 A w x v→@dG b2 e2 A w x v:=by
 induction hx with
 |c u=>intro v h;cases h;exact .c u
 |undef=>intro v h;cases h;exact .undef
 |emp=>intro v h;cases h;exact .emp _
 |any=>intro v h;cases h with|any v h1=>exact .any v h1
 |agg cs hc ih =>
  intro v h;cases h with
  |agg _ vs hl h1 hr=>exact .agg cs vs hl h1 fun i x hx=>ih x (List.mem_of_getElem? hx) (hr i x hx)
 |aZ cs hc ih =>
  intro v h;cases h with
  |aZ _ vs hl hr=>exact .aZ cs vs hl fun i x hx=>ih x (List.mem_of_getElem? hx) (hr i x hx)
 |lit sz aN hc ih =>
  intro v h;cases h with
  |lit _ _ b off cap vs hA hb hc hsz h1 hv hr =>
   refine .lit sz aN b off cap vs hA hb hc hsz h1 hv fun i j x hx=>?_
   obtain⟨e,he,hxe⟩:=oG hx;exact ih e he x hxe (hr i j x hx)
  |nG _ a cap hm=>exact .nG sz a cap hm
 |pJ t x hx ih =>
  intro v h;cases h with|pJ _ _ v h=>exact .pJ t x v (ih h)
theorem Rd.cl [Bk] [Ev] {m:Nat→St} {A:Nat→Prop} {w:World} {x:AV} (hx:Cl x):∀{v:Value},Rd m A w x v→dG (Av m A) w x v:=by
 induction hx with
 |agg cs hc ih =>
  intro v h;cases h with
  |pure _ _ h=>exact h
  |agg _ vs hl h1 hr=>exact .agg cs vs hl h1 fun i x hx=>ih x (List.mem_of_getElem? hx) (hr i x hx)
 |aZ cs hc ih =>
  intro v h;cases h with
  |pure _ _ h=>exact h
  |aZ _ vs hl hr=>exact .aZ cs vs hl fun i x hx=>ih x (List.mem_of_getElem? hx) (hr i x hx)
 |pJ t x hx ih =>
  intro v h;cases h with
  |pure _ _ h=>exact h
  |pJ _ _ v h=>exact .pJ t x v (ih h)
 |_=>intro v h;cases h with|pure _ _ h=>exact h
def PZ [Bk] (p:Poly):List (Poly×List AV)→Option (Option (List AV))
 |[]=>some none
 |q::l=>match PZ p l with
  |some (some r)=>some (some r)
  |none=>none
  |some none=>if q.1=p then some (some q.2)else match eqB (pM q.1 p)with
    |some true=>some (some q.2)
    |some false=>some none
    |none=>none
def XB (base:Nat) (p:Poly):List (Nat×Poly×List AV)→Option (List AV)
 |[]=>none
 |t::l=>if t.1=base∧t.2.1=p then some t.2.2 else XB base p l
def lenOf (base:Nat):List (Nat×Poly)→Option Poly
 |[]=>none
 |t::l=>if t.1=base then some t.2 else lenOf base l
def aft:Poly→Option Nat
 |[]=>some 0
 |[([],n)]=>if 0≤n then some n.toNat else none
 |_=>none
def rowAt [Bk] (base:Nat) (bG:List (Poly×List AV)) (tail:List (List AV)) (p:Poly):Option (List AV) :=
 match PZ p bG with
 |none=>none
 |some (some r)=>some r
 |some none=>match XB base p Bk.kT with
  |some r=>some r
  |none=>match lenOf base Bk.lens with
   |some n=>(aft (pM p n)).bind fun k=>tail[k]?
   |none=>none
theorem Pl {base:Nat} {p:Poly} {r:List AV}:∀{l:List (Nat×Poly×List AV)},XB base p l=some r→(base,p,r)∈l
 |[],h=>by cases h
 |t::l,h=>by
  unfold XB at h;split at h
  ·rename_i e
   cases h;obtain⟨rfl,rfl⟩:=e;exact List.mem_cons_self
  ·exact List.mem_cons_of_mem _ (Pl h)
theorem Om {base:Nat} {n:Poly}:∀{l:List (Nat×Poly)},lenOf base l=some n→(base,n)∈l
 |[],h=>by cases h
 |t::l,h=>by
  unfold lenOf at h;split at h
  ·rename_i e
   cases h;subst e;exact List.mem_cons_self
  ·exact List.mem_cons_of_mem _ (Om h)
theorem yW [Bk] [Ev] {base:Nat} {n:Poly} (h:lenOf base Bk.lens=some n):((Ev.seq base).length:Int)=bJ Ev.dL n:=Ev.ahJ _ (Om h)
theorem TW {ρ:Nat→Int} {p:Poly} {k:Nat} (h:aft p=some k):bJ ρ p=(k:Int):=by
 unfold aft at h;split at h
 ·cases h;rfl
 ·split at h
  ·cases h
   simp only[bJ,lG];omega
  ·cases h
 ·cases h
def Td [Bk] [Ev] (x y:AV):Prop:=x=y∨(x=den 12 y∧Cl x∧lA 12 y=true)
def IK [Bk] [Ev] (r0 r:List AV):Prop:=r0.length=r.length∧∀(j:Nat) (y:AV),r[j]?=some y→∃x,r0[j]?=some x∧Td x y
theorem IK.refl [Bk] [Ev] (r:List AV):IK r r:=⟨rfl,fun j y h=>⟨y,h,.inl rfl⟩⟩
theorem Td.one [Bk] [Ev] {x y:AV} (h:Td x y):x.one=y.one:=by
 rcases h with rfl|⟨rfl,-⟩
 ·rfl
 ·exact nJ 12 y
theorem Td.rdL [Bk] [Ev] {A:Nat→Prop} {w:World} {x y:AV} {v:Value} (h:Td x y) (hr:dG A w x v):dG A w y v:=by
 rcases h with rfl|⟨rfl,-,hu⟩
 ·exact hr
 ·exact dG.Cj 12 y v hu hr
theorem Td.rd [Bk] [Ev] {m:Nat→St} {A:Nat→Prop} {w:World} {x y:AV} {v:Value} (h:Td x y) (hr:Rd m A w x v):Rd m A w y v:=by
 rcases h with rfl|⟨rfl,hc,hu⟩
 ·exact hr
 ·exact .pure _ _ (dG.Cj 12 y v hu (hr.cl hc))
theorem E8 [Bk] [Ev]:∀(bG:List (Poly×List AV)) (l:List (List AV)) (i:Nat),(∀q∈bG,(bJ Ev.dL q.1).toNat≠i)→(bG.foldl (fun l q=>l.set (bJ Ev.dL q.1).toNat q.2) l)[i]?=l[i]?
 |[],l,i,_=>rfl
 |q::bG,l,i,h=>by
  rw[List.foldl_cons,E8 bG _ i (fun q hq=>h q (List.mem_cons_of_mem _ hq)),List.getElem?_set_ne (h q List.mem_cons_self)]
theorem Tn [Bk] [Ev] {p:Poly} (hp:0≤bJ Ev.dL p):∀(bG:List (Poly×List AV)) (l:List (List AV)),(∀q∈bG,0≤bJ Ev.dL q.1∧(bJ Ev.dL q.1).toNat<l.length) →
  (∀r,PZ p bG=some (some r)→(bG.foldl (fun l q=>l.set (bJ Ev.dL q.1).toNat q.2) l)[(bJ Ev.dL p).toNat]?=some r)∧(PZ p bG=some none→∀q∈bG,(bJ Ev.dL q.1).toNat≠(bJ Ev.dL p).toNat)
 |[],l,_=>⟨fun r h=>(by cases h),fun _ q h=>absurd h List.not_mem_nil⟩
 |q::bG,l,hin=>by
  have hq:=hin q List.mem_cons_self;obtain⟨i1,i2⟩:=Tn hp bG (l.set (bJ Ev.dL q.1).toNat q.2) (fun q hq=>by rw[List.length_set];exact hin q (List.mem_cons_of_mem _ hq))
  have hit:∀r,PZ p bG=some none→bJ Ev.dL q.1=bJ Ev.dL p→q.2=r→((q::bG).foldl (fun l q=>l.set (bJ Ev.dL q.1).toNat q.2) l)[(bJ Ev.dL p).toNat]?=some r:=by
   intro r hn he hr;rw[List.foldl_cons,E8 bG _ _ (i2 hn),he,List.getElem?_set_self (by rw[←he];exact hq.2),hr]
  constructor
  ·intro r hr
   unfold PZ at hr;split at hr
   ·rename_i r' hu
    cases hr;rw[List.foldl_cons];exact i1 r hu
   ·cases hr
   ·rename_i hu
    split at hr
    ·rename_i e
     cases hr;exact hit _ hu (by rw[e]) rfl
    ·split at hr
     ·rename_i hb
      cases hr;have:=C7 hb
      rw[fQ]at this;have:=of_decide_eq_true this.symm
      exact hit _ hu (by omega) rfl
     ·cases hr
     ·cases hr
  ·intro hn q' hq'
   unfold PZ at hn;split at hn
   ·cases hn
   ·cases hn
   ·rename_i hu
    rcases List.mem_cons.1 hq' with rfl|hq'
    ·split at hn
     ·cases hn
     ·split at hn
      ·cases hn
      ·rename_i hb
       have:=C7 hb
       rw[fQ]at this;have:=of_decide_eq_false this.symm
       intro e;have:=hq.1;omega
      ·cases hn
    ·exact i2 hu q' hq'
theorem Ff [Bk] [Ev] {base:Nat} {bG:List (Poly×List AV)} {tail:List (List AV)} {p:Poly} {r:List AV} (hin:∀q∈bG,XL base q.1) (hp:0≤bJ Ev.dL p) (h:rowAt base bG tail p=some r) :
  ∃r0,(rowsOf base bG tail)[(bJ Ev.dL p).toNat]?=some r0∧IK r0 r:=by
 have hlen:(bG.foldl (fun l q=>l.set (bJ Ev.dL q.1).toNat q.2) (Ev.seq base)).length=(Ev.seq base).length:=by
  have:=gE base bG []
  unfold rowsOf at this;simpa using this
 obtain⟨u1,u2⟩:=Tn hp bG (Ev.seq base) hin
 unfold rowAt at h;split at h
 ·cases h
 ·rename_i r' hu
  cases h;have h1:=u1 r hu;have hlt:=(List.getElem?_eq_some_iff.1 h1).1
  exact⟨r,by unfold rowsOf;rw[List.getElem?_append_left hlt];exact h1,IK.refl r⟩
 ·rename_i hu
  have h2:=E8 bG (Ev.seq base) (bJ Ev.dL p).toNat (u2 hu)
  split at h
  ·rename_i r' ha
   cases h;have hm:=Pl ha;obtain⟨-,k2,k3⟩:=Ev.sat _ hm;have k2:(Ev.seq base)[(bJ Ev.dL p).toNat]?=some (r.map (den 12)):=k2
   have hlt:=(List.getElem?_eq_some_iff.1 k2).1
   refine⟨r.map (den 12),by unfold rowsOf;rw[List.getElem?_append_left (by rw[hlen];exact hlt),h2];exact k2,by simp,?_⟩
   intro j y hy;refine⟨den 12 y,by rw[List.getElem?_map,hy];rfl,.inr ⟨rfl,?_,?_⟩⟩
   ·exact Ev.uA base _ (List.mem_of_getElem? k2) _ (List.mem_map_of_mem (List.mem_of_getElem? hy))
   ·exact List.all_eq_true.1 k3 y (List.mem_of_getElem? hy)
  ·split at h
   ·rename_i n hn
    rw[Option.bind_eq_some_iff]at h;obtain⟨k,hk,ht⟩:=h;have e1:=yW hn;have e2:=TW (ρ:=Ev.dL) hk
    rw[fQ]at e2;refine⟨r,?_,IK.refl r⟩
    unfold rowsOf;rw[List.getElem?_append_right (by rw[hlen];omega),hlen]
    rw[←ht];congr 1;omega
   ·cases h
def Rh [Bk] (base:Nat) (bG:List (Poly×List AV)) (tail:List (List AV)) (p:Poly) (r:List AV):Option (List (Poly×List AV)×List (List AV)) :=
 match lenOf base Bk.lens with
 |some n=>match aft (pM p n)with
  |some k=>if k<tail.length then some (bG,tail.set k r)else none
  |none=>if Oe p=some false∧Oe (pM p n)=some true then
    match bG.getLast? with
    |some q=>if q.1=p then some (bG.dropLast++[(p,r)],tail)else some (bG++[(p,r)],tail)
    |none=>some ([(p,r)],tail)
   else none
 |none=>none
theorem aag [Bk] [Ev] {base:Nat} {bG ups':List (Poly×List AV)} {tail tail':List (List AV)} {p:Poly} {r:List AV} (hin:∀q∈bG,XL base q.1) (h:Rh base bG tail p r=some (ups',tail')) :
  rowsOf base ups' tail'=(rowsOf base bG tail).set (bJ Ev.dL p).toNat r∧(∀q∈ups',XL base q.1)∧0≤bJ Ev.dL p:=by
 have hlen:(bG.foldl (fun l q=>l.set (bJ Ev.dL q.1).toNat q.2) (Ev.seq base)).length=(Ev.seq base).length:=by
  have:=gE base bG []
  unfold rowsOf at this;simpa using this
 unfold Rh at h;split at h
 ·rename_i n hn
  have e1:=yW hn;split at h
  ·rename_i k hk
   split at h
   ·rename_i hlt
    cases h;have e2:=TW (ρ:=Ev.dL) hk
    rw[fQ]at e2;refine⟨?_,hin,by omega⟩
    unfold rowsOf;rw[List.set_append_right _ _ (by rw[hlen];omega),hlen]
    congr 2;omega
   ·cases h
  ·split at h
   ·rename_i hc
    have c1:=nU hc.1;have c1:=of_decide_eq_false c1.symm;have c2:=nU hc.2;have c2:=of_decide_eq_true c2.symm;rw[fQ]at c2;have hp:XL base p:=⟨by omega,by omega⟩
    have app:∀us:List (Poly×List AV),(us.foldl (fun l q=>l.set (bJ Ev.dL q.1).toNat q.2) (Ev.seq base)).length=(Ev.seq base).length:=by
     intro us;have:=gE base us []
     unfold rowsOf at this;simpa using this
    have add:∀us:List (Poly×List AV),rowsOf base (us++[(p,r)]) tail=(rowsOf base us tail).set (bJ Ev.dL p).toNat r:=by
     intro us;unfold rowsOf;rw[List.foldl_append,List.set_append_left _ _ (by rw[app us];exact hp.2)]
     rfl
    split at h
    ·rename_i q hq
     split at h
     ·rename_i e
      cases h;have hd:bG=bG.dropLast++[q]:=by
       have hne:bG≠[]:=by rintro rfl;cases hq
       rw[List.getLast?_eq_some_getLast hne]at hq;cases hq;exact(List.dropLast_concat_getLast hne).symm
      refine⟨?_,?_,hp.1⟩
      ·rw[add]
       conv=>rhs;rw[hd]
       unfold rowsOf;rw[List.foldl_append,List.set_append_left _ _ (by rw[app];exact hp.2),List.set_append_left _ _ (by rw[←List.foldl_append,app];exact hp.2)]
       simp only[List.foldl_cons,List.foldl_nil,e,List.set_set]
      ·intro q' hq'
       rcases List.mem_append.1 hq' with h|h
       ·exact hin q' (by rw[hd];exact List.mem_append_left _ h)
       ·rw[List.mem_singleton]at h;subst h;exact hp
     ·cases h
      refine⟨add bG,?_,hp.1⟩
      intro q' hq';rcases List.mem_append.1 hq' with h|h
      ·exact hin q' h
      ·rw[List.mem_singleton]at h;subst h;exact hp
    ·rename_i hq
     cases h;have:bG=[]:=by simpa using hq
     subst this;refine⟨add [],?_,hp.1⟩
     intro q' hq';rw[List.mem_singleton]at hq';subst hq';exact hp
   ·cases h
 ·cases h
def NX:Value→AV
 | .slice none 0 0=>.emp
 |v=>.c v
def G8:Value→AV
 | .agg vs=>if vs.all Value.oneCell' then .agg (vs.toList.map NX)else .c (.agg vs)
 |v=>NX v
theorem PI [Bk] [Ev] (A:Nat→Prop) (w:World) (v:Value):dG A w (NX v) v:=by
 unfold NX;split
 ·exact .emp _
 ·exact .c _
theorem ac5 [Bk] [Ev] (v:Value) (h:v.oneCell'=true):(NX v).one=true:=by
 unfold NX;split
 ·rfl
 ·exact h
theorem getD_map [Bk] [Ev] {α β:Type} (l:Array α) (f:α→β) (i:Nat) (x:β) (d:α) (h:(l.toList.map f)[i]?=some x):f (l.getD i d)=x:=by
 rw[List.getElem?_map]at h;cases hl:l.toList[i]? with
 |none=>rw[hl]at h;cases h
 |some y =>
  rw[hl]at h;simp only[Option.map_some,Option.some.injEq]at h;have:l[i]?=some y:=by rw[←Array.getElem?_toList];exact hl
  simp[this,h]
theorem wR [Bk] [Ev] (A:Nat→Prop) (w:World) (v:Value):dG A w (G8 v) v:=by
 unfold G8;split
 ·rename_i vs
  split
  ·rename_i hall
   refine .agg _ _ (by simp) ?_ ?_
   ·intro i x hx
    have h1:=getD_map vs NX i x Go.undef hx;have hi:i<vs.size:=by have:=(List.getElem?_eq_some_iff.1 hx).1;simpa using this
    rw[←h1];refine ac5 _ ?_
    have:=Array.all_eq_true.1 hall i hi
    simpa[hi]using this
   ·intro i x hx
    have h1:=getD_map vs NX i x Go.undef hx;rw[←h1];exact PI A w _
  ·exact .c _
 ·exact PI A w _
def dE (f:List AV):Operand→AV
 | .tmp t=>f.getD t .undef
 | .const v=>G8 v
 | .global g=>.c (.pointer (some ⟨g,0,none⟩))
 | .func k=>.fn (.func k) [] []
def mark (D:Nat):Deferred:={ target:=.collected D,args:=#[] }
def Marks (m:Nat→St) (w:World) (ds:List Deferred):Prop:=∃Ds:List Nat,ds=Ds.map mark∧Ds.Nodup∧∀D∈Ds,w.heap[D]?=some (.deferred (some []))∧∀id,m id≠.at D
theorem Marks.nil (m:Nat→St) (w:World):Marks m w []:=⟨[],rfl,List.nodup_nil,fun D h=>absurd h List.not_mem_nil⟩
theorem Marks.ext {m m':Nat→St} {w w':World} {ds:List Deferred} (h:Marks m w ds) (E:Ext m w m' w'):Marks m' w' ds:=by
 obtain⟨Ds,h1,h2,h3⟩:=h;refine⟨Ds,h1,h2,fun D hD=>?_⟩
 obtain⟨k1,k2⟩:=h3 D hD;have hlt:D<w.heap.size:=(Array.getElem?_eq_some_iff.1 k1).1
 obtain⟨k3,k4⟩:=E.un D hlt k2;exact⟨k4.trans k1,k3⟩
theorem Marks.push {m:Nat→St} {w:World} {ds:List Deferred} (h:Marks m w ds) {D:Nat} (hD:w.heap[D]?=some (.deferred (some []))) (hn:∀id,m id≠.at D) (hf:∀d∈ds,d≠mark D):Marks m w (mark D::ds):=by
 obtain⟨Ds,rfl,h2,h3⟩:=h;refine⟨D::Ds,rfl,List.nodup_cons.2 ⟨fun hm=>hf _ (List.mem_map_of_mem hm) rfl,h2⟩,?_⟩
 intro D' hD';rcases List.mem_cons.1 hD' with rfl|hm
 ·exact⟨hD,hn⟩
 ·exact h3 D' hm
structure lN [Bk] [Ev] (m:Nat→St) (A:Nat→Prop) (w:World) (f:List AV) (a:Act):Prop where
 size:a.tmps.size=f.length
 rd:∀(i:Nat) (x:AV),f[i]?=some x→Rd m A w x (a.tmps.getD i Go.undef)
 defers:Marks m w a.defers
theorem lN.eval [Bk] [Ev] {m:Nat→St} {A:Nat→Prop} {w:World} {f:List AV} {a:Act} (h:lN m A w f a) (o:Operand):Rd m A w (dE f o) (a.eval o):=by
 cases o with
 |tmp t =>
  simp only[dE,Act.eval];cases hf:f[t]? with
  |some x =>
   have:=h.rd t x hf
   rw[List.getD,hf];exact this
  |none =>
   have hs:a.tmps.size≤t:=by rw[h.size];exact List.getElem?_eq_none_iff.1 hf
   rw[List.getD,hf];have:a.tmps.getD t Go.undef=Go.undef:=by simp[Array.getElem?_eq_none hs]
   rw[this];exact .pure _ _ .undef
 |const v=>exact .pure _ _ (wR _ w v)
 |global g=>exact .pure _ _ (.c _)
 |func k=>exact .pure _ _ (.fn _ [] [] #[] #[] rfl rfl (by intro i x h;simp at h) (by intro i x h;simp at h))
def pE (f:List AV):Option Tmp→AV→List AV
 |none,_=>f
 |some d,v=>f.set d v
theorem lN.put [Bk] [Ev] {m m':Nat→St} {A:Nat→Prop} {w w':World} {f:List AV} {a:Act} (h:lN m A w f a) (E:Ext m w m' w') {x:AV} {v:Value} (hv:Rd m' A w' x v) (d:Option Tmp):lN m' A w' (pE f d x) (a.put d v):=by
 cases d with
 |none=>exact⟨h.size,fun i x hx=>(h.rd i x hx).ext E,h.defers.ext E⟩
 |some d =>
  refine⟨by simp[Act.put,pE,h.size],?_,h.defers.ext E⟩
  intro i y hy;simp only[pE,Act.put]at hy ⊢;rw[List.getElem?_set]at hy;split at hy
  ·rename_i e
   subst e;split at hy
   ·rename_i hl
    cases hy;have:d<a.tmps.size:=by rw[h.size];exact hl
    simp[this];exact hv
   ·cases hy
  ·rename_i e
   have:(a.tmps.setIfInBounds d v).getD i Go.undef=a.tmps.getD i Go.undef:=by
    simp[Array.getElem?_setIfInBounds_ne e]
   rw[this];exact(h.rd i y hy).ext E
theorem lN.ext [Bk] [Ev] {m m':Nat→St} {A:Nat→Prop} {w w':World} {f:List AV} {a:Act} (h:lN m A w f a) (E:Ext m w m' w'):lN m' A w' f a:=⟨h.size,fun i x hx=>(h.rd i x hx).ext E,h.defers.ext E⟩
def CR (R:AV→Value→Prop) (cs:List AV) (vs:Array Value):Prop:=vs.size=cs.length∧∀(i:Nat) (x:AV),cs[i]?=some x→x.one=true∧R x (vs.getD i Go.undef)
def gG:AV→Option (List AV)
 | .agg cs=>some cs
 |x=>if x.one then some [x]else none
theorem Value.aa2 [Bk] [Ev] {v:Value} (h:v.oneCell'=true):v.cells=#[v]:=by cases v<;>simp_all [Value.cells,Value.oneCell']
theorem lP [Bk] [Ev] {m:Nat→St} {A:Nat→Prop} {w:World} {x:AV} {v:Value} {cs:List AV} (h:Rd m A w x v) (hc:gG x=some cs):CR (Rd m A w) cs v.cells:=by
 have one:∀(x:AV) (v:Value),Rd m A w x v→x.one=true→CR (Rd m A w) [x] v.cells:=by
  intro x v h h1;rw[Value.aa2 (h.one h1)];refine⟨rfl,?_⟩
  intro i y hy;cases i with
  |zero=>simp at hy;subst hy;exact⟨h1,h⟩
  |succ i=>simp at hy
 unfold gG at hc;split at hc
 ·cases hc
  cases h with
  |pure _ _ h =>
   cases h with
   |agg _ vs hl h1 h=>exact⟨hl,fun i x hx=>⟨h1 i x hx,.pure _ _ (h i x hx)⟩⟩
  |agg _ vs hl h1 h=>exact⟨hl,fun i x hx=>⟨h1 i x hx,h i x hx⟩⟩
 ·split at hc
  ·rename_i h1
   cases hc;exact one _ _ h h1
  ·cases hc
theorem CR.agg [Bk] [Ev] {m:Nat→St} {A:Nat→Prop} {w:World} {cs:List AV} {vs:Array Value} (h:CR (Rd m A w) cs vs):Rd m A w (.agg cs) (.agg vs):=.agg cs vs h.1 (fun i x hx=>(h.2 i x hx).1) fun i x hx=>(h.2 i x hx).2
def iO {α:Type} (cs:List α) (off:Nat) (xs:List α):List α:=cs.take off++xs++cs.drop (off+xs.length)
theorem qK [Bk] [Ev] {α:Type} {cs:List α} {off:Nat} {xs:List α} (h:off+xs.length≤cs.length):(iO cs off xs).length=cs.length:=by simp[iO];omega
theorem lW [Bk] [Ev] {α:Type} {cs:List α} {off:Nat} {xs:List α} (h:off+xs.length≤cs.length) (i:Nat):(iO cs off xs)[i]?=if off≤i∧i<off+xs.length then xs[i-off]? else cs[i]?:=by
 unfold iO;by_cases h1:i<off
 ·rw[if_neg (by omega),List.append_assoc,List.getElem?_append_left (by simp;omega),List.getElem?_take];simp[h1]
 ·by_cases h2:i<off+xs.length
  ·rw[if_pos ⟨by omega,h2⟩,List.getElem?_append_left (by simp;omega),List.getElem?_append_right (by simp;omega)]
   congr 1;simp;omega
  ·rw[if_neg (by omega),List.getElem?_append_right (by simp;omega),List.getElem?_drop]
   congr 1;simp;omega
theorem foldl_set [Bk] [Ev] (us:List Value):∀(j0 off:Nat) (vs:Array Value),off+j0+us.length≤vs.size→((us.zipIdx j0).foldl (fun cs (c,j)=>cs.setIfInBounds (off+j) c) vs).size=vs.size ∧
  ∀k,((us.zipIdx j0).foldl (fun cs (c,j)=>cs.setIfInBounds (off+j) c) vs).getD k Go.undef=if off+j0≤k∧k<off+j0+us.length then us.getD (k-off-j0) Go.undef else vs.getD k Go.undef:=by
 induction us with
 |nil=>intro j0 off vs h;refine⟨rfl,fun k=>?_⟩;rw[if_neg (by simp)];rfl
 |cons u us ih =>
  intro j0 off vs h;simp only[List.length_cons]at h;simp only[List.zipIdx_cons,List.foldl_cons];obtain⟨h1,h2⟩:=ih (j0+1) off (vs.setIfInBounds (off+j0) u) (by simp;omega)
  refine⟨by rw[h1];simp,fun k=>?_⟩
  rw[h2 k];by_cases hk:k=off+j0
  ·subst hk
   rw[if_neg (by omega),if_pos ⟨by omega,by simp⟩]
   have:off+j0<vs.size:=by omega
   simp[this,show off+j0-off-j0=0 by omega]
  ·by_cases hk2:off+(j0+1)≤k∧k<off+(j0+1)+us.length
   ·rw[if_pos hk2,if_pos (by simp;omega)]
    have e:k-off-j0=(k-off-(j0+1))+1:=by omega
    rw[e,List.getD_cons_succ]
   ·rw[if_neg hk2,if_neg (by simp;omega)]
    simp[Array.getElem?_setIfInBounds_ne (show off+j0≠k by omega)]
theorem Mj [Bk] [Ev] {R:AV→Value→Prop} {cs xs:List AV} {vs us:Array Value} {off:Nat} (h:CR R cs vs) (g:CR R xs us) (hl:off+xs.length≤cs.length) :
  CR R (iO cs off xs) (us.zipIdx.foldl (fun cs (c,j)=>cs.setIfInBounds (off+j) c) vs):=by
 have e:us.zipIdx.foldl (fun cs (c,j)=>cs.setIfInBounds (off+j) c) vs=(us.toList.zipIdx 0).foldl (fun cs (c,j)=>cs.setIfInBounds (off+j) c) vs:=by
  rw[←Array.foldl_toList];simp
 have hus:us.toList.length=xs.length:=by simpa using g.1
 obtain⟨h1,h2⟩:=foldl_set us.toList 0 off vs (by rw[hus,h.1];omega)
 refine⟨?_,?_⟩
 ·rw[e,h1,qK hl];exact h.1
 ·intro i x hx
  rw[lW hl]at hx;rw[e,h2 i];split at hx
  ·rename_i hk
   rw[if_pos (by rw[hus];omega)]
   have:=g.2 _ _ hx
   refine⟨this.1,?_⟩
   have h3:us.toList.getD (i-off-0) Go.undef=us.getD (i-off) Go.undef:=by simp[List.getD]
   rw[h3];exact this.2
  ·rename_i hk
   rw[if_neg (by rw[hus];omega)]
   exact h.2 _ _ hx
def wW (place:Nat→Option (Nat×Nat)) (cells:List AV):List (Nat×AV)→Option (List AV)
 |[]=>some cells
 |(i,x)::rest =>
  match place i,gG x with
  |some (off,size),some xs=>if xs.length=size∧off+xs.length≤cells.length then wW place (iO cells off xs) rest else none
  |_,_=>none
theorem BK [Bk] [Ev] {m:Nat→St} {A:Nat→Prop} {w:World} (place:Nat→Option (Nat×Nat)):∀(ps:List (Nat×AV)) (qs:List (Nat×Value)) (cs out:List AV) (vs:Array Value),CR (Rd m A w) cs vs→ps.length=qs.length →
  (∀(i:Nat) (p:Nat×AV) (q:Nat×Value),ps[i]?=some p→qs[i]?=some q→p.1=q.1∧Rd m A w p.2 q.2)→wW place cs ps=some out→∃us,Instr.fill place vs qs=some us∧CR (Rd m A w) out us
 |[],[],cs,out,vs,h,_,_,hf=>by simp only[wW,Option.some.injEq]at hf;subst hf;exact⟨vs,rfl,h⟩
 |[],q::qs,_,_,_,_,hl,_,_=>by simp at hl
 |p::ps,[],_,_,_,_,hl,_,_=>by simp at hl
 |(i,x)::ps,(j,v)::qs,cs,out,vs,h,hl,hr,hf=>by
  obtain⟨e,hx⟩:=hr 0 (i,x) (j,v) rfl rfl
  simp only at e hx
  subst e;simp only[wW]at hf;split at hf
  ·rename_i off size xs hp hc
   split at hf
   ·rename_i hcond
    have hcr:=lP hx hc;have hsz:v.cells.size=xs.length:=hcr.1
    have:=Mj h hcr hcond.2
    obtain⟨us,hu,hcu⟩:=BK place ps qs _ out _ this (by simpa using hl) (fun k p q hp hq=>hr (k+1) p q (by simpa using hp) (by simpa using hq)) hf
    refine⟨us,?_,hcu⟩
    simp only[Instr.fill,hp];rw[if_neg]
    ·exact hu
    ·have h1:=h.1
     simp[hsz,hcond.1]
     omega
   ·cases hf
  ·cases hf
abbrev AH:=Nat→bY
structure AR where
 v:AV
 bG:List (Nat×bY):=[]
 vF:List Nat:=[]
def eW (h:AH):List (Nat×bY)→AH
 |[]=>h
 |(i,b)::r=>eW (cJ h i b) r
def dX [Bk] [Ev] (P:Program) (o:Oper) (f:List AV) (h:AH) (r:AR):Prop :=
 ∀m A w a,bW m A h w→lN m A w f a→∃x w' m',((execOp a.eval o).run P w=.ok (.value x) w'∨((execOp a.eval o).run P w=.ok .skip w'∧x=Go.undef)) ∧
  bW m' A (eW h r.bG) w'∧Rd m' A w' r.v x∧Ext m w m' w'
section
variable {P:Program} {o:Oper} {f:List AV} {h:AH}
theorem bQ [Bk] [Ev] {v:AV} {vF:List Nat} (k:∀m A w a,bW m A h w→lN m A w f a→∃x,(execOp a.eval o).run P w=.ok (.value x) w∧Rd m A w v x):dX P o f h ⟨v,[],vF⟩:=by
 intro m A w a H F;obtain⟨x,h1,h2⟩:=k m A w a H F;exact⟨x,w,m,.inl h1,H,h2,Ext.refl m w⟩
theorem Bp [Bk] [Ev] {x:Operand} (ho:o.op=.move x):dX P o f h ⟨dE f x,[],[]⟩ :=
 bQ fun m A w a H F=>⟨a.eval x,by simp[execOp,ho],F.eval x⟩
theorem nT [Bk] [Ev] {x:Operand} (ho:o.op=.assign x):dX P o f h ⟨dE f x,[],[]⟩ :=
 bQ fun m A w a H F=>⟨a.eval x,by simp[execOp,ho],F.eval x⟩
theorem Rd.bool [Bk] [Ev] {m:Nat→St} {A:Nat→Prop} {w:World} {b:Bool} {v:Value} (h:Rd m A w (.c (.bool b)) v):v=.bool b:=by
 cases h with|pure _ _ h=>cases h;rfl
theorem Rd.agL [Bk] [Ev] {m:Nat→St} {A:Nat→Prop} {w:World} {i:Nat} {v:Value} (h:Rd m A w (.o i) v):v=Ev.val i:=by
 cases h with|pure _ _ h=>cases h;rfl
theorem Rd.dY [Bk] [Ev] {m:Nat→St} {A:Nat→Prop} {w:World} {u v:Value} (h:Rd m A w (.c u) v):v=u:=by
 cases h with|pure _ _ h=>cases h;rfl
theorem afk [Bk] [Ev] {c x y:Operand} {b:Bool} (ho:o.op=.pick c x y) (hc:dE f c=.c (.bool b)):dX P o f h ⟨bif b then dE f x else dE f y,[],[]⟩:=by
 refine bQ fun m A w a H F=>?_
 have h1:=F.eval c;rw[hc]at h1;have h2:=h1.bool;cases b
 ·exact⟨a.eval y,by simp[execOp,ho,h2,asBool],F.eval y⟩
 ·exact⟨a.eval x,by simp[execOp,ho,h2,asBool],F.eval x⟩
theorem ID [Bk] [Ev] {m:Nat→St} {A:Nat→Prop} {w:World} (H:bW m A h w) {id T:Nat} {cs:List AV} {vs:Array Value} (hid:h id=.no) (hc:CR (Rd m A w) cs vs) :
  bW (sset m id (.at w.heap.size)) A (cJ h id (.cells T cs.length [cs])) (w.alloc (.cells vs T))∧Ext m w (sset m id (.at w.heap.size)) (w.alloc (.cells vs T))∧Rd (sset m id (.at w.heap.size)) A (w.alloc (.cells vs T)) (.ptr cs.length id 0 0) (.pointer (some ⟨w.heap.size,0,none⟩)):=by
 obtain⟨h1,h2⟩:=H.alloc (id:=id) (T:=T) (sz:=cs.length) (aN:=[cs]) (cs:=vs) hid (by simp[hc.1]) (by simp) (by
  intro i j x hx;cases i with
  |zero =>
   simp only[fW,List.getElem?_cons_zero,Option.bind_some]at hx;rw[Nat.zero_mul,Nat.zero_add];exact hc.2 j x hx
  |succ i=>simp[fW]at hx)
 refine⟨h1,h2,?_⟩
 have:=Rd.ptr (m:=sset m id (.at w.heap.size)) (A:=A) (w:=w.alloc (.cells vs T)) cs.length id 0 0 w.heap.size (by simp[sset]) (by simp)
 simpa using this
theorem ahQ [Bk] [Ev] {e:TypeId} {x:Operand} {cs:List AV} {id:Nat} (ho:o.op=.box e x) (hc:gG (dE f x)=some cs) (hid:h id=.no):dX P o f h ⟨.ptr cs.length id 0 0,[(id,.cells e cs.length [cs])],[id]⟩:=by
 intro m A w a H F;obtain⟨h1,h2,h3⟩:=ID H (T:=e) hid (lP (F.eval x) hc)
 refine⟨_,_,_,.inl ?_,h1,h3,h2⟩
 simp[execOp,ho,Instr.box,newVar,newRow]
theorem ac4 [Bk] [Ev] {e:TypeId} {cs:List AV} {id:Nat} {i:TypeInfo} {z:Value} (ho:o.op=.alloc e) (hi:P.info? e=some i) (hz:i.zero=some z) (hc:gG (G8 z)=some cs) (hid:h id=.no):dX P o f h ⟨.ptr cs.length id 0 0,[(id,.cells e cs.length [cs])],[id]⟩:=by
 intro m A w a H F;obtain⟨h1,h2,h3⟩:=ID H (T:=e) hid (lP (.pure _ _ (wR _ w z)) hc)
 refine⟨_,_,_,.inl ?_,h1,h3,h2⟩
 simp[execOp,ho,Instr.alloc,zeroValue,typeInfo,hi,hz,newVar,newRow]
def kQ (P:Program) (t:TypeId) (cs:List AV) (off:Nat):Option AV :=
 match P.underlying t with
 |some (.struct _)|some (.array _ _)=>match P.info? t with
  |some i=>if off+i.size≤cs.length then some (.agg ((cs.drop off).take i.size))else none
  |none=>none
 |some _=>cs[off]?
 |none=>none
theorem qF [Bk] [Ev] (t:TypeId) (w:World) {d:TypeDesc} (h:P.underlying t=some d):(isAgg t).run P w=.ok (match d with | .struct _ | .array _ _=>true|_=>false) w:=by
 simp only[isAgg,Sem.run_bind,run_underlying h,Result.andThen_ok];cases d<;>simp
theorem vZ [Bk] [Ev] {m:Nat→St} {A:Nat→Prop} {w:World} {t:TypeId} {cs:List AV} {off:Nat} {x:AV} (hp:kQ P t cs off=some x) {b o0:Nat} {vs:Nat→Value} (hv:∀j y,cs[j]?=some y→y.one=true∧w.cell? ⟨b,o0+j,none⟩=some (vs j)∧Rd m A w y (vs j)) :
  ∃v,(loadVar t ⟨b,o0+off,none⟩).run P w=.ok v w∧Rd m A w x v:=by
 unfold kQ at hp;have agg:∀(i:TypeInfo),P.info? t=some i→off+i.size≤cs.length→∃v:Array Value,(loadCells ⟨b,o0+off,none⟩ i.size).run P w=.ok v w∧Rd m A w (.agg ((cs.drop off).take i.size)) (.agg v):=by
  intro i hi hle;refine⟨_,run_loadCells w _ i.size (fun j=>vs (off+j)) ?_,?_⟩
  ·intro j hj
   have:(⟨b,o0+off,none⟩:Addr).add j=⟨b,o0+(off+j),none⟩:=by unfold Addr.add;split<;>simp_all<;>omega
   rw[this];have hg:cs[off+j]?=some cs[off+j]:=by simp[List.getElem?_eq_getElem (show off+j<cs.length by omega)]
   exact(hv _ _ hg).2.1
  ·refine .agg _ _ (by simp;omega) ?_ ?_
   ·intro j y hy
    rw[List.getElem?_take,List.getElem?_drop]at hy;split at hy
    ·exact(hv _ _ hy).1
    ·cases hy
   ·intro j y hy
    rw[List.getElem?_take,List.getElem?_drop]at hy;split at hy
    ·rename_i hj
     have:=(hv _ _ hy).2.2
     simpa[hj]using this
    ·cases hy
 split at hp
 ·rename_i fs hu
  cases hi:P.info? t with
  |none=>simp[hi]at hp
  |some i =>
   simp only[hi]at hp;split at hp
   ·rename_i hle
    cases hp;obtain⟨v,h1,h2⟩:=agg i hi hle;refine⟨_,?_,h2⟩
    simp[loadVar,qF t w hu,sizeOf,typeInfo,hi,h1]
   ·cases hp
 ·rename_i n e hu
  cases hi:P.info? t with
  |none=>simp[hi]at hp
  |some i =>
   simp only[hi]at hp;split at hp
   ·rename_i hle
    cases hp;obtain⟨v,h1,h2⟩:=agg i hi hle;refine⟨_,?_,h2⟩
    simp[loadVar,qF t w hu,sizeOf,typeInfo,hi,h1]
   ·cases hp
 ·rename_i d hn1 hn2 hu
  obtain⟨h1,h2,h3⟩:=hv _ _ hp;refine⟨_,?_,h3⟩
  have:(isAgg t).run P w=.ok false w:=by
   rw[qF t w hu];cases d<;>first|rfl|(exact absurd rfl (hn1 _))|(exact absurd rfl (hn2 _ _))
  simp[loadVar,this,load,Sem.run,h2]
 ·cases hp
theorem Rd.Dd [Bk] [Ev] {m:Nat→St} {A:Nat→Prop} {w:World} {sz id i off b:Nat} {u:Value} (h:Rd m A w (.ptr sz id i off) u) (g:m id=.at b):u=.pointer (some ⟨b,i*sz+off,none⟩):=by
 cases h with
 |pure _ _ h=>cases h
 |ptr _ _ _ _ b' hm hb=>rw[g]at hm;cases hm;rfl
 |G2 _ _ _ _ u hm=>rw[g]at hm;cases hm
theorem Rd.pF [Bk] [Ev] {m:Nat→St} {A:Nat→Prop} {w:World} {T sz id i n b:Nat} {u:Value} (h:Rd m A w (.own T sz id i n) u) (g:m id=.at b) :
  ∃cap,u=.slice (some ⟨b,i*sz,none⟩) n cap∧n≤cap∧cap≤maxLen∧(i+cap)*sz=dV w b:=by
 cases h with
 |pure _ _ h=>cases h
 |own _ _ _ _ _ b' cap hm hb hn hc hr=>rw[g]at hm;cases hm;exact⟨cap,rfl,hn,hc,hr⟩
 |sA _ _ _ _ _ hm=>rw[g]at hm;cases hm
 |uD _ _ _ _ _ _ _ _ hm=>rw[g]at hm;cases hm
theorem NT [Bk] [Ev] {t:TypeId} {x:Operand} {T sz id i off:Nat} {aN:List (List AV)} {e:List AV} {v:AV} (ho:o.op=.load t x) (hx:dE f x=.ptr sz id i off) (hh:h id=.cells T sz aN) (he:aN[i]?=some e) (hp:kQ P t e off=some v) :
  dX P o f h ⟨v,[],[id]⟩:=by
 refine bQ fun m A w a H F=>?_
 have h1:=F.eval x;rw[hx]at h1;obtain⟨b,cs,g1,g2,g3,g4,g5⟩:=H.block hh he;have hv:=h1.Dd g1;obtain⟨u,r1,r2⟩:=vZ (P:=P) (m:=m) (A:=A) (w:=w) (b:=b) (o0:=i*sz) (vs:=fun j=>cs.getD (i*sz+j) Go.undef) hp (by
  intro j y hy;have ha:fW aN i j=some y:=by simp[fW,he,hy]
  obtain⟨k1,k2⟩:=g5 i j y ha;refine⟨k1,?_,k2⟩
  have:=(gU ha g4).2.2
  have hlt:i*sz+j<cs.size:=by omega
  simp[World.cell?,g2,hlt])
 exact⟨u,by simp[execOp,ho,hv,Instr.loadAt,Instr.sureAddr,r1],r2⟩
theorem LW [Bk] [Ev] {t:TypeId} {x:Operand} {sz i off:Nat} {aN:List (List AV)} {e:List AV} {v:AV} (ho:o.op=.load t x) (hx:dE f x=.gT sz aN i off) (he:aN[i]?=some e) (hp:kQ P t e off=some v) :
  dX P o f h ⟨v,[],[]⟩:=by
 refine bQ fun m A w a H F=>?_
 have h1:=F.eval x;rw[hx]at h1;cases h1 with
 |pure _ u h1 =>
  generalize hau:a.eval x=u at h1
  cases h1 with
  |gT _ _ _ _ b o0 vs hA hb hsz k1 kv kr =>
   obtain⟨u,r1,r2⟩:=vZ (P:=P) (m:=m) (A:=A) (w:=w) (b:=b) (o0:=o0+i*sz) (vs:=vs i) hp (by
    intro j y hy;have ha:fW aN i j=some y:=by simp[fW,he,hy]
    refine⟨k1 i j y ha,?_,.pure _ _ (kr i j y ha)⟩
    have:=kv i j y ha
    rw[←this];congr 2;omega)
   refine⟨u,?_,r2⟩
   have e1:o0+(i*sz+off)=o0+i*sz+off:=by omega
   simp[execOp,ho,hau,Instr.loadAt,Instr.sureAddr,e1,r1]
theorem abE [Bk] [Ev] {m:Nat→St} {A:Nat→Prop} {w:World} (H:bW m A h w) {T sz id i off b:Nat} {aN:List (List AV)} {e xs:List AV} {us:Array Value} (hh:h id=.cells T sz aN) (hm:m id=.at b) (he:aN[i]?=some e) (hx:CR (Rd m A w) xs us) (hl:off+xs.length≤sz) :
  ∃w',(storeCells ⟨b,i*sz+off,none⟩ us.toList).run P w=.ok () w'∧bW m A (cJ h id (.cells T sz (aN.set i (iO e off xs)))) w'∧Ext m w m w':=by
 obtain⟨b',cs,g1,g2,g3,g4,g5⟩:=H.block hh he;rw[hm]at g1;cases g1
 have hi:i<aN.length:=(List.getElem?_eq_some_iff.1 he).1
 have hel:e.length=sz:=g4 e (List.mem_of_getElem? he)
 have hmul:(i+1)*sz≤aN.length*sz:=Nat.mul_le_mul_right _ hi
 rw[Nat.succ_mul]at hmul;have hul:us.toList.length=xs.length:=by simpa using hx.1
 have hfit:i*sz+off+0+us.toList.length≤cs.size:=by rw[hul];omega
 have h1:∀v∈us.toList,v.oneCell'=true:=by
  intro v hv;obtain⟨k,hk,rfl⟩:=List.getElem_of_mem hv;have hk':k<xs.length:=by omega
  have:=hx.2 k xs[k] (by simp[hk'])
  have:=this.2.one this.1
  simpa[show k<us.size by simpa using hk]using this
 have hst:=run_storeCells_at P b (i*sz+off) T us.toList 0 cs w g2 hfit h1
 refine⟨_,hst,?_⟩
 have hsz:(cs.toList.take (i*sz+off+0)++us.toList++cs.toList.drop (i*sz+off+0+us.toList.length)).toArray.size=cs.size:=by simp only[List.size_toArray,List.length_append,List.length_take,List.length_drop,hul,Array.length_toList];rw[hul]at hfit;omega
 have hget:∀k,(cs.toList.take (i*sz+off+0)++us.toList++cs.toList.drop (i*sz+off+0+us.toList.length)).toArray.getD k Go.undef=if i*sz+off≤k∧k<i*sz+off+xs.length then us.getD (k-(i*sz+off)) Go.undef else cs.getD k Go.undef:=by
  intro k;have:=lW (cs:=cs.toList) (off:=i*sz+off) (xs:=us.toList) (by simpa using hfit) k
  unfold iO at this;have e1:∀(l:List Value),l.toArray.getD k Go.undef=(l[k]?).getD Go.undef:=by intro l;simp
  rw[e1,Nat.add_zero,this,hul];split
  ·simp
  ·simp
 refine H.write (els':=aN.set i (iO e off xs)) hh hm (setRow_heap w b cs _ T _ g2) g2 hsz (fun k hk=>setRow_other w b k _ hk) rfl rfl rfl (by simp) ?_ ?_ ?_
 ·rw[hsz,List.length_set];exact g3
 ·intro e' he'
  rcases List.mem_or_eq_of_mem_set he' with h|h
  ·exact g4 _ h
  ·subst h;rw[qK (by omega)];exact hel
 ·intro i' j x hx'
  unfold fW at hx';rw[List.getElem?_set]at hx';split at hx'
  ·rename_i hii
   subst hii;simp only[hi,if_true,Option.bind_some]at hx';rw[lW (by omega)]at hx'
   rw[hget];split at hx'
   ·rename_i hj
    rw[if_pos (by omega)]
    have:=hx.2 _ _ hx'
    refine⟨this.1,?_⟩
    rw[show i*sz+j-(i*sz+off)=j-off by omega];exact this.2
   ·rename_i hj
    rw[if_neg (by omega)]
    exact g5 i j x (by simp[fW,he,hx'])
  ·rename_i hii
   have ha:fW aN i' j=some x:=hx'
   have hb:=gU ha g4;rw[hget,if_neg]
   ·exact g5 i' j x ha
   ·rintro⟨k1,k2⟩
    rcases Nat.lt_or_ge i' i with hlt|hge
    ·have:(i'+1)*sz≤i*sz:=Nat.mul_le_mul_right _ hlt
     rw[Nat.succ_mul]at this;omega
    ·have:(i+1)*sz≤i'*sz:=Nat.mul_le_mul_right _ (by omega)
     rw[Nat.succ_mul]at this;omega
theorem acZ [Bk] [Ev] {t:TypeId} {x y:Operand} {T sz id i off:Nat} {aN:List (List AV)} {e xs:List AV} (ho:o.op=.store t x y) (hx:dE f x=.ptr sz id i off) (hh:h id=.cells T sz aN) (he:aN[i]?=some e) (hy:gG (dE f y)=some xs)
  (ht:(P.info? t).map (·.size)=some xs.length) (hl:off+xs.length≤sz):dX P o f h ⟨.undef,[(id,.cells T sz (aN.set i (iO e off xs)))],[id]⟩:=by
 intro m A w a H F;obtain⟨b,cs,g1,-⟩:=H.block hh he;have h1:=F.eval x;rw[hx]at h1;have hv:=h1.Dd g1;have hc:=lP (F.eval y) hy
 obtain⟨w',r1,r2,r3⟩:=abE (P:=P) H hh g1 he hc hl
 cases hi:P.info? t with
 |none=>simp[hi]at ht
 |some ti =>
  simp only[hi,Option.map_some,Option.some.injEq]at ht;refine⟨Go.undef,w',m,.inr ⟨?_,rfl⟩,r2,.pure _ _ .undef,r3⟩
  have hs:(a.eval y).cells.size=xs.length:=hc.1
  simp[execOp,ho,hv,Instr.storeAt,Instr.sureAddr,storeVar,sizeOf,typeInfo,hi,ht,hs,r1]
theorem D4 [Bk] [Ev] {x:Operand} {T s sz id i off:Nat} {aN:List (List AV)} {e:List AV} (ho:o.op=.nilCheck x) (hx:dE f x=.ptr sz id i off) (hh:h id=.cells T s aN) (he:aN[i]?=some e):dX P o f h ⟨.ptr sz id i off,[],[id]⟩:=by
 refine bQ fun m A w a H F=>?_
 obtain⟨b,cs,g1,-⟩:=H.block hh he;have h1:=F.eval x;rw[hx]at h1;have hv:=h1.Dd g1;refine⟨a.eval x,?_,h1⟩
 rw[hv];simp[execOp,ho,hv]
theorem CC [Bk] [Ev] {x:Operand} {sz i off:Nat} {aN:List (List AV)} (ho:o.op=.nilCheck x) (hx:dE f x=.gT sz aN i off):dX P o f h ⟨.gT sz aN i off,[],[]⟩:=by
 refine bQ fun m A w a H F=>?_
 have h1:=F.eval x;rw[hx]at h1;generalize hau:a.eval x=u at h1
 have h2:=h1;cases h1 with
 |pure _ u h1=>cases h1 with
  |gT=>exact⟨_,by simp[execOp,ho,hau],h2⟩
theorem FK [Bk] [Ev] {x:Operand} {k:FuncId} {xs ys:List AV} (ho:o.op=.nilCheck x) (hx:dE f x=.fn (.func k) xs ys):dX P o f h ⟨.fn (.func k) xs ys,[],[]⟩:=by
 refine bQ fun m A w a H F=>?_
 have h1:=F.eval x;rw[hx]at h1;generalize hau:a.eval x=u at h1
 have h2:=h1;cases h1 with
 |pure _ u h1=>cases h1 with
  |fn=>exact⟨_,by simp[execOp,ho,hau],h2⟩
 |fn=>exact⟨_,by simp[execOp,ho,hau],h2⟩
def SV (op:BinOp):Value→Value→Option Value
 | .int k x,.int k' y =>
  match op with
  | .shl=>if y<0 then none else some (.int k (k.wrap (x*2 ^ (min y.toNat k.bits))))
  | .shr=>if y<0 then none else some (.int k (x.fdiv (2 ^ (min y.toNat k.bits))))
  |_=>if k=k' then
    match op with
    | .add=>some (.int k (k.wrap (x+y)))
    | .sub=>some (.int k (k.wrap (x-y)))
    | .mul=>some (.int k (k.wrap (x*y)))
    | .quo=>if y=0 then none else some (.int k (k.wrap (x.tdiv y)))
    | .rem=>if y=0 then none else some (.int k (x.tmod y))
    | .eql=>some (.bool (x==y))
    | .neq=>some (.bool (x != y))
    | .lss=>some (.bool (x<y))
    | .leq=>some (.bool (x≤y))
    | .gtr=>some (.bool (x > y))
    | .geq=>some (.bool (x ≥ y))
    |_=>none
   else none
 | .string x,.string y =>
  match op with
  | .eql=>some (.bool (x.toList==y.toList))
  | .neq=>some (.bool (!(x.toList==y.toList)))
  | .add=>if x.size+y.size≤9223372036854775807 then some (.string (x++y))else none
  |_=>none
 |_,_=>none
theorem ahR [Bk] [Ev] {op:BinOp} {t ty:TypeId} {x y:Operand} {u v r:Value} (ho:o.op=.binOp op t x y ty) (hx:dE f x=.c u) (hy:dE f y=.c v) (hr:SV op u v=some r):dX P o f h ⟨.c r,[],[]⟩:=by
 refine bQ fun m A w a H F=>?_
 have h1:=F.eval x;have h2:=F.eval y;rw[hx]at h1;rw[hy]at h2
 have e1:=h1.dY;have e2:=h2.dY;refine⟨r,?_,.pure _ _ (.c r)⟩
 cases u with
 |int k p =>
  cases v with
  |int k' q =>
   have hg:(eqGuard op t x y (.int k p) (.int k' q)).run P w=.ok () w:=by
    unfold eqGuard;split<;>simp
   cases op<;>simp only[SV]at hr<;>(try (split at hr<;>try (cases hr;done)))<;>(try (split at hr<;>try (cases hr;done)))<;>(try cases hr) <;>
    simp_all [execOp,binOp,Op.intArith,Op.intDiv,Op.intCmp,Op.shift]<;>(intro _;omega)
  |_=>cases op<;>simp[SV]at hr
 |string p =>
  cases v with
  |string q =>
   have hg:(eqGuard op t x y (.string p) (.string q)).run P w=.ok () w:=by
    unfold eqGuard;split<;>simp
   cases op<;>simp only[SV]at hr<;>(try (split at hr<;>try (cases hr;done)))<;>(try cases hr) <;>
    simp_all [execOp,binOp,Op.stringOp]<;>omega
  |_=>cases op<;>simp[SV]at hr
 |_=>cases op<;>simp[SV]at hr
theorem run_equalIn_bool [Bk] [Ev] (d:Nat) {t:TypeId} {p q:Bool} (hu:P.underlying t=some .bool) (w:World):(Op.equalIn (d+1) t (.bool p) (.bool q)).run P w=.ok (p==q) w:=by
 simp[Op.equalIn,run_underlying hu]
theorem TU [Bk] [Ev] {op:BinOp} {t ty:TypeId} {x y:Operand} {p q:Bool} (ho:o.op=.binOp op t x y ty) (hx:dE f x=.c (.bool p)) (hy:dE f y=.c (.bool q)) (hu:P.underlying t=some .bool) (hop:op=.eql∨op=.neq) :
  dX P o f h ⟨.c (.bool (if op=.eql then p==q else !(p==q))),[],[]⟩:=by
 refine bQ fun m A w a H F=>?_
 have h1:=F.eval x;have h2:=F.eval y;rw[hx]at h1;rw[hy]at h2
 have e1:=h1.dY;have e2:=h2.dY;refine⟨_,?_,.pure _ _ (.c _)⟩
 have hg:(eqGuard op t x y (.bool p) (.bool q)).run P w=.ok () w:=by
  unfold eqGuard;split<;>simp
 have he:(Op.equal t (.bool p) (.bool q)).run P w=.ok (p==q) w:=run_equalIn_bool 9999 hu w
 rcases hop with rfl|rfl<;>simp[execOp,ho,e1,e2,hg,binOp,he]
def unV (op:UnOp):Value→Option Value
 | .int k x=>match op with | .neg=>some (.int k (k.wrap (0-x)))|_=>none
 | .bool b=>match op with | .not=>some (.bool !b)|_=>none
 |_=>none
theorem ajy [Bk] [Ev] {op:UnOp} {t:TypeId} {x:Operand} {u r:Value} (ho:o.op=.unOp op t x) (hx:dE f x=.c u) (hr:unV op u=some r):dX P o f h ⟨.c r,[],[]⟩:=by
 refine bQ fun m A w a H F=>?_
 have h1:=F.eval x;rw[hx]at h1;have e1:=h1.dY;refine⟨r,?_,.pure _ _ (.c r)⟩
 cases u<;>cases op<;>simp[unV]at hr<;>subst hr<;>simp[execOp,ho,e1,Op.unary,Op.intArith]
def AN [Bk] (p:Poly):AV :=
 let b:=bnd p
 if b.1=b.2 then .c (.int .i64 b.1)else .e p
theorem wS [Bk] [Ev] (A:Nat→Prop) (w:World) (p:Poly):dG A w (AN p) (.int .i64 (bJ Ev.dL p)):=by
 have k:=Db p;unfold AN;simp only
 split
 ·have:bJ Ev.dL p=(bnd p).1:=by omega
  rw[this];exact .c _
 ·exact .e p
theorem afq [Bk] [Ev] (p:Poly):(AN p).one=true:=by
 unfold AN;simp only
 split<;>rfl
def toP:AV→Option Poly
 | .e p=>some p
 | .c (.int .i64 n)=>some (xJ n)
 |_=>none
theorem toP_ok [Bk] [Ev] {x:AV} {p:Poly} (hp:toP x=some p) {m:Nat→St} {A:Nat→Prop} {w:World} {v:Value} (h:Rd m A w x v):v=.int .i64 (bJ Ev.dL p):=by
 unfold toP at hp;split at hp
 ·cases hp
  cases h with|pure _ _ h=>cases h;rfl
 ·cases hp
  rw[qS];exact h.dY
 ·cases hp
def aeS [Bk] (op:BinOp) (p q:Poly):Option AV :=
 match op with
 | .add=>let r:=uQ p q;if kE r then some (AN r)else none
 | .sub=>let r:=pM p q;if kE r then some (AN r)else none
 | .mul=>let r:=acg p q;if kE r then some (AN r)else none
 | .quo=>if nzB q then match findD 0 p q Bk.defs with
   |some r=>if kE r then some (AN r)else none
   |none=>none
  else none
 | .rem=>if nzB q then match findD 1 p q Bk.defs with
   |some r=>some (AN r)
   |none=>none
  else none
 | .eql=>(eqB (pM p q)).map fun b=>.c (.bool b)
 | .neq=>(eqB (pM p q)).map fun b=>.c (.bool !b)
 | .lss=>(Oe (pM p q)).map fun b=>.c (.bool b)
 | .geq=>(Oe (pM p q)).map fun b=>.c (.bool !b)
 | .gtr=>(Oe (pM q p)).map fun b=>.c (.bool b)
 | .leq=>(Oe (pM q p)).map fun b=>.c (.bool !b)
 |_=>none
theorem acY [Bk] [Ev] {op:BinOp} {t ty:TypeId} {x y:Operand} {p q:Poly} {r:AV} (ho:o.op=.binOp op t x y ty) (hx:toP (dE f x)=some p) (hy:toP (dE f y)=some q) (hr:aeS op p q=some r):dX P o f h ⟨r,[],[]⟩:=by
 refine bQ fun m A w a H F=>?_
 have e1:=toP_ok hx (F.eval x)
 have e2:=toP_ok hy (F.eval y)
 have hg:(eqGuard op t x y (.int .i64 (bJ Ev.dL p)) (.int .i64 (bJ Ev.dL q))).run P w=.ok () w:=by
  unfold eqGuard;split<;>simp
 have fit:∀r:Poly,kE r=true→IntKind.i64.wrap (bJ Ev.dL r)=bJ Ev.dL r:=fun r h=>IntWalk.i64_in _ (by have:=Ss h;omega)
 have rd:∀r:Poly,Rd m A w (AN r) (.int .i64 (bJ Ev.dL r)):=fun r=>.pure _ _ (wS _ w r)
 cases op<;>simp only[aeS]at hr
 case add =>
  split at hr
  ·rename_i hb;cases hr
   refine⟨_,?_,rd _⟩
   have:=fit _ hb
   rw[nC]at this;simp[execOp,ho,e1,e2,hg,binOp,Op.intArith,nC,this]
  ·cases hr
 case sub =>
  split at hr
  ·rename_i hb;cases hr
   refine⟨_,?_,rd _⟩
   have:=fit _ hb
   rw[fQ]at this;simp[execOp,ho,e1,e2,hg,binOp,Op.intArith,fQ,this]
  ·cases hr
 case mul =>
  split at hr
  ·rename_i hb;cases hr
   refine⟨_,?_,rd _⟩
   have:=fit _ hb
   rw[FB]at this;simp[execOp,ho,e1,e2,hg,binOp,Op.intArith,FB,this]
  ·cases hr
 case quo =>
  split at hr
  ·rename_i hz
   split at hr
   ·rename_i r0 hf
    split at hr
    ·rename_i hb;cases hr
     refine⟨_,?_,rd _⟩
     have:=fit _ hb
     have hd:bJ Ev.dL r0=(bJ Ev.dL p).tdiv (bJ Ev.dL q):=(Ev.defs _ (BJ hf)).1 rfl
     have hne:=ac9 hz;rw[hd]at this;simp[execOp,ho,e1,e2,hg,binOp,Op.intDiv,hd,this,hne]
    ·cases hr
   ·cases hr
  ·cases hr
 case rem =>
  split at hr
  ·rename_i hz
   split at hr
   ·rename_i r0 hf
    cases hr;refine⟨_,?_,rd _⟩
    have hd:bJ Ev.dL r0=(bJ Ev.dL p).tmod (bJ Ev.dL q):=(Ev.defs _ (BJ hf)).2.1 rfl
    have hne:=ac9 hz;simp[execOp,ho,e1,e2,hg,binOp,Op.intDiv,hd,hne]
   ·cases hr
  ·cases hr
 all_goals (try (cases hr;done))
 all_goals (rw[Option.map_eq_some_iff]at hr;obtain⟨b,hb,rfl⟩:=hr)
 case eql =>
  have k:=C7 hb;rw[fQ]at k;refine⟨.bool b,?_,.pure _ _ (.c _)⟩
  have e:(bJ Ev.dL p==bJ Ev.dL q)=b:=by rw[k,Bool.eq_iff_iff];simp<;>omega
  simp[execOp,ho,e1,e2,hg,binOp,Op.intCmp,e]
 case neq =>
  have k:=C7 hb;rw[fQ]at k;refine⟨.bool !b,?_,.pure _ _ (.c _)⟩
  have e:(bJ Ev.dL p==bJ Ev.dL q)=b:=by rw[k,Bool.eq_iff_iff];simp<;>omega
  simp[execOp,ho,e1,e2,hg,binOp,Op.intCmp,bne,e]
 case lss =>
  have k:=nU hb;rw[fQ]at k;refine⟨.bool b,?_,.pure _ _ (.c _)⟩
  have e:decide (bJ Ev.dL p<bJ Ev.dL q)=b:=by rw[k,Bool.eq_iff_iff];simp<;>omega
  simp[execOp,ho,e1,e2,hg,binOp,Op.intCmp,e]
 case geq =>
  have k:=nU hb;rw[fQ]at k;refine⟨.bool !b,?_,.pure _ _ (.c _)⟩
  have e:decide (bJ Ev.dL q≤bJ Ev.dL p)=!b:=by rw[k,Bool.eq_iff_iff];simp<;>omega
  simp[execOp,ho,e1,e2,hg,binOp,Op.intCmp,e]
 case gtr =>
  have k:=nU hb;rw[fQ]at k;refine⟨.bool b,?_,.pure _ _ (.c _)⟩
  have e:decide (bJ Ev.dL q<bJ Ev.dL p)=b:=by rw[k,Bool.eq_iff_iff];simp<;>omega
  simp[execOp,ho,e1,e2,hg,binOp,Op.intCmp,e]
 case leq =>
  have k:=nU hb;rw[fQ]at k;refine⟨.bool !b,?_,.pure _ _ (.c _)⟩
  have e:decide (bJ Ev.dL p≤bJ Ev.dL q)=!b:=by rw[k,Bool.eq_iff_iff];simp<;>omega
  simp[execOp,ho,e1,e2,hg,binOp,Op.intCmp,e]
theorem aas [Bk] [Ev] {t:TypeId} {x:Operand} {p:Poly} (ho:o.op=.unOp .neg t x) (hx:dE f x=.e p) (hr:kE (pA (-1) p)=true):dX P o f h ⟨AN (pA (-1) p),[],[]⟩:=by
 refine bQ fun m A w a H F=>?_
 have h1:=F.eval x;rw[hx]at h1;have e1:=toP_ok (x:=.e p) rfl h1
 refine⟨_,?_,.pure _ _ (wS _ w _)⟩
 have k:=Ss hr;have:=IntWalk.i64_in (bJ Ev.dL (pA (-1) p)) (by omega)
 rw[qR]at this;have e:0-bJ Ev.dL p=-1*bJ Ev.dL p:=by omega
 have e3:IntKind.i64.wrap (-bJ Ev.dL p)=-bJ Ev.dL p:=by
  have e4:-1*bJ Ev.dL p=-bJ Ev.dL p:=by omega
  rw[e4]at this;exact this
 simp[execOp,ho,e1,Op.unary,Op.intArith,qR,e3]
end
end Mc
namespace Mc
section
variable {P:Program} {o:Oper} {f:List AV} {h:AH}
theorem gB [Bk] [Ev] (b o j:Nat):(⟨b,o,none⟩:Addr).add j=⟨b,o+j,none⟩:=by unfold Addr.add;split<;>simp_all
theorem Rd.nE [Bk] [Ev] {m:Nat→St} {A:Nat→Prop} {w:World} {sz:Nat} {aN:List (List AV)} {u:Value} (h:Rd m A w (.lit sz aN) u) :
  (aN=[]∧∃a cap,u=.slice a 0 cap)∨∃b off cap,∃vs:Nat→Nat→Value,u=.slice (some ⟨b,off,none⟩) aN.length cap∧¬ Av m A b∧b<w.heap.size∧aN.length≤cap∧(∀e∈aN,e.length=sz)∧(∀(i j:Nat) (x:AV),fW aN i j=some x→x.one=true) ∧
   (∀(i j:Nat) (x:AV),fW aN i j=some x→w.cell? ⟨b,off+(i*sz+j),none⟩=some (vs i j))∧∀(i j:Nat) (x:AV),fW aN i j=some x→dG (Av m A) w x (vs i j):=by
 cases h with
 |pure _ _ h =>
  cases h with
  |lit _ _ b off cap vs hA hb hc hsz h1 hv hr=>exact .inr ⟨b,off,cap,vs,rfl,hA,hb,hc.1,hsz,h1,hv,hr⟩
  |nG _ a cap hm=>exact .inl ⟨rfl,a,cap,rfl⟩
theorem Rd.Bz [Bk] [Ev] {m:Nat→St} {A:Nat→Prop} {w:World} {sz n cap:Nat} {a:Option Addr} {aN:List (List AV)} (h:Rd m A w (.lit sz aN) (.slice a n cap)):cap≤maxLen:=by
 cases h with
 |pure _ _ h =>
  cases h with
  |lit _ _ b off cap vs hA hb hc=>exact hc.2
  |nG _ a cap hm=>exact hm
theorem Rd.Of [Bk] [Ev] {m:Nat→St} {A:Nat→Prop} {w:World} {sz i0 j0:Nat} {aN:List (List AV)} {u:Value} (h:Rd m A w (.gT sz aN i0 j0) u) :
  ∃b off,∃vs:Nat→Nat→Value,u=.pointer (some ⟨b,off+(i0*sz+j0),none⟩)∧∀i j,Rd m A w (.gT sz aN i j) (.pointer (some ⟨b,off+(i*sz+j),none⟩)):=by
 cases h with
 |pure _ _ h =>
  cases h with
  |gT _ _ _ _ b off vs hA hb hsz h1 hv hr=>exact⟨b,off,vs,rfl,fun i j=>.pure _ _ (.gT sz aN i j b off vs hA hb hsz h1 hv hr)⟩
def lU (P:Program) (t:TypeId) (k:Nat):Option (TypeId×Nat×Nat) :=
 match P.underlying t with
 |some (.struct fs)=>match fs[k]? with
  |some fd=>(P.info? fd.type).map fun i=>(fd.type,fd.offset,i.size)
  |none=>none
 |_=>none
theorem xY [Bk] [Ev] {t k ty off n:Nat} (hf:lU P t k=some (ty,off,n)) (hn:n≠0) (b o':Nat) (w:World):(Instr.fieldAt t (.pointer (some ⟨b,o',none⟩)) k).run P w=.ok (.pointer (some ⟨b,o'+off,none⟩)) w:=by
 unfold lU at hf;split at hf
 ·rename_i fs hu
  split at hf
  ·rename_i fd hfd
   cases hi:P.info? fd.type with
   |none=>simp[hi]at hf
   |some i =>
    simp only[hi,Option.map_some,Option.some.injEq,Prod.mk.injEq]at hf;obtain⟨rfl,rfl,rfl⟩:=hf;simp[Instr.fieldAt,run_underlying hu,hfd,Instr.sureAddr,fieldPlace,sizeOf,typeInfo,hi,hn,gB]
  ·cases hf
 ·cases hf
theorem CN [Bk] [Ev] {t:TypeId} {x:Operand} {k ty o' n T sz id i off:Nat} {aN:List (List AV)} {e:List AV} (ho:o.op=.fieldAddr t x k) (hx:dE f x=.ptr sz id i off) (hh:h id=.cells T sz aN) (he:aN[i]?=some e) (hf:lU P t k=some (ty,o',n)) (hn:n≠0) :
  dX P o f h ⟨.ptr sz id i (off+o'),[],[id]⟩:=by
 refine bQ fun m A w a H F=>?_
 have h1:=F.eval x;rw[hx]at h1;obtain⟨b,cs,g1,-⟩:=H.block hh he;have hv:=h1.Dd g1;refine⟨.pointer (some ⟨b,i*sz+off+o',none⟩),by simp[execOp,ho,hv,xY hf hn],?_⟩
 have:=Rd.ptr (m:=m) (A:=A) (w:=w) sz id i (off+o') b g1 (H.lt g1)
 rwa[←Nat.add_assoc]at this
theorem Bu [Bk] [Ev] {t:TypeId} {x:Operand} {k ty o' n sz i off:Nat} {aN:List (List AV)} (ho:o.op=.fieldAddr t x k) (hx:dE f x=.gT sz aN i off) (hf:lU P t k=some (ty,o',n)) (hn:n≠0) :
  dX P o f h ⟨.gT sz aN i (off+o'),[],[]⟩:=by
 refine bQ fun m A w a H F=>?_
 have h1:=F.eval x;rw[hx]at h1;obtain⟨b,o0,vs,hv,hr⟩:=h1.Of;refine⟨.pointer (some ⟨b,o0+(i*sz+off)+o',none⟩),by simp[execOp,ho,hv,xY hf hn],?_⟩
 have:=hr i (off+o')
 rw[show o0+(i*sz+(off+o'))=o0+(i*sz+off)+o' by omega]at this
 exact this
theorem CJ [Bk] [Ev] {t e:TypeId} {x ix:Operand} {sz:Nat} {aN:List (List AV)} {k:IntKind} {n:Int} (ho:o.op=.indexAddr t x ix) (hx:dE f x=.lit sz aN) (hi:dE f ix=.c (.int k n)) (hu:P.underlying t=some (.slice e)) (hs:(P.info? e).map (·.size)=some sz) (h0:0≤n) (hn:n.toNat<aN.length) :
  dX P o f h ⟨.gT sz aN n.toNat 0,[],[]⟩:=by
 refine bQ fun m A w a H F=>?_
 have h1:=F.eval x;rw[hx]at h1;have h2:=F.eval ix;rw[hi]at h2;have e2:=h2.dY;obtain⟨rfl,-⟩|⟨b,off,cap,vs,hv,hA,hb,hc,hsz,k1,kv,kr⟩:=h1.nE
 ·simp at hn
 ·cases hp:P.info? e with
  |none=>simp[hp]at hs
  |some ti =>
   simp only[hp,Option.map_some,Option.some.injEq]at hs;have hlt:n<(aN.length:Int):=by omega
   refine⟨.pointer (some ⟨b,off+(n.toNat*sz+0),none⟩),?_,.pure _ _ (.gT sz aN _ 0 b off vs hA hb hsz k1 kv kr)⟩
   simp[execOp,ho,hv,e2,Instr.indexAt,asIntOf,run_underlying hu,h0,hlt,sizeOf,typeInfo,hp,hs,gB]
theorem CI [Bk] [Ev] {t e:TypeId} {x ix:Operand} {T sz id i n':Nat} {aN:List (List AV)} {el:List AV} {k:IntKind} {n:Int} (ho:o.op=.indexAddr t x ix) (hx:dE f x=.own T sz id i n') (hh:h id=.cells T sz aN) (hi:dE f ix=.c (.int k n)) (hu:P.underlying t=some (.slice e)) (hs:(P.info? e).map (·.size)=some sz) (h0:0≤n) (hn:n.toNat<n') (he:aN[i+n.toNat]?=some el) :
  dX P o f h ⟨.ptr sz id (i+n.toNat) 0,[],[id]⟩:=by
 refine bQ fun m A w a H F=>?_
 have h1:=F.eval x;rw[hx]at h1;have h2:=F.eval ix;rw[hi]at h2;have e2:=h2.dY;obtain⟨b,cs,g1,-⟩:=H.block hh he;obtain⟨cap,hv,-⟩:=h1.pF g1;cases hp:P.info? e with
 |none=>simp[hp]at hs
 |some ti =>
  simp only[hp,Option.map_some,Option.some.injEq]at hs;have hlt:n<(n':Int):=by omega
  refine⟨.pointer (some ⟨b,(i+n.toNat)*sz+0,none⟩),?_,.ptr sz id _ 0 b g1 (H.lt g1)⟩
  simp[execOp,ho,hv,e2,Instr.indexAt,asIntOf,run_underlying hu,h0,hlt,sizeOf,typeInfo,hp,hs,gB,Nat.add_mul]
theorem CM [Bk] [Ev] {t e:TypeId} {x ix:Operand} {T sz id i off len s:Nat} {aN:List (List AV)} {el:List AV} {k:IntKind} {n:Int} (ho:o.op=.indexAddr t x ix) (hx:dE f x=.ptr sz id i off) (hh:h id=.cells T sz aN) (he:aN[i]?=some el) (hi:dE f ix=.c (.int k n)) (hu:P.underlying t=some (.array len e)) (hs:(P.info? e).map (·.size)=some s) (h0:0≤n) (hn:n.toNat<len) :
  dX P o f h ⟨.ptr sz id i (off+n.toNat*s),[],[id]⟩:=by
 refine bQ fun m A w a H F=>?_
 have h1:=F.eval x;rw[hx]at h1;have h2:=F.eval ix;rw[hi]at h2;have e2:=h2.dY;obtain⟨b,cs,g1,-⟩:=H.block hh he;have hv:=h1.Dd g1;cases hp:P.info? e with
 |none=>simp[hp]at hs
 |some ti =>
  simp only[hp,Option.map_some,Option.some.injEq]at hs;have hlt:n<(len:Int):=by omega
  refine⟨.pointer (some ⟨b,i*sz+(off+n.toNat*s),none⟩),?_,.ptr sz id _ _ b g1 (H.lt g1)⟩
  simp[execOp,ho,hv,e2,Instr.indexAt,asIntOf,run_underlying hu,h0,hlt,sizeOf,typeInfo,hp,hs,gB,Instr.sureAddr,Nat.add_assoc]
theorem Bt [Bk] [Ev] {t e:TypeId} {x ix:Operand} {sz i off len s:Nat} {aN:List (List AV)} {k:IntKind} {n:Int} (ho:o.op=.indexAddr t x ix) (hx:dE f x=.gT sz aN i off) (hi:dE f ix=.c (.int k n)) (hu:P.underlying t=some (.array len e)) (hs:(P.info? e).map (·.size)=some s) (h0:0≤n) (hn:n.toNat<len) :
  dX P o f h ⟨.gT sz aN i (off+n.toNat*s),[],[]⟩:=by
 refine bQ fun m A w a H F=>?_
 have h1:=F.eval x;rw[hx]at h1;have h2:=F.eval ix;rw[hi]at h2;have e2:=h2.dY;obtain⟨b,o0,vs,hv,hr⟩:=h1.Of;cases hp:P.info? e with
 |none=>simp[hp]at hs
 |some ti =>
  simp only[hp,Option.map_some,Option.some.injEq]at hs;have hlt:n<(len:Int):=by omega
  refine⟨_,?_,hr i (off+n.toNat*s)⟩
  simp[execOp,ho,hv,e2,Instr.indexAt,asIntOf,run_underlying hu,h0,hlt,sizeOf,typeInfo,hp,hs,gB,Instr.sureAddr,Nat.add_assoc]
theorem yR [Bk] [Ev] {m:Nat→St} {A:Nat→Prop} {w:World} {t:TypeId} {cs:List AV} {vs:Array Value} {off:Nat} {x:AV} (hc:CR (Rd m A w) cs vs) (hp:kQ P t cs off=some x):∃v,(part t vs off).run P w=.ok v w∧Rd m A w x v:=by
 unfold kQ at hp;have agg:∀(i:TypeInfo),off+i.size≤cs.length→Rd m A w (.agg ((cs.drop off).take i.size)) (.agg (vs.extract off (off+i.size))):=by
  intro i hle;refine .agg _ _ (by have:=hc.1;simp;omega) ?_ ?_
  ·intro j y hy
   rw[List.getElem?_take,List.getElem?_drop]at hy;split at hy
   ·exact(hc.2 _ _ hy).1
   ·cases hy
  ·intro j y hy
   rw[List.getElem?_take,List.getElem?_drop]at hy;split at hy
   ·rename_i hj
    have h2:=(hc.2 _ _ hy).2
    have e1:(vs.extract off (off+i.size)).getD j Go.undef=vs.getD (off+j) Go.undef:=by
     have:=hc.1;have hlt:off+j<vs.size:=by omega
     have hlt2:j<min (off+i.size) vs.size-off:=by omega
     simp[Array.getElem?_extract,hj,hlt2,hlt]
    rw[e1];exact h2
   ·cases hy
 split at hp
 ·rename_i fs hu
  cases hi:P.info? t with
  |none=>simp[hi]at hp
  |some i =>
   simp only[hi]at hp;split at hp
   ·rename_i hle
    cases hp;exact⟨_,by simp[part,qF t w hu,sizeOf,typeInfo,hi],agg i hle⟩
   ·cases hp
 ·rename_i n e hu
  cases hi:P.info? t with
  |none=>simp[hi]at hp
  |some i =>
   simp only[hi]at hp;split at hp
   ·rename_i hle
    cases hp;exact⟨_,by simp[part,qF t w hu,sizeOf,typeInfo,hi],agg i hle⟩
   ·cases hp
 ·rename_i d hn1 hn2 hu
  have h2:=hc.2 _ _ hp;have hlt:off<vs.size:=by rw[hc.1];exact(List.getElem?_eq_some_iff.1 hp).1
  have:(isAgg t).run P w=.ok false w:=by
   rw[qF t w hu];cases d<;>first|rfl|(exact absurd rfl (hn1 _))|(exact absurd rfl (hn2 _ _))
  refine⟨vs.getD off Go.undef,?_,h2.2⟩
  simp[part,this,hlt]
 ·cases hp
theorem Rd.oH [Bk] [Ev] {m:Nat→St} {A:Nat→Prop} {w:World} {cs:List AV} {u:Value} (h:Rd m A w (.agg cs) u):∃vs,u=.agg vs∧CR (Rd m A w) cs vs:=by
 cases h with
 |pure _ _ h =>
  cases h with
  |agg _ vs hl h1 h=>exact⟨vs,rfl,hl,fun i x hx=>⟨h1 i x hx,.pure _ _ (h i x hx)⟩⟩
 |agg _ vs hl h1 h=>exact⟨vs,rfl,hl,fun i x hx=>⟨h1 i x hx,h i x hx⟩⟩
theorem Rd.To [Bk] [Ev] {m:Nat→St} {A:Nat→Prop} {w:World} {cs:List AV} {u:Value} (h:Rd m A w (.aZ cs) u):∃vs,u=.tuple vs∧vs.size=cs.length∧∀(i:Nat) (x:AV),cs[i]?=some x→Rd m A w x (vs.getD i Go.undef):=by
 cases h with
 |pure _ _ h =>
  cases h with
  |aZ _ vs hl h=>exact⟨vs,rfl,hl,fun i x hx=>.pure _ _ (h i x hx)⟩
 |aZ _ vs hl h=>exact⟨vs,rfl,hl,h⟩
theorem ac1 [Bk] [Ev] {t:TypeId} {x:Operand} {k ty o' n:Nat} {cs:List AV} {v:AV} (ho:o.op=.field t x k) (hx:dE f x=.agg cs) (hf:lU P t k=some (ty,o',n)) (hp:kQ P ty cs o'=some v):dX P o f h ⟨v,[],[]⟩:=by
 refine bQ fun m A w a H F=>?_
 have h1:=F.eval x;rw[hx]at h1;obtain⟨vs,hv,hc⟩:=h1.oH;obtain⟨r,r1,r2⟩:=yR (P:=P) hc hp
 unfold lU at hf;split at hf
 ·rename_i fs hu
  split at hf
  ·rename_i fd hfd
   cases hi:P.info? fd.type with
   |none=>simp[hi]at hf
   |some i =>
    simp only[hi,Option.map_some,Option.some.injEq,Prod.mk.injEq]at hf;obtain⟨rfl,rfl,rfl⟩:=hf;exact⟨r,by simp[execOp,ho,hv,Instr.field,run_underlying hu,hfd,asAgg,r1],r2⟩
  ·cases hf
 ·cases hf
theorem LY [Bk] [Ev] {t e:TypeId} {x ix:Operand} {len s:Nat} {cs:List AV} {k:IntKind} {n:Int} {v:AV} (ho:o.op=.index t x ix) (hx:dE f x=.agg cs) (hi:dE f ix=.c (.int k n)) (hu:P.underlying t=some (.array len e)) (hs:(P.info? e).map (·.size)=some s) (h0:0≤n) (hn:n.toNat<len) (hp:kQ P e cs (n.toNat*s)=some v) :
  dX P o f h ⟨v,[],[]⟩:=by
 refine bQ fun m A w a H F=>?_
 have h1:=F.eval x;rw[hx]at h1;have h2:=F.eval ix;rw[hi]at h2;have e2:=h2.dY;obtain⟨vs,hv,hc⟩:=h1.oH;obtain⟨r,r1,r2⟩:=yR (P:=P) hc hp
 cases hp:P.info? e with
 |none=>simp[hp]at hs
 |some ti =>
  simp only[hp,Option.map_some,Option.some.injEq]at hs;have hlt:n<(len:Int):=by omega
  exact⟨r,by simp[execOp,ho,hv,e2,Instr.index,asIntOf,run_underlying hu,h0,hlt,sizeOf,typeInfo,hp,hs,r1],r2⟩
theorem LX [Bk] [Ev] {t:TypeId} {x ix:Operand} {s:ByteArray} {k:IntKind} {n:Int} {b:UInt8} (ho:o.op=.index t x ix) (hx:dE f x=.c (.string s)) (hi:dE f ix=.c (.int k n)) (hu:P.underlying t=some .string) (h0:0≤n) (hb:s[n.toNat]?=some b) :
  dX P o f h ⟨.c (.int .u8 b.toNat),[],[]⟩:=by
 refine bQ fun m A w a H F=>?_
 have h1:=F.eval x;rw[hx]at h1;have h2:=F.eval ix;rw[hi]at h2;have e1:=h1.dY;have e2:=h2.dY;exact⟨_,by simp[execOp,ho,e1,e2,Instr.index,asIntOf,run_underlying hu,h0,hb],.pure _ _ (.c _)⟩
theorem Sa [Bk] [Ev] {x:Operand} {k:Nat} {vs:List AV} {v:AV} (ho:o.op=.extract x k) (hx:dE f x=.aZ vs) (hv:vs[k]?=some v):dX P o f h ⟨v,[],[]⟩:=by
 refine bQ fun m A w a H F=>?_
 have h1:=F.eval x;rw[hx]at h1;obtain⟨us,hu,hl,hr⟩:=h1.To;have hlt:k<us.size:=by rw[hl];exact(List.getElem?_eq_some_iff.1 hv).1
 refine⟨us.getD k Go.undef,?_,hr k v hv⟩
 simp[execOp,ho,hu,Instr.extract,hlt]
def Gr (P:Program) (t:TypeId) (parts:List (Nat×AV)):Option (List AV) :=
 match P.info? t,P.underlying t with
 |some it,some (.array _ e) =>
  match (it.zero.map G8).bind gG,P.info? e with
  |some z,some ie=>wW (fun i=>some (i*ie.size,ie.size)) z parts
  |_,_=>none
 |some it,some (.struct fields) =>
  match (it.zero.map G8).bind gG,fields.toList.mapM (fun f=>(P.info? f.type).map fun i=>(f.offset,i.size))with
  |some z,some places=>wW (places.toArray[·]?) z parts
  |_,_=>none
 |_,_=>none
theorem ad7 [Bk] [Ev] {m:Nat→St} {A:Nat→Prop} {w:World} {t:TypeId} {ps:List (Nat×AV)} {qs:List (Nat×Value)} {cs:List AV} (hl:ps.length=qs.length) (hr:∀(i:Nat) (p:Nat×AV) (q:Nat×Value),ps[i]?=some p→qs[i]?=some q→p.1=q.1∧Rd m A w p.2 q.2) (hb:Gr P t ps=some cs) :
  ∃us,P.built t qs=some us∧CR (Rd m A w) cs us:=by
 unfold Gr at hb;unfold Program.built;split at hb
 ·rename_i it len e h1 h2
  rw[h1,h2];simp only
  cases hz:it.zero with
  |none=>simp[hz]at hb
  |some z =>
   cases hie:P.info? e with
   |none=>simp[hz,hie]at hb
   |some ie =>
    cases hc:gG (G8 z)with
    |none=>simp[hz,hie,hc]at hb
    |some zc =>
     simp only[hz,hie,hc,Option.map_some,Option.bind_some]at hb;exact BK _ ps qs zc cs z.cells (lP (.pure _ _ (wR _ w z)) hc) hl hr hb
 ·rename_i it fields h1 h2
  rw[h1,h2];simp only
  cases hz:it.zero with
  |none=>simp[hz]at hb
  |some z =>
   cases hpl:fields.toList.mapM (fun f=>(P.info? f.type).map fun i=>(f.offset,i.size))with
   |none=>simp[hz,hpl]at hb
   |some places =>
    cases hc:gG (G8 z)with
    |none=>simp[hz,hpl,hc]at hb
    |some zc =>
     simp only[hz,hpl,hc,Option.map_some,Option.bind_some]at hb;exact BK _ ps qs zc cs z.cells (lP (.pure _ _ (wR _ w z)) hc) hl hr hb
 ·cases hb
theorem HX [Bk] [Ev] {m:Nat→St} {A:Nat→Prop} {w:World} {a:Act} (F:lN m A w f a) (parts:Array (Nat×Operand)):∀(i:Nat) (p:Nat×AV) (q:Nat×Value),(parts.toList.map fun p=>(p.1,dE f p.2))[i]?=some p→(parts.map fun p=>(p.1,a.eval p.2)).toList[i]?=some q→p.1=q.1∧Rd m A w p.2 q.2:=by
 intro i p q hp hq;rw[List.getElem?_map]at hp;rw[Array.toList_map,List.getElem?_map]at hq;cases hi:parts.toList[i]? with
 |none=>rw[hi]at hp;cases hp
 |some y =>
  rw[hi]at hp hq;simp only[Option.map_some,Option.some.injEq]at hp hq;subst hp;subst hq
  exact⟨rfl,F.eval y.2⟩
theorem ac3 [Bk] [Ev] {t:TypeId} {parts:Array (Nat×Operand)} {cs:List AV} (ho:o.op=.build t parts) (hb:Gr P t (parts.toList.map fun p=>(p.1,dE f p.2))=some cs):dX P o f h ⟨.agg cs,[],[]⟩:=by
 refine bQ fun m A w a H F=>?_
 obtain⟨us,h1,h2⟩:=ad7 (P:=P) (m:=m) (A:=A) (w:=w) (qs:=(parts.map fun p=>(p.1,a.eval p.2)).toList) (by simp) (HX F parts) hb
 refine⟨.agg us,?_,h2.agg⟩
 have:=run_build (P:=P) w t (parts.map fun p=>(p.1,a.eval p.2)) us h1
 simp[execOp,ho,this]
theorem CE [Bk] [Ev] {t:TypeId} {x:Operand} (ho:o.op=.makeInterface t x) (ht:P.concrete t=true):dX P o f h ⟨.pJ t (dE f x),[],[]⟩:=by
 refine bQ fun m A w a H F=>⟨.iface t (a.eval x),by simp[execOp,ho,run_makeInterface w t (a.eval x) ht],.pJ t _ _ (F.eval x)⟩
theorem Bx [Bk] [Ev] {m:Nat→St} {A:Nat→Prop} {w:World} {a:Act} (F:lN m A w f a) (xs:Array Operand):∀(i:Nat) (x:AV),(xs.toList.map (dE f))[i]?=some x→Rd m A w x ((xs.map a.eval).getD i Go.undef):=by
 intro i x hx;rw[List.getElem?_map]at hx;cases hi:xs.toList[i]? with
 |none=>rw[hi]at hx;cases hx
 |some y =>
  rw[hi]at hx;simp only[Option.map_some,Option.some.injEq]at hx;subst hx;have hlt:i<xs.size:=by simpa using(List.getElem?_eq_some_iff.1 hi).1
  have hy:xs[i]=y:=by have:=(List.getElem?_eq_some_iff.1 hi).2;simpa using this
  have:(xs.map a.eval).getD i Go.undef=a.eval y:=by simp[hlt,hy]
  rw[this];exact F.eval y
theorem NR [Bk] [Ev] {fn:Fn} {first captured:Array Operand} (ho:o.op=.makeFunc fn first captured):dX P o f h ⟨.fn fn (first.toList.map (dE f)) (captured.toList.map (dE f)),[],[]⟩:=by
 refine bQ fun m A w a H F=>⟨.func fn (first.map a.eval) (captured.map a.eval),by simp[execOp,ho,Instr.makeFunc],?_⟩
 exact .fn fn _ _ _ _ (by simp) (by simp) (Bx F first) (Bx F captured)
theorem FP [Bk] [Ev] {s d:TypeId} {x:Operand} {k k':IntKind} {n:Int} {ds:TypeDesc} (ho:o.op=.convert s d x) (hx:dE f x=.c (.int k n)) (hs:P.underlying s=some ds) (hd:P.underlying d=some (.int k')):dX P o f h ⟨.c (.int k' (k'.wrap n)),[],[]⟩:=by
 refine bQ fun m A w a H F=>?_
 have h1:=F.eval x;rw[hx]at h1;have e1:=h1.dY;exact⟨_,by simp[execOp,ho,e1,convert,run_underlying hs,run_underlying hd,Conv.intToInt],.pure _ _ (.c _)⟩
theorem FO [Bk] [Ev] {s d:TypeId} {x:Operand} {b:ByteArray} {ds:TypeDesc} (ho:o.op=.convert s d x) (hx:dE f x=.c (.string b)) (hs:P.underlying s=some ds) (hd:P.underlying d=some .string):dX P o f h ⟨.c (.string b),[],[]⟩:=by
 refine bQ fun m A w a H F=>?_
 have h1:=F.eval x;rw[hx]at h1;have e1:=h1.dY;exact⟨_,by simp[execOp,ho,e1,convert,run_underlying hs,run_underlying hd],.pure _ _ (.c _)⟩
theorem FN [Bk] [Ev] {s d:TypeId} {x:Operand} {p:Poly} {ds:TypeDesc} (ho:o.op=.convert s d x) (hx:dE f x=.e p) (hs:P.underlying s=some ds) (hd:P.underlying d=some (.int .i64)) (hb:kE p=true):dX P o f h ⟨.e p,[],[]⟩:=by
 refine bQ fun m A w a H F=>?_
 have h1:=F.eval x;rw[hx]at h1;have e1:=toP_ok (x:=.e p) rfl h1
 have:=IntWalk.i64_in (bJ Ev.dL p) (by have:=Ss hb;omega)
 exact⟨_,by simp[execOp,ho,e1,convert,run_underlying hs,run_underlying hd,Conv.intToInt,this],.pure _ _ (.e p)⟩
theorem Rd.Tx [Bk] [Ev] {m:Nat→St} {A:Nat→Prop} {w:World} {n:Poly} {xs:List Poly} {u:Value} (h:Rd m A w (.row n xs) u) :
  (bJ Ev.dL n=0∧∃a cap,u=.slice a 0 cap)∨∃b off len cap,u=.slice (some ⟨b,off,none⟩) len cap∧bJ Ev.dL n=(len:Nat)∧¬ Av m A b∧b<w.heap.size∧∀(j:Nat) (p:Poly),xs[j]?=some p→j<len→w.cell? ⟨b,off+j,none⟩=some (.int .i64 (bJ Ev.dL p)):=by
 cases h with
 |pure _ _ h =>
  cases h with
  |row _ _ b off len cap hn hc hA hb hv=>exact .inr ⟨b,off,len,cap,rfl,hn,hA,hb,hv⟩
  |I8 _ _ a cap hn=>exact .inl ⟨hn,a,cap,rfl⟩
theorem CH [Bk] [Ev] {t e:TypeId} {x ix:Operand} {N p:Poly} {xs:List Poly} {k:IntKind} {n:Int} (ho:o.op=.indexAddr t x ix) (hx:dE f x=.row N xs) (hi:dE f ix=.c (.int k n)) (hu:P.underlying t=some (.slice e)) (hs:(P.info? e).map (·.size)=some 1) (h0:0≤n) (hn:Oe (pM (xJ n) N)=some true) (hp:xs[n.toNat]?=some p) :
  dX P o f h ⟨.gT 1 [[AN p]] 0 0,[],[]⟩:=by
 refine bQ fun m A w a H F=>?_
 have h1:=F.eval x;rw[hx]at h1;have h2:=F.eval ix;rw[hi]at h2;have e2:=h2.dY;have hlt:=nU hn;rw[fQ,qS,eq_comm,decide_eq_true_eq]at hlt;obtain⟨hz,-⟩|⟨b,off,len,cap,hv,hl,hA,hb,hc⟩:=h1.Tx
 ·omega
 ·have hcell:=hc _ _ hp (by omega)
  cases hpi:P.info? e with
  |none=>simp[hpi]at hs
  |some ti =>
   simp only[hpi,Option.map_some,Option.some.injEq]at hs;have hlt2:n<(len:Int):=by omega
   refine⟨.pointer (some ⟨b,(off+n.toNat)+(0*1+0),none⟩),?_,.pure _ _ (.gT 1 _ 0 0 b (off+n.toNat) (fun _ _=>.int .i64 (bJ Ev.dL p)) hA hb ?_ ?_ ?_ ?_)⟩
   ·simp[execOp,ho,hv,e2,Instr.indexAt,asIntOf,run_underlying hu,h0,hlt2,sizeOf,typeInfo,hpi,hs,gB]
   ·intro q hq;simp at hq;subst hq;rfl
   ·intro i j y hy
    rcases i with _|i
    ·rcases j with _|j
     ·simp[fW]at hy;subst hy;exact afq p
     ·simp[fW]at hy
    ·simp[fW]at hy
   ·intro i j y hy
    rcases i with _|i
    ·rcases j with _|j
     ·simpa using hcell
     ·simp[fW]at hy
    ·simp[fW]at hy
   ·intro i j y hy
    rcases i with _|i
    ·rcases j with _|j
     ·simp[fW]at hy;subst hy;exact wS _ w p
     ·simp[fW]at hy
    ·simp[fW]at hy
end
end Mc
namespace Mc
section
variable {P:Program} {o:Oper} {f:List AV} {h:AH}
def gN (h:AH):AV→Option (List (List AV))
 | .emp=>some []
 | .lit _ aN=>some aN
 | .own T sz id i n=>match h id with
  | .cells T' sz' aN=>if T'=T∧sz'=sz∧i+n≤aN.length then some ((aN.drop i).take n)else none
  |_=>none
 |_=>none
def pC:AV→List Nat
 | .own _ _ id _ _=>[id]
 |_=>[]
theorem flat_get [Bk] [Ev] {aN:List (List AV)} {sz:Nat} (hsz:∀e∈aN,e.length=sz) {k:Nat} (hk:k<aN.length*sz):∃x,fW aN (k/sz) (k%sz)=some x:=by
 have h0:0<sz:=by
  rcases Nat.eq_zero_or_pos sz with h|h
  ·subst h;simp at hk
  ·exact h
 have h1:k/sz<aN.length:=(Nat.div_lt_iff_lt_mul h0).2 hk
 have h2:k%sz<sz:=Nat.mod_lt _ h0
 have h3:(aN[k/sz]).length=sz:=hsz _ (List.getElem_mem h1)
 exact⟨_,by simp[fW,List.getElem?_eq_getElem h1,List.getElem?_eq_getElem (show k%sz<(aN[k/sz]).length by omega)];rfl⟩
theorem qZ [Bk] [Ev] {aN:List (List AV)} {i n i' j:Nat} {x:AV} (h:fW ((aN.drop i).take n) i' j=some x):i'<n∧fW aN (i+i') j=some x:=by
 unfold fW at *
 rw[List.getElem?_take]at h;split at h
 ·rename_i hl
  rw[List.getElem?_drop]at h;exact⟨hl,h⟩
 ·cases h
theorem Rb [Bk] [Ev] {m:Nat→St} {A:Nat→Prop} {w:World} (H:bW m A h w) {x:AV} {v:Value} {aN:List (List AV)} {sz:Nat} (hr:Rd m A w x v) (he:gN h x=some aN) (hsz:∀e∈aN,e.length=sz) (hx:∀T s id i n,x=.own T s id i n→s=sz) :
  ∃a cap,v=.slice a aN.length cap∧aN.length≤cap∧(a=none→aN=[])∧∃news:List Value,news.length=aN.length*sz∧(∀ad,a=some ad→∀j u,news[j]?=some u→w.cell? (ad.add j)=some u)∧(∀u∈news,u.oneCell'=true) ∧
   ∀(i j:Nat) (y:AV),fW aN i j=some y→y.one=true∧Rd m A w y (news.getD (i*sz+j) Go.undef):=by
 have afp:∀news:List Value,news.length=aN.length*sz→(∀(i j:Nat) (y:AV),fW aN i j=some y→y.one=true∧Rd m A w y (news.getD (i*sz+j) Go.undef))→∀u∈news,u.oneCell'=true:=by
  intro news hl hn u hu;obtain⟨k,hk,rfl⟩:=List.getElem_of_mem hu;obtain⟨y,hy⟩:=flat_get hsz (k:=k) (by omega)
  obtain⟨h1,h2⟩:=hn _ _ _ hy;have e1:k/sz*sz+k%sz=k:=by rw[Nat.mul_comm];exact Nat.div_add_mod k sz
  rw[e1]at h2;have:=h2.one h1
  simpa[List.getD,hk]using this
 have nil:∀a cap,aN=[]→v=.slice a 0 cap→∃a cap,v=.slice a aN.length cap∧aN.length≤cap∧(a=none→aN=[])∧∃news:List Value,news.length=aN.length*sz∧(∀ad,a=some ad→∀j u,news[j]?=some u→w.cell? (ad.add j)=some u)∧(∀u∈news,u.oneCell'=true) ∧
   ∀(i j:Nat) (y:AV),fW aN i j=some y→y.one=true∧Rd m A w y (news.getD (i*sz+j) Go.undef):=by
  rintro a cap rfl rfl
  exact⟨a,cap,rfl,Nat.zero_le _,fun _=>rfl,[],by simp,by intro ad _ j u hu;simp at hu,by intro u hu;simp at hu,by intro i j y hy;simp[fW]at hy⟩
 cases x with
 |emp =>
  simp only[gN,Option.some.injEq]at he;cases hr with|pure _ _ hr=>cases hr with|emp a=>exact nil a 0 he.symm rfl
 |lit s els' =>
  simp only[gN,Option.some.injEq]at he;subst he;obtain⟨rfl,a,cap,rfl⟩|⟨b,off,cap,vs,rfl,hA,hb,hc,hs,k1,kv,kr⟩:=hr.nE
  ·exact nil a cap rfl rfl
  ·have hss:els'≠[]→s=sz:=by
    intro hne;obtain⟨e,r,rfl⟩:=List.exists_cons_of_ne_nil hne;rw[←hs e (by simp),hsz e (by simp)]
   by_cases hne:els'=[]
   ·subst hne;exact nil _ cap rfl rfl
   have:=hss hne
   subst this;have hl:((List.range (els'.length*s)).map fun k=>vs (k/s) (k%s)).length=els'.length*s:=by simp
   have hg:∀(i j:Nat) (y:AV),fW els' i j=some y→y.one=true∧Rd m A w y (((List.range (els'.length*s)).map fun k=>vs (k/s) (k%s)).getD (i*s+j) Go.undef):=by
    intro i j y hy;have hb2:=gU hy hsz;refine⟨k1 i j y hy,?_⟩
    have e1:(i*s+j)/s=i:=by
     rw[Nat.mul_comm,Nat.mul_add_div (by omega),Nat.div_eq_of_lt hb2.2.1];rfl
    have e2:(i*s+j)%s=j:=by rw[Nat.mul_comm,Nat.mul_add_mod,Nat.mod_eq_of_lt hb2.2.1]
    have:((List.range (els'.length*s)).map fun k=>vs (k/s) (k%s)).getD (i*s+j) Go.undef=vs i j:=by
     simp[List.getD,hb2.2.2,e1,e2]
    rw[this];exact .pure _ _ (kr i j y hy)
   refine⟨some ⟨b,off,none⟩,cap,rfl,hc,(fun h=>by cases h),(List.range (els'.length*s)).map fun k=>vs (k/s) (k%s),hl,?_,afp _ hl hg,hg⟩
   intro ad had j u hu;cases had;have hj:j<els'.length*s:=by have:=(List.getElem?_eq_some_iff.1 hu).1;rwa[hl]at this
   obtain⟨y,hy⟩:=flat_get hsz hj;have h1:=kv _ _ _ hy;have e1:j/s*s+j%s=j:=by rw[Nat.mul_comm];exact Nat.div_add_mod j s
   rw[e1]at h1;rw[gB,h1];simp[hj]at hu
   rw[←hu]
 |own T s id i n =>
  have:=hx T s id i n rfl
  subst this;simp only[gN]at he;split at he
  ·rename_i T' sz' els0 hh
   split at he
   ·rename_i hc
    obtain⟨rfl,rfl,hle⟩:=hc;cases he;rcases H.cells id _ _ _ hh with⟨hv,rfl⟩|⟨b,cs,g1,g2,g3,g4,g5⟩
    ·have hn:n=0:=by simp at hle;omega
     subst hn;have:∃a cap,v=.slice a 0 cap:=by
      cases hr with
      |pure _ _ h=>cases h
      |own _ _ _ _ _ b _ hm=>rw[hv]at hm;cases hm
      |sA _ _ _ _ a hm=>exact⟨a,0,rfl⟩
      |uD _ _ _ _ _ _ _ _ hm=>rw[hv]at hm;cases hm
     obtain⟨a,cap,rfl⟩:=this;exact nil a cap (by simp) rfl
    ·obtain⟨cap,rfl,hn,-,hrow⟩:=hr.pF g1
     have hlen:((els0.drop i).take n).length=n:=by simp;omega
     have hrow':(i+cap)*sz'=cs.size:=by rw[hrow];simp[dV,g2]
     have hmul:(i+n)*sz'≤els0.length*sz':=Nat.mul_le_mul_right _ hle
     have hl:((cs.toList.drop (i*sz')).take (n*sz')).length=((els0.drop i).take n).length*sz':=by
      rw[hlen];rw[Nat.add_mul]at hmul;simp
      omega
     have hg:∀(i' j:Nat) (y:AV),fW ((els0.drop i).take n) i' j=some y→y.one=true∧Rd m A w y (((cs.toList.drop (i*sz')).take (n*sz')).getD (i'*sz'+j) Go.undef):=by
      intro i' j y hy;obtain⟨k1,k2⟩:=qZ hy;have hb:=gU hy hsz;obtain⟨q1,q2⟩:=g5 _ _ _ k2;refine⟨q1,?_⟩
      rw[hlen]at hb;have:((cs.toList.drop (i*sz')).take (n*sz')).getD (i'*sz'+j) Go.undef=cs.getD ((i+i')*sz'+j) Go.undef:=by
       rw[List.getD,List.getElem?_take,if_pos hb.2.2,List.getElem?_drop];rw[show i*sz'+(i'*sz'+j)=(i+i')*sz'+j by rw[Nat.add_mul];omega]
       simp
      rw[this];exact q2
     refine⟨some ⟨b,i*sz',none⟩,cap,by rw[hlen],by rw[hlen];exact hn,(fun h=>by cases h),(cs.toList.drop (i*sz')).take (n*sz'),hl,?_,afp _ hl hg,hg⟩
     intro ad had j u hu;cases had;rw[gB];rw[List.getElem?_take]at hu;split at hu
     ·rw[List.getElem?_drop]at hu
      simp only[World.cell?,g2];simpa using hu
     ·cases hu
   ·cases he
  ·cases he
 |_=>simp[gN]at he
theorem ahP [Bk] [Ev] {t:TypeId} {x:Operand} {e:TypeId} {aN:List (List AV)} (ho:o.op=.call { callee:=.builtin .len,args:=#[x],argTypes:=#[t] }) (hu:P.underlying t=some (.slice e)) (he:gN h (dE f x)=some aN):dX P o f h ⟨.c (.int .i64 aN.length),[],pC (dE f x)⟩:=by
 refine bQ fun m A w a H F=>?_
 have h1:=F.eval x;have hlen:∃ad cap,a.eval x=.slice ad aN.length cap:=by
  generalize dE f x=y at h1 he
  generalize a.eval x=v at h1
  cases y with
  |emp =>
   simp only[gN,Option.some.injEq]at he;subst he
   cases h1 with|pure _ _ hr=>cases hr with|emp a=>exact⟨a,0,rfl⟩
  |lit s els' =>
   simp only[gN,Option.some.injEq]at he;subst he
   obtain⟨rfl,a,cap,rfl⟩|⟨b,off,cap,vs,rfl,-⟩:=h1.nE
   ·exact⟨a,cap,rfl⟩
   ·exact⟨_,cap,rfl⟩
  |own T s id i n =>
   simp only[gN]at he;split at he
   ·rename_i T' sz' els0 hh
    split at he
    ·rename_i hc
     obtain⟨rfl,rfl,hle⟩:=hc;cases he;have hlen:((els0.drop i).take n).length=n:=by simp;omega
     rw[hlen];rcases H.cells id _ _ _ hh with⟨hv,rfl⟩|⟨b,cs,g1,g2,g3,g4,g5⟩
     ·cases h1 with
      |pure _ _ h=>cases h
      |own _ _ _ _ _ b _ hm=>rw[hv]at hm;cases hm
      |sA _ _ _ _ a hm=>exact⟨a,0,rfl⟩
      |uD _ _ _ _ _ _ _ _ hm=>rw[hv]at hm;cases hm
     ·obtain⟨cap,rfl,-⟩:=h1.pF g1
      exact⟨_,cap,rfl⟩
    ·cases he
   ·cases he
  |_=>simp[gN]at he
 obtain⟨ad,cap,hv⟩:=hlen;refine⟨_,?_,.pure _ _ (.c _)⟩
 simp[execOp,ho,resolve,invoke,builtin,hv,Builtin.len_,run_underlying hu,goInt]
theorem R7 [Bk] [Ev] {t:TypeId} {x:Operand} {s:ByteArray} (ho:o.op=.call { callee:=.builtin .len,args:=#[x],argTypes:=#[t] }) (hu:P.underlying t=some .string) (hx:dE f x=.c (.string s)):dX P o f h ⟨.c (.int .i64 s.size),[],[]⟩:=by
 refine bQ fun m A w a H F=>?_
 have h1:=F.eval x;rw[hx]at h1;have e1:=h1.dY;refine⟨_,?_,.pure _ _ (.c _)⟩
 simp[execOp,ho,resolve,invoke,builtin,e1,Builtin.len_,run_underlying hu,goInt]
theorem afn [Bk] [Ev] {ts:Array TypeId} {x y:Operand} {k k':IntKind} {p q:Int} (ho:o.op=.call { callee:=.builtin .max,args:=#[x,y],argTypes:=ts }) (hx:dE f x=.c (.int k p)) (hy:dE f y=.c (.int k' q)):dX P o f h ⟨.c (.int k (if q > p then q else p)),[],[]⟩:=by
 refine bQ fun m A w a H F=>?_
 have h1:=F.eval x;rw[hx]at h1;have h2:=F.eval y;rw[hy]at h2;refine⟨_,?_,.pure _ _ (.c _)⟩
 simp[execOp,ho,resolve,invoke,builtin,h1.dY,h2.dY,Builtin.max_,Builtin.max2]
theorem afl [Bk] [Ev] {ts:Array TypeId} {x y:Operand} {k k':IntKind} {p q:Int} (ho:o.op=.call { callee:=.builtin .min,args:=#[x,y],argTypes:=ts }) (hx:dE f x=.c (.int k p)) (hy:dE f y=.c (.int k' q)):dX P o f h ⟨.c (.int k (if q<p then q else p)),[],[]⟩:=by
 refine bQ fun m A w a H F=>?_
 have h1:=F.eval x;rw[hx]at h1;have h2:=F.eval y;rw[hy]at h2;refine⟨_,?_,.pure _ _ (.c _)⟩
 simp[execOp,ho,resolve,invoke,builtin,h1.dY,h2.dY,Builtin.min_,Builtin.min2]
theorem afm [Bk] [Ev] {ts:Array TypeId} {x y z:Operand} {k k' k'':IntKind} {p q r:Int} (ho:o.op=.call { callee:=.builtin .max,args:=#[x,y,z],argTypes:=ts }) (hx:dE f x=.c (.int k p)) (hy:dE f y=.c (.int k' q)) (hz:dE f z=.c (.int k'' r)):dX P o f h ⟨.c (.int k (if r > (if q > p then q else p)then r else(if q > p then q else p))),[],[]⟩:=by
 refine bQ fun m A w a H F=>?_
 have h1:=F.eval x;rw[hx]at h1;have h2:=F.eval y;rw[hy]at h2;have h3:=F.eval z;rw[hz]at h3;refine⟨_,?_,.pure _ _ (.c _)⟩
 simp[execOp,ho,resolve,invoke,builtin,h1.dY,h2.dY,h3.dY,Builtin.max_,Builtin.max2]
theorem LQ [Bk] [Ev] {t:TypeId} {x:Operand} {k k':IntKind} {hi mx:Operand} {aN:List (List AV)} (ho:o.op=.slice t x none (some hi) (some mx)) (hu:P.underlying t=some (.slice (P.elem t))) (hs:(P.info? (P.elem t)).isSome=true) (he:gN h (dE f x)=some aN) (h0:dE f hi=.c (.int k 0)) (h1:dE f mx=.c (.int k' 0)) :
  dX P o f h ⟨.emp,[],pC (dE f x)⟩:=by
 refine bQ fun m A w a H F=>?_
 have g1:=F.eval hi;rw[h0]at g1;have g2:=F.eval mx;rw[h1]at g2;have g3:=F.eval x;have hv:∃ad n cap,a.eval x=.slice ad n cap:=by
  generalize dE f x=y at g3 he
  generalize a.eval x=v at g3
  cases y with
  |emp=>cases g3 with|pure _ _ hr=>cases hr with|emp a=>exact⟨a,0,0,rfl⟩
  |lit s els' =>
   obtain⟨rfl,a,cap,rfl⟩|⟨b,off,cap,vs,rfl,-⟩:=g3.nE
   ·exact⟨a,_,cap,rfl⟩
   ·exact⟨_,_,cap,rfl⟩
  |own T s id i n =>
   cases g3 with
   |pure _ _ h=>cases h
   |own _ _ _ _ _ b cap=>exact⟨_,_,cap,rfl⟩
   |sA _ _ _ _ a=>exact⟨a,_,_,rfl⟩
   |uD=>exact⟨_,_,_,rfl⟩
  |_=>simp[gN]at he
 obtain⟨ad,n,cap,hv⟩:=hv;cases hp:P.info? (P.elem t)with
 |none=>simp[hp]at hs
 |some ti =>
  refine⟨.slice (if(0:Nat)=0 then ad else ad.map (·.add (0*ti.size))) 0 0,?_,?_⟩
  ·have r1:=run_sliceAt_slice (P:=P) w t (.slice ad n cap) none (some (.int k 0)) (some (.int k' 0)) hu
   have r2:=run_slice_hm (P:=P) w t ad n cap hu k k' 0 0 (by omega) (by omega) (by omega)
   rw[r2]at r1;simp[execOp,ho,hv,g1.dY,g2.dY,r1,sizeOf,typeInfo,hp,sliced]
  ·exact .pure _ _ (.emp _)
theorem R9 [Bk] [Ev] {t:TypeId} {x:Operand} {e:TypeId} {n:Poly} {xs:List Poly} (ho:o.op=.call { callee:=.builtin .len,args:=#[x],argTypes:=#[t] }) (hu:P.underlying t=some (.slice e)) (hx:dE f x=.row n xs):dX P o f h ⟨AN n,[],[]⟩:=by
 refine bQ fun m A w a H F=>?_
 have h1:=F.eval x;rw[hx]at h1;refine⟨_,?_,.pure _ _ (wS _ w n)⟩
 obtain⟨hz,ad,cap,hv⟩|⟨b,off,len,cap,hv,hl,-⟩:=h1.Tx
 ·simp[execOp,ho,resolve,invoke,builtin,hv,Builtin.len_,run_underlying hu,goInt,hz]
 ·simp[execOp,ho,resolve,invoke,builtin,hv,Builtin.len_,run_underlying hu,goInt,hl]
def ES [Bk] (p q:Poly):Option Poly:=match Oe (pM p q)with
 |some b=>some (if b then q else p)
 |none=>findD 2 p q Bk.defs
theorem XY [Bk] [Ev] {p q r:Poly} (h:ES p q=some r):bJ Ev.dL r=if bJ Ev.dL q > bJ Ev.dL p then bJ Ev.dL q else bJ Ev.dL p:=by
 unfold ES at h;split at h
 ·rename_i b hb
  cases h;have k:=nU hb;rw[fQ]at k;cases b
  ·have:=of_decide_eq_false k.symm
   show bJ Ev.dL p=_
   split<;>omega
  ·have:=of_decide_eq_true k.symm
   show bJ Ev.dL q=_
   split<;>omega
 ·have hd:bJ Ev.dL r=max (bJ Ev.dL p) (bJ Ev.dL q):=(Ev.defs _ (BJ h)).2.2 rfl
  rw[hd];split<;>omega
def ER [Bk] (p q:Poly):Option Poly:=(Oe (pM q p)).map fun b=>if b then q else p
theorem XX [Bk] [Ev] {p q r:Poly} (h:ER p q=some r):bJ Ev.dL r=if bJ Ev.dL q<bJ Ev.dL p then bJ Ev.dL q else bJ Ev.dL p:=by
 unfold ER at h;rw[Option.map_eq_some_iff]at h;obtain⟨b,hb,rfl⟩:=h;have k:=nU hb;rw[fQ]at k;cases b
 ·have:=of_decide_eq_false k.symm
  show bJ Ev.dL p=_
  split<;>omega
 ·have:=of_decide_eq_true k.symm
  show bJ Ev.dL q=_
  split<;>omega
theorem R4 [Bk] [Ev] {ts:Array TypeId} {x y:Operand} {p q r:Poly} (ho:o.op=.call { callee:=.builtin .max,args:=#[x,y],argTypes:=ts }) (hx:toP (dE f x)=some p) (hy:toP (dE f y)=some q) (hr:ES p q=some r):dX P o f h ⟨AN r,[],[]⟩:=by
 refine bQ fun m A w a H F=>?_
 have e1:=toP_ok hx (F.eval x)
 have e2:=toP_ok hy (F.eval y)
 refine⟨_,?_,.pure _ _ (wS _ w r)⟩
 rw[XY hr];simp[execOp,ho,resolve,invoke,builtin,e1,e2,Builtin.max_,Builtin.max2]
theorem R0 [Bk] [Ev] {ts:Array TypeId} {x y:Operand} {p q r:Poly} (ho:o.op=.call { callee:=.builtin .min,args:=#[x,y],argTypes:=ts }) (hx:toP (dE f x)=some p) (hy:toP (dE f y)=some q) (hr:ER p q=some r):dX P o f h ⟨AN r,[],[]⟩:=by
 refine bQ fun m A w a H F=>?_
 have e1:=toP_ok hx (F.eval x)
 have e2:=toP_ok hy (F.eval y)
 refine⟨_,?_,.pure _ _ (wS _ w r)⟩
 rw[XX hr];simp[execOp,ho,resolve,invoke,builtin,e1,e2,Builtin.min_,Builtin.min2]
end
end Mc
namespace Mc
section
variable {P:Program} {o:Oper} {f:List AV} {h:AH}
theorem bW.kill [Bk] [Ev] {m:Nat→St} {A:Nat→Prop} {w:World} (H:bW m A h w) {id:Nat} (hv:m id=.rW) :
  bW (sset m id .dead) A (cJ h id .dead) w∧Ext m w (sset m id .dead) w:=by
 have E:Ext m w (sset m id .dead) w:=by
  refine⟨rfl,rfl,rfl,Nat.le_refl _,?_,?_,?_,?_,fun _ _ _ _=>rfl⟩
  ·intro k b hb
   unfold sset;split
   ·exact .inr rfl
   ·exact .inl hb
  ·intro k hk
   unfold sset;split
   ·rfl
   ·exact hk
  ·intro k hk
   unfold sset;split
   ·exact .inr rfl
   ·exact .inl hk
  ·intro b hb hu
   refine⟨?_,rfl⟩
   intro k;unfold sset;split
   ·intro e;cases e
   ·exact hu k
 refine⟨⟨?_,H.El,?_,?_,?_,?_,H.kI.ext H.out E,H.kX E fun id' B hk hB=>?_,mK.set H.PR trivial⟩,E⟩
 ·intro k b hb
  unfold sset at hb;split at hb
  ·cases hb
  ·exact H.out k b hb
 ·intro k hk
  unfold cJ at hk;unfold sset;split at hk
  ·cases hk
  ·rename_i hne;rw[if_neg hne];exact H.no k hk
 ·intro k hk
  unfold cJ at hk;unfold sset;split at hk
  ·rename_i he;rw[if_pos he]
  ·rename_i hne;rw[if_neg hne];exact H.dead k hk
 ·intro k T' sz' els' hk
  unfold cJ at hk;split at hk
  ·simp[bY.aN]at hk
  ·rename_i hne
   obtain⟨g1,g2⟩|⟨b,cs,g1,g2,g3,g4,g5⟩:=H.rL k T' sz' els' hk
   ·exact .inl ⟨by simp[sset,hne,g1],g2⟩
   ·exact .inr ⟨b,cs,by simp[sset,hne,g1],g2,g3,g4,fun i j x hx=>⟨(g5 i j x hx).1,(g5 i j x hx).2.ext E⟩⟩
 ·intro i j b hi hj
  unfold sset at hi hj;split at hi
  ·cases hi
  ·split at hj
   ·cases hj
   ·exact H.inj i j b hi hj
 ·unfold cJ at hk;split at hk
  ·subst hk;exact absurd hB (by simp[bY.other])
  ·rename_i hne
   exact⟨hk,fun b hb=>⟨by simp[sset,hne,hb],rfl⟩⟩
theorem bW.EK [Bk] [Ev] {m:Nat→St} {A:Nat→Prop} {w:World} (H:bW m A h w) {id:Nat} (hid:h id=.no) {B:bY} {T sz:Nat} (hB:B.aN=some (T,sz,[])) (hS:mK B) :
  bW (sset m id .rW) A (cJ h id B) w∧Ext m w (sset m id .rW) w:=by
 have hmid:=H.no id hid;have ne:∀{k:Nat} {s:St},m k=s→s≠.no→k≠id:=by rintro k s h1 h2 rfl;rw[hmid]at h1;exact h2 h1.symm
 have E:Ext m w (sset m id .rW) w:=by
  refine⟨rfl,rfl,rfl,Nat.le_refl _,?_,?_,?_,?_,fun _ _ _ _=>rfl⟩
  ·intro k b hb
   exact .inl (by rw[sset,if_neg (ne hb (by simp))];exact hb)
  ·intro k hk
   rw[sset,if_neg (ne hk (by simp))];exact hk
  ·intro k hk
   exact .inl (by rw[sset,if_neg (ne hk (by simp))];exact hk)
  ·intro b hb hu
   refine⟨?_,rfl⟩
   intro k;unfold sset;split
   ·intro e;cases e
   ·exact hu k
 refine⟨⟨?_,H.El,?_,?_,?_,?_,H.kI.ext H.out E,H.kX E fun id' B1 hk hB1=>?_,mK.set H.PR hS⟩,E⟩
 ·intro k b hb
  unfold sset at hb;split at hb
  ·cases hb
  ·exact H.out k b hb
 ·intro k hk
  unfold cJ at hk;unfold sset;split at hk
  ·exact absurd hk (bY.xZ hB).1
  ·rename_i hne;rw[if_neg hne];exact H.no k hk
 ·intro k hk
  unfold cJ at hk;unfold sset;split at hk
  ·exact absurd hk (bY.xZ hB).2
  ·rename_i hne;rw[if_neg hne];exact H.dead k hk
 ·intro k T' sz' els' hk
  unfold cJ at hk;split at hk
  ·rename_i he;rw[hB]at hk;cases hk;exact .inl ⟨by simp[sset,he],rfl⟩
  ·rename_i hne
   obtain⟨g1,g2⟩|⟨b,cs,g1,g2,g3,g4,g5⟩:=H.rL k T' sz' els' hk
   ·exact .inl ⟨by simp[sset,hne,g1],g2⟩
   ·exact .inr ⟨b,cs,by simp[sset,hne,g1],g2,g3,g4,fun i j x hx=>⟨(g5 i j x hx).1,(g5 i j x hx).2.ext E⟩⟩
 ·intro i j b hi hj
  unfold sset at hi hj;split at hi
  ·cases hi
  ·split at hj
   ·cases hj
   ·exact H.inj i j b hi hj
 ·unfold cJ at hk;split at hk
  ·subst hk;rw[bY.zA hB]at hB1;cases hB1
  ·rename_i hne
   exact⟨hk,fun b hb=>⟨by simp[sset,hne,hb],rfl⟩⟩
theorem bW.Tk [Bk] [Ev] {m:Nat→St} {A:Nat→Prop} {w:World} (H:bW m A h w) {id:Nat} (hid:h id=.no) (T sz:Nat) :
  bW (sset m id .rW) A (cJ h id (.cells T sz [])) w∧Ext m w (sset m id .rW) w:=H.EK hid (T:=T) (sz:=sz) rfl trivial
theorem bW.ab3 [Bk] [Ev] {m:Nat→St} {A:Nat→Prop} {w w':World} (H:bW m A h w) {id nx T sz b g:Nat} {els':List (List AV)} {cs':Array Value} {B:bY} (hB:B.aN=some (T,sz,els')) (hS:mK B) (hb:m id=.at b) (hnx:h nx=.no) (hgr:w.grownBy w' (some b)) (hg:g=b∨w.heap.size≤g) (hglt:g<w'.heap.size)
  (hw:w'.heap[g]?=some (.cells cs' T (0,0))) (h3:els'.length*sz≤cs'.size) (h4:∀e∈els',e.length=sz)
  (h5:∀(i j:Nat) (x:AV),fW els' i j=some x→x.one=true∧Rd m A w x (cs'.getD (i*sz+j) Go.undef)) :
  bW (sset (sset m id .dead) nx (.at g)) A (cJ (cJ h id .dead) nx B) w'∧Ext m w (sset (sset m id .dead) nx (.at g)) w':=by
 have hmnx:=H.no nx hnx;have hne:nx≠id:=by rintro rfl;rw[hb]at hmnx;cases hmnx
 have hblt:=H.lt hb;have get:∀k,k≠nx→k≠id→sset (sset m id .dead) nx (.at g) k=m k:=by intro k h1 h2;simp[sset,h1,h2]
 have gnx:sset (sset m id .dead) nx (.at g) nx=.at g:=by simp[sset]
 have gid:sset (sset m id .dead) nx (.at g) id=.dead:=by simp[sset,hne.symm]
 have El:∀k b',m k=.at b'→k≠id→b'≠b∧w'.heap[b']?=w.heap[b']?:=by
  intro k b' hk hki;have hn:b'≠b:=by rintro rfl;exact hki (H.inj k id b' hk hb)
  exact⟨hn,hgr.block b' (H.lt hk) (by simpa using hn)⟩
 have E:Ext m w (sset (sset m id .dead) nx (.at g)) w':=by
  refine⟨hgr.os,hgr.tape,hgr.output,hgr.size,?_,?_,?_,?_,?_⟩
  ·intro k b' hk
   by_cases e1:k=id
   ·subst e1;exact .inr gid
   ·have e2:k≠nx:=by rintro rfl;rw[hmnx]at hk;cases hk
    exact .inl (by rw[get k e2 e1];exact hk)
  ·intro k hk
   have e1:k≠id:=by rintro rfl;rw[hb]at hk;cases hk
   have e2:k≠nx:=by rintro rfl;rw[hmnx]at hk;cases hk
   rw[get k e2 e1];exact hk
  ·intro k hk
   have e1:k≠id:=by rintro rfl;rw[hb]at hk;cases hk
   have e2:k≠nx:=by rintro rfl;rw[hmnx]at hk;cases hk
   exact .inl (by rw[get k e2 e1];exact hk)
  ·intro b' hb' hu
   have hn:b'≠b:=by rintro rfl;exact hu id hb
   refine⟨?_,hgr.block b' hb' (by simpa using hn)⟩
   intro k hk;by_cases e2:k=nx
   ·subst e2;rw[gnx]at hk;cases hk;omega
   ·by_cases e1:k=id
    ·subst e1;rw[gid]at hk;cases hk
    ·rw[get k e2 e1]at hk;exact hu k hk
  ·intro k b' hk hk'
   have e1:k≠id:=by rintro rfl;rw[gid]at hk';cases hk'
   simp[dV,(El k b' hk e1).2]
 refine⟨⟨?_,fun b' hb'=>by have:=H.El b' hb';have:=hgr.size;omega,?_,?_,?_,?_,H.kI.ext H.out E,H.kX E fun k B1 hk hB1=>?_,mK.set (mK.set H.PR trivial) hS⟩,E⟩
 ·intro k b' hk hA
  by_cases e2:k=nx
  ·subst e2;rw[gnx]at hk;cases hk
   rcases hg with rfl|hg
   ·exact H.out id _ hb hA
   ·have:=H.El _ hA;omega
  ·by_cases e1:k=id
   ·subst e1;rw[gid]at hk;cases hk
   ·rw[get k e2 e1]at hk;exact H.out k b' hk hA
 ·intro k hk
  by_cases e2:k=nx
  ·subst e2;rw[mR]at hk;exact absurd hk (bY.xZ hB).1
  ·by_cases e1:k=id
   ·subst e1;simp[cJ,e2]at hk
   ·rw[get k e2 e1];simp[cJ,e2,e1]at hk;exact H.no k hk
 ·intro k hk
  by_cases e2:k=nx
  ·subst e2;rw[mR]at hk;exact absurd hk (bY.xZ hB).2
  ·by_cases e1:k=id
   ·subst e1;exact gid
   ·rw[get k e2 e1];simp[cJ,e2,e1]at hk;exact H.dead k hk
 ·intro k T' sz' els'' hk
  by_cases e2:k=nx
  ·subst e2
   rw[mR,hB]at hk;cases hk;exact .inr ⟨g,cs',gnx,hw,h3,h4,fun i j x hx=>⟨(h5 i j x hx).1,(h5 i j x hx).2.ext E⟩⟩
  ·by_cases e1:k=id
   ·subst e1;simp[cJ,e2,bY.aN]at hk
   ·simp[cJ,e2,e1]at hk
    obtain⟨g1,g2⟩|⟨b',cs,g1,g2,g3,g4,g5⟩:=H.rL k T' sz' els'' hk
    ·exact .inl ⟨by rw[get k e2 e1];exact g1,g2⟩
    ·exact .inr ⟨b',cs,by rw[get k e2 e1];exact g1,by rw[(El k b' g1 e1).2];exact g2,g3,g4,fun i j x hx=>⟨(g5 i j x hx).1,(g5 i j x hx).2.ext E⟩⟩
 ·intro i j b' hi hj
  have key:∀k,sset (sset m id .dead) nx (.at g) k=.at b'→(k=nx∧b'=g)∨(k≠nx∧k≠id∧m k=.at b'):=by
   intro k hk;by_cases e2:k=nx
   ·subst e2;rw[gnx]at hk;cases hk;exact .inl ⟨rfl,rfl⟩
   ·by_cases e1:k=id
    ·subst e1;rw[gid]at hk;cases hk
    ·rw[get k e2 e1]at hk;exact .inr ⟨e2,e1,hk⟩
  rcases key i hi with⟨a1,a2⟩|⟨a1,a2,a3⟩<;>rcases key j hj with⟨c1,c2⟩|⟨c1,c2,c3⟩
  ·rw[a1,c1]
  ·exfalso
   have:=(El j b' c3 c2).1
   have:=H.lt c3
   rcases hg with hg|hg<;>omega
  ·exfalso
   have:=(El i b' a3 a2).1
   have:=H.lt a3
   rcases hg with hg|hg<;>omega
  ·exact H.inj i j b' a3 c3
 ·by_cases e2:k=nx
  ·subst e2;simp only[cJ,if_true]at hk;subst hk;rw[bY.zA hB]at hB1;cases hB1
  ·by_cases e1:k=id
   ·subst e1;simp only[cJ,if_neg e2,if_true]at hk;subst hk;exact absurd hB1 (by simp[bY.other])
   ·simp only[cJ,if_neg e2,if_neg e1]at hk
    exact⟨hk,fun b' hb'=>⟨by rw[get k e2 e1];exact hb',(El k b' hb' e1).2⟩⟩
theorem bW.renew [Bk] [Ev] {m:Nat→St} {A:Nat→Prop} {w w':World} (H:bW m A h w) {id nx T sz b g:Nat} {aN els':List (List AV)} {cs':Array Value} (hh:h id=.cells T sz aN) (hb:m id=.at b) (hnx:h nx=.no) (hgr:w.grownBy w' (some b)) (hg:g=b∨w.heap.size≤g) (hglt:g<w'.heap.size)
  (hw:w'.heap[g]?=some (.cells cs' T (0,0))) (h3:els'.length*sz≤cs'.size) (h4:∀e∈els',e.length=sz)
  (h5:∀(i j:Nat) (x:AV),fW els' i j=some x→x.one=true∧Rd m A w x (cs'.getD (i*sz+j) Go.undef)) :
  bW (sset (sset m id .dead) nx (.at g)) A (cJ (cJ h id .dead) nx (.cells T sz els')) w'∧Ext m w (sset (sset m id .dead) nx (.at g)) w':=H.ab3 rfl trivial hb hnx hgr hg hglt hw h3 h4 h5
theorem SY [Bk] [Ev] {xs ys:List (List AV)} {i j:Nat} {x:AV} (h:fW (xs++ys) i j=some x):(i<xs.length∧fW xs i j=some x)∨(xs.length≤i∧fW ys (i-xs.length) j=some x):=by
 unfold fW at *
 rcases Nat.lt_or_ge i xs.length with hl|hl
 ·rw[List.getElem?_append_left hl]at h;exact .inl ⟨hl,h⟩
 ·rw[List.getElem?_append_right hl]at h;exact .inr ⟨hl,h⟩
theorem HH [Bk] [Ev] {R:AV→Value→Prop} {xs ys:List (List AV)} {sz:Nat} (hx:∀e∈xs,e.length=sz) {us vs:List Value} (hl:us.length=xs.length*sz)
  (h1:∀(i j:Nat) (x:AV),fW xs i j=some x→x.one=true∧R x (us.getD (i*sz+j) Go.undef)) (h2:∀(i j:Nat) (x:AV),fW ys i j=some x→x.one=true∧R x (vs.getD (i*sz+j) Go.undef)) :
  ∀(i j:Nat) (x:AV),fW (xs++ys) i j=some x→x.one=true∧R x ((us++vs).getD (i*sz+j) Go.undef):=by
 intro i j x h;rcases SY h with⟨a,b⟩|⟨a,b⟩
 ·have hb:=gU b hx
  have:=h1 i j x b
  rw[List.getD,List.getElem?_append_left (by omega)]
  exact this
 ·have:=h2 _ _ _ b
  have hmul:xs.length*sz≤i*sz:=Nat.mul_le_mul_right _ a
  rw[List.getD,List.getElem?_append_right (by omega)]
  have e:i*sz+j-us.length=(i-xs.length)*sz+j:=by rw[hl,Nat.sub_mul];omega
  rw[e];exact this
theorem xF [Bk] [Ev] (a0:Option Addr) (t ty e:TypeId) (i:TypeInfo) (z:Value) (ht:P.underlying t=some (.slice e)) (hi:P.info? e=some i) (hz:i.zero=some z) (w:World)
  (a:Addr) (n c:Nat) (news:List Value) (hl:news.length=n*i.size) (hnews:∀j v,news[j]?=some v→w.cell? (a.add j)=some v)
  (h0:0<n) (h63:(n:Int)≤9223372036854775807) (h48:n*i.bytes≤140737488355328) :
  (Builtin.append_ #[t,t] ty #[.slice a0 0 0,.slice (some a) n c]).run P w =
   .ok (.slice (some ⟨w.heap.size,0,none⟩) n (grownCap w n 0 e)) (w.drew.alloc (.cells (news.toArray++Builtin.zeroCells z.cells (grownCap w n 0 e-n)) e)):=by
 cases a0 with
 |none=>exact run_append_nil w t ty e i z ht hi hz a n c news hl hnews h0 h63 (by omega)
 |some b =>
  have:=run_append_grow (P:=P) w t ty e i z ht hi hz b 0 0 [] (by simp) (by intro j v hv;simp at hv) a n c news hl hnews (by omega) (by simpa using h63) (by rw[Nat.zero_add,nextslicecap_zero h0];omega)
  simpa using this
theorem lR [Bk] [Ev] (v:Value) (a0 a1:Option Addr) (n cap c1:Nat) (t ty e:TypeId) (i:TypeInfo) (ht:P.underlying t=some (.slice e)) (hi:P.info? e=some i) (w:World) (hn:n≤cap) (h0:a0=none→n=0) :
  (Builtin.append_ #[t,t] ty #[.slice a0 n cap,.slice a1 0 c1]).run P w=.ok (.slice a0 n cap) w:=by
 cases a0<;>cases a1<;>simp[Builtin.append_,run_underlying ht,sizeOf,typeInfo,hi,Builtin.lenOf,Builtin.firstCells,hn,storeCells,loadCells,loadCellsFrom]
def tS (h:AH) (e sz:Nat):AV→Option (List (List AV)×List (Nat×bY)×List Nat)
 | .emp=>some ([],[],[])
 | .own T s id 0 n=>match h id with
  | .cells T' s' aN=>if T'=T∧s'=s∧T=e∧s=sz∧n=aN.length then some (aN,[(id,.dead)],[id])else none
  |_=>none
 |_=>none
theorem H8 [Bk] [Ev] {t e:TypeId} {x y:Operand} {aN ys:List (List AV)} {k:List (Nat×bY)} {rd:List Nat} {i:TypeInfo} {z:Value} {nx:Nat} (ho:o.op=.call { callee:=.builtin .append,args:=#[x,y],argTypes:=#[t,t] }) (ht:P.underlying t=some (.slice e)) (hi:P.info? e=some i) (hz:i.zero=some z) (hzs:z.cells.size=i.size) (hs0:0<i.size)
  (hx:tS h e i.size (dE f x)=some (aN,k,rd)) (hy:gN h (dE f y)=some ys) (hys:∀q∈ys,q.length=i.size) (hyo:∀T s id j n,dE f y=.own T s id j n→s=i.size) (hb:(aN.length+ys.length)*i.bytes≤140737488355328) (hm:aN.length+ys.length≤1099511627776) (hnx:h nx=.no) :
  dX P o f h ⟨.own e i.size nx 0 (aN.length+ys.length),k++[(nx,.cells e i.size (aN++ys))],nx::rd++pC (dE f y)⟩:=by
 intro m A w a H F;have gx:=F.eval x;have gy:=F.eval y;obtain⟨a1,c1,hv1,hc1,hn1,news,hl,hnews,hone,hrd⟩:=Rb H gy hy hys hyo;have hexec:∀v w',(Builtin.append_ #[t,t] o.type #[a.eval x,a.eval y]).run P w=.ok v w'→(execOp a.eval o).run P w=.ok (.value v) w':=by
  intro v w' hr;simp[execOp,ho,resolve,invoke,builtin,hr]
 have fresh:∀(m1:Nat→St) (h1:AH) (hk:eW h (k++[(nx,.cells e i.size (aN++ys))])=cJ h1 nx (.cells e i.size ys)) (H1:bW m1 A h1 w) (E1:Ext m w m1 w) (hnx1:h1 nx=.no) (a0:Option Addr) (hv0:a.eval x=.slice a0 0 0) (he:aN=[]),
   ∃x' w' m',((execOp a.eval o).run P w=.ok (.value x') w'∨((execOp a.eval o).run P w=.ok .skip w'∧x'=Go.undef))∧bW m' A (eW h (k++[(nx,.cells e i.size (aN++ys))])) w'∧Rd m' A w' (.own e i.size nx 0 (aN.length+ys.length)) x'∧Ext m w m' w':=by
  intro m1 h1 hk H1 E1 hnx1 a0 hv0 he;subst he;rw[hk];rw[hv0,hv1]at hexec;simp only[List.length_nil,Nat.zero_add]at hm hb ⊢;by_cases hys0:ys=[]
  ·subst hys0
   have hr:=lR (P:=P) (.slice a0 0 0) a0 a1 0 0 c1 t o.type e i ht hi w (Nat.le_refl _) (fun _=>rfl)
   obtain⟨q1,q2⟩:=H1.Tk hnx1 e i.size;refine⟨_,w,_,.inl (hexec _ _ hr),q1,?_,E1.trans q2⟩
   exact .sA e i.size nx 0 a0 (by simp[sset])
  ·have hpos:0<ys.length:=List.length_pos_iff.2 hys0
   obtain⟨ad,rfl⟩:∃ad,a1=some ad:=by
    cases a1 with
    |none=>exact absurd (hn1 rfl) hys0
    |some ad=>exact⟨ad,rfl⟩
   have hr:=xF (P:=P) a0 t o.type e i z ht hi hz w ad ys.length c1 news hl (fun j v hv=>hnews ad rfl j v hv) hpos (by omega) hb
   have hcap:ys.length≤grownCap w ys.length 0 e∧grownCap w ys.length 0 e≤maxLen:=by
    unfold grownCap Question.cut;have:=Nat.mod_lt (w.tape w.drawn (.appendCap ys.length 0 e)) (show 0<2 ^ 63-ys.length by omega)
    simp only[maxLen];omega
   have hsize:(news.toArray++Builtin.zeroCells z.cells (grownCap w ys.length 0 e-ys.length)).size=grownCap w ys.length 0 e*i.size:=by
    simp only[Array.size_append,List.size_toArray,hl,Builtin.zeroCells,Array.size_map,Array.size_range,hzs];rw[←Nat.add_mul];congr 1;omega
   obtain⟨d1,d2⟩:=H1.drew;obtain⟨q1,q2⟩:=d1.alloc (id:=nx) (T:=e) (sz:=i.size) (aN:=ys) (cs:=news.toArray++Builtin.zeroCells z.cells (grownCap w ys.length 0 e-ys.length)) hnx1 (by rw[hsize];exact Nat.mul_le_mul_right _ hcap.1) hys (by
    intro i' j y hy';obtain⟨r1,r2⟩:=hrd i' j y hy';have hb2:=gU hy' hys;have e1:(news.toArray++Builtin.zeroCells z.cells (grownCap w ys.length 0 e-ys.length)).getD (i'*i.size+j) Go.undef=news.getD (i'*i.size+j) Go.undef:=by
     have hlt:i'*i.size+j<news.length:=by omega
     simp[Array.getElem?_append,hlt,List.getD]
    rw[e1];exact⟨r1,(r2.ext E1).ext d2⟩)
   refine⟨_,_,_,.inl (hexec _ _ hr),q1,?_,(E1.trans d2).trans q2⟩
   have:=Rd.own (m:=sset m1 nx (.at w.drew.heap.size)) (A:=A) (w:=w.drew.alloc (.cells (news.toArray++Builtin.zeroCells z.cells (grownCap w ys.length 0 e-ys.length)) e)) e i.size nx 0 ys.length w.heap.size (grownCap w ys.length 0 e) (by simp[sset]) (by simp) hcap.1 hcap.2 (by
    rw[Nat.zero_add,←hsize];have:(w.drew.alloc (.cells (news.toArray++Builtin.zeroCells z.cells (grownCap w ys.length 0 e-ys.length)) e)).heap[w.heap.size]?=some (.cells (news.toArray++Builtin.zeroCells z.cells (grownCap w ys.length 0 e-ys.length)) e (0,0)):=by
     show(w.heap.push _)[w.heap.size]?=_
     simp
    unfold dV;rw[this])
   simpa using this
 unfold tS at hx;split at hx
 ·rename_i hax
  simp only[Option.some.injEq,Prod.mk.injEq]at hx;obtain⟨rfl,rfl,rfl⟩:=hx;rw[hax]at gx;obtain⟨a0,hv0⟩:∃a0,a.eval x=.slice a0 0 0:=by
   generalize a.eval x=v at gx
   cases gx with|pure _ _ hr=>cases hr with|emp a0=>exact⟨a0,rfl⟩
  exact fresh m h (by simp[eW]) H (Ext.refl _ _) hnx a0 hv0 rfl
 ·rename_i T s id n hax
  split at hx
  ·rename_i T' s' els0 hh
   split at hx
   ·rename_i hc
    obtain⟨rfl,rfl,rfl,rfl,rfl⟩:=hc;simp only[Option.some.injEq,Prod.mk.injEq]at hx;obtain⟨rfl,rfl,rfl⟩:=hx;rw[hax]at gx;have hne:nx≠id:=by rintro rfl;rw[hh]at hnx;cases hnx
    rcases H.cells id _ _ _ hh with⟨hv,rfl⟩|⟨b,cs,g1,g2,g3,g4,g5⟩
    ·obtain⟨a0,hv0⟩:∃a0,a.eval x=.slice a0 0 0:=by
      generalize a.eval x=v at gx
      cases gx with
      |pure _ _ h=>cases h
      |own _ _ _ _ _ b _ hm=>rw[hv]at hm;cases hm
      |sA _ _ _ _ a hm=>exact⟨a,rfl⟩
      |uD _ _ _ _ _ _ _ _ hm=>rw[hv]at hm;cases hm
     obtain⟨q1,q2⟩:=H.kill hv;exact fresh _ (cJ h id .dead) (by simp[eW]) q1 q2 (by rw[fU h _ hne];exact hnx) a0 hv0 rfl
    ·obtain⟨cap,hv0,hn0,hcm,hrow⟩:=gx.pF g1
     have hrow':cap*i.size=cs.size:=by rw[Nat.zero_add]at hrow;rw[hrow];simp[dV,g2]
     have hown:w.ownsRow 0 T' i.size (.slice (some ⟨b,0,none⟩) els0.length cap) els0.length (cs.toList.take (els0.length*i.size)):=by
      refine⟨by simp;omega,.inr ⟨b,cap,cs,rfl,Nat.zero_le _,g2,hn0,hcm,hrow'.symm,rfl⟩⟩
     rw[hv0,hv1]at hexec;simp only[Nat.zero_mul]at hexec;have hus:(cs.toList.take (els0.length*i.size)).length=els0.length*i.size:=by simp;omega
     have hrd0:∀(i' j:Nat) (y:AV),fW els0 i' j=some y→y.one=true∧Rd m A w y ((cs.toList.take (els0.length*i.size)).getD (i'*i.size+j) Go.undef):=by
      intro i' j y hy';have hb2:=gU hy' g4;have:=g5 i' j y hy'
      rw[List.getD,List.getElem?_take,if_pos hb2.2.2];simpa using this
     have hjoin:=HH (R:=Rd m A w) (ys:=ys) g4 (us:=cs.toList.take (els0.length*i.size)) (vs:=news) hus hrd0 hrd
     have hall:∀q∈els0++ys,q.length=i.size:=by
      intro q hq;rcases List.mem_append.1 hq with h|h
      ·exact g4 q h
      ·exact hys q h
     have fin:∀(v':Value) (w':World),(Builtin.append_ #[t,t] o.type #[.slice (some ⟨b,0,none⟩) els0.length cap,.slice a1 ys.length c1]).run P w=.ok v' w'→w'.ownsRow 0 T' i.size v' (els0.length+ys.length) (cs.toList.take (els0.length*i.size)++news)→w.grownBy w' (some b) →
       (v'.ownBlock=some b∨v'.ownBlock=some w.heap.size) →
       ∃x' w' m',((execOp a.eval o).run P w=.ok (.value x') w'∨((execOp a.eval o).run P w=.ok .skip w'∧x'=Go.undef))∧bW m' A (eW h ([(id,.dead)]++[(nx,.cells T' i.size (els0++ys))])) w'∧Rd m' A w' (.own T' i.size nx 0 (els0.length+ys.length)) x'∧Ext m w m' w':=by
      intro v' w' hr ho' hgr hblk;obtain⟨ho1,ho2|⟨g,cap',cur,rfl,-,hg,hnc,hcm',Ep,htake⟩⟩:=ho'
      ·obtain⟨rfl,-⟩:=ho2
       simp[Value.ownBlock]at hblk
      ·have hgg:g=b∨w.heap.size≤g:=by
        simp[Value.ownBlock]at hblk
        omega
       have hglt:g<w'.heap.size:=by
        rcases Nat.lt_or_ge g w'.heap.size with h|h
        ·exact h
        ·simp[Array.getElem?_eq_none h]at hg
       obtain⟨q1,q2⟩:=H.renew (els':=els0++ys) (nx:=nx) (g:=g) (cs':=cur) hh g1 hnx hgr hgg hglt hg (by rw[List.length_append,Ep];exact Nat.mul_le_mul_right _ hnc) hall (by
        intro i' j y hy';have hb2:=gU hy' hall;obtain⟨r1,r2⟩:=hjoin i' j y hy';refine⟨r1,?_⟩
        have:(cs.toList.take (els0.length*i.size)++news).getD (i'*i.size+j) Go.undef=cur.getD (i'*i.size+j) Go.undef:=by
         rw[←htake,List.getD,List.getElem?_take,if_pos (by rw[←List.length_append];exact hb2.2.2)]
         simp
        rw[←this];exact r2)
       refine⟨_,w',_,.inl (hexec _ _ hr),by simpa[eW]using q1,?_,q2⟩
       have:=Rd.own (m:=sset (sset m id .dead) nx (.at g)) (A:=A) (w:=w') T' i.size nx 0 (els0.length+ys.length) g cap' (by simp[sset]) hglt hnc hcm' (by rw[Nat.zero_add,←Ep];simp[dV,hg])
       simpa using this
     cases a1 with
     |none =>
      have:=hn1 rfl
      subst this;have hr:=lR (P:=P) (.slice (some ⟨b,0,none⟩) els0.length cap) (some ⟨b,0,none⟩) none els0.length cap c1 t o.type T' i ht hi w hn0 (by intro h;cases h)
      have hnil:news=[]:=by simpa using hl
      subst hnil;refine fin _ _ hr ?_ ⟨rfl,rfl,rfl,Nat.le_refl _,fun _ _ _=>rfl⟩ (.inl rfl)
      simpa using hown
     |some ad =>
      obtain⟨v',w',r1,r2,r3,r4,r5⟩:=run_append_own_at (P:=P) w 0 t o.type T' i z i.size i.bytes ht hi hz rfl rfl hzs hs0 (.slice (some ⟨b,0,none⟩) els0.length cap) els0.length _ hown ad ys.length c1 news hl (fun j u hu=>hnews ad rfl j u hu) hone (by simp only[maxLen];omega) hb (Nat.zero_le _)
      exact fin v' w' r1 r2 r3 (by simpa[Value.ownBlock]using r5)
   ·cases hx
  ·cases hx
 ·cases hx
end
end Mc
namespace Mc
section
variable {P:Program} {o:Oper} {f:List AV} {h:AH}
theorem Hn [Bk] [Ev] {n:Nat} {zc:List AV} {i j:Nat} {x:AV} (h:fW (List.replicate n zc) i j=some x):i<n∧zc[j]?=some x:=by
 unfold fW at h;rw[List.getElem?_replicate]at h;split at h
 ·rename_i hi;exact⟨hi,h⟩
 ·cases h
theorem LJ [Bk] [Ev] {m:Nat→St} {A:Nat→Prop} {w:World} (H:bW m A h w) {nx T sz n cap:Nat} {aN:List (List AV)} {cs:Array Value} (hnx:h nx=.no) (hl:aN.length=n) (hn:n≤cap) (hc:cap≤maxLen) (hs:cs.size=cap*sz) (h4:∀e∈aN,e.length=sz)
  (h5:∀(i j:Nat) (x:AV),fW aN i j=some x→x.one=true∧Rd m A w x (cs.getD (i*sz+j) Go.undef)) :
  bW (sset m nx (.at w.heap.size)) A (cJ h nx (.cells T sz aN)) (w.alloc (.cells cs T))∧Ext m w (sset m nx (.at w.heap.size)) (w.alloc (.cells cs T))∧Rd (sset m nx (.at w.heap.size)) A (w.alloc (.cells cs T)) (.own T sz nx 0 n) (.slice (some ⟨w.heap.size,0,none⟩) n cap):=by
 subst hl;obtain⟨q1,q2⟩:=H.alloc (id:=nx) (T:=T) (sz:=sz) (aN:=aN) (cs:=cs) hnx (by rw[hs];exact Nat.mul_le_mul_right _ hn) h4 h5
 refine⟨q1,q2,?_⟩
 have:=Rd.own (m:=sset m nx (.at w.heap.size)) (A:=A) (w:=w.alloc (.cells cs T)) T sz nx 0 aN.length w.heap.size cap (by simp[sset]) (by simp) hn hc (by
  rw[Nat.zero_add,←hs];have:(w.alloc (.cells cs T)).heap[w.heap.size]?=some (.cells cs T (0,0)):=by
   show(w.heap.push _)[w.heap.size]?=_
   simp
  unfold dV;rw[this])
 simpa using this
theorem LV [Bk] [Ev] {t e:TypeId} {x y:Operand} {i:TypeInfo} {z:Value} {zc:List AV} {nx:Nat} {k k':IntKind} {l c:Int} (ho:o.op=.makeSlice t x y) (ht:P.underlying t=some (.slice e)) (hi:P.info? e=some i) (hz:i.zero=some z) (hzc:gG (G8 z)=some zc) (hzs:zc.length=i.size)
  (hx:dE f x=.c (.int k l)) (hy:dE f y=.c (.int k' c)) (h0:0≤l) (hlc:l≤c) (hb:(i.bytes:Int)*c≤281474976710656) (hc:c≤1099511627776) (hnx:h nx=.no) :
  dX P o f h ⟨.own e i.size nx 0 l.toNat,[(nx,.cells e i.size (List.replicate l.toNat zc))],[nx]⟩:=by
 intro m A w a H F;have g1:=F.eval x;rw[hx]at g1;have g2:=F.eval y;rw[hy]at g2;have hr:=run_make (P:=P) w t e i z ht hi hz k k' l c h0 hlc hb (by omega)
 have hcr:CR (Rd m A w) zc z.cells:=lP (.pure _ _ (wR _ w z)) hzc
 have hsz:(madeCells z.cells (c.toNat*i.size)).size=c.toNat*i.size:=by simp[madeCells]
 obtain⟨q1,q2,q3⟩:=LJ H (T:=e) (sz:=i.size) (n:=l.toNat) (cap:=c.toNat) (aN:=List.replicate l.toNat zc) (cs:=madeCells z.cells (c.toNat*i.size)) hnx (by simp) (by omega) (by simp only[maxLen];omega) hsz (by intro e he;rw[(List.mem_replicate.1 he).2];exact hzs) (by
  intro i' j x' hx';obtain⟨r1,r2⟩:=Hn hx';obtain⟨r3,r4⟩:=hcr.2 _ _ r2;have hj:j<i.size:=by rw[←hzs];exact(List.getElem?_eq_some_iff.1 r2).1
  have hzz:z.cells.size=i.size:=hcr.1.trans hzs
  have hlt:i'*i.size+j<c.toNat*i.size:=by
   have:(i'+1)*i.size≤c.toNat*i.size:=Nat.mul_le_mul_right _ (by omega)
   rw[Nat.succ_mul]at this;omega
  have hmod:(i'*i.size+j)%z.cells.size=j:=by rw[hzz,Nat.mul_comm,Nat.mul_add_mod,Nat.mod_eq_of_lt hj]
  have:(madeCells z.cells (c.toNat*i.size)).getD (i'*i.size+j) Go.undef=z.cells.getD j Go.undef:=by
   have hj2:j<z.cells.size:=by omega
   simp[madeCells,hlt,hmod,hj2]
  rw[this];exact⟨r3,r4⟩)
 refine⟨_,_,_,.inl ?_,by simpa[eW]using q1,q3,q2⟩
 simp[execOp,ho,g1.dY,g2.dY,hr]
def chunk {α:Type} (sz:Nat):Nat→List α→List (List α)
 |0,_=>[]
 |n+1,l=>l.take sz::chunk sz n (l.drop sz)
theorem Iw [Bk] [Ev] {α:Type} (sz:Nat):∀(n:Nat) (l:List α),(chunk sz n l).length=n
 |0,_=>rfl
 |n+1,l=>by simp[chunk,Iw sz n]
theorem Gl [Bk] [Ev] {α:Type} (sz:Nat):∀(n:Nat) (l:List α),l.length=n*sz→∀e∈chunk sz n l,e.length=sz
 |0,_,_,e,he=>by simp[chunk]at he
 |n+1,l,hl,e,he=>by
  rw[Nat.succ_mul]at hl;simp only[chunk,List.mem_cons]at he;rcases he with rfl|he
  ·simp;omega
  ·exact Gl sz n (l.drop sz) (by simp;omega) e he
theorem Iy [Bk] [Ev] (sz:Nat):∀(n:Nat) (l:List AV) (i j:Nat) (x:AV),fW (chunk sz n l) i j=some x→l[i*sz+j]?=some x
 |0,_,i,j,x,h=>by simp[chunk,fW]at h
 |n+1,l,0,j,x,h=>by
  simp only[chunk,fW,List.getElem?_cons_zero,Option.bind_some]at h;rw[List.getElem?_take]at h;split at h
  ·rw[Nat.zero_mul,Nat.zero_add];exact h
  ·cases h
 |n+1,l,i+1,j,x,h=>by
  have:=Iy sz n (l.drop sz) i j x (by simpa[chunk,fW]using h)
  rw[List.getElem?_drop]at this;rw[Nat.succ_mul];rw[←this];congr 1;omega
theorem aes [Bk] [Ev] {m:Nat→St} {A:Nat→Prop} {w:World} {zc:List AV} {z:Value} (hc:CR (Rd m A w) zc z.cells) (n:Nat):CR (Rd m A w) ((List.replicate n zc).flatten) ((Array.range (n*zc.length)).map (z.cells[·%z.cells.size]!)):=by
 have hl:((List.replicate n zc).flatten).length=n*zc.length:=by simp
 refine⟨by simp,?_⟩
 intro k x hx;have hk:k<n*zc.length:=by rw[←hl];exact(List.getElem?_eq_some_iff.1 hx).1
 have h0:0<zc.length:=by
  rcases Nat.eq_zero_or_pos zc.length with h|h
  ·rw[h]at hk;simp at hk
  ·exact h
 have hmod:=Nat.mod_lt k h0;have key:∀(n k:Nat),k<n*zc.length→((List.replicate n zc).flatten)[k]?=zc[k%zc.length]?:=by
  intro n;induction n with
  |zero=>intro k hk;simp at hk
  |succ n ih =>
   intro k hk;rw[List.replicate_succ,List.flatten_cons];rcases Nat.lt_or_ge k zc.length with h|h
   ·rw[List.getElem?_append_left h,Nat.mod_eq_of_lt h]
   ·rw[List.getElem?_append_right h,ih _ (by rw[Nat.succ_mul]at hk;omega),←Nat.mod_eq_sub_mod h]
 rw[key n k hk]at hx;obtain⟨r1,r2⟩:=hc.2 _ _ hx;refine⟨r1,?_⟩
 have hs:=hc.1;have:((Array.range (n*zc.length)).map (z.cells[·%z.cells.size]!)).getD k Go.undef=z.cells.getD (k%zc.length) Go.undef:=by
  simp[hk,hs,hmod]
 rw[this];exact r2
theorem G7 [Bk] [Ev] {t e:TypeId} {len:Nat} {parts:Array (Nat×Operand)} {i:TypeInfo} {z:Value} {zc cs:List AV} {nx:Nat} (ho:o.op=.buildSlice t len parts) (ht:P.underlying t=some (.slice e)) (hi:P.info? e=some i) (hz:i.zero=some z) (hzc:gG (G8 z)=some zc) (hzs:zc.length=i.size) (hs0:0<i.size) (hl0:0<len) (hsm:len*i.size≤16777216)
  (hf:wW (fun k=>some (k*i.size,i.size)) ((List.replicate len zc).flatten) (parts.toList.map fun p=>(p.1,dE f p.2))=some cs) (hnx:h nx=.no) :
  dX P o f h ⟨.own e i.size nx 0 len,[(nx,.cells e i.size (chunk i.size len cs))],[nx]⟩:=by
 intro m A w a H F;have hcr:CR (Rd m A w) zc z.cells:=lP (.pure _ _ (wR _ w z)) hzc
 have hz0:=aes hcr len;rw[hzs]at hz0;obtain⟨us,hu,hcu⟩:=BK _ _ (parts.map fun p=>(p.1,a.eval p.2)).toList _ _ _ hz0 (by simp) (HX F parts) hf
 have hfl:∀(ps:List (Nat×AV)) (c0:List AV) (out:List AV),wW (fun k=>some (k*i.size,i.size)) c0 ps=some out→out.length=c0.length:=by
  intro ps;induction ps with
  |nil=>intro c0 out h;simp only[wW,Option.some.injEq]at h;rw[h]
  |cons p ps ih =>
   intro c0 out h;simp only[wW]at h;split at h
   ·rename_i off size xs h1 h2
    split at h
    ·rename_i hc
     rw[ih _ _ h,qK hc.2]
    ·cases h
   ·cases h
 have uF:cs.length=len*i.size:=by rw[hfl _ _ _ hf];simp[hzs]
 have hr:=run_buildSlice (P:=P) w t e len (parts.map fun p=>(p.1,a.eval p.2)) us i z ht hi hz (by omega) (by have:=Nat.mul_pos hl0 hs0;omega) hu
 obtain⟨q1,q2,q3⟩:=LJ H (T:=e) (sz:=i.size) (n:=len) (cap:=len) (aN:=chunk i.size len cs) (cs:=us) hnx (Iw _ _ _) (Nat.le_refl _) (by
   have:len≤len*i.size:=Nat.le_mul_of_pos_right _ hs0
   simp only[maxLen];omega) (by rw[hcu.1,uF]) (Gl _ _ _ uF) (by
  intro i' j x hx;exact hcu.2 _ _ (Iy _ _ _ _ _ _ hx))
 refine⟨_,_,_,.inl ?_,by simpa[eW]using q1,q3,q2⟩
 simp[execOp,ho,hr]
def fN (ρ:Operand→AV) (d:Nat):Option Operand→Option Nat
 |none=>some d
 |some x=>match ρ x with
  | .c (.int _ n)=>if 0≤n then some n.toNat else none
  |_=>none
theorem kB [Bk] [Ev] {m:Nat→St} {A:Nat→Prop} {w:World} {a:Act} (F:lN m A w f a) {d n:Nat} {x:Operand} (hb:fN (dE f) d (some x)=some n):∃k,a.eval x=.int k (n:Int):=by
 simp only[fN]at hb;have h1:=F.eval x;split at hb
 ·rename_i k v hv
  split at hb
  ·rename_i h0
   cases hb;rw[hv]at h1;exact⟨k,by rw[h1.dY,Int.toNat_of_nonneg h0]⟩
  ·cases hb
 ·cases hb
theorem nS [Bk] [Ev] {m:Nat→St} {A:Nat→Prop} {w:World} {a:Act} (F:lN m A w f a) {t:TypeId} (ht:P.underlying t=some (.slice (P.elem t))) {ti:TypeInfo} (hp:P.info? (P.elem t)=some ti) {lo hi:Option Operand} {l u len cap:Nat} (hlo:fN (dE f) 0 lo=some l) (hhi:fN (dE f) len hi=some u) (h1:l≤u) (h2:u≤len) (hc:len≤cap) (ad:Option Addr) :
  (Instr.sliceAt t (.slice ad len cap) (lo.map a.eval) (hi.map a.eval) none).run P w=.ok (sliced ad l u cap ti.size) w:=by
 rw[run_sliceAt_slice (P:=P) w t _ _ _ _ ht];cases lo with
 |none =>
  simp only[fN,Option.some.injEq]at hlo;subst hlo;cases hi with
  |none =>
   simp only[fN,Option.some.injEq]at hhi;subst hhi;simp[run_slice_all (P:=P) w t ad len cap ht,sizeOf,typeInfo,hp]
  |some x =>
   obtain⟨k,hk⟩:=kB F hhi;simp[hk,run_slice_h (P:=P) w t ad len cap ht k (u:Int) (by omega) (by omega),sizeOf,typeInfo,hp]
 |some y =>
  obtain⟨k',hk'⟩:=kB F hlo;cases hi with
  |none =>
   simp only[fN,Option.some.injEq]at hhi;subst hhi;simp[hk',run_slice_l (P:=P) w t ad len cap ht k' (l:Int) (by omega) (by omega),sizeOf,typeInfo,hp]
  |some x =>
   obtain⟨k,hk⟩:=kB F hhi;simp[hk,hk',run_slice_lh (P:=P) w t ad len cap ht k' k (l:Int) (u:Int) (by omega) (by omega) (by omega),sizeOf,typeInfo,hp]
theorem LU [Bk] [Ev] {t:TypeId} {x:Operand} {lo hi:Option Operand} {sz l u:Nat} {aN:List (List AV)} (ho:o.op=.slice t x lo hi none) (ht:P.underlying t=some (.slice (P.elem t))) (hs:(P.info? (P.elem t)).map (·.size)=some sz) (hx:dE f x=.lit sz aN) (hlo:fN (dE f) 0 lo=some l) (hhi:fN (dE f) aN.length hi=some u) (h1:l≤u) (h2:u≤aN.length) :
  dX P o f h ⟨.lit sz ((aN.drop l).take (u-l)),[],[]⟩:=by
 refine bQ fun m A w a H F=>?_
 have g:=F.eval x;rw[hx]at g;cases hp:P.info? (P.elem t)with
 |none=>simp[hp]at hs
 |some ti =>
  simp only[hp,Option.map_some,Option.some.injEq]at hs;subst hs;have hlen:((aN.drop l).take (u-l)).length=u-l:=by simp;omega
  obtain⟨rfl,ad,cap,hv⟩|⟨b,off,cap,vs,hv,hA,hb,hc,hsz,k1,kv,kr⟩:=g.nE
  ·have hr:=nS (P:=P) F ht hp hlo hhi h1 h2 (cap:=cap) (by simp) ad
   simp only[List.length_nil]at h2 hr;have:l=0∧u=0:=by omega
   obtain⟨rfl,rfl⟩:=this;exact⟨_,by simp[execOp,ho,hv,hr];rfl,.pure _ _ (by simp only[sliced,List.drop_nil,List.take_nil,Nat.sub_self];exact .nG _ _ _ (by rw[hv]at g;exact Nat.le_trans (Nat.sub_le _ _) g.Bz))⟩
  ·have hr:=nS (P:=P) F ht hp hlo hhi h1 h2 hc (some ⟨b,off,none⟩)
   refine⟨_,by simp[execOp,ho,hv,hr];rfl,.pure _ _ ?_⟩
   unfold sliced;by_cases hlu:l=u
   ·subst hlu
    simp only[Nat.sub_self,List.take_zero];exact .nG _ _ _ (by rw[hv]at g;exact Nat.le_trans (Nat.sub_le _ _) g.Bz)
   ·rw[if_neg (by omega)]
    have:=dG.lit (A:=Av m A) (w:=w) ti.size ((aN.drop l).take (u-l)) b (off+l*ti.size) (cap-l) (fun i j=>vs (l+i) j) hA hb ⟨by rw[hlen];omega,by rw[hv]at g;exact Nat.le_trans (Nat.sub_le _ _) g.Bz⟩ (fun e he=>hsz e (List.mem_of_mem_drop (List.mem_of_mem_take he))) (fun i j y hy=>k1 _ _ _ (qZ hy).2)
     (fun i j y hy=>by have:=kv _ _ _ (qZ hy).2;rw[←this];congr 2;rw[Nat.add_mul];omega) (fun i j y hy=>kr _ _ _ (qZ hy).2)
    rw[hlen]at this;simpa[gB]using this
theorem LP [Bk] [Ev] {t:TypeId} {x:Operand} {lo hi:Option Operand} {T sz id i n l u:Nat} {aN:List (List AV)} (ho:o.op=.slice t x lo hi none) (ht:P.underlying t=some (.slice (P.elem t))) (hs:(P.info? (P.elem t)).map (·.size)=some sz) (hx:dE f x=.own T sz id i n) (hh:h id=.cells T sz aN) (hne:aN≠[]) (hlo:fN (dE f) 0 lo=some l) (hhi:fN (dE f) n hi=some u) (h1:l≤u) (h2:u≤n) (h3:l=0∨l<n) :
  dX P o f h ⟨.own T sz id (i+l) (u-l),[],[id]⟩:=by
 refine bQ fun m A w a H F=>?_
 have g:=F.eval x;rw[hx]at g;cases hp:P.info? (P.elem t)with
 |none=>simp[hp]at hs
 |some ti =>
  simp only[hp,Option.map_some,Option.some.injEq]at hs;subst hs;obtain⟨e,r,rfl⟩:=List.exists_cons_of_ne_nil hne;obtain⟨b,cs,g1,-⟩:=H.block (i:=0) hh rfl
  obtain⟨cap,hv,hn,hcm,hrow⟩:=g.pF g1;have hr:=nS (P:=P) F ht hp hlo hhi h1 h2 hn (some ⟨b,i*ti.size,none⟩)
  refine⟨_,by simp[execOp,ho,hv,hr];rfl,?_⟩
  have ha:sliced (some ⟨b,i*ti.size,none⟩) l u cap ti.size=.slice (some ⟨b,(i+l)*ti.size,none⟩) (u-l) (cap-l):=by
   unfold sliced;rcases h3 with rfl|h3
   ·split<;>simp[gB]
   ·rw[if_neg (by omega)];simp[gB,Nat.add_mul]
  rw[ha];exact .own T ti.size id (i+l) (u-l) b (cap-l) g1 (H.lt g1) (by omega) (by omega) (by rw[←hrow];congr 1;omega)
theorem LO [Bk] [Ev] {t:TypeId} {x:Operand} {lo hi:Option Operand} {s:ByteArray} {l u:Nat} (ho:o.op=.slice t x lo hi none) (ht:P.underlying t=some .string) (hx:dE f x=.c (.string s)) (hlo:fN (dE f) 0 lo=some l) (hhi:fN (dE f) s.size hi=some u) (h1:l≤u) (h2:u≤s.size) :
  dX P o f h ⟨.c (.string (s.extract l u)),[],[]⟩:=by
 refine bQ fun m A w a H F=>?_
 have g:=F.eval x;rw[hx]at g;refine⟨_,?_,.pure _ _ (.c _)⟩
 cases lo with
 |none =>
  simp only[fN,Option.some.injEq]at hlo;subst hlo;cases hi with
  |none =>
   simp only[fN,Option.some.injEq]at hhi;subst hhi;simp[execOp,ho,g.dY,Instr.sliceAt,run_underlying ht,Instr.slice,Instr.sliceBounds]
  |some y =>
   obtain⟨k,hk⟩:=kB F hhi;simp[execOp,ho,g.dY,Instr.sliceAt,run_underlying ht,Instr.slice,Instr.sliceBounds,hk,run_sliceBound,h2]
 |some y =>
  obtain⟨k',hk'⟩:=kB F hlo;cases hi with
  |none =>
   simp only[fN,Option.some.injEq]at hhi;subst hhi;simp[execOp,ho,g.dY,Instr.sliceAt,run_underlying ht,Instr.slice,Instr.sliceBounds,hk',run_sliceBound,h1]
  |some y =>
   obtain⟨k,hk⟩:=kB F hhi;simp[execOp,ho,g.dY,Instr.sliceAt,run_underlying ht,Instr.slice,Instr.sliceBounds,hk,hk',run_sliceBound,h1,h2]
def akq (d:TypeDesc):Bool:=match d with | .interface _=>false|_=>true
def FV:Operand→Bool
 | .const _=>true
 |_=>false
def En (P:Program) (t:TypeId):Bool:=match P.underlying t with|some (.interface _)=>true|_=>false
def Em (P:Program) (t:TypeId):Bool:=match P.underlying t with|some (.func _ _ _)=>true|_=>false
theorem Xl [Bk] [Ev] {t:TypeId} (h:En P t=true):∃ms,P.underlying t=some (.interface ms):=by
 unfold En at h;split at h
 ·rename_i ms hm;exact⟨ms,hm⟩
 ·cases h
theorem Xh [Bk] [Ev] {t:TypeId} (h:Em P t=true):∃a b c,P.underlying t=some (.func a b c):=by
 unfold Em at h;split at h
 ·rename_i a b c hm;exact⟨a,b,c,hm⟩
 ·cases h
def Mo [Bk] (P:Program) (r:TypeId→AV→AV→Option Bool) (xs ys:List AV):List Field→Option Bool
 |[]=>some true
 | f :: fs => if f.name ≠ "_" then match kQ P f.type xs f.offset, kQ P f.type ys f.offset with
   |some a,some b=>match r f.type a b with
    |some true=>Mo P r xs ys fs
    |some false=>some false
    |none=>none
   |_,_=>none
  else Mo P r xs ys fs
def Mp [Bk] (P:Program) (r:TypeId→AV→AV→Option Bool) (e:TypeId) (s:Nat) (xs ys:List AV) (k:Nat):Nat→Option Bool
 |0=>some true
 |n+1=>match kQ P e xs (k*s),kQ P e ys (k*s)with
  |some a,some b=>match r e a b with
   |some true=>Mp P r e s xs ys (k+1) n
   |some false=>some false
   |none=>none
  |_,_=>none
def OR [Bk] (P:Program):Nat→TypeId→AV→AV→Option Bool
 |0,_,_,_=>none
 |d+1,t,x,y=>match P.underlying t with
  |some .bool=>match x,y with
   | .c (.bool a),.c (.bool b)=>some (a==b)
   |_,_=>none
  |some (.int _)=>match x,y with
   | .c (.int k a),.c (.int k' b)=>if k=k' then some (a==b)else none
   |x,y=>match toP x,toP y with
    |some p,some q=>eqB (pM p q)
    |_,_=>none
  |some .string=>match x,y with
   | .c (.string a),.c (.string b)=>some (a.toList==b.toList)
   |_,_=>none
  |some (.struct fs)=>match x,y with
   | .agg xs,.agg ys=>if P.stoodInHeld t then none else Mo P (OR P d) xs ys fs.toList
   |_,_=>none
  |some (.array len e)=>match x,y with
   | .agg xs,.agg ys=>match P.info? e with
    |some i=>Mp P (OR P d) e i.size xs ys 0 len
    |none=>none
   |_,_=>none
  |_=>none
def EC (d:Nat) (e:TypeId) (s:Nat) (xs ys:Array Value) (k:Nat) (_:Option Bool×Unit):Sem (ForInStep (Option Bool×Unit)):=do
 let a ←part e xs (k*s)
 let b ←part e ys (k*s)
 let r ←Op.equalIn d e a b
 if r=false then pure (.done (some false,()))else pure (.yield (none,()))
theorem DX [Bk] [Ev] (d:Nat) (t e:TypeId) (len:Nat) (xs ys:Array Value) (w:World) (ht:P.underlying t=some (.array len e)) (i:TypeInfo) (hi:P.info? e=some i) :
  (Op.equalIn (d+1) t (.agg xs) (.agg ys)).run P w=((forIn (List.range' 0 len) ((none:Option Bool),()) (fun k s=>EC d e i.size xs ys k s)).run P w).andThen fun a w'=>(match a.1 with|some r=>pure r|none=>pure true:Sem Bool).run P w':=by
 simp only[Op.equalIn,Sem.run_bind,run_underlying ht,Result.andThen_ok];simp[sizeOf,typeInfo,hi,EC]
 congr 1
 congr 2
 funext k s
 congr 1
 obtain⟨k1,-⟩:=k;cases k1<;>rfl
theorem adL [Bk] [Ev] {m:Nat→St} {A:Nat→Prop} {w:World}:∀(d:Nat) (t:TypeId) (x y:AV) (u v:Value) (b:Bool),OR P d t x y=some b→Rd m A w x u→Rd m A w y v→(Op.equalIn d t u v).run P w=.ok b w
 |0,t,x,y,u,v,b,h,_,_=>by simp[OR]at h
 |d+1,t,x,y,u,v,b,h,hx,hy=>by
  have ih:=fun t x y u v b=>adL (m:=m) (A:=A) (w:=w) d t x y u v b
  unfold OR at h;split at h
  ·rename_i hu
   split at h
   ·cases h;rw[hx.dY,hy.dY];exact run_equalIn_bool d hu w
   ·cases h
  ·rename_i k0 hu
   split at h
   ·split at h
    ·rename_i hk;subst hk;cases h;rw[hx.dY,hy.dY];exact run_equalIn_int w d t _ k0 _ _ hu
    ·cases h
   ·split at h
    ·rename_i p q hp hq
     rw[toP_ok hp hx,toP_ok hq hy,run_equalIn_int w d t _ k0 _ _ hu];have k:=C7 h;rw[fQ]at k;have e:(bJ Ev.dL p==bJ Ev.dL q)=b:=by rw[k,Bool.eq_iff_iff];simp<;>omega
     rw[e]
    ·cases h
  ·rename_i hu
   split at h
   ·cases h;rw[hx.dY,hy.dY];exact run_equalIn_string w d t _ _ hu
   ·cases h
  ·rename_i fs hu
   split at h
   ·rename_i xs ys
    split at h
    ·cases h
    ·rename_i hst
     obtain⟨vs,rfl,cx⟩:=hx.oH;obtain⟨us,rfl,cy⟩:=hy.oH;have hfs:P.fieldsOf t=fs:=by unfold Program.fieldsOf;rw[hu]
     rw[run_equalIn_struct w d t vs us (by rw[hfs];exact hu) (by simpa using hst),hfs]
     revert h
     generalize fs.toList=l;intro h;induction l generalizing b with
     |nil=>simp[Mo]at h;subst h;simp[Op.eqFields]
     |cons f l ihl =>
      simp only[Mo]at h;simp only[Op.eqFields];split at h
      ·rename_i hn
       rw[if_pos hn];split at h
       ·rename_i a c ha hc
        obtain⟨p,p1,p2⟩:=yR (P:=P) cx ha
        obtain⟨q,q1,q2⟩:=yR (P:=P) cy hc
        simp only[Sem.run_bind,p1,q1,Result.andThen_ok];split at h
        ·rename_i he
         rw[ih f.type a c p q true he p2 q2];simpa using ihl b h
        ·rename_i he
         cases h;rw[ih f.type a c p q false he p2 q2];simp
        ·cases h
       ·cases h
      ·rename_i hn
       rw[if_neg hn];exact ihl b h
   ·cases h
  ·rename_i len e hu
   split at h
   ·rename_i xs ys
    split at h
    ·rename_i i hi
     obtain⟨vs,rfl,cx⟩:=hx.oH;obtain⟨us,rfl,cy⟩:=hy.oH;rw[DX d t e len vs us w hu i hi];have key:∀(n k:Nat) (b:Bool),Mp P (OR P d) e i.size xs ys k n=some b→((forIn (List.range' k n) ((none:Option Bool),()) (EC d e i.size vs us)).run P w)=.ok (if b then none else some false,()) w:=by
      intro n;induction n with
      |zero=>intro k b h;simp[Mp]at h;subst h;simp
      |succ n ihn =>
       intro k b h;simp only[Mp]at h;rw[List.range'_succ,List.forIn_cons];split at h
       ·rename_i a c ha hc
        obtain⟨p,p1,p2⟩:=yR (P:=P) cx ha
        obtain⟨q,q1,q2⟩:=yR (P:=P) cy hc
        simp only[EC,Sem.run_bind,p1,q1,Result.andThen_ok];split at h
        ·rename_i he
         rw[ih e a c p q true he p2 q2];simp only[Result.andThen_ok,Bool.true_eq_false,if_false,Sem.run_pure];exact ihn (k+1) b h
        ·rename_i he
         cases h;rw[ih e a c p q false he p2 q2];simp
        ·cases h
       ·cases h
     rw[key len 0 b h];cases b<;>simp
    ·cases h
   ·cases h
  ·cases h
theorem OQ [Bk] [Ev]:∀(d:Nat) (t:TypeId) (x y:AV) (b:Bool),OR P d t x y=some b→OR P (d+1) t x y=some b
 |0,t,x,y,b,h=>by simp[OR]at h
 |d+1,t,x,y,b,h=>by
  have ih:=fun t x y b=>OQ d t x y b
  have fsm:∀(xs ys:List AV) (l:List Field) (b:Bool),Mo P (OR P d) xs ys l=some b→Mo P (OR P (d+1)) xs ys l=some b:=by
   intro xs ys l;induction l with
   |nil=>intro b h;simpa[Mo]using h
   |cons f l ihl =>
    intro b h;simp only[Mo]at h ⊢;split at h
    ·rename_i hn
     rw[if_pos hn];split at h
     ·rename_i a c ha hc
      try simp only[ha,hc]
      split at h
      ·rename_i he;rw[ih _ _ _ _ he];exact ihl b h
      ·rename_i he;cases h;rw[ih _ _ _ _ he]
      ·cases h
     ·cases h
    ·rename_i hn
     rw[if_neg hn];exact ihl b h
  have esm:∀(e:TypeId) (s:Nat) (xs ys:List AV) (n k:Nat) (b:Bool),Mp P (OR P d) e s xs ys k n=some b→Mp P (OR P (d+1)) e s xs ys k n=some b:=by
   intro e s xs ys n;induction n with
   |zero=>intro k b h;simpa[Mp]using h
   |succ n ihn =>
    intro k b h;simp only[Mp]at h ⊢;split at h
    ·rename_i a c ha hc
     try simp only[ha,hc]
     split at h
     ·rename_i he;rw[ih _ _ _ _ he];exact ihn _ b h
     ·rename_i he;cases h;rw[ih _ _ _ _ he]
     ·cases h
    ·cases h
  unfold OR at h ⊢;split at h
  ·exact h
  ·exact h
  ·exact h
  ·split at h
   ·split at h
    ·cases h
    ·rename_i hst
     try simp only
     rw[if_neg hst];exact fsm _ _ _ _ h
   ·cases h
  ·split at h
   ·split at h
    ·rename_i i hi
     try simp only[hi]
     exact esm _ _ _ _ _ _ _ h
    ·cases h
   ·cases h
  ·cases h
theorem afI [Bk] [Ev] {m:Nat→St} {A:Nat→Prop} {w:World} {t:TypeId} {x y:AV} {u v:Value} {b:Bool} (h:OR P 8 t x y=some b) (hx:Rd m A w x u) (hy:Rd m A w y v):(Op.equal t u v).run P w=.ok b w:=by
 have key:∀k,OR P (8+k) t x y=some b:=by
  intro k;induction k with
  |zero=>exact h
  |succ k ih=>exact OQ _ _ _ _ _ ih
 exact adL (8+9992) t x y u v b (key 9992) hx hy
def BM (op:BinOp) (b:Bool):Option AV :=
 match op with
 | .eql=>some (.c (.bool b))
 | .neq=>some (.c (.bool !b))
 |_=>none
theorem aaP [Bk] [Ev] {op:BinOp} {b:Bool} {r:AV} (h:BM op b=some r):(op=.eql∧r=.c (.bool b))∨(op=.neq∧r=.c (.bool !b)):=by
 unfold BM at h;split at h
 ·cases h;exact .inl ⟨rfl,rfl⟩
 ·cases h;exact .inr ⟨rfl,rfl⟩
 ·cases h
def adq:Value→Value→Bool
 | .iface _ _,.nilIface=>true
 | .nilIface,.nilIface=>true
 | .func _ _ _,.nilFunc=>true
 | .nilFunc,.nilFunc=>true
 | .agg _,.agg _=>true
 |_,_=>false
def adf [Bk] (P:Program) (i:Nat) (t:TypeId):Bool:=match Bk.kinds[i]? with
 |some true=>(match P.underlying t with|some .string=>true|_=>false)
 |some false=>(match P.underlying t with|some .bool=>true|_=>false)
 |none=>false
theorem ac0 [Bk] [Ev] {op:BinOp} {t ty:TypeId} {x y:Operand} {i:Nat} {r:AV} (ho:o.op=.binOp op t x y ty) (hx:dE f x=.o i) (hy:dE f y=.o i) (hk:adf P i t=true) (hr:(op=.eql∧r=.c (.bool true))∨(op=.neq∧r=.c (.bool !true))):dX P o f h ⟨r,[],[]⟩:=by
 have key:(∃s,Ev.val i=.string s∧P.underlying t=some .string)∨∃c,Ev.val i=.bool c∧P.underlying t=some .bool:=by
  unfold adf at hk;split at hk
  ·rename_i hq
   obtain⟨s,hs⟩:=(Ev.kin i true hq).1 rfl
   split at hk
   ·exact .inl ⟨s,hs,‹_›⟩
   ·cases hk
  ·rename_i hq
   obtain⟨s,hs⟩:=(Ev.kin i false hq).2 rfl
   split at hk
   ·exact .inr ⟨s,hs,‹_›⟩
   ·cases hk
  ·cases hk
 refine bQ fun m A w a H F=>?_
 have h1:=F.eval x;have h2:=F.eval y;rw[hx]at h1;rw[hy]at h2
 have e1:=h1.agL;have e2:=h2.agL;rcases key with⟨s,hs,hu⟩|⟨c,hs,hu⟩
 ·rw[hs]at e1 e2
  have hg:(eqGuard op t x y (.string s) (.string s)).run P w=.ok () w:=by
   unfold eqGuard;split<;>simp
  rcases hr with⟨rfl,rfl⟩|⟨rfl,rfl⟩
  ·exact⟨.bool true,by simp[execOp,ho,e1,e2,hg,binOp,Op.stringOp],.pure _ _ (.c _)⟩
  ·exact⟨.bool false,by simp[execOp,ho,e1,e2,hg,binOp,Op.stringOp],.pure _ _ (.c _)⟩
 ·rw[hs]at e1 e2
  have hg:(eqGuard op t x y (.bool c) (.bool c)).run P w=.ok () w:=by
   unfold eqGuard;split<;>simp
  have he:(Op.equal t (.bool c) (.bool c)).run P w=.ok true w:=by have:=run_equalIn_bool (P:=P) (p:=c) (q:=c) 9999 hu w;rw[beq_self_eq_true]at this;exact this
  rcases hr with⟨rfl,rfl⟩|⟨rfl,rfl⟩
  ·exact⟨.bool true,by simp[execOp,ho,e1,e2,hg,binOp,he],.pure _ _ (.c _)⟩
  ·exact⟨.bool false,by simp[execOp,ho,e1,e2,hg,binOp,he],.pure _ _ (.c _)⟩
def afZ [Bk] (P:Program) (op:BinOp) (t:TypeId) (cx cy:Bool) (x y:AV):Option AV :=
 match x with
 | .c (.bool p)=>match y with
  | .c (.bool q)=>match P.underlying t with
   |some .bool=>match op with
    | .eql=>some (.c (.bool (p==q)))
    | .neq=>some (.c (.bool !(p==q)))
    |_=>none
   |_=>none
  |_=>none
 | .c .nilIface=>match y with
  | .c .nilIface=>if(cx||cy)=true∧En P t=true then BM op true else none
  |_=>none
 | .pJ _ _=>match y with
  | .c .nilIface=>if En P t=true then BM op false else none
  |_=>none
 | .fn _ _ _=>match y with
  | .c .nilFunc=>if Em P t=true then BM op false else none
  |_=>none
 | .c .nilFunc=>match y with
  | .c .nilFunc=>if Em P t=true then BM op true else none
  |_=>none
 | .agg xs=>match y with
  | .agg ys=>if P.eqGuardType P.depth t=false then(match OR P 8 t (.agg xs) (.agg ys)with
    |some b=>BM op b
    |none=>none)else none
  |_=>none
 | .o i=>match y with
  | .o j=>if i=j∧adf P i t=true then BM op true else none
  |_=>none
 | .c u=>match y with
  | .c v=>match SV op u v with
   |some r=>some (.c r)
   |none=>none
  |y=>match toP (.c u),toP y with
   |some p,some q=>aeS op p q
   |_,_=>none
 |x=>match toP x,toP y with
  |some p,some q=>aeS op p q
  |_,_=>none
theorem Rd.Xe [Bk] [Ev] {m:Nat→St} {A:Nat→Prop} {w:World} {t:TypeId} {v:AV} {q:Value} (g:Rd m A w (.pJ t v) q):∃u,q=.iface t u∧Rd m A w v u:=by
 cases g with
 |pure _ _ h=>cases h with|pJ _ _ u hr=>exact⟨u,rfl,.pure _ _ hr⟩
 |pJ _ _ u hr=>exact⟨u,rfl,hr⟩
theorem Rd.ah4 [Bk] [Ev] {m:Nat→St} {A:Nat→Prop} {w:World} {f:Fn} {xs ys:List AV} {q:Value} (g:Rd m A w (.fn f xs ys) q):∃vs us,q=.func f vs us:=by
 cases g with
 |pure _ _ h=>cases h with|fn _ _ _ vs us=>exact⟨vs,us,rfl⟩
 |fn _ _ _ vs us=>exact⟨vs,us,rfl⟩
theorem A9 [Bk] [Ev] (d:Nat) {t:TypeId} {ms:Array (String×TypeId)} (hu:P.underlying t=some (.interface ms)) (t':TypeId) (v:Value) (w:World):(Op.equalIn (d+1) t (.iface t' v) .nilIface).run P w=.ok false w:=by simp[Op.equalIn,run_underlying hu]
theorem Ba [Bk] [Ev] (d:Nat) {t:TypeId} {ms:Array (String×TypeId)} (hu:P.underlying t=some (.interface ms)) (w:World):(Op.equalIn (d+1) t .nilIface .nilIface).run P w=.ok true w:=by simp[Op.equalIn,run_underlying hu]
theorem A7 [Bk] [Ev] (d:Nat) {t:TypeId} {a b:Array TypeId} {c:Bool} (hu:P.underlying t=some (.func a b c)) (f:Fn) (x y:Array Value) (w:World):(Op.equalIn (d+1) t (.func f x y) .nilFunc).run P w=.ok false w:=by simp[Op.equalIn,run_underlying hu]
theorem A8 [Bk] [Ev] (d:Nat) {t:TypeId} {a b:Array TypeId} {c:Bool} (hu:P.underlying t=some (.func a b c)) (w:World):(Op.equalIn (d+1) t .nilFunc .nilFunc).run P w=.ok true w:=by simp[Op.equalIn,run_underlying hu]
theorem binOp_eql [Bk] [Ev] (op:BinOp) (t:TypeId) (x y:Value) (w:World) {b:Bool} (he:(Op.equal t x y).run P w=.ok b w) (hx:adq x y=true) :
  (op=.eql→(binOp op t x y).run P w=.ok (.bool b) w)∧(op=.neq→(binOp op t x y).run P w=.ok (.bool !b) w):=by
 unfold adq at hx;constructor<;>rintro rfl<;>(split at hx<;>first|(cases hx;done)|simp[binOp, *])
theorem afo [Bk] [Ev] {op:BinOp} {t ty:TypeId} {x y:Operand} {r:AV} (ho:o.op=.binOp op t x y ty) (hr:afZ P op t (FV x) (FV y) (dE f x) (dE f y)=some r):dX P o f h ⟨r,[],[]⟩:=by
 have fin:∀(b:Bool) (hc:(op=.eql∧r=.c (.bool b))∨(op=.neq∧r=.c (.bool !b))),
   (∀m A w a,lN m A w f a→(eqGuard op t x y (a.eval x) (a.eval y)).run P w=.ok () w∧(Op.equal t (a.eval x) (a.eval y)).run P w=.ok b w∧adq (a.eval x) (a.eval y)=true)→dX P o f h ⟨r,[],[]⟩:=by
  intro b hc hk;refine bQ fun m A w a H F=>?_
  obtain⟨h1,h2,h3⟩:=hk m A w a F;obtain⟨q1,q2⟩:=binOp_eql op t _ _ w h2 h3;rcases hc with⟨e,rfl⟩|⟨e,rfl⟩
  ·exact⟨_,by simp[execOp,ho,h1,q1 e],.pure _ _ (.c _)⟩
  ·exact⟨_,by simp[execOp,ho,h1,q2 e],.pure _ _ (.c _)⟩
 have two:∀(b:Bool),BM op b=some r→(op=.eql∧r=.c (.bool b))∨(op=.neq∧r=.c (.bool !b)):=fun b h=>aaP h
 unfold afZ at hr;split at hr
 ·rename_i p hx
  split at hr
  ·rename_i q hy
   split at hr
   ·rename_i hu
    split at hr
    ·cases hr;exact TU (op:=.eql) ho hx hy hu (.inl rfl)
    ·cases hr;exact TU (op:=.neq) ho hx hy hu (.inr rfl)
    ·cases hr
   ·cases hr
  ·cases hr
 ·rename_i hx
  split at hr
  ·rename_i hy
   split at hr
   ·rename_i hc
    obtain⟨ms,hu⟩:=Xl hc.2;refine fin true (two true hr) fun m A w a F=>?_
    have g1:=F.eval x;rw[hx]at g1
    have g2:=F.eval y;rw[hy]at g2
    rw[g1.dY,g2.dY];refine⟨?_,Ba 9999 hu w,rfl⟩
    have hc1:=hc.1;rcases two true hr with⟨e,-⟩|⟨e,-⟩<;>subst e<;>cases x<;>cases y<;>first|(simp[eqGuard];done)|(simp[FV]at hc1;done)
   ·cases hr
  ·cases hr
 ·rename_i t' v hx
  split at hr
  ·rename_i hy
   split at hr
   ·rename_i hc
    obtain⟨ms,hu⟩:=Xl hc;refine fin false (two false hr) fun m A w a F=>?_
    have g1:=F.eval x;rw[hx]at g1
    have g2:=F.eval y;rw[hy]at g2
    obtain⟨u,hu',-⟩:=g1.Xe;rw[hu',g2.dY];refine⟨?_,A9 9999 hu t' u w,rfl⟩
    rcases two false hr with⟨e,-⟩|⟨e,-⟩<;>subst e<;>simp[eqGuard]
   ·cases hr
  ·cases hr
 ·rename_i fn xs ys hx
  split at hr
  ·rename_i hy
   split at hr
   ·rename_i hc
    obtain⟨a0,b0,c0,hu⟩:=Xh hc;refine fin false (two false hr) fun m A w a F=>?_
    have g1:=F.eval x;rw[hx]at g1
    have g2:=F.eval y;rw[hy]at g2
    obtain⟨vs,us,hu'⟩:=g1.ah4;rw[hu',g2.dY];refine⟨?_,A7 9999 hu fn vs us w,rfl⟩
    rcases two false hr with⟨e,-⟩|⟨e,-⟩<;>subst e<;>simp[eqGuard]
   ·cases hr
  ·cases hr
 ·rename_i hx
  split at hr
  ·rename_i hy
   split at hr
   ·rename_i hc
    obtain⟨a0,b0,c0,hu⟩:=Xh hc;refine fin true (two true hr) fun m A w a F=>?_
    have g1:=F.eval x;rw[hx]at g1
    have g2:=F.eval y;rw[hy]at g2
    rw[g1.dY,g2.dY];refine⟨?_,A8 9999 hu w,rfl⟩
    rcases two true hr with⟨e,-⟩|⟨e,-⟩<;>subst e<;>simp[eqGuard]
   ·cases hr
  ·cases hr
 ·rename_i xs hx
  split at hr
  ·rename_i ys hy
   split at hr
   ·rename_i hg
    split at hr
    ·rename_i b he
     refine fin b (two b hr) fun m A w a F=>?_
     have g1:=F.eval x;rw[hx]at g1
     have g2:=F.eval y;rw[hy]at g2
     obtain⟨vs,hv,cx⟩:=g1.oH;obtain⟨us,hu',cy⟩:=g2.oH;rw[hv]at g1 ⊢;rw[hu']at g2 ⊢;refine⟨run_eqGuard_agg w op t x y vs us hg,?_,rfl⟩
     exact afI he g1 g2
    ·cases hr
   ·cases hr
  ·cases hr
 ·rename_i i hx
  split at hr
  ·rename_i j hy
   split at hr
   ·rename_i hc
    obtain⟨rfl,hk⟩:=hc;exact ac0 ho hx hy hk (two true hr)
   ·cases hr
  ·cases hr
 ·rename_i u hne1 hne2 hne3 hx
  split at hr
  ·rename_i v hy
   split at hr
   ·rename_i r' hb
    cases hr;exact ahR ho hx hy hb
   ·cases hr
  ·split at hr
   ·rename_i p q hp hq
    rw[←hx]at hp;exact acY ho hp hq hr
   ·cases hr
 ·split at hr
  ·rename_i p q hp hq
   exact acY ho hp hq hr
  ·cases hr
end
end Mc
namespace Mc
def rU (w:World) (a a':Act):Prop:=∀d∈a'.defers,d∈a.defers∨∃D,d.target=.collected D∧w.heap.size≤D
theorem rU.same {w:World} {a a':Act} (h:a'.defers=a.defers):rU w a a':=fun d hd=>.inl (h▸hd)
theorem rU.refl (w:World) (a:Act):rU w a a:=.same rfl
theorem put_defers (a:Act) (d:Option Tmp) (v:Value):(a.put d v).defers=a.defers:=by cases d<;>rfl
theorem rU.put (w:World) (a:Act) (d:Option Tmp) (v:Value):rU w a (a.put d v):=.same (by cases d<;>rfl)
theorem rU.trans {w w1:World} {a a1 a2:Act} (h:rU w a a1) (hs:w.heap.size≤w1.heap.size) (k:rU w1 a1 a2):rU w a a2:=by
 intro d hd;rcases k d hd with h1|⟨D,h1,h2⟩
 ·exact h d h1
 ·exact .inr ⟨D,h1,Nat.le_trans hs h2⟩
def PK [Bk] [Ev] (Q:Exit→List AV→AH→Prop) (m:Nat→St) (A:Nat→Prop) (w:World) (a:Act):Exit→Act→World→Prop:=fun e a' w'=>∃m' f' h',Q e f' h'∧bW m' A h' w'∧lN m' A w' f' a'∧Ext m w m' w'∧rU w a a'
theorem PK.back [Bk] [Ev] {Q:Exit→List AV→AH→Prop} {m m1:Nat→St} {A:Nat→Prop} {w w1:World} {a a1:Act} {e:Exit} {a':Act} {w':World} (E:Ext m w m1 w1) (N:rU w a a1) (h:PK Q m1 A w1 a1 e a' w'):PK Q m A w a e a' w':=by
 obtain⟨m',f',h',h1,h2,h3,h4,h5⟩:=h;exact⟨m',f',h',h1,h2,h3,E.trans h4,N.trans E.size h5⟩
def fw (r:Option Nat):Fence:={ Fence.wide with round:=r }
theorem BG {P:Program} {r:Option Nat} {n:Nat} {f:FuncId} {args:Array Value} {w:World} {R:Ending→World→Prop}:CallsIn (fw r) n P f args w R↔Calls P f args w R:=callsIn_wide (n:=n)
theorem yU {P:Program} {a:Act} {o:Oper} {w w':World} {x:Next} (h:(execOp a.eval o).run P w=.ok x w') (hx:∀d,x≠.defer d):∀c,o.op≠.defer c:=by
 intro c hc;simp only[execOp,hc,Sem.run_bind]at h;cases hr:(resolve a.eval c o.type).run P w with
 |ok d w2 =>
  rw[hr]at h;simp at h
  exact hx _ h.1.symm
 |halt e w2=>rw[hr]at h;cases h
theorem Cg {P:Program} {r:Option Nat} {n:Nat} {a:Act} {o:Oper} {w w':World} {v:Value} {K:Act→World→Prop} {Q:Exit→Act→World→Prop} (h:(execOp a.eval o).run P w=.ok (.value v) w') (hK:K (a.put o.dst v) w'):o.wpIn (fw r) n P a w K Q:=by
 refine⟨fun _ _=>trivial,?_⟩
 rw[Oper.semAt_eq _ _ _ (yU h (fun d e=>by cases e)),h]
 exact hK
theorem IQ {P:Program} {r:Option Nat} {n:Nat} {a:Act} {o:Oper} {w w':World} {K:Act→World→Prop} {Q:Exit→Act→World→Prop} (h:(execOp a.eval o).run P w=.ok .skip w') (hK:K (a.put o.dst Go.undef) w'):o.wpIn (fw r) n P a w K Q:=by
 refine⟨fun _ _=>trivial,?_⟩
 rw[Oper.semAt_eq _ _ _ (yU h (fun d e=>by cases e)),h]
 exact hK
theorem EH {P:Program} {r:Option Nat} {n:Nat} {a:Act} {o:Oper} {w w':World} {f:FuncId} {args:Array Value} {K:Act→World→Prop} {Q:Exit→Act→World→Prop} (h:(execOp a.eval o).run P w=.ok (.enter f args) w')
  (hK:Calls P f args w' fun e w''=>∃v,e=.returned v∧K (a.put o.dst v) w''):o.wpIn (fw r) n P a w K Q:=by
 refine⟨fun _ _=>trivial,?_⟩
 rw[Oper.semAt_eq _ _ _ (yU h (fun d e=>by cases e)),h]
 refine⟨fun h=>(by cases h),BG.2 (hK.mono ?_)⟩
 rintro e w'' ⟨v,rfl,hk⟩
 exact hk
theorem PU {P:Program} {r:Option Nat} {n:Nat} {a:Act} {o:Oper} {w w':World} {l:Nat} {f:FuncId} {tmps:Array Value} {assign body:Code} {K:Act→World→Prop} {Q:Exit→Act→World→Prop} (h:(execOp a.eval o).run P w=.ok (.round l f tmps assign body) w')
  (hK:RoundIn (fw r) (n-1) P l f tmps assign body w' fun e w''=>∃v,e=.returned v∧K (a.put o.dst v) w''):o.wpIn (fw r) n P a w K Q:=by
 refine⟨fun _ _=>trivial,?_⟩
 rw[Oper.semAt_eq _ _ _ (yU h (fun d e=>by cases e)),h]
 refine⟨fun h=>(by cases h),hK.mono ?_⟩
 rintro e w'' ⟨v,rfl,hk⟩
 exact hk
def iW [Bk] [Ev] (P:Program) (tp:Bool) (c:Code) (Q:Exit→List AV→AH→Prop) (f:List AV) (h:AH):Prop :=
 ∀r m A w a,(tp=true→r=none)→bW m A h w→lN m A w f a→c.wpIn (fw r) 9 P (PK Q m A w a) a w
theorem BA {p:Nat→Prop} (h:∃n,p n):∃n,p n∧∀k,p k→n≤k:=by
 obtain⟨n,hn⟩:=h;induction n using Nat.strongRecOn with
 |_ n ih =>
  by_cases hk:∃k,k<n∧p k
  ·obtain⟨k,h1,h2⟩:=hk
   exact ih k h1 h2
  ·refine⟨n,hn,fun k hp=>?_⟩
   rcases Nat.lt_or_ge k n with h|h
   ·exact absurd ⟨k,h,hp⟩ hk
   ·exact h
theorem Oo {α:Type} (J:Nat→α→Prop):∃μ:α→Nat,∀x,(∃n,J n x)→J (μ x) x∧∀n,J n x→μ x≤n:=by
 classical
 refine⟨fun x=>if h:∃n,J n x then Classical.choose (BA h)else 0,fun x hx=>?_⟩
 have e:(if h:∃n,J n x then Classical.choose (BA h)else 0)=Classical.choose (BA hx):=dif_pos hx
 simp only[e];exact Classical.choose_spec (BA hx)
section
variable {P:Program} {Q:Exit→List AV→AH→Prop} {f:List AV} {h:AH} {tp:Bool}
theorem iW.skip [Bk] [Ev] (k:Q .normal f h):iW P tp .skip Q f h:=fun r m A w a hr H F=>wpIn_skip ⟨m,f,h,k,H,F,Ext.refl _ _,rU.refl _ _⟩
theorem iW.exit [Bk] [Ev] {id:Nat} (k:Q (.exit id) f h):iW P tp (.exit id) Q f h:=fun r m A w a hr H F=>wpIn_exit ⟨m,f,h,k,H,F,Ext.refl _ _,rU.refl _ _⟩
theorem iW.ret [Bk] [Ev] (k:Q .ret f h):iW P tp .ret Q f h:=fun r m A w a hr H F=>wpIn_ret ⟨m,f,h,k,H,F,Ext.refl _ _,rU.refl _ _⟩
def agr (N:List AV→AH→Prop) (Q:Exit→List AV→AH→Prop):Exit→List AV→AH→Prop
 | .normal,f,h=>N f h
 |e,f,h=>Q e f h
theorem iW.seq [Bk] [Ev] {x y:Code} (k:iW P tp x (agr (iW P tp y Q) Q) f h):iW P tp (.seq x y) Q f h:=by
 intro r m A w a hr H F;refine wpIn_seq (wpIn_mono (k r m A w a hr H F) ?_)
 rintro e a1 w1 ⟨m1,f1,h1,q,H1,F1,E1,N1⟩
 cases e with
 |normal=>exact wpIn_mono (q r m1 A w1 a1 hr H1 F1) fun e a w hl=>hl.back E1 N1
 |_=>exact⟨m1,f1,h1,q,H1,F1,E1,N1⟩
theorem iW.cond [Bk] [Ev] {c:Operand} {x y:Code} {b:Bool} (hc:dE f c=.c (.bool b)) (k:iW P tp (if b then x else y) Q f h):iW P tp (.cond c x y) Q f h:=by
 intro r m A w a hr H F;have:=F.eval c
 rw[hc]at this;exact wpIn_cond this.bool (k r m A w a hr H F)
def F0 (id:Nat) (Q:Exit→List AV→AH→Prop):Exit→List AV→AH→Prop
 | .exit id',f,h=>if id'=id then Q .normal f h else Q (.exit id') f h
 |e,f,h=>Q e f h
theorem iW.block [Bk] [Ev] {id:Nat} {c:Code} (k:iW P tp c (F0 id Q) f h):iW P tp (.block id c) Q f h:=by
 intro r m A w a hr H F;refine wpIn_block (wpIn_mono (k r m A w a hr H F) ?_)
 rintro e a1 w1 ⟨m1,f1,h1,q,H1,F1,E1,N1⟩
 cases e with
 |exit id' =>
  simp only[F0]at q;simp only[Exit.inBlock];split
  ·rename_i e;rw[if_pos e]at q;exact⟨m1,f1,h1,q,H1,F1,E1,N1⟩
  ·rename_i e;rw[if_neg e]at q;exact⟨m1,f1,h1,q,H1,F1,E1,N1⟩
 |_=>exact⟨m1,f1,h1,q,H1,F1,E1,N1⟩
theorem mM {P:Program} {b:Frame} {a:Act} {k:List Item} {cs:List Frame} {w:World} {c:Code}:step P (lone (b.atR a (.code (.scope c)::k)) cs w)=.next (lone (b.atR a (.code c::.inScope c::k)) cs w) :=
 step_lone_go (by simp[stepG,stepG.exec,Frame.atR])
theorem G0 {P:Program} {b:Frame} {a:Act} {k:List Item} {cs:List Frame} {w:World} {c:Code}:step P (lone (b.atR a (.inScope c::k)) cs w)=.next (lone (b.atR a k) cs w) :=
 step_lone_go (by simp[stepG,stepG.exec,Frame.atR])
theorem EG {P:Program} {F:Fence} {n:Nat} {Q:Exit→Act→World→Prop} {a:Act} {w:World} {c:Code} (h:c.wpIn F n P (fun e a w=>(∀l,e≠.goto l)∧Q e a w) a w):(Code.scope c).wpIn F n P Q a w:=by
 intro b k cs hro hb hr;have h0:(lone (b.atR a (.code (.scope c)::k)) cs w).fenced P F:=fenced_calm hb hr rfl
 obtain⟨e,a₁,w₁,⟨hg,hq⟩,harr⟩:=h b (.inScope c::k) cs hro hb hr
 cases e with
 |normal=>exact⟨.normal,a₁,w₁,hq,.head h0 mM (StepsIn.trans harr (.one (fenced_calm hb hr rfl) G0))⟩
 |exit id =>
  have hx:exitTo id (.inScope c::k)=exitTo id k:=by simp[exitTo]
  exact⟨.exit id,a₁,w₁,hq,fun k' hk=>.head h0 mM (harr.1 k' (by rw[hx];exact hk)),
   fun hr' hk=>let ⟨k₁,h1,h2⟩:=harr.2 hr' (by rw[hx];exact hk);⟨k₁,h1,.head h0 mM h2⟩⟩
 |goto l=>exact absurd rfl (hg l)
 |ret=>exact⟨_,a₁,w₁,hq,.of_steps (.one h0 mM) harr⟩
 |panic ch=>exact⟨_,a₁,w₁,hq,.of_steps (.one h0 mM) harr⟩
 |outgrown=>exact⟨_,a₁,w₁,hq,.of_steps (.one h0 mM) harr⟩
theorem iW.scope [Bk] [Ev] {c:Code} (k:iW P tp c (fun e f h=>(∀l,e≠.goto l)∧Q e f h) f h):iW P tp (.scope c) Q f h:=by
 intro r m A w a hr H F;refine EG (wpIn_mono (k r m A w a hr H F) ?_)
 rintro e a1 w1 ⟨m1,f1,h1,⟨q0,q⟩,H1,F1,E1,N1⟩
 exact⟨q0,m1,f1,h1,q,H1,F1,E1,N1⟩
theorem iW.label [Bk] [Ev] {l:Nat} (k:Q .normal f h):iW P tp (.label l) Q f h:=fun r m A w a hr H F=>wpIn_label ⟨m,f,h,k,H,F,Ext.refl _ _,rU.refl _ _⟩
theorem iW.loop [Bk] [Ev] {c:Code} (I:Nat→List AV→AH→Prop) (n:Nat) (h0:I n f h) (round:∀n f h,I n f h→iW P tp c (agr (fun f' h'=>∃n',n'<n∧I n' f' h') Q) f h):iW P tp (.loop c) Q f h:=by
 intro r m A w a hr H F;let J:Nat→Act→World→Prop:=fun n a' w'=>∃m1 f1 h1,I n f1 h1∧bW m1 A h1 w'∧lN m1 A w' f1 a'∧Ext m w m1 w'∧rU w a a'
 obtain⟨μ,hμ⟩:=Oo (fun n (p:Act×World)=>J n p.1 p.2)
 refine wpIn_loop (fun a' w'=>∃n,J n a' w') (fun a' w'=>μ (a',w')) ⟨n,m,f,h,h0,H,F,Ext.refl _ _,rU.refl _ _⟩ ?_
 intro a1 w1 hex;obtain⟨m1,f1,h1,hI,H1,F1,E1,N1⟩:=(hμ (a1,w1) hex).1
 refine wpIn_mono (round _ f1 h1 hI r m1 A w1 a1 hr H1 F1) ?_
 rintro e a2 w2 ⟨m2,f2,h2,q,H2,F2,E2,N2⟩
 cases e with
 |normal =>
  obtain⟨n',hlt,hI'⟩:=q;have hJ:J n' a2 w2:=⟨m2,f2,h2,hI',H2,F2,E1.trans E2,N1.trans E1.size N2⟩
  exact⟨⟨n',hJ⟩,Nat.lt_of_le_of_lt ((hμ (a2,w2) ⟨n',hJ⟩).2 n' hJ) hlt⟩
 |_=>exact⟨m2,f2,h2,q,H2,F2,E1.trans E2,N1.trans E1.size N2⟩
def mJ [Bk] [Ev] (P:Program) (o:Oper) (f:List AV) (h:AH) (R:AV→AH→Prop):Prop :=
 ∀r m A w a,bW m A h w→lN m A w f a→∀(K:Act→World→Prop) (Q:Exit→Act→World→Prop),(∀v h' x w' m',R v h'→bW m' A h' w'→Rd m' A w' v x→Ext m w m' w'→K (a.put o.dst x) w')→o.wpIn (fw r) 9 P a w K Q
theorem dX.step [Bk] [Ev] {o:Oper} {r:AR} (k:dX P o f h r):mJ P o f h (fun v h'=>v=r.v∧h'=eW h r.bG):=by
 intro r' m A w a H F K Q hK;obtain⟨x,w',m',hr,h1,h2,h3⟩:=k m A w a H F;rcases hr with hr|⟨hr,rfl⟩
 ·exact Cg hr (hK _ _ x w' m' ⟨rfl,rfl⟩ h1 h2 h3)
 ·exact IQ hr (hK _ _ _ w' m' ⟨rfl,rfl⟩ h1 h2 h3)
theorem mJ.mono [Bk] [Ev] {o:Oper} {R R':AV→AH→Prop} (k:mJ P o f h R) (hr:∀v h,R v h→R' v h):mJ P o f h R' :=
 fun r m A w a H F K Q hK=>k r m A w a H F K Q fun v h' x w' m' hR=>hK v h' x w' m' (hr _ _ hR)
def kH (ops:Array Oper) (o:Oper) (f:List AV):Option Bool :=
 match o.guard with
 |none=>some true
 |some (j,want)=>match (ops[j]?).bind (·.dst)with
  |none=>some false
  |some d=>match f[d]? with
   |some (.c (.bool b))=>some (b==want)
   |some .undef=>some false
   |none=>some false
   |_=>none
theorem yY [Bk] [Ev] {m:Nat→St} {A:Nat→Prop} {w:World} {a:Act} {ops:Array Oper} {o:Oper} {b:Bool} (F:lN m A w f a) (hg:kH ops o f=some b):Region.wanted o (yielded ops a.tmps)=b:=by
 unfold kH at hg;unfold Region.wanted;cases ho:o.guard with
 |none=>simp[ho]at hg ⊢;exact hg
 |some p =>
  obtain⟨j,want⟩:=p;simp only[ho]at hg ⊢;unfold yielded;cases hd:(ops[j]?).bind (·.dst)with
  |none=>simp[hd]at hg ⊢;exact hg
  |some d =>
   simp only[hd,Option.bind_some]at hg ⊢;have hsz:=F.size;split at hg
   ·rename_i q hf
    cases hg;have h1:=F.rd d _ hf;have hlt:d<a.tmps.size:=by rw[hsz];exact(List.getElem?_eq_some_iff.1 hf).1
    have h2:=h1.dY;have:a.tmps[d]?=some (.bool q):=by simpa[hlt]using h2
    rw[this];cases q<;>cases want<;>rfl
   ·rename_i hf
    cases hg;have h1:=F.rd d _ hf;have hlt:d<a.tmps.size:=by rw[hsz];exact(List.getElem?_eq_some_iff.1 hf).1
    have h2:a.tmps.getD d Go.undef=Go.undef:=by
     generalize a.tmps.getD d Go.undef=u at h1
     cases h1 with|pure _ _ h=>cases h;rfl
    have:a.tmps[d]?=some Go.undef:=by simpa[hlt]using h2
    rw[this];rfl
   ·rename_i hf
    cases hg;have:a.tmps.size≤d:=by rw[hsz];exact List.getElem?_eq_none_iff.1 hf
    rw[Array.getElem?_eq_none this];rfl
   ·cases hg
def iT [Bk] [Ev] (P:Program) (ops:Array Oper) (Q:Exit→List AV→AH→Prop) (l:List Nat) (f:List AV) (h:AH):Prop :=
 ∀r m A w a,bW m A h w→lN m A w f a→wpOpsIn (fw r) 9 P ops (PK Q m A w a) l a w
theorem iT.nil [Bk] [Ev] {ops:Array Oper} (k:Q .normal f h):iT P ops Q [] f h:=fun r m A w a H F=>⟨m,f,h,k,H,F,Ext.refl _ _,rU.refl _ _⟩
theorem Oper.PV [Bk] [Ev] {r:Option Nat} {n:Nat} {o:Oper} {a:Act} {w:World} {K K':Act→World→Prop} {Q Q':Exit→Act→World→Prop} (hk:∀a w,K a w→K' a w) (hq:∀e a w,Q e a w→Q' e a w) (hh:o.wpIn (fw r) n P a w K Q):o.wpIn (fw r) n P a w K' Q':=by
 unfold Oper.wpIn at *
 refine⟨hh.1,?_⟩
 have hh:=hh.2;have lets:LetsOut Q→LetsOut Q':=fun⟨a0,w0,h0⟩=>⟨a0,w0,hq _ _ _ h0⟩
 generalize (o.semAt (fw r).round a.eval).run P w=x at *
 cases x with
 |ok n w' =>
  cases n<;>simp only[Oper.uponIn]at hh ⊢ <;>
   first
    |exact hk _ _ hh
    |exact hh.elim
    |exact⟨hh.1,CallsIn.mono hh.2 (fun e w'' he=>by cases e<;>first|exact hk _ _ he|exact hq _ _ _ he|exact lets he)⟩
    |exact⟨hh.1,RowsIn.mono hh.2 (fun _ _ he=>hk _ _ he)⟩
    |exact⟨hh.1,RoundIn.mono hh.2 (fun e w'' he=>by cases e<;>first|exact hk _ _ he|exact hq _ _ _ he|exact lets he)⟩
 |halt h w'=>cases h<;>simp only[Oper.uponIn]at hh ⊢<;>first|exact hq _ _ _ hh|exact hh.elim
theorem mW [Bk] [Ev] {r:Option Nat} {n:Nat} {ops:Array Oper} {Q Q':Exit→Act→World→Prop} (hq:∀e a w,Q e a w→Q' e a w):∀(l:List Nat) (a:Act) (w:World),wpOpsIn (fw r) n P ops Q l a w→wpOpsIn (fw r) n P ops Q' l a w
 |[],a,w,h=>hq _ _ _ h
 |i::l,a,w,h=>by
  simp only[wpOpsIn]at h ⊢;split at h
  ·exact mW hq l _ _ h
  ·rename_i o ho
   split at h
   ·rename_i hw
    rw[if_pos hw];exact Oper.PV (fun a w h=>mW hq l a w h) hq h
   ·rename_i hw
    rw[if_neg hw];exact⟨h.1,mW hq l _ _ h.2⟩
theorem iT.cons [Bk] [Ev] {ops:Array Oper} {i:Nat} {l:List Nat} {o:Oper} {R:AV→AH→Prop} (ho:ops[i]?=some o) (hg:kH ops o f=some true) (hs:mJ P o f h R) (k:∀v h',R v h'→iT P ops Q l (pE f o.dst v) h'):iT P ops Q (i::l) f h:=by
 intro r m A w a H F;simp only[wpOpsIn,ho];rw[if_pos (yY F hg)];refine hs r m A w a H F _ _ ?_
 intro v h' x w' m' hR H' hx E;exact mW (fun e a1 w1 hl=>hl.back E (rU.put w a o.dst x)) l _ _ (k v h' hR r m' A w' _ H' (F.put E hx o.dst))
theorem iT.pass [Bk] [Ev] {ops:Array Oper} {i:Nat} {l:List Nat} {o:Oper} (ho:ops[i]?=some o) (hg:kH ops o f=some false) (k:iT P ops Q l (pE f o.dst .undef) h):iT P ops Q (i::l) f h:=by
 intro r m A w a H F;simp only[wpOpsIn,ho];rw[if_neg (by rw[yY F hg];simp)]
 exact⟨fun _ _=>trivial,mW (fun e a1 w1 hl=>hl.back (Ext.refl _ _) (rU.put w a o.dst Go.undef)) l _ _ (k r m A w _ H (F.put (Ext.refl _ _) (.pure _ _ .undef) o.dst))⟩
theorem iW.region [Bk] [Ev] {id:Nat} {ops:Array Oper} (k:iT P ops Q (List.range ops.size) f h):iW P tp (.region id ops false) Q f h :=
 fun r m A w a _ H F=>wpIn_region (k r m A w a H F)
def eT [Bk] [Ev] (P:Program) (F:FuncId) (args:List AV) (h:AH) (R:AV→AH→Prop):Prop :=
 ∀m A w vs,bW m A h w→vs.size=args.length→(∀(i:Nat) (x:AV),args[i]?=some x→Rd m A w x (vs.getD i Go.undef)) →
  Calls P F vs w fun e w'=>∃v u m' h',e=.returned v∧R u h'∧bW m' A h' w'∧Rd m' A w' u v∧Ext m w m' w'
theorem eT.mono [Bk] [Ev] {F:FuncId} {args:List AV} {R R':AV→AH→Prop} (k:eT P F args h R) (hr:∀v h,R v h→R' v h):eT P F args h R' :=
 fun m A w vs H hl hv=>(k m A w vs H hl hv).mono fun e w' ⟨v,u,m',h',h1,h2,h3⟩=>⟨v,u,m',h',h1,hr _ _ h2,h3⟩
def Xv (P:Program) (ty:TypeId) (h:AH):AV→Option AV
 | .ptr sz id i off=>match h id with
  | .cells _ s aN=>if s=sz then(aN[i]?).bind fun e=>kQ P ty e off else none
  |_=>none
 |_=>none
def zL (P:Program) (f:List AV) (h:AH):ResultVar→Option AV
 | .tmp t=>some (f.getD t .undef)
 | .cell t ty=>Xv P ty h (f.getD t .undef)
def AU:List AV→AV
 |[v]=>v
 |vs=>.aZ vs
def eF (P:Program) (fn:Func) (f:List AV) (h:AH):Option AV :=
 (fn.results.toList.mapM (zL P f h)).map AU
def ab2 (tmps:Array Value):ResultVar→Sem Value
 | .tmp t=>pure (tmps.getD t Go.undef)
 | .cell a t=>do loadVar t (←asAddr (tmps.getD a Go.undef))
theorem Rk [Bk] [Ev] (fn:Func) (tmps:Array Value):results fn tmps=(do let vs ←fn.results.mapM (ab2 tmps);pure (if h:vs.size=1 then vs[0]else .tuple vs)):=by
 unfold results;congr 1
theorem ae5 [Bk] [Ev] {m:Nat→St} {A:Nat→Prop} {w:World} {a:Act} (H:bW m A h w) (F:lN m A w f a) {r:ResultVar} {x:AV} (hr:zL P f h r=some x) :
  ∃v,(ab2 a.tmps r).run P w=.ok v w∧Rd m A w x v:=by
 cases r with
 |tmp t =>
  simp only[zL,Option.some.injEq]at hr;subst hr;exact⟨a.tmps.getD t Go.undef,rfl,F.eval (.tmp t)⟩
 |cell t ty =>
  simp only[zL]at hr;have h1:=F.eval (.tmp t)
  simp only[dE,Act.eval]at h1;unfold Xv at hr;split at hr
  ·rename_i sz id i off hf
   rw[hf]at h1;split at hr
   ·rename_i T s aN hh
    split at hr
    ·rename_i hs
     subst hs;cases he:aN[i]? with
     |none=>simp[he]at hr
     |some e =>
      simp only[he,Option.bind_some]at hr;obtain⟨b,cs,g1,g2,g3,g4,g5⟩:=H.block hh he;have hv:=h1.Dd g1;obtain⟨u,r1,r2⟩:=vZ (P:=P) (m:=m) (A:=A) (w:=w) (b:=b) (o0:=i*s) (vs:=fun j=>cs.getD (i*s+j) Go.undef) hr (by
       intro j y hy;have ha:fW aN i j=some y:=by simp[fW,he,hy]
       obtain⟨k1,k2⟩:=g5 i j y ha;refine⟨k1,?_,k2⟩
       have:=(gU ha g4).2.2
       have hlt:i*s+j<cs.size:=by omega
       simp[World.cell?,g2,hlt])
      refine⟨u,?_,r2⟩
      simp only[ab2,hv];simp[asAddr,r1]
    ·cases hr
   ·cases hr
  ·cases hr
theorem Dx [Bk] [Ev] {m:Nat→St} {A:Nat→Prop} {w:World} {a:Act} {fn:Func} (H:bW m A h w) (F:lN m A w f a) {x:AV} (hr:eF P fn f h=some x):∃v,(results fn a.tmps).run P w=.ok v w∧Rd m A w x v:=by
 have key:∀(l:List ResultVar) (xs:List AV),l.mapM (zL P f h)=some xs→∃vs:List Value,(l.mapM (ab2 a.tmps)).run P w=.ok vs w∧vs.length=xs.length∧∀(i:Nat) (x:AV),xs[i]?=some x→Rd m A w x (vs.getD i Go.undef):=by
  intro l;induction l with
  |nil=>intro xs h;simp at h;subst h;exact⟨[],by simp,rfl,by intro i x h;simp at h⟩
  |cons r l ih =>
   intro xs hx;rw[List.mapM_cons]at hx;cases h1:zL P f h r with
   |none=>simp[h1]at hx
   |some y =>
    cases h2:l.mapM (zL P f h)with
    |none=>simp[h1,h2]at hx
    |some ys =>
     simp[h1,h2]at hx
     subst hx;obtain⟨v,r1,r2⟩:=ae5 H F h1;obtain⟨vs,q1,q2,q3⟩:=ih ys h2;refine⟨v::vs,?_,by simp[q2],?_⟩
     ·rw[List.mapM_cons]
      simp only[Sem.run_bind,r1,Result.andThen_ok,q1];rfl
     ·intro i x hi
      cases i with
      |zero=>simp at hi;subst hi;exact r2
      |succ i=>exact q3 i x (by simpa using hi)
 unfold eF at hr;cases hm:fn.results.toList.mapM (zL P f h)with
 |none=>simp[hm]at hr
 |some xs =>
  simp only[hm,Option.map_some,Option.some.injEq]at hr;obtain⟨vs,q1,q2,q3⟩:=key _ _ hm;have harr:(fn.results.mapM (ab2 a.tmps)).run P w=.ok vs.toArray w:=by
   rw[←Array.toArray_toList (xs:=fn.results),List.mapM_toArray];simp[q1]
  refine⟨if h:vs.toArray.size=1 then vs.toArray[0]else .tuple vs.toArray,?_,?_⟩
  ·rw[Rk]
   simp only[Sem.run_bind,harr,Result.andThen_ok];rfl
  ·subst hr
   by_cases h1:xs.length=1
   ·obtain⟨v,rfl⟩:=List.length_eq_one_iff.1 h1
    obtain⟨u,rfl⟩:=List.length_eq_one_iff.1 (q2.trans h1)
    simpa[AU]using q3 0 v rfl
   ·have hl:vs.length≠1:=by omega
    rw[dif_neg (by simpa using hl)]
    have:AU xs=.aZ xs:=by
     match xs,h1 with
     |[],_=>rfl
     |[v],h=>simp at h
     |_::_::_,_=>rfl
    rw[this];exact .aZ _ _ (by simp[q2]) (fun i x hi=>by simpa[List.getD]using q3 i x hi)
def ajQ (P:Program) (fn:Func) (R:AV→AH→Prop):Exit→List AV→AH→Prop
 | .normal,f,h | .ret,f,h=>∃x,eF P fn f h=some x∧R x h
 |_,_,_=>False
theorem dG.cells [Bk] [Ev] {A:Nat→Prop} {w w':World} (hs:w.heap.size≤w'.heap.size) (hc:∀b,b<w.heap.size→¬ A b→∀o,w'.cell? ⟨b,o,none⟩=w.cell? ⟨b,o,none⟩) {x:AV} {v:Value} (h:dG A w x v):dG A w' x v:=by
 induction h with
 |c v=>exact .c v
 |undef=>exact .undef
 |emp a=>exact .emp a
 |agg cs vs hl h1 _ ih=>exact .agg cs vs hl h1 ih
 |aZ cs vs hl _ ih=>exact .aZ cs vs hl ih
 |lit sz aN b off cap vs hm hb hcap hsz h1 hv _ ih =>
  exact .lit sz aN b off cap vs hm (Nat.lt_of_lt_of_le hb hs) hcap hsz h1 (fun i j x hx=>(hc b hb hm _).trans (hv i j x hx)) ih
 |nG sz a cap hm=>exact .nG sz a cap hm
 |gT sz aN i0 j0 b off vs hm hb hsz h1 hv _ ih =>
  exact .gT sz aN i0 j0 b off vs hm (Nat.lt_of_lt_of_le hb hs) hsz h1 (fun i j x hx=>(hc b hb hm _).trans (hv i j x hx)) ih
 |fn f xs ys vs us hl hk _ _ ih1 ih2=>exact .fn f xs ys vs us hl hk ih1 ih2
 |pJ t x v _ ih=>exact .pJ t x v ih
 |e p=>exact .e p
 |row n xs b off len cap hn hcap hm hb hv=>exact .row n xs b off len cap hn hcap hm (Nat.lt_of_lt_of_le hb hs) fun j p hx hj=>(hc b hb hm _).trans (hv j p hx hj)
 |I8 n xs a cap hn=>exact .I8 n xs a cap hn
 |o i=>exact .o i
 |any v h1=>exact .any v h1
 |seq sz base bG tail v hin h1 _ ih=>exact .seq sz base bG tail v hin h1 ih
 |tY sz base bG tail p off v hin h1 hp _ ih=>exact .tY sz base bG tail p off v hin h1 hp ih
 |nV v=>exact .nV v
def shut (w:World) (D:Nat):World:=w.putObj D (.deferred none)
theorem HA {w:World} {D:Nat} {ds:Option (List Deferred)} (hD:w.heap[D]?=some (.deferred ds)) (b o:Nat):(shut w D).cell? ⟨b,o,none⟩=w.cell? ⟨b,o,none⟩:=by
 by_cases e:b=D
 ·subst e
  have:=World.putObj_heap_same (w:=w) (o:=.deferred none) (Array.getElem?_eq_some_iff.1 hD).1
  simp[World.cell?,shut,this,hD]
 ·exact World.cell?_of_block (a:=⟨b,o,none⟩) (World.putObj_heap_other e)
theorem Rd.shut [Bk] [Ev] {m:Nat→St} {A:Nat→Prop} {w:World} {D:Nat} {ds:Option (List Deferred)} (hD:w.heap[D]?=some (.deferred ds)) (hn:∀id,m id≠.at D) {x:AV} {v:Value} (h:Rd m A w x v):Rd m A (shut w D) x v:=by
 have hsz:(Mc.shut w D).heap.size=w.heap.size:=World.putObj_size
 induction h with
 |pure x v h=>exact .pure x v (h.cells (by rw[hsz];exact Nat.le_refl _) fun b _ _ o=>HA hD b o)
 |agg cs vs hl h1 _ ih=>exact .agg cs vs hl h1 ih
 |aZ cs vs hl _ ih=>exact .aZ cs vs hl ih
 |own T sz id i n b cap hm hb hn' hc hr =>
  refine .own T sz id i n b cap hm (by rw[hsz];exact hb) hn' hc (hr.trans ?_)
  have:(Mc.shut w D).heap[b]?=w.heap[b]?:=World.putObj_heap_other (by rintro rfl;exact hn id hm)
  simp[dV,this]
 |sA T sz id i a hm=>exact .sA T sz id i a hm
 |uD T sz id i n a n' cap hm=>exact .uD T sz id i n a n' cap hm
 |ptr sz id i off b hm hb=>exact .ptr sz id i off b hm (by rw[hsz];exact hb)
 |G2 sz id i off a hm=>exact .G2 sz id i off a hm
 |fn f xs ys vs us hl hk _ _ ih1 ih2=>exact .fn f xs ys vs us hl hk ih1 ih2
 |pJ t x v _ ih=>exact .pJ t x v ih
 |DW id b hm=>exact .DW id b hm
 |MS id b hm=>exact .MS id b hm
 |mpv id b hm=>exact .mpv id b hm
 |Se id b hm=>exact .Se id b hm
 |view T sz id i n b cap hm=>exact .view T sz id i n b cap hm
 |AT T sz id i n a cap hm=>exact .AT T sz id i n a cap hm
 |cE T sz id n b len cap hm hb hl hn' hc hr =>
  refine .cE T sz id n b len cap hm (by rw[hsz];exact hb) hl hn' hc (hr.trans ?_)
  have:(Mc.shut w D).heap[b]?=w.heap[b]?:=World.putObj_heap_other (by rintro rfl;exact hn id hm)
  simp[dV,this]
 |sG T sz id n a hm hn'=>exact .sG T sz id n a hm hn'
 |sJ T sz id n a n' cap hm=>exact .sJ T sz id n a n' cap hm
 |mC sz id p off b hm hb=>exact .mC sz id p off b hm (by rw[hsz];exact hb)
 |zX sz id p off a hm=>exact .zX sz id p off a hm
theorem bW.shut [Bk] [Ev] {m:Nat→St} {A:Nat→Prop} {w:World} {D:Nat} {ds:Option (List Deferred)} (H:bW m A h w) (hD:w.heap[D]?=some (.deferred ds)) (hn:∀id,m id≠.at D):bW m A h (shut w D):=by
 have hsz:(Mc.shut w D).heap.size=w.heap.size:=World.putObj_size
 have hot:∀b,b≠D→(Mc.shut w D).heap[b]?=w.heap[b]?:=fun b e=>World.putObj_heap_other e
 refine⟨H.out,fun b hb=>by rw[hsz];exact H.El b hb,H.no,H.dead,?_,H.inj,?_,?_,H.PR⟩
 ·intro id T sz aN hh
  obtain hv|⟨b,cs,h1,h2,h3,h4,h5⟩:=H.rL id T sz aN hh
  ·exact .inl hv
  ·exact .inr ⟨b,cs,h1,(hot b (by rintro rfl;exact hn id h1)).trans h2,h3,h4,fun i j x hx=>⟨(h5 i j x hx).1,(h5 i j x hx).2.shut hD hn⟩⟩
 ·intro t ht
  obtain⟨h1,h2,h3⟩:=H.kI t ht;exact⟨h1,by rw[hsz];exact h2,fun j v hv=>(HA hD t.1 j).trans (h3 j v hv)⟩
 ·intro id B hh hB
  obtain⟨b,h1,h2⟩:=H.others id B hh hB;have hb:=hot b (by rintro rfl;exact hn id h1)
  refine⟨b,h1,?_⟩
  cases B with
  |lp st f ps as bd =>
   obtain⟨L,k1,k2,k3,k4,k5,k6,k7,k8⟩:=h2;exact⟨L,hb.trans k1,k2,k3,k4,k5,k6,k7,fun i x hx=>(k8 i x hx).shut hD hn⟩
  |it s pos=>exact hb.trans h2
  |mp es =>
   obtain⟨ms,clock,k1,k2,k3⟩:=h2;refine⟨ms,clock,hb.trans k1,k2,fun i k x hx=>?_⟩
   obtain⟨e,g1,g2,g3⟩:=k3 i k x hx;exact⟨e,g1,g2,g3.shut hD hn⟩
  |_=>exact h2
theorem Ext.shut [Bk] [Ev] {m m':Nat→St} {w w':World} {D:Nat} (E:Ext m w m' w') (hD:w.heap.size≤D) (hn:∀id,m' id≠.at D):Ext m w m' (shut w' D):=by
 have hsz:(Mc.shut w' D).heap.size=w'.heap.size:=World.putObj_size
 have hot:∀b,b≠D→(Mc.shut w' D).heap[b]?=w'.heap[b]?:=fun b e=>World.putObj_heap_other e
 refine⟨E.os,E.tape,E.output,by rw[hsz];exact E.size,E.at_,E.dead,E.rW,?_,?_⟩
 ·intro b hb hu
  obtain⟨h1,h2⟩:=E.un b hb hu;exact⟨h1,(hot b (by omega)).trans h2⟩
 ·intro id b h1 h2
  have:=hot b (by rintro rfl;exact hn id h2)
  have:=E.rows id b h1 h2
  simp only[dV]at *
  rw[hot b (by rintro rfl;exact hn id h2)]
  exact this
def A3 (w:World):List Nat→World
 |[]=>w
 |D::Ds=>A3 (shut w D) Ds
theorem E5 [Bk] [Ev] {m m0:Nat→St} {A:Nat→Prop} {w0:World}:∀(Ds:List Nat) (w:World),bW m A h w→Ds.Nodup→(∀D∈Ds,w.heap[D]?=some (.deferred (some []))∧∀id,m id≠.at D)→(∀D∈Ds,w0.heap.size≤D)→Ext m0 w0 m w →
  bW m A h (A3 w Ds)∧Ext m0 w0 m (A3 w Ds)∧∀(x:AV) (v:Value),Rd m A w x v→Rd m A (A3 w Ds) x v
 |[],w,H,_,_,_,E=>⟨H,E,fun _ _ h=>h⟩
 |D::Ds,w,H,hnd,hD,hs,E=>by
  obtain⟨k1,k2⟩:=hD D List.mem_cons_self;rw[List.nodup_cons]at hnd;obtain⟨r1,r2,r3⟩:=E5 Ds (shut w D) (H.shut k1 k2) hnd.2 (fun D' hm=>by
   obtain⟨q1,q2⟩:=hD D' (List.mem_cons_of_mem _ hm)
   exact⟨(World.putObj_heap_other (by rintro rfl;exact hnd.1 hm)).trans q1,q2⟩) (fun D' hm=>hs D' (List.mem_cons_of_mem _ hm)) (E.shut (hs D List.mem_cons_self) k2)
  exact⟨r1,r2,fun x v h=>r3 x v (h.shut k1 k2)⟩
theorem wA {F:Fence} {n:Nat} {fn:Func} {tmps:Array Value} {R:Ending→World→Prop}:∀(Ds:List Nat) (w:World),Ds.Nodup→(∀D∈Ds,w.heap[D]?=some (.deferred (some [])))→(∃v,(results fn tmps).run P (A3 w Ds)=.ok v (A3 w Ds)∧R (.returned v) (A3 w Ds))→LeavesInM F n P fn tmps R (Ds.map mark) .returning w
 |[],w,_,_,h=>h
 |D::Ds,w,hnd,hD,h=>by
  rw[List.nodup_cons]at hnd;refine⟨by simp,.inl ⟨D,shut w D,rfl,run_takeDeferred (hD D List.mem_cons_self),?_⟩⟩
  exact wA Ds (shut w D) hnd.2 (fun D' hm=>(World.putObj_heap_other (by rintro rfl;exact hnd.1 hm)).trans (hD D' (List.mem_cons_of_mem _ hm))) h
theorem eT.jJ [Bk] [Ev] {F:FuncId} {fn:Func} {c:Code} {args:List AV} {R:AV→AH→Prop} (hf:P.funcs[F]?=some fn) (hb:fn.body=some c)
  (k:iW P true c (ajQ P fn R) (args++List.replicate (fn.ntmps-args.length) .undef) h):eT P F args h R:=by
 intro m A w vs H hl hv;have FR:lN m A w (args++List.replicate (fn.ntmps-args.length) .undef) { tmps:=vs++Array.replicate (fn.ntmps-vs.size) Go.undef,defers:=[] }:=by
  refine⟨by simp[hl],?_,Marks.nil _ _⟩
  intro i x hx;rcases Nat.lt_or_ge i args.length with h|h
  ·rw[List.getElem?_append_left h]at hx
   have:=hv i x hx
   have hlt:i<vs.size:=by omega
   simpa[Array.getElem?_append,hlt]using this
  ·rw[List.getElem?_append_right h,List.getElem?_replicate]at hx
   split at hx
   ·cases hx
    have hge:¬ i<vs.size:=by omega
    have:(vs++Array.replicate (fn.ntmps-vs.size) Go.undef).getD i Go.undef=Go.undef:=by
     simp[Array.getElem?_append,hge,Array.getElem?_replicate]
     split<;>rfl
    simp only[this];exact .pure _ _ .undef
   ·cases hx
 refine BG (r:=none) (n:=9) |>.1 (callsIn_of_wp_marks hf hb trivial (wpIn_mono (k none m A w _ (fun _=>rfl) H FR) ?_))
 rintro e a' w' ⟨m',f',h',q,H',F',E',N'⟩
 have fin:∀x,eF P fn f' h'=some x→R x h'→LeavesInM (fw none) 9 P fn a'.tmps (fun e w'=>∃v u m' h',e=.returned v∧R u h'∧bW m' A h' w'∧Rd m' A w' u v∧Ext m w m' w') a'.defers .returning w':=by
  intro x hx hR;obtain⟨Ds,d1,d2,d3⟩:=F'.defers;have d4:∀D∈Ds,w.heap.size≤D:=by
   intro D hD;rcases N' (mark D) (by rw[d1];exact List.mem_map_of_mem hD)with h1|⟨D',h1,h2⟩
   ·exact absurd h1 List.not_mem_nil
   ·simp only[mark,Target.collected.injEq]at h1
    omega
  obtain⟨r1,r2,r3⟩:=E5 Ds w' H' d2 d3 d4 E';have F'':lN m' A (A3 w' Ds) f' { tmps:=a'.tmps,defers:=[] }:=⟨F'.size,fun i x hx=>r3 _ _ (F'.rd i x hx),Marks.nil _ _⟩
  obtain⟨v,s1,s2⟩:=Dx r1 F'' hx;rw[d1];exact wA Ds w' d2 (fun D hD=>(d3 D hD).1) ⟨v,s1,v,x,m',h',rfl,hR,r1,s2,r2⟩
 cases e with
 |normal=>obtain⟨x,hx,hR⟩:=q;exact fin x hx hR
 |ret=>obtain⟨x,hx,hR⟩:=q;exact fin x hx hR
 |_=>exact q.elim
def agt (P:Program) (t:TypeId) (pr:Bool):Bool:=match P.underlying t with
 |some (.pointer _)=>pr
 |some _=>!pr
 |none=>false
def L5 (P:Program) (t:TypeId) (name:String):Option FuncId :=
 match P.info? t with
 |some i=>match i.methods.find? (·.name==name)with
  |some m=>match m.func with
   |some (k,pr)=>if m.path.toList.isEmpty&&agt P t pr then some k else none
   |none=>none
  |none=>none
 |none=>none
theorem Sh [Bk] [Ev] {t:TypeId} {name:String} {k:FuncId} (hk:L5 P t name=some k) (n:Nat) (v:Value) (w:World):(method (n+1) t v name).run P w=.ok (k,v) w:=by
 unfold L5 at hk;split at hk
 ·rename_i i hi
  split at hk
  ·rename_i mm hm
   split at hk
   ·rename_i k' pr hf
    split at hk
    ·rename_i hc
     cases hk;rw[Bool.and_eq_true]at hc;have hp:mm.path.toList=[]:=by simpa using hc.1
     have hu:=hc.2;unfold method;simp only[Sem.run_bind,typeInfo,program,Sem.run,hi,Result.andThen_ok];simp only[hm,Sem.run_bind,Sem.run_pure,hp,follow,Result.andThen_ok,hf];unfold agt at hu;split at hu
     ·rename_i e he
      subst hu;simp[receiverAt,run_underlying he,Place.get]
     ·rename_i d hne he
      have:pr=false:=by simpa using hu
      subst this;cases d<;>first|(exact absurd rfl (hne _))|simp[receiverAt,run_underlying he,Place.get]
     ·cases hu
    ·cases hk
   ·cases hk
  ·cases hk
 ·cases hk
def jK (P:Program) (ρ:Operand→AV):Op→Option (FuncId×List AV)
 | .call { callee:=.value g,args,.. }=>match ρ g with
  | .fn (.func k) first captured=>some (k,first++args.toList.map ρ++captured)
  |_=>none
 | .call { callee:=.invoke g name,args,.. }=>match ρ g with
  | .pJ t v=>match L5 P t name with
   |some k=>some (k,v::args.toList.map ρ)
   |none=>none
  |_=>none
 |_=>none
theorem rK [Bk] [Ev] {k : FuncId} {fn : Func} {c : Code} (hk : P.funcs[k]? = some fn) (hb : fn.body = some c) (hn : (fn.name == "runtime.NumGoroutine") = false) (args : Array Value) (w : World) : (callFunc k args).run P w = .ok (.enter k args) w := by
 simp only[beq_eq_false_iff_ne,ne_eq]at hn;simp[callFunc,program,Sem.run,hk,hb,hn]
theorem mJ.call [Bk] [Ev] {o : Oper} {k : FuncId} {args : List AV} {R : AV → AH → Prop} {fn : Func} {c : Code} (hc : jK P (dE f) o.op = some (k, args)) (hk : P.funcs[k]? = some fn) (hb : fn.body = some c) (hn : (fn.name == "runtime.NumGoroutine") = false) (hR : eT P k args h R) : mJ P o f h R := by
 intro r' m A w a H F K Q hK;unfold jK at hc;split at hc
 ·rename_i g cargs ctys ho
  split at hc
  ·rename_i k' first captured hg
   simp only[Option.some.injEq,Prod.mk.injEq]at hc;obtain⟨rfl,rfl⟩:=hc;have h1:=F.eval g;rw[hg]at h1;obtain⟨vs,us,hv,hl1,hl2,r1,r2⟩:∃vs us,a.eval g=.func (.func k') vs us∧vs.size=first.length∧us.size=captured.length∧(∀(i:Nat) (x:AV),first[i]?=some x→Rd m A w x (vs.getD i Go.undef))∧∀(i:Nat) (x:AV),captured[i]?=some x→Rd m A w x (us.getD i Go.undef):=by
    generalize a.eval g=u at h1
    cases h1 with
    |pure _ _ h=>cases h with|fn _ _ _ vs us hl hk' h g=>exact⟨vs,us,rfl,hl,hk',fun i x hx=>.pure _ _ (h i x hx),fun i x hx=>.pure _ _ (g i x hx)⟩
    |fn _ _ _ vs us hl hk' h g=>exact⟨vs,us,rfl,hl,hk',h,g⟩
   have hexec:(execOp a.eval o).run P w=.ok (.enter k' (vs++cargs.map a.eval++us)) w:=by
    simp only[execOp,ho,resolve,Sem.run_bind];simp only[hv,Deferred.ofValue];simp[invoke,rK hk hb hn]
   refine EH hexec ((hR m A w _ H (by simp[hl1,hl2]) ?_).mono ?_)
   ·intro i x hx
    rcases Nat.lt_or_ge i first.length with h|h
    ·rw[List.append_assoc,List.getElem?_append_left h]at hx
     have:=r1 i x hx
     have hlt:i<vs.size:=by omega
     have e:(vs++cargs.map a.eval++us).getD i Go.undef=vs.getD i Go.undef:=by
      have h2:i<vs.size+cargs.size:=by omega
      simp[Array.getElem?_append,hlt,h2]
     rw[e];exact this
    ·rw[List.append_assoc,List.getElem?_append_right h]at hx
     rcases Nat.lt_or_ge (i-first.length) cargs.toList.length with h2|h2
     ·rw[List.getElem?_append_left (by simpa using h2)]at hx
      have:=Bx F cargs _ _ hx
      have e:(vs++cargs.map a.eval++us).getD i Go.undef=(cargs.map a.eval).getD (i-first.length) Go.undef:=by
       have hge:¬ i<first.length:=by omega
       have h3:i-first.length<cargs.size:=by simpa using h2
       simp[Array.getElem?_append,hge,h3,hl1]
      rw[e];exact this
     ·rw[List.getElem?_append_right (by simpa using h2)]at hx
      have:=r2 _ _ hx
      have e:(vs++cargs.map a.eval++us).getD i Go.undef=us.getD (i-first.length-(cargs.toList.map (dE f)).length) Go.undef:=by
       have hge:¬ i<first.length:=by omega
       have h3:¬ i-first.length<cargs.size:=by simp at h2;omega
       simp[Array.getElem?_append,hge,h3,hl1,Nat.sub_sub]
      rw[e];exact this
   ·rintro e w' ⟨v,u,m',h',rfl,hRu,H',hx,E⟩
    exact⟨v,rfl,hK u h' v w' m' hRu H' hx E⟩
  ·cases hc
 ·rename_i g name cargs ctys ho
  split at hc
  ·rename_i t v hg
   split at hc
   ·rename_i k' hm
    simp only[Option.some.injEq,Prod.mk.injEq]at hc;obtain⟨rfl,rfl⟩:=hc;have h1:=F.eval g;rw[hg]at h1;obtain⟨u,hu,hr⟩:=h1.Xe;have hm':(method (P.types.size+Made.depth) t u name).run P w=.ok (k',u) w:=Sh hm (P.types.size+99) u w
    have hexec:(execOp a.eval o).run P w=.ok (.enter k' (#[u]++cargs.map a.eval)) w:=by
     simp only[execOp,ho,resolve,Sem.run_bind,Sem.run_pure,Result.andThen_ok];simp only[invoke,hu];simp only[Array.getElem?_append,Sem.run_bind];simp only[callMethod,program];have hext:(cargs.map a.eval).extract 0 cargs.size=cargs.map a.eval:=by
      apply Array.ext'
      simp
      exact List.take_of_length_le (by simp)
     simp[Sem.run,hm',rK hk hb hn,hext]
    refine EH hexec ((hR m A w _ H (by simp;omega) ?_).mono ?_)
    ·intro i x hx
     cases i with
     |zero=>simp at hx;subst hx;simpa[Array.getElem?_append]using hr
     |succ i =>
      have:=Bx F cargs i x (by simpa using hx)
      have e:(#[u]++cargs.map a.eval).getD (i+1) Go.undef=(cargs.map a.eval).getD i Go.undef:=by simp[Array.getElem?_append]
      rw[e];exact this
    ·rintro e w' ⟨v',u',m',h',rfl,hRu,H',hx,E⟩
     exact⟨v',rfl,hK u' h' v' w' m' hRu H' hx E⟩
   ·cases hc
  ·cases hc
 ·cases hc
end
end Mc
namespace Mc
structure vC where
 v:AV
 bG:List (Nat×bY)
 vF:List Nat
 lo:Nat
 hi:Nat
 skip:Bool
def tmpsOf (l:List Operand):List Nat:=l.filterMap fun | .tmp t=>some t|_=>none
def OB (ops:Array Oper) (o:Oper):List Nat :=
 match o.guard with
 |none=>[]
 |some (j,_)=>((ops[j]?).bind (·.dst)).toList
def tN (ops:Array Oper) (o:Oper):List Nat:=tmpsOf o.op.operands.toList++OB ops o
section
variable {P:Program} {ops:Array Oper}
def PM [Bk] [Ev] (P:Program) (ops:Array Oper) (o:Oper) (E:vC) (f:List AV) (h:AH):Prop :=
 ∀f' h',f'.length=f.length→(∀t∈tN ops o,f'[t]?=f[t]?)→(∀id∈E.vF,h' id=h id)→(∀id,E.lo≤id→id<E.hi→h' id=h id) →
  if E.skip then kH ops o f'=some false∧E.v=.undef∧E.bG=[]else kH ops o f'=some true∧mJ P o f' h' (fun v h''=>v=E.v∧h''=eW h' E.bG)
abbrev Sg:=List AV×AH
def app (x:Oper×vC) (s:Sg):Sg:=(pE s.1 x.1.dst x.2.v,eW s.2 x.2.bG)
def zM (E:vC):List Nat:=E.bG.map (·.1)
def Dr (E:vC) (id:Nat):Bool:=E.vF.contains id||(decide (E.lo≤id)&&decide (id<E.hi))
def MM (ops:Array Oper) (x y:Oper×vC):Bool :=
 (match x.1.dst with|none=>true|some d=>!(tN ops y.1).contains d)&&(match y.1.dst with|none=>true|some d=>!(tN ops x.1).contains d) &&
 (match x.1.dst,y.1.dst with|some d,some d'=>d != d'|_,_=>true) &&
 (zM x.2).all (fun id=>!Dr y.2 id&&!(zM y.2).contains id)&&(zM y.2).all (fun id=>!Dr x.2 id&&!(zM x.2).contains id)
theorem fY [Bk] [Ev] {u:List (Nat×bY)}:∀{h:AH} {id:Nat},id ∉ u.map (·.1)→eW h u id=h id:=by
 induction u with
 |nil=>intro h id _;rfl
 |cons p u ih =>
  intro h id hn;simp only[List.map_cons,List.mem_cons,not_or]at hn;simp only[eW];rw[ih hn.2,fU _ _ hn.1]
theorem vH [Bk] [Ev] {u:List (Nat×bY)}:∀{h h':AH} {id:Nat},id∈u.map (·.1)→eW h u id=eW h' u id:=by
 induction u with
 |nil=>intro h h' id hn;simp at hn
 |cons p u ih =>
  intro h h' id hn;simp only[eW];by_cases h1:id∈u.map (·.1)
  ·exact ih h1
  ·simp only[List.map_cons,List.mem_cons]at hn
   have e:id=p.1:=hn.resolve_right h1
   rw[fY h1,fY h1,e,mR,mR]
theorem XW [Bk] [Ev] {u u':List (Nat×bY)} (h:AH) (hd:∀id∈u.map (·.1),id ∉ u'.map (·.1)):eW (eW h u) u'=eW (eW h u') u:=by
 funext id
 by_cases h1:id∈u.map (·.1)
 ·rw[fY (hd id h1)];exact vH h1
 ·by_cases h2:id∈u'.map (·.1)
  ·rw[fY (u:=u) h1];exact vH h2
  ·rw[fY h2,fY h1,fY h1,fY h2]
theorem Sy [Bk] [Ev] {f:List AV} {d:Option Tmp} {v:AV} {t:Nat} (h:d≠some t):(pE f d v)[t]?=f[t]?:=by
 cases d with
 |none=>rfl
 |some d=>simp only[pE];rw[List.getElem?_set_ne];rintro rfl;exact h rfl
theorem adE [Bk] [Ev] (f:List AV) (d:Option Tmp) (v:AV):(pE f d v).length=f.length:=by cases d<;>simp[pE]
theorem aaL [Bk] [Ev] {f:List AV} {d d':Option Tmp} {v v':AV} (h:∀t,d=some t→d'≠some t):pE (pE f d v) d' v'=pE (pE f d' v') d v:=by
 cases d with
 |none=>rfl
 |some d =>
  cases d' with
  |none=>rfl
  |some d'=>simp only[pE];exact List.set_comm _ _ (by rintro rfl;exact h _ rfl rfl)
structure uL (ops:Array Oper) (x y:Oper×vC):Prop where
 a:∀d,x.1.dst=some d→d ∉ tN ops y.1
 b:∀d,y.1.dst=some d→d ∉ tN ops x.1
 c:∀d,x.1.dst=some d→y.1.dst≠some d
 d:∀id∈zM x.2,id ∉ y.2.vF∧¬ (y.2.lo≤id∧id<y.2.hi)∧id ∉ zM y.2
 e:∀id∈zM y.2,id ∉ x.2.vF∧¬ (x.2.lo≤id∧id<x.2.hi)∧id ∉ zM x.2
theorem S8 [Bk] [Ev] {x y:Oper×vC} (h:MM ops x y=true):uL ops x y:=by
 simp only[MM,Bool.and_eq_true,List.all_eq_true]at h;obtain⟨⟨⟨⟨h1,h2⟩,h3⟩,h4⟩,h5⟩:=h
 refine⟨?_,?_,?_,?_,?_⟩
 ·intro d hd hm;rw[hd]at h1;simp at h1;exact h1 hm
 ·intro d hd hm;rw[hd]at h2;simp at h2;exact h2 hm
 ·intro d hd he;rw[hd,he]at h3;simp at h3
 ·intro id hid
  have:=h4 id hid
  simp[Dr]at this
  refine⟨this.1.1,fun⟨a,b⟩=>?_,this.2⟩
  have:=this.1.2;omega
 ·intro id hid
  have:=h5 id hid
  simp[Dr]at this
  refine⟨this.1.1,fun⟨a,b⟩=>?_,this.2⟩
  have:=this.1.2;omega
theorem PM.far [Bk] [Ev] {x y:Oper×vC} (h:uL ops x y) {s:Sg}:PM P ops y.1 y.2 s.1 s.2↔PM P ops y.1 y.2 (app x s).1 (app x s).2:=by
 have h1:∀t∈tN ops y.1,(app x s).1[t]?=s.1[t]?:=fun t ht=>Sy fun e=>h.a t e ht
 have h2:∀id∈y.2.vF,(app x s).2 id=s.2 id:=fun id hid=>fY fun hm=>(h.d id hm).1 hid
 have h3:∀id,y.2.lo≤id→id<y.2.hi→(app x s).2 id=s.2 id:=fun id a b=>fY fun hm=>(h.d id hm).2.1 ⟨a,b⟩
 have h0:(app x s).1.length=s.1.length:=adE _ _ _
 constructor
 ·intro k f' h' e0 e1 e2 e3
  exact k f' h' (e0.trans h0) (fun t ht=>(e1 t ht).trans (h1 t ht)) (fun id hid=>(e2 id hid).trans (h2 id hid)) fun id a b=>(e3 id a b).trans (h3 id a b)
 ·intro k f' h' e0 e1 e2 e3
  exact k f' h' (e0.trans h0.symm) (fun t ht=>(e1 t ht).trans (h1 t ht).symm) (fun id hid=>(e2 id hid).trans (h2 id hid).symm) fun id a b=>(e3 id a b).trans (h3 id a b).symm
theorem Po [Bk] [Ev] {x y:Oper×vC} (h:uL ops x y) (s:Sg):app y (app x s)=app x (app y s):=by
 unfold app;rw[aaL (fun t ht=>h.c t ht),XW _ (fun id hid=>(h.d id hid).2.2)]
theorem uL.symm [Bk] [Ev] {x y:Oper×vC} (h:uL ops x y):uL ops y x:=⟨h.b,h.a,fun d hd he=>h.c d he hd,h.e,h.d⟩
def Dk [Bk] [Ev] (P:Program) (ops:Array Oper):List (Oper×vC)→Sg→Prop
 |[],_=>True
 |x::l,s=>PM P ops x.1 x.2 s.1 s.2∧Dk P ops l (app x s)
def fin (l:List (Oper×vC)) (s:Sg):Sg:=l.foldl (fun s x=>app x s) s
theorem Dk.append [Bk] [Ev] {l l':List (Oper×vC)}:∀{s:Sg},Dk P ops (l++l') s↔Dk P ops l s∧Dk P ops l' (fin l s):=by
 induction l with
 |nil=>intro s;simp[Dk,fin]
 |cons x l ih =>
  intro s;simp only[List.cons_append,Dk];rw[ih];simp only[fin,List.foldl_cons,and_assoc]
theorem SC [Bk] [Ev] (l l':List (Oper×vC)) (s:Sg):fin (l++l') s=fin l' (fin l s):=by simp[fin]
theorem Dk.move [Bk] [Ev] {t:Oper×vC}:∀(pre post:List (Oper×vC)) (s:Sg),(∀x∈pre,uL ops t x)→Dk P ops (t::(pre++post)) s→Dk P ops (pre++t::post) s∧fin (pre++t::post) s=fin (t::(pre++post)) s
 |[],post,s,_,h=>⟨h,rfl⟩
 |x::pre,post,s,ha,h=>by
  have hx:=ha x (by simp)
  simp only[List.cons_append,Dk]at h ⊢;obtain⟨h1,h2,h3⟩:=h;have k2:=(PM.far (P:=P) hx).2 h2
  have k1:=(PM.far (P:=P) hx.symm).1 h1
  rw[Po hx]at h3;obtain⟨q1,q2⟩:=Dk.move pre post (app x s) (fun y hy=>ha y (by simp[hy])) ⟨k1,h3⟩
  refine⟨⟨k2,q1⟩,?_⟩
  show fin (pre++t::post) (app x s)=fin (x::(pre++post)) (app t s)
  rw[q2];show fin (pre++post) (app t (app x s))=fin (pre++post) (app x (app t s))
  rw[Po hx]
theorem Dk.perm [Bk] [Ev] {it:Nat→Oper×vC} {anc:Nat→Nat→Prop}:∀(T L:List Nat) (s:Sg),L.Perm T→T.Pairwise (·<·)→L.Pairwise (fun a b=>¬ anc b a)→(∀i j,i∈T→j∈T→i<j→anc i j∨uL ops (it i) (it j))→Dk P ops (T.map it) s→Dk P ops (L.map it) s∧fin (L.map it) s=fin (T.map it) s
 |[],L,s,hp,_,_,_,_=>by
  have:=hp.eq_nil;subst this;exact⟨trivial,rfl⟩
 |t::T,L,s,hp,hT,hL,hi,hr=>by
  have hmem:t∈L:=hp.symm.subset (by simp)
  obtain⟨pre,post,rfl⟩:=List.append_of_mem hmem;have hp':(pre++post).Perm T:=by
   have:(t::(pre++post)).Perm (t::T):=(List.perm_middle.symm).trans hp
   exact List.Perm.cons_inv this
  rw[List.pairwise_cons]at hT;rw[List.pairwise_append]at hL;obtain⟨hL1,hL2,hL3⟩:=hL;rw[List.pairwise_cons]at hL2;have hL':(pre++post).Pairwise (fun a b=>¬ anc b a):=List.pairwise_append.2 ⟨hL1,hL2.2,fun a ha b hb=>hL3 a ha b (by simp[hb])⟩
  simp only[List.map_cons,Dk]at hr;obtain⟨q1,q2⟩:=Dk.perm T (pre++post) (app (it t) s) hp' hT.2 hL' (fun i j h1 h2=>hi i j (by simp[h1]) (by simp[h2])) hr.2
  have hap:∀x∈pre.map it,uL ops (it t) x:=by
   intro x hx;obtain⟨y,hy,rfl⟩:=List.mem_map.1 hx;have hyT:y∈T:=hp'.subset (by simp[hy])
   rcases hi t y (by simp) (by simp[hyT]) (hT.1 y hyT)with h|h
   ·exact absurd h (hL3 y hy t (by simp))
   ·exact h
  have hrun:Dk P ops (it t::(pre.map it++post.map it)) s:=⟨hr.1,by rw[←List.map_append];exact q1⟩
  obtain⟨m1,m2⟩:=Dk.move (P:=P) (pre.map it) (post.map it) s hap hrun
  refine⟨by simpa using m1,?_⟩
  have:(pre++t::post).map it=pre.map it++it t::post.map it:=by simp
  rw[this,m2];show fin (pre.map it++post.map it) (app (it t) s)=fin (T.map it) (app (it t) s)
  rw[←List.map_append];exact q2
def DZ (ops:Array Oper) (i:Nat):List Nat:=((ops[i]?).map fun o=>(o.after.toList.filter (Region.binds .any)).map (·.on)).getD []
def Aa (ops:Array Oper):Nat→List (List Nat)
 |0=>[]
 |n+1=>let acc:=Aa ops n;acc++[(DZ ops n++(DZ ops n).flatMap (fun i=>acc.getD i [])).eraseDups]
theorem uZ [Bk] [Ev] (ops:Array Oper):∀n,(Aa ops n).length=n
 |0=>rfl
 |n+1=>by simp[Aa,uZ ops n]
theorem pU [Bk] [Ev] {l:Nat→Prop} (down:∀i,l i→∀j∈DZ ops i,l j):∀n j,j<n→l j→∀i∈(Aa ops n).getD j [],l i
 |0,j,hj,_,_,_=>by omega
 |n+1,j,hj,hl,i,hi=>by
  simp only[Aa]at hi;rcases Nat.lt_or_ge j n with h|h
  ·rw[List.getD,List.getElem?_append_left (by rw[uZ];exact h)]at hi
   exact pU down n j h hl i hi
  ·have e:j=n:=by omega
   subst e;rw[List.getD,List.getElem?_append_right (by rw[uZ];omega),uZ,Nat.sub_self]at hi
   simp only[List.getElem?_cons_zero,Option.getD_some]at hi;rw[List.mem_eraseDups,List.mem_append,List.mem_flatMap]at hi;rcases hi with hi|⟨p,hp,hi⟩
   ·exact down j hl i hi
   ·have hpl:=down j hl p hp
    rcases Nat.lt_or_ge p j with h2|h2
    ·exact pU down j p h2 hpl i hi
    ·rw[List.getD,List.getElem?_eq_none (by rw[uZ];exact h2)]at hi
     simp at hi
def Eb (ops:Array Oper) (i j:Nat):Bool:=((Aa ops ops.size).getD j []).contains i
def Io (ops:Array Oper) (Es:List vC):Bool :=
 let anc:=Aa ops ops.size
 (List.range ops.size).all fun j =>
  (DZ ops j).all (fun i=>decide (i<j))&&(anc.getD j []).all (fun i=>decide (i<j)) &&
  (List.range j).all fun i=>(anc.getD j []).contains i||(match ops[i]?,Es[i]?,ops[j]?,Es[j]? with|some o,some E,some o',some E'=>MM ops (o,E) (o',E')|_,_,_,_=>false)
theorem yZ [Bk] [Ev] {l:Array Bool} {i j:Nat} (hi:i<l.size):(l.setIfInBounds i true).getD j false=if i=j then true else l.getD j false:=by
 by_cases h:i=j
 ·subst h;simp[hi]
 ·simp[Array.getElem?_setIfInBounds_ne h,h]
theorem Gf [Bk] [Ev] {l:Array Bool} {i:Nat} (hi:i<l.size) (hf:l.getD i true=false):(l.setIfInBounds i true).toList.count false+1=l.toList.count false:=by
 rw[Array.toList_setIfInBounds];have hi':i<l.toList.length:=by simpa using hi
 have e:l.toList[i]=false:=by
  have:l[i]=false:=by simpa[hi]using hf
  simpa using this
 have h2:∀(m:List Bool) (i:Nat) (h:i<m.length),m[i]=false→(m.set i true).count false+1=m.count false:=by
  intro m;induction m with
  |nil=>intro i h;simp at h
  |cons b m ih =>
   intro i h hb;cases i with
   |zero=>simp at hb;subst hb;simp
   |succ i =>
    have:=ih i (by simpa using h) (by simpa using hb)
    simp only[List.set_cons_succ,List.count_cons];omega
 exact h2 _ _ hi' e
def gM (ops:Array Oper) (Es:List vC) (i:Nat):Oper×vC:=(ops.getD i default,Es.getD i ⟨.undef,[],[],0,0,false⟩)
theorem iW.draw [Bk] [Ev] {tp:Bool} {Q:Exit→List AV→AH→Prop} {id:Nat} {f f':List AV} {h h':AH} (hm:P.follows .mixedOrders=true) (Es:List vC) (hl:Es.length=ops.size) (hb:Io ops Es=true) (hr:Dk P ops ((List.range ops.size).map (gM ops Es)) (f,h)) (hf:fin ((List.range ops.size).map (gM ops Es)) (f,h)=(f',h')) (k:Q .normal f' h') :
  iW P tp (.region id ops true) Q f h:=by
 intro r' m A w a _ H F;refine wpIn_region_any hm ?_
 obtain⟨Hd,Ed⟩:=H.drew;have hchk:∀j,j<ops.size→(∀i∈DZ ops j,i<j)∧(∀i,Eb ops i j=true→i<j)∧∀i,i<j→Eb ops i j=true∨uL ops (gM ops Es i) (gM ops Es j):=by
  intro j hj;have h1:=List.all_eq_true.1 hb j (List.mem_range.2 hj)
  simp only[Bool.and_eq_true,List.all_eq_true]at h1;obtain⟨⟨h1,h2⟩,h3⟩:=h1
  refine⟨fun i hi=>by simpa using h1 i hi,fun i hi=>?_,fun i hi=>?_⟩
  ·simp only[Eb,List.contains_iff_mem]at hi
   simpa using h2 i (by simpa using hi)
  ·have h4:=h3 i (List.mem_range.2 hi)
   rw[Bool.or_eq_true]at h4;rcases h4 with h4|h4
   ·exact .inl h4
   ·right
    have hi2:i<ops.size:=by omega
    have e1:ops[i]?=some ops[i]:=by simp[hi2]
    have e2:ops[j]?=some ops[j]:=by simp[hj]
    have e3:Es[i]?=some Es[i]:=by simp[List.getElem?_eq_getElem (show i<Es.length by omega)]
    have e4:Es[j]?=some Es[j]:=by simp[List.getElem?_eq_getElem (show j<Es.length by omega)]
    rw[e1,e2,e3,e4]at h4;have:=S8 h4
    have k1:gM ops Es i=(ops[i],Es[i]):=by simp[gM,hi2,List.getD,e3]
    have k2:gM ops Es j=(ops[j],Es[j]):=by simp[gM,hj,List.getD,e4]
    rw[k1,k2];exact this
 have key:∀(fuel:Nat) (listed:Array Bool) (a1:Act) (w1:World),listed.toList.count false≤fuel→listed.size=ops.size→(∀i,listed.getD i false=true→∀j∈DZ ops i,listed.getD j false=true) →
   (∃L:List Nat,L.Nodup∧(∀i,i∈L↔listed.getD i false=true)∧L.Pairwise (fun a b=>¬ Eb ops b a=true)∧∃m1,bW m1 A (fin (L.map (gM ops Es)) (f,h)).2 w1∧lN m1 A w1 (fin (L.map (gM ops Es)) (f,h)).1 a1∧Ext m w m1 w1∧a1.defers=a.defers)→wpAnyIn (fw r') 9 P .any ops (PK Q m A w a) fuel listed a1 w1:=by
  have done:∀(listed:Array Bool) (a1:Act) (w1:World),listed.size=ops.size→Region.ready .any ops listed=[] →
    (∃L:List Nat,L.Nodup∧(∀i,i∈L↔listed.getD i false=true)∧L.Pairwise (fun a b=>¬ Eb ops b a=true)∧∃m1,bW m1 A (fin (L.map (gM ops Es)) (f,h)).2 w1∧lN m1 A w1 (fin (L.map (gM ops Es)) (f,h)).1 a1∧Ext m w m1 w1∧a1.defers=a.defers)→PK Q m A w a .normal a1 w1:=by
   intro listed a1 w1 hs hready hex;obtain⟨L,hn,hmem,hpw,m1,H1,F1,E1,D1⟩:=hex;have all:∀n i,i<n→i<ops.size→listed.getD i false=true:=by
    intro n;induction n with
    |zero=>intro i h;omega
    |succ n ih =>
     intro i hin hi;cases hli:listed.getD i false with
     |true=>rfl
     |false =>
      exfalso
      have:i∈Region.ready .any ops listed:=by
       refine mem_ready.2 ⟨?_,ops[i],by simp[hi],fun e he hbi=>?_⟩
       ·have:i<listed.size:=by rw[hs];exact hi
        simp[this]at hli ⊢
        exact hli
       ·have hp:e.on∈DZ ops i:=by
         simp only[DZ,Array.getElem?_eq_getElem hi,Option.map_some,Option.getD_some,List.mem_map,List.mem_filter];exact⟨e,⟨by simpa using he,hbi⟩,rfl⟩
        have:=(hchk i hi).1 _ hp
        exact ih e.on (by omega) (by omega)
      rw[hready]at this;cases this
   have hperm:L.Perm (List.range ops.size):=by
    rw[List.perm_ext_iff_of_nodup hn List.nodup_range];intro i;rw[hmem,List.mem_range];constructor
    ·intro hi
     rcases Nat.lt_or_ge i ops.size with h|h
     ·exact h
     ·have:listed.size≤i:=by omega
      simp[Array.getElem?_eq_none this]at hi
    ·intro hi;exact all (i+1) i (by omega) hi
   have:=(Dk.perm (P:=P) (ops:=ops) (it:=gM ops Es) (anc:=fun i j=>Eb ops i j=true) _ L (f,h) hperm (by exact List.pairwise_lt_range) hpw (fun i j _ hj hij=>(hchk j (List.mem_range.1 hj)).2.2 i hij) hr).2
   rw[this,hf]at H1 F1;exact⟨m1,f',h',k,H1,F1,E1,.same D1⟩
  intro fuel;induction fuel with
  |zero =>
   intro listed a1 w1 hc hs hdown hex;have hready:Region.ready .any ops listed=[]:=by
    cases hr0:Region.ready .any ops listed with
    |nil=>rfl
    |cons i r =>
     exfalso
     obtain⟨h1,o,ho,-⟩:=mem_ready.1 (show i∈Region.ready .any ops listed by rw[hr0];simp)
     have hi:i<ops.size:=(Array.getElem?_eq_some_iff.1 ho).1
     have:=Gf (l:=listed) (i:=i) (by rw[hs];exact hi) h1
     omega
   exact⟨hready,done listed a1 w1 hs hready hex⟩
  |succ fuel ih =>
   intro listed a1 w1 hc hs hdown hex;refine⟨fun hready=>done listed a1 w1 hs hready hex,?_⟩
   intro i hi;obtain⟨h1,o,ho,hpre⟩:=mem_ready.1 hi;have hil:i<ops.size:=(Array.getElem?_eq_some_iff.1 ho).1
   have his:i<listed.size:=by rw[hs];exact hil
   have h1':listed.getD i false=false:=by simp[his]at h1 ⊢;exact h1
   obtain⟨L,hn,hmem,hpw,m1,H1,F1,E1,D1⟩:=hex;have hiL:i ∉ L:=fun hm=>by rw[hmem,h1']at hm;cases hm
   have hprel:∀j∈DZ ops i,listed.getD j false=true:=by
    intro j hj;simp only[DZ,ho,Option.map_some,Option.getD_some,List.mem_map,List.mem_filter]at hj;obtain⟨e,⟨he1,he2⟩,rfl⟩:=hj
    exact hpre e (by simpa using he1) he2
   have hdown':∀x,(listed.setIfInBounds i true).getD x false=true→∀j∈DZ ops x,(listed.setIfInBounds i true).getD j false=true:=by
    intro x hx j hj;rw[yZ his]at hx ⊢;split
    ·rfl
    ·split at hx
     ·rename_i e;subst e;exact hprel j hj
     ·exact hdown x hx j hj
   have hanc:∀x y,(x∈L∨x=i)→Eb ops y x=true→y∈L∨y=i:=by
    intro x y hx hy;have hxs:x<ops.size:=by
     rcases hx with hx|rfl
     ·rw[hmem]at hx
      rcases Nat.lt_or_ge x ops.size with h|h
      ·exact h
      ·have:listed.size≤x:=by omega
       simp[Array.getElem?_eq_none this]at hx
     ·exact hil
    have hlx:(listed.setIfInBounds i true).getD x false=true:=by
     rw[yZ his];split
     ·rfl
     ·rename_i hne
      rcases hx with hx|rfl
      ·exact(hmem x).1 hx
      ·exact absurd rfl hne
    have:=pU (ops:=ops) (l:=fun x=>(listed.setIfInBounds i true).getD x false=true) hdown' ops.size x hxs hlx y (by simpa[Eb]using hy)
    rw[yZ his]at this;split at this
    ·rename_i e;exact .inr e.symm
    ·exact .inl ((hmem y).2 this)
   have hpw2:(L++[i]).Pairwise (fun a b=>¬ Eb ops b a=true):=by
    refine List.pairwise_append.2 ⟨hpw,List.pairwise_singleton _ _,?_⟩
    intro x hx y hy hxy;simp only[List.mem_singleton]at hy;subst hy;have hlx:=(hmem x).1 hx
    have hxs:x<ops.size:=by
     rcases Nat.lt_or_ge x ops.size with h|h
     ·exact h
     ·have:listed.size≤x:=by omega
      simp[Array.getElem?_eq_none this]at hlx
    have:=pU (ops:=ops) (l:=fun x=>listed.getD x false=true) hdown ops.size x hxs hlx y (by simpa[Eb]using hxy)
    rw[h1']at this;cases this
   let rest:=(List.range ops.size).filter fun x=>!(L++[i]).contains x
   have hrest:∀x,x∈rest↔x<ops.size∧x ∉ L∧x≠i:=by
    intro x;simp only[rest,List.mem_filter,List.mem_range,Bool.not_eq_true',List.contains_eq_mem,decide_eq_false_iff_not,List.mem_append,List.mem_singleton,not_or]
   have hLs:∀x∈L,x<ops.size:=by
    intro x hx;have hlx:=(hmem x).1 hx
    rcases Nat.lt_or_ge x ops.size with h|h
    ·exact h
    ·have:listed.size≤x:=by omega
     simp[Array.getElem?_eq_none this]at hlx
   have hrestn:rest.Nodup:=List.nodup_range.sublist List.filter_sublist
   have hperm:(L++[i]++rest).Perm (List.range ops.size):=by
    have hnd:(L++[i]++rest).Nodup:=by
     rw[List.nodup_append,List.nodup_append];refine⟨⟨hn,by simp,?_⟩,hrestn,?_⟩
     ·intro x hx y hy he
      simp only[List.mem_singleton]at hy;subst hy;subst he
      exact hiL hx
     ·intro x hx y hy he
      subst he;have:=(hrest x).1 hy
      simp only[List.mem_append,List.mem_singleton]at hx;rcases hx with hx|hx
      ·exact this.2.1 hx
      ·exact this.2.2 hx
    rw[List.perm_ext_iff_of_nodup hnd List.nodup_range];intro x;simp only[List.mem_append,List.mem_singleton,hrest,List.mem_range];constructor
    ·rintro((h|rfl)|h)
     ·exact hLs x h
     ·exact hil
     ·exact h.1
    ·intro h
     by_cases hx:x∈L
     ·exact .inl (.inl hx)
     ·by_cases he:x=i
      ·exact .inl (.inr he)
      ·exact .inr ⟨h,hx,he⟩
   have hpw3:(L++[i]++rest).Pairwise (fun a b=>¬ Eb ops b a=true):=by
    refine List.pairwise_append.2 ⟨hpw2,?_,?_⟩
    ·have hs0:rest.Pairwise (·<·):=List.Pairwise.filter _ List.pairwise_lt_range
     refine hs0.imp_of_mem ?_
     intro x y hx hy hxy hb;have:=(hchk x ((hrest x).1 hx).1).2.1 y hb
     omega
    ·intro x hx y hy hb
     have:=(hrest y).1 hy
     simp only[List.mem_append,List.mem_singleton]at hx;rcases hanc x y hx hb with h|h
     ·exact this.2.1 h
     ·exact this.2.2 h
   have hrun:=(Dk.perm (P:=P) (ops:=ops) (it:=gM ops Es) (anc:=fun i j=>Eb ops i j=true) _ (L++[i]++rest) (f,h) hperm (by exact List.pairwise_lt_range) hpw3 (fun i j _ hj hij=>(hchk j (List.mem_range.1 hj)).2.2 i hij) hr).1
   rw[List.map_append,List.map_append,Dk.append,Dk.append]at hrun;have hdo:PM P ops (gM ops Es i).1 (gM ops Es i).2 (fin (L.map (gM ops Es)) (f,h)).1 (fin (L.map (gM ops Es)) (f,h)).2:=hrun.1.2.1
   have hio:(gM ops Es i).1=o:=by simp[gM,ho]
   have hstep:=hdo _ _ rfl (fun _ _=>rfl) (fun _ _=>rfl) (fun _ _ _=>rfl)
   rw[hio]at hstep;have hmem':∀x,x∈L++[i]↔(listed.setIfInBounds i true).getD x false=true:=by
    intro x;rw[yZ his];simp only[List.mem_append,List.mem_singleton,hmem];constructor
    ·rintro(h|rfl)
     ·split<;>first|rfl|exact h
     ·simp
    ·intro h
     split at h
     ·rename_i e;exact .inr e.symm
     ·exact .inl h
   have hn':(L++[i]).Nodup:=by
    rw[List.nodup_append];refine⟨hn,by simp,?_⟩
    intro x hx y hy he;simp only[List.mem_singleton]at hy;subst hy;subst he
    exact hiL hx
   have hfin:fin ((L++[i]).map (gM ops Es)) (f,h)=app (o,(gM ops Es i).2) (fin (L.map (gM ops Es)) (f,h)):=by
    rw[List.map_append,SC];show app (gM ops Es i) _=_
    rw[←hio]
   have hcount:=Gf his h1;unfold wpOpIn;simp only[ho];split at hstep
   ·obtain⟨hg,hv,hu⟩:=hstep
    rw[if_neg (by rw[yY F1 hg];simp)]
    refine⟨fun _ _=>trivial,ih _ _ _ (by omega) (by simpa using hs) hdown' ⟨L++[i],hn',hmem',hpw2,m1,?_,?_,E1,(put_defers _ _ _).trans D1⟩⟩
    ·rw[hfin];simp only[app,hu,eW];exact H1
    ·rw[hfin];simp only[app,hv];exact F1.put (Ext.refl _ _) (.pure _ _ .undef) o.dst
   ·obtain⟨hg,hst⟩:=hstep
    rw[if_pos (yY F1 hg)];refine hst r' m1 A w1 a1 H1 F1 _ _ ?_
    rintro v h2 x w2 m2 ⟨rfl,rfl⟩ H2 hx E2
    refine ih _ _ _ (by omega) (by simpa using hs) hdown' ⟨L++[i],hn',hmem',hpw2,m2,?_,?_,E1.trans E2,(put_defers _ _ _).trans D1⟩
    ·rw[hfin];exact H2
    ·rw[hfin];exact F1.put E2 hx o.dst
 refine key ops.size _ a _ (by simp) (by simp) (by intro i hi;simp[Array.getElem?_replicate]at hi;split at hi<;>simp at hi) ⟨[],List.nodup_nil,?_,List.Pairwise.nil,m,Hd,F.ext Ed,Ed,rfl⟩
 intro i;simp[Array.getElem?_replicate]
 split<;>simp
end
end Mc
namespace Mc
section
variable {P:Program} {o:Oper} {f:List AV} {h:AH}
theorem ae3 [Bk] [Ev] {m:Nat→St} {A:Nat→Prop} {w:World} (H:bW m A h w) {T sz id i b:Nat} {aN ys:List (List AV)} {us:List Value} {cs:Array Value} (hh:h id=.cells T sz aN) (hm:m id=.at b) (g2:w.heap[b]?=some (.cells cs T (0,0))) (g3:aN.length*sz≤cs.size) (g4:∀e∈aN,e.length=sz)
  (g5:∀(i j:Nat) (x:AV),fW aN i j=some x→x.one=true∧Rd m A w x (cs.getD (i*sz+j) Go.undef)) (hy:∀e∈ys,e.length=sz) (hl:us.length=ys.length*sz)
  (hx:∀(i j:Nat) (x:AV),fW ys i j=some x→x.one=true∧Rd m A w x (us.getD (i*sz+j) Go.undef)) (h1:∀v∈us,v.oneCell'=true) (hfit0:i+ys.length≤aN.length) :
  ∃w',(storeCells ⟨b,i*sz,none⟩ us).run P w=.ok () w'∧bW m A (cJ h id (.cells T sz (iO aN i ys))) w'∧Ext m w m w':=by
 have hmul:(i+ys.length)*sz≤aN.length*sz:=Nat.mul_le_mul_right _ hfit0
 rw[Nat.add_mul]at hmul;have hfit:i*sz+0+us.length≤cs.size:=by rw[hl];omega
 have hst:=run_storeCells_at P b (i*sz) T us 0 cs w g2 hfit h1
 refine⟨_,hst,?_⟩
 have hsz:(cs.toList.take (i*sz+0)++us++cs.toList.drop (i*sz+0+us.length)).toArray.size=cs.size:=by simp only[List.size_toArray,List.length_append,List.length_take,List.length_drop,Array.length_toList];omega
 have hget:∀k,(cs.toList.take (i*sz+0)++us++cs.toList.drop (i*sz+0+us.length)).toArray.getD k Go.undef=if i*sz≤k∧k<i*sz+us.length then us.getD (k-i*sz) Go.undef else cs.getD k Go.undef:=by
  intro k;have:=lW (cs:=cs.toList) (off:=i*sz) (xs:=us) (by simpa using hfit) k
  unfold iO at this;have e1:∀(l:List Value),l.toArray.getD k Go.undef=(l[k]?).getD Go.undef:=by intro l;simp
  rw[e1,Nat.add_zero,this];split
  ·simp[List.getD]
  ·simp
 refine H.write (els':=iO aN i ys) hh hm (setRow_heap w b cs _ T _ g2) g2 hsz (fun k hk=>setRow_other w b k _ hk) rfl rfl rfl (by simp) ?_ ?_ ?_
 ·rw[hsz,qK hfit0];exact g3
 ·intro e' he'
  unfold iO at he';simp only[List.mem_append]at he';rcases he' with(h|h)|h
  ·exact g4 _ (List.mem_of_mem_take h)
  ·exact hy _ h
  ·exact g4 _ (List.mem_of_mem_drop h)
 ·intro i' j x hx'
  unfold fW at hx';rw[lW hfit0]at hx';rw[hget];split at hx'
  ·rename_i hk
   have ha:fW ys (i'-i) j=some x:=hx'
   have hb:=gU ha hy;have e:i'*sz=i*sz+(i'-i)*sz:=by rw[←Nat.add_mul];congr 1;omega
   rw[if_pos (by omega)]
   have:=hx _ _ _ ha
   refine⟨this.1,?_⟩
   rw[show i'*sz+j-i*sz=(i'-i)*sz+j by omega]
   exact this.2
  ·rename_i hk
   have ha:fW aN i' j=some x:=hx'
   have hb:=gU ha g4;rw[if_neg]
   ·exact g5 i' j x ha
   ·rintro⟨k1,k2⟩
    rcases Nat.lt_or_ge i' i with hlt|hge
    ·have:(i'+1)*sz≤i*sz:=Nat.mul_le_mul_right _ hlt
     rw[Nat.succ_mul]at this;omega
    ·have:(i+ys.length)*sz≤i'*sz:=Nat.mul_le_mul_right _ (by omega)
     rw[Nat.add_mul]at this;omega
theorem ac2 [Bk] [Ev] {t:TypeId} {x:Operand} {e:TypeId} {T sz id i n:Nat} {aN:List (List AV)} {zc:List AV} {ti:TypeInfo} {z:Value} (ho:o.op=.call { callee:=.builtin .clear,args:=#[x],argTypes:=#[t] }) (hu:P.underlying t=some (.slice e)) (hi:P.info? e=some ti) (hz:ti.zero=some z)
  (hc:gG (G8 z)=some zc) (hs:zc.length=sz) (hx:dE f x=.own T sz id i n) (hh:h id=.cells T sz aN) (hn:0<n) (hfit:i+n≤aN.length):dX P o f h ⟨.aZ [],[(id,.cells T sz (iO aN i (List.replicate n zc)))],[id]⟩:=by
 intro m A w a H F;have hel:∃el,aN[i]?=some el:=⟨aN[i],List.getElem?_eq_getElem (by omega)⟩
 obtain⟨el,he⟩:=hel;obtain⟨b,cs,g1,g2,g3,g4,g5⟩:=H.block hh he;have h1:=F.eval x;rw[hx]at h1;obtain⟨cap,hv,-⟩:=h1.pF g1;have hcr:CR (Rd m A w) zc z.cells:=lP (.pure _ _ (wR _ w z)) hc
 have hzs:z.cells.size=sz:=hcr.1.trans hs
 have hul:(Builtin.zeroCells z.cells n).toList.length=n*sz:=by simp[Builtin.zeroCells,hzs]
 have hux:∀k,k<n*sz→(Builtin.zeroCells z.cells n).toList.getD k Go.undef=z.cells.getD (k%sz) Go.undef:=by
  intro k hk;have hk2:k%sz<sz:=Nat.mod_lt _ (by
   rcases Nat.eq_zero_or_pos sz with h|h
   ·subst h;simp at hk
   ·exact h)
  have hk':k<n*z.cells.size:=by rw[hzs];exact hk
  simp only[Builtin.zeroCells];simp[List.getD,hk',hzs,show k<n*sz from hk]
  rw[Array.getElem!_eq_getD,Array.getD_eq_getD_getElem?];have:k%sz<z.cells.size:=by omega
  simp[this]
 obtain⟨w',r1,r2,r3⟩:=ae3 (P:=P) (ys:=List.replicate n zc) H hh g1 g2 g3 g4 g5 (by intro e he;rw[List.eq_of_mem_replicate he];exact hs) (us:=(Builtin.zeroCells z.cells n).toList) (by rw[hul];simp) (by
  intro i' j x hx';have hb:=gU hx' (sz:=sz) (by intro e he;rw[List.eq_of_mem_replicate he];exact hs)
  simp only[List.length_replicate]at hb;have hj:zc[j]?=some x:=by
   unfold fW at hx';rw[List.getElem?_replicate,if_pos hb.1]at hx';simpa using hx'
  have:=hcr.2 _ _ hj
  refine⟨this.1,?_⟩
  rw[hux _ hb.2.2];have e1:(i'*sz+j)%sz=j:=by rw[Nat.add_comm,Nat.add_mul_mod_self_right];exact Nat.mod_eq_of_lt hb.2.1
  rw[e1];exact this.2) (by
  intro v hv';obtain⟨k,hk,rfl⟩:=List.getElem_of_mem hv';rw[hul]at hk;have e2:=hux k hk;have hk2:k%sz<sz:=Nat.mod_lt _ (by
   rcases Nat.eq_zero_or_pos sz with h|h
   ·subst h;simp at hk
   ·exact h)
  have hj:=hcr.2 (k%sz) (zc[k%sz]'(by omega)) (by simp[show k%sz<zc.length by omega])
  have:=hj.2.one hj.1
  rw[←e2]at this;rw[List.getD,List.getElem?_eq_getElem (by rw[hul];exact hk)]at this
  exact this) (by simpa using hfit)
 refine⟨.tuple #[],w',m,.inl ?_,r2,.pure _ _ (.aZ [] #[] rfl (by intro i x h;simp at h)),r3⟩
 obtain⟨n',rfl⟩:∃n',n=n'+1:=⟨n-1,by omega⟩
 simp[execOp,ho,resolve,invoke,builtin,hv,Builtin.clear_,run_underlying hu,zeroValue,typeInfo,hi,hz,r1]
theorem aau [Bk] [Ev] {t:TypeId} {x:Operand} {e:TypeId} {aN:List (List AV)} (ho:o.op=.call { callee:=.builtin .clear,args:=#[x],argTypes:=#[t] }) (hu:P.underlying t=some (.slice e)) (he:gN h (dE f x)=some aN) (h0:aN.length=0):dX P o f h ⟨.aZ [],[],pC (dE f x)⟩:=by
 refine bQ fun m A w a H F=>?_
 have h1:=F.eval x;have hlen:∃ad cap,a.eval x=.slice ad aN.length cap:=by
  generalize dE f x=y at h1 he
  generalize a.eval x=v at h1
  cases y with
  |emp =>
   simp only[gN,Option.some.injEq]at he;subst he
   cases h1 with|pure _ _ hr=>cases hr with|emp a=>exact⟨a,0,rfl⟩
  |lit s els' =>
   simp only[gN,Option.some.injEq]at he;subst he
   obtain⟨rfl,a,cap,rfl⟩|⟨b,off,cap,vs,rfl,-⟩:=h1.nE
   ·exact⟨a,cap,rfl⟩
   ·exact⟨_,cap,rfl⟩
  |own T s id i n =>
   simp only[gN]at he;split at he
   ·rename_i T' sz' els0 hh
    split at he
    ·rename_i hc
     obtain⟨rfl,rfl,hle⟩:=hc;cases he;have hlen:((els0.drop i).take n).length=n:=by simp;omega
     rw[hlen];rcases H.cells id _ _ _ hh with⟨hv,rfl⟩|⟨b,cs,g1,g2,g3,g4,g5⟩
     ·cases h1 with
      |pure _ _ h=>cases h
      |own _ _ _ _ _ b _ hm=>rw[hv]at hm;cases hm
      |sA _ _ _ _ a hm=>exact⟨a,0,rfl⟩
      |uD _ _ _ _ _ _ _ _ hm=>rw[hv]at hm;cases hm
     ·obtain⟨cap,rfl,-⟩:=h1.pF g1
      exact⟨_,cap,rfl⟩
    ·cases he
   ·cases he
  |_=>simp[gN]at he
 obtain⟨ad,cap,hv⟩:=hlen;rw[h0]at hv;refine⟨.tuple #[],?_,.pure _ _ (.aZ [] #[] rfl (by intro i x h;simp at h))⟩
 cases ad<;>simp[execOp,ho,resolve,invoke,builtin,hv,Builtin.clear_,run_underlying hu]
end
end Mc
namespace Mc
section
variable {P:Program} {o:Oper} {f:List AV} {h:AH}
theorem bW.aaq [Bk] [Ev] {m:Nat→St} {A:Nat→Prop} {w:World} (H:bW m A h w) {id b:Nat} {B B':bY} {o o':Obj} (hh:h id=B) (hB:B.other=true) (hB':B'.other=true) (hb:m id=.at b) (hL:w.heap[b]?=some o) (hr:dV (w.putObj b o') b=dV w b) (hO:Ext m w m (w.putObj b o')→pV m A (w.putObj b o') b B') :
  bW m A (cJ h id B') (w.putObj b o')∧Ext m w m (w.putObj b o'):=by
 have hsz:(w.putObj b o').heap.size=w.heap.size:=World.putObj_size
 have hot:∀k,k≠b→(w.putObj b o').heap[k]?=w.heap[k]?:=fun k e=>World.putObj_heap_other e
 have hsame:(w.putObj b o').heap[b]?=some o':=World.putObj_heap_same (Array.getElem?_eq_some_iff.1 hL).1
 have E:Ext m w m (w.putObj b o'):=by
  refine⟨rfl,rfl,rfl,by rw[hsz];exact Nat.le_refl _,fun _ _ h=>.inl h,fun _ h=>h,fun _ h=>.inl h,?_,?_⟩
  ·intro k hk hu
   exact⟨hu,hot k (by rintro rfl;exact hu id hb)⟩
  ·intro id' k hk1 hk2
   by_cases e:k=b
   ·subst e;exact hr
   ·simp[dV,hot k e]
 refine⟨⟨H.out,fun k hk=>by rw[hsz];exact H.El k hk,?_,?_,?_,H.inj,H.kI.ext H.out E,?_,mK.set H.PR (mK.NV (bY.uS hB'))⟩,E⟩
 ·intro k hk
  unfold cJ at hk;split at hk
  ·subst hk;exact absurd hB' (by simp[bY.other])
  ·exact H.no k hk
 ·intro k hk
  unfold cJ at hk;split at hk
  ·subst hk;exact absurd hB' (by simp[bY.other])
  ·exact H.dead k hk
 ·intro k T sz aN hk
  unfold cJ at hk;split at hk
  ·rw[bY.uS hB']at hk;cases hk
  ·rename_i hne
   obtain g|⟨b',cs,g1,g2,g3,g4,g5⟩:=H.rL k T sz aN hk
   ·exact .inl g
   ·exact .inr ⟨b',cs,g1,(hot b' (by rintro rfl;exact hne (H.inj k id b' g1 hb))).trans g2,g3,g4,fun i j x hx=>⟨(g5 i j x hx).1,(g5 i j x hx).2.ext E⟩⟩
 ·intro k B1 hk hB1
  unfold cJ at hk;split at hk
  ·rename_i e
   subst hk;subst e;exact⟨b,hb,hO E⟩
  ·rename_i hne
   obtain⟨b',g1,g2⟩:=H.others k B1 hk hB1;exact⟨b',g1,g2.ext E (hot b' (by rintro rfl;exact hne (H.inj k id b' g1 hb)))⟩
theorem bW.aar [Bk] [Ev] {m:Nat→St} {A:Nat→Prop} {w:World} (H:bW m A h w) {id:Nat} {B:bY} {o:Obj} (hid:h id=.no) (hB:B.other=true) (hO:Ext m w (sset m id (.at w.heap.size)) (w.alloc o)→pV (sset m id (.at w.heap.size)) A (w.alloc o) w.heap.size B) :
  bW (sset m id (.at w.heap.size)) A (cJ h id B) (w.alloc o)∧Ext m w (sset m id (.at w.heap.size)) (w.alloc o):=by
 have hmid:=H.no id hid;have ne:∀{k:Nat} {s:St},m k=s→s≠.no→k≠id:=by rintro k s h1 h2 rfl;rw[hmid]at h1;exact h2 h1.symm
 have hold:∀b,b<w.heap.size→(w.alloc o).heap[b]?=w.heap[b]?:=fun b hb=>by
  show(w.heap.push _)[b]?=_
  rw[Array.getElem?_push,if_neg (by omega)]
 have E:Ext m w (sset m id (.at w.heap.size)) (w.alloc o):=by
  refine⟨rfl,rfl,rfl,by simp,?_,?_,?_,?_,?_⟩
  ·intro k b hb
   exact .inl (by rw[sset,if_neg (ne hb (by simp))];exact hb)
  ·intro k hk
   rw[sset,if_neg (ne hk (by simp))];exact hk
  ·intro k hk
   exact .inl (by rw[sset,if_neg (ne hk (by simp))];exact hk)
  ·intro b hb hu
   refine⟨?_,hold b hb⟩
   intro k;unfold sset;split
   ·intro e;cases e;omega
   ·exact hu k
  ·intro k b h1 h2
   simp[dV,hold b (H.lt h1)]
 refine⟨⟨?_,fun b hb=>by have:=H.El b hb;simp;omega,?_,?_,?_,?_,H.kI.ext H.out E,?_,mK.set H.PR (mK.NV (bY.uS hB))⟩,E⟩
 ·intro k b hk hA
  unfold sset at hk;split at hk
  ·cases hk;have:=H.El _ hA;omega
  ·exact H.out k b hk hA
 ·intro k hk
  unfold cJ at hk;unfold sset
  split at hk
  ·subst hk;exact absurd hB (by simp[bY.other])
  ·rename_i hne;rw[if_neg hne];exact H.no k hk
 ·intro k hk
  unfold cJ at hk;unfold sset
  split at hk
  ·subst hk;exact absurd hB (by simp[bY.other])
  ·rename_i hne;rw[if_neg hne];exact H.dead k hk
 ·intro k T' sz' els' hk
  unfold cJ at hk;split at hk
  ·rw[bY.uS hB]at hk;cases hk
  ·rename_i hne
   obtain⟨g1,g2⟩|⟨b,cs',g1,g2,g3,g4,g5⟩:=H.rL k T' sz' els' hk
   ·exact .inl ⟨by simp[sset,hne,g1],g2⟩
   ·exact .inr ⟨b,cs',by simp[sset,hne,g1],by rw[hold b (H.lt g1)];exact g2,g3,g4,fun i j x hx=>⟨(g5 i j x hx).1,(g5 i j x hx).2.ext E⟩⟩
 ·intro i j b hi hj
  unfold sset at hi hj;split at hi<;>split at hj
  ·rename_i a c;rw[a,c]
  ·cases hi;have:=H.lt hj;omega
  ·cases hj;have:=H.lt hi;omega
  ·exact H.inj i j b hi hj
 ·intro k B1 hk hB1
  unfold cJ at hk;split at hk
  ·rename_i e
   subst hk;subst e;exact⟨w.heap.size,by simp[sset],hO E⟩
  ·rename_i hne
   obtain⟨b',g1,g2⟩:=H.others k B1 hk hB1;exact⟨b',by simp[sset,hne,g1],g2.ext E (hold b' (H.lt g1))⟩
theorem Rd.af3 [Bk] [Ev] {m:Nat→St} {A:Nat→Prop} {w:World} {T sz id i n b:Nat} {u:Value} (h:Rd m A w (.view T sz id i n) u) (g:m id=.at b):∃cap,u=.slice (some ⟨b,i*sz,none⟩) n cap:=by
 cases h with
 |pure _ _ h=>cases h
 |view _ _ _ _ _ b' cap hm=>rw[g]at hm;cases hm;exact⟨cap,rfl⟩
 |AT _ _ _ _ _ _ _ hm=>rw[g]at hm;cases hm
theorem G3 [Bk] [Ev] {t:TypeId} {x lo hi mx:Operand} {T sz id i n l u v:Nat} {aN:List (List AV)} (ho:o.op=.slice t x (some lo) (some hi) (some mx)) (ht:P.underlying t=some (.slice (P.elem t))) (hs:(P.info? (P.elem t)).map (·.size)=some sz) (hx:dE f x=.own T sz id i n) (hh:h id=.cells T sz aN) (hne:aN≠[]) (hlo:fN (dE f) 0 (some lo)=some l) (hhi:fN (dE f) n (some hi)=some u) (hmx:fN (dE f) n (some mx)=some v) (h1:l≤u) (h2:u≤v) (h3:v≤n) (h4:l<v) :
  dX P o f h ⟨.view T sz id (i+l) (u-l),[],[id]⟩:=by
 refine bQ fun m A w a H F=>?_
 have g:=F.eval x;rw[hx]at g;cases hp:P.info? (P.elem t)with
 |none=>simp[hp]at hs
 |some ti =>
  simp only[hp,Option.map_some,Option.some.injEq]at hs;subst hs;obtain⟨e,r,rfl⟩:=List.exists_cons_of_ne_nil hne;obtain⟨b,cs,g1,-⟩:=H.block (i:=0) hh rfl
  obtain⟨cap,hv,hn,hcm,hrow⟩:=g.pF g1;obtain⟨k1,e1⟩:=kB F hlo;obtain⟨k2,e2⟩:=kB F hhi;obtain⟨k3,e3⟩:=kB F hmx;have hr:=run_slice_lhm (P:=P) w t (some ⟨b,i*ti.size,none⟩) n cap ht k1 k2 k3 (l:Int) (u:Int) (v:Int) (by omega) (by omega) (by omega) (by omega)
  have hr2:(Instr.sliceAt t (.slice (some ⟨b,i*ti.size,none⟩) n cap) (some (.int k1 l)) (some (.int k2 u)) (some (.int k3 v))).run P w=.ok (sliced (some ⟨b,i*ti.size,none⟩) l u v ti.size) w:=by
   rw[run_sliceAt_slice (P:=P) w t _ _ _ _ ht];simp[hr,sizeOf,typeInfo,hp]
  have hal:sliced (some ⟨b,i*ti.size,none⟩) l u v ti.size=.slice (some ⟨b,(i+l)*ti.size,none⟩) (u-l) (v-l):=by
   unfold sliced;rw[if_neg (by omega)];simp[gB,Nat.add_mul]
  refine⟨_,by simp[execOp,ho,hv,e1,e2,e3,hr2];rfl,?_⟩
  rw[hal];exact .view T ti.size id (i+l) (u-l) b (v-l) g1
theorem G4 [Bk] [Ev] {t:TypeId} {x lo hi mx:Operand} {sz l u v:Nat} {aN:List (List AV)} (ho:o.op=.slice t x (some lo) (some hi) (some mx)) (ht:P.underlying t=some (.slice (P.elem t))) (hs:(P.info? (P.elem t)).map (·.size)=some sz) (hx:dE f x=.lit sz aN) (hlo:fN (dE f) 0 (some lo)=some l) (hhi:fN (dE f) 0 (some hi)=some u) (hmx:fN (dE f) 0 (some mx)=some v) (h1:l≤u) (h2:u≤v) (h3:v≤aN.length) (hne:aN≠[]) :
  dX P o f h ⟨.lit sz ((aN.drop l).take (u-l)),[],[]⟩:=by
 refine bQ fun m A w a H F=>?_
 have g:=F.eval x;rw[hx]at g;cases hp:P.info? (P.elem t)with
 |none=>simp[hp]at hs
 |some ti =>
  simp only[hp,Option.map_some,Option.some.injEq]at hs;subst hs;obtain⟨k1,e1⟩:=kB F hlo;obtain⟨k2,e2⟩:=kB F hhi;obtain⟨k3,e3⟩:=kB F hmx;have key:∀(ad:Option Addr) (cap:Nat),aN.length≤cap→(Instr.sliceAt t (.slice ad aN.length cap) (some (.int k1 l)) (some (.int k2 u)) (some (.int k3 v))).run P w=.ok (sliced ad l u v ti.size) w:=by
   intro ad cap hcap;have hr:=run_slice_lhm (P:=P) w t ad aN.length cap ht k1 k2 k3 (l:Int) (u:Int) (v:Int) (by omega) (by omega) (by omega) (by omega)
   rw[run_sliceAt_slice (P:=P) w t _ _ _ _ ht];simp[hr,sizeOf,typeInfo,hp]
  have hlen:((aN.drop l).take (u-l)).length=u-l:=by simp;omega
  obtain⟨h0,ad,cap,hv⟩|⟨b,off,cap,vs,hv,hA,hb,hc,hsz,q1,kv,kr⟩:=g.nE
  ·exact absurd h0 hne
  ·have hr:=key (some ⟨b,off,none⟩) cap hc
   refine⟨_,by simp[execOp,ho,hv,e1,e2,e3,hr];rfl,.pure _ _ ?_⟩
   unfold sliced;by_cases hlu:l=u
   ·subst hlu
    simp only[Nat.sub_self,List.take_zero];exact .nG _ _ _ (by rw[hv]at g;have:=g.Bz;omega)
   ·rw[if_neg (by omega)]
    have:=dG.lit (A:=Av m A) (w:=w) ti.size ((aN.drop l).take (u-l)) b (off+l*ti.size) (v-l) (fun i j=>vs (l+i) j) hA hb ⟨by rw[hlen];omega,by rw[hv]at g;have:=g.Bz;omega⟩ (fun e he=>hsz e (List.mem_of_mem_drop (List.mem_of_mem_take he))) (fun i j y hy=>q1 _ _ _ (qZ hy).2)
     (fun i j y hy=>by have:=kv _ _ _ (qZ hy).2;rw[←this];congr 2;rw[Nat.add_mul];omega) (fun i j y hy=>kr _ _ _ (qZ hy).2)
    rw[hlen]at this;simpa[gB]using this
theorem G5 [Bk] [Ev] {t:TypeId} {x lo hi mx:Operand} {T sz id i n l:Nat} {aN:List (List AV)} (ho:o.op=.slice t x (some lo) (some hi) (some mx)) (ht:P.underlying t=some (.slice (P.elem t))) (hs:(P.info? (P.elem t)).map (·.size)=some sz) (hx:dE f x=.own T sz id i n) (hh:h id=.cells T sz aN) (hne:aN≠[]) (hlo:fN (dE f) 0 (some lo)=some l) (hhi:fN (dE f) n (some hi)=some l) (hmx:fN (dE f) n (some mx)=some l) (h3:l≤n) :
  dX P o f h ⟨.emp,[],[id]⟩:=by
 refine bQ fun m A w a H F=>?_
 have g:=F.eval x;rw[hx]at g;cases hp:P.info? (P.elem t)with
 |none=>simp[hp]at hs
 |some ti =>
  obtain⟨e,r,rfl⟩:=List.exists_cons_of_ne_nil hne;obtain⟨b,cs,g1,-⟩:=H.block (i:=0) hh rfl
  obtain⟨cap,hv,hn,hcm,hrow⟩:=g.pF g1;obtain⟨k1,e1⟩:=kB F hlo;obtain⟨k2,e2⟩:=kB F hhi;obtain⟨k3,e3⟩:=kB F hmx;have hr:=run_slice_lhm (P:=P) w t (some ⟨b,i*sz,none⟩) n cap ht k1 k2 k3 (l:Int) (l:Int) (l:Int) (by omega) (by omega) (by omega) (by omega)
  have hr2:(Instr.sliceAt t (.slice (some ⟨b,i*sz,none⟩) n cap) (some (.int k1 l)) (some (.int k2 l)) (some (.int k3 l))).run P w=.ok (sliced (some ⟨b,i*sz,none⟩) l l l ti.size) w:=by
   rw[run_sliceAt_slice (P:=P) w t _ _ _ _ ht];simp[hr,sizeOf,typeInfo,hp]
  refine⟨_,by simp[execOp,ho,hv,e1,e2,e3,hr2];rfl,?_⟩
  unfold sliced;rw[Nat.sub_self];exact .pure _ _ (.emp _)
theorem NU [Bk] [Ev] {t:TypeId} {x:Operand} {e:TypeId} {T sz id i n:Nat} (ho:o.op=.call { callee:=.builtin .len,args:=#[x],argTypes:=#[t] }) (hu:P.underlying t=some (.slice e)) (hx:dE f x=.view T sz id i n):dX P o f h ⟨.c (.int .i64 n),[],[]⟩:=by
 refine bQ fun m A w a H F=>?_
 have h1:=F.eval x;rw[hx]at h1;have:∃ad cap,a.eval x=.slice ad n cap:=by
  generalize a.eval x=u at h1
  cases h1 with
  |pure _ _ h=>cases h
  |view _ _ _ _ _ b' cap hm=>exact⟨_,_,rfl⟩
  |AT _ _ _ _ _ ad cap hm=>exact⟨_,_,rfl⟩
 obtain⟨ad,cap,hv⟩:=this;refine⟨_,?_,.pure _ _ (.c _)⟩
 simp[execOp,ho,resolve,invoke,builtin,hv,Builtin.len_,run_underlying hu,goInt]
theorem Bq [Bk] [Ev] {t e:TypeId} {x ix:Operand} {T sz id i n':Nat} {aN:List (List AV)} {el:List AV} {k:IntKind} {n:Int} (ho:o.op=.indexAddr t x ix) (hx:dE f x=.view T sz id i n') (hh:h id=.cells T sz aN) (hi:dE f ix=.c (.int k n)) (hu:P.underlying t=some (.slice e)) (hs:(P.info? e).map (·.size)=some sz) (h0:0≤n) (hn:n.toNat<n') (he:aN[i+n.toNat]?=some el) :
  dX P o f h ⟨.ptr sz id (i+n.toNat) 0,[],[id]⟩:=by
 refine bQ fun m A w a H F=>?_
 have h1:=F.eval x;rw[hx]at h1;have h2:=F.eval ix;rw[hi]at h2;have e2:=h2.dY;obtain⟨b,cs,g1,-⟩:=H.block hh he;obtain⟨cap,hv⟩:=h1.af3 g1;cases hp:P.info? e with
 |none=>simp[hp]at hs
 |some ti =>
  simp only[hp,Option.map_some,Option.some.injEq]at hs;have hlt:n<(n':Int):=by omega
  refine⟨.pointer (some ⟨b,(i+n.toNat)*sz+0,none⟩),?_,.ptr sz id _ 0 b g1 (H.lt g1)⟩
  simp[execOp,ho,hv,e2,Instr.indexAt,asIntOf,run_underlying hu,h0,hlt,sizeOf,typeInfo,hp,hs,gB,Nat.add_mul]
def ako (n:Int) (es:List (Int×AV)):Bool:=es.all fun t=>t.1 != n
def akd (n:Int) (es:List (Int×AV)):Option AV:=match es.filter (fun t=>t.1==n)with|[t]=>some t.2|_=>none
end
end Mc
namespace Mc
def jY (h:AH) (nx:Nat):Bool:=match h nx with | .no=>true|_=>false
theorem kD [Bk] [Ev] {h:AH} {nx:Nat} (k:jY h nx=true):h nx=.no:=by unfold jY at k;split at k<;>first|assumption|cases k
def iY (P:Program) (t:TypeId):Bool:=match P.underlying t with|some (.slice _)=>true|_=>false
def FG (y:AV) (n:Nat):Bool:=match y with | .own _ s _ _ _=>s==n|_=>true
def tV (P:Program) (t:TypeId) (x y:AV) (h:AH) (nx:Nat):Option AR :=
 match P.underlying t with
 |some (.slice e)=>match P.info? e with
  |some i=>match i.zero with
   |some z=>match tS h e i.size x,gN h y with
    |some (aN,k,rd),some ys =>
     if z.cells.size=i.size∧0<i.size∧(ys.all fun q=>q.length==i.size)=true∧FG y i.size=true∧(aN.length+ys.length)*i.bytes≤140737488355328∧aN.length+ys.length≤1099511627776∧jY h nx=true then
      some ⟨.own e i.size nx 0 (aN.length+ys.length),k++[(nx,.cells e i.size (aN++ys))],nx::rd++pC y⟩
     else none
    |_,_=>none
   |none=>none
  |none=>none
 |_=>none
def dO (P:Program) (t:TypeId):Option Nat:=(P.info? t).map (·.size)
def iH [Bk] (P:Program) (op:Op) (ρ:Operand→AV) (h:AH) (nx:Nat):Option AR :=
 match op with
 | .move x=>some ⟨ρ x,[],[]⟩
 | .assign x=>some ⟨ρ x,[],[]⟩
 | .pick c x y=>match ρ c with
  | .c (.bool b)=>some ⟨bif b then ρ x else ρ y,[],[]⟩
  |_=>none
 | .alloc e=>match P.info? e with
  |some i=>match i.zero with
   |some z=>match gG (G8 z)with
    |some cs=>if jY h nx then some ⟨.ptr cs.length nx 0 0,[(nx,.cells e cs.length [cs])],[nx]⟩else none
    |none=>none
   |none=>none
  |none=>none
 | .box e x=>match gG (ρ x)with
  |some cs=>if jY h nx then some ⟨.ptr cs.length nx 0 0,[(nx,.cells e cs.length [cs])],[nx]⟩else none
  |none=>none
 | .build t parts=>match Gr P t (parts.toList.map fun p=>(p.1,ρ p.2))with
  |some cs=>some ⟨.agg cs,[],[]⟩
  |none=>none
 | .buildSlice t len parts=>match P.underlying t with
  |some (.slice e)=>match P.info? e with
   |some i=>match i.zero with
    |some z=>match gG (G8 z)with
     |some zc=>if zc.length=i.size∧0<i.size∧0<len∧len*i.size≤16777216∧jY h nx=true then
       match wW (fun k=>some (k*i.size,i.size)) ((List.replicate len zc).flatten) (parts.toList.map fun p=>(p.1,ρ p.2))with
       |some cs=>some ⟨.own e i.size nx 0 len,[(nx,.cells e i.size (chunk i.size len cs))],[nx]⟩
       |none=>none
      else none
     |none=>none
    |none=>none
   |none=>none
  |_=>none
 | .load t x=>match ρ x with
  | .ptr sz id i off=>match h id with
   | .cells _ s aN=>if s=sz then match aN[i]? with
     |some e=>match kQ P t e off with
      |some v=>some ⟨v,[],[id]⟩
      |none=>none
     |none=>none
    else none
   |_=>none
  | .gT _ aN i off=>match aN[i]? with
   |some e=>match kQ P t e off with
    |some v=>some ⟨v,[],[]⟩
    |none=>none
   |none=>none
  |_=>none
 | .store t x y=>match ρ x with
  | .ptr sz id i off=>match h id with
   | .cells T s aN=>if s=sz then match aN[i]?,gG (ρ y)with
     |some e,some xs=>if dO P t=some xs.length∧off+xs.length≤sz then some ⟨.undef,[(id,.cells T sz (aN.set i (iO e off xs)))],[id]⟩else none
     |_,_=>none
    else none
   |_=>none
  |_=>none
 | .nilCheck x=>match ρ x with
  | .ptr sz id i off=>match h id with
   | .cells _ _ aN=>if(aN[i]?).isSome then some ⟨.ptr sz id i off,[],[id]⟩else none
   |_=>none
  | .gT sz aN i off=>some ⟨.gT sz aN i off,[],[]⟩
  | .fn (.func k) xs ys=>some ⟨.fn (.func k) xs ys,[],[]⟩
  |_=>none
 | .binOp op t x y _=>match afZ P op t (FV x) (FV y) (ρ x) (ρ y)with
  |some r=>some ⟨r,[],[]⟩
  |none=>none
 | .unOp op _ x=>match ρ x with
  | .c u=>match unV op u with
   |some r=>some ⟨.c r,[],[]⟩
   |none=>none
  | .e p=>match op with
   | .neg=>if kE (pA (-1) p)then some ⟨AN (pA (-1) p),[],[]⟩else none
   |_=>none
  |_=>none
 | .convert s d x=>match ρ x with
  | .c (.int _ n)=>match P.underlying s,P.underlying d with
   |some _,some (.int k)=>some ⟨.c (.int k (k.wrap n)),[],[]⟩
   |_,_=>none
  | .c (.string b)=>match P.underlying s,P.underlying d with
   |some _,some .string=>some ⟨.c (.string b),[],[]⟩
   |_,_=>none
  | .e p=>match P.underlying s,P.underlying d with
   |some _,some (.int .i64)=>if kE p then some ⟨.e p,[],[]⟩else none
   |_,_=>none
  |_=>none
 | .makeInterface t x=>if P.concrete t then some ⟨.pJ t (ρ x),[],[]⟩else none
 | .makeFunc fn first captured=>some ⟨.fn fn (first.toList.map ρ) (captured.toList.map ρ),[],[]⟩
 | .makeSlice t x y=>match ρ x,ρ y with
  | .c (.int _ l),.c (.int _ c)=>match P.underlying t with
   |some (.slice e)=>match P.info? e with
    |some i=>match i.zero with
     |some z=>match gG (G8 z)with
      |some zc=>if zc.length=i.size∧0≤l∧l≤c∧(i.bytes:Int)*c≤281474976710656∧c≤1099511627776∧jY h nx=true then
        some ⟨.own e i.size nx 0 l.toNat,[(nx,.cells e i.size (List.replicate l.toNat zc))],[nx]⟩else none
      |none=>none
     |none=>none
    |none=>none
   |_=>none
  |_,_=>none
 | .slice t x lo hi mx=>match mx with
  |some m=>match lo,hi with
   |none,some hi=>match ρ hi,ρ m with
    | .c (.int _ a),.c (.int _ b)=>match gN h (ρ x)with
     |some _=>if a=0∧b=0∧iY P t=true∧(P.info? (P.elem t)).isSome=true then some ⟨.emp,[],pC (ρ x)⟩else none
     |none=>none
    |_,_=>none
   |some lo,some hi=>match ρ x with
    | .own T sz id i n=>match h id with
     | .cells T' s aN=>match fN ρ 0 (some lo),fN ρ n (some hi),fN ρ n (some m)with
      |some l,some u,some v=>if T'=T∧s=sz∧aN≠[]∧l≤u∧u≤v∧v≤n∧l<v∧iY P t=true∧dO P (P.elem t)=some sz then some ⟨.view T sz id (i+l) (u-l),[],[id]⟩else
        if T'=T∧s=sz∧aN≠[]∧l=u∧u=v∧v≤n∧iY P t=true∧dO P (P.elem t)=some sz then some ⟨.emp,[],[id]⟩else none
      |_,_,_=>none
     |_=>none
    | .lit sz aN=>match fN ρ 0 (some lo),fN ρ 0 (some hi),fN ρ 0 (some m)with
     |some l,some u,some v=>if aN≠[]∧l≤u∧u≤v∧v≤aN.length∧iY P t=true∧dO P (P.elem t)=some sz then some ⟨.lit sz ((aN.drop l).take (u-l)),[],[]⟩else none
     |_,_,_=>none
    |_=>none
   |_,_=>none
  |none=>match ρ x with
   | .lit sz aN=>match fN ρ 0 lo,fN ρ aN.length hi with
    |some l,some u=>if l≤u∧u≤aN.length∧iY P t=true∧dO P (P.elem t)=some sz then some ⟨.lit sz ((aN.drop l).take (u-l)),[],[]⟩else none
    |_,_=>none
   | .own T sz id i n=>match h id with
    | .cells T' s aN=>match fN ρ 0 lo,fN ρ n hi with
     |some l,some u=>if T'=T∧s=sz∧aN≠[]∧l≤u∧u≤n∧(l=0∨l<n)∧iY P t=true∧dO P (P.elem t)=some sz then some ⟨.own T sz id (i+l) (u-l),[],[id]⟩else none
     |_,_=>none
    |_=>none
   | .c (.string s)=>match P.underlying t with
    |some .string=>match fN ρ 0 lo,fN ρ s.size hi with
     |some l,some u=>if l≤u∧u≤s.size then some ⟨.c (.string (s.extract l u)),[],[]⟩else none
     |_,_=>none
    |_=>none
   |_=>none
 | .fieldAddr t x k=>match lU P t k with
  |some (_,o',n)=>if n≠0 then match ρ x with
    | .ptr sz id i off=>match h id with
     | .cells _ s aN=>if s=sz∧(aN[i]?).isSome=true then some ⟨.ptr sz id i (off+o'),[],[id]⟩else none
     |_=>none
    | .gT sz aN i off=>some ⟨.gT sz aN i (off+o'),[],[]⟩
    |_=>none
   else none
  |none=>none
 | .field t x k=>match lU P t k with
  |some (ty,o',_)=>match ρ x with
   | .agg cs=>match kQ P ty cs o' with
    |some v=>some ⟨v,[],[]⟩
    |none=>none
   |_=>none
  |none=>none
 | .indexAddr t x ix=>match ρ ix with
  | .c (.int _ n)=>match P.underlying t with
   |some (.slice e)=>match ρ x with
    | .lit sz aN=>if dO P e=some sz∧0≤n∧n.toNat<aN.length then some ⟨.gT sz aN n.toNat 0,[],[]⟩else none
    | .own T sz id i n'=>match h id with
     | .cells T' s aN=>if T'=T∧s=sz∧dO P e=some sz∧0≤n∧n.toNat<n'∧(aN[i+n.toNat]?).isSome=true then some ⟨.ptr sz id (i+n.toNat) 0,[],[id]⟩else none
     |_=>none
    | .view T sz id i n'=>match h id with
     | .cells T' s aN=>if T'=T∧s=sz∧dO P e=some sz∧0≤n∧n.toNat<n'∧(aN[i+n.toNat]?).isSome=true then some ⟨.ptr sz id (i+n.toNat) 0,[],[id]⟩else none
     |_=>none
    | .row N xs=>match xs[n.toNat]? with
     |some p=>if dO P e=some 1∧0≤n∧Oe (pM (xJ n) N)=some true then some ⟨.gT 1 [[AN p]] 0 0,[],[]⟩else none
     |none=>none
    |_=>none
   |some (.array len e)=>match dO P e with
    |some s=>if 0≤n∧n.toNat<len then match ρ x with
      | .ptr sz id i off=>match h id with
       | .cells _ s' aN=>if s'=sz∧(aN[i]?).isSome=true then some ⟨.ptr sz id i (off+n.toNat*s),[],[id]⟩else none
       |_=>none
      | .gT sz aN i off=>some ⟨.gT sz aN i (off+n.toNat*s),[],[]⟩
      |_=>none
     else none
    |none=>none
   |_=>none
  |_=>none
 | .index t x ix=>match ρ ix with
  | .c (.int _ n)=>match P.underlying t with
   |some (.array len e)=>match dO P e with
    |some s=>match ρ x with
     | .agg cs=>if 0≤n∧n.toNat<len then match kQ P e cs (n.toNat*s)with
       |some v=>some ⟨v,[],[]⟩
       |none=>none
      else none
     |_=>none
    |none=>none
   |some .string=>match ρ x with
    | .c (.string s)=>match s[n.toNat]? with
     |some b=>if 0≤n then some ⟨.c (.int .u8 b.toNat),[],[]⟩else none
     |none=>none
    |_=>none
   |_=>none
  |_=>none
 | .extract x k=>match ρ x with
  | .aZ vs=>match vs[k]? with
   |some v=>some ⟨v,[],[]⟩
   |none=>none
  |_=>none
 | .typeAssert ..=>none
 | .range ..=>none
 | .next ..=>none
 | .makeMap ..=>none
 | .insert ..=>none
 | .lookup ..=>none
 | .call { callee:=.builtin b,args,argTypes }=>match b with
  | .len=>match args.toList,argTypes.toList with
   |[x],[t]=>match P.underlying t with
    |some (.slice _)=>match gN h (ρ x)with
     |some aN=>some ⟨.c (.int .i64 aN.length),[],pC (ρ x)⟩
     |none=>match ρ x with
      | .row n _=>some ⟨AN n,[],[]⟩
      | .view _ _ _ _ n=>some ⟨.c (.int .i64 n),[],[]⟩
      |_=>none
    |some .string=>match ρ x with
     | .c (.string s)=>some ⟨.c (.int .i64 s.size),[],[]⟩
     |_=>none
    |_=>none
   |_,_=>none
  | .append=>match args.toList,argTypes.toList with
   |[x,y],[t,t']=>if t'=t then tV P t (ρ x) (ρ y) h nx else none
   |_,_=>none
  | .max=>match args.toList with
   |[x,y]=>match ρ x,ρ y with
    | .c (.int k p),.c (.int _ q)=>some ⟨.c (.int k (if q > p then q else p)),[],[]⟩
    |u,v=>match toP u,toP v with
     |some p,some q=>match ES p q with
      |some r=>some ⟨AN r,[],[]⟩
      |none=>none
     |_,_=>none
   |[x,y,z]=>match ρ x,ρ y,ρ z with
    | .c (.int k p),.c (.int _ q),.c (.int _ r)=>some ⟨.c (.int k (if r > (if q > p then q else p)then r else(if q > p then q else p))),[],[]⟩
    |_,_,_=>none
   |_=>none
  | .min=>match args.toList with
   |[x,y]=>match ρ x,ρ y with
    | .c (.int k p),.c (.int _ q)=>some ⟨.c (.int k (if q<p then q else p)),[],[]⟩
    |u,v=>match toP u,toP v with
     |some p,some q=>match ER p q with
      |some r=>some ⟨AN r,[],[]⟩
      |none=>none
     |_,_=>none
   |_=>none
  | .clear=>match args.toList,argTypes.toList with
   |[x],[t]=>match P.underlying t with
    |some (.slice e)=>match gN h (ρ x)with
     |some els0=>if els0.length=0 then some ⟨.aZ [],[],pC (ρ x)⟩else
      match P.info? e with
      |some i=>match i.zero with
       |some z=>match gG (G8 z)with
        |some zc=>match ρ x with
         | .own T sz id a n=>match h id with
          | .cells T' s aN=>if T'=T∧s=sz∧zc.length=sz∧0<n∧a+n≤aN.length then some ⟨.aZ [],[(id,.cells T sz (iO aN a (List.replicate n zc)))],[id]⟩else none
          |_=>none
         |_=>none
        |none=>none
       |none=>none
      |none=>none
     |none=>none
    |_=>none
   |_,_=>none
  |_=>none
 |_=>none
section
variable {P:Program} {o:Oper} {f:List AV} {h:AH}
theorem nR [Bk] [Ev] {t:TypeId} (h:iY P t=true):P.underlying t=some (.slice (P.elem t)):=by
 unfold iY at h;unfold Program.elem;split at h
 ·rename_i e he;rw[he]
 ·cases h
theorem MJ [Bk] [Ev] {α:Type} {l:Array α} {x:α} (h:l.toList=[x]):l=#[x]:=by cases l;simp_all
theorem MI [Bk] [Ev] {α:Type} {l:Array α} {x y:α} (h:l.toList=[x,y]):l=#[x,y]:=by cases l;simp_all
theorem aki [Bk] [Ev] {α:Type} {l:Array α} {x y z:α} (h:l.toList=[x,y,z]):l=#[x,y,z]:=by cases l;simp_all
set_option maxHeartbeats 4000000 in
theorem aim [Bk] [Ev] {nx:Nat} {r:AR} (hr:iH P o.op (dE f) h nx=some r):dX P o f h r:=by
 obtain⟨dst,op,ty,pos,after,guard⟩:=o;simp only at hr
 cases op with
 |move x=>simp only[iH,Option.some.injEq]at hr;subst hr;exact Bp rfl
 |assign x=>simp only[iH,Option.some.injEq]at hr;subst hr;exact nT rfl
 |pick c x y =>
  simp only[iH]at hr;split at hr
  ·rename_i b hc;cases hr;exact afk rfl hc
  ·cases hr
 |alloc e =>
  simp only[iH]at hr;split at hr
  ·rename_i i hi
   split at hr
   ·rename_i z hz
    split at hr
    ·rename_i cs hc
     split at hr
     ·rename_i hn;cases hr;exact ac4 rfl hi hz hc (kD hn)
     ·cases hr
    ·cases hr
   ·cases hr
  ·cases hr
 |box e x =>
  simp only[iH]at hr;split at hr
  ·rename_i cs hc
   split at hr
   ·rename_i hn;cases hr;exact ahQ rfl hc (kD hn)
   ·cases hr
  ·cases hr
 |build t parts =>
  simp only[iH]at hr;split at hr
  ·rename_i cs hc;cases hr;exact ac3 rfl hc
  ·cases hr
 |buildSlice t len parts =>
  simp only[iH]at hr;split at hr
  ·rename_i e he
   split at hr
   ·rename_i i hi
    split at hr
    ·rename_i z hz
     split at hr
     ·rename_i zc hzc
      split at hr
      ·rename_i hcond
       split at hr
       ·rename_i cs hf
        cases hr;obtain⟨h1,h2,h3,h4,h5⟩:=hcond;exact G7 rfl he hi hz hzc h1 h2 h3 h4 hf (kD h5)
       ·cases hr
      ·cases hr
     ·cases hr
    ·cases hr
   ·cases hr
  ·cases hr
 |load t x =>
  simp only[iH]at hr;split at hr
  ·rename_i sz id i off hx
   split at hr
   ·rename_i T s aN hh
    split at hr
    ·rename_i hs
     subst hs;split at hr
     ·rename_i e he
      split at hr
      ·rename_i v hp
       cases hr;exact NT rfl hx hh he hp
      ·cases hr
     ·cases hr
    ·cases hr
   ·cases hr
  ·rename_i sz aN i off hx
   split at hr
   ·rename_i e he
    split at hr
    ·rename_i v hp
     cases hr;exact LW rfl hx he hp
    ·cases hr
   ·cases hr
  ·cases hr
 |store t x y =>
  simp only[iH]at hr;split at hr
  ·rename_i sz id i off hx
   split at hr
   ·rename_i T s aN hh
    split at hr
    ·rename_i hs
     subst hs;split at hr
     ·rename_i e xs he hy
      split at hr
      ·rename_i hc
       cases hr;exact acZ rfl hx hh he hy hc.1 hc.2
      ·cases hr
     ·cases hr
    ·cases hr
   ·cases hr
  ·cases hr
 |nilCheck x =>
  simp only[iH]at hr;split at hr
  ·rename_i sz id i off hx
   split at hr
   ·rename_i T s aN hh
    split at hr
    ·rename_i hs
     cases hr;obtain⟨e,he⟩:=Option.isSome_iff_exists.1 hs;exact D4 rfl hx hh he
    ·cases hr
   ·cases hr
  ·rename_i sz aN i off hx;cases hr;exact CC rfl hx
  ·rename_i k xs ys hx;cases hr;exact FK rfl hx
  ·cases hr
 |range=>simp[iH]at hr
 |next=>simp[iH]at hr
 |makeMap=>simp[iH]at hr
 |insert=>simp[iH]at hr
 |lookup=>simp[iH]at hr
 |binOp bop t x y ty' =>
  simp only[iH]at hr;split at hr
  ·rename_i r' hb;cases hr;exact afo rfl hb
  ·cases hr
 |unOp uop t x =>
  simp only[iH]at hr;split at hr
  ·rename_i u hx
   split at hr
   ·rename_i r' hu;cases hr;exact ajy rfl hx hu
   ·cases hr
  ·rename_i p hx
   split at hr
   ·split at hr
    ·rename_i hb;cases hr;exact aas rfl hx hb
    ·cases hr
   ·cases hr
  ·cases hr
 |convert s d x =>
  simp only[iH]at hr;split at hr
  ·rename_i k n hx
   split at hr
   ·rename_i ds k' h1 h2;cases hr;exact FP rfl hx h1 h2
   ·cases hr
  ·rename_i b hx
   split at hr
   ·rename_i ds h1 h2;cases hr;exact FO rfl hx h1 h2
   ·cases hr
  ·rename_i p hx
   split at hr
   ·rename_i ds h1 h2
    split at hr
    ·rename_i hb;cases hr;exact FN rfl hx h1 h2 hb
    ·cases hr
   ·cases hr
  ·cases hr
 |makeInterface t x =>
  simp only[iH]at hr;split at hr
  ·rename_i hc;cases hr;exact CE rfl hc
  ·cases hr
 |makeFunc fn first captured=>simp only[iH,Option.some.injEq]at hr;subst hr;exact NR rfl
 |makeSlice t x y =>
  simp only[iH]at hr;split at hr
  ·rename_i k l k' c hx hy
   split at hr
   ·rename_i e he
    split at hr
    ·rename_i i hi
     split at hr
     ·rename_i z hz
      split at hr
      ·rename_i zc hzc
       split at hr
       ·rename_i hcond
        cases hr;obtain⟨h1,h2,h3,h4,h5,h6⟩:=hcond;exact LV rfl he hi hz hzc h1 hx hy h2 h3 h4 h5 (kD h6)
       ·cases hr
      ·cases hr
     ·cases hr
    ·cases hr
   ·cases hr
  ·cases hr
 |slice t x lo hi mx =>
  simp only[iH]at hr;split at hr
  ·rename_i m
   split at hr
   ·rename_i hi'
    split at hr
    ·rename_i k a k' b h1 h2
     split at hr
     ·rename_i aN he
      split at hr
      ·rename_i hc
       obtain⟨rfl,rfl,h3,h4⟩:=hc;cases hr;exact LQ rfl (nR h3) h4 he h1 h2
      ·cases hr
     ·cases hr
    ·cases hr
   ·rename_i lo' hi'
    split at hr
    ·rename_i T sz id i n hx
     split at hr
     ·rename_i T' s aN hh
      split at hr
      ·rename_i l u v q1 q2 q3
       split at hr
       ·rename_i hc
        obtain⟨rfl,rfl,h1,h2,h3,h4,h5,h6,h7⟩:=hc;cases hr;exact G3 rfl (nR h6) h7 hx hh h1 q1 q2 q3 h2 h3 h4 h5
       ·split at hr
        ·rename_i hc
         obtain⟨rfl,rfl,h1,rfl,rfl,h4,h6,h7⟩:=hc;cases hr;exact G5 rfl (nR h6) h7 hx hh h1 q1 q2 q3 h4
        ·cases hr
      ·cases hr
     ·cases hr
    ·rename_i sz aN hx
     split at hr
     ·rename_i l u v q1 q2 q3
      split at hr
      ·rename_i hc
       obtain⟨h1,h2,h3,h4,h6,h7⟩:=hc;cases hr;exact G4 rfl (nR h6) h7 hx q1 q2 q3 h2 h3 h4 h1
      ·cases hr
     ·cases hr
    ·cases hr
   ·cases hr
  ·split at hr
   ·rename_i sz aN hx
    split at hr
    ·rename_i l u h1 h2
     split at hr
     ·rename_i hc
      cases hr;exact LU rfl (nR hc.2.2.1) hc.2.2.2 hx h1 h2 hc.1 hc.2.1
     ·cases hr
    ·cases hr
   ·rename_i T sz id i n hx
    split at hr
    ·rename_i T' s aN hh
     split at hr
     ·rename_i l u h1 h2
      split at hr
      ·rename_i hc
       obtain⟨rfl,rfl,h3,h4,h5,h6,h7,h8⟩:=hc;cases hr;exact LP rfl (nR h7) h8 hx hh h3 h1 h2 h4 h5 h6
      ·cases hr
     ·cases hr
    ·cases hr
   ·rename_i s hx
    split at hr
    ·rename_i hu
     split at hr
     ·rename_i l u h1 h2
      split at hr
      ·rename_i hc
       cases hr;exact LO rfl hu hx h1 h2 hc.1 hc.2
      ·cases hr
     ·cases hr
    ·cases hr
   ·cases hr
 |fieldAddr t x k =>
  simp only[iH]at hr;split at hr
  ·rename_i ty' o' n hf
   split at hr
   ·rename_i hn
    split at hr
    ·rename_i sz id i off hx
     split at hr
     ·rename_i T s aN hh
      split at hr
      ·rename_i hc
       obtain⟨rfl,hs⟩:=hc;obtain⟨e,he⟩:=Option.isSome_iff_exists.1 hs;cases hr;exact CN rfl hx hh he hf hn
      ·cases hr
     ·cases hr
    ·rename_i sz aN i off hx
     cases hr;exact Bu rfl hx hf hn
    ·cases hr
   ·cases hr
  ·cases hr
 |field t x k =>
  simp only[iH]at hr;split at hr
  ·rename_i ty' o' n hf
   split at hr
   ·rename_i cs hx
    split at hr
    ·rename_i v hp
     cases hr;exact ac1 rfl hx hf hp
    ·cases hr
   ·cases hr
  ·cases hr
 |indexAddr t x ix =>
  simp only[iH]at hr;split at hr
  ·rename_i k n hi
   split at hr
   ·rename_i e hu
    split at hr
    ·rename_i sz aN hx
     split at hr
     ·rename_i hc
      cases hr;exact CJ rfl hx hi hu hc.1 hc.2.1 hc.2.2
     ·cases hr
    ·rename_i T sz id i n' hx
     split at hr
     ·rename_i T' s aN hh
      split at hr
      ·rename_i hc
       obtain⟨rfl,rfl,h1,h2,h3,h4⟩:=hc;obtain⟨el,he⟩:=Option.isSome_iff_exists.1 h4;cases hr;exact CI rfl hx hh hi hu h1 h2 h3 he
      ·cases hr
     ·cases hr
    ·rename_i T sz id i n' hx
     split at hr
     ·rename_i T' s aN hh
      split at hr
      ·rename_i hc
       obtain⟨rfl,rfl,h1,h2,h3,h4⟩:=hc;obtain⟨el,he⟩:=Option.isSome_iff_exists.1 h4;cases hr;exact Bq rfl hx hh hi hu h1 h2 h3 he
      ·cases hr
     ·cases hr
    ·rename_i N xs hx
     split at hr
     ·rename_i p hp
      split at hr
      ·rename_i hc
       cases hr;exact CH rfl hx hi hu hc.1 hc.2.1 hc.2.2 hp
      ·cases hr
     ·cases hr
    ·cases hr
   ·rename_i len e hu
    split at hr
    ·rename_i s hs
     split at hr
     ·rename_i hc
      split at hr
      ·rename_i sz id i off hx
       split at hr
       ·rename_i T s' aN hh
        split at hr
        ·rename_i hc2
         obtain⟨rfl,h4⟩:=hc2;obtain⟨el,he⟩:=Option.isSome_iff_exists.1 h4;cases hr;exact CM rfl hx hh he hi hu hs hc.1 hc.2
        ·cases hr
       ·cases hr
      ·rename_i sz aN i off hx
       cases hr;exact Bt rfl hx hi hu hs hc.1 hc.2
      ·cases hr
     ·cases hr
    ·cases hr
   ·cases hr
  ·cases hr
 |index t x ix =>
  simp only[iH]at hr;split at hr
  ·rename_i k n hi
   split at hr
   ·rename_i len e hu
    split at hr
    ·rename_i s hs
     split at hr
     ·rename_i cs hx
      split at hr
      ·rename_i hc
       split at hr
       ·rename_i v hp
        cases hr;exact LY rfl hx hi hu hs hc.1 hc.2 hp
       ·cases hr
      ·cases hr
     ·cases hr
    ·cases hr
   ·rename_i hu
    split at hr
    ·rename_i s hx
     split at hr
     ·rename_i b hb
      split at hr
      ·rename_i h0
       cases hr;exact LX rfl hx hi hu h0 hb
      ·cases hr
     ·cases hr
    ·cases hr
   ·cases hr
  ·cases hr
 |extract x k =>
  simp only[iH]at hr;split at hr
  ·rename_i vs hx
   split at hr
   ·rename_i v hv
    cases hr;exact Sa rfl hx hv
   ·cases hr
  ·cases hr
 |typeAssert=>simp[iH]at hr
 |call c =>
  obtain⟨callee,args,argTypes⟩:=c;cases callee with
  |builtin b =>
   simp only[iH]at hr;split at hr
   ·split at hr
    ·rename_i x t ha ht
     rw[MJ ha,MJ ht];split at hr
     ·rename_i e hu
      split at hr
      ·rename_i aN he;cases hr;exact ahP rfl hu he
      ·split at hr
       ·rename_i n xs hx;cases hr;exact R9 rfl hu hx
       ·rename_i hx;cases hr;exact NU rfl hu hx
       ·cases hr
     ·rename_i hu
      split at hr
      ·rename_i s hx;cases hr;exact R7 rfl hu hx
      ·cases hr
     ·cases hr
    ·cases hr
   ·split at hr
    ·rename_i x y t t' ha ht
     rw[MI ha,MI ht];split at hr
     ·rename_i e
      subst e;unfold tV at hr;split at hr
      ·rename_i e he
       split at hr
       ·rename_i i hi
        split at hr
        ·rename_i z hz
         split at hr
         ·rename_i aN k rd ys hb hy
          split at hr
          ·rename_i hc
           obtain⟨h1,h2,h3,h4,h5,h6,h7⟩:=hc;cases hr;refine H8 rfl he hi hz h1 h2 hb hy (fun q hq=>by simpa using List.all_eq_true.1 h3 q hq) ?_ h5 h6 (kD h7)
           intro T s id j n hy';rw[hy']at h4;simpa[FG]using h4
          ·cases hr
         ·cases hr
        ·cases hr
       ·cases hr
      ·cases hr
     ·cases hr
    ·cases hr
   ·split at hr
    ·rename_i x y ha
     rw[MI ha];split at hr
     ·rename_i k p k' q hx hy;cases hr;exact afn rfl hx hy
     ·split at hr
      ·rename_i p q hp hq
       split at hr
       ·rename_i r' hs;cases hr;exact R4 rfl hp hq hs
       ·cases hr
      ·cases hr
    ·rename_i x y z ha
     rw[aki ha];split at hr
     ·rename_i k p k' q k'' r' hx hy hz;cases hr;exact afm rfl hx hy hz
     ·cases hr
    ·cases hr
   ·split at hr
    ·rename_i x y ha
     rw[MI ha];split at hr
     ·rename_i k p k' q hx hy;cases hr;exact afl rfl hx hy
     ·split at hr
      ·rename_i p q hp hq
       split at hr
       ·rename_i r' hs;cases hr;exact R0 rfl hp hq hs
       ·cases hr
      ·cases hr
    ·cases hr
   ·split at hr
    ·rename_i x t ha ht
     rw[MJ ha,MJ ht];split at hr
     ·rename_i e hu
      split at hr
      ·rename_i els0 he
       split at hr
       ·rename_i h0;cases hr;exact aau rfl hu he h0
       ·split at hr
        ·rename_i ti hi
         split at hr
         ·rename_i z hz
          split at hr
          ·rename_i zc hc
           split at hr
           ·rename_i T sz id a n hx
            split at hr
            ·rename_i T' s aN hh
             split at hr
             ·rename_i hcond
              obtain⟨rfl,rfl,c1,c2,c3⟩:=hcond;cases hr;exact ac2 rfl hu hi hz hc c1 hx hh c2 c3
             ·cases hr
            ·cases hr
           ·cases hr
          ·cases hr
         ·cases hr
        ·cases hr
      ·cases hr
     ·cases hr
    ·cases hr
   ·cases hr
  |_=>simp[iH]at hr
 |_=>simp[iH]at hr
end
end Mc
namespace Mc
section
variable {P:Program}
theorem SS [Bk] [Ev] {ρ ρ':Operand→AV} {d:Nat} {x:Option Operand} (h:∀y,x=some y→ρ' y=ρ y):fN ρ' d x=fN ρ d x:=by
 cases x with
 |none=>rfl
 |some y=>simp only[fN,h y rfl]
theorem ajY [Bk] [Ev] {op:Op} {ρ ρ':Operand→AV} {h:AH} {nx:Nat} (ha:∀x∈op.operands.toList,ρ' x=ρ x):iH P op ρ' h nx=iH P op ρ h nx:=by
 cases op with
 |build t parts =>
  have:(parts.toList.map fun p=>(p.1,ρ' p.2))=parts.toList.map fun p=>(p.1,ρ p.2):=List.map_congr_left fun p hp=>by
   rw[ha p.2 (by simp[Op.operands];exact⟨p.1,by simpa using hp⟩)]
  simp only[iH,this]
 |buildSlice t len parts =>
  have:(parts.toList.map fun p=>(p.1,ρ' p.2))=parts.toList.map fun p=>(p.1,ρ p.2):=List.map_congr_left fun p hp=>by
   rw[ha p.2 (by simp[Op.operands];exact⟨p.1,by simpa using hp⟩)]
  simp only[iH,this]
 |makeFunc fn first captured =>
  have e1:first.toList.map ρ'=first.toList.map ρ:=List.map_congr_left fun p hp=>ha p (by simp[Op.operands];exact .inl (by simpa using hp))
  have e2:captured.toList.map ρ'=captured.toList.map ρ:=List.map_congr_left fun p hp=>ha p (by simp[Op.operands];exact .inr (by simpa using hp))
  simp only[iH,e1,e2]
 |slice t x lo hi mx =>
  have hx:=ha x (by simp[Op.operands])
  have e1:∀d,fN ρ' d lo=fN ρ d lo:=fun d=>SS fun y hy=>ha y (by subst hy;simp[Op.operands])
  have e2:∀d,fN ρ' d hi=fN ρ d hi:=fun d=>SS fun y hy=>ha y (by subst hy;simp[Op.operands])
  have e3:∀y,hi=some y→ρ' y=ρ y:=fun y hy=>ha y (by subst hy;simp[Op.operands])
  have e4:∀y,mx=some y→ρ' y=ρ y:=fun y hy=>ha y (by subst hy;simp[Op.operands])
  simp only[iH,hx,e1,e2];cases mx with
  |none=>rfl
  |some m =>
   cases lo with
   |some l =>
    cases hi with
    |none=>rfl
    |some k =>
     have q1:=e1 0;have q2:∀n,fN ρ' n (some k)=fN ρ n (some k):=fun n=>e2 n
     have q3:∀n,fN ρ' n (some m)=fN ρ n (some m):=fun n=>SS fun y hy=>e4 y hy
     simp only[q1,q2,q3]
   |none =>
    cases hi with
    |none=>rfl
    |some k=>simp only[e3 k rfl,e4 m rfl]
 |call c =>
  obtain⟨callee,args,argTypes⟩:=c;cases callee with
  |builtin b =>
   have e:∀x∈args.toList,ρ' x=ρ x:=fun x hx=>ha x (by simp[Op.operands,Call.operands];simpa using hx)
   cases b<;>simp only[iH]
   all_goals (rcases hargs:args.toList with _|⟨x,_|⟨y,_|⟨z,_|⟨u,r⟩⟩⟩⟩<;>rw[hargs]at e<;>simp only[List.mem_cons,List.not_mem_nil,or_false,forall_eq_or_imp,forall_eq,implies_true,false_implies]at e<;>(try simp only[e])<;>(rcases argTypes.toList with _|⟨t1,_|⟨t2,_|⟨t3,q⟩⟩⟩<;>(try simp only[e])))
  |_=>simp[iH]
 |pick c x y =>
  have h1:=ha c (by simp[Op.operands]);have h2:=ha x (by simp[Op.operands]);have h3:=ha y (by simp[Op.operands])
  simp only[iH,h1,h2,h3]
 |store t x y =>
  have h1:=ha x (by simp[Op.operands]);have h2:=ha y (by simp[Op.operands])
  simp only[iH,h1,h2]
 |binOp bop t x y ty =>
  have h1:=ha x (by simp[Op.operands]);have h2:=ha y (by simp[Op.operands])
  simp only[iH,h1,h2]
 |makeSlice t x y =>
  have h1:=ha x (by simp[Op.operands]);have h2:=ha y (by simp[Op.operands])
  simp only[iH,h1,h2]
 |range=>rfl
 |next=>rfl
 |insert=>rfl
 |lookup=>rfl
 |indexAddr t x y =>
  have h1:=ha x (by simp[Op.operands]);have h2:=ha y (by simp[Op.operands])
  simp only[iH,h1,h2]
 |index t x y =>
  have h1:=ha x (by simp[Op.operands]);have h2:=ha y (by simp[Op.operands])
  simp only[iH,h1,h2]
 |move x=>have h1:=ha x (by simp[Op.operands]);simp only[iH,h1]
 |assign x=>have h1:=ha x (by simp[Op.operands]);simp only[iH,h1]
 |box e x=>have h1:=ha x (by simp[Op.operands]);simp only[iH,h1]
 |load t x=>have h1:=ha x (by simp[Op.operands]);simp only[iH,h1]
 |nilCheck x=>have h1:=ha x (by simp[Op.operands]);simp only[iH,h1]
 |unOp u t x=>have h1:=ha x (by simp[Op.operands]);simp only[iH,h1]
 |convert s d x=>have h1:=ha x (by simp[Op.operands]);simp only[iH,h1]
 |makeInterface t x=>have h1:=ha x (by simp[Op.operands]);simp only[iH,h1]
 |fieldAddr t x k=>have h1:=ha x (by simp[Op.operands]);simp only[iH,h1]
 |field t x k=>have h1:=ha x (by simp[Op.operands]);simp only[iH,h1]
 |extract x k=>have h1:=ha x (by simp[Op.operands]);simp only[iH,h1]
 |typeAssert=>rfl
 |_=>simp[iH]
theorem pB [Bk] [Ev] {h h':AH} {nx:Nat} (e:h' nx=h nx):jY h' nx=jY h nx:=by unfold jY;rw[e]
theorem AD [Bk] [Ev] {h h':AH} {x:AV} (e:∀id∈pC x,h' id=h id):gN h' x=gN h x:=by
 cases x<;>simp only[gN]
 rename_i T s id i n;rw[e id (by simp[pC])]
theorem af1 [Bk] [Ev] {h h':AH} {e sz:Nat} {x:AV} (hh:∀id∈pC x,h' id=h id):tS h' e sz x=tS h e sz x:=by
 cases x<;>simp only[tS]
 rename_i T s id i n;cases i<;>simp only[tS]
 rw[hh id (by simp[pC])]
theorem Pj [Bk] [Ev] {h:AH} {e sz:Nat} {x:AV} {aN:List (List AV)} {k:List (Nat×bY)} {rd:List Nat} (hb:tS h e sz x=some (aN,k,rd)):rd=pC x∧k.map (·.1)=pC x:=by
 unfold tS at hb;split at hb
 ·simp only[Option.some.injEq,Prod.mk.injEq]at hb
  obtain⟨rfl,rfl,rfl⟩:=hb;exact⟨rfl,rfl⟩
 ·split at hb
  ·split at hb
   ·simp only[Option.some.injEq,Prod.mk.injEq]at hb
    obtain⟨rfl,rfl,rfl⟩:=hb;exact⟨rfl,rfl⟩
   ·cases hb
  ·cases hb
 ·cases hb
theorem IB [Bk] [Ev] {t:TypeId} {x y:AV} {h h':AH} {nx:Nat} {r:AR} (hr:tV P t x y h nx=some r) (hag:∀id∈r.vF,h' id=h id):tV P t x y h' nx=some r:=by
 have key:∀(e sz:Nat) aN k rd ys,tS h e sz x=some (aN,k,rd)→(∀id∈nx::rd++pC y,h' id=h id)→gN h y=some ys→tS h' e sz x=tS h e sz x∧gN h' y=gN h y∧jY h' nx=jY h nx:=by
  intro e sz aN k rd ys hb hag hy;have h1:=(Pj hb).1
  subst h1;exact⟨af1 fun id hid=>hag id (by simp[hid]),AD fun id hid=>hag id (by simp[hid]),pB (hag nx (by simp))⟩
 unfold tV at hr ⊢;split at hr
 ·rename_i e he
  split at hr
  ·rename_i i hi
   split at hr
   ·rename_i z hz
    split at hr
    ·rename_i aN k rd ys hb hy
     split at hr
     ·rename_i hc
      cases hr;obtain⟨q1,q2,q3⟩:=key e i.size aN k rd ys hb hag hy;simp only[hi,hz,q1,q2,q3,hb,hy];rw[if_pos hc]
     ·cases hr
    ·cases hr
   ·cases hr
  ·cases hr
 ·cases hr
set_option maxHeartbeats 4000000 in
theorem ajX [Bk] [Ev] {op:Op} {ρ:Operand→AV} {h h':AH} {nx:Nat} {r:AR} (hr:iH P op ρ h nx=some r) (hag:∀id∈r.vF,h' id=h id):iH P op ρ h' nx=some r:=by
 have one:∀{id:Nat},(∀id'∈[id],h' id'=h id')→h' id=h id:=fun k=>k _ (by simp)
 cases op with
 |alloc e =>
  simp only[iH]at hr ⊢;repeat' split at hr
  all_goals (first|cases hr|skip)
  have e0:=pB (one hag)
  simp_all
 |box e x =>
  simp only[iH]at hr ⊢;repeat' split at hr
  all_goals (first|cases hr|skip)
  have e0:=pB (one hag)
  simp_all
 |buildSlice t len parts =>
  simp only[iH]at hr ⊢;repeat' split at hr
  all_goals (first|cases hr|skip)
  have e0:=pB (one hag)
  simp_all
 |makeSlice t x y =>
  simp only[iH]at hr ⊢;repeat' split at hr
  all_goals (first|cases hr|skip)
  have e0:=pB (one hag)
  simp_all
 |range=>simp[iH]at hr
 |makeMap=>simp[iH]at hr
 |next=>simp[iH]at hr
 |insert=>simp[iH]at hr
 |lookup=>simp[iH]at hr
 |load t x =>
  simp only[iH]at hr ⊢;repeat' split at hr
  all_goals (first|cases hr|skip)
  ·have e0:=one hag;simp_all
  ·simp_all
 |store t x y =>
  simp only[iH]at hr ⊢;repeat' split at hr
  all_goals (first|cases hr|skip)
  have e0:=one hag;simp_all
 |nilCheck x =>
  simp only[iH]at hr ⊢;repeat' split at hr
  all_goals (first|cases hr|skip)
  ·have e0:=one hag;simp_all
  all_goals simp_all
 |fieldAddr t x k =>
  simp only[iH]at hr ⊢;repeat' split at hr
  all_goals (first|cases hr|skip)
  ·have e0:=one hag;simp_all
  all_goals simp_all
 |indexAddr t x ix =>
  simp only[iH]at hr ⊢;repeat' split at hr
  all_goals (first|cases hr|skip)
  ·simp_all
  ·have e0:=one hag;simp_all
  ·have e0:=one hag;simp_all
  ·simp_all
  ·have e0:=one hag;simp_all
  ·simp_all
 |slice t x lo hi mx =>
  simp only[iH]at hr ⊢;split at hr
  ·repeat' split at hr
   all_goals (first|cases hr|skip)
   ·have e0:=AD (x:=ρ x) hag
    simp_all
   ·have e0:=one hag
    simp_all
   ·have e0:=one hag
    simp_all
   ·simp_all
  ·repeat' split at hr
   all_goals (first|cases hr|skip)
   ·simp_all
   ·have e0:=one hag;simp_all
   ·simp_all
 |call c =>
  obtain⟨callee,args,argTypes⟩:=c;cases callee with
  |builtin b =>
   cases b with
   |append =>
    simp only[iH]at hr ⊢;split at hr
    ·split at hr
     ·rename_i x y t t' h1 h2 e
      first|(rw[if_pos e];exact IB hr hag)|(rw[h1,h2];simp only;rw[if_pos e];exact IB hr hag)
     ·cases hr
    ·cases hr
   |len =>
    simp only[iH]at hr ⊢;repeat' split at hr
    all_goals (first|cases hr|skip)
    ·rename_i x t h1 h2 _ e hu _ aN he
     have e0:=AD (x:=ρ x) hag
     simp_all
    ·simp_all [gN]
    ·simp_all [gN]
    ·simp_all
   |max=>exact hr
   |min=>exact hr
   |clear =>
    simp only[iH]at hr ⊢;repeat' split at hr
    all_goals (first|cases hr|skip)
    ·rename_i x t h1 h2 _ e hu _ aN he _
     have e0:=AD (x:=ρ x) hag
     simp_all
    ·have e0:=one hag
     simp_all [gN]
   |_=>simp[iH]at hr
  |_=>simp[iH]at hr
 |_=>exact hr
theorem af5 [Bk] [Ev] {op:Op} {ρ:Operand→AV} {h:AH} {nx:Nat} {r:AR} (hr:iH P op ρ h nx=some r):∀id∈r.bG.map (·.1),id∈r.vF:=by
 cases op with
 |call c =>
  obtain⟨callee,args,argTypes⟩:=c;cases callee with
  |builtin b =>
   cases b with
   |append =>
    simp only[iH]at hr;split at hr
    ·split at hr
     ·unfold tV at hr
      repeat' split at hr
      all_goals (first|cases hr|skip)
      rename_i hb _ _;obtain⟨q1,q2⟩:=Pj hb;intro id hid;simp only[List.map_append,List.mem_append,q2,List.map_cons,List.map_nil,List.mem_singleton]at hid;rcases hid with h|h
      ·simp[q1,h]
      ·simp[h]
     ·cases hr
    ·cases hr
   |_ =>
    simp only[iH]at hr;try (repeat' split at hr)
    all_goals (first|cases hr|skip)
    all_goals simp
  |_=>simp[iH]at hr
 |_ =>
  simp only[iH]at hr;try (repeat' split at hr)
  all_goals (first|cases hr|skip)
  all_goals simp
end
end Mc
end Go.Proofs.YtnepgggkgnckcaaGreat
