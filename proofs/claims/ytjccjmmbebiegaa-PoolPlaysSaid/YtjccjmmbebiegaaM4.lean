/-
 A machine of plain data beside the model: numbers by names: sums of products, and what bounds them. No program in sight.
 A machine of plain data beside the model: what a value of the model reads as, in a world. No program in sight.
 A machine of plain data beside the model: data by names, and what they stand for. No program in sight.
 A machine of plain data beside the model: its operations, each shown to be the model's. No program in sight.
 A machine of plain data beside the model: one operation. No program in sight.
 A machine of plain data beside the model: addresses, structs, slices, append. No program in sight.
-/
import Derived.WalkKit
import Derived.Orders
import Derived.Maps.AppendAt
import Derived.Below
import Derived.Great.BuildSlice
import Derived.Laws.MakeOwn
import Derived.Laws.CopyRow
import Derived.IntWalk
import Derived.Laws.Slices
import Derived.Laws.OwnMore
set_option linter.unusedVariables false
set_option linter.unusedSimpArgs false
namespace Go.Proofs.Ytjccjmmbebiegaa.Mc
open Go.RowKit
abbrev Poly:=List (List Nat×Int)
def mev (ρ:Nat→Int):List Nat→Int
 |[]=>1
 |i::m=>ρ i*mev ρ m
def pev (ρ:Nat→Int):Poly→Int
 |[]=>0
 |t::p=>t.2*mev ρ t.1+pev ρ p
def ltM:List Nat→List Nat→Bool
 |[],[]=>false
 |[],_::_=>true
 |_::_,[]=>false
 |a::x,b::y=>if a=b then ltM x y else decide (a<b)
def mins (i:Nat):List Nat→List Nat
 |[]=>[i]
 |j::m=>if i≤j then i::j::m else j::mins i m
def mmul:List Nat→List Nat→List Nat
 |[],y=>y
 |i::x,y=>mins i (mmul x y)
def pins (m:List Nat) (c:Int):Poly→Poly
 |[]=>if c=0 then[]else[(m,c)]
 |t::q=>if m=t.1 then(if c+t.2=0 then q else(m,c+t.2)::q)else if ltM m t.1 then(m,c)::t::q else t::pins m c q
def padd:Poly→Poly→Poly
 |[],q=>q
 |t::p,q=>pins t.1 t.2 (padd p q)
def pscale (k:Int) (p:Poly):Poly:=if k=0 then[]else p.map fun t=>(t.1,k*t.2)
def pmulT (m:List Nat) (c:Int):Poly→Poly
 |[]=>[]
 |t::q=>pins (mmul m t.1) (c*t.2) (pmulT m c q)
def pmul:Poly→Poly→Poly
 |[],_=>[]
 |t::p,q=>padd (pmulT t.1 t.2 q) (pmul p q)
def plit (n:Int):Poly:=if n=0 then[]else[([],n)]
def psub (p q:Poly):Poly:=padd (pscale (-1) q) p
def pvar (i:Nat):Poly:=[([i],1)]
section
variable {ρ:Nat→Int}
theorem mev_mins (i:Nat):∀m,mev ρ (mins i m)=ρ i*mev ρ m
 |[]=>rfl
 |j::m=>by
  unfold mins
  split
  ·rfl
  ·simp only[mev,mev_mins i m]
   rw[←Int.mul_assoc,←Int.mul_assoc,Int.mul_comm (ρ j)]
theorem mev_mmul:∀x y,mev ρ (mmul x y)=mev ρ x*mev ρ y
 |[],y=>by simp[mmul,mev]
 |i::x,y=>by rw[mmul,mev_mins,mev_mmul x y,mev,Int.mul_assoc]
theorem pev_pins (m:List Nat) (c:Int):∀q,pev ρ (pins m c q)=c*mev ρ m+pev ρ q
 |[]=>by
  unfold pins
  split
  ·rename_i h;subst h;simp[pev]
  ·rfl
 |t::q=>by
  unfold pins
  split
  ·rename_i h
   subst h
   split
   ·rename_i h
    simp only[pev]
    have:c*mev ρ t.1+(t.2*mev ρ t.1+pev ρ q)=(c+t.2)*mev ρ t.1+pev ρ q:=by rw[Int.add_mul];omega
    rw[this,h];simp
   ·simp only[pev];rw[Int.add_mul];omega
  ·split
   ·rfl
   ·simp only[pev,pev_pins m c q];omega
theorem pev_padd:∀p q,pev ρ (padd p q)=pev ρ p+pev ρ q
 |[],q=>by simp[padd,pev]
 |t::p,q=>by rw[padd,pev_pins,pev_padd p q,pev];omega
theorem pev_map (k:Int):∀p:Poly,pev ρ (p.map fun t=>(t.1,k*t.2))=k*pev ρ p
 |[]=>by simp[pev]
 |t::p=>by
  simp only[List.map_cons,pev,pev_map k p]
  rw[Int.mul_add,Int.mul_assoc]
theorem pev_pscale (k:Int) (p:Poly):pev ρ (pscale k p)=k*pev ρ p:=by
 unfold pscale
 split
 ·rename_i h;subst h;simp[pev]
 ·exact pev_map k p
theorem pev_pmulT (m:List Nat) (c:Int):∀q,pev ρ (pmulT m c q)=c*mev ρ m*pev ρ q
 |[]=>by simp[pmulT,pev]
 |t::q=>by
  rw[pmulT,pev_pins,pev_pmulT m c q,mev_mmul,pev,Int.mul_add]
  congr 1
  rw[Int.mul_assoc,Int.mul_assoc,←Int.mul_assoc t.2,Int.mul_comm t.2,Int.mul_assoc]
theorem pev_pmul:∀p q,pev ρ (pmul p q)=pev ρ p*pev ρ q
 |[],q=>by simp[pmul,pev]
 |t::p,q=>by rw[pmul,pev_padd,pev_pmulT,pev_pmul p q,pev,Int.add_mul]
theorem pev_plit (n:Int):pev ρ (plit n)=n:=by
 unfold plit
 split
 ·rename_i h;rw[h];rfl
 ·simp[pev,mev]
theorem pev_psub (p q:Poly):pev ρ (psub p q)=pev ρ p-pev ρ q:=by
 rw[psub,pev_padd,pev_pscale];omega
end
inductive AV where
 |c (v:Value)
 |undef
 |emp
 |agg (cs:List AV)
 |tup (vs:List AV)
 |lit (sz:Nat) (els:List (List AV))
 |own (T sz id i n:Nat)
 |ptr (sz id i off:Nat)
 |lptr (sz:Nat) (els:List (List AV)) (i off:Nat)
 |fn (f:Fn) (first captured:List AV)
 |ifc (t:TypeId) (v:AV)
 |e (p:Poly)
 |row (n:Poly) (xs:List Poly)
 |o (i:Nat)
 |yld (id:Nat)
 |mpv (id:Nat)
 |view (T sz id i n:Nat)
 |any
 |seq (sz base:Nat) (ups:List (Poly×List AV)) (tail:List (List AV))
 |sptr (sz base:Nat) (ups:List (Poly×List AV)) (tail:List (List AV)) (p:Poly) (off:Nat)
 |sown (T sz id:Nat) (n:Poly)
 |optr (sz id:Nat) (p:Poly) (off:Nat)
 |junk
instance:Inhabited AV:=⟨.undef⟩
def evT (ρ:Nat→Int):List Nat×Int→Int
 |([],c)=>c
 |([i],c)=>if c=1 then ρ i else if c=-1 then -ρ i else c*ρ i
 |t=>t.2*mev ρ t.1
def evG (ρ:Nat→Int):Int→Poly→Int
 |a,[]=>a
 |a,t::p=>evG ρ (match t with
  |([i],c)=>if c=1 then a+ρ i else if c=-1 then a-ρ i else a+c*ρ i
  |t=>a+t.2*mev ρ t.1) p
def evP (ρ:Nat→Int):Poly→Int
 |[]=>0
 |t::p=>evG ρ (evT ρ t) p
theorem evT_eq (ρ:Nat→Int) (t:List Nat×Int):evT ρ t=t.2*mev ρ t.1:=by
 unfold evT
 split
 ·simp[mev]
 ·split
  ·rename_i h;subst h;simp[mev]
  ·split
   ·rename_i h;subst h;simp[mev]
   ·simp[mev]
 ·rfl
theorem evG_eq (ρ:Nat→Int):∀(p:Poly) (a:Int),evG ρ a p=a+pev ρ p
 |[],a=>by simp[evG,pev]
 |t::p,a=>by
  have h:=evT_eq ρ t
  simp only[evG,pev,evG_eq ρ p]
  split
  ·simp only[evT]at h
   simp only[mev,Int.mul_one]at h ⊢
   split
   ·rename_i k;subst k;omega
   ·split
    ·rename_i k;subst k;omega
    ·omega
  ·omega
theorem evP_eq (ρ:Nat→Int) (p:Poly):evP ρ p=pev ρ p:=by
 cases p with
 |nil=>rfl
 |cons t p=>simp only[evP,pev,evG_eq,evT_eq]
def appT {α:Type} (l:List α):List α→List α
 |[]=>l
 |x::t=>l++x::t
theorem appT_eq {α:Type} (l t:List α):appT l t=l++t:=by cases t<;>simp[appT]
def denW (ρ:Nat→Int) (vl:Nat→Value) (sq:Nat→List (List AV)):Nat→AV→AV
 |0,x=>x
 |k+1,x=>match x with
  | .e p=>.c (.int .i64 (evP ρ p))
  | .o i=>.c (vl i)
  | .agg cs=>.agg (cs.map (denW ρ vl sq k))
  | .tup cs=>.tup (cs.map (denW ρ vl sq k))
  | .lit sz els=>.lit sz (els.map (·.map (denW ρ vl sq k)))
  | .seq sz base ups tail=>.lit sz (appT ((ups.map fun q=>(q.1,q.2.map (denW ρ vl sq k))).foldl (fun l q=>l.set (evP ρ q.1).toNat q.2) (sq base)) (tail.map (·.map (denW ρ vl sq k))))
  | .ifc t v=>.ifc t (denW ρ vl sq k v)
  |x=>x
def noUps:Nat→AV→Bool
 |0,_=>true
 |k+1,x=>match x with
  | .agg cs=>cs.all (noUps k)
  | .tup cs=>cs.all (noUps k)
  | .lit _ els=>els.all (·.all (noUps k))
  | .seq _ _ ups tail=>ups.isEmpty&&tail.all (·.all (noUps k))
  | .ifc _ v=>noUps k v
  |_=>true
inductive Cl:AV→Prop
 |c (v:Value):Cl (.c v)
 |undef:Cl .undef
 |emp:Cl .emp
 |any:Cl .any
 |agg (cs:List AV) (h:∀x∈cs,Cl x):Cl (.agg cs)
 |tup (cs:List AV) (h:∀x∈cs,Cl x):Cl (.tup cs)
 |lit (sz:Nat) (els:List (List AV)) (h:∀e∈els,∀x∈e,Cl x):Cl (.lit sz els)
 |ifc (t:TypeId) (x:AV) (h:Cl x):Cl (.ifc t x)
theorem Cl.den {ρ:Nat→Int} {vl:Nat→Value} {sq:Nat→List (List AV)} {x:AV} (h:Cl x):∀k,denW ρ vl sq k x=x:=by
 have mp:∀(l:List AV) (g:AV→AV),(∀x∈l,g x=x)→l.map g=l:=fun l g hg=>by
  conv=>rhs;rw[←List.map_id l]
  exact List.map_congr_left hg
 induction h with
 |agg cs h ih=>intro k;cases k with
  |zero=>rfl
  |succ k=>simp only[denW];rw[mp cs _ fun x hx=>ih x hx k]
 |tup cs h ih=>intro k;cases k with
  |zero=>rfl
  |succ k=>simp only[denW];rw[mp cs _ fun x hx=>ih x hx k]
 |lit sz els h ih=>intro k;cases k with
  |zero=>rfl
  |succ k =>
   simp only[denW]
   congr 1
   conv=>rhs;rw[←List.map_id els]
   exact List.map_congr_left fun e he=>mp e _ fun x hx=>ih e he x hx k
 |ifc t x h ih=>intro k;cases k with
  |zero=>rfl
  |succ k=>simp only[denW];rw[ih k]
 |_=>intro k;cases k<;>rfl
class Bk where
 vars:List (Int×Int):=[]
 facts:List (Poly×Int×Int):=[]
 defs:List (Nat×Poly×Poly×Poly):=[]
 ext:List (Nat×List Poly×List Poly):=[]
 yes:List Nat:=[]
 extV:List (Nat×List AV×AV):=[]
 glob:List (Nat×List Int):=[]
 kinds:List Bool:=[]
 lens:List (Nat×Poly):=[]
 ats:List (Nat×Poly×List AV):=[]
 cats:List (Nat×Nat×Nat):=[]
def Bk.var [Bk] (i:Nat):Int×Int:=Bk.vars.getD i (0,0)
class Ev [Bk] where
 xs:List Int
 vars:∀i,(Bk.var i).1≤xs.getD i 0∧xs.getD i 0≤(Bk.var i).2
 facts:∀t∈Bk.facts,t.2.1≤pev (fun i=>xs.getD i 0) t.1∧pev (fun i=>xs.getD i 0) t.1≤t.2.2
 defs:∀t∈Bk.defs,(t.1=0→pev (fun i=>xs.getD i 0) t.2.2.2=(pev (fun i=>xs.getD i 0) t.2.1).tdiv (pev (fun i=>xs.getD i 0) t.2.2.1)) ∧
  (t.1=1→pev (fun i=>xs.getD i 0) t.2.2.2=(pev (fun i=>xs.getD i 0) t.2.1).tmod (pev (fun i=>xs.getD i 0) t.2.2.1)) ∧
  (t.1=2→pev (fun i=>xs.getD i 0) t.2.2.2=max (pev (fun i=>xs.getD i 0) t.2.1) (pev (fun i=>xs.getD i 0) t.2.2.1))
 vals:List Value
 ones:∀v∈vals,v.oneCell'=true
 kin:∀i b,Bk.kinds[i]?=some b→(b=true→∃s,vals.getD i (.bool false)=.string s)∧(b=false→∃c,vals.getD i (.bool false)=.bool c)
 seqs:List (List (List AV))
 slen:∀t∈Bk.lens,((seqs.getD t.1 []).length:Int)=pev (fun i=>xs.getD i 0) t.2
 sat:∀t∈Bk.ats,0≤pev (fun i=>xs.getD i 0) t.2.1∧(seqs.getD t.1 [])[(pev (fun i=>xs.getD i 0) t.2.1).toNat]?=some (t.2.2.map (denW (fun i=>xs.getD i 0) (fun i=>vals.getD i (.bool false)) (fun i=>seqs.getD i []) 12))∧t.2.2.all (noUps 12)=true
 spl:∀l∈seqs,∀r∈l,∀x∈r,Cl x
 cat:∀t∈Bk.cats,seqs.getD t.2.2 []=seqs.getD t.1 []++seqs.getD t.2.1 []
def Ev.rho [Bk] [Ev]:Nat→Int:=fun i=>Ev.xs.getD i 0
def Ev.seq [Bk] [Ev] (i:Nat):List (List AV):=Ev.seqs.getD i []
def rowsOf [Bk] [Ev] (base:Nat) (ups:List (Poly×List AV)) (tail:List (List AV)):List (List AV):=ups.foldl (fun l q=>l.set (pev Ev.rho q.1).toNat q.2) (Ev.seq base)++tail
def InB [Bk] [Ev] (base:Nat) (p:Poly):Prop:=0≤pev Ev.rho p∧(pev Ev.rho p).toNat<(Ev.seq base).length
theorem rowsOf_len [Bk] [Ev] (base:Nat) (ups:List (Poly×List AV)) (tail:List (List AV)):(rowsOf base ups tail).length=(Ev.seq base).length+tail.length:=by
 unfold rowsOf
 rw[List.length_append]
 congr 1
 have:∀(ups:List (Poly×List AV)) (l:List (List AV)),(ups.foldl (fun l q=>l.set (pev Ev.rho q.1).toNat q.2) l).length=l.length:=by
  intro ups
  induction ups with
  |nil=>intro l;rfl
  |cons q ups ih=>intro l;rw[List.foldl_cons,ih,List.length_set]
 exact this ups _
def den [Bk] [Ev] (k:Nat) (x:AV):AV:=denW Ev.rho (fun i=>Ev.vals.getD i (.bool false)) Ev.seq k x
theorem Ev.seq_cl [Bk] [Ev] (i:Nat):∀r∈Ev.seq i,∀x∈r,Cl x:=by
 unfold Ev.seq
 rw[List.getD]
 cases h:(Ev.seqs)[i]? with
 |none=>intro r hr;exact absurd hr List.not_mem_nil
 |some l=>exact Ev.spl l (List.mem_of_getElem? h)
theorem den_seq [Bk] [Ev] (k sz base:Nat) (ups:List (Poly×List AV)) (tail:List (List AV)):den (k+1) (.seq sz base ups tail)=.lit sz ((rowsOf base ups tail).map (·.map (den k))):=by
 have hb:(Ev.seq base).map (·.map (den k))=Ev.seq base:=by
  conv=>rhs;rw[←List.map_id (Ev.seq base)]
  refine List.map_congr_left fun e he=>?_
  show e.map (den k)=id e
  conv=>rhs;rw[id,←List.map_id e]
  exact List.map_congr_left fun x hx=>(Ev.seq_cl base e he x hx).den k
 have hf:∀(ups:List (Poly×List AV)) (l:List (List AV)),(ups.map fun q=>(q.1,q.2.map (den k))).foldl (fun l q=>l.set (evP Ev.rho q.1).toNat q.2) (l.map (·.map (den k)))=(ups.foldl (fun l q=>l.set (pev Ev.rho q.1).toNat q.2) l).map (·.map (den k)):=by
  intro ups
  induction ups with
  |nil=>intro l;rfl
  |cons q ups ih =>
   intro l
   simp only[List.map_cons,List.foldl_cons]
   rw[←ih,List.map_set,evP_eq]
 show AV.lit sz (appT ((ups.map fun q=>(q.1,q.2.map (den k))).foldl (fun l q=>l.set (evP Ev.rho q.1).toNat q.2) (Ev.seq base)) (tail.map (·.map (den k))))=_
 rw[appT_eq]
 unfold rowsOf
 rw[List.map_append,←hf,hb]
def Ev.val [Bk] [Ev] (i:Nat):Value:=Ev.vals.getD i (.bool false)
theorem Ev.val_one [Bk] [Ev] (i:Nat):(Ev.val i).oneCell'=true:=by
 unfold Ev.val
 rw[List.getD]
 cases h:(Ev.vals)[i]? with
 |none=>rfl
 |some v=>exact Ev.ones v (List.mem_of_getElem? h)
def imul (a b:Int×Int):Int×Int:=(min (min (a.1*b.1) (a.1*b.2)) (min (a.2*b.1) (a.2*b.2)),max (max (a.1*b.1) (a.1*b.2)) (max (a.2*b.1) (a.2*b.2)))
theorem mul_up {x a b y:Int} (h1:a≤x) (h2:x≤b):x*y≤max (a*y) (b*y):=by
 rcases Int.le_total 0 y with h|h
 ·exact Int.le_trans (Int.mul_le_mul_of_nonneg_right h2 h) (Int.le_max_right _ _)
 ·exact Int.le_trans (Int.mul_le_mul_of_nonpos_right h1 h) (Int.le_max_left _ _)
theorem mul_lo {x a b y:Int} (h1:a≤x) (h2:x≤b):min (a*y) (b*y)≤x*y:=by
 rcases Int.le_total 0 y with h|h
 ·exact Int.le_trans (Int.min_le_left _ _) (Int.mul_le_mul_of_nonneg_right h1 h)
 ·exact Int.le_trans (Int.min_le_right _ _) (Int.mul_le_mul_of_nonpos_right h2 h)
theorem imul_ok {a b:Int×Int} {x y:Int} (hx:a.1≤x∧x≤a.2) (hy:b.1≤y∧y≤b.2):(imul a b).1≤x*y∧x*y≤(imul a b).2:=by
 have u:=mul_up (y:=y) hx.1 hx.2
 have l:=mul_lo (y:=y) hx.1 hx.2
 have u1:=mul_up (y:=a.1) hy.1 hy.2
 have l1:=mul_lo (y:=a.1) hy.1 hy.2
 have u2:=mul_up (y:=a.2) hy.1 hy.2
 have l2:=mul_lo (y:=a.2) hy.1 hy.2
 rw[Int.mul_comm b.1,Int.mul_comm b.2,Int.mul_comm y]at u1 l1 u2 l2
 unfold imul
 simp only
 generalize x*y=z at *
 omega
def bndM [Bk]:List Nat→Int×Int
 |[]=>(1,1)
 |i::m=>imul (Bk.var i) (bndM m)
theorem bndM_ok [Bk] [Ev]:∀m,(bndM m).1≤mev Ev.rho m∧mev Ev.rho m≤(bndM m).2
 |[]=>⟨Int.le_refl _,Int.le_refl _⟩
 |i::m=>imul_ok (Ev.vars i) (bndM_ok m)
def bndS [Bk]:Poly→Int×Int
 |[]=>(0,0)
 |t::p=>let b:=imul (t.2,t.2) (bndM t.1);let r:=bndS p;(b.1+r.1,b.2+r.2)
theorem bndS_ok [Bk] [Ev]:∀p,(bndS p).1≤pev Ev.rho p∧pev Ev.rho p≤(bndS p).2
 |[]=>⟨Int.le_refl _,Int.le_refl _⟩
 |t::p=>by
  have h1:=imul_ok (a:=(t.2,t.2)) (x:=t.2) ⟨Int.le_refl _,Int.le_refl _⟩ (bndM_ok t.1)
  have h2:=bndS_ok p
  simp only[bndS,pev]
  omega
def narrow (p:Poly):List (Poly×Int×Int)→Int×Int→Int×Int
 |[],b=>b
 |t::l,b=>narrow p l (if t.1=p then(max b.1 t.2.1,min b.2 t.2.2)else if pscale (-1) t.1=p then(max b.1 (-t.2.2),min b.2 (-t.2.1))else b)
theorem narrow_ok {ρ:Nat→Int} (p:Poly):∀(l:List (Poly×Int×Int)) (b:Int×Int),(∀t∈l,t.2.1≤pev ρ t.1∧pev ρ t.1≤t.2.2)→b.1≤pev ρ p∧pev ρ p≤b.2→(narrow p l b).1≤pev ρ p∧pev ρ p≤(narrow p l b).2
 |[],b,_,h=>h
 |t::l,b,hl,h=>by
  refine narrow_ok p l _ (fun t ht=>hl t (List.mem_cons_of_mem _ ht)) ?_
  have ht:=hl t List.mem_cons_self
  split
  ·rename_i e
   rw[e]at ht
   simp only
   omega
  ·split
   ·rename_i e
    have:=pev_pscale (ρ:=ρ) (-1) t.1
    rw[e]at this
    simp only
    omega
   ·exact h
def content:Poly→Nat
 |[]=>0
 |t::p=>Nat.gcd t.2.natAbs (content p)
def splitC:Poly→Int×Poly
 |([],c)::r=>(c,r)
 |p=>(0,p)
theorem splitC_ok {ρ:Nat→Int} (p:Poly):pev ρ p=(splitC p).1+pev ρ (splitC p).2:=by
 unfold splitC
 split
 ·simp[pev,mev]
 ·simp
def bnd [Bk] (p:Poly):Int×Int :=
 let c:=splitC p
 match c.2 with
 |[]=>(c.1,c.1)
 |q =>
  let g:=content q
  let r:=q.map fun t=>(t.1,t.2/(g:Int))
  if pscale g r=q then let b:=narrow r Bk.facts (bndS r);(c.1+g*b.1,c.1+g*b.2)
  else let b:=narrow q Bk.facts (bndS q);(c.1+b.1,c.1+b.2)
theorem bnd_ok [Bk] [Ev] (p:Poly):(bnd p).1≤pev Ev.rho p∧pev Ev.rho p≤(bnd p).2:=by
 have hs:=splitC_ok (ρ:=Ev.rho) p
 unfold bnd
 simp only
 split
 ·rename_i h
  rw[h]at hs
  simp only[pev]at hs
  simp only
  omega
 ·split
  ·rename_i h
   have e:=pev_pscale (ρ:=Ev.rho) (content (splitC p).2:Int) ((splitC p).2.map fun t=>(t.1,t.2/(content (splitC p).2:Int)))
   rw[h]at e
   have k:=narrow_ok ((splitC p).2.map fun t=>(t.1,t.2/(content (splitC p).2:Int))) Bk.facts _ Ev.facts (bndS_ok _)
   have k1:=Int.mul_le_mul_of_nonneg_left k.1 (Int.natCast_nonneg (content (splitC p).2))
   have k2:=Int.mul_le_mul_of_nonneg_left k.2 (Int.natCast_nonneg (content (splitC p).2))
   simp only
   change pev Ev.rho (splitC p).2=_*pev Ev.rho _ at e
   constructor
   ·rw[hs,e];exact Int.add_le_add_left k1 _
   ·rw[hs,e];exact Int.add_le_add_left k2 _
  ·have k:=narrow_ok (splitC p).2 Bk.facts _ Ev.facts (bndS_ok _)
   simp only
   constructor
   ·rw[hs];exact Int.add_le_add_left k.1 _
   ·rw[hs];exact Int.add_le_add_left k.2 _
def inB [Bk] (p:Poly):Bool:=let b:=bnd p;decide (-9223372036854775808≤b.1)&&decide (b.2<9223372036854775808)
theorem inB_ok [Bk] [Ev] {p:Poly} (h:inB p=true):-9223372036854775808≤pev Ev.rho p∧pev Ev.rho p<9223372036854775808:=by
 have k:=bnd_ok p
 unfold inB at h
 simp only[Bool.and_eq_true,decide_eq_true_eq]at h
 omega
def ltB [Bk] (p:Poly):Option Bool:=let b:=bnd p;if b.2<0 then some true else if 0≤b.1 then some false else none
theorem ltB_ok [Bk] [Ev] {p:Poly} {b:Bool} (h:ltB p=some b):b=decide (pev Ev.rho p<0):=by
 have k:=bnd_ok p
 unfold ltB at h
 simp only at h
 split at h
 ·cases h
  symm;rw[decide_eq_true_eq];omega
 ·split at h
  ·cases h
   symm;rw[decide_eq_false_iff_not];omega
  ·cases h
def eqB [Bk] (p:Poly):Option Bool:=let b:=bnd p;if b.2<0 then some false else if 0<b.1 then some false else if b.1=0∧b.2=0 then some true else none
theorem eqB_ok [Bk] [Ev] {p:Poly} {b:Bool} (h:eqB p=some b):b=decide (pev Ev.rho p=0):=by
 have k:=bnd_ok p
 unfold eqB at h
 simp only at h
 split at h
 ·cases h
  symm;rw[decide_eq_false_iff_not];omega
 ·split at h
  ·cases h
   symm;rw[decide_eq_false_iff_not];omega
  ·split at h
   ·cases h
    symm;rw[decide_eq_true_eq];omega
   ·cases h
def findD (k:Nat) (p q:Poly):List (Nat×Poly×Poly×Poly)→Option Poly
 |[]=>none
 |t::l=>if t.1=k∧t.2.1=p∧t.2.2.1=q then some t.2.2.2 else findD k p q l
theorem findD_ok {k:Nat} {p q r:Poly}:∀{l:List (Nat×Poly×Poly×Poly)},findD k p q l=some r→(k,p,q,r)∈l
 |[],h=>by cases h
 |t::l,h=>by
  unfold findD at h
  split at h
  ·rename_i e
   cases h
   obtain⟨rfl,rfl,rfl⟩:=e
   exact List.mem_cons_self
  ·exact List.mem_cons_of_mem _ (findD_ok h)
def nzB [Bk] (p:Poly):Bool:=let b:=bnd p;decide (b.2<0)||decide (0<b.1)
theorem nzB_ok [Bk] [Ev] {p:Poly} (h:nzB p=true):pev Ev.rho p≠0:=by
 have k:=bnd_ok p
 unfold nzB at h
 simp only[Bool.or_eq_true,decide_eq_true_eq]at h
 omega
abbrev bk0:Bk:={}
theorem ev0_vars (i:Nat):(@Bk.var bk0 i).1≤(([]:List Int).getD i 0)∧(([]:List Int).getD i 0)≤(@Bk.var bk0 i).2:=by
 show((([]:List (Int×Int)).getD i (0,0)).1≤_)∧(_≤(([]:List (Int×Int)).getD i (0,0)).2)
 simp
abbrev ev0:@Ev bk0:=@Ev.mk bk0 [] ev0_vars (fun t h=>absurd h List.not_mem_nil) (fun t h=>absurd h List.not_mem_nil) [] (fun v h=>absurd h List.not_mem_nil) (fun i b h=>by cases h) [] (fun t h=>absurd h List.not_mem_nil) (fun t h=>absurd h List.not_mem_nil) (fun l h=>absurd h List.not_mem_nil) (fun t h=>absurd h List.not_mem_nil)
end Go.Proofs.Ytjccjmmbebiegaa.Mc
set_option linter.unusedVariables false
set_option linter.unusedSimpArgs false
namespace Go.Proofs.Ytjccjmmbebiegaa.Mc
open Go.RowKit
def AV.one:AV→Bool
 | .c v=>v.oneCell'
 | .undef | .agg _ | .tup _ | .junk=>false
 |_=>true
inductive St where
 |no|dead|virt|at (b:Nat)
def at2 (els:List (List AV)) (i j:Nat):Option AV:=(els[i]?).bind (·[j]?)
def rowSize (w:World) (b:Nat):Nat:=match w.heap[b]? with|some (.cells c _ _)=>c.size|_=>0
inductive RdL [Bk] [Ev] (A:Nat→Prop) (w:World):AV→Value→Prop
 |c (v:Value):RdL A w (.c v) v
 |undef:RdL A w .undef Go.undef
 |emp (a:Option Addr):RdL A w .emp (.slice a 0 0)
 |agg (cs:List AV) (vs:Array Value) (hl:vs.size=cs.length) (h1:∀(i:Nat) (x:AV),cs[i]?=some x→x.one=true) (h:∀(i:Nat) (x:AV),cs[i]?=some x→RdL A w x (vs.getD i Go.undef)):RdL A w (.agg cs) (.agg vs)
 |tup (cs:List AV) (vs:Array Value) (hl:vs.size=cs.length) (h:∀(i:Nat) (x:AV),cs[i]?=some x→RdL A w x (vs.getD i Go.undef)):RdL A w (.tup cs) (.tuple vs)
 |lit (sz:Nat) (els:List (List AV)) (b off cap:Nat) (vs:Nat→Nat→Value) (hA:¬ A b) (hb:b<w.heap.size) (hc:els.length≤cap∧cap≤maxLen) (hsz:∀e∈els,e.length=sz)
   (h1:∀(i j:Nat) (x:AV),at2 els i j=some x→x.one=true) (hv:∀(i j:Nat) (x:AV),at2 els i j=some x→w.cell? ⟨b,off+(i*sz+j),none⟩=some (vs i j)) (h:∀(i j:Nat) (x:AV),at2 els i j=some x→RdL A w x (vs i j)) :
   RdL A w (.lit sz els) (.slice (some ⟨b,off,none⟩) els.length cap)
 |lit0 (sz:Nat) (a:Option Addr) (cap:Nat) (hm:cap≤maxLen):RdL A w (.lit sz []) (.slice a 0 cap)
 |lptr (sz:Nat) (els:List (List AV)) (i0 j0 b off:Nat) (vs:Nat→Nat→Value) (hA:¬ A b) (hb:b<w.heap.size) (hsz:∀e∈els,e.length=sz)
   (h1:∀(i j:Nat) (x:AV),at2 els i j=some x→x.one=true) (hv:∀(i j:Nat) (x:AV),at2 els i j=some x→w.cell? ⟨b,off+(i*sz+j),none⟩=some (vs i j)) (h:∀(i j:Nat) (x:AV),at2 els i j=some x→RdL A w x (vs i j)) :
   RdL A w (.lptr sz els i0 j0) (.pointer (some ⟨b,off+(i0*sz+j0),none⟩))
 |fn (f:Fn) (xs ys:List AV) (vs us:Array Value) (hl:vs.size=xs.length) (hk:us.size=ys.length) (h:∀(i:Nat) (x:AV),xs[i]?=some x→RdL A w x (vs.getD i Go.undef)) (g:∀(i:Nat) (x:AV),ys[i]?=some x→RdL A w x (us.getD i Go.undef)) :
   RdL A w (.fn f xs ys) (.func f vs us)
 |ifc (t:TypeId) (x:AV) (v:Value) (h:RdL A w x v):RdL A w (.ifc t x) (.iface t v)
 |e (p:Poly):RdL A w (.e p) (.int .i64 (pev Ev.rho p))
 |row (n:Poly) (xs:List Poly) (b off len cap:Nat) (hn:pev Ev.rho n=len) (hc:len≤cap) (hA:¬ A b) (hb:b<w.heap.size) (hv:∀(j:Nat) (p:Poly),xs[j]?=some p→j<len→w.cell? ⟨b,off+j,none⟩=some (.int .i64 (pev Ev.rho p))) :
   RdL A w (.row n xs) (.slice (some ⟨b,off,none⟩) len cap)
 |row0 (n:Poly) (xs:List Poly) (a:Option Addr) (cap:Nat) (hn:pev Ev.rho n=0):RdL A w (.row n xs) (.slice a 0 cap)
 |o (i:Nat):RdL A w (.o i) (Ev.val i)
 |any (v:Value) (h1:v.oneCell'=true):RdL A w .any v
 |seq (sz base:Nat) (ups:List (Poly×List AV)) (tail:List (List AV)) (v:Value) (hin:∀q∈ups,InB base q.1) (h1:v.oneCell'=true) (h:RdL A w (.lit sz (rowsOf base ups tail)) v):RdL A w (.seq sz base ups tail) v
 |sptr (sz base:Nat) (ups:List (Poly×List AV)) (tail:List (List AV)) (p:Poly) (off:Nat) (v:Value) (hin:∀q∈ups,InB base q.1) (h1:v.oneCell'=true) (hp:0≤pev Ev.rho p) (h:RdL A w (.lptr sz (rowsOf base ups tail) (pev Ev.rho p).toNat off) v):RdL A w (.sptr sz base ups tail p off) v
 |junk (v:Value):RdL A w .junk v
theorem RdL.one [Bk] [Ev] {A:Nat→Prop} {w:World} {x:AV} {v:Value} (h:RdL A w x v) (h1:x.one=true):v.oneCell'=true:=by
 cases h<;>first|exact h1|rfl|exact Ev.val_one _|assumption|(simp[AV.one]at h1)
theorem RdL.mono [Bk] [Ev] {A A':Nat→Prop} {w w':World} (hs:w.heap.size≤w'.heap.size) (hA:∀b,b<w.heap.size→¬ A b→¬ A' b∧w'.heap[b]?=w.heap[b]?) {x:AV} {v:Value} (h:RdL A w x v):RdL A' w' x v:=by
 have hcell:∀b o,b<w.heap.size→¬ A b→w'.cell? ⟨b,o,none⟩=w.cell? ⟨b,o,none⟩:=fun b o hb hn=>World.cell?_of_block (hA b hb hn).2
 induction h with
 |c v=>exact .c v
 |undef=>exact .undef
 |emp a=>exact .emp a
 |agg cs vs hl h1 _ ih=>exact .agg cs vs hl h1 ih
 |tup cs vs hl _ ih=>exact .tup cs vs hl ih
 |lit sz els b off cap vs hm hb hc hsz h1 hv _ ih =>
  exact .lit sz els b off cap vs (hA b hb hm).1 (Nat.lt_of_lt_of_le hb hs) hc hsz h1 (fun i j x hx=>(hcell b _ hb hm).trans (hv i j x hx)) ih
 |lit0 sz a cap hm=>exact .lit0 sz a cap hm
 |lptr sz els i0 j0 b off vs hm hb hsz h1 hv _ ih =>
  exact .lptr sz els i0 j0 b off vs (hA b hb hm).1 (Nat.lt_of_lt_of_le hb hs) hsz h1 (fun i j x hx=>(hcell b _ hb hm).trans (hv i j x hx)) ih
 |fn f xs ys vs us hl hk _ _ ih1 ih2=>exact .fn f xs ys vs us hl hk ih1 ih2
 |ifc t x v _ ih=>exact .ifc t x v ih
 |e p=>exact .e p
 |row n xs b off len cap hn hc hm hb hv=>exact .row n xs b off len cap hn hc (hA b hb hm).1 (Nat.lt_of_lt_of_le hb hs) fun j p hx hj=>(hcell b _ hb hm).trans (hv j p hx hj)
 |row0 n xs a cap hn=>exact .row0 n xs a cap hn
 |o i=>exact .o i
 |any v h1=>exact .any v h1
 |seq sz base ups tail v hin h1 _ ih=>exact .seq sz base ups tail v hin h1 ih
 |sptr sz base ups tail p off v hin h1 hp _ ih=>exact .sptr sz base ups tail p off v hin h1 hp ih
 |junk v=>exact .junk v
def Av (m:Nat→St) (A:Nat→Prop):Nat→Prop:=fun b=>A b∨∃id,m id=.at b
inductive Rd [Bk] [Ev] (m:Nat→St) (A:Nat→Prop) (w:World):AV→Value→Prop
 |pure (x:AV) (v:Value) (h:RdL (Av m A) w x v):Rd m A w x v
 |agg (cs:List AV) (vs:Array Value) (hl:vs.size=cs.length) (h1:∀(i:Nat) (x:AV),cs[i]?=some x→x.one=true) (h:∀(i:Nat) (x:AV),cs[i]?=some x→Rd m A w x (vs.getD i Go.undef)):Rd m A w (.agg cs) (.agg vs)
 |tup (cs:List AV) (vs:Array Value) (hl:vs.size=cs.length) (h:∀(i:Nat) (x:AV),cs[i]?=some x→Rd m A w x (vs.getD i Go.undef)):Rd m A w (.tup cs) (.tuple vs)
 |own (T sz id i n b cap:Nat) (hm:m id=.at b) (hb:b<w.heap.size) (hn:n≤cap) (hc:cap≤maxLen) (hr:(i+cap)*sz=rowSize w b):Rd m A w (.own T sz id i n) (.slice (some ⟨b,i*sz,none⟩) n cap)
 |ownv (T sz id i:Nat) (a:Option Addr) (hm:m id=.virt):Rd m A w (.own T sz id i 0) (.slice a 0 0)
 |ownd (T sz id i n:Nat) (a:Option Addr) (n' cap:Nat) (hm:m id=.dead):Rd m A w (.own T sz id i n) (.slice a n' cap)
 |ptr (sz id i off b:Nat) (hm:m id=.at b) (hb:b<w.heap.size):Rd m A w (.ptr sz id i off) (.pointer (some ⟨b,i*sz+off,none⟩))
 |ptrd (sz id i off:Nat) (a:Option Addr) (hm:m id=.dead):Rd m A w (.ptr sz id i off) (.pointer a)
 |fn (f:Fn) (xs ys:List AV) (vs us:Array Value) (hl:vs.size=xs.length) (hk:us.size=ys.length) (h:∀(i:Nat) (x:AV),xs[i]?=some x→Rd m A w x (vs.getD i Go.undef)) (g:∀(i:Nat) (x:AV),ys[i]?=some x→Rd m A w x (us.getD i Go.undef)) :
   Rd m A w (.fn f xs ys) (.func f vs us)
 |ifc (t:TypeId) (x:AV) (v:Value) (h:Rd m A w x v):Rd m A w (.ifc t x) (.iface t v)
 |yld (id b:Nat) (hm:m id=.at b):Rd m A w (.yld id) (.func (.yield b) #[] #[])
 |yldd (id b:Nat) (hm:m id=.dead):Rd m A w (.yld id) (.func (.yield b) #[] #[])
 |mpv (id b:Nat) (hm:m id=.at b):Rd m A w (.mpv id) (.map (some b))
 |mpvd (id b:Nat) (hm:m id=.dead):Rd m A w (.mpv id) (.map (some b))
 |view (T sz id i n b cap:Nat) (hm:m id=.at b):Rd m A w (.view T sz id i n) (.slice (some ⟨b,i*sz,none⟩) n cap)
 |viewd (T sz id i n:Nat) (a:Option Addr) (cap:Nat) (hm:m id=.dead):Rd m A w (.view T sz id i n) (.slice a n cap)
 |sown (T sz id:Nat) (n:Poly) (b len cap:Nat) (hm:m id=.at b) (hb:b<w.heap.size) (hl:pev Ev.rho n=len) (hn:len≤cap) (hc:cap≤maxLen) (hr:cap*sz=rowSize w b):Rd m A w (.sown T sz id n) (.slice (some ⟨b,0,none⟩) len cap)
 |sownv (T sz id:Nat) (n:Poly) (a:Option Addr) (hm:m id=.virt) (hn:pev Ev.rho n=0):Rd m A w (.sown T sz id n) (.slice a 0 0)
 |sownd (T sz id:Nat) (n:Poly) (a:Option Addr) (n' cap:Nat) (hm:m id=.dead):Rd m A w (.sown T sz id n) (.slice a n' cap)
 |optr (sz id:Nat) (p:Poly) (off b:Nat) (hm:m id=.at b) (hb:b<w.heap.size):Rd m A w (.optr sz id p off) (.pointer (some ⟨b,(pev Ev.rho p).toNat*sz+off,none⟩))
 |optrd (sz id:Nat) (p:Poly) (off:Nat) (a:Option Addr) (hm:m id=.dead):Rd m A w (.optr sz id p off) (.pointer a)
theorem Rd.one [Bk] [Ev] {m:Nat→St} {A:Nat→Prop} {w:World} {x:AV} {v:Value} (h:Rd m A w x v) (h1:x.one=true):v.oneCell'=true:=by
 cases h<;>first|rfl|exact RdL.one ‹_› h1|(simp[AV.one]at h1)
structure Ext (m:Nat→St) (w:World) (m':Nat→St) (w':World):Prop where
 os:w'.os=w.os
 tape:w'.tape=w.tape
 output:w'.output=w.output
 size:w.heap.size≤w'.heap.size
 at_:∀id b,m id=.at b→m' id=.at b∨m' id=.dead
 dead:∀id,m id=.dead→m' id=.dead
 virt:∀id,m id=.virt→m' id=.virt∨m' id=.dead
 un:∀b,b<w.heap.size→(∀id,m id≠.at b)→(∀id,m' id≠.at b)∧w'.heap[b]?=w.heap[b]?
 rows:∀id b,m id=.at b→m' id=.at b→rowSize w' b=rowSize w b
theorem Ext.refl [Bk] [Ev] (m:Nat→St) (w:World):Ext m w m w:=⟨rfl,rfl,rfl,Nat.le_refl _,fun _ _ h=>.inl h,fun _ h=>h,fun _ h=>.inl h,fun _ _ h=>⟨h,rfl⟩,fun _ _ _ _=>rfl⟩
theorem Ext.trans [Bk] [Ev] {m:Nat→St} {w:World} {m':Nat→St} {w':World} {m'':Nat→St} {w'':World} (h:Ext m w m' w') (k:Ext m' w' m'' w''):Ext m w m'' w'':=by
 refine⟨k.os.trans h.os,k.tape.trans h.tape,k.output.trans h.output,Nat.le_trans h.size k.size,?_,fun id hd=>k.dead id (h.dead id hd),fun id hv=>(h.virt id hv).elim (k.virt id) (fun d=>.inr (k.dead id d)),?_,?_⟩
 ·intro id b hb
  rcases h.at_ id b hb with h1|h1
  ·exact k.at_ id b h1
  ·exact .inr (k.dead id h1)
 ·intro b hb hu
  obtain⟨h1,h2⟩:=h.un b hb hu
  obtain⟨k1,k2⟩:=k.un b (by have:=h.size;omega) h1
  exact⟨k1,k2.trans h2⟩
 ·intro id b h1 h2
  rcases h.at_ id b h1 with h3|h3
  ·exact(k.rows id b h3 h2).trans (h.rows id b h1 h3)
  ·rw[k.dead id h3]at h2;cases h2
theorem Rd.ext [Bk] [Ev] {m:Nat→St} {A:Nat→Prop} {w:World} {m':Nat→St} {w':World} (E:Ext m w m' w') {x:AV} {v:Value} (h:Rd m A w x v):Rd m' A w' x v:=by
 induction h with
 |pure x v h =>
  refine .pure x v (h.mono E.size fun b hb hn=>?_)
  have h2:=E.un b hb (fun id hid=>hn (.inr ⟨id,hid⟩))
  exact⟨fun k=>k.elim (fun k=>hn (.inl k)) (fun⟨id,k⟩=>h2.1 id k),h2.2⟩
 |agg cs vs hl h1 _ ih=>exact .agg cs vs hl h1 ih
 |tup cs vs hl _ ih=>exact .tup cs vs hl ih
 |own T sz id i n b cap hm hb hn hc hr =>
  rcases E.at_ id b hm with h|h
  ·exact .own T sz id i n b cap h (Nat.lt_of_lt_of_le hb E.size) hn hc (hr.trans (E.rows id b hm h).symm)
  ·exact .ownd T sz id i n _ _ _ h
 |ownv T sz id i a hm =>
  rcases E.virt id hm with h|h
  ·exact .ownv T sz id i a h
  ·exact .ownd T sz id i 0 a 0 0 h
 |ownd T sz id i n a n' cap hm=>exact .ownd T sz id i n a n' cap (E.dead id hm)
 |ptr sz id i off b hm hb =>
  rcases E.at_ id b hm with h|h
  ·exact .ptr sz id i off b h (Nat.lt_of_lt_of_le hb E.size)
  ·exact .ptrd sz id i off _ h
 |ptrd sz id i off a hm=>exact .ptrd sz id i off a (E.dead id hm)
 |fn f xs ys vs us hl hk _ _ ih1 ih2=>exact .fn f xs ys vs us hl hk ih1 ih2
 |ifc t x v _ ih=>exact .ifc t x v ih
 |yld id b hm =>
  rcases E.at_ id b hm with h|h
  ·exact .yld id b h
  ·exact .yldd id b h
 |yldd id b hm=>exact .yldd id b (E.dead id hm)
 |mpv id b hm =>
  rcases E.at_ id b hm with h|h
  ·exact .mpv id b h
  ·exact .mpvd id b h
 |mpvd id b hm=>exact .mpvd id b (E.dead id hm)
 |view T sz id i n b cap hm =>
  rcases E.at_ id b hm with h|h
  ·exact .view T sz id i n b cap h
  ·exact .viewd T sz id i n _ _ h
 |viewd T sz id i n a cap hm=>exact .viewd T sz id i n a cap (E.dead id hm)
 |sown T sz id n b len cap hm hb hl hn hc hr =>
  rcases E.at_ id b hm with h|h
  ·exact .sown T sz id n b len cap h (Nat.lt_of_lt_of_le hb E.size) hl hn hc (hr.trans (E.rows id b hm h).symm)
  ·exact .sownd T sz id n _ _ _ h
 |sownv T sz id n a hm hn =>
  rcases E.virt id hm with h|h
  ·exact .sownv T sz id n a h hn
  ·exact .sownd T sz id n a 0 0 h
 |sownd T sz id n a n' cap hm=>exact .sownd T sz id n a n' cap (E.dead id hm)
 |optr sz id p off b hm hb =>
  rcases E.at_ id b hm with h|h
  ·exact .optr sz id p off b h (Nat.lt_of_lt_of_le hb E.size)
  ·exact .optrd sz id p off _ h
 |optrd sz id p off a hm=>exact .optrd sz id p off a (E.dead id hm)
inductive LS where
 |ready|busy|done (c:Code)
def LS.st:LS→LoopState
 | .ready=>.ready
 | .busy=>.busy
 | .done _=>.done
def LS.pe:LS→Option Code
 | .done c=>some c
 |_=>none
inductive Blk where
 |no|dead|cells (T sz:Nat) (els:List (List AV))|lp (st:LS) (f:List AV) (ps:Array Tmp) (assign body:Code)
 |it (s:ByteArray) (pos:Nat)|mp (es:List (Int×AV))
 |sc (T sz base:Nat) (ups:List (Poly×List AV)) (tail:List (List AV)) (n:Poly)
def Blk.els [Bk] [Ev]:Blk→Option (Nat×Nat×List (List AV))
 | .cells T sz els=>some (T,sz,els)
 | .sc T sz base ups tail _=>some (T,sz,rowsOf base ups tail)
 |_=>none
def ScOk [Bk] [Ev]:Blk→Prop
 | .sc _ _ base ups tail n=>pev Ev.rho n=((rowsOf base ups tail).length:Int)∧∀q∈ups,InB base q.1
 |_=>True
theorem ScOk.of_other [Bk] [Ev] {B:Blk} (h:B.els=none):ScOk B:=by cases B<;>first|trivial|(simp[Blk.els]at h)
def Blk.other:Blk→Bool
 | .lp .. | .it .. | .mp ..=>true
 |_=>false
def LpOk [Bk] [Ev] (m:Nat→St) (A:Nat→Prop) (w:World) (b:Nat) (st:LS) (f:List AV) (ps:Array Tmp) (assign body:Code):Prop :=
 ∃L:Loop,w.heap[b]?=some (.loop L)∧L.state=st.st∧L.pending=st.pe∧L.params=ps∧L.assign=assign∧L.body=body∧L.tmps.size=f.length∧∀(i:Nat) (x:AV),f[i]?=some x→Rd m A w x (L.tmps.getD i Go.undef)
theorem LpOk.ext [Bk] [Ev] {m m':Nat→St} {A:Nat→Prop} {w w':World} {b:Nat} {st:LS} {f:List AV} {ps:Array Tmp} {assign body:Code} (h:LpOk m A w b st f ps assign body) (E:Ext m w m' w') (hb:w'.heap[b]?=w.heap[b]?):LpOk m' A w' b st f ps assign body:=by
 obtain⟨L,h1,h2,h3,h4,h5,h6,h7,h8⟩:=h
 exact⟨L,hb.trans h1,h2,h3,h4,h5,h6,h7,fun i x hx=>(h8 i x hx).ext E⟩
def OtherOk [Bk] [Ev] (m:Nat→St) (A:Nat→Prop) (w:World) (b:Nat):Blk→Prop
 | .lp st f ps as bd=>LpOk m A w b st f ps as bd
 | .it s pos=>w.heap[b]?=some (.stringIter s pos)
 | .mp es=>∃(ms:Array MapEntry) (clock:Nat),w.heap[b]?=some (.map ms clock)∧ms.size=es.length∧∀(i:Nat) (k:Int) (x:AV),es[i]?=some (k,x)→∃e,ms[i]?=some e∧e.key=.int .i64 k∧Rd m A w x e.val
 |_=>False
theorem OtherOk.ext [Bk] [Ev] {m m':Nat→St} {A:Nat→Prop} {w w':World} {b:Nat} {B:Blk} (h:OtherOk m A w b B) (E:Ext m w m' w') (hb:w'.heap[b]?=w.heap[b]?):OtherOk m' A w' b B:=by
 cases B with
 |lp st f ps as bd=>exact LpOk.ext h E hb
 |it s pos=>exact hb.trans h
 |mp es =>
  obtain⟨ms,clock,h1,h2,h3⟩:=h
  refine⟨ms,clock,hb.trans h1,h2,fun i k x hx=>?_⟩
  obtain⟨e,g1,g2,g3⟩:=h3 i k x hx
  exact⟨e,g1,g2,g3.ext E⟩
 |_=>exact h
theorem OtherOk.lt [Bk] [Ev] {m:Nat→St} {A:Nat→Prop} {w:World} {b:Nat} {B:Blk} (h:OtherOk m A w b B):b<w.heap.size:=by
 cases B with
 |lp st f ps as bd=>obtain⟨L,h1,-⟩:=h;exact(Array.getElem?_eq_some_iff.1 h1).1
 |it s pos=>exact(Array.getElem?_eq_some_iff.1 h).1
 |mp es=>obtain⟨ms,clock,h1,-⟩:=h;exact(Array.getElem?_eq_some_iff.1 h1).1
 |_=>exact h.elim
def GOk [Bk] (A:Nat→Prop) (w:World):Prop:=∀t∈Bk.glob,A t.1∧t.1<w.heap.size∧∀(j:Nat) (v:Int),t.2[j]?=some v→w.cell? ⟨t.1,j,none⟩=some (.int .u8 v)
theorem GOk.ext [Bk] {A:Nat→Prop} {m:Nat→St} {w:World} {m':Nat→St} {w':World} (g:GOk A w) (out:∀id b,m id=.at b→¬ A b) (E:Ext m w m' w'):GOk A w':=by
 intro t ht
 obtain⟨h1,h2,h3⟩:=g t ht
 have h4:=(E.un t.1 h2 fun id hid=>out id t.1 hid h1).2
 exact⟨h1,Nat.lt_of_lt_of_le h2 E.size,fun j v hv=>(World.cell?_of_block (a:=⟨t.1,j,none⟩) h4).trans (h3 j v hv)⟩
structure HRel [Bk] [Ev] (m:Nat→St) (A:Nat→Prop) (h:Nat→Blk) (w:World):Prop where
 out:∀id b,m id=.at b→¬ A b
 old:∀b,A b→b<w.heap.size
 no:∀id,h id=.no→m id=.no
 dead:∀id,h id=.dead→m id=.dead
 arrs:∀id T sz els,(h id).els=some (T,sz,els)→(m id=.virt∧els=[])∨∃b cs,m id=.at b∧w.heap[b]?=some (.cells cs T (0,0))∧els.length*sz≤cs.size∧(∀e∈els,e.length=sz) ∧
  ∀(i j:Nat) (x:AV),at2 els i j=some x→x.one=true∧Rd m A w x (cs.getD (i*sz+j) Go.undef)
 inj:∀i j b,m i=.at b→m j=.at b→i=j
 glob:GOk A w
 others:∀id B,h id=B→B.other=true→∃b,m id=.at b∧OtherOk m A w b B
 scs:∀id,ScOk (h id)
theorem HRel.cells [Bk] [Ev] {m:Nat→St} {A:Nat→Prop} {h:Nat→Blk} {w:World} (H:HRel m A h w) (id T sz:Nat) (els:List (List AV)) (hh:h id=.cells T sz els):(m id=.virt∧els=[])∨∃b cs,m id=.at b∧w.heap[b]?=some (.cells cs T (0,0))∧els.length*sz≤cs.size∧(∀e∈els,e.length=sz) ∧
  ∀(i j:Nat) (x:AV),at2 els i j=some x→x.one=true∧Rd m A w x (cs.getD (i*sz+j) Go.undef):=H.arrs id T sz els (by rw[hh];rfl)
theorem HRel.loops [Bk] [Ev] {m:Nat→St} {A:Nat→Prop} {h:Nat→Blk} {w:World} (H:HRel m A h w) (id:Nat) (st:LS) (f:List AV) (ps:Array Tmp) (assign body:Code) (hh:h id=.lp st f ps assign body):∃b,m id=.at b∧LpOk m A w b st f ps assign body:=H.others id _ hh rfl
theorem HRel.others_to [Bk] [Ev] {m m':Nat→St} {A:Nat→Prop} {h h':Nat→Blk} {w w':World} (H:HRel m A h w) (E:Ext m w m' w') (k:∀id B,h' id=B→B.other=true→h id=B∧∀b,m id=.at b→m' id=.at b∧w'.heap[b]?=w.heap[b]?) :
  ∀id B,h' id=B→B.other=true→∃b,m' id=.at b∧OtherOk m' A w' b B:=by
 intro id B hh hB
 obtain⟨k1,k2⟩:=k id B hh hB
 obtain⟨b,h1,h2⟩:=H.others id B k1 hB
 obtain⟨k3,k4⟩:=k2 b h1
 exact⟨b,k3,h2.ext E k4⟩
theorem HRel.lt [Bk] [Ev] {m:Nat→St} {A:Nat→Prop} {h:Nat→Blk} {w:World} (H:HRel m A h w) {id b:Nat} (hb:m id=.at b):b<w.heap.size:=by
 cases hh:h id with
 |no=>rw[H.no id hh]at hb;cases hb
 |dead=>rw[H.dead id hh]at hb;cases hb
 |cells T sz els =>
  obtain⟨h1,-⟩|⟨b',cs,h1,h2,-⟩:=H.cells id T sz els hh
  ·rw[hb]at h1;cases h1
  rw[hb]at h1
  cases h1
  rcases Nat.lt_or_ge b w.heap.size with h|h
  ·exact h
  ·simp[Array.getElem?_eq_none h]at h2
 |lp st f ps assign body =>
  obtain⟨b',h1,h2⟩:=H.others id _ hh rfl
  rw[hb]at h1;cases h1;exact h2.lt
 |sc T sz base ups tail n =>
  obtain⟨h1,-⟩|⟨b',cs,h1,h2,-⟩:=H.arrs id T sz _ (by rw[hh];rfl)
  ·rw[hb]at h1;cases h1
  rw[hb]at h1
  cases h1
  exact(Array.getElem?_eq_some_iff.1 h2).1
 |it s pos =>
  obtain⟨b',h1,h2⟩:=H.others id _ hh rfl
  rw[hb]at h1;cases h1;exact h2.lt
 |mp es =>
  obtain⟨b',h1,h2⟩:=H.others id _ hh rfl
  rw[hb]at h1;cases h1;exact h2.lt
theorem Blk.els_other [Bk] [Ev] {B:Blk} {t:Nat×Nat×List (List AV)} (h:B.els=some t):B.other=false:=by cases B<;>first|rfl|(simp[Blk.els]at h)
theorem Blk.other_els [Bk] [Ev] {B:Blk} (h:B.other=true):B.els=none:=by cases B<;>first|rfl|(simp[Blk.other]at h)
theorem Blk.els_no [Bk] [Ev] {B:Blk} {t:Nat×Nat×List (List AV)} (h:B.els=some t):B≠.no∧B≠.dead:=by constructor<;>(rintro rfl;simp[Blk.els]at h)
def bset (h:Nat→Blk) (id:Nat) (b:Blk):Nat→Blk:=fun k=>if k=id then b else h k
theorem bset_same [Bk] [Ev] (h:Nat→Blk) (id:Nat) (b:Blk):bset h id b id=b:=by simp[bset]
theorem bset_other [Bk] [Ev] (h:Nat→Blk) {id k:Nat} (b:Blk) (hk:k≠id):bset h id b k=h k:=by simp[bset,hk]
theorem ScOk.set [Bk] [Ev] {h:Nat→Blk} {id:Nat} {B:Blk} (H:∀id,ScOk (h id)) (hB:ScOk B):∀k,ScOk (bset h id B k):=by
 intro k
 by_cases e:k=id
 ·rw[bset,if_pos e];exact hB
 ·rw[bset,if_neg e];exact H k
def sset (m:Nat→St) (id:Nat) (s:St):Nat→St:=fun k=>if k=id then s else m k
theorem at2_len [Bk] [Ev] {els:List (List AV)} {sz i j:Nat} {x:AV} (h:at2 els i j=some x) (hsz:∀e∈els,e.length=sz):i<els.length∧j<sz∧i*sz+j<els.length*sz:=by
 unfold at2 at h
 cases he:els[i]? with
 |none=>rw[he]at h;cases h
 |some e =>
  rw[he]at h
  simp only[Option.bind_some]at h
  have h1:i<els.length:=(List.getElem?_eq_some_iff.1 he).1
  have h2:j<e.length:=(List.getElem?_eq_some_iff.1 h).1
  have h3:e.length=sz:=hsz e (List.mem_of_getElem? he)
  refine⟨h1,by omega,?_⟩
  have:(i+1)*sz≤els.length*sz:=Nat.mul_le_mul_right _ h1
  rw[Nat.succ_mul]at this
  omega
theorem HRel.block [Bk] [Ev] {m:Nat→St} {A:Nat→Prop} {h:Nat→Blk} {w:World} (H:HRel m A h w) {id T sz i:Nat} {els:List (List AV)} {e:List AV} (hh:h id=.cells T sz els) (he:els[i]?=some e) :
  ∃b cs,m id=.at b∧w.heap[b]?=some (.cells cs T (0,0))∧els.length*sz≤cs.size∧(∀e∈els,e.length=sz)∧∀(i j:Nat) (x:AV),at2 els i j=some x→x.one=true∧Rd m A w x (cs.getD (i*sz+j) Go.undef):=by
 obtain⟨-,rfl⟩|h:=H.cells id T sz els hh
 ·simp at he
 ·exact h
theorem Ext.of_below [Bk] [Ev] {m:Nat→St} {A:Nat→Prop} {h:Nat→Blk} {w w':World} (H:HRel m A h w) (g:Below w.heap.size w w'):Ext m w m w':=by
 have hr:∀b,b<w.heap.size→w'.heap[b]?=w.heap[b]?:=g.block
 exact⟨g.os,g.tape,g.output,g.size,fun _ _ h=>.inl h,fun _ h=>h,fun _ h=>.inl h,fun b hb hu=>⟨hu,hr b hb⟩,fun id b h1 h2=>by simp[rowSize,hr b (H.lt h1)]⟩
theorem HRel.below [Bk] [Ev] {m:Nat→St} {A:Nat→Prop} {h:Nat→Blk} {w w':World} (H:HRel m A h w) (g:Below w.heap.size w w'):HRel m A h w':=by
 have E:=Ext.of_below H g
 refine⟨H.out,fun b hb=>by have:=H.old b hb;have:=g.size;omega,H.no,H.dead,?_,H.inj,H.glob.ext H.out E,H.others_to E fun id B hh hB=>⟨hh,fun b hb=>⟨hb,g.block b (H.lt hb)⟩⟩,H.scs⟩
 intro id T sz els hh
 obtain hv|⟨b,cs,h1,h2,h3,h4,h5⟩:=H.arrs id T sz els hh
 ·exact .inl hv
 exact .inr ⟨b,cs,h1,(g.block b (H.lt h1)).trans h2,h3,h4,fun i j x hx=>⟨(h5 i j x hx).1,(h5 i j x hx).2.ext E⟩⟩
theorem HRel.allocB [Bk] [Ev] {m:Nat→St} {A:Nat→Prop} {h:Nat→Blk} {w:World} (H:HRel m A h w) {id T sz:Nat} {els:List (List AV)} {cs:Array Value} {B:Blk} (hB:B.els=some (T,sz,els)) (hS:ScOk B) (hid:h id=.no) (h3:els.length*sz≤cs.size) (h4:∀e∈els,e.length=sz)
  (h5:∀(i j:Nat) (x:AV),at2 els i j=some x→x.one=true∧Rd m A w x (cs.getD (i*sz+j) Go.undef)) :
  HRel (sset m id (.at w.heap.size)) A (bset h id B) (w.alloc (.cells cs T))∧Ext m w (sset m id (.at w.heap.size)) (w.alloc (.cells cs T)):=by
 have hmid:=H.no id hid
 have hlt:∀k b,m k=.at b→b<w.heap.size:=fun k b hb=>H.lt hb
 have hold:∀b,b<w.heap.size→(w.alloc (.cells cs T)).heap[b]?=w.heap[b]?:=fun b hb=>by
  show(w.heap.push _)[b]?=_
  rw[Array.getElem?_push,if_neg (by omega)]
 have E:Ext m w (sset m id (.at w.heap.size)) (w.alloc (.cells cs T)):=by
  refine⟨rfl,rfl,rfl,by simp,?_,?_,?_,?_,?_⟩
  ·intro k b hb
   refine .inl ?_
   unfold sset
   rw[if_neg]
   ·exact hb
   ·rintro rfl;rw[hmid]at hb;cases hb
  ·intro k hk
   unfold sset
   rw[if_neg]
   ·exact hk
   ·rintro rfl;rw[hmid]at hk;cases hk
  ·intro k hk
   refine .inl ?_
   unfold sset
   rw[if_neg]
   ·exact hk
   ·rintro rfl;rw[hmid]at hk;cases hk
  ·intro b hb hu
   refine⟨?_,hold b hb⟩
   intro k
   unfold sset
   split
   ·intro e;cases e;omega
   ·exact hu k
  ·intro k b h1 h2
   simp[rowSize,hold b (hlt k b h1)]
 refine⟨⟨?_,fun b hb=>by have:=H.old b hb;simp;omega,?_,?_,?_,?_,H.glob.ext H.out E,H.others_to E fun id' B1 hh hB1=>?_,ScOk.set H.scs hS⟩,E⟩
 ·intro k b hk hA
  unfold sset at hk
  split at hk
  ·cases hk;have:=H.old _ hA;omega
  ·exact H.out k b hk hA
 ·intro k hk
  unfold bset at hk;unfold sset
  split at hk
  ·exact absurd hk (Blk.els_no hB).1
  ·rename_i hne;rw[if_neg hne];exact H.no k hk
 ·intro k hk
  unfold bset at hk;unfold sset
  split at hk
  ·exact absurd hk (Blk.els_no hB).2
  ·rename_i hne;rw[if_neg hne];exact H.dead k hk
 ·intro k T' sz' els' hk
  unfold bset at hk
  split at hk
  ·rename_i he
   rw[hB]at hk
   cases hk
   subst he
   refine .inr ⟨w.heap.size,cs,by simp[sset],?_,h3,h4,fun i j x hx=>⟨(h5 i j x hx).1,(h5 i j x hx).2.ext E⟩⟩
   show(w.heap.push _)[w.heap.size]?=_
   simp
  ·rename_i hne
   obtain⟨g1,g2⟩|⟨b,cs',g1,g2,g3,g4,g5⟩:=H.arrs k T' sz' els' hk
   ·exact .inl ⟨by simp[sset,hne,g1],g2⟩
   refine .inr ⟨b,cs',by simp[sset,hne,g1],?_,g3,g4,fun i j x hx=>⟨(g5 i j x hx).1,(g5 i j x hx).2.ext E⟩⟩
   rw[hold b (hlt k b g1)];exact g2
 ·intro i j b hi hj
  unfold sset at hi hj
  split at hi<;>split at hj
  ·rename_i a c;rw[a,c]
  ·cases hi;have:=hlt j _ hj;omega
  ·cases hj;have:=hlt i _ hi;omega
  ·exact H.inj i j b hi hj
 ·unfold bset at hh
  split at hh
  ·subst hh;rw[Blk.els_other hB]at hB1;cases hB1
  ·rename_i hne
   exact⟨hh,fun b hb=>⟨by simp[sset,hne,hb],hold b (hlt id' b hb)⟩⟩
theorem HRel.alloc [Bk] [Ev] {m:Nat→St} {A:Nat→Prop} {h:Nat→Blk} {w:World} (H:HRel m A h w) {id T sz:Nat} {els:List (List AV)} {cs:Array Value} (hid:h id=.no) (h3:els.length*sz≤cs.size) (h4:∀e∈els,e.length=sz)
  (h5:∀(i j:Nat) (x:AV),at2 els i j=some x→x.one=true∧Rd m A w x (cs.getD (i*sz+j) Go.undef)) :
  HRel (sset m id (.at w.heap.size)) A (bset h id (.cells T sz els)) (w.alloc (.cells cs T))∧Ext m w (sset m id (.at w.heap.size)) (w.alloc (.cells cs T)) :=
 H.allocB rfl trivial hid h3 h4 h5
theorem HRel.writeB [Bk] [Ev] {m:Nat→St} {A:Nat→Prop} {h:Nat→Blk} {w w':World} (H:HRel m A h w) {id T sz b:Nat} {els':List (List AV)} {cs cs':Array Value} {B:Blk} (hB:B.els=some (T,sz,els')) (hS:ScOk B) (hb:m id=.at b)
  (hw:w'.heap[b]?=some (.cells cs' T (0,0))) (hw0:w.heap[b]?=some (.cells cs T (0,0))) (hsz:cs'.size=cs.size) (hoth:∀k,k≠b→w'.heap[k]?=w.heap[k]?) (hos:w'.os=w.os) (ht:w'.tape=w.tape) (ho:w'.output=w.output) (hsize:w'.heap.size=w.heap.size)
  (h3:els'.length*sz≤cs'.size) (h4:∀e∈els',e.length=sz) (h5:∀(i j:Nat) (x:AV),at2 els' i j=some x→x.one=true∧Rd m A w x (cs'.getD (i*sz+j) Go.undef)) :
  HRel m A (bset h id B) w'∧Ext m w m w':=by
 have E:Ext m w m w':=by
  refine⟨hos,ht,ho,by omega,fun _ _ h=>.inl h,fun _ h=>h,fun _ h=>.inl h,?_,?_⟩
  ·intro k hk hu
   exact⟨hu,hoth k (by rintro rfl;exact hu id hb)⟩
  ·intro id' k hk1 hk2
   by_cases e:k=b
   ·subst e;simp[rowSize,hw,hw0,hsz]
   ·simp[rowSize,hoth k e]
 refine⟨⟨H.out,fun b hb=>by have:=H.old b hb;omega,?_,?_,?_,H.inj,H.glob.ext H.out E,H.others_to E fun id' B1 hh hB1=>?_,ScOk.set H.scs hS⟩,E⟩
 ·intro k hk
  unfold bset at hk
  split at hk
  ·exact absurd hk (Blk.els_no hB).1
  ·exact H.no k hk
 ·intro k hk
  unfold bset at hk
  split at hk
  ·exact absurd hk (Blk.els_no hB).2
  ·exact H.dead k hk
 ·intro k T' sz' els'' hk
  unfold bset at hk
  split at hk
  ·rename_i he
   rw[hB]at hk
   cases hk
   subst he
   exact .inr ⟨b,cs',hb,hw,h3,h4,fun i j x hx=>⟨(h5 i j x hx).1,(h5 i j x hx).2.ext E⟩⟩
  ·rename_i hne
   obtain g|⟨b',cs'',g1,g2,g3,g4,g5⟩:=H.arrs k T' sz' els'' hk
   ·exact .inl g
   refine .inr ⟨b',cs'',g1,?_,g3,g4,fun i j x hx=>⟨(g5 i j x hx).1,(g5 i j x hx).2.ext E⟩⟩
   rw[hoth b' (by rintro rfl;exact hne (H.inj k id b' g1 hb))]
   exact g2
 ·unfold bset at hh
  split at hh
  ·subst hh;rw[Blk.els_other hB]at hB1;cases hB1
  ·rename_i hne
   exact⟨hh,fun k hk=>⟨hk,hoth k (by rintro rfl;exact hne (H.inj id' id k hk hb))⟩⟩
theorem HRel.write [Bk] [Ev] {m:Nat→St} {A:Nat→Prop} {h:Nat→Blk} {w w':World} (H:HRel m A h w) {id T sz b:Nat} {els els':List (List AV)} {cs cs':Array Value} (hid:h id=.cells T sz els) (hb:m id=.at b)
  (hw:w'.heap[b]?=some (.cells cs' T (0,0))) (hw0:w.heap[b]?=some (.cells cs T (0,0))) (hsz:cs'.size=cs.size) (hoth:∀k,k≠b→w'.heap[k]?=w.heap[k]?) (hos:w'.os=w.os) (ht:w'.tape=w.tape) (ho:w'.output=w.output) (hsize:w'.heap.size=w.heap.size)
  (h3:els'.length*sz≤cs'.size) (h4:∀e∈els',e.length=sz) (h5:∀(i j:Nat) (x:AV),at2 els' i j=some x→x.one=true∧Rd m A w x (cs'.getD (i*sz+j) Go.undef)) :
  HRel m A (bset h id (.cells T sz els')) w'∧Ext m w m w' :=
 H.writeB rfl trivial hb hw hw0 hsz hoth hos ht ho hsize h3 h4 h5
theorem HRel.drew [Bk] [Ev] {m:Nat→St} {A:Nat→Prop} {h:Nat→Blk} {w:World} (H:HRel m A h w):HRel m A h w.drew∧Ext m w m w.drew:=by
 have b:Below w.heap.size w w.drew:=(Below.refl _ _).drew
 exact⟨H.below b,Ext.of_below H b⟩
end Go.Proofs.Ytjccjmmbebiegaa.Mc
set_option linter.unusedVariables false
set_option linter.unusedSimpArgs false
namespace Go.Proofs.Ytjccjmmbebiegaa.Mc
open Go.RowKit
theorem at2_map {els:List (List AV)} {g:AV→AV} (i j:Nat):at2 (els.map (·.map g)) i j=(at2 els i j).map g:=by
 unfold at2
 rw[List.getElem?_map]
 cases els[i]? with
 |none=>rfl
 |some e=>simp
theorem at2_mem {els:List (List AV)} {i j:Nat} {x:AV} (h:at2 els i j=some x):∃e∈els,x∈e:=by
 unfold at2 at h
 cases he:els[i]? with
 |none=>rw[he]at h;cases h
 |some e =>
  rw[he]at h
  exact⟨e,List.mem_of_getElem? he,List.mem_of_getElem? h⟩
theorem den_one [Bk] [Ev]:∀(k:Nat) (x:AV),(den k x).one=x.one
 |0,x=>rfl
 |k+1,x=>by
  cases x<;>first|rfl|exact Ev.val_one _
theorem RdL.lit_to [Bk] [Ev] {A:Nat→Prop} {w:World} {g:AV→AV} {sz:Nat} {els:List (List AV)} (hg:∀e∈els,∀x∈e,∀v,RdL A w x v→RdL A w (g x) v) (h1:∀x,(g x).one=x.one) {v:Value} (h:RdL A w (.lit sz els) v):RdL A w (.lit sz (els.map (·.map g))) v:=by
 generalize hy:AV.lit sz els=y at h
 cases h with
 |lit s es b off cap vs hA hb hc hsz h1' hv hr =>
  cases hy
  have hlen:(els.map (·.map g)).length=els.length:=by simp
  rw[←hlen]at hc ⊢
  refine .lit sz _ b off cap vs hA hb hc ?_ ?_ ?_ ?_
  ·intro e he
   obtain⟨e',he',rfl⟩:=List.mem_map.1 he
   rw[List.length_map];exact hsz e' he'
  ·intro i j x hx
   rw[at2_map]at hx
   obtain⟨y,hy,rfl⟩:=Option.map_eq_some_iff.1 hx
   rw[h1];exact h1' i j y hy
  ·intro i j x hx
   rw[at2_map]at hx
   obtain⟨y,hy,rfl⟩:=Option.map_eq_some_iff.1 hx
   exact hv i j y hy
  ·intro i j x hx
   rw[at2_map]at hx
   obtain⟨y,hy,rfl⟩:=Option.map_eq_some_iff.1 hx
   obtain⟨e,he,hye⟩:=at2_mem hy
   exact hg e he y hye _ (hr i j y hy)
 |lit0 s a cap hm =>
  cases hy
  exact .lit0 sz a cap hm
 |_=>cases hy
theorem RdL.lit_of [Bk] [Ev] {A:Nat→Prop} {w:World} {g:AV→AV} {sz:Nat} {els:List (List AV)} (hg:∀e∈els,∀x∈e,∀v,RdL A w (g x) v→RdL A w x v) (h1:∀x,(g x).one=x.one) {v:Value} (h:RdL A w (.lit sz (els.map (·.map g))) v):RdL A w (.lit sz els) v:=by
 generalize hy:AV.lit sz (els.map (·.map g))=y at h
 cases h with
 |lit s es b off cap vs hA hb hc hsz h1' hv hr =>
  cases hy
  have hlen:(els.map (·.map g)).length=els.length:=by simp
  rw[hlen]at hc ⊢
  refine .lit sz els b off cap vs hA hb hc ?_ ?_ ?_ ?_
  ·intro e he
   have:=hsz (e.map g) (List.mem_map_of_mem he)
   simpa using this
  ·intro i j x hx
   have:=h1' i j (g x) (by rw[at2_map,hx];rfl)
   rwa[h1]at this
  ·intro i j x hx
   exact hv i j (g x) (by rw[at2_map,hx];rfl)
  ·intro i j x hx
   obtain⟨e,he,hye⟩:=at2_mem hx
   exact hg e he x hye _ (hr i j (g x) (by rw[at2_map,hx];rfl))
 |lit0 s a cap hm =>
  injection hy with e1 e2
  rw[List.map_eq_nil_iff]at e2
  subst e2
  exact .lit0 sz a cap hm
 |_=>cases hy
theorem RdL.agg_to [Bk] [Ev] {A:Nat→Prop} {w:World} {g:AV→AV} {cs:List AV} (hg:∀x∈cs,∀v,RdL A w x v→RdL A w (g x) v) (h1:∀x,(g x).one=x.one) {v:Value} (h:RdL A w (.agg cs) v):RdL A w (.agg (cs.map g)) v:=by
 cases h with
 |agg _ vs hl h1' hr =>
  refine .agg _ vs (by simpa using hl) ?_ ?_
  ·intro i x hx
   rw[List.getElem?_map]at hx
   obtain⟨y,hy,rfl⟩:=Option.map_eq_some_iff.1 hx
   rw[h1];exact h1' i y hy
  ·intro i x hx
   rw[List.getElem?_map]at hx
   obtain⟨y,hy,rfl⟩:=Option.map_eq_some_iff.1 hx
   exact hg y (List.mem_of_getElem? hy) _ (hr i y hy)
theorem RdL.agg_of [Bk] [Ev] {A:Nat→Prop} {w:World} {g:AV→AV} {cs:List AV} (hg:∀x∈cs,∀v,RdL A w (g x) v→RdL A w x v) (h1:∀x,(g x).one=x.one) {v:Value} (h:RdL A w (.agg (cs.map g)) v):RdL A w (.agg cs) v:=by
 cases h with
 |agg _ vs hl h1' hr =>
  refine .agg cs vs (by simpa using hl) ?_ ?_
  ·intro i x hx
   have:=h1' i (g x) (by rw[List.getElem?_map,hx];rfl)
   rwa[h1]at this
  ·intro i x hx
   exact hg x (List.mem_of_getElem? hx) _ (hr i (g x) (by rw[List.getElem?_map,hx];rfl))
theorem RdL.tup_to [Bk] [Ev] {A:Nat→Prop} {w:World} {g:AV→AV} {cs:List AV} (hg:∀x∈cs,∀v,RdL A w x v→RdL A w (g x) v) {v:Value} (h:RdL A w (.tup cs) v):RdL A w (.tup (cs.map g)) v:=by
 cases h with
 |tup _ vs hl hr =>
  refine .tup _ vs (by simpa using hl) ?_
  intro i x hx
  rw[List.getElem?_map]at hx
  obtain⟨y,hy,rfl⟩:=Option.map_eq_some_iff.1 hx
  exact hg y (List.mem_of_getElem? hy) _ (hr i y hy)
theorem RdL.tup_of [Bk] [Ev] {A:Nat→Prop} {w:World} {g:AV→AV} {cs:List AV} (hg:∀x∈cs,∀v,RdL A w (g x) v→RdL A w x v) {v:Value} (h:RdL A w (.tup (cs.map g)) v):RdL A w (.tup cs) v:=by
 cases h with
 |tup _ vs hl hr =>
  refine .tup cs vs (by simpa using hl) ?_
  intro i x hx
  exact hg x (List.mem_of_getElem? hx) _ (hr i (g x) (by rw[List.getElem?_map,hx];rfl))
theorem RdL.of_den [Bk] [Ev] {A:Nat→Prop} {w:World}:∀(k:Nat) (x:AV) (v:Value),RdL A w x v→RdL A w (den k x) v
 |0,x,v,h=>h
 |k+1,x,v,h=>by
  have ih:∀(x:AV) (v:Value),RdL A w x v→RdL A w (den k x) v:=RdL.of_den k
  cases h with
  |e p =>
   have:den (k+1) (.e p)=.c (.int .i64 (pev Ev.rho p)):=by rw[←evP_eq];rfl
   rw[this];exact .c _
  |o i=>exact .c _
  |agg cs vs hl h1 hr=>exact RdL.agg_to (fun x _=>ih x) (den_one k) (.agg cs vs hl h1 hr)
  |tup cs vs hl hr=>exact RdL.tup_to (fun x _=>ih x) (.tup cs vs hl hr)
  |lit sz els b off cap vs hA hb hc hsz h1 hv hr=>exact RdL.lit_to (fun e _ x _=>ih x) (den_one k) (.lit sz els b off cap vs hA hb hc hsz h1 hv hr)
  |lit0 sz a cap hm=>exact RdL.lit_to (fun e _ x _=>ih x) (den_one k) (.lit0 sz a cap hm)
  |seq sz base ups tail v hin h1 hr=>rw[den_seq];exact RdL.lit_to (fun e _ x _=>ih x) (den_one k) hr
  |ifc t x v hr=>exact .ifc t _ v (ih x v hr)
  |c v=>exact .c v
  |undef=>exact .undef
  |emp a=>exact .emp a
  |lptr sz els i0 j0 b off vs hA hb hsz h1 hv hr=>exact .lptr sz els i0 j0 b off vs hA hb hsz h1 hv hr
  |fn f xs ys vs us hl hk h g=>exact .fn f xs ys vs us hl hk h g
  |row n xs b off len cap hn hc hA hb hv=>exact .row n xs b off len cap hn hc hA hb hv
  |row0 n xs a cap hn=>exact .row0 n xs a cap hn
  |any v h1=>exact .any v h1
  |sptr sz base ups tail p off v hin h1 hp hr=>exact .sptr sz base ups tail p off v hin h1 hp hr
  |junk v=>exact .junk v
theorem RdL.to_den [Bk] [Ev] {A:Nat→Prop} {w:World}:∀(k:Nat) (x:AV) (v:Value),noUps k x=true→RdL A w (den k x) v→RdL A w x v
 |0,x,v,_,h=>h
 |k+1,x,v,hu,h=>by
  have ih:∀(x:AV),noUps k x=true→∀(v:Value),RdL A w (den k x) v→RdL A w x v:=fun x hu v=>RdL.to_den k x v hu
  cases x with
  |e p =>
   have h:RdL A w (.c (.int .i64 (evP Ev.rho p))) v:=h
   rw[evP_eq]at h
   cases h;exact .e p
  |o i =>
   have h:RdL A w (.c (Ev.val i)) v:=h
   cases h;exact .o i
  |agg cs=>exact RdL.agg_of (fun x hx=>ih x (List.all_eq_true.1 hu x hx)) (den_one k) h
  |tup cs=>exact RdL.tup_of (fun x hx=>ih x (List.all_eq_true.1 hu x hx)) h
  |lit sz els=>exact RdL.lit_of (fun e he x hx=>ih x (List.all_eq_true.1 (List.all_eq_true.1 hu e he) x hx)) (den_one k) h
  |seq sz base ups tail =>
   simp only[noUps,Bool.and_eq_true,List.isEmpty_iff]at hu
   obtain⟨rfl,hu⟩:=hu
   rw[den_seq]at h
   refine .seq sz base [] tail v (fun q hq=>absurd hq List.not_mem_nil) (h.one rfl) (RdL.lit_of (fun e he x hx=>?_) (den_one k) h)
   unfold rowsOf at he
   rw[List.foldl_nil]at he
   rcases List.mem_append.1 he with he|he
   ·intro v hv
    have e1:den k x=x:=(Ev.seq_cl base e he x hx).den k
    rw[e1]at hv;exact hv
   ·exact ih x (List.all_eq_true.1 (List.all_eq_true.1 hu e he) x hx)
  |ifc t y =>
   have hd:RdL A w (.ifc t (den k y)) v:=h
   cases hd with|ifc _ _ u hr=>exact .ifc t y u (ih y hu u hr)
  |_=>exact h
theorem RdL.cl {b1:Bk} {e1:@Ev b1} {b2:Bk} {e2:@Ev b2} {A:Nat→Prop} {w:World} {x:AV} (hx:Cl x):∀{v:Value},@RdL b1 e1 A w x v→@RdL b2 e2 A w x v:=by
 induction hx with
 |c u=>intro v h;cases h;exact .c u
 |undef=>intro v h;cases h;exact .undef
 |emp=>intro v h;cases h;exact .emp _
 |any=>intro v h;cases h with|any v h1=>exact .any v h1
 |agg cs hc ih =>
  intro v h
  cases h with
  |agg _ vs hl h1 hr=>exact .agg cs vs hl h1 fun i x hx=>ih x (List.mem_of_getElem? hx) (hr i x hx)
 |tup cs hc ih =>
  intro v h
  cases h with
  |tup _ vs hl hr=>exact .tup cs vs hl fun i x hx=>ih x (List.mem_of_getElem? hx) (hr i x hx)
 |lit sz els hc ih =>
  intro v h
  cases h with
  |lit _ _ b off cap vs hA hb hc hsz h1 hv hr =>
   refine .lit sz els b off cap vs hA hb hc hsz h1 hv fun i j x hx=>?_
   obtain⟨e,he,hxe⟩:=at2_mem hx
   exact ih e he x hxe (hr i j x hx)
  |lit0 _ a cap hm=>exact .lit0 sz a cap hm
 |ifc t x hx ih =>
  intro v h
  cases h with|ifc _ _ v h=>exact .ifc t x v (ih h)
theorem Rd.cl [Bk] [Ev] {m:Nat→St} {A:Nat→Prop} {w:World} {x:AV} (hx:Cl x):∀{v:Value},Rd m A w x v→RdL (Av m A) w x v:=by
 induction hx with
 |agg cs hc ih =>
  intro v h
  cases h with
  |pure _ _ h=>exact h
  |agg _ vs hl h1 hr=>exact .agg cs vs hl h1 fun i x hx=>ih x (List.mem_of_getElem? hx) (hr i x hx)
 |tup cs hc ih =>
  intro v h
  cases h with
  |pure _ _ h=>exact h
  |tup _ vs hl hr=>exact .tup cs vs hl fun i x hx=>ih x (List.mem_of_getElem? hx) (hr i x hx)
 |ifc t x hx ih =>
  intro v h
  cases h with
  |pure _ _ h=>exact h
  |ifc _ _ v h=>exact .ifc t x v (ih h)
 |_=>intro v h;cases h with|pure _ _ h=>exact h
def upAt [Bk] (p:Poly):List (Poly×List AV)→Option (Option (List AV))
 |[]=>some none
 |q::l=>match upAt p l with
  |some (some r)=>some (some r)
  |none=>none
  |some none=>if q.1=p then some (some q.2)else match eqB (psub q.1 p)with
    |some true=>some (some q.2)
    |some false=>some none
    |none=>none
def atsAt (base:Nat) (p:Poly):List (Nat×Poly×List AV)→Option (List AV)
 |[]=>none
 |t::l=>if t.1=base∧t.2.1=p then some t.2.2 else atsAt base p l
def lenOf (base:Nat):List (Nat×Poly)→Option Poly
 |[]=>none
 |t::l=>if t.1=base then some t.2 else lenOf base l
def natP:Poly→Option Nat
 |[]=>some 0
 |[([],n)]=>if 0≤n then some n.toNat else none
 |_=>none
def rowAt [Bk] (base:Nat) (ups:List (Poly×List AV)) (tail:List (List AV)) (p:Poly):Option (List AV) :=
 match upAt p ups with
 |none=>none
 |some (some r)=>some r
 |some none=>match atsAt base p Bk.ats with
  |some r=>some r
  |none=>match lenOf base Bk.lens with
   |some n=>(natP (psub p n)).bind fun k=>tail[k]?
   |none=>none
theorem atsAt_ok {base:Nat} {p:Poly} {r:List AV}:∀{l:List (Nat×Poly×List AV)},atsAt base p l=some r→(base,p,r)∈l
 |[],h=>by cases h
 |t::l,h=>by
  unfold atsAt at h
  split at h
  ·rename_i e
   cases h
   obtain⟨rfl,rfl⟩:=e
   exact List.mem_cons_self
  ·exact List.mem_cons_of_mem _ (atsAt_ok h)
theorem lenOf_ok {base:Nat} {n:Poly}:∀{l:List (Nat×Poly)},lenOf base l=some n→(base,n)∈l
 |[],h=>by cases h
 |t::l,h=>by
  unfold lenOf at h
  split at h
  ·rename_i e
   cases h
   subst e
   exact List.mem_cons_self
  ·exact List.mem_cons_of_mem _ (lenOf_ok h)
theorem lenOf_seq [Bk] [Ev] {base:Nat} {n:Poly} (h:lenOf base Bk.lens=some n):((Ev.seq base).length:Int)=pev Ev.rho n:=Ev.slen _ (lenOf_ok h)
theorem natP_ok {ρ:Nat→Int} {p:Poly} {k:Nat} (h:natP p=some k):pev ρ p=(k:Int):=by
 unfold natP at h
 split at h
 ·cases h;rfl
 ·split at h
  ·cases h
   simp only[pev,mev]
   omega
  ·cases h
 ·cases h
def Like [Bk] [Ev] (x y:AV):Prop:=x=y∨(x=den 12 y∧Cl x∧noUps 12 y=true)
def LikeL [Bk] [Ev] (r0 r:List AV):Prop:=r0.length=r.length∧∀(j:Nat) (y:AV),r[j]?=some y→∃x,r0[j]?=some x∧Like x y
theorem LikeL.refl [Bk] [Ev] (r:List AV):LikeL r r:=⟨rfl,fun j y h=>⟨y,h,.inl rfl⟩⟩
theorem Like.one [Bk] [Ev] {x y:AV} (h:Like x y):x.one=y.one:=by
 rcases h with rfl|⟨rfl,-⟩
 ·rfl
 ·exact den_one 12 y
theorem Like.rdL [Bk] [Ev] {A:Nat→Prop} {w:World} {x y:AV} {v:Value} (h:Like x y) (hr:RdL A w x v):RdL A w y v:=by
 rcases h with rfl|⟨rfl,-,hu⟩
 ·exact hr
 ·exact RdL.to_den 12 y v hu hr
theorem Like.rd [Bk] [Ev] {m:Nat→St} {A:Nat→Prop} {w:World} {x y:AV} {v:Value} (h:Like x y) (hr:Rd m A w x v):Rd m A w y v:=by
 rcases h with rfl|⟨rfl,hc,hu⟩
 ·exact hr
 ·exact .pure _ _ (RdL.to_den 12 y v hu (hr.cl hc))
theorem set_fold [Bk] [Ev]:∀(ups:List (Poly×List AV)) (l:List (List AV)) (i:Nat),(∀q∈ups,(pev Ev.rho q.1).toNat≠i)→(ups.foldl (fun l q=>l.set (pev Ev.rho q.1).toNat q.2) l)[i]?=l[i]?
 |[],l,i,_=>rfl
 |q::ups,l,i,h=>by
  rw[List.foldl_cons,set_fold ups _ i (fun q hq=>h q (List.mem_cons_of_mem _ hq)),List.getElem?_set_ne (h q List.mem_cons_self)]
theorem upAt_ok [Bk] [Ev] {p:Poly} (hp:0≤pev Ev.rho p):∀(ups:List (Poly×List AV)) (l:List (List AV)),(∀q∈ups,0≤pev Ev.rho q.1∧(pev Ev.rho q.1).toNat<l.length) →
  (∀r,upAt p ups=some (some r)→(ups.foldl (fun l q=>l.set (pev Ev.rho q.1).toNat q.2) l)[(pev Ev.rho p).toNat]?=some r)∧(upAt p ups=some none→∀q∈ups,(pev Ev.rho q.1).toNat≠(pev Ev.rho p).toNat)
 |[],l,_=>⟨fun r h=>(by cases h),fun _ q h=>absurd h List.not_mem_nil⟩
 |q::ups,l,hin=>by
  have hq:=hin q List.mem_cons_self
  obtain⟨i1,i2⟩:=upAt_ok hp ups (l.set (pev Ev.rho q.1).toNat q.2) (fun q hq=>by rw[List.length_set];exact hin q (List.mem_cons_of_mem _ hq))
  have hit:∀r,upAt p ups=some none→pev Ev.rho q.1=pev Ev.rho p→q.2=r→((q::ups).foldl (fun l q=>l.set (pev Ev.rho q.1).toNat q.2) l)[(pev Ev.rho p).toNat]?=some r:=by
   intro r hn he hr
   rw[List.foldl_cons,set_fold ups _ _ (i2 hn),he,List.getElem?_set_self (by rw[←he];exact hq.2),hr]
  constructor
  ·intro r hr
   unfold upAt at hr
   split at hr
   ·rename_i r' hu
    cases hr
    rw[List.foldl_cons]
    exact i1 r hu
   ·cases hr
   ·rename_i hu
    split at hr
    ·rename_i e
     cases hr
     exact hit _ hu (by rw[e]) rfl
    ·split at hr
     ·rename_i hb
      cases hr
      have:=eqB_ok hb
      rw[pev_psub]at this
      have:=of_decide_eq_true this.symm
      exact hit _ hu (by omega) rfl
     ·cases hr
     ·cases hr
  ·intro hn q' hq'
   unfold upAt at hn
   split at hn
   ·cases hn
   ·cases hn
   ·rename_i hu
    rcases List.mem_cons.1 hq' with rfl|hq'
    ·split at hn
     ·cases hn
     ·split at hn
      ·cases hn
      ·rename_i hb
       have:=eqB_ok hb
       rw[pev_psub]at this
       have:=of_decide_eq_false this.symm
       intro e
       have:=hq.1
       omega
      ·cases hn
    ·exact i2 hu q' hq'
theorem rowAt_ok [Bk] [Ev] {base:Nat} {ups:List (Poly×List AV)} {tail:List (List AV)} {p:Poly} {r:List AV} (hin:∀q∈ups,InB base q.1) (hp:0≤pev Ev.rho p) (h:rowAt base ups tail p=some r) :
  ∃r0,(rowsOf base ups tail)[(pev Ev.rho p).toNat]?=some r0∧LikeL r0 r:=by
 have hlen:(ups.foldl (fun l q=>l.set (pev Ev.rho q.1).toNat q.2) (Ev.seq base)).length=(Ev.seq base).length:=by
  have:=rowsOf_len base ups []
  unfold rowsOf at this
  simpa using this
 obtain⟨u1,u2⟩:=upAt_ok hp ups (Ev.seq base) hin
 unfold rowAt at h
 split at h
 ·cases h
 ·rename_i r' hu
  cases h
  have h1:=u1 r hu
  have hlt:=(List.getElem?_eq_some_iff.1 h1).1
  exact⟨r,by unfold rowsOf;rw[List.getElem?_append_left hlt];exact h1,LikeL.refl r⟩
 ·rename_i hu
  have h2:=set_fold ups (Ev.seq base) (pev Ev.rho p).toNat (u2 hu)
  split at h
  ·rename_i r' ha
   cases h
   have hm:=atsAt_ok ha
   obtain⟨-,k2,k3⟩:=Ev.sat _ hm
   have k2:(Ev.seq base)[(pev Ev.rho p).toNat]?=some (r.map (den 12)):=k2
   have hlt:=(List.getElem?_eq_some_iff.1 k2).1
   refine⟨r.map (den 12),by unfold rowsOf;rw[List.getElem?_append_left (by rw[hlen];exact hlt),h2];exact k2,by simp,?_⟩
   intro j y hy
   refine⟨den 12 y,by rw[List.getElem?_map,hy];rfl,.inr ⟨rfl,?_,?_⟩⟩
   ·exact Ev.seq_cl base _ (List.mem_of_getElem? k2) _ (List.mem_map_of_mem (List.mem_of_getElem? hy))
   ·exact List.all_eq_true.1 k3 y (List.mem_of_getElem? hy)
  ·split at h
   ·rename_i n hn
    rw[Option.bind_eq_some_iff]at h
    obtain⟨k,hk,ht⟩:=h
    have e1:=lenOf_seq hn
    have e2:=natP_ok (ρ:=Ev.rho) hk
    rw[pev_psub]at e2
    refine⟨r,?_,LikeL.refl r⟩
    unfold rowsOf
    rw[List.getElem?_append_right (by rw[hlen];omega),hlen]
    rw[←ht];congr 1;omega
   ·cases h
def rowSet [Bk] (base:Nat) (ups:List (Poly×List AV)) (tail:List (List AV)) (p:Poly) (r:List AV):Option (List (Poly×List AV)×List (List AV)) :=
 match lenOf base Bk.lens with
 |some n=>match natP (psub p n)with
  |some k=>if k<tail.length then some (ups,tail.set k r)else none
  |none=>if ltB p=some false∧ltB (psub p n)=some true then
    match ups.getLast? with
    |some q=>if q.1=p then some (ups.dropLast++[(p,r)],tail)else some (ups++[(p,r)],tail)
    |none=>some ([(p,r)],tail)
   else none
 |none=>none
theorem rowSet_ok [Bk] [Ev] {base:Nat} {ups ups':List (Poly×List AV)} {tail tail':List (List AV)} {p:Poly} {r:List AV} (hin:∀q∈ups,InB base q.1) (h:rowSet base ups tail p r=some (ups',tail')) :
  rowsOf base ups' tail'=(rowsOf base ups tail).set (pev Ev.rho p).toNat r∧(∀q∈ups',InB base q.1)∧0≤pev Ev.rho p:=by
 have hlen:(ups.foldl (fun l q=>l.set (pev Ev.rho q.1).toNat q.2) (Ev.seq base)).length=(Ev.seq base).length:=by
  have:=rowsOf_len base ups []
  unfold rowsOf at this
  simpa using this
 unfold rowSet at h
 split at h
 ·rename_i n hn
  have e1:=lenOf_seq hn
  split at h
  ·rename_i k hk
   split at h
   ·rename_i hlt
    cases h
    have e2:=natP_ok (ρ:=Ev.rho) hk
    rw[pev_psub]at e2
    refine⟨?_,hin,by omega⟩
    unfold rowsOf
    rw[List.set_append_right _ _ (by rw[hlen];omega),hlen]
    congr 2;omega
   ·cases h
  ·split at h
   ·rename_i hc
    have c1:=ltB_ok hc.1
    have c1:=of_decide_eq_false c1.symm
    have c2:=ltB_ok hc.2
    have c2:=of_decide_eq_true c2.symm
    rw[pev_psub]at c2
    have hp:InB base p:=⟨by omega,by omega⟩
    have app:∀us:List (Poly×List AV),(us.foldl (fun l q=>l.set (pev Ev.rho q.1).toNat q.2) (Ev.seq base)).length=(Ev.seq base).length:=by
     intro us
     have:=rowsOf_len base us []
     unfold rowsOf at this
     simpa using this
    have add:∀us:List (Poly×List AV),rowsOf base (us++[(p,r)]) tail=(rowsOf base us tail).set (pev Ev.rho p).toNat r:=by
     intro us
     unfold rowsOf
     rw[List.foldl_append,List.set_append_left _ _ (by rw[app us];exact hp.2)]
     rfl
    split at h
    ·rename_i q hq
     split at h
     ·rename_i e
      cases h
      have hd:ups=ups.dropLast++[q]:=by
       have hne:ups≠[]:=by rintro rfl;cases hq
       rw[List.getLast?_eq_some_getLast hne]at hq
       cases hq
       exact(List.dropLast_concat_getLast hne).symm
      refine⟨?_,?_,hp.1⟩
      ·rw[add]
       conv=>rhs;rw[hd]
       unfold rowsOf
       rw[List.foldl_append,List.set_append_left _ _ (by rw[app];exact hp.2),List.set_append_left _ _ (by rw[←List.foldl_append,app];exact hp.2)]
       simp only[List.foldl_cons,List.foldl_nil,e,List.set_set]
      ·intro q' hq'
       rcases List.mem_append.1 hq' with h|h
       ·exact hin q' (by rw[hd];exact List.mem_append_left _ h)
       ·rw[List.mem_singleton]at h;subst h;exact hp
     ·cases h
      refine⟨add ups,?_,hp.1⟩
      intro q' hq'
      rcases List.mem_append.1 hq' with h|h
      ·exact hin q' h
      ·rw[List.mem_singleton]at h;subst h;exact hp
    ·rename_i hq
     cases h
     have:ups=[]:=by simpa using hq
     subst this
     refine⟨add [],?_,hp.1⟩
     intro q' hq'
     rw[List.mem_singleton]at hq';subst hq';exact hp
   ·cases h
 ·cases h
end Go.Proofs.Ytjccjmmbebiegaa.Mc
set_option linter.unusedVariables false
set_option linter.unusedSimpArgs false
namespace Go.Proofs.Ytjccjmmbebiegaa.Mc
open Go.RowKit
def ofC0:Value→AV
 | .slice none 0 0=>.emp
 |v=>.c v
def ofC:Value→AV
 | .agg vs=>if vs.all Value.oneCell' then .agg (vs.toList.map ofC0)else .c (.agg vs)
 |v=>ofC0 v
theorem RdL_ofC0 [Bk] [Ev] (A:Nat→Prop) (w:World) (v:Value):RdL A w (ofC0 v) v:=by
 unfold ofC0;split
 ·exact .emp _
 ·exact .c _
theorem one_ofC0 [Bk] [Ev] (v:Value) (h:v.oneCell'=true):(ofC0 v).one=true:=by
 unfold ofC0;split
 ·rfl
 ·exact h
theorem getD_map [Bk] [Ev] {α β:Type} (l:Array α) (f:α→β) (i:Nat) (x:β) (d:α) (h:(l.toList.map f)[i]?=some x):f (l.getD i d)=x:=by
 rw[List.getElem?_map]at h
 cases hl:l.toList[i]? with
 |none=>rw[hl]at h;cases h
 |some y =>
  rw[hl]at h
  simp only[Option.map_some,Option.some.injEq]at h
  have:l[i]?=some y:=by rw[←Array.getElem?_toList];exact hl
  simp[this,h]
theorem RdL_ofC [Bk] [Ev] (A:Nat→Prop) (w:World) (v:Value):RdL A w (ofC v) v:=by
 unfold ofC;split
 ·rename_i vs
  split
  ·rename_i hall
   refine .agg _ _ (by simp) ?_ ?_
   ·intro i x hx
    have h1:=getD_map vs ofC0 i x Go.undef hx
    have hi:i<vs.size:=by have:=(List.getElem?_eq_some_iff.1 hx).1;simpa using this
    rw[←h1]
    refine one_ofC0 _ ?_
    have:=Array.all_eq_true.1 hall i hi
    simpa[hi]using this
   ·intro i x hx
    have h1:=getD_map vs ofC0 i x Go.undef hx
    rw[←h1]
    exact RdL_ofC0 A w _
  ·exact .c _
 ·exact RdL_ofC0 A w _
def aev (f:List AV):Operand→AV
 | .tmp t=>f.getD t .undef
 | .const v=>ofC v
 | .global g=>.c (.pointer (some ⟨g,0,none⟩))
 | .func k=>.fn (.func k) [] []
def mark (D:Nat):Deferred:={ target:=.collected D,args:=#[] }
def Marks (m:Nat→St) (w:World) (ds:List Deferred):Prop:=∃Ds:List Nat,ds=Ds.map mark∧Ds.Nodup∧∀D∈Ds,w.heap[D]?=some (.deferred (some []))∧∀id,m id≠.at D
theorem Marks.nil (m:Nat→St) (w:World):Marks m w []:=⟨[],rfl,List.nodup_nil,fun D h=>absurd h List.not_mem_nil⟩
theorem Marks.ext {m m':Nat→St} {w w':World} {ds:List Deferred} (h:Marks m w ds) (E:Ext m w m' w'):Marks m' w' ds:=by
 obtain⟨Ds,h1,h2,h3⟩:=h
 refine⟨Ds,h1,h2,fun D hD=>?_⟩
 obtain⟨k1,k2⟩:=h3 D hD
 have hlt:D<w.heap.size:=(Array.getElem?_eq_some_iff.1 k1).1
 obtain⟨k3,k4⟩:=E.un D hlt k2
 exact⟨k4.trans k1,k3⟩
theorem Marks.push {m:Nat→St} {w:World} {ds:List Deferred} (h:Marks m w ds) {D:Nat} (hD:w.heap[D]?=some (.deferred (some []))) (hn:∀id,m id≠.at D) (hf:∀d∈ds,d≠mark D):Marks m w (mark D::ds):=by
 obtain⟨Ds,rfl,h2,h3⟩:=h
 refine⟨D::Ds,rfl,List.nodup_cons.2 ⟨fun hm=>hf _ (List.mem_map_of_mem hm) rfl,h2⟩,?_⟩
 intro D' hD'
 rcases List.mem_cons.1 hD' with rfl|hm
 ·exact⟨hD,hn⟩
 ·exact h3 D' hm
structure FRel [Bk] [Ev] (m:Nat→St) (A:Nat→Prop) (w:World) (f:List AV) (a:Act):Prop where
 size:a.tmps.size=f.length
 rd:∀(i:Nat) (x:AV),f[i]?=some x→Rd m A w x (a.tmps.getD i Go.undef)
 defers:Marks m w a.defers
theorem FRel.eval [Bk] [Ev] {m:Nat→St} {A:Nat→Prop} {w:World} {f:List AV} {a:Act} (h:FRel m A w f a) (o:Operand):Rd m A w (aev f o) (a.eval o):=by
 cases o with
 |tmp t =>
  simp only[aev,Act.eval]
  cases hf:f[t]? with
  |some x =>
   have:=h.rd t x hf
   rw[List.getD,hf];exact this
  |none =>
   have hs:a.tmps.size≤t:=by rw[h.size];exact List.getElem?_eq_none_iff.1 hf
   rw[List.getD,hf]
   have:a.tmps.getD t Go.undef=Go.undef:=by simp[Array.getElem?_eq_none hs]
   rw[this];exact .pure _ _ .undef
 |const v=>exact .pure _ _ (RdL_ofC _ w v)
 |global g=>exact .pure _ _ (.c _)
 |func k=>exact .pure _ _ (.fn _ [] [] #[] #[] rfl rfl (by intro i x h;simp at h) (by intro i x h;simp at h))
def fset (f:List AV):Option Tmp→AV→List AV
 |none,_=>f
 |some d,v=>f.set d v
theorem FRel.put [Bk] [Ev] {m m':Nat→St} {A:Nat→Prop} {w w':World} {f:List AV} {a:Act} (h:FRel m A w f a) (E:Ext m w m' w') {x:AV} {v:Value} (hv:Rd m' A w' x v) (d:Option Tmp):FRel m' A w' (fset f d x) (a.put d v):=by
 cases d with
 |none=>exact⟨h.size,fun i x hx=>(h.rd i x hx).ext E,h.defers.ext E⟩
 |some d =>
  refine⟨by simp[Act.put,fset,h.size],?_,h.defers.ext E⟩
  intro i y hy
  simp only[fset,Act.put]at hy ⊢
  rw[List.getElem?_set]at hy
  split at hy
  ·rename_i e
   subst e
   split at hy
   ·rename_i hl
    cases hy
    have:d<a.tmps.size:=by rw[h.size];exact hl
    simp[this];exact hv
   ·cases hy
  ·rename_i e
   have:(a.tmps.setIfInBounds d v).getD i Go.undef=a.tmps.getD i Go.undef:=by
    simp[Array.getElem?_setIfInBounds_ne e]
   rw[this]
   exact(h.rd i y hy).ext E
theorem FRel.ext [Bk] [Ev] {m m':Nat→St} {A:Nat→Prop} {w w':World} {f:List AV} {a:Act} (h:FRel m A w f a) (E:Ext m w m' w'):FRel m' A w' f a:=⟨h.size,fun i x hx=>(h.rd i x hx).ext E,h.defers.ext E⟩
def CR (R:AV→Value→Prop) (cs:List AV) (vs:Array Value):Prop:=vs.size=cs.length∧∀(i:Nat) (x:AV),cs[i]?=some x→x.one=true∧R x (vs.getD i Go.undef)
def cellsA:AV→Option (List AV)
 | .agg cs=>some cs
 |x=>if x.one then some [x]else none
theorem Value.cells_one [Bk] [Ev] {v:Value} (h:v.oneCell'=true):v.cells=#[v]:=by cases v<;>simp_all [Value.cells,Value.oneCell']
theorem CR_cells [Bk] [Ev] {m:Nat→St} {A:Nat→Prop} {w:World} {x:AV} {v:Value} {cs:List AV} (h:Rd m A w x v) (hc:cellsA x=some cs):CR (Rd m A w) cs v.cells:=by
 have one:∀(x:AV) (v:Value),Rd m A w x v→x.one=true→CR (Rd m A w) [x] v.cells:=by
  intro x v h h1
  rw[Value.cells_one (h.one h1)]
  refine⟨rfl,?_⟩
  intro i y hy
  cases i with
  |zero=>simp at hy;subst hy;exact⟨h1,h⟩
  |succ i=>simp at hy
 unfold cellsA at hc
 split at hc
 ·cases hc
  cases h with
  |pure _ _ h =>
   cases h with
   |agg _ vs hl h1 h=>exact⟨hl,fun i x hx=>⟨h1 i x hx,.pure _ _ (h i x hx)⟩⟩
  |agg _ vs hl h1 h=>exact⟨hl,fun i x hx=>⟨h1 i x hx,h i x hx⟩⟩
 ·split at hc
  ·rename_i h1
   cases hc
   exact one _ _ h h1
  ·cases hc
theorem CR.agg [Bk] [Ev] {m:Nat→St} {A:Nat→Prop} {w:World} {cs:List AV} {vs:Array Value} (h:CR (Rd m A w) cs vs):Rd m A w (.agg cs) (.agg vs):=.agg cs vs h.1 (fun i x hx=>(h.2 i x hx).1) fun i x hx=>(h.2 i x hx).2
def splice {α:Type} (cs:List α) (off:Nat) (xs:List α):List α:=cs.take off++xs++cs.drop (off+xs.length)
theorem splice_len [Bk] [Ev] {α:Type} {cs:List α} {off:Nat} {xs:List α} (h:off+xs.length≤cs.length):(splice cs off xs).length=cs.length:=by simp[splice];omega
theorem splice_get [Bk] [Ev] {α:Type} {cs:List α} {off:Nat} {xs:List α} (h:off+xs.length≤cs.length) (i:Nat):(splice cs off xs)[i]?=if off≤i∧i<off+xs.length then xs[i-off]? else cs[i]?:=by
 unfold splice
 by_cases h1:i<off
 ·rw[if_neg (by omega),List.append_assoc,List.getElem?_append_left (by simp;omega),List.getElem?_take];simp[h1]
 ·by_cases h2:i<off+xs.length
  ·rw[if_pos ⟨by omega,h2⟩,List.getElem?_append_left (by simp;omega),List.getElem?_append_right (by simp;omega)]
   congr 1;simp;omega
  ·rw[if_neg (by omega),List.getElem?_append_right (by simp;omega),List.getElem?_drop]
   congr 1;simp;omega
theorem foldl_set [Bk] [Ev] (us:List Value):∀(j0 off:Nat) (vs:Array Value),off+j0+us.length≤vs.size→((us.zipIdx j0).foldl (fun cs (c,j)=>cs.setIfInBounds (off+j) c) vs).size=vs.size ∧
  ∀k,((us.zipIdx j0).foldl (fun cs (c,j)=>cs.setIfInBounds (off+j) c) vs).getD k Go.undef=if off+j0≤k∧k<off+j0+us.length then us.getD (k-off-j0) Go.undef else vs.getD k Go.undef:=by
 induction us with
 |nil=>intro j0 off vs h;refine⟨rfl,fun k=>?_⟩;rw[if_neg (by simp)];rfl
 |cons u us ih =>
  intro j0 off vs h
  simp only[List.length_cons]at h
  simp only[List.zipIdx_cons,List.foldl_cons]
  obtain⟨h1,h2⟩:=ih (j0+1) off (vs.setIfInBounds (off+j0) u) (by simp;omega)
  refine⟨by rw[h1];simp,fun k=>?_⟩
  rw[h2 k]
  by_cases hk:k=off+j0
  ·subst hk
   rw[if_neg (by omega),if_pos ⟨by omega,by simp⟩]
   have:off+j0<vs.size:=by omega
   simp[this,show off+j0-off-j0=0 by omega]
  ·by_cases hk2:off+(j0+1)≤k∧k<off+(j0+1)+us.length
   ·rw[if_pos hk2,if_pos (by simp;omega)]
    have e:k-off-j0=(k-off-(j0+1))+1:=by omega
    rw[e,List.getD_cons_succ]
   ·rw[if_neg hk2,if_neg (by simp;omega)]
    simp[Array.getElem?_setIfInBounds_ne (show off+j0≠k by omega)]
theorem foldl_splice [Bk] [Ev] {R:AV→Value→Prop} {cs xs:List AV} {vs us:Array Value} {off:Nat} (h:CR R cs vs) (g:CR R xs us) (hl:off+xs.length≤cs.length) :
  CR R (splice cs off xs) (us.zipIdx.foldl (fun cs (c,j)=>cs.setIfInBounds (off+j) c) vs):=by
 have e:us.zipIdx.foldl (fun cs (c,j)=>cs.setIfInBounds (off+j) c) vs=(us.toList.zipIdx 0).foldl (fun cs (c,j)=>cs.setIfInBounds (off+j) c) vs:=by
  rw[←Array.foldl_toList];simp
 have hus:us.toList.length=xs.length:=by simpa using g.1
 obtain⟨h1,h2⟩:=foldl_set us.toList 0 off vs (by rw[hus,h.1];omega)
 refine⟨?_,?_⟩
 ·rw[e,h1,splice_len hl];exact h.1
 ·intro i x hx
  rw[splice_get hl]at hx
  rw[e,h2 i]
  split at hx
  ·rename_i hk
   rw[if_pos (by rw[hus];omega)]
   have:=g.2 _ _ hx
   refine⟨this.1,?_⟩
   have h3:us.toList.getD (i-off-0) Go.undef=us.getD (i-off) Go.undef:=by simp[List.getD]
   rw[h3];exact this.2
  ·rename_i hk
   rw[if_neg (by rw[hus];omega)]
   exact h.2 _ _ hx
def fillA (place:Nat→Option (Nat×Nat)) (cells:List AV):List (Nat×AV)→Option (List AV)
 |[]=>some cells
 |(i,x)::rest =>
  match place i,cellsA x with
  |some (off,size),some xs=>if xs.length=size∧off+xs.length≤cells.length then fillA place (splice cells off xs) rest else none
  |_,_=>none
theorem fillA_ok [Bk] [Ev] {m:Nat→St} {A:Nat→Prop} {w:World} (place:Nat→Option (Nat×Nat)):∀(ps:List (Nat×AV)) (qs:List (Nat×Value)) (cs out:List AV) (vs:Array Value),CR (Rd m A w) cs vs→ps.length=qs.length →
  (∀(i:Nat) (p:Nat×AV) (q:Nat×Value),ps[i]?=some p→qs[i]?=some q→p.1=q.1∧Rd m A w p.2 q.2)→fillA place cs ps=some out→∃us,Instr.fill place vs qs=some us∧CR (Rd m A w) out us
 |[],[],cs,out,vs,h,_,_,hf=>by simp only[fillA,Option.some.injEq]at hf;subst hf;exact⟨vs,rfl,h⟩
 |[],q::qs,_,_,_,_,hl,_,_=>by simp at hl
 |p::ps,[],_,_,_,_,hl,_,_=>by simp at hl
 |(i,x)::ps,(j,v)::qs,cs,out,vs,h,hl,hr,hf=>by
  obtain⟨e,hx⟩:=hr 0 (i,x) (j,v) rfl rfl
  simp only at e hx
  subst e
  simp only[fillA]at hf
  split at hf
  ·rename_i off size xs hp hc
   split at hf
   ·rename_i hcond
    have hcr:=CR_cells hx hc
    have hsz:v.cells.size=xs.length:=hcr.1
    have:=foldl_splice h hcr hcond.2
    obtain⟨us,hu,hcu⟩:=fillA_ok place ps qs _ out _ this (by simpa using hl) (fun k p q hp hq=>hr (k+1) p q (by simpa using hp) (by simpa using hq)) hf
    refine⟨us,?_,hcu⟩
    simp only[Instr.fill,hp]
    rw[if_neg]
    ·exact hu
    ·have h1:=h.1
     simp[hsz,hcond.1]
     omega
   ·cases hf
  ·cases hf
end Go.Proofs.Ytjccjmmbebiegaa.Mc
set_option linter.unusedVariables false
set_option linter.unusedSimpArgs false
namespace Go.Proofs.Ytjccjmmbebiegaa.Mc
open Go.RowKit
abbrev AH:=Nat→Blk
structure AR where
 v:AV
 ups:List (Nat×Blk):=[]
 rds:List Nat:=[]
def upsB (h:AH):List (Nat×Blk)→AH
 |[]=>h
 |(i,b)::r=>upsB (bset h i b) r
def OpOk [Bk] [Ev] (P:Program) (o:Oper) (f:List AV) (h:AH) (r:AR):Prop :=
 ∀m A w a,HRel m A h w→FRel m A w f a→∃x w' m',((execOp a.eval o).run P w=.ok (.value x) w'∨((execOp a.eval o).run P w=.ok .skip w'∧x=Go.undef)) ∧
  HRel m' A (upsB h r.ups) w'∧Rd m' A w' r.v x∧Ext m w m' w'
section
variable {P:Program} {o:Oper} {f:List AV} {h:AH}
theorem op_pure [Bk] [Ev] {v:AV} {rds:List Nat} (k:∀m A w a,HRel m A h w→FRel m A w f a→∃x,(execOp a.eval o).run P w=.ok (.value x) w∧Rd m A w v x):OpOk P o f h ⟨v,[],rds⟩:=by
 intro m A w a H F
 obtain⟨x,h1,h2⟩:=k m A w a H F
 exact⟨x,w,m,.inl h1,H,h2,Ext.refl m w⟩
theorem op_move [Bk] [Ev] {x:Operand} (ho:o.op=.move x):OpOk P o f h ⟨aev f x,[],[]⟩ :=
 op_pure fun m A w a H F=>⟨a.eval x,by simp[execOp,ho],F.eval x⟩
theorem op_assign [Bk] [Ev] {x:Operand} (ho:o.op=.assign x):OpOk P o f h ⟨aev f x,[],[]⟩ :=
 op_pure fun m A w a H F=>⟨a.eval x,by simp[execOp,ho],F.eval x⟩
theorem Rd.bool [Bk] [Ev] {m:Nat→St} {A:Nat→Prop} {w:World} {b:Bool} {v:Value} (h:Rd m A w (.c (.bool b)) v):v=.bool b:=by
 cases h with|pure _ _ h=>cases h;rfl
theorem Rd.o_inv [Bk] [Ev] {m:Nat→St} {A:Nat→Prop} {w:World} {i:Nat} {v:Value} (h:Rd m A w (.o i) v):v=Ev.val i:=by
 cases h with|pure _ _ h=>cases h;rfl
theorem Rd.c_inv [Bk] [Ev] {m:Nat→St} {A:Nat→Prop} {w:World} {u v:Value} (h:Rd m A w (.c u) v):v=u:=by
 cases h with|pure _ _ h=>cases h;rfl
theorem op_pick [Bk] [Ev] {c x y:Operand} {b:Bool} (ho:o.op=.pick c x y) (hc:aev f c=.c (.bool b)):OpOk P o f h ⟨bif b then aev f x else aev f y,[],[]⟩:=by
 refine op_pure fun m A w a H F=>?_
 have h1:=F.eval c
 rw[hc]at h1
 have h2:=h1.bool
 cases b
 ·exact⟨a.eval y,by simp[execOp,ho,h2,asBool],F.eval y⟩
 ·exact⟨a.eval x,by simp[execOp,ho,h2,asBool],F.eval x⟩
theorem alloc_one [Bk] [Ev] {m:Nat→St} {A:Nat→Prop} {w:World} (H:HRel m A h w) {id T:Nat} {cs:List AV} {vs:Array Value} (hid:h id=.no) (hc:CR (Rd m A w) cs vs) :
  HRel (sset m id (.at w.heap.size)) A (bset h id (.cells T cs.length [cs])) (w.alloc (.cells vs T))∧Ext m w (sset m id (.at w.heap.size)) (w.alloc (.cells vs T))∧Rd (sset m id (.at w.heap.size)) A (w.alloc (.cells vs T)) (.ptr cs.length id 0 0) (.pointer (some ⟨w.heap.size,0,none⟩)):=by
 obtain⟨h1,h2⟩:=H.alloc (id:=id) (T:=T) (sz:=cs.length) (els:=[cs]) (cs:=vs) hid (by simp[hc.1]) (by simp) (by
  intro i j x hx
  cases i with
  |zero =>
   simp only[at2,List.getElem?_cons_zero,Option.bind_some]at hx
   rw[Nat.zero_mul,Nat.zero_add]
   exact hc.2 j x hx
  |succ i=>simp[at2]at hx)
 refine⟨h1,h2,?_⟩
 have:=Rd.ptr (m:=sset m id (.at w.heap.size)) (A:=A) (w:=w.alloc (.cells vs T)) cs.length id 0 0 w.heap.size (by simp[sset]) (by simp)
 simpa using this
theorem op_box [Bk] [Ev] {e:TypeId} {x:Operand} {cs:List AV} {id:Nat} (ho:o.op=.box e x) (hc:cellsA (aev f x)=some cs) (hid:h id=.no):OpOk P o f h ⟨.ptr cs.length id 0 0,[(id,.cells e cs.length [cs])],[id]⟩:=by
 intro m A w a H F
 obtain⟨h1,h2,h3⟩:=alloc_one H (T:=e) hid (CR_cells (F.eval x) hc)
 refine⟨_,_,_,.inl ?_,h1,h3,h2⟩
 simp[execOp,ho,Instr.box,newVar,newRow]
theorem op_alloc [Bk] [Ev] {e:TypeId} {cs:List AV} {id:Nat} {i:TypeInfo} {z:Value} (ho:o.op=.alloc e) (hi:P.info? e=some i) (hz:i.zero=some z) (hc:cellsA (ofC z)=some cs) (hid:h id=.no):OpOk P o f h ⟨.ptr cs.length id 0 0,[(id,.cells e cs.length [cs])],[id]⟩:=by
 intro m A w a H F
 obtain⟨h1,h2,h3⟩:=alloc_one H (T:=e) hid (CR_cells (.pure _ _ (RdL_ofC _ w z)) hc)
 refine⟨_,_,_,.inl ?_,h1,h3,h2⟩
 simp[execOp,ho,Instr.alloc,zeroValue,typeInfo,hi,hz,newVar,newRow]
def partA (P:Program) (t:TypeId) (cs:List AV) (off:Nat):Option AV :=
 match P.underlying t with
 |some (.struct _)|some (.array _ _)=>match P.info? t with
  |some i=>if off+i.size≤cs.length then some (.agg ((cs.drop off).take i.size))else none
  |none=>none
 |some _=>cs[off]?
 |none=>none
theorem isAgg_run [Bk] [Ev] (t:TypeId) (w:World) {d:TypeDesc} (h:P.underlying t=some d):(isAgg t).run P w=.ok (match d with | .struct _ | .array _ _=>true|_=>false) w:=by
 simp only[isAgg,Sem.run_bind,run_underlying h,Result.andThen_ok]
 cases d<;>simp
theorem loadVar_ok [Bk] [Ev] {m:Nat→St} {A:Nat→Prop} {w:World} {t:TypeId} {cs:List AV} {off:Nat} {x:AV} (hp:partA P t cs off=some x) {b o0:Nat} {vs:Nat→Value} (hv:∀j y,cs[j]?=some y→y.one=true∧w.cell? ⟨b,o0+j,none⟩=some (vs j)∧Rd m A w y (vs j)) :
  ∃v,(loadVar t ⟨b,o0+off,none⟩).run P w=.ok v w∧Rd m A w x v:=by
 unfold partA at hp
 have agg:∀(i:TypeInfo),P.info? t=some i→off+i.size≤cs.length→∃v:Array Value,(loadCells ⟨b,o0+off,none⟩ i.size).run P w=.ok v w∧Rd m A w (.agg ((cs.drop off).take i.size)) (.agg v):=by
  intro i hi hle
  refine⟨_,run_loadCells w _ i.size (fun j=>vs (off+j)) ?_,?_⟩
  ·intro j hj
   have:(⟨b,o0+off,none⟩:Addr).add j=⟨b,o0+(off+j),none⟩:=by unfold Addr.add;split<;>simp_all<;>omega
   rw[this]
   have hg:cs[off+j]?=some cs[off+j]:=by simp[List.getElem?_eq_getElem (show off+j<cs.length by omega)]
   exact(hv _ _ hg).2.1
  ·refine .agg _ _ (by simp;omega) ?_ ?_
   ·intro j y hy
    rw[List.getElem?_take,List.getElem?_drop]at hy
    split at hy
    ·exact(hv _ _ hy).1
    ·cases hy
   ·intro j y hy
    rw[List.getElem?_take,List.getElem?_drop]at hy
    split at hy
    ·rename_i hj
     have:=(hv _ _ hy).2.2
     simpa[hj]using this
    ·cases hy
 split at hp
 ·rename_i fs hu
  cases hi:P.info? t with
  |none=>simp[hi]at hp
  |some i =>
   simp only[hi]at hp
   split at hp
   ·rename_i hle
    cases hp
    obtain⟨v,h1,h2⟩:=agg i hi hle
    refine⟨_,?_,h2⟩
    simp[loadVar,isAgg_run t w hu,sizeOf,typeInfo,hi,h1]
   ·cases hp
 ·rename_i n e hu
  cases hi:P.info? t with
  |none=>simp[hi]at hp
  |some i =>
   simp only[hi]at hp
   split at hp
   ·rename_i hle
    cases hp
    obtain⟨v,h1,h2⟩:=agg i hi hle
    refine⟨_,?_,h2⟩
    simp[loadVar,isAgg_run t w hu,sizeOf,typeInfo,hi,h1]
   ·cases hp
 ·rename_i d hn1 hn2 hu
  obtain⟨h1,h2,h3⟩:=hv _ _ hp
  refine⟨_,?_,h3⟩
  have:(isAgg t).run P w=.ok false w:=by
   rw[isAgg_run t w hu]
   cases d<;>first|rfl|(exact absurd rfl (hn1 _))|(exact absurd rfl (hn2 _ _))
  simp[loadVar,this,load,Sem.run,h2]
 ·cases hp
theorem Rd.at_ptr [Bk] [Ev] {m:Nat→St} {A:Nat→Prop} {w:World} {sz id i off b:Nat} {u:Value} (h:Rd m A w (.ptr sz id i off) u) (g:m id=.at b):u=.pointer (some ⟨b,i*sz+off,none⟩):=by
 cases h with
 |pure _ _ h=>cases h
 |ptr _ _ _ _ b' hm hb=>rw[g]at hm;cases hm;rfl
 |ptrd _ _ _ _ u hm=>rw[g]at hm;cases hm
theorem Rd.at_own [Bk] [Ev] {m:Nat→St} {A:Nat→Prop} {w:World} {T sz id i n b:Nat} {u:Value} (h:Rd m A w (.own T sz id i n) u) (g:m id=.at b) :
  ∃cap,u=.slice (some ⟨b,i*sz,none⟩) n cap∧n≤cap∧cap≤maxLen∧(i+cap)*sz=rowSize w b:=by
 cases h with
 |pure _ _ h=>cases h
 |own _ _ _ _ _ b' cap hm hb hn hc hr=>rw[g]at hm;cases hm;exact⟨cap,rfl,hn,hc,hr⟩
 |ownv _ _ _ _ _ hm=>rw[g]at hm;cases hm
 |ownd _ _ _ _ _ _ _ _ hm=>rw[g]at hm;cases hm
theorem op_load_ptr [Bk] [Ev] {t:TypeId} {x:Operand} {T sz id i off:Nat} {els:List (List AV)} {e:List AV} {v:AV} (ho:o.op=.load t x) (hx:aev f x=.ptr sz id i off) (hh:h id=.cells T sz els) (he:els[i]?=some e) (hp:partA P t e off=some v) :
  OpOk P o f h ⟨v,[],[id]⟩:=by
 refine op_pure fun m A w a H F=>?_
 have h1:=F.eval x
 rw[hx]at h1
 obtain⟨b,cs,g1,g2,g3,g4,g5⟩:=H.block hh he
 have hv:=h1.at_ptr g1
 obtain⟨u,r1,r2⟩:=loadVar_ok (P:=P) (m:=m) (A:=A) (w:=w) (b:=b) (o0:=i*sz) (vs:=fun j=>cs.getD (i*sz+j) Go.undef) hp (by
  intro j y hy
  have ha:at2 els i j=some y:=by simp[at2,he,hy]
  obtain⟨k1,k2⟩:=g5 i j y ha
  refine⟨k1,?_,k2⟩
  have:=(at2_len ha g4).2.2
  have hlt:i*sz+j<cs.size:=by omega
  simp[World.cell?,g2,hlt])
 exact⟨u,by simp[execOp,ho,hv,Instr.loadAt,Instr.sureAddr,r1],r2⟩
theorem op_load_lptr [Bk] [Ev] {t:TypeId} {x:Operand} {sz i off:Nat} {els:List (List AV)} {e:List AV} {v:AV} (ho:o.op=.load t x) (hx:aev f x=.lptr sz els i off) (he:els[i]?=some e) (hp:partA P t e off=some v) :
  OpOk P o f h ⟨v,[],[]⟩:=by
 refine op_pure fun m A w a H F=>?_
 have h1:=F.eval x
 rw[hx]at h1
 cases h1 with
 |pure _ u h1 =>
  generalize hau:a.eval x=u at h1
  cases h1 with
  |lptr _ _ _ _ b o0 vs hA hb hsz k1 kv kr =>
   obtain⟨u,r1,r2⟩:=loadVar_ok (P:=P) (m:=m) (A:=A) (w:=w) (b:=b) (o0:=o0+i*sz) (vs:=vs i) hp (by
    intro j y hy
    have ha:at2 els i j=some y:=by simp[at2,he,hy]
    refine⟨k1 i j y ha,?_,.pure _ _ (kr i j y ha)⟩
    have:=kv i j y ha
    rw[←this];congr 2;omega)
   refine⟨u,?_,r2⟩
   have e1:o0+(i*sz+off)=o0+i*sz+off:=by omega
   simp[execOp,ho,hau,Instr.loadAt,Instr.sureAddr,e1,r1]
theorem store_ok [Bk] [Ev] {m:Nat→St} {A:Nat→Prop} {w:World} (H:HRel m A h w) {T sz id i off b:Nat} {els:List (List AV)} {e xs:List AV} {us:Array Value} (hh:h id=.cells T sz els) (hm:m id=.at b) (he:els[i]?=some e) (hx:CR (Rd m A w) xs us) (hl:off+xs.length≤sz) :
  ∃w',(storeCells ⟨b,i*sz+off,none⟩ us.toList).run P w=.ok () w'∧HRel m A (bset h id (.cells T sz (els.set i (splice e off xs)))) w'∧Ext m w m w':=by
 obtain⟨b',cs,g1,g2,g3,g4,g5⟩:=H.block hh he
 rw[hm]at g1;cases g1
 have hi:i<els.length:=(List.getElem?_eq_some_iff.1 he).1
 have hel:e.length=sz:=g4 e (List.mem_of_getElem? he)
 have hmul:(i+1)*sz≤els.length*sz:=Nat.mul_le_mul_right _ hi
 rw[Nat.succ_mul]at hmul
 have hul:us.toList.length=xs.length:=by simpa using hx.1
 have hfit:i*sz+off+0+us.toList.length≤cs.size:=by rw[hul];omega
 have h1:∀v∈us.toList,v.oneCell'=true:=by
  intro v hv
  obtain⟨k,hk,rfl⟩:=List.getElem_of_mem hv
  have hk':k<xs.length:=by omega
  have:=hx.2 k xs[k] (by simp[hk'])
  have:=this.2.one this.1
  simpa[show k<us.size by simpa using hk]using this
 have hst:=run_storeCells_at P b (i*sz+off) T us.toList 0 cs w g2 hfit h1
 refine⟨_,hst,?_⟩
 have hsz:(cs.toList.take (i*sz+off+0)++us.toList++cs.toList.drop (i*sz+off+0+us.toList.length)).toArray.size=cs.size:=by simp only[List.size_toArray,List.length_append,List.length_take,List.length_drop,hul,Array.length_toList];rw[hul]at hfit;omega
 have hget:∀k,(cs.toList.take (i*sz+off+0)++us.toList++cs.toList.drop (i*sz+off+0+us.toList.length)).toArray.getD k Go.undef=if i*sz+off≤k∧k<i*sz+off+xs.length then us.getD (k-(i*sz+off)) Go.undef else cs.getD k Go.undef:=by
  intro k
  have:=splice_get (cs:=cs.toList) (off:=i*sz+off) (xs:=us.toList) (by simpa using hfit) k
  unfold splice at this
  have e1:∀(l:List Value),l.toArray.getD k Go.undef=(l[k]?).getD Go.undef:=by intro l;simp
  rw[e1,Nat.add_zero,this,hul]
  split
  ·simp
  ·simp
 refine H.write (els':=els.set i (splice e off xs)) hh hm (setRow_heap w b cs _ T _ g2) g2 hsz (fun k hk=>setRow_other w b k _ hk) rfl rfl rfl (by simp) ?_ ?_ ?_
 ·rw[hsz,List.length_set];exact g3
 ·intro e' he'
  rcases List.mem_or_eq_of_mem_set he' with h|h
  ·exact g4 _ h
  ·subst h;rw[splice_len (by omega)];exact hel
 ·intro i' j x hx'
  unfold at2 at hx'
  rw[List.getElem?_set]at hx'
  split at hx'
  ·rename_i hii
   subst hii
   simp only[hi,if_true,Option.bind_some]at hx'
   rw[splice_get (by omega)]at hx'
   rw[hget]
   split at hx'
   ·rename_i hj
    rw[if_pos (by omega)]
    have:=hx.2 _ _ hx'
    refine⟨this.1,?_⟩
    rw[show i*sz+j-(i*sz+off)=j-off by omega];exact this.2
   ·rename_i hj
    rw[if_neg (by omega)]
    exact g5 i j x (by simp[at2,he,hx'])
  ·rename_i hii
   have ha:at2 els i' j=some x:=hx'
   have hb:=at2_len ha g4
   rw[hget,if_neg]
   ·exact g5 i' j x ha
   ·rintro⟨k1,k2⟩
    rcases Nat.lt_or_ge i' i with hlt|hge
    ·have:(i'+1)*sz≤i*sz:=Nat.mul_le_mul_right _ hlt
     rw[Nat.succ_mul]at this
     omega
    ·have:(i+1)*sz≤i'*sz:=Nat.mul_le_mul_right _ (by omega)
     rw[Nat.succ_mul]at this
     omega
theorem op_store [Bk] [Ev] {t:TypeId} {x y:Operand} {T sz id i off:Nat} {els:List (List AV)} {e xs:List AV} (ho:o.op=.store t x y) (hx:aev f x=.ptr sz id i off) (hh:h id=.cells T sz els) (he:els[i]?=some e) (hy:cellsA (aev f y)=some xs)
  (ht:(P.info? t).map (·.size)=some xs.length) (hl:off+xs.length≤sz):OpOk P o f h ⟨.undef,[(id,.cells T sz (els.set i (splice e off xs)))],[id]⟩:=by
 intro m A w a H F
 obtain⟨b,cs,g1,-⟩:=H.block hh he
 have h1:=F.eval x
 rw[hx]at h1
 have hv:=h1.at_ptr g1
 have hc:=CR_cells (F.eval y) hy
 obtain⟨w',r1,r2,r3⟩:=store_ok (P:=P) H hh g1 he hc hl
 cases hi:P.info? t with
 |none=>simp[hi]at ht
 |some ti =>
  simp only[hi,Option.map_some,Option.some.injEq]at ht
  refine⟨Go.undef,w',m,.inr ⟨?_,rfl⟩,r2,.pure _ _ .undef,r3⟩
  have hs:(a.eval y).cells.size=xs.length:=hc.1
  simp[execOp,ho,hv,Instr.storeAt,Instr.sureAddr,storeVar,sizeOf,typeInfo,hi,ht,hs,r1]
theorem op_nilCheck_ptr [Bk] [Ev] {x:Operand} {T s sz id i off:Nat} {els:List (List AV)} {e:List AV} (ho:o.op=.nilCheck x) (hx:aev f x=.ptr sz id i off) (hh:h id=.cells T s els) (he:els[i]?=some e):OpOk P o f h ⟨.ptr sz id i off,[],[id]⟩:=by
 refine op_pure fun m A w a H F=>?_
 obtain⟨b,cs,g1,-⟩:=H.block hh he
 have h1:=F.eval x
 rw[hx]at h1
 have hv:=h1.at_ptr g1
 refine⟨a.eval x,?_,h1⟩
 rw[hv]
 simp[execOp,ho,hv]
theorem op_nilCheck_lptr [Bk] [Ev] {x:Operand} {sz i off:Nat} {els:List (List AV)} (ho:o.op=.nilCheck x) (hx:aev f x=.lptr sz els i off):OpOk P o f h ⟨.lptr sz els i off,[],[]⟩:=by
 refine op_pure fun m A w a H F=>?_
 have h1:=F.eval x
 rw[hx]at h1
 generalize hau:a.eval x=u at h1
 have h2:=h1
 cases h1 with
 |pure _ u h1=>cases h1 with
  |lptr=>exact⟨_,by simp[execOp,ho,hau],h2⟩
theorem op_nilCheck_fn [Bk] [Ev] {x:Operand} {k:FuncId} {xs ys:List AV} (ho:o.op=.nilCheck x) (hx:aev f x=.fn (.func k) xs ys):OpOk P o f h ⟨.fn (.func k) xs ys,[],[]⟩:=by
 refine op_pure fun m A w a H F=>?_
 have h1:=F.eval x
 rw[hx]at h1
 generalize hau:a.eval x=u at h1
 have h2:=h1
 cases h1 with
 |pure _ u h1=>cases h1 with
  |fn=>exact⟨_,by simp[execOp,ho,hau],h2⟩
 |fn=>exact⟨_,by simp[execOp,ho,hau],h2⟩
def binV (op:BinOp):Value→Value→Option Value
 | .int k x,.int k' y =>
  match op with
  | .shl=>if y<0 then none else some (.int k (k.wrap (x*2 ^ (min y.toNat k.bits))))
  | .shr=>if y<0 then none else some (.int k (x.fdiv (2 ^ (min y.toNat k.bits))))
  |_=>if k=k' then
    match op with
    | .add=>some (.int k (k.wrap (x+y)))
    | .sub=>some (.int k (k.wrap (x-y)))
    | .mul=>some (.int k (k.wrap (x*y)))
    | .quo=>if y=0 then none else some (.int k (k.wrap (x.tdiv y)))
    | .rem=>if y=0 then none else some (.int k (x.tmod y))
    | .eql=>some (.bool (x==y))
    | .neq=>some (.bool (x != y))
    | .lss=>some (.bool (x<y))
    | .leq=>some (.bool (x≤y))
    | .gtr=>some (.bool (x > y))
    | .geq=>some (.bool (x ≥ y))
    |_=>none
   else none
 | .string x,.string y =>
  match op with
  | .eql=>some (.bool (x.toList==y.toList))
  | .neq=>some (.bool (!(x.toList==y.toList)))
  | .add=>if x.size+y.size≤9223372036854775807 then some (.string (x++y))else none
  |_=>none
 |_,_=>none
theorem op_bin [Bk] [Ev] {op:BinOp} {t ty:TypeId} {x y:Operand} {u v r:Value} (ho:o.op=.binOp op t x y ty) (hx:aev f x=.c u) (hy:aev f y=.c v) (hr:binV op u v=some r):OpOk P o f h ⟨.c r,[],[]⟩:=by
 refine op_pure fun m A w a H F=>?_
 have h1:=F.eval x
 have h2:=F.eval y
 rw[hx]at h1;rw[hy]at h2
 have e1:=h1.c_inv
 have e2:=h2.c_inv
 refine⟨r,?_,.pure _ _ (.c r)⟩
 cases u with
 |int k p =>
  cases v with
  |int k' q =>
   have hg:(eqGuard op t x y (.int k p) (.int k' q)).run P w=.ok () w:=by
    unfold eqGuard
    split<;>simp
   cases op<;>simp only[binV]at hr<;>(try (split at hr<;>try (cases hr;done)))<;>(try (split at hr<;>try (cases hr;done)))<;>(try cases hr) <;>
    simp_all [execOp,binOp,Op.intArith,Op.intDiv,Op.intCmp,Op.shift]<;>(intro _;omega)
  |_=>cases op<;>simp[binV]at hr
 |string p =>
  cases v with
  |string q =>
   have hg:(eqGuard op t x y (.string p) (.string q)).run P w=.ok () w:=by
    unfold eqGuard
    split<;>simp
   cases op<;>simp only[binV]at hr<;>(try (split at hr<;>try (cases hr;done)))<;>(try cases hr) <;>
    simp_all [execOp,binOp,Op.stringOp]<;>omega
  |_=>cases op<;>simp[binV]at hr
 |_=>cases op<;>simp[binV]at hr
theorem run_equalIn_bool [Bk] [Ev] (d:Nat) {t:TypeId} {p q:Bool} (hu:P.underlying t=some .bool) (w:World):(Op.equalIn (d+1) t (.bool p) (.bool q)).run P w=.ok (p==q) w:=by
 simp[Op.equalIn,run_underlying hu]
theorem op_bool [Bk] [Ev] {op:BinOp} {t ty:TypeId} {x y:Operand} {p q:Bool} (ho:o.op=.binOp op t x y ty) (hx:aev f x=.c (.bool p)) (hy:aev f y=.c (.bool q)) (hu:P.underlying t=some .bool) (hop:op=.eql∨op=.neq) :
  OpOk P o f h ⟨.c (.bool (if op=.eql then p==q else !(p==q))),[],[]⟩:=by
 refine op_pure fun m A w a H F=>?_
 have h1:=F.eval x
 have h2:=F.eval y
 rw[hx]at h1;rw[hy]at h2
 have e1:=h1.c_inv
 have e2:=h2.c_inv
 refine⟨_,?_,.pure _ _ (.c _)⟩
 have hg:(eqGuard op t x y (.bool p) (.bool q)).run P w=.ok () w:=by
  unfold eqGuard
  split<;>simp
 have he:(Op.equal t (.bool p) (.bool q)).run P w=.ok (p==q) w:=run_equalIn_bool 9999 hu w
 rcases hop with rfl|rfl<;>simp[execOp,ho,e1,e2,hg,binOp,he]
def unV (op:UnOp):Value→Option Value
 | .int k x=>match op with | .neg=>some (.int k (k.wrap (0-x)))|_=>none
 | .bool b=>match op with | .not=>some (.bool !b)|_=>none
 |_=>none
theorem op_un [Bk] [Ev] {op:UnOp} {t:TypeId} {x:Operand} {u r:Value} (ho:o.op=.unOp op t x) (hx:aev f x=.c u) (hr:unV op u=some r):OpOk P o f h ⟨.c r,[],[]⟩:=by
 refine op_pure fun m A w a H F=>?_
 have h1:=F.eval x
 rw[hx]at h1
 have e1:=h1.c_inv
 refine⟨r,?_,.pure _ _ (.c r)⟩
 cases u<;>cases op<;>simp[unV]at hr<;>subst hr<;>simp[execOp,ho,e1,Op.unary,Op.intArith]
def mkE [Bk] (p:Poly):AV :=
 let b:=bnd p
 if b.1=b.2 then .c (.int .i64 b.1)else .e p
theorem RdL_mkE [Bk] [Ev] (A:Nat→Prop) (w:World) (p:Poly):RdL A w (mkE p) (.int .i64 (pev Ev.rho p)):=by
 have k:=bnd_ok p
 unfold mkE
 simp only
 split
 ·have:pev Ev.rho p=(bnd p).1:=by omega
  rw[this];exact .c _
 ·exact .e p
theorem one_mkE [Bk] [Ev] (p:Poly):(mkE p).one=true:=by
 unfold mkE
 simp only
 split<;>rfl
def toP:AV→Option Poly
 | .e p=>some p
 | .c (.int .i64 n)=>some (plit n)
 |_=>none
theorem toP_ok [Bk] [Ev] {x:AV} {p:Poly} (hp:toP x=some p) {m:Nat→St} {A:Nat→Prop} {w:World} {v:Value} (h:Rd m A w x v):v=.int .i64 (pev Ev.rho p):=by
 unfold toP at hp
 split at hp
 ·cases hp
  cases h with|pure _ _ h=>cases h;rfl
 ·cases hp
  rw[pev_plit];exact h.c_inv
 ·cases hp
def symV [Bk] (op:BinOp) (p q:Poly):Option AV :=
 match op with
 | .add=>let r:=padd p q;if inB r then some (mkE r)else none
 | .sub=>let r:=psub p q;if inB r then some (mkE r)else none
 | .mul=>let r:=pmul p q;if inB r then some (mkE r)else none
 | .quo=>if nzB q then match findD 0 p q Bk.defs with
   |some r=>if inB r then some (mkE r)else none
   |none=>none
  else none
 | .rem=>if nzB q then match findD 1 p q Bk.defs with
   |some r=>some (mkE r)
   |none=>none
  else none
 | .eql=>(eqB (psub p q)).map fun b=>.c (.bool b)
 | .neq=>(eqB (psub p q)).map fun b=>.c (.bool !b)
 | .lss=>(ltB (psub p q)).map fun b=>.c (.bool b)
 | .geq=>(ltB (psub p q)).map fun b=>.c (.bool !b)
 | .gtr=>(ltB (psub q p)).map fun b=>.c (.bool b)
 | .leq=>(ltB (psub q p)).map fun b=>.c (.bool !b)
 |_=>none
theorem op_sym [Bk] [Ev] {op:BinOp} {t ty:TypeId} {x y:Operand} {p q:Poly} {r:AV} (ho:o.op=.binOp op t x y ty) (hx:toP (aev f x)=some p) (hy:toP (aev f y)=some q) (hr:symV op p q=some r):OpOk P o f h ⟨r,[],[]⟩:=by
 refine op_pure fun m A w a H F=>?_
 have e1:=toP_ok hx (F.eval x)
 have e2:=toP_ok hy (F.eval y)
 have hg:(eqGuard op t x y (.int .i64 (pev Ev.rho p)) (.int .i64 (pev Ev.rho q))).run P w=.ok () w:=by
  unfold eqGuard
  split<;>simp
 have fit:∀r:Poly,inB r=true→IntKind.i64.wrap (pev Ev.rho r)=pev Ev.rho r:=fun r h=>IntWalk.i64_in _ (by have:=inB_ok h;omega)
 have rd:∀r:Poly,Rd m A w (mkE r) (.int .i64 (pev Ev.rho r)):=fun r=>.pure _ _ (RdL_mkE _ w r)
 cases op<;>simp only[symV]at hr
 case add =>
  split at hr
  ·rename_i hb;cases hr
   refine⟨_,?_,rd _⟩
   have:=fit _ hb
   rw[pev_padd]at this
   simp[execOp,ho,e1,e2,hg,binOp,Op.intArith,pev_padd,this]
  ·cases hr
 case sub =>
  split at hr
  ·rename_i hb;cases hr
   refine⟨_,?_,rd _⟩
   have:=fit _ hb
   rw[pev_psub]at this
   simp[execOp,ho,e1,e2,hg,binOp,Op.intArith,pev_psub,this]
  ·cases hr
 case mul =>
  split at hr
  ·rename_i hb;cases hr
   refine⟨_,?_,rd _⟩
   have:=fit _ hb
   rw[pev_pmul]at this
   simp[execOp,ho,e1,e2,hg,binOp,Op.intArith,pev_pmul,this]
  ·cases hr
 case quo =>
  split at hr
  ·rename_i hz
   split at hr
   ·rename_i r0 hf
    split at hr
    ·rename_i hb;cases hr
     refine⟨_,?_,rd _⟩
     have:=fit _ hb
     have hd:pev Ev.rho r0=(pev Ev.rho p).tdiv (pev Ev.rho q):=(Ev.defs _ (findD_ok hf)).1 rfl
     have hne:=nzB_ok hz
     rw[hd]at this
     simp[execOp,ho,e1,e2,hg,binOp,Op.intDiv,hd,this,hne]
    ·cases hr
   ·cases hr
  ·cases hr
 case rem =>
  split at hr
  ·rename_i hz
   split at hr
   ·rename_i r0 hf
    cases hr
    refine⟨_,?_,rd _⟩
    have hd:pev Ev.rho r0=(pev Ev.rho p).tmod (pev Ev.rho q):=(Ev.defs _ (findD_ok hf)).2.1 rfl
    have hne:=nzB_ok hz
    simp[execOp,ho,e1,e2,hg,binOp,Op.intDiv,hd,hne]
   ·cases hr
  ·cases hr
 all_goals (try (cases hr;done))
 all_goals (rw[Option.map_eq_some_iff]at hr;obtain⟨b,hb,rfl⟩:=hr)
 case eql =>
  have k:=eqB_ok hb
  rw[pev_psub]at k
  refine⟨.bool b,?_,.pure _ _ (.c _)⟩
  have e:(pev Ev.rho p==pev Ev.rho q)=b:=by rw[k,Bool.eq_iff_iff];simp<;>omega
  simp[execOp,ho,e1,e2,hg,binOp,Op.intCmp,e]
 case neq =>
  have k:=eqB_ok hb
  rw[pev_psub]at k
  refine⟨.bool !b,?_,.pure _ _ (.c _)⟩
  have e:(pev Ev.rho p==pev Ev.rho q)=b:=by rw[k,Bool.eq_iff_iff];simp<;>omega
  simp[execOp,ho,e1,e2,hg,binOp,Op.intCmp,bne,e]
 case lss =>
  have k:=ltB_ok hb
  rw[pev_psub]at k
  refine⟨.bool b,?_,.pure _ _ (.c _)⟩
  have e:decide (pev Ev.rho p<pev Ev.rho q)=b:=by rw[k,Bool.eq_iff_iff];simp<;>omega
  simp[execOp,ho,e1,e2,hg,binOp,Op.intCmp,e]
 case geq =>
  have k:=ltB_ok hb
  rw[pev_psub]at k
  refine⟨.bool !b,?_,.pure _ _ (.c _)⟩
  have e:decide (pev Ev.rho q≤pev Ev.rho p)=!b:=by rw[k,Bool.eq_iff_iff];simp<;>omega
  simp[execOp,ho,e1,e2,hg,binOp,Op.intCmp,e]
 case gtr =>
  have k:=ltB_ok hb
  rw[pev_psub]at k
  refine⟨.bool b,?_,.pure _ _ (.c _)⟩
  have e:decide (pev Ev.rho q<pev Ev.rho p)=b:=by rw[k,Bool.eq_iff_iff];simp<;>omega
  simp[execOp,ho,e1,e2,hg,binOp,Op.intCmp,e]
 case leq =>
  have k:=ltB_ok hb
  rw[pev_psub]at k
  refine⟨.bool !b,?_,.pure _ _ (.c _)⟩
  have e:decide (pev Ev.rho p≤pev Ev.rho q)=!b:=by rw[k,Bool.eq_iff_iff];simp<;>omega
  simp[execOp,ho,e1,e2,hg,binOp,Op.intCmp,e]
theorem op_symNeg [Bk] [Ev] {t:TypeId} {x:Operand} {p:Poly} (ho:o.op=.unOp .neg t x) (hx:aev f x=.e p) (hr:inB (pscale (-1) p)=true):OpOk P o f h ⟨mkE (pscale (-1) p),[],[]⟩:=by
 refine op_pure fun m A w a H F=>?_
 have h1:=F.eval x
 rw[hx]at h1
 have e1:=toP_ok (x:=.e p) rfl h1
 refine⟨_,?_,.pure _ _ (RdL_mkE _ w _)⟩
 have k:=inB_ok hr
 have:=IntWalk.i64_in (pev Ev.rho (pscale (-1) p)) (by omega)
 rw[pev_pscale]at this
 have e:0-pev Ev.rho p=-1*pev Ev.rho p:=by omega
 have e3:IntKind.i64.wrap (-pev Ev.rho p)=-pev Ev.rho p:=by
  have e4:-1*pev Ev.rho p=-pev Ev.rho p:=by omega
  rw[e4]at this;exact this
 simp[execOp,ho,e1,Op.unary,Op.intArith,pev_pscale,e3]
end
end Go.Proofs.Ytjccjmmbebiegaa.Mc
set_option linter.unusedVariables false
set_option linter.unusedSimpArgs false
namespace Go.Proofs.Ytjccjmmbebiegaa.Mc
open Go.RowKit
section
variable {P:Program} {o:Oper} {f:List AV} {h:AH}
theorem addr_add [Bk] [Ev] (b o j:Nat):(⟨b,o,none⟩:Addr).add j=⟨b,o+j,none⟩:=by unfold Addr.add;split<;>simp_all
theorem Rd.lit_inv [Bk] [Ev] {m:Nat→St} {A:Nat→Prop} {w:World} {sz:Nat} {els:List (List AV)} {u:Value} (h:Rd m A w (.lit sz els) u) :
  (els=[]∧∃a cap,u=.slice a 0 cap)∨∃b off cap,∃vs:Nat→Nat→Value,u=.slice (some ⟨b,off,none⟩) els.length cap∧¬ Av m A b∧b<w.heap.size∧els.length≤cap∧(∀e∈els,e.length=sz)∧(∀(i j:Nat) (x:AV),at2 els i j=some x→x.one=true) ∧
   (∀(i j:Nat) (x:AV),at2 els i j=some x→w.cell? ⟨b,off+(i*sz+j),none⟩=some (vs i j))∧∀(i j:Nat) (x:AV),at2 els i j=some x→RdL (Av m A) w x (vs i j):=by
 cases h with
 |pure _ _ h =>
  cases h with
  |lit _ _ b off cap vs hA hb hc hsz h1 hv hr=>exact .inr ⟨b,off,cap,vs,rfl,hA,hb,hc.1,hsz,h1,hv,hr⟩
  |lit0 _ a cap hm=>exact .inl ⟨rfl,a,cap,rfl⟩
theorem Rd.lit_max [Bk] [Ev] {m:Nat→St} {A:Nat→Prop} {w:World} {sz n cap:Nat} {a:Option Addr} {els:List (List AV)} (h:Rd m A w (.lit sz els) (.slice a n cap)):cap≤maxLen:=by
 cases h with
 |pure _ _ h =>
  cases h with
  |lit _ _ b off cap vs hA hb hc=>exact hc.2
  |lit0 _ a cap hm=>exact hm
theorem Rd.lptr_inv [Bk] [Ev] {m:Nat→St} {A:Nat→Prop} {w:World} {sz i0 j0:Nat} {els:List (List AV)} {u:Value} (h:Rd m A w (.lptr sz els i0 j0) u) :
  ∃b off,∃vs:Nat→Nat→Value,u=.pointer (some ⟨b,off+(i0*sz+j0),none⟩)∧∀i j,Rd m A w (.lptr sz els i j) (.pointer (some ⟨b,off+(i*sz+j),none⟩)):=by
 cases h with
 |pure _ _ h =>
  cases h with
  |lptr _ _ _ _ b off vs hA hb hsz h1 hv hr=>exact⟨b,off,vs,rfl,fun i j=>.pure _ _ (.lptr sz els i j b off vs hA hb hsz h1 hv hr)⟩
def fieldOf (P:Program) (t:TypeId) (k:Nat):Option (TypeId×Nat×Nat) :=
 match P.underlying t with
 |some (.struct fs)=>match fs[k]? with
  |some fd=>(P.info? fd.type).map fun i=>(fd.type,fd.offset,i.size)
  |none=>none
 |_=>none
theorem fieldAt_run [Bk] [Ev] {t k ty off n:Nat} (hf:fieldOf P t k=some (ty,off,n)) (hn:n≠0) (b o':Nat) (w:World):(Instr.fieldAt t (.pointer (some ⟨b,o',none⟩)) k).run P w=.ok (.pointer (some ⟨b,o'+off,none⟩)) w:=by
 unfold fieldOf at hf
 split at hf
 ·rename_i fs hu
  split at hf
  ·rename_i fd hfd
   cases hi:P.info? fd.type with
   |none=>simp[hi]at hf
   |some i =>
    simp only[hi,Option.map_some,Option.some.injEq,Prod.mk.injEq]at hf
    obtain⟨rfl,rfl,rfl⟩:=hf
    simp[Instr.fieldAt,run_underlying hu,hfd,Instr.sureAddr,fieldPlace,sizeOf,typeInfo,hi,hn,addr_add]
  ·cases hf
 ·cases hf
theorem op_fieldAddr_ptr [Bk] [Ev] {t:TypeId} {x:Operand} {k ty o' n T sz id i off:Nat} {els:List (List AV)} {e:List AV} (ho:o.op=.fieldAddr t x k) (hx:aev f x=.ptr sz id i off) (hh:h id=.cells T sz els) (he:els[i]?=some e) (hf:fieldOf P t k=some (ty,o',n)) (hn:n≠0) :
  OpOk P o f h ⟨.ptr sz id i (off+o'),[],[id]⟩:=by
 refine op_pure fun m A w a H F=>?_
 have h1:=F.eval x
 rw[hx]at h1
 obtain⟨b,cs,g1,-⟩:=H.block hh he
 have hv:=h1.at_ptr g1
 refine⟨.pointer (some ⟨b,i*sz+off+o',none⟩),by simp[execOp,ho,hv,fieldAt_run hf hn],?_⟩
 have:=Rd.ptr (m:=m) (A:=A) (w:=w) sz id i (off+o') b g1 (H.lt g1)
 rwa[←Nat.add_assoc]at this
theorem op_fieldAddr_lptr [Bk] [Ev] {t:TypeId} {x:Operand} {k ty o' n sz i off:Nat} {els:List (List AV)} (ho:o.op=.fieldAddr t x k) (hx:aev f x=.lptr sz els i off) (hf:fieldOf P t k=some (ty,o',n)) (hn:n≠0) :
  OpOk P o f h ⟨.lptr sz els i (off+o'),[],[]⟩:=by
 refine op_pure fun m A w a H F=>?_
 have h1:=F.eval x
 rw[hx]at h1
 obtain⟨b,o0,vs,hv,hr⟩:=h1.lptr_inv
 refine⟨.pointer (some ⟨b,o0+(i*sz+off)+o',none⟩),by simp[execOp,ho,hv,fieldAt_run hf hn],?_⟩
 have:=hr i (off+o')
 rw[show o0+(i*sz+(off+o'))=o0+(i*sz+off)+o' by omega]at this
 exact this
theorem op_indexAddr_lit [Bk] [Ev] {t e:TypeId} {x ix:Operand} {sz:Nat} {els:List (List AV)} {k:IntKind} {n:Int} (ho:o.op=.indexAddr t x ix) (hx:aev f x=.lit sz els) (hi:aev f ix=.c (.int k n)) (hu:P.underlying t=some (.slice e)) (hs:(P.info? e).map (·.size)=some sz) (h0:0≤n) (hn:n.toNat<els.length) :
  OpOk P o f h ⟨.lptr sz els n.toNat 0,[],[]⟩:=by
 refine op_pure fun m A w a H F=>?_
 have h1:=F.eval x
 rw[hx]at h1
 have h2:=F.eval ix
 rw[hi]at h2
 have e2:=h2.c_inv
 obtain⟨rfl,-⟩|⟨b,off,cap,vs,hv,hA,hb,hc,hsz,k1,kv,kr⟩:=h1.lit_inv
 ·simp at hn
 ·cases hp:P.info? e with
  |none=>simp[hp]at hs
  |some ti =>
   simp only[hp,Option.map_some,Option.some.injEq]at hs
   have hlt:n<(els.length:Int):=by omega
   refine⟨.pointer (some ⟨b,off+(n.toNat*sz+0),none⟩),?_,.pure _ _ (.lptr sz els _ 0 b off vs hA hb hsz k1 kv kr)⟩
   simp[execOp,ho,hv,e2,Instr.indexAt,asIntOf,run_underlying hu,h0,hlt,sizeOf,typeInfo,hp,hs,addr_add]
theorem op_indexAddr_own [Bk] [Ev] {t e:TypeId} {x ix:Operand} {T sz id i n':Nat} {els:List (List AV)} {el:List AV} {k:IntKind} {n:Int} (ho:o.op=.indexAddr t x ix) (hx:aev f x=.own T sz id i n') (hh:h id=.cells T sz els) (hi:aev f ix=.c (.int k n)) (hu:P.underlying t=some (.slice e)) (hs:(P.info? e).map (·.size)=some sz) (h0:0≤n) (hn:n.toNat<n') (he:els[i+n.toNat]?=some el) :
  OpOk P o f h ⟨.ptr sz id (i+n.toNat) 0,[],[id]⟩:=by
 refine op_pure fun m A w a H F=>?_
 have h1:=F.eval x
 rw[hx]at h1
 have h2:=F.eval ix
 rw[hi]at h2
 have e2:=h2.c_inv
 obtain⟨b,cs,g1,-⟩:=H.block hh he
 obtain⟨cap,hv,-⟩:=h1.at_own g1
 cases hp:P.info? e with
 |none=>simp[hp]at hs
 |some ti =>
  simp only[hp,Option.map_some,Option.some.injEq]at hs
  have hlt:n<(n':Int):=by omega
  refine⟨.pointer (some ⟨b,(i+n.toNat)*sz+0,none⟩),?_,.ptr sz id _ 0 b g1 (H.lt g1)⟩
  simp[execOp,ho,hv,e2,Instr.indexAt,asIntOf,run_underlying hu,h0,hlt,sizeOf,typeInfo,hp,hs,addr_add,Nat.add_mul]
theorem op_indexAddr_arr [Bk] [Ev] {t e:TypeId} {x ix:Operand} {T sz id i off len s:Nat} {els:List (List AV)} {el:List AV} {k:IntKind} {n:Int} (ho:o.op=.indexAddr t x ix) (hx:aev f x=.ptr sz id i off) (hh:h id=.cells T sz els) (he:els[i]?=some el) (hi:aev f ix=.c (.int k n)) (hu:P.underlying t=some (.array len e)) (hs:(P.info? e).map (·.size)=some s) (h0:0≤n) (hn:n.toNat<len) :
  OpOk P o f h ⟨.ptr sz id i (off+n.toNat*s),[],[id]⟩:=by
 refine op_pure fun m A w a H F=>?_
 have h1:=F.eval x
 rw[hx]at h1
 have h2:=F.eval ix
 rw[hi]at h2
 have e2:=h2.c_inv
 obtain⟨b,cs,g1,-⟩:=H.block hh he
 have hv:=h1.at_ptr g1
 cases hp:P.info? e with
 |none=>simp[hp]at hs
 |some ti =>
  simp only[hp,Option.map_some,Option.some.injEq]at hs
  have hlt:n<(len:Int):=by omega
  refine⟨.pointer (some ⟨b,i*sz+(off+n.toNat*s),none⟩),?_,.ptr sz id _ _ b g1 (H.lt g1)⟩
  simp[execOp,ho,hv,e2,Instr.indexAt,asIntOf,run_underlying hu,h0,hlt,sizeOf,typeInfo,hp,hs,addr_add,Instr.sureAddr,Nat.add_assoc]
theorem op_indexAddr_larr [Bk] [Ev] {t e:TypeId} {x ix:Operand} {sz i off len s:Nat} {els:List (List AV)} {k:IntKind} {n:Int} (ho:o.op=.indexAddr t x ix) (hx:aev f x=.lptr sz els i off) (hi:aev f ix=.c (.int k n)) (hu:P.underlying t=some (.array len e)) (hs:(P.info? e).map (·.size)=some s) (h0:0≤n) (hn:n.toNat<len) :
  OpOk P o f h ⟨.lptr sz els i (off+n.toNat*s),[],[]⟩:=by
 refine op_pure fun m A w a H F=>?_
 have h1:=F.eval x
 rw[hx]at h1
 have h2:=F.eval ix
 rw[hi]at h2
 have e2:=h2.c_inv
 obtain⟨b,o0,vs,hv,hr⟩:=h1.lptr_inv
 cases hp:P.info? e with
 |none=>simp[hp]at hs
 |some ti =>
  simp only[hp,Option.map_some,Option.some.injEq]at hs
  have hlt:n<(len:Int):=by omega
  refine⟨_,?_,hr i (off+n.toNat*s)⟩
  simp[execOp,ho,hv,e2,Instr.indexAt,asIntOf,run_underlying hu,h0,hlt,sizeOf,typeInfo,hp,hs,addr_add,Instr.sureAddr,Nat.add_assoc]
theorem part_ok [Bk] [Ev] {m:Nat→St} {A:Nat→Prop} {w:World} {t:TypeId} {cs:List AV} {vs:Array Value} {off:Nat} {x:AV} (hc:CR (Rd m A w) cs vs) (hp:partA P t cs off=some x):∃v,(part t vs off).run P w=.ok v w∧Rd m A w x v:=by
 unfold partA at hp
 have agg:∀(i:TypeInfo),off+i.size≤cs.length→Rd m A w (.agg ((cs.drop off).take i.size)) (.agg (vs.extract off (off+i.size))):=by
  intro i hle
  refine .agg _ _ (by have:=hc.1;simp;omega) ?_ ?_
  ·intro j y hy
   rw[List.getElem?_take,List.getElem?_drop]at hy
   split at hy
   ·exact(hc.2 _ _ hy).1
   ·cases hy
  ·intro j y hy
   rw[List.getElem?_take,List.getElem?_drop]at hy
   split at hy
   ·rename_i hj
    have h2:=(hc.2 _ _ hy).2
    have e1:(vs.extract off (off+i.size)).getD j Go.undef=vs.getD (off+j) Go.undef:=by
     have:=hc.1
     have hlt:off+j<vs.size:=by omega
     have hlt2:j<min (off+i.size) vs.size-off:=by omega
     simp[Array.getElem?_extract,hj,hlt2,hlt]
    rw[e1];exact h2
   ·cases hy
 split at hp
 ·rename_i fs hu
  cases hi:P.info? t with
  |none=>simp[hi]at hp
  |some i =>
   simp only[hi]at hp
   split at hp
   ·rename_i hle
    cases hp
    exact⟨_,by simp[part,isAgg_run t w hu,sizeOf,typeInfo,hi],agg i hle⟩
   ·cases hp
 ·rename_i n e hu
  cases hi:P.info? t with
  |none=>simp[hi]at hp
  |some i =>
   simp only[hi]at hp
   split at hp
   ·rename_i hle
    cases hp
    exact⟨_,by simp[part,isAgg_run t w hu,sizeOf,typeInfo,hi],agg i hle⟩
   ·cases hp
 ·rename_i d hn1 hn2 hu
  have h2:=hc.2 _ _ hp
  have hlt:off<vs.size:=by rw[hc.1];exact(List.getElem?_eq_some_iff.1 hp).1
  have:(isAgg t).run P w=.ok false w:=by
   rw[isAgg_run t w hu]
   cases d<;>first|rfl|(exact absurd rfl (hn1 _))|(exact absurd rfl (hn2 _ _))
  refine⟨vs.getD off Go.undef,?_,h2.2⟩
  simp[part,this,hlt]
 ·cases hp
theorem Rd.agg_inv [Bk] [Ev] {m:Nat→St} {A:Nat→Prop} {w:World} {cs:List AV} {u:Value} (h:Rd m A w (.agg cs) u):∃vs,u=.agg vs∧CR (Rd m A w) cs vs:=by
 cases h with
 |pure _ _ h =>
  cases h with
  |agg _ vs hl h1 h=>exact⟨vs,rfl,hl,fun i x hx=>⟨h1 i x hx,.pure _ _ (h i x hx)⟩⟩
 |agg _ vs hl h1 h=>exact⟨vs,rfl,hl,fun i x hx=>⟨h1 i x hx,h i x hx⟩⟩
theorem Rd.tup_inv [Bk] [Ev] {m:Nat→St} {A:Nat→Prop} {w:World} {cs:List AV} {u:Value} (h:Rd m A w (.tup cs) u):∃vs,u=.tuple vs∧vs.size=cs.length∧∀(i:Nat) (x:AV),cs[i]?=some x→Rd m A w x (vs.getD i Go.undef):=by
 cases h with
 |pure _ _ h =>
  cases h with
  |tup _ vs hl h=>exact⟨vs,rfl,hl,fun i x hx=>.pure _ _ (h i x hx)⟩
 |tup _ vs hl h=>exact⟨vs,rfl,hl,h⟩
theorem op_field [Bk] [Ev] {t:TypeId} {x:Operand} {k ty o' n:Nat} {cs:List AV} {v:AV} (ho:o.op=.field t x k) (hx:aev f x=.agg cs) (hf:fieldOf P t k=some (ty,o',n)) (hp:partA P ty cs o'=some v):OpOk P o f h ⟨v,[],[]⟩:=by
 refine op_pure fun m A w a H F=>?_
 have h1:=F.eval x
 rw[hx]at h1
 obtain⟨vs,hv,hc⟩:=h1.agg_inv
 obtain⟨r,r1,r2⟩:=part_ok (P:=P) hc hp
 unfold fieldOf at hf
 split at hf
 ·rename_i fs hu
  split at hf
  ·rename_i fd hfd
   cases hi:P.info? fd.type with
   |none=>simp[hi]at hf
   |some i =>
    simp only[hi,Option.map_some,Option.some.injEq,Prod.mk.injEq]at hf
    obtain⟨rfl,rfl,rfl⟩:=hf
    exact⟨r,by simp[execOp,ho,hv,Instr.field,run_underlying hu,hfd,asAgg,r1],r2⟩
  ·cases hf
 ·cases hf
theorem op_index_arr [Bk] [Ev] {t e:TypeId} {x ix:Operand} {len s:Nat} {cs:List AV} {k:IntKind} {n:Int} {v:AV} (ho:o.op=.index t x ix) (hx:aev f x=.agg cs) (hi:aev f ix=.c (.int k n)) (hu:P.underlying t=some (.array len e)) (hs:(P.info? e).map (·.size)=some s) (h0:0≤n) (hn:n.toNat<len) (hp:partA P e cs (n.toNat*s)=some v) :
  OpOk P o f h ⟨v,[],[]⟩:=by
 refine op_pure fun m A w a H F=>?_
 have h1:=F.eval x
 rw[hx]at h1
 have h2:=F.eval ix
 rw[hi]at h2
 have e2:=h2.c_inv
 obtain⟨vs,hv,hc⟩:=h1.agg_inv
 obtain⟨r,r1,r2⟩:=part_ok (P:=P) hc hp
 cases hp:P.info? e with
 |none=>simp[hp]at hs
 |some ti =>
  simp only[hp,Option.map_some,Option.some.injEq]at hs
  have hlt:n<(len:Int):=by omega
  exact⟨r,by simp[execOp,ho,hv,e2,Instr.index,asIntOf,run_underlying hu,h0,hlt,sizeOf,typeInfo,hp,hs,r1],r2⟩
theorem op_index_str [Bk] [Ev] {t:TypeId} {x ix:Operand} {s:ByteArray} {k:IntKind} {n:Int} {b:UInt8} (ho:o.op=.index t x ix) (hx:aev f x=.c (.string s)) (hi:aev f ix=.c (.int k n)) (hu:P.underlying t=some .string) (h0:0≤n) (hb:s[n.toNat]?=some b) :
  OpOk P o f h ⟨.c (.int .u8 b.toNat),[],[]⟩:=by
 refine op_pure fun m A w a H F=>?_
 have h1:=F.eval x
 rw[hx]at h1
 have h2:=F.eval ix
 rw[hi]at h2
 have e1:=h1.c_inv
 have e2:=h2.c_inv
 exact⟨_,by simp[execOp,ho,e1,e2,Instr.index,asIntOf,run_underlying hu,h0,hb],.pure _ _ (.c _)⟩
theorem op_extract [Bk] [Ev] {x:Operand} {k:Nat} {vs:List AV} {v:AV} (ho:o.op=.extract x k) (hx:aev f x=.tup vs) (hv:vs[k]?=some v):OpOk P o f h ⟨v,[],[]⟩:=by
 refine op_pure fun m A w a H F=>?_
 have h1:=F.eval x
 rw[hx]at h1
 obtain⟨us,hu,hl,hr⟩:=h1.tup_inv
 have hlt:k<us.size:=by rw[hl];exact(List.getElem?_eq_some_iff.1 hv).1
 refine⟨us.getD k Go.undef,?_,hr k v hv⟩
 simp[execOp,ho,hu,Instr.extract,hlt]
def builtA (P:Program) (t:TypeId) (parts:List (Nat×AV)):Option (List AV) :=
 match P.info? t,P.underlying t with
 |some it,some (.array _ e) =>
  match (it.zero.map ofC).bind cellsA,P.info? e with
  |some z,some ie=>fillA (fun i=>some (i*ie.size,ie.size)) z parts
  |_,_=>none
 |some it,some (.struct fields) =>
  match (it.zero.map ofC).bind cellsA,fields.toList.mapM (fun f=>(P.info? f.type).map fun i=>(f.offset,i.size))with
  |some z,some places=>fillA (places.toArray[·]?) z parts
  |_,_=>none
 |_,_=>none
theorem built_ok [Bk] [Ev] {m:Nat→St} {A:Nat→Prop} {w:World} {t:TypeId} {ps:List (Nat×AV)} {qs:List (Nat×Value)} {cs:List AV} (hl:ps.length=qs.length) (hr:∀(i:Nat) (p:Nat×AV) (q:Nat×Value),ps[i]?=some p→qs[i]?=some q→p.1=q.1∧Rd m A w p.2 q.2) (hb:builtA P t ps=some cs) :
  ∃us,P.built t qs=some us∧CR (Rd m A w) cs us:=by
 unfold builtA at hb
 unfold Program.built
 split at hb
 ·rename_i it len e h1 h2
  rw[h1,h2]
  simp only
  cases hz:it.zero with
  |none=>simp[hz]at hb
  |some z =>
   cases hie:P.info? e with
   |none=>simp[hz,hie]at hb
   |some ie =>
    cases hc:cellsA (ofC z)with
    |none=>simp[hz,hie,hc]at hb
    |some zc =>
     simp only[hz,hie,hc,Option.map_some,Option.bind_some]at hb
     exact fillA_ok _ ps qs zc cs z.cells (CR_cells (.pure _ _ (RdL_ofC _ w z)) hc) hl hr hb
 ·rename_i it fields h1 h2
  rw[h1,h2]
  simp only
  cases hz:it.zero with
  |none=>simp[hz]at hb
  |some z =>
   cases hpl:fields.toList.mapM (fun f=>(P.info? f.type).map fun i=>(f.offset,i.size))with
   |none=>simp[hz,hpl]at hb
   |some places =>
    cases hc:cellsA (ofC z)with
    |none=>simp[hz,hpl,hc]at hb
    |some zc =>
     simp only[hz,hpl,hc,Option.map_some,Option.bind_some]at hb
     exact fillA_ok _ ps qs zc cs z.cells (CR_cells (.pure _ _ (RdL_ofC _ w z)) hc) hl hr hb
 ·cases hb
theorem parts_rel [Bk] [Ev] {m:Nat→St} {A:Nat→Prop} {w:World} {a:Act} (F:FRel m A w f a) (parts:Array (Nat×Operand)):∀(i:Nat) (p:Nat×AV) (q:Nat×Value),(parts.toList.map fun p=>(p.1,aev f p.2))[i]?=some p→(parts.map fun p=>(p.1,a.eval p.2)).toList[i]?=some q→p.1=q.1∧Rd m A w p.2 q.2:=by
 intro i p q hp hq
 rw[List.getElem?_map]at hp
 rw[Array.toList_map,List.getElem?_map]at hq
 cases hi:parts.toList[i]? with
 |none=>rw[hi]at hp;cases hp
 |some y =>
  rw[hi]at hp hq
  simp only[Option.map_some,Option.some.injEq]at hp hq
  subst hp;subst hq
  exact⟨rfl,F.eval y.2⟩
theorem op_build [Bk] [Ev] {t:TypeId} {parts:Array (Nat×Operand)} {cs:List AV} (ho:o.op=.build t parts) (hb:builtA P t (parts.toList.map fun p=>(p.1,aev f p.2))=some cs):OpOk P o f h ⟨.agg cs,[],[]⟩:=by
 refine op_pure fun m A w a H F=>?_
 obtain⟨us,h1,h2⟩:=built_ok (P:=P) (m:=m) (A:=A) (w:=w) (qs:=(parts.map fun p=>(p.1,a.eval p.2)).toList) (by simp) (parts_rel F parts) hb
 refine⟨.agg us,?_,h2.agg⟩
 have:=run_build (P:=P) w t (parts.map fun p=>(p.1,a.eval p.2)) us h1
 simp[execOp,ho,this]
theorem op_makeInterface [Bk] [Ev] {t:TypeId} {x:Operand} (ho:o.op=.makeInterface t x) (ht:P.concrete t=true):OpOk P o f h ⟨.ifc t (aev f x),[],[]⟩:=by
 refine op_pure fun m A w a H F=>⟨.iface t (a.eval x),by simp[execOp,ho,run_makeInterface w t (a.eval x) ht],.ifc t _ _ (F.eval x)⟩
theorem map_rel [Bk] [Ev] {m:Nat→St} {A:Nat→Prop} {w:World} {a:Act} (F:FRel m A w f a) (xs:Array Operand):∀(i:Nat) (x:AV),(xs.toList.map (aev f))[i]?=some x→Rd m A w x ((xs.map a.eval).getD i Go.undef):=by
 intro i x hx
 rw[List.getElem?_map]at hx
 cases hi:xs.toList[i]? with
 |none=>rw[hi]at hx;cases hx
 |some y =>
  rw[hi]at hx
  simp only[Option.map_some,Option.some.injEq]at hx
  subst hx
  have hlt:i<xs.size:=by simpa using(List.getElem?_eq_some_iff.1 hi).1
  have hy:xs[i]=y:=by have:=(List.getElem?_eq_some_iff.1 hi).2;simpa using this
  have:(xs.map a.eval).getD i Go.undef=a.eval y:=by simp[hlt,hy]
  rw[this];exact F.eval y
theorem op_makeFunc [Bk] [Ev] {fn:Fn} {first captured:Array Operand} (ho:o.op=.makeFunc fn first captured):OpOk P o f h ⟨.fn fn (first.toList.map (aev f)) (captured.toList.map (aev f)),[],[]⟩:=by
 refine op_pure fun m A w a H F=>⟨.func fn (first.map a.eval) (captured.map a.eval),by simp[execOp,ho,Instr.makeFunc],?_⟩
 exact .fn fn _ _ _ _ (by simp) (by simp) (map_rel F first) (map_rel F captured)
theorem op_convert_int [Bk] [Ev] {s d:TypeId} {x:Operand} {k k':IntKind} {n:Int} {ds:TypeDesc} (ho:o.op=.convert s d x) (hx:aev f x=.c (.int k n)) (hs:P.underlying s=some ds) (hd:P.underlying d=some (.int k')):OpOk P o f h ⟨.c (.int k' (k'.wrap n)),[],[]⟩:=by
 refine op_pure fun m A w a H F=>?_
 have h1:=F.eval x
 rw[hx]at h1
 have e1:=h1.c_inv
 exact⟨_,by simp[execOp,ho,e1,convert,run_underlying hs,run_underlying hd,Conv.intToInt],.pure _ _ (.c _)⟩
theorem op_convert_str [Bk] [Ev] {s d:TypeId} {x:Operand} {b:ByteArray} {ds:TypeDesc} (ho:o.op=.convert s d x) (hx:aev f x=.c (.string b)) (hs:P.underlying s=some ds) (hd:P.underlying d=some .string):OpOk P o f h ⟨.c (.string b),[],[]⟩:=by
 refine op_pure fun m A w a H F=>?_
 have h1:=F.eval x
 rw[hx]at h1
 have e1:=h1.c_inv
 exact⟨_,by simp[execOp,ho,e1,convert,run_underlying hs,run_underlying hd],.pure _ _ (.c _)⟩
theorem op_convert_sym [Bk] [Ev] {s d:TypeId} {x:Operand} {p:Poly} {ds:TypeDesc} (ho:o.op=.convert s d x) (hx:aev f x=.e p) (hs:P.underlying s=some ds) (hd:P.underlying d=some (.int .i64)) (hb:inB p=true):OpOk P o f h ⟨.e p,[],[]⟩:=by
 refine op_pure fun m A w a H F=>?_
 have h1:=F.eval x
 rw[hx]at h1
 have e1:=toP_ok (x:=.e p) rfl h1
 have:=IntWalk.i64_in (pev Ev.rho p) (by have:=inB_ok hb;omega)
 exact⟨_,by simp[execOp,ho,e1,convert,run_underlying hs,run_underlying hd,Conv.intToInt,this],.pure _ _ (.e p)⟩
theorem Rd.row_inv [Bk] [Ev] {m:Nat→St} {A:Nat→Prop} {w:World} {n:Poly} {xs:List Poly} {u:Value} (h:Rd m A w (.row n xs) u) :
  (pev Ev.rho n=0∧∃a cap,u=.slice a 0 cap)∨∃b off len cap,u=.slice (some ⟨b,off,none⟩) len cap∧pev Ev.rho n=(len:Nat)∧¬ Av m A b∧b<w.heap.size∧∀(j:Nat) (p:Poly),xs[j]?=some p→j<len→w.cell? ⟨b,off+j,none⟩=some (.int .i64 (pev Ev.rho p)):=by
 cases h with
 |pure _ _ h =>
  cases h with
  |row _ _ b off len cap hn hc hA hb hv=>exact .inr ⟨b,off,len,cap,rfl,hn,hA,hb,hv⟩
  |row0 _ _ a cap hn=>exact .inl ⟨hn,a,cap,rfl⟩
theorem op_indexAddr_row [Bk] [Ev] {t e:TypeId} {x ix:Operand} {N p:Poly} {xs:List Poly} {k:IntKind} {n:Int} (ho:o.op=.indexAddr t x ix) (hx:aev f x=.row N xs) (hi:aev f ix=.c (.int k n)) (hu:P.underlying t=some (.slice e)) (hs:(P.info? e).map (·.size)=some 1) (h0:0≤n) (hn:ltB (psub (plit n) N)=some true) (hp:xs[n.toNat]?=some p) :
  OpOk P o f h ⟨.lptr 1 [[mkE p]] 0 0,[],[]⟩:=by
 refine op_pure fun m A w a H F=>?_
 have h1:=F.eval x
 rw[hx]at h1
 have h2:=F.eval ix
 rw[hi]at h2
 have e2:=h2.c_inv
 have hlt:=ltB_ok hn
 rw[pev_psub,pev_plit,eq_comm,decide_eq_true_eq]at hlt
 obtain⟨hz,-⟩|⟨b,off,len,cap,hv,hl,hA,hb,hc⟩:=h1.row_inv
 ·omega
 ·have hcell:=hc _ _ hp (by omega)
  cases hpi:P.info? e with
  |none=>simp[hpi]at hs
  |some ti =>
   simp only[hpi,Option.map_some,Option.some.injEq]at hs
   have hlt2:n<(len:Int):=by omega
   refine⟨.pointer (some ⟨b,(off+n.toNat)+(0*1+0),none⟩),?_,.pure _ _ (.lptr 1 _ 0 0 b (off+n.toNat) (fun _ _=>.int .i64 (pev Ev.rho p)) hA hb ?_ ?_ ?_ ?_)⟩
   ·simp[execOp,ho,hv,e2,Instr.indexAt,asIntOf,run_underlying hu,h0,hlt2,sizeOf,typeInfo,hpi,hs,addr_add]
   ·intro q hq;simp at hq;subst hq;rfl
   ·intro i j y hy
    rcases i with _|i
    ·rcases j with _|j
     ·simp[at2]at hy;subst hy;exact one_mkE p
     ·simp[at2]at hy
    ·simp[at2]at hy
   ·intro i j y hy
    rcases i with _|i
    ·rcases j with _|j
     ·simpa using hcell
     ·simp[at2]at hy
    ·simp[at2]at hy
   ·intro i j y hy
    rcases i with _|i
    ·rcases j with _|j
     ·simp[at2]at hy;subst hy;exact RdL_mkE _ w p
     ·simp[at2]at hy
    ·simp[at2]at hy
end
end Go.Proofs.Ytjccjmmbebiegaa.Mc
