/-
 Texts joined and made small by wip/small.sh.
-/
import Derived.WalkKit
import Derived.Orders
import Derived.Maps.AppendAt
import Derived.Below
import Derived.Great.BuildSlice
import Derived.Laws.MakeOwn
import Derived.Laws.CopyRow
import Derived.IntWalk
import Derived.Laws.Slices
import Derived.Laws.OwnMore
import Derived.Laws.StructEq
import Derived.OrdersIn
import Derived.RangeFuncRecord
import Derived.MapKept
set_option linter.all false
set_option maxHeartbeats 4000000
namespace Go.Proofs.YtnepgggkgnckcaaGreat
def a0a:=@List.mem_of_getElem?
def a0b:=@List.not_mem_nil
def a0c:=@List.getD_eq_getElem?_getD
def a0d:=@List.mem_cons
def a0e:=@Bool.and_eq_true
def a0f:=@List.getElem?_eq_getElem
def a0g:=@Nat.le_refl
def a0h:=@Int.le_refl
def a0i:=@Option.some.injEq
def a0j:=@List.mem_map
def a0k:=@List.all_eq_true
def a0l:=@List.getElem?_map
def a0m:=@List.mem_append
def a0n:=@Nat.zero_le
def a0o:=@List.getElem?_set
def a0p:=@List.sum_cons
def a0q:=@Int.mul_nonneg
def a0r:=@List.map_cons
def a0s:=@Option.map_some
def a0t:=@List.mem_range
def a0u:=@List.take_add_one
def a0v:=@List.length_cons
def a0w:=@List.length_map
def a0x:=@Nat.lt_of_lt_of_le
def a0y:=@List.getElem?_eq_some_iff
def a0z:=@Nat.lt_or_ge
def a00:=@Int.toNat_natCast
def a01:=@List.map_congr_left
def a02:=@Nat.zero_add
def a03:=@List.map_append
def a04:=@List.getElem?_eq_none
def a05:=@List.mem_singleton
def a06:=@List.mem_cons_of_mem
def a07:=@Int.mul_assoc
def a08:=@List.mem_or_eq_of_mem_set
def a09:=@List.map_set
def a1a:=@List.filter_append
def a1b:=@List.mem_cons_self
def a1c:=@Option.map_eq_some_iff
def a1d:=@List.length_set
def a1e:=@Int.mul_add
def a1f:=@List.length_eq_zero_iff
def a1g:=@List.take_length
def a1h:=@List.sum_append
def a1i:=@Int.add_zero
def a1j:=@Int.mul_comm
def a1k:=@Nat.le_trans
def a1l:=@List.take_of_length_le
def a1m:=@List.filter_cons
def a1n:=@Int.add_mul
def a1o:=@List.length_append
def a1p:=@Option.bind_some
def a1q:=@Nat.mul_le_mul_right
def a1r:=@List.append_nil
def a1s:=@List.mem_iff_getElem?
def a1t:=@List.any_eq_false
def a1u:=@List.any_eq_true
def a1v:=@List.range_succ
def a1w:=@Int.toNat_of_nonneg
def a1x:=@List.map_nil
def a1y:=@List.forall_mem_cons
def a1z:=@Array.getElem?_append
def a10:=@List.mem_replicate
def a11:=@Int.mul_le_mul_of_nonneg_left
def a12:=@List.getElem?_append_left
def a13:=@Prod.mk.injEq
def a14:=@List.getElem?_append_right
def a15:=@Bool.or_eq_true
def a16:=@List.map_map
def a17:=@List.length_take
def a18:=@Option.map_none
def a19:=@List.getElem?_take
def a2a:=@List.cons_append
def a2b:=@List.pairwise_cons
def a2c:=@List.pairwise_append
def a2d:=@List.mem_flatMap
def a2e:=@List.sum_nil
def a2f:=@List.map_id
def a2g:=@Int.le_trans
def a2h:=@Nat.succ_mul
def a2i:=@Bool.false_eq_true
def a2j:=@List.take_append_drop
def a2k:=@Int.mul_le_mul_of_nonneg_right
def a2l:=@List.foldl_cons
def a2m:=@List.mem_of_mem_take
def a2n:=@Int.emod_nonneg
def a2o:=@Int.ediv_nonneg
def a2p:=@Array.getElem?_eq_some_iff
def a2q:=@Nat.add_zero
def a2r:=@Nat.add_assoc
def a2s:=@List.flatten_cons
def a2t:=@Nat.sub_self
def a2u:=@Int.lt_or_le
def a2v:=@Int.zero_add
def a2w:=@List.getElem_mem
def a2x:=@List.getElem_cons_drop
def a2y:=@Nat.add_mul
def a2z:=@Nat.mul_comm
def a20:=@List.length_nil
def a21:=@List.mem_of_mem_drop
def a22:=@Option.getD_some
def a23:=@List.pairwise_lt_range
def a24:=@List.getElem?_eq_none_iff
def a25:=@Int.ediv_le_of_le_mul
def a26:=@List.ext_getElem
def a27:=@Int.add_assoc
def a28:=@Int.sub_mul
def a29:=@Int.natCast_add
def a3a:=@List.getElem?_set_ne
def a3b:=@List.getElem?_drop
def a3c:=@Nat.mod_lt
def a3d:=@List.length_pos_iff
def a3e:=@List.append_assoc
def a3f:=@Option.isSome_iff_exists
def a3g:=@List.zip_cons_cons
def a3h:=@List.ext_getElem?
def a3i:=@List.flatMap_cons
def a3j:=@List.getElem?_set_self
def a3k:=@List.drop_length
def a3l:=@Int.min_eq_left
def a3m:=@Int.min_eq_right
def a3n:=@Int.emod_lt_of_pos
def a3o:=@Int.add_le_add_left
def a3p:=@List.map_eq_nil_iff
def a3q:=@List.isEmpty_iff
def a3r:=@List.mem_map_of_mem
def a3s:=@List.getElem?_cons_zero
def a3t:=@Nat.zero_mul
def a3u:=@List.getElem_of_mem
def a3v:=@Nat.div_add_mod
def a3w:=@List.exists_cons_of_ne_nil
def a3x:=@Nat.le_mul_of_pos_right
def a3y:=@List.length_eq_one_iff
def a3z:=@List.nodup_cons
def a30:=@List.getElem?_replicate
def a31:=@Array.getElem?_replicate
def a32:=@Bool.not_eq_true'
def a33:=@List.nodup_append
def a34:=@List.nodup_range
def a35:=@List.nil_append
def a36:=@List.mem_append_left
def a37:=@List.getElem?_cons_succ
def a38:=@List.drop_eq_getElem_cons
def a39:=@Int.mul_ediv_add_emod
def a4a:=@Bool.eq_iff_iff
def a4b:=@Nat.eq_zero_or_pos
def a4c:=@List.filter_eq_nil_iff
def a4d:=@List.length_filter_le
def a4e:=@Array.eq_empty_of_size_eq_zero
def a4f:=@List.set_cons_zero
def a4g:=@Int.mul_right_comm
def a4h:=@Int.natCast_nonneg
def a4i:=@Nat.mod_eq_of_lt
def a4j:=@List.range'_succ
def a4k:=@Nat.lt_of_le_of_lt
def a4l:=@List.perm_ext_iff_of_nodup
def a4m:=@List.length_range
def a4n:=@List.mem_append_right
def a4o:=@List.all_cons
def a4p:=@List.getElem?_range
def a4q:=@Int.emod_eq_of_lt
def a4r:=@List.take_succ_eq_append_getElem
def a4s:=@List.eq_nil_of_length_eq_zero
def a4t:=@List.drop_eq_nil_of_le
def a4u:=@List.drop_eq_nil_iff
def a4v:=@List.findIdx?_eq_some_iff_getElem
def a4w:=@List.findIdx?_eq_none_iff
def a4x:=@Int.ediv_one
def a4y:=@Bool.not_eq_false
def a4z:=@List.filter_map
def a40:=@List.filter_cons_of_neg
def a41:=@List.filter_cons_of_pos
def a42:=@List.set_append_right
def a43:=@List.set_cons_succ
def a44:=@List.nodup_iff_count
def a45:=@List.take_sublist
def a46:=@Int.mul_le_mul_of_nonpos_right
def a47:=@Nat.div_lt_iff_lt_mul
def a48:=@Int.sub_mul_emod_self_left
def a49:=@Nat.two_pow_add_eq_or_of_lt
def a5a:=@List.getElem?_take_of_lt
def a5b:=@Int.le_ediv_of_mul_le
def a5c:=@Array.getElem?_eq_none
def a5d:=@List.mem_take_iff_getElem
def a5e:=@Array.getD_eq_getD_getElem?
def a5f:=@Int.nonneg_of_mul_nonneg_left
def a5g:=@List.length_erase_of_mem
def a5h:=@List.length_pos_of_mem
open Go.RowKit
namespace Mc
abbrev Poly:=List (List Nat×Int)
def uJ (ρ:Nat->Int):List Nat->Int
 |[]=>1
 |i::m=>ρ i*uJ ρ m
def cI (ρ:Nat->Int):Poly->Int
 |[]=>0
 |t::p=>t.2*uJ ρ t.1+cI ρ p
def ltM:List Nat->List Nat->Bool
 |[],[]=>false
 |[],_::_=>true
 |_::_,[]=>false
 |a::x,b::y=>if a=b then ltM x y else decide (a<b)
def aj9 (i:Nat):List Nat->List Nat
 |[]=>[i]
 |j::m=>if i<=j then i::j::m else j::aj9 i m
def ahv:List Nat->List Nat->List Nat
 |[],y=>y
 |i::x,y=>aj9 i (ahv x y)
def pins (m:List Nat) (c:Int):Poly->Poly
 |[]=>if c=0 then[]else[(m,c)]
 |t::q=>if m=t.1 then(if c+t.2=0 then q else(m,c+t.2)::q)else if ltM m t.1 then(m,c)::t::q else t::pins m c q
def wJ:Poly->Poly->Poly
 |[],q=>q
 |t::p,q=>pins t.1 t.2 (wJ p q)
def qP (k:Int) (p:Poly):Poly:=if k=0 then[]else p.map fun t=>(t.1,k*t.2)
def Tv (m:List Nat) (c:Int):Poly->Poly
 |[]=>[]
 |t::q=>pins (ahv m t.1) (c*t.2) (Tv m c q)
def agt:Poly->Poly->Poly
 |[],_=>[]
 |t::p,q=>wJ (Tv t.1 t.2 q) (agt p q)
def zM (n:Int):Poly:=if n=0 then[]else[([],n)]
def rK (p q:Poly):Poly:=wJ (qP (-1) q) p
section
variable {ρ:Nat->Int}
def TQ (i:Nat):∀m,uJ ρ (aj9 i m)=ρ i*uJ ρ m
 |[]=>rfl
 |j::m=>by
  unfold aj9;split
  .rfl
  .simp only[uJ,TQ i m]
   rw[<-a07,<-a07,a1j (ρ j)]
def TP:∀x y,uJ ρ (ahv x y)=uJ ρ x*uJ ρ y
 |[],y=>by simp[ahv,uJ]
 |i::x,y=>by rw[ahv,TQ,TP x y,uJ,a07]
def MQ (m:List Nat) (c:Int):∀q,cI ρ (pins m c q)=c*uJ ρ m+cI ρ q
 |[]=>by
  grind[pins,cI]
 |t::q=>by
  unfold pins;split
  .rename_i h
   subst h;split
   .rename_i h
    simp only[cI];have:c*uJ ρ t.1+(t.2*uJ ρ t.1+cI ρ q)=(c+t.2)*uJ ρ t.1+cI ρ q:=by rw[a1n];omega
    rw[this,h];simp
   .simp only[cI];rw[a1n];omega
  .split
   .rfl
   .simp only[cI,MQ m c q];omega
def qE:∀p q,cI ρ (wJ p q)=cI ρ p+cI ρ q
 |[],q=>by simp[wJ,cI]
 |t::p,q=>by rw[wJ,MQ,qE p q,cI];omega
def acY (k:Int):∀p:Poly,cI ρ (p.map fun t=>(t.1,k*t.2))=k*cI ρ p
 |[]=>by simp[cI]
 |t::p=>by
  simp_all[cI,acY,a1e,a07]
def xW (k:Int) (p:Poly):cI ρ (qP k p)=k*cI ρ p:=by
 unfold qP;split
 .simp_all[cI]
 .exact acY k p
def O7 (m:List Nat) (c:Int):∀q,cI ρ (Tv m c q)=c*uJ ρ m*cI ρ q
 |[]=>by simp[Tv,cI]
 |t::q=>by
  rw[Tv,MQ,O7 m c q,TP,cI,a1e];congr 1;rw[a07,a07,<-a07 t.2,a1j t.2,a07]
def Tw:∀p q,cI ρ (agt p q)=cI ρ p*cI ρ q
 |[],q=>by simp[agt,cI]
 |t::p,q=>by rw[agt,qE,O7,Tw p q,cI,a1n]
def tS (n:Int):cI ρ (zM n)=n:=by
 grind[zM,cI,uJ]
theorem iA (p q:Poly):cI ρ (rK p q)=cI ρ p-cI ρ q:=by
 rw[rK,qE,xW];omega
end
inductive AV where
 |c (v:Value)
 |undef
 |emp
 |agg (cs:List AV)
 |bE (vs:List AV)
 |lit (sz:Nat) (bG:List (List AV))
 |own (T sz id i n:Nat)
 |ptr (sz id i off:Nat)
 |iY (sz:Nat) (bG:List (List AV)) (i off:Nat)
 |fn (f:Fn) (first captured:List AV)
 |qZ (t:TypeId) (v:AV)
 |e (p:Poly)
 |row (n:Poly) (xs:List Poly)
 |o (i:Nat)
 |yld (id:Nat)
 |mpv (id:Nat)
 |view (T sz id i n:Nat)
 |any
 |seq (sz base:Nat) (bZ:List (Poly×List AV)) (tail:List (List AV))
 |vH (sz base:Nat) (bZ:List (Poly×List AV)) (tail:List (List AV)) (p:Poly) (off:Nat)
 |dD (T sz id:Nat) (n:Poly)
 |nP (sz id:Nat) (p:Poly) (off:Nat)
 |pP
def evT (ρ:Nat->Int):List Nat×Int->Int
 |([],c)=>c
 |([i],c)=>if c=1 then ρ i else if c=-1 then -ρ i else c*ρ i
 |t=>t.2*uJ ρ t.1
def evG (ρ:Nat->Int):Int->Poly->Int
 |a,[]=>a
 |a,t::p=>evG ρ (match t with
  |([i],c)=>if c=1 then a+ρ i else if c=-1 then a-ρ i else a+c*ρ i
  |t=>a+t.2*uJ ρ t.1) p
def evP (ρ:Nat->Int):Poly->Int
 |[]=>0
 |t::p=>evG ρ (evT ρ t) p
def ah6 (ρ:Nat->Int) (t:List Nat×Int):evT ρ t=t.2*uJ ρ t.1:=by
 unfold evT;grind[uJ]
def ah7 (ρ:Nat->Int):∀(p:Poly) (a:Int),evG ρ a p=a+cI ρ p
 |[],a=>by simp[evG,cI]
 |t::p,a=>by
  have h:=ah6 ρ t;simp only[evG,cI,ah7 ρ p];split
  .simp only[evT]at h
   simp only[uJ,Int.mul_one]at h |-;split
   .rename_i k;subst k;omega
   .split
    .rename_i k;subst k;omega
    .omega
  .omega
theorem vQ (ρ:Nat->Int) (p:Poly):evP ρ p=cI ρ p:=by
 cases p<;>simp_all[evP,cI,ah7,ah6]
def afm {α:Type} (l:List α):List α->List α
 |[]=>l
 |x::t=>l++x::t
theorem Ss {α:Type} (l t:List α):afm l t=l++t:=by cases t<;>simp[afm]
def AU (ρ:Nat->Int) (a:Nat->Value) (b:Nat->List (List AV)):Nat->AV->AV
 |0,x=>x
 |k+1,x=>match x with
  | .e p=>.c (.int .i64 (evP ρ p))
  | .o i=>.c (a i)
  | .agg cs=>.agg (cs.map (AU ρ a b k))
  | .bE cs=>.bE (cs.map (AU ρ a b k))
  | .lit d bG=>.lit d (bG.map (·.map (AU ρ a b k)))
  | .seq d base bZ tail=>.lit d (afm ((bZ.map fun q=>(q.1,q.2.map (AU ρ a b k))).foldl (fun l q=>l.set (evP ρ q.1).toNat q.2) (b base)) (tail.map (·.map (AU ρ a b k))))
  | .qZ t v=>.qZ t (AU ρ a b k v)
  |x=>x
def mU:Nat->AV->Bool
 |0,_=>true
 |k+1,x=>match x with
  | .agg cs=>cs.all (mU k)
  | .bE cs=>cs.all (mU k)
  | .lit _ bG=>bG.all (·.all (mU k))
  | .seq _ _ bZ tail=>bZ.isEmpty&&tail.all (·.all (mU k))
  | .qZ _ v=>mU k v
  |_=>true
inductive Cl:AV->Prop
 |c (v:Value):Cl (.c v)
 |undef:Cl .undef
 |emp:Cl .emp
 |any:Cl .any
 |agg (cs:List AV) (h:∀x∈cs,Cl x):Cl (.agg cs)
 |bE (cs:List AV) (h:∀x∈cs,Cl x):Cl (.bE cs)
 |lit (sz:Nat) (bG:List (List AV)) (h:∀e∈bG,∀x∈e,Cl x):Cl (.lit sz bG)
 |qZ (t:TypeId) (x:AV) (h:Cl x):Cl (.qZ t x)
def Cl.den {ρ:Nat->Int} {b:Nat->Value} {c:Nat->List (List AV)} {x:AV} (h:Cl x):∀k,AU ρ b c k x=x:=by
 have mp:∀(l:List AV) (g:AV->AV),(∀x∈l,g x=x)->l.map g=l:=fun l g f=>by
  conv=>rhs;rw[<-a2f l]
  exact a01 f
 induction h with
 |agg cs h a=>intro k;cases k<;>simp_all[AU]
 |bE cs h a=>intro k;cases k<;>simp_all[AU]
 |lit j bG h a=>intro k;cases k with
  |zero=>rfl
  |succ k =>
   simp only[AU];congr 1
   conv=>rhs;rw[<-a2f bG]
   exact a01 fun e i=>mp e _ fun x d=>a e i x d k
 |qZ t x h a=>intro k;cases k<;>simp_all[AU]
 |_=>intro k;cases k<;>rfl
class Bk where
 vars:List (Int×Int):=[]
 facts:List (Poly×Int×Int):=[]
 defs:List (Nat×Poly×Poly×Poly):=[]
 ext:List (Nat×List Poly×List Poly):=[]
 yes:List Nat:=[]
 bQ:List (Nat×List AV×AV):=[]
 mT:List (Nat×List Int):=[]
 kinds:List Bool:=[]
 lens:List (Nat×Poly):=[]
 iG:List (Nat×Poly×List AV):=[]
 ae5:List (Nat×Nat×Nat):=[]
def Bk.var [Bk] (i:Nat):Int×Int:=Bk.vars.getD i (0,0)
class Ev [Bk] where
 xs:List Int
 vars:∀i,(Bk.var i).1<=xs.getD i 0/\xs.getD i 0<=(Bk.var i).2
 facts:∀t∈Bk.facts,t.2.1<=cI (fun i=>xs.getD i 0) t.1/\cI (fun i=>xs.getD i 0) t.1<=t.2.2
 defs:∀t∈Bk.defs,(t.1=0->cI (fun i=>xs.getD i 0) t.2.2.2=(cI (fun i=>xs.getD i 0) t.2.1).tdiv (cI (fun i=>xs.getD i 0) t.2.2.1)) /\
  (t.1=1->cI (fun i=>xs.getD i 0) t.2.2.2=(cI (fun i=>xs.getD i 0) t.2.1).tmod (cI (fun i=>xs.getD i 0) t.2.2.1)) /\
  (t.1=2->cI (fun i=>xs.getD i 0) t.2.2.2=max (cI (fun i=>xs.getD i 0) t.2.1) (cI (fun i=>xs.getD i 0) t.2.2.1))
 L4:List Value
 am5:∀v∈L4,v.oneCell'=true
 kin:∀i b,Bk.kinds[i]?=some b->(b=true->∃s,L4.getD i (.bool false)=.string s)/\(b=false->∃c,L4.getD i (.bool false)=.bool c)
 Ej:List (List (List AV))
 amU:∀t∈Bk.lens,((Ej.getD t.1 []).length:Int)=cI (fun i=>xs.getD i 0) t.2
 sat:∀t∈Bk.iG,0<=cI (fun i=>xs.getD i 0) t.2.1/\(Ej.getD t.1 [])[(cI (fun i=>xs.getD i 0) t.2.1).toNat]?=some (t.2.2.map (AU (fun i=>xs.getD i 0) (fun i=>L4.getD i (.bool false)) (fun i=>Ej.getD i []) 12))/\t.2.2.all (mU 12)=true
 spl:∀l∈Ej,∀r∈l,∀x∈r,Cl x
 cat:∀t∈Bk.ae5,Ej.getD t.2.2 []=Ej.getD t.1 []++Ej.getD t.2.1 []
def Ev.eW [Bk] [Ev]:Nat->Int:=fun i=>Ev.xs.getD i 0
section
variable [Bk] [Ev]
def Ev.seq (i:Nat):List (List AV):=Ev.Ej.getD i []
def rowsOf [Bk] [Ev] (base:Nat) (bZ:List (Poly×List AV)) (tail:List (List AV)):List (List AV):=bZ.foldl (fun l q=>l.set (cI Ev.eW q.1).toNat q.2) (Ev.seq base)++tail
def InB (base:Nat) (p:Poly):Prop:=0<=cI Ev.eW p/\(cI Ev.eW p).toNat<(Ev.seq base).length
def iU [Bk] [Ev] (base:Nat) (bZ:List (Poly×List AV)) (tail:List (List AV)):(rowsOf base bZ tail).length=(Ev.seq base).length+tail.length:=by
 unfold rowsOf;rw[a1o];congr 1
 have:∀(bZ:List (Poly×List AV)) (l:List (List AV)),(bZ.foldl (fun l q=>l.set (cI Ev.eW q.1).toNat q.2) l).length=l.length:=by
  intro bZ;induction bZ<;>simp_all
 simp_all
def den [Bk] [Ev] (k:Nat) (x:AV):AV:=AU Ev.eW (fun i=>Ev.L4.getD i (.bool false)) Ev.seq k x
def Ev.vI [Bk] [Ev] (i:Nat):∀r∈Ev.seq i,∀x∈r,Cl x:=by
 unfold Ev.seq;rw[List.getD];cases h:(Ev.Ej)[i]? with
 |none=>simp_all
 |some l=>exact Ev.spl l (a0a h)
def adE (k sz base:Nat) (bZ:List (Poly×List AV)) (tail:List (List AV)):den (k+1) (.seq sz base bZ tail)=.lit sz ((rowsOf base bZ tail).map (·.map (den k))):=by
 have d:(Ev.seq base).map (·.map (den k))=Ev.seq base:=by
  conv=>rhs;rw[<-a2f (Ev.seq base)]
  refine a01 fun e b=>?_;show e.map (den k)=id e
  conv=>rhs;rw[id,<-a2f e]
  exact a01 fun x a=>(Ev.vI base e b x a).den k
 have c:∀(bZ:List (Poly×List AV)) (l:List (List AV)),(bZ.map fun q=>(q.1,q.2.map (den k))).foldl (fun l q=>l.set (evP Ev.eW q.1).toNat q.2) (l.map (·.map (den k)))=(bZ.foldl (fun l q=>l.set (cI Ev.eW q.1).toNat q.2) l).map (·.map (den k)):=by
  intro bZ;induction bZ<;>grind[List.map_set,vQ]
 show AV.lit sz (afm ((bZ.map fun q=>(q.1,q.2.map (den k))).foldl (fun l q=>l.set (evP Ev.eW q.1).toNat q.2) (Ev.seq base)) (tail.map (·.map (den k))))=_
 grind[Ss,rowsOf]
def Ev.val [Bk] [Ev] (i:Nat):Value:=Ev.L4.getD i (.bool false)
def Ev.val_one (i:Nat):(Ev.val i).oneCell'=true:=by
 unfold Ev.val;rw[List.getD];cases h:(Ev.L4)[i]? with
 |none=>rfl
 |some v=>exact Ev.am5 v (a0a h)
def ahU (a b:Int×Int):Int×Int:=(min (min (a.1*b.1) (a.1*b.2)) (min (a.2*b.1) (a.2*b.2)),max (max (a.1*b.1) (a.1*b.2)) (max (a.2*b.1) (a.2*b.2)))
def abt {x a b y:Int} (h1:a<=x) (c:x<=b):x*y<=max (a*y) (b*y):=by
 rcases Int.le_total 0 y with h|h
 .exact a2g (a2k c h) (Int.le_max_right _ _)
 .exact a2g (a46 h1 h) (Int.le_max_left _ _)
def abu {x a b y:Int} (h1:a<=x) (c:x<=b):min (a*y) (b*y)<=x*y:=by
 rcases Int.le_total 0 y with h|h
 .exact a2g (Int.min_le_left _ _) (a2k h1 h)
 .exact a2g (Int.min_le_right _ _) (a46 c h)
def adp {a b:Int×Int} {x y:Int} (d:a.1<=x/\x<=a.2) (c:b.1<=y/\y<=b.2):(ahU a b).1<=x*y/\x*y<=(ahU a b).2:=by
 have u:=abt (y:=y) d.1 d.2;have l:=abu (y:=y) d.1 d.2;have f:=abt (y:=a.1) c.1 c.2;have l1:=abu (y:=a.1) c.1 c.2;have e:=abt (y:=a.2) c.1 c.2;have l2:=abu (y:=a.2) c.1 c.2
 grind[ahU]
def akW [Bk]:List Nat->Int×Int
 |[]=>(1,1)
 |i::m=>ahU (Bk.var i) (akW m)
def adP:∀m,(akW m).1<=uJ Ev.eW m/\uJ Ev.eW m<=(akW m).2
 |[]=>⟨a0h _,a0h _⟩
 |i::m=>adp (Ev.vars i) (adP m)
def ae9 [Bk]:Poly->Int×Int
 |[]=>(0,0)
 |t::p=>let b:=ahU (t.2,t.2) (akW t.1);let r:=ae9 p;(b.1+r.1,b.2+r.2)
def Sm:∀p,(ae9 p).1<=cI Ev.eW p/\cI Ev.eW p<=(ae9 p).2
 |[]=>⟨a0h _,a0h _⟩
 |t::p=>by
  have c:=adp (a:=(t.2,t.2)) (x:=t.2) ⟨a0h _,a0h _⟩ (adP t.1);have b:=Sm p;grind[ae9,cI]
def narrow (p:Poly):List (Poly×Int×Int)->Int×Int->Int×Int
 |[],b=>b
 |t::l,b=>narrow p l (if t.1=p then(max b.1 t.2.1,min b.2 t.2.2)else if qP (-1) t.1=p then(max b.1 (-t.2.2),min b.2 (-t.2.1))else b)
def F7 {ρ:Nat->Int} (p:Poly):∀(l:List (Poly×Int×Int)) (b:Int×Int),(∀t∈l,t.2.1<=cI ρ t.1/\cI ρ t.1<=t.2.2)->b.1<=cI ρ p/\cI ρ p<=b.2->(narrow p l b).1<=cI ρ p/\cI ρ p<=(narrow p l b).2
 |[],b,_,h=>h
 |t::l,b,c,h=>by
  refine F7 p l _ (fun t a=>c t (a06 _ a)) ?_;have a:=c t a1b;split
  .grind
  .split
   .rename_i e
    have:=xW (ρ:=ρ) (-1) t.1
    grind
   .exact h
def content:Poly->Nat
 |[]=>0
 |t::p=>Nat.gcd t.2.natAbs (content p)
def pH:Poly->Int×Poly
 |([],c)::r=>(c,r)
 |p=>(0,p)
def aei {ρ:Nat->Int} (p:Poly):cI ρ p=(pH p).1+cI ρ (pH p).2:=by
 unfold pH;grind[cI,uJ]
def bnd [Bk] (p:Poly):Int×Int :=
 let c:=pH p
 match c.2 with
 |[]=>(c.1,c.1)
 |q =>
  let g:=content q;let r:=q.map fun t=>(t.1,t.2/(g:Int))
  if qP g r=q then let b:=narrow r Bk.facts (ae9 r);(c.1+g*b.1,c.1+g*b.2)
  else let b:=narrow q Bk.facts (ae9 q);(c.1+b.1,c.1+b.2)
def It (p:Poly):(bnd p).1<=cI Ev.eW p/\cI Ev.eW p<=(bnd p).2:=by
 have hs:=aei (ρ:=Ev.eW) p;unfold bnd;simp only;split
 .simp_all[cI]
 .split
  .rename_i h
   have e:=xW (ρ:=Ev.eW) (content (pH p).2:Int) ((pH p).2.map fun t=>(t.1,t.2/(content (pH p).2:Int)));rw[h]at e;have k:=F7 ((pH p).2.map fun t=>(t.1,t.2/(content (pH p).2:Int))) Bk.facts _ Ev.facts (Sm _);have b:=a11 k.1 (a4h (content (pH p).2));have a:=a11 k.2 (a4h (content (pH p).2));simp only;change cI Ev.eW (pH p).2=_*cI Ev.eW _ at e;constructor
   .rw[hs,e];exact a3o b _
   .rw[hs,e];exact a3o a _
  .have k:=F7 (pH p).2 Bk.facts _ Ev.facts (Sm _)
   simp only;constructor
   .rw[hs];exact a3o k.1 _
   .rw[hs];exact a3o k.2 _
def mJ [Bk] (p:Poly):Bool:=let b:=bnd p;decide (-9223372036854775808<=b.1)&&decide (b.2<9223372036854775808)
def abM {p:Poly} (h:mJ p=true):-9223372036854775808<=cI Ev.eW p/\cI Ev.eW p<9223372036854775808:=by
 have k:=It p;grind[mJ]
def TU [Bk] (p:Poly):Option Bool:=let b:=bnd p;if b.2<0 then some true else if 0<=b.1 then some false else none
def pO {p:Poly} {b:Bool} (h:TU p=some b):b=decide (cI Ev.eW p<0):=by
 have k:=It p;grind[TU]
def eqB [Bk] (p:Poly):Option Bool:=let b:=bnd p;if b.2<0 then some false else if 0<b.1 then some false else if b.1=0/\b.2=0 then some true else none
def Io {p:Poly} {b:Bool} (h:eqB p=some b):b=decide (cI Ev.eW p=0):=by
 have k:=It p;grind[eqB]
def findD (k:Nat) (p q:Poly):List (Nat×Poly×Poly×Poly)->Option Poly
 |[]=>none
 |t::l=>if t.1=k/\t.2.1=p/\t.2.2.1=q then some t.2.2.2 else findD k p q l
def EY {k:Nat} {p q r:Poly}:∀{l:List (Nat×Poly×Poly×Poly)},findD k p q l=some r->(k,p,q,r)∈l
 |[],h=>by cases h
 |t::l,h=>by
  unfold findD at h;split at h
  .grind
  .exact a06 _ (EY h)
def nzB [Bk] (p:Poly):Bool:=let b:=bnd p;decide (b.2<0)||decide (0<b.1)
def ahn {p:Poly} (h:nzB p=true):cI Ev.eW p≠0:=by
 have k:=It p;grind[nzB]
end
abbrev dY:Bk:={}
def ah8 (i:Nat):(@Bk.var dY i).1<=(([]:List Int).getD i 0)/\(([]:List Int).getD i 0)<=(@Bk.var dY i).2:=by
 show((([]:List (Int×Int)).getD i (0,0)).1<=_)/\(_<=(([]:List (Int×Int)).getD i (0,0)).2);simp
abbrev dZ:@Ev dY:=@Ev.mk dY [] ah8 (fun t h=>absurd h a0b) (fun t h=>absurd h a0b) [] (fun v h=>absurd h a0b) (fun i b h=>by cases h) [] (fun t h=>absurd h a0b) (fun t h=>absurd h a0b) (fun l h=>absurd h a0b) (fun t h=>absurd h a0b)
end Mc
namespace Mc
variable {A:Nat->Prop} {w':World} {id T base off:Nat} {cs:List AV} {α:Type} {x:Operand}
def AV.one:AV->Bool
 | .c v=>v.oneCell'
 | .undef | .agg _ | .bE _ | .pP=>false
 |_=>true
inductive St where
 |no|dead|uK|at (b:Nat)
def iE (bG:List (List AV)) (i j:Nat):Option AV:=(bG[i]?).bind (·[j]?)
def gW (w:World) (b:Nat):Nat:=match w.heap[b]? with|some (.cells c _ _)=>c.size|_=>0
inductive eC [Bk] [Ev] (A:Nat->Prop) (w:World):AV->Value->Prop
 |c (v:Value):eC A w (.c v) v
 |undef:eC A w .undef Go.undef
 |emp (a:Option Addr):eC A w .emp (.slice a 0 0)
 |agg (cs:List AV) (vs:Array Value) (hl:vs.size=cs.length) (h1:∀(i:Nat) (x:AV),cs[i]?=some x->x.one=true) (h:∀(i:Nat) (x:AV),cs[i]?=some x->eC A w x (vs.getD i Go.undef)):eC A w (.agg cs) (.agg vs)
 |bE (cs:List AV) (vs:Array Value) (hl:vs.size=cs.length) (h:∀(i:Nat) (x:AV),cs[i]?=some x->eC A w x (vs.getD i Go.undef)):eC A w (.bE cs) (.tuple vs)
 |lit (sz:Nat) (bG:List (List AV)) (b off cap:Nat) (vs:Nat->Nat->Value) (hA:¬ A b) (hb:b<w.heap.size) (hc:bG.length<=cap/\cap<=maxLen) (hsz:∀e∈bG,e.length=sz)
   (h1:∀(i j:Nat) (x:AV),iE bG i j=some x->x.one=true) (hv:∀(i j:Nat) (x:AV),iE bG i j=some x->w.cell? ⟨b,off+(i*sz+j),none⟩=some (vs i j)) (h:∀(i j:Nat) (x:AV),iE bG i j=some x->eC A w x (vs i j)) :
   eC A w (.lit sz bG) (.slice (some ⟨b,off,none⟩) bG.length cap)
 |nQ (sz:Nat) (a:Option Addr) (cap:Nat) (hm:cap<=maxLen):eC A w (.lit sz []) (.slice a 0 cap)
 |iY (sz:Nat) (bG:List (List AV)) (i0 j0 b off:Nat) (vs:Nat->Nat->Value) (hA:¬ A b) (hb:b<w.heap.size) (hsz:∀e∈bG,e.length=sz)
   (h1:∀(i j:Nat) (x:AV),iE bG i j=some x->x.one=true) (hv:∀(i j:Nat) (x:AV),iE bG i j=some x->w.cell? ⟨b,off+(i*sz+j),none⟩=some (vs i j)) (h:∀(i j:Nat) (x:AV),iE bG i j=some x->eC A w x (vs i j)) :
   eC A w (.iY sz bG i0 j0) (.pointer (some ⟨b,off+(i0*sz+j0),none⟩))
 |fn (f:Fn) (xs ys:List AV) (vs us:Array Value) (hl:vs.size=xs.length) (hk:us.size=ys.length) (h:∀(i:Nat) (x:AV),xs[i]?=some x->eC A w x (vs.getD i Go.undef)) (g:∀(i:Nat) (x:AV),ys[i]?=some x->eC A w x (us.getD i Go.undef)) :
   eC A w (.fn f xs ys) (.func f vs us)
 |qZ (t:TypeId) (x:AV) (v:Value) (h:eC A w x v):eC A w (.qZ t x) (.iface t v)
 |e (p:Poly):eC A w (.e p) (.int .i64 (cI Ev.eW p))
 |row (n:Poly) (xs:List Poly) (b off len cap:Nat) (hn:cI Ev.eW n=len) (hc:len<=cap) (hA:¬ A b) (hb:b<w.heap.size) (hv:∀(j:Nat) (p:Poly),xs[j]?=some p->j<len->w.cell? ⟨b,off+j,none⟩=some (.int .i64 (cI Ev.eW p))) :
   eC A w (.row n xs) (.slice (some ⟨b,off,none⟩) len cap)
 |Tf (n:Poly) (xs:List Poly) (a:Option Addr) (cap:Nat) (hn:cI Ev.eW n=0):eC A w (.row n xs) (.slice a 0 cap)
 |o (i:Nat):eC A w (.o i) (Ev.val i)
 |any (v:Value) (h1:v.oneCell'=true):eC A w .any v
 |seq (sz base:Nat) (bZ:List (Poly×List AV)) (tail:List (List AV)) (v:Value) (hin:∀q∈bZ,InB base q.1) (h1:v.oneCell'=true) (h:eC A w (.lit sz (rowsOf base bZ tail)) v):eC A w (.seq sz base bZ tail) v
 |vH (sz base:Nat) (bZ:List (Poly×List AV)) (tail:List (List AV)) (p:Poly) (off:Nat) (v:Value) (hin:∀q∈bZ,InB base q.1) (h1:v.oneCell'=true) (hp:0<=cI Ev.eW p) (h:eC A w (.iY sz (rowsOf base bZ tail) (cI Ev.eW p).toNat off) v):eC A w (.vH sz base bZ tail p off) v
 |pP (v:Value):eC A w .pP v
def eC.one [Bk] [Ev] {w:World} {x:AV} {v:Value} (h:eC A w x v) (h1:x.one=true):v.oneCell'=true:=by
 cases h<;>first|exact h1|rfl|exact Ev.val_one _|assumption|simp_all[AV.one]
def eC.mono [Bk] [Ev] {A H:Nat->Prop} {w w':World} (hs:w.heap.size<=w'.heap.size) (D:∀b,b<w.heap.size->¬ A b->¬ H b/\w'.heap[b]?=w.heap[b]?) {x:AV} {v:Value} (h:eC A w x v):eC H w' x v:=by
 have q:∀b o,b<w.heap.size->¬ A b->w'.cell? ⟨b,o,none⟩=w.cell? ⟨b,o,none⟩:=fun b o g z=>World.cell?_of_block (D b g z).2
 induction h with
 |c v=>exact .c v
 |undef=>exact .undef
 |emp a=>exact .emp a
 |agg cs vs B k _ d=>exact .agg cs vs B k d
 |bE cs vs B _ d=>exact .bE cs vs B d
 |lit m bG b off cap vs l g E y k u _ d =>
  exact .lit m bG b off cap vs (D b g l).1 (a0x g hs) E y k (fun i j x s=>(q b _ g l).trans (u i j x s)) d
 |nQ m a cap l=>exact .nQ m a cap l
 |iY m bG L K b off vs l g y k u _ d =>
  exact .iY m bG L K b off vs (D b g l).1 (a0x g hs) y k (fun i j x s=>(q b _ g l).trans (u i j x s)) d
 |fn f r I vs J B N _ _ G F=>exact .fn f r I vs J B N G F
 |qZ t x v _ d=>exact .qZ t x v d
 |e p=>exact .e p
 |row n r b off len cap z E l g u=>exact .row n r b off len cap z E (D b g l).1 (a0x g hs) fun j p s O=>(q b _ g l).trans (u j p s O)
 |Tf n r a cap z=>exact .Tf n r a cap z
 |o i=>exact .o i
 |any v k=>exact .any v k
 |seq m base bZ tail v C k _ d=>exact .seq m base bZ tail v C k d
 |vH m base bZ tail p off v C k M _ d=>exact .vH m base bZ tail p off v C k M d
 |pP v=>exact .pP v
def Av (m:Nat->St) (A:Nat->Prop):Nat->Prop:=fun b=>A b\/∃id,m id=.at b
inductive Rd [Bk] [Ev] (m:Nat->St) (A:Nat->Prop) (w:World):AV->Value->Prop
 |pure (x:AV) (v:Value) (h:eC (Av m A) w x v):Rd m A w x v
 |agg (cs:List AV) (vs:Array Value) (hl:vs.size=cs.length) (h1:∀(i:Nat) (x:AV),cs[i]?=some x->x.one=true) (h:∀(i:Nat) (x:AV),cs[i]?=some x->Rd m A w x (vs.getD i Go.undef)):Rd m A w (.agg cs) (.agg vs)
 |bE (cs:List AV) (vs:Array Value) (hl:vs.size=cs.length) (h:∀(i:Nat) (x:AV),cs[i]?=some x->Rd m A w x (vs.getD i Go.undef)):Rd m A w (.bE cs) (.tuple vs)
 |own (T sz id i n b cap:Nat) (hm:m id=.at b) (hb:b<w.heap.size) (hn:n<=cap) (hc:cap<=maxLen) (hr:(i+cap)*sz=gW w b):Rd m A w (.own T sz id i n) (.slice (some ⟨b,i*sz,none⟩) n cap)
 |vN (T sz id i:Nat) (a:Option Addr) (hm:m id=.uK):Rd m A w (.own T sz id i 0) (.slice a 0 0)
 |wK (T sz id i n:Nat) (a:Option Addr) (n' cap:Nat) (hm:m id=.dead):Rd m A w (.own T sz id i n) (.slice a n' cap)
 |ptr (sz id i off b:Nat) (hm:m id=.at b) (hb:b<w.heap.size):Rd m A w (.ptr sz id i off) (.pointer (some ⟨b,i*sz+off,none⟩))
 |Oc (sz id i off:Nat) (a:Option Addr) (hm:m id=.dead):Rd m A w (.ptr sz id i off) (.pointer a)
 |fn (f:Fn) (xs ys:List AV) (vs us:Array Value) (hl:vs.size=xs.length) (hk:us.size=ys.length) (h:∀(i:Nat) (x:AV),xs[i]?=some x->Rd m A w x (vs.getD i Go.undef)) (g:∀(i:Nat) (x:AV),ys[i]?=some x->Rd m A w x (us.getD i Go.undef)) :
   Rd m A w (.fn f xs ys) (.func f vs us)
 |qZ (t:TypeId) (x:AV) (v:Value) (h:Rd m A w x v):Rd m A w (.qZ t x) (.iface t v)
 |yld (id b:Nat) (hm:m id=.at b):Rd m A w (.yld id) (.func (.yield b) #[] #[])
 |aar (id b:Nat) (hm:m id=.dead):Rd m A w (.yld id) (.func (.yield b) #[] #[])
 |mpv (id b:Nat) (hm:m id=.at b):Rd m A w (.mpv id) (.map (some b))
 |abv (id b:Nat) (hm:m id=.dead):Rd m A w (.mpv id) (.map (some b))
 |view (T sz id i n b cap:Nat) (hm:m id=.at b):Rd m A w (.view T sz id i n) (.slice (some ⟨b,i*sz,none⟩) n cap)
 |Ec (T sz id i n:Nat) (a:Option Addr) (cap:Nat) (hm:m id=.dead):Rd m A w (.view T sz id i n) (.slice a n cap)
 |dD (T sz id:Nat) (n:Poly) (b len cap:Nat) (hm:m id=.at b) (hb:b<w.heap.size) (hl:cI Ev.eW n=len) (hn:len<=cap) (hc:cap<=maxLen) (hr:cap*sz=gW w b):Rd m A w (.dD T sz id n) (.slice (some ⟨b,0,none⟩) len cap)
 |uP (T sz id:Nat) (n:Poly) (a:Option Addr) (hm:m id=.uK) (hn:cI Ev.eW n=0):Rd m A w (.dD T sz id n) (.slice a 0 0)
 |uQ (T sz id:Nat) (n:Poly) (a:Option Addr) (n' cap:Nat) (hm:m id=.dead):Rd m A w (.dD T sz id n) (.slice a n' cap)
 |nP (sz id:Nat) (p:Poly) (off b:Nat) (hm:m id=.at b) (hb:b<w.heap.size):Rd m A w (.nP sz id p off) (.pointer (some ⟨b,(cI Ev.eW p).toNat*sz+off,none⟩))
 |A6 (sz id:Nat) (p:Poly) (off:Nat) (a:Option Addr) (hm:m id=.dead):Rd m A w (.nP sz id p off) (.pointer a)
def Rd.one [Bk] [Ev] {m:Nat->St} {w:World} {x:AV} {v:Value} (h:Rd m A w x v) (h1:x.one=true):v.oneCell'=true:=by
 cases h<;>first|rfl|exact eC.one ‹_› h1|simp_all[AV.one]
structure Ext (m:Nat->St) (w:World) (m':Nat->St) (w':World):Prop where
 os:w'.os=w.os
 tape:w'.tape=w.tape
 output:w'.output=w.output
 size:w.heap.size<=w'.heap.size
 at_:∀id b,m id=.at b->m' id=.at b\/m' id=.dead
 dead:∀id,m id=.dead->m' id=.dead
 uK:∀id,m id=.uK->m' id=.uK\/m' id=.dead
 un:∀b,b<w.heap.size->(∀id,m id≠.at b)->(∀id,m' id≠.at b)/\w'.heap[b]?=w.heap[b]?
 rows:∀id b,m id=.at b->m' id=.at b->gW w' b=gW w b
def Ext.refl [Bk] [Ev] (m:Nat->St) (w:World):Ext m w m w:=⟨rfl,rfl,rfl,a0g _,fun _ _ h=>.inl h,fun _ h=>h,fun _ h=>.inl h,fun _ _ h=>⟨h,rfl⟩,fun _ _ _ _=>rfl⟩
def Ext.trans [Bk] [Ev] {m:Nat->St} {w:World} {j:Nat->St} {g:Nat->St} {f:World} (h:Ext m w j w') (k:Ext j w' g f):Ext m w g f:=by
 refine⟨k.os.trans h.os,k.tape.trans h.tape,k.output.trans h.output,a1k h.size k.size,?_,fun id o=>k.dead id (h.dead id o),fun id l=>(h.uK id l).elim (k.uK id) (fun d=>.inr (k.dead id d)),?_,?_⟩
 .intro id b i
  rcases h.at_ id b i with a|a
  .exact k.at_ id b a
  .exact .inr (k.dead id a)
 .intro b i n
  obtain⟨a,e⟩:=h.un b i n;obtain⟨q,p⟩:=k.un b (by grind) a
  simp_all
 .intro id b a e
  rcases h.at_ id b a with c|c
  .exact(k.rows id b c e).trans (h.rows id b a c)
  .rw[k.dead id c]at e;cases e
theorem Rd.ext [Bk] [Ev] {m:Nat->St} {w:World} {r:Nat->St} (E:Ext m w r w') {x:AV} {v:Value} (h:Rd m A w x v):Rd r A w' x v:=by
 induction h with
 |pure x v h =>
  refine .pure x v (h.mono E.size fun b e g=>?_);have z:=E.un b e (fun id y=>g (.inr ⟨id,y⟩));exact⟨fun k=>k.elim (fun k=>g (.inl k)) (fun⟨id,k⟩=>z.1 id k),z.2⟩
 |agg cs vs j G _ l=>exact .agg cs vs j G l
 |bE cs vs j _ l=>exact .bE cs vs j l
 |own T d id i n b cap c e g q o =>
  rcases E.at_ id b c with h|h
  .exact .own T d id i n b cap h (a0x e E.size) g q (o.trans (E.rows id b c h).symm)
  .exact .wK T d id i n _ _ _ h
 |vN T d id i a c =>
  rcases E.uK id c with h|h
  .exact .vN T d id i a h
  .exact .wK T d id i 0 a 0 0 h
 |wK T d id i n a n' cap c=>exact .wK T d id i n a n' cap (E.dead id c)
 |ptr d id i off b c e =>
  rcases E.at_ id b c with h|h
  .exact .ptr d id i off b h (a0x e E.size)
  .exact .Oc d id i off _ h
 |Oc d id i off a c=>exact .Oc d id i off a (E.dead id c)
 |fn f C B vs D j F _ _ u s=>exact .fn f C B vs D j F u s
 |qZ t x v _ l=>exact .qZ t x v l
 |yld id b c =>
  rcases E.at_ id b c with h|h
  .exact .yld id b h
  .exact .aar id b h
 |aar id b c=>exact .aar id b (E.dead id c)
 |mpv id b c =>
  rcases E.at_ id b c with h|h
  .exact .mpv id b h
  .exact .abv id b h
 |abv id b c=>exact .abv id b (E.dead id c)
 |view T d id i n b cap c =>
  rcases E.at_ id b c with h|h
  .exact .view T d id i n b cap h
  .exact .Ec T d id i n _ _ h
 |Ec T d id i n a cap c=>exact .Ec T d id i n a cap (E.dead id c)
 |dD T d id n b len cap c e j g q o =>
  rcases E.at_ id b c with h|h
  .exact .dD T d id n b len cap h (a0x e E.size) j g q (o.trans (E.rows id b c h).symm)
  .exact .uQ T d id n _ _ _ h
 |uP T d id n a c g =>
  rcases E.uK id c with h|h
  .exact .uP T d id n a h g
  .exact .uQ T d id n a 0 0 h
 |uQ T d id n a n' cap c=>exact .uQ T d id n a n' cap (E.dead id c)
 |nP d id p off b c e =>
  rcases E.at_ id b c with h|h
  .exact .nP d id p off b h (a0x e E.size)
  .exact .A6 d id p off _ h
 |A6 d id p off a c=>exact .A6 d id p off a (E.dead id c)
inductive LS where
 |ready|busy|done (c:Code)
def LS.st:LS->LoopState
 | .ready=>.ready
 | .busy=>.busy
 | .done _=>.done
def LS.pe:LS->Option Code
 | .done c=>some c
 |_=>none
inductive dI where
 |no|dead|cells (T sz:Nat) (bG:List (List AV))|lp (st:LS) (f:List AV) (ps:Array Tmp) (assign body:Code)
 |it (s:ByteArray) (pos:Nat)|mp (es:List (Int×AV))
 |sc (T sz base:Nat) (bZ:List (Poly×List AV)) (tail:List (List AV)) (n:Poly)
def dI.bG [Bk] [Ev]:dI->Option (Nat×Nat×List (List AV))
 | .cells T a bG=>some (T,a,bG)
 | .sc T a base bZ tail _=>some (T,a,rowsOf base bZ tail)
 |_=>none
def rW [Bk] [Ev]:dI->Prop
 | .sc _ _ base bZ tail n=>cI Ev.eW n=((rowsOf base bZ tail).length:Int)/\∀q∈bZ,InB base q.1
 |_=>True
def dI.other:dI->Bool
 | .lp .. | .it .. | .mp ..=>true
 |_=>false
def ai3 [Bk] [Ev] (m:Nat->St) (A:Nat->Prop) (w:World) (b:Nat) (st:LS) (f:List AV) (ps:Array Tmp) (a body:Code):Prop :=
 ∃L:Loop,w.heap[b]?=some (.loop L)/\L.state=st.st/\L.pending=st.pe/\L.params=ps/\L.assign=a/\L.body=body/\L.tmps.size=f.length/\∀(i:Nat) (x:AV),f[i]?=some x->Rd m A w x (L.tmps.getD i Go.undef)
theorem ai3.ext [Bk] [Ev] {m c:Nat->St} {w:World} {b:Nat} {st:LS} {f:List AV} {ps:Array Tmp} {a body:Code} (h:ai3 m A w b st f ps a body) (E:Ext m w c w') (e:w'.heap[b]?=w.heap[b]?):ai3 c A w' b st f ps a body:=by
 obtain⟨L,q,p,o,n,l,k,j,g⟩:=h;exact⟨L,e.trans q,p,o,n,l,k,j,fun i x d=>(g i x d).ext E⟩
def yM [Bk] [Ev] (m:Nat->St) (A:Nat->Prop) (w:World) (b:Nat):dI->Prop
 | .lp st f ps as bd=>ai3 m A w b st f ps as bd
 | .it s c=>w.heap[b]?=some (.stringIter s c)
 | .mp es=>∃(ms:Array MapEntry) (a:Nat),w.heap[b]?=some (.map ms a)/\ms.size=es.length/\∀(i:Nat) (k:Int) (x:AV),es[i]?=some (k,x)->∃e,ms[i]?=some e/\e.key=.int .i64 k/\Rd m A w x e.val
 |_=>False
theorem yM.ext [Bk] [Ev] {m d:Nat->St} {w:World} {b:Nat} {B:dI} (h:yM m A w b B) (E:Ext m w d w') (c:w'.heap[b]?=w.heap[b]?):yM d A w' b B:=by
 cases B with
 |lp st f ps as bd=>exact ai3.ext h E c
 |it s r=>exact c.trans h
 |mp es =>
  obtain⟨ms,a,n,l,j⟩:=h;refine⟨ms,a,c.trans n,l,fun i k x g=>?_⟩
  obtain⟨e,q,p,o⟩:=j i k x g;exact⟨e,q,p,o.ext E⟩
 |_=>exact h
def yM.lt [Bk] [Ev] {m:Nat->St} {w:World} {b:Nat} {B:dI} (h:yM m A w b B):b<w.heap.size:=by
 cases B with
 |lp st f ps as bd=>obtain⟨L,c,-⟩:=h;grind
 |it s d=>exact(a2p.1 h).1
 |mp es=>obtain⟨ms,a,c,-⟩:=h;grind
 |_=>exact h.elim
def GOk [Bk] (A:Nat->Prop) (w:World):Prop:=∀t∈Bk.mT,A t.1/\t.1<w.heap.size/\∀(j:Nat) (v:Int),t.2[j]?=some v->w.cell? ⟨t.1,j,none⟩=some (.int .u8 v)
theorem GOk.ext [Bk] {m:Nat->St} {w:World} {f:Nat->St} (g:GOk A w) (out:∀id b,m id=.at b->¬ A b) (E:Ext m w f w'):GOk A w':=by
 intro t i;obtain⟨e,d,l⟩:=g t i;have k:=(E.un t.1 d fun id c=>out id t.1 c e).2;exact⟨e,a0x d E.size,fun j v h=>(World.cell?_of_block (a:=⟨t.1,j,none⟩) k).trans (l j v h)⟩
structure dU [Bk] [Ev] (m:Nat->St) (A:Nat->Prop) (h:Nat->dI) (w:World):Prop where
 out:∀id b,m id=.at b->¬ A b
 old:∀b,A b->b<w.heap.size
 no:∀id,h id=.no->m id=.no
 dead:∀id,h id=.dead->m id=.dead
 wV:∀id T sz bG,(h id).bG=some (T,sz,bG)->(m id=.uK/\bG=[])\/∃b cs,m id=.at b/\w.heap[b]?=some (.cells cs T (0,0))/\bG.length*sz<=cs.size/\(∀e∈bG,e.length=sz) /\
  ∀(i j:Nat) (x:AV),iE bG i j=some x->x.one=true/\Rd m A w x (cs.getD (i*sz+j) Go.undef)
 inj:∀i j b,m i=.at b->m j=.at b->i=j
 mT:GOk A w
 others:∀id B,h id=B->B.other=true->∃b,m id=.at b/\yM m A w b B
 scs:∀id,rW (h id)
def dU.cells [Bk] [Ev] {m:Nat->St} {h:Nat->dI} {w:World} (H:dU m A h w) (id T sz:Nat) (bG:List (List AV)) (a:h id=.cells T sz bG):(m id=.uK/\bG=[])\/∃b cs,m id=.at b/\w.heap[b]?=some (.cells cs T (0,0))/\bG.length*sz<=cs.size/\(∀e∈bG,e.length=sz) /\
  ∀(i j:Nat) (x:AV),iE bG i j=some x->x.one=true/\Rd m A w x (cs.getD (i*sz+j) Go.undef):=H.wV id T sz bG (by rw[a];rfl)
def dU.nW [Bk] [Ev] {m a:Nat->St} {h h':Nat->dI} {w:World} (H:dU m A h w) (E:Ext m w a w') (k:∀id B,h' id=B->B.other=true->h id=B/\∀b,m id=.at b->a id=.at b/\w'.heap[b]?=w.heap[b]?) :
  ∀id B,h' id=B->B.other=true->∃b,a id=.at b/\yM a A w' b B:=by
 intro id B i c;obtain⟨g,f⟩:=k id B i c;obtain⟨b,l,j⟩:=H.others id B g c;obtain⟨e,d⟩:=f b l;exact⟨b,e,j.ext E d⟩
def dU.lt [Bk] [Ev] {m:Nat->St} {h:Nat->dI} {w:World} (H:dU m A h w) {b:Nat} (d:m id=.at b):b<w.heap.size:=by
 cases c:h id with
 |no=>rw[H.no id c]at d;cases d
 |dead=>rw[H.dead id c]at d;cases d
 |cells T i bG =>
  obtain⟨a,-⟩|⟨g,cs,a,e,-⟩:=H.cells id T i bG c<;>grind
 |lp st f ps j body =>
  obtain⟨g,a,e⟩:=H.others id _ c rfl;rw[d]at a;cases a;exact e.lt
 |sc T i base bZ tail n =>
  obtain⟨a,-⟩|⟨g,cs,a,e,-⟩:=H.wV id T i _ (by rw[c];rfl)<;>grind
 |it s k =>
  obtain⟨g,a,e⟩:=H.others id _ c rfl;rw[d]at a;cases a;exact e.lt
 |mp es =>
  obtain⟨g,a,e⟩:=H.others id _ c rfl;rw[d]at a;cases a;exact e.lt
theorem dI.AD [Bk] [Ev] {B:dI} {t:Nat×Nat×List (List AV)} (h:B.bG=some t):B.other=false:=by cases B<;>first|rfl|simp_all[dI.bG]
def dI.aeB [Bk] [Ev] {B:dI} (h:B.other=true):B.bG=none:=by cases B<;>first|rfl|simp_all[dI.other]
def dI.zX [Bk] [Ev] {B:dI} {t:Nat×Nat×List (List AV)} (h:B.bG=some t):B≠.no/\B≠.dead:=by grind[dI.bG]
def gO (h:Nat->dI) (id:Nat) (b:dI):Nat->dI:=fun k=>if k=id then b else h k
theorem AI [Bk] [Ev] (h:Nat->dI) (id:Nat) (b:dI):gO h id b id=b:=by simp[gO]
theorem lQ [Bk] [Ev] (h:Nat->dI) {k:Nat} (b:dI) (a:k≠id):gO h id b k=h k:=by grind[gO]
section
variable [Bk] [Ev]
def rW.set {h:Nat->dI} {B:dI} (H:∀id,rW (h id)) (a:rW B):∀k,rW (gO h id B k):=by
 grind[gO]
def sset (m:Nat->St) (id:Nat) (s:St):Nat->St:=fun k=>if k=id then s else m k
def kG {bG:List (List AV)} {sz i j:Nat} {x:AV} (h:iE bG i j=some x) (b:∀e∈bG,e.length=sz):i<bG.length/\j<sz/\i*sz+j<bG.length*sz:=by
 unfold iE at h;cases a:bG[i]? with
 |none=>simp_all
 |some e =>
  rw[a]at h;simp only[a1p]at h;have c:i<bG.length:=(a0y.1 a).1;have f:j<e.length:=(a0y.1 h).1;have d:e.length=sz:=b e (a0a a);refine⟨c,by omega,?_⟩;have:(i+1)*sz<=bG.length*sz:=a1q _ c
  grind
def dU.block {m:Nat->St} {h:Nat->dI} {w:World} (H:dU m A h w) {sz i:Nat} {bG:List (List AV)} {e:List AV} (a:h id=.cells T sz bG) (c:bG[i]?=some e) :
  ∃b cs,m id=.at b/\w.heap[b]?=some (.cells cs T (0,0))/\bG.length*sz<=cs.size/\(∀e∈bG,e.length=sz)/\∀(i j:Nat) (x:AV),iE bG i j=some x->x.one=true/\Rd m A w x (cs.getD (i*sz+j) Go.undef):=by
 obtain⟨-,rfl⟩|h:=H.cells id T sz bG a<;>simp_all
def Ext.EI {m:Nat->St} {h:Nat->dI} {w:World} (H:dU m A h w) (g:Below w.heap.size w w'):Ext m w m w':=by
 have a:∀b,b<w.heap.size->w'.heap[b]?=w.heap[b]?:=g.block;exact⟨g.os,g.tape,g.output,g.size,fun _ _ h=>.inl h,fun _ h=>h,fun _ h=>.inl h,fun b d c=>⟨c,a b d⟩,fun id b e f=>by simp[gW,a b (H.lt e)]⟩
def dU.below [Bk] [Ev] {m:Nat->St} {A:Nat->Prop} {h:Nat->dI} {w w':World} (H:dU m A h w) (g:Below w.heap.size w w'):dU m A h w':=by
 have E:=Ext.EI H g;refine⟨H.out,fun b a=>by have:=H.old b a;have:=g.size;omega,H.no,H.dead,?_,H.inj,H.mT.ext H.out E,H.nW E fun id B c q=>⟨c,fun b a=>⟨a,g.block b (H.lt a)⟩⟩,H.scs⟩;intro id T k bG c;obtain p|⟨b,cs,f,o,n,l,e⟩:=H.wV id T k bG c
 .simp_all
 exact .inr ⟨b,cs,f,(g.block b (H.lt f)).trans o,n,l,fun i j x d=>⟨(e i j x d).1,(e i j x d).2.ext E⟩⟩
def dU.aiR {m:Nat->St} {h:Nat->dI} {w:World} (H:dU m A h w) {sz:Nat} {bG:List (List AV)} {cs:Array Value} {B:dI} (n:B.bG=some (T,sz,bG)) (C:rW B) (q:h id=.no) (F:bG.length*sz<=cs.size) (D:∀e∈bG,e.length=sz)
  (s:∀(i j:Nat) (x:AV),iE bG i j=some x->x.one=true/\Rd m A w x (cs.getD (i*sz+j) Go.undef)) :
  dU (sset m id (.at w.heap.size)) A (gO h id B) (w.alloc (.cells cs T))/\Ext m w (sset m id (.at w.heap.size)) (w.alloc (.cells cs T)):=by
 have y:=H.no id q;have N:∀k b,m k=.at b->b<w.heap.size:=fun k b f=>H.lt f
 have v:∀b,b<w.heap.size->(w.alloc (.cells cs T)).heap[b]?=w.heap[b]?:=fun b f=>by
  show(w.heap.push _)[b]?=_
  grind
 have E:Ext m w (sset m id (.at w.heap.size)) (w.alloc (.cells cs T)):=by
  refine⟨rfl,rfl,rfl,by simp,?_,?_,?_,?_,?_⟩<;>grind[sset,gW]
 refine⟨⟨?_,fun b f=>by have:=H.old b f;grind,?_,?_,?_,?_,H.mT.ext H.out E,H.nW E fun M Q P O=>?_,rW.set H.scs C⟩,E⟩
 .intro k b a r
  unfold sset at a;split at a
  .cases a;have:=H.old _ r;omega
  .exact H.out k b a r
 .intro k a
  unfold gO at a;unfold sset;split at a
  .exact absurd a (dI.zX n).1
  .rename_i c;rw[if_neg c];exact H.no k a
 .intro k a
  unfold gO at a;unfold sset;split at a
  .exact absurd a (dI.zX n).2
  .rename_i c;rw[if_neg c];exact H.dead k a
 .intro k L p o a
  unfold gO at a;split at a
  .rename_i z
   rw[n]at a;cases a;subst z;refine .inr ⟨w.heap.size,cs,by simp[sset],?_,F,D,fun i j x d=>⟨(s i j x d).1,(s i j x d).2.ext E⟩⟩;show(w.heap.push _)[w.heap.size]?=_;simp
  .rename_i c
   obtain⟨K,J⟩|⟨b,u,K,J,I,G,t⟩:=H.wV k L p o a
   .simp_all[sset]
   refine .inr ⟨b,u,by simp_all[sset],?_,I,G,fun i j x d=>⟨(t i j x d).1,(t i j x d).2.ext E⟩⟩
   grind
 .intro i j b l g
  unfold sset at l g;split at l<;>split at g
  .omega
  .grind
  .grind
  .exact H.inj i j b l g
 grind[gO,dI.AD,sset]
def dU.alloc {m:Nat->St} {h:Nat->dI} {w:World} (H:dU m A h w) {sz:Nat} {bG:List (List AV)} {cs:Array Value} (a:h id=.no) (d:bG.length*sz<=cs.size) (c:∀e∈bG,e.length=sz)
  (b:∀(i j:Nat) (x:AV),iE bG i j=some x->x.one=true/\Rd m A w x (cs.getD (i*sz+j) Go.undef)) :
  dU (sset m id (.at w.heap.size)) A (gO h id (.cells T sz bG)) (w.alloc (.cells cs T))/\Ext m w (sset m id (.at w.heap.size)) (w.alloc (.cells cs T)) :=
 H.aiR rfl trivial a d c b
def dU.afz {m:Nat->St} {h:Nat->dI} {w:World} (H:dU m A h w) {sz b:Nat} {els':List (List AV)} {cs cs':Array Value} {B:dI} (p:B.bG=some (T,sz,els')) (J:rW B) (l:m id=.at b)
  (D:w'.heap[b]?=some (.cells cs' T (0,0))) (Q:w.heap[b]?=some (.cells cs T (0,0))) (R:cs'.size=cs.size) (d:∀k,k≠b->w'.heap[k]?=w.heap[k]?) (u:w'.os=w.os) (F:w'.tape=w.tape) (G:w'.output=w.output) (C:w'.heap.size=w.heap.size)
  (L:els'.length*sz<=cs'.size) (K:∀e∈els',e.length=sz) (v:∀(i j:Nat) (x:AV),iE els' i j=some x->x.one=true/\Rd m A w x (cs'.getD (i*sz+j) Go.undef)) :
  dU m A (gO h id B) w'/\Ext m w m w':=by
 have E:Ext m w m w':=by
  refine⟨u,F,G,by omega,fun _ _ h=>.inl h,fun _ h=>h,fun _ h=>.inl h,?_,?_⟩<;>grind[gW]
 refine⟨⟨H.out,fun b l=>by have:=H.old b l;omega,?_,?_,?_,H.inj,H.mT.ext H.out E,H.nW E fun t U o S=>?_,rW.set H.scs J⟩,E⟩
 .intro k a
  unfold gO at a;split at a
  .exact absurd a (dI.zX p).1
  .exact H.no k a
 .intro k a
  unfold gO at a;split at a
  .exact absurd a (dI.zX p).2
  .exact H.dead k a
 .intro k P s n a
  unfold gO at a;split at a
  .rename_i I
   rw[p]at a;cases a;subst I;exact .inr ⟨b,cs',l,D,L,K,fun i j x c=>⟨(v i j x c).1,(v i j x c).2.ext E⟩⟩
  .rename_i f
   obtain g|⟨r,q,z,O,N,M,y⟩:=H.wV k P s n a
   .simp_all
   refine .inr ⟨r,q,z,?_,N,M,fun i j x c=>⟨(y i j x c).1,(y i j x c).2.ext E⟩⟩;rw[d r (by rintro rfl;exact f (H.inj k id r z l))];exact O
 .unfold gO at o
  split at o
  .simp_all[dI.AD]
  .rename_i f
   exact⟨o,fun k a=>⟨a,d k (by rintro rfl;exact f (H.inj t id k a l))⟩⟩
def dU.write {m:Nat->St} {h:Nat->dI} {w:World} (H:dU m A h w) {sz b:Nat} {bG els':List (List AV)} {cs cs':Array Value} (t:h id=.cells T sz bG) (p:m id=.at b)
  (l:w'.heap[b]?=some (.cells cs' T (0,0))) (d:w.heap[b]?=some (.cells cs T (0,0))) (f:cs'.size=cs.size) (c:∀k,k≠b->w'.heap[k]?=w.heap[k]?) (g:w'.os=w.os) (n:w'.tape=w.tape) (o:w'.output=w.output) (a:w'.heap.size=w.heap.size)
  (s:els'.length*sz<=cs'.size) (r:∀e∈els',e.length=sz) (q:∀(i j:Nat) (x:AV),iE els' i j=some x->x.one=true/\Rd m A w x (cs'.getD (i*sz+j) Go.undef)) :
  dU m A (gO h id (.cells T sz els')) w'/\Ext m w m w' :=
 H.afz rfl trivial p l d f c g n o a s r q
def dU.drew {m:Nat->St} {h:Nat->dI} {w:World} (H:dU m A h w):dU m A h w.drew/\Ext m w m w.drew:=by
 have b:Below w.heap.size w w.drew:=(Below.refl _ _).drew;exact⟨H.below b,Ext.EI H b⟩
end
theorem rT {bG:List (List AV)} {g:AV->AV} (i j:Nat):iE (bG.map (·.map g)) i j=(iE bG i j).map g:=by
 grind[iE]
def pX {bG:List (List AV)} {i j:Nat} {x:AV} (h:iE bG i j=some x):∃e∈bG,x∈e:=by
 unfold iE at h;cases a:bG[i]? with
 |none=>simp_all
 |some e =>
  rw[a]at h;exact⟨e,a0a a,a0a h⟩
section
variable [Bk] [Ev]
def oU:∀(k:Nat) (x:AV),(den k x).one=x.one
 |0,x=>rfl
 |k+1,x=>by
  cases x<;>first|rfl|exact Ev.val_one _
def eC.abF {w:World} {g:AV->AV} {sz:Nat} {bG:List (List AV)} (u:∀e∈bG,∀x∈e,∀v,eC A w x v->eC A w (g x) v) (h1:∀x,(g x).one=x.one) {v:Value} (h:eC A w (.lit sz bG) v):eC A w (.lit sz (bG.map (·.map g))) v:=by
 generalize c:AV.lit sz bG=y at h;cases h with
 |lit s es b off cap vs n m k p q r t =>
  cases c;have f:(bG.map (·.map g)).length=bG.length:=by simp
  rw[<-f]at k |-;refine .lit sz _ b off cap vs n m k ?_ ?_ ?_ ?_
  .simp_all
  .intro i j x d
   rw[rT]at d;obtain⟨y,c,rfl⟩:=a1c.1 d;grind
  .simp_all[rT]
  .intro i j x d
   rw[rT]at d;obtain⟨y,c,rfl⟩:=a1c.1 d;obtain⟨e,z,o⟩:=pX c;grind
 |nQ s a cap l =>
  cases c;exact .nQ sz a cap l
 |_=>cases c
def eC.ahE {w:World} {g:AV->AV} {sz:Nat} {bG:List (List AV)} (u:∀e∈bG,∀x∈e,∀v,eC A w (g x) v->eC A w x v) (h1:∀x,(g x).one=x.one) {v:Value} (h:eC A w (.lit sz (bG.map (·.map g))) v):eC A w (.lit sz bG) v:=by
 generalize c:AV.lit sz (bG.map (·.map g))=y at h;cases h with
 |lit s es b off cap vs o n k q l r t =>
  cases c;have d:(bG.map (·.map g)).length=bG.length:=by simp
  rw[d]at k |-;refine .lit sz bG b off cap vs o n k ?_ ?_ ?_ ?_
  .simp_all
  .intro i j x f
   have:=l i j (g x) (by simp_all[rT])
   simp_all
  .simp_all[rT]
  .intro i j x f
   obtain⟨e,z,p⟩:=pX f;grind[rT]
 |nQ s a cap m =>
  injection c with e1 e2;rw[a3p]at e2;subst e2;exact .nQ sz a cap m
 |_=>cases c
def eC.anU {w:World} {g:AV->AV} (d:∀x∈cs,∀v,eC A w x v->eC A w (g x) v) (h1:∀x,(g x).one=x.one) {v:Value} (h:eC A w (.agg cs) v):eC A w (.agg (cs.map g)) v:=by
 cases h with
 |agg _ vs c a b =>
  refine .agg _ vs (by simp_all) ?_ ?_<;>grind
def eC.anV {w:World} {g:AV->AV} (d:∀x∈cs,∀v,eC A w (g x) v->eC A w x v) (h1:∀x,(g x).one=x.one) {v:Value} (h:eC A w (.agg (cs.map g)) v):eC A w (.agg cs) v:=by
 cases h with
 |agg _ vs e b c =>
  refine .agg cs vs (by simp_all) ?_ ?_
  .intro i x a
   have:=b i (g x) (by simp_all)
   simp_all
  .intro i x a
   exact d x (a0a a) _ (c i (g x) (by simp_all))
def eC.amH {w:World} {g:AV->AV} (c:∀x∈cs,∀v,eC A w x v->eC A w (g x) v) {v:Value} (h:eC A w (.bE cs) v):eC A w (.bE (cs.map g)) v:=by
 cases h with
 |bE _ vs b a =>
  refine .bE _ vs (by simp_all) ?_
  grind
def eC.amI {w:World} {g:AV->AV} (c:∀x∈cs,∀v,eC A w (g x) v->eC A w x v) {v:Value} (h:eC A w (.bE (cs.map g)) v):eC A w (.bE cs) v:=by
 cases h with
 |bE _ vs d b =>
  refine .bE cs vs (by simp_all) ?_;intro i x a;exact c x (a0a a) _ (b i (g x) (by simp_all))
def eC.M4 [Bk] [Ev] {A:Nat->Prop} {w:World}:∀(k:Nat) (x:AV) (v:Value),eC A w x v->eC A w (den k x) v
 |0,x,v,h=>h
 |k+1,x,v,h=>by
  have m:∀(x:AV) (v:Value),eC A w x v->eC A w (den k x) v:=eC.M4 k;cases h with
  |e p =>
   have:den (k+1) (.e p)=.c (.int .i64 (cI Ev.eW p)):=by rw[<-vQ];rfl
   rw[this];exact .c _
  |o i=>exact .c _
  |agg cs vs u j d=>exact eC.anU (fun x _=>m x) (oU k) (.agg cs vs u j d)
  |bE cs vs u d=>exact eC.amH (fun x _=>m x) (.bE cs vs u d)
  |lit l bG b off cap vs z y D s j r d=>exact eC.abF (fun e _ x _=>m x) (oU k) (.lit l bG b off cap vs z y D s j r d)
  |nQ l a cap J=>exact eC.abF (fun e _ x _=>m x) (oU k) (.nQ l a cap J)
  |seq l base bZ tail v B j d=>rw[adE];exact eC.abF (fun e _ x _=>m x) (oU k) d
  |qZ t x v d=>exact .qZ t _ v (m x v d)
  |c v=>exact .c v
  |undef=>exact .undef
  |emp a=>exact .emp a
  |iY l bG H G b off vs z y s j r d=>exact .iY l bG H G b off vs z y s j r d
  |fn f q E vs F u K h g=>exact .fn f q E vs F u K h g
  |row n q b off len cap C D z y r=>exact .row n q b off len cap C D z y r
  |Tf n q a cap C=>exact .Tf n q a cap C
  |any v j=>exact .any v j
  |vH l base bZ tail p off v B j I d=>exact .vH l base bZ tail p off v B j I d
  |pP v=>exact .pP v
def eC.FB [Bk] [Ev] {A:Nat->Prop} {w:World}:∀(k:Nat) (x:AV) (v:Value),mU k x=true->eC A w (den k x) v->eC A w x v
 |0,x,v,_,h=>h
 |k+1,x,v,a,h=>by
  have f:∀(x:AV),mU k x=true->∀(v:Value),eC A w (den k x) v->eC A w x v:=fun x a v=>eC.FB k x v a;cases x with
  |e p =>
   have h:eC A w (.c (.int .i64 (evP Ev.eW p))) v:=h;rw[vQ]at h;cases h;exact .e p
  |o i =>
   have h:eC A w (.c (Ev.val i)) v:=h;cases h;exact .o i
  |agg cs=>exact eC.anV (fun x d=>f x (a0k.1 a x d)) (oU k) h
  |bE cs=>exact eC.amI (fun x d=>f x (a0k.1 a x d)) h
  |lit g bG=>exact eC.ahE (fun e b x d=>f x (a0k.1 (a0k.1 a e b) x d)) (oU k) h
  |seq g base bZ tail =>
   simp only[mU,a0e,a3q]at a;obtain⟨rfl,a⟩:=a;rw[adE]at h;refine .seq g base [] tail v (fun q l=>absurd l a0b) (h.one rfl) (eC.ahE (fun e b x d=>?_) (oU k) h);unfold rowsOf at b;rw[List.foldl_nil]at b;rcases a0m.1 b with b|b
   .intro v n
    have e1:den k x=x:=(Ev.vI base e b x d).den k
    simp_all
   grind
  |qZ t y =>
   have m:eC A w (.qZ t (den k y)) v:=h;cases m with|qZ _ _ u j=>exact .qZ t y u (f y a u j)
  |_=>exact h
def eC.cl {b1:Bk} {e1:@Ev b1} {b2:Bk} {e2:@Ev b2} {A:Nat->Prop} {w:World} {x:AV} (d:Cl x):∀{v:Value},@eC b1 e1 A w x v->@eC b2 e2 A w x v:=by
 induction d with
 |c u=>intro v h;cases h;exact .c u
 |undef=>intro v h;cases h;exact .undef
 |emp=>intro v h;cases h;exact .emp _
 |any=>intro v h;cases h with|any v g=>exact .any v g
 |agg cs l f =>
  intro v h;cases h with
  |agg _ vs m g k=>exact .agg cs vs m g fun i x d=>f x (a0a d) (k i x d)
 |bE cs l f =>
  intro v h;cases h with
  |bE _ vs m k=>exact .bE cs vs m fun i x d=>f x (a0a d) (k i x d)
 |lit n bG l f =>
  intro v h;cases h with
  |lit _ _ b off cap vs s r l o g p k =>
   refine .lit n bG b off cap vs s r l o g p fun i j x d=>?_;obtain⟨e,z,y⟩:=pX d;grind
  |nQ _ a cap q=>exact .nQ n a cap q
 |qZ t x d f =>
  intro v h;cases h with|qZ _ _ v h=>exact .qZ t x v (f h)
def Rd.cl [Bk] [Ev] {m:Nat->St} {A:Nat->Prop} {w:World} {x:AV} (a:Cl x):∀{v:Value},Rd m A w x v->eC (Av m A) w x v:=by
 induction a with
 |agg cs e b =>
  intro v h;cases h with
  |pure _ _ h=>exact h
  |agg _ vs d f c=>exact .agg cs vs d f fun i x a=>b x (a0a a) (c i x a)
 |bE cs e b =>
  intro v h;cases h with
  |pure _ _ h=>exact h
  |bE _ vs d c=>exact .bE cs vs d fun i x a=>b x (a0a a) (c i x a)
 |qZ t x a b =>
  intro v h;cases h with
  |pure _ _ h=>exact h
  |qZ _ _ v h=>exact .qZ t x v (b h)
 |_=>intro v h;cases h with|pure _ _ h=>exact h
def aaw [Bk] (p:Poly):List (Poly×List AV)->Option (Option (List AV))
 |[]=>some none
 |q::l=>match aaw p l with
  |some (some r)=>some (some r)
  |none=>none
  |some none=>if q.1=p then some (some q.2)else match eqB (rK q.1 p)with
    |some true=>some (some q.2)
    |some false=>some none
    |none=>none
def adS (base:Nat) (p:Poly):List (Nat×Poly×List AV)->Option (List AV)
 |[]=>none
 |t::l=>if t.1=base/\t.2.1=p then some t.2.2 else adS base p l
def lenOf (base:Nat):List (Nat×Poly)->Option Poly
 |[]=>none
 |t::l=>if t.1=base then some t.2 else lenOf base l
def aj5:Poly->Option Nat
 |[]=>some 0
 |[([],n)]=>if 0<=n then some n.toNat else none
 |_=>none
def rowAt [Bk] (base:Nat) (bZ:List (Poly×List AV)) (tail:List (List AV)) (p:Poly):Option (List AV) :=
 match aaw p bZ with
 |none=>none
 |some (some r)=>some r
 |some none=>match adS base p Bk.iG with
  |some r=>some r
  |none=>match lenOf base Bk.lens with
   |some n=>(aj5 (rK p n)).bind fun k=>tail[k]?
   |none=>none
def XW {base:Nat} {p:Poly} {r:List AV}:∀{l:List (Nat×Poly×List AV)},adS base p l=some r->(base,p,r)∈l
 |[],h=>by cases h
 |t::l,h=>by
  unfold adS at h;split at h
  .grind
  .exact a06 _ (XW h)
def T3 {base:Nat} {n:Poly}:∀{l:List (Nat×Poly)},lenOf base l=some n->(base,n)∈l
 |[],h=>by cases h
 |t::l,h=>by
  unfold lenOf at h;split at h
  .grind
  .exact a06 _ (T3 h)
def Au {n:Poly} (h:lenOf base Bk.lens=some n):((Ev.seq base).length:Int)=cI Ev.eW n:=Ev.amU _ (T3 h)
def adi {ρ:Nat->Int} {p:Poly} {k:Nat} (h:aj5 p=some k):cI ρ p=(k:Int):=by
 unfold aj5 at h;grind[cI,uJ]
def acp (x y:AV):Prop:=x=y\/(x=den 12 y/\Cl x/\mU 12 y=true)
def PN (r0 r:List AV):Prop:=r0.length=r.length/\∀(j:Nat) (y:AV),r[j]?=some y->∃x,r0[j]?=some x/\acp x y
def PN.refl [Bk] [Ev] (r:List AV):PN r r:=⟨rfl,fun j y h=>⟨y,h,.inl rfl⟩⟩
def acp.one {x y:AV} (h:acp x y):x.one=y.one:=by
 rcases h with rfl|⟨rfl,-⟩
 .rfl
 .exact oU 12 y
def acp.rdL {w:World} {x y:AV} {v:Value} (h:acp x y) (a:eC A w x v):eC A w y v:=by
 rcases h with rfl|⟨rfl,-,b⟩
 .exact a
 .exact eC.FB 12 y v b a
def acp.rd {m:Nat->St} {w:World} {x y:AV} {v:Value} (h:acp x y) (a:Rd m A w x v):Rd m A w y v:=by
 rcases h with rfl|⟨rfl,c,b⟩
 .exact a
 .exact .pure _ _ (eC.FB 12 y v b (a.cl c))
end
theorem Mo [Bk] [Ev]:∀(bZ:List (Poly×List AV)) (l:List (List AV)) (i:Nat),(∀q∈bZ,(cI Ev.eW q.1).toNat≠i)->(bZ.foldl (fun l q=>l.set (cI Ev.eW q.1).toNat q.2) l)[i]?=l[i]?
 |[],l,i,_=>rfl
 |q::bZ,l,i,h=>by
  rw[a2l,Mo bZ _ i (fun q a=>h q (a06 _ a)),a3a (h q a1b)]
section
variable [Bk] [Ev]
def acz {p:Poly} (i:0<=cI Ev.eW p):∀(bZ:List (Poly×List AV)) (l:List (List AV)),(∀q∈bZ,0<=cI Ev.eW q.1/\(cI Ev.eW q.1).toNat<l.length) ->
  (∀r,aaw p bZ=some (some r)->(bZ.foldl (fun l q=>l.set (cI Ev.eW q.1).toNat q.2) l)[(cI Ev.eW p).toNat]?=some r)/\(aaw p bZ=some none->∀q∈bZ,(cI Ev.eW q.1).toNat≠(cI Ev.eW p).toNat)
 |[],l,_=>⟨fun r h=>(by cases h),fun _ q h=>absurd h a0b⟩
 |q::bZ,l,e=>by
  have g:=e q a1b;obtain⟨n,m⟩:=acz i bZ (l.set (cI Ev.eW q.1).toNat q.2) (fun q g=>by grind)
  have j:∀r,aaw p bZ=some none->cI Ev.eW q.1=cI Ev.eW p->q.2=r->((q::bZ).foldl (fun l q=>l.set (cI Ev.eW q.1).toNat q.2) l)[(cI Ev.eW p).toNat]?=some r:=by
   grind[Mo]
  constructor
  .intro r b
   unfold aaw at b;split at b
   .simp_all
   .cases b
   .rename_i f
    split at b
    .simp_all
    .split at b
     .rename_i d
      cases b;have:=Io d
      grind[iA]
     .cases b
     simp_all
  .intro a k c
   unfold aaw at a;split at a
   .cases a
   .cases a
   .rename_i f
    rcases a0d.1 c with rfl|c
    .split at a
     .cases a
     .split at a
      .cases a
      .rename_i d
       have:=Io d;rw[iA]at this;grind
      simp_all
    grind
def Mx {bZ:List (Poly×List AV)} {tail:List (List AV)} {p:Poly} {r:List AV} (d:∀q∈bZ,InB base q.1) (i:0<=cI Ev.eW p) (h:rowAt base bZ tail p=some r) :
  ∃r0,(rowsOf base bZ tail)[(cI Ev.eW p).toNat]?=some r0/\PN r0 r:=by
 have s:(bZ.foldl (fun l q=>l.set (cI Ev.eW q.1).toNat q.2) (Ev.seq base)).length=(Ev.seq base).length:=by
  have:=iU base bZ []
  simp_all[rowsOf]
 obtain⟨f,e⟩:=acz i bZ (Ev.seq base) d;unfold rowAt at h;split at h
 .cases h
 .rename_i r' b
  cases h;have v:=f r b;have c:=(a0y.1 v).1;exact⟨r,by simp_all[rowsOf,a12],PN.refl r⟩
 .rename_i b
  have z:=Mo bZ (Ev.seq base) (cI Ev.eW p).toNat (e b);split at h
  .rename_i r' u
   cases h;have o:=XW u;obtain⟨-,a,w⟩:=Ev.sat _ o;have a:(Ev.seq base)[(cI Ev.eW p).toNat]?=some (r.map (den 12)):=a;have c:=(a0y.1 a).1;refine⟨r.map (den 12),by simp_all[rowsOf,a12],by simp,?_⟩;intro j y g;refine⟨den 12 y,by simp_all,.inr ⟨rfl,?_,?_⟩⟩
   .exact Ev.vI base _ (a0a a) _ (a3r (a0a g))
   grind
  .split at h
   .rename_i n m
    rw[Option.bind_eq_some_iff]at h;obtain⟨k,t,x⟩:=h;have e1:=Au m;have e2:=adi (ρ:=Ev.eW) t;rw[iA]at e2;refine⟨r,?_,PN.refl r⟩
    grind[rowsOf]
   .cases h
def aaL [Bk] (base:Nat) (bZ:List (Poly×List AV)) (tail:List (List AV)) (p:Poly) (r:List AV):Option (List (Poly×List AV)×List (List AV)) :=
 match lenOf base Bk.lens with
 |some n=>match aj5 (rK p n)with
  |some k=>if k<tail.length then some (bZ,tail.set k r)else none
  |none=>if TU p=some false/\TU (rK p n)=some true then
    match bZ.getLast? with
    |some q=>if q.1=p then some (bZ.dropLast++[(p,r)],tail)else some (bZ++[(p,r)],tail)
    |none=>some ([(p,r)],tail)
   else none
 |none=>none
def aem {bZ a:List (Poly×List AV)} {tail b:List (List AV)} {p:Poly} {r:List AV} (w:∀q∈bZ,InB base q.1) (h:aaL base bZ tail p r=some (a,b)) :
  rowsOf base a b=(rowsOf base bZ tail).set (cI Ev.eW p).toNat r/\(∀q∈a,InB base q.1)/\0<=cI Ev.eW p:=by
 have s:(bZ.foldl (fun l q=>l.set (cI Ev.eW q.1).toNat q.2) (Ev.seq base)).length=(Ev.seq base).length:=by
  have:=iU base bZ []
  simp_all[rowsOf]
 unfold aaL at h;split at h
 .rename_i n o
  have e1:=Au o;split at h
  .rename_i k t
   split at h
   .rename_i v
    cases h;have e2:=adi (ρ:=Ev.eW) t;rw[iA]at e2;grind[rowsOf]
   .cases h
  .split at h
   .rename_i i
    have j:=pO i.1;have j:=of_decide_eq_false j.symm;have g:=pO i.2;have g:=of_decide_eq_true g.symm;rw[iA]at g;have m:InB base p:=⟨by omega,by omega⟩
    have app:∀c:List (Poly×List AV),(c.foldl (fun l q=>l.set (cI Ev.eW q.1).toNat q.2) (Ev.seq base)).length=(Ev.seq base).length:=by
     intro c;have:=iU base c []
     grind[rowsOf]
    have add:∀c:List (Poly×List AV),rowsOf base (c++[(p,r)]) tail=(rowsOf base c tail).set (cI Ev.eW p).toNat r:=by
     grind[rowsOf]
    split at h
    .rename_i q d
     split at h
     .rename_i e
      cases h;have y:bZ=bZ.dropLast++[q]:=by
       have f:bZ≠[]:=(by grind);rw[List.getLast?_eq_some_getLast f]at d;cases d;exact(List.dropLast_concat_getLast f).symm
      refine⟨?_,?_,m.1⟩
      .grind[rowsOf,List.set_append_left,List.set_set]
      .intro x u
       grind
     grind
    .rename_i d
     cases h;have:bZ=[]:=by simpa using d
     grind
   .cases h
 .cases h
def TH:Value->AV
 | .slice none 0 0=>.emp
 |v=>.c v
def SB:Value->AV
 | .agg vs=>if vs.all Value.oneCell' then .agg (vs.toList.map TH)else .c (.agg vs)
 |v=>TH v
def aal (A:Nat->Prop) (w:World) (v:Value):eC A w (TH v) v:=by
 unfold TH;split
 .exact .emp _
 .exact .c _
def ahi (v:Value) (h:v.oneCell'=true):(TH v).one=true:=by
 unfold TH;split
 .rfl
 .exact h
def getD_map {β:Type} (l:Array α) (f:α->β) (i:Nat) (x:β) (d:α) (h:(l.toList.map f)[i]?=some x):f (l.getD i d)=x:=by
 rw[a0l]at h;cases a:l.toList[i]?<;>simp_all
def AL (A:Nat->Prop) (w:World) (v:Value):eC A w (SB v) v:=by
 unfold SB;split
 .rename_i vs
  split
  .rename_i d
   refine .agg _ _ (by simp) ?_ ?_
   .intro i x a
    have b:=getD_map vs TH i x Go.undef a;have e:i<vs.size:=(by grind);rw[<-b];refine ahi _ ?_
    simp_all
   .intro i x a
    have b:=getD_map vs TH i x Go.undef a;rw[<-b];exact aal A w _
  .exact .c _
 .exact aal A w _
end
def eF (f:List AV):Operand->AV
 | .tmp t=>f.getD t .undef
 | .const v=>SB v
 | .global g=>.c (.pointer (some ⟨g,0,none⟩))
 | .func k=>.fn (.func k) [] []
def mark (D:Nat):Deferred:={ target:=.collected D,args:=#[] }
def Marks (m:Nat->St) (w:World) (ds:List Deferred):Prop:=∃a:List Nat,ds=a.map mark/\a.Nodup/\∀D∈a,w.heap[D]?=some (.deferred (some []))/\∀id,m id≠.at D
def Marks.nil (m:Nat->St) (w:World):Marks m w []:=⟨[],rfl,List.nodup_nil,fun D h=>absurd h a0b⟩
theorem Marks.ext {m a:Nat->St} {w:World} {ds:List Deferred} (h:Marks m w ds) (E:Ext m w a w'):Marks a w' ds:=by
 obtain⟨j,i,g,f⟩:=h;refine⟨j,i,g,fun D e=>?_⟩
 obtain⟨d,c⟩:=f D e;have b:D<w.heap.size:=(a2p.1 d).1;obtain⟨l,k⟩:=E.un D b c;simp_all
structure nJ [Bk] [Ev] (m:Nat->St) (A:Nat->Prop) (w:World) (f:List AV) (a:Act):Prop where
 size:a.tmps.size=f.length
 rd:∀(i:Nat) (x:AV),f[i]?=some x->Rd m A w x (a.tmps.getD i Go.undef)
 defers:Marks m w a.defers
def nJ.eval [Bk] [Ev] {m:Nat->St} {w:World} {f:List AV} {a:Act} (h:nJ m A w f a) (o:Operand):Rd m A w (eF f o) (a.eval o):=by
 cases o with
 |tmp t =>
  simp only[eF,Act.eval];cases b:f[t]? with
  |some x =>
   have:=h.rd t x b
   simp_all
  |none =>
   have hs:a.tmps.size<=t:=by rw[h.size];simp_all
   rw[List.getD,b];have:a.tmps.getD t Go.undef=Go.undef:=by simp_all
   rw[this];exact .pure _ _ .undef
 |const v=>exact .pure _ _ (AL _ w v)
 |global g=>exact .pure _ _ (.c _)
 |func k=>exact .pure _ _ (.fn _ [] [] #[] #[] rfl rfl (by simp_all) (by simp_all))
def qS (f:List AV):Option Tmp->AV->List AV
 |none,_=>f
 |some d,v=>f.set d v
def nJ.put [Bk] [Ev] {m c:Nat->St} {w:World} {f:List AV} {a:Act} (h:nJ m A w f a) (E:Ext m w c w') {x:AV} {v:Value} (k:Rd c A w' x v) (d:Option Tmp):nJ c A w' (qS f d x) (a.put d v):=by
 cases d with
 |none=>exact⟨h.size,fun i x g=>(h.rd i x g).ext E,h.defers.ext E⟩
 |some d =>
  refine⟨by simp[Act.put,qS,h.size],?_,h.defers.ext E⟩;intro i y b;simp only[qS,Act.put]at b |-;rw[a0o]at b;split at b
  .rename_i e
   subst e;split at b
   .rename_i j
    cases b;have:d<a.tmps.size:=by rw[h.size];exact j
    simp_all
   simp_all
  .rename_i e
   have:(a.tmps.setIfInBounds d v).getD i Go.undef=a.tmps.getD i Go.undef:=by
    simp_all
   rw[this];exact(h.rd i y b).ext E
theorem nJ.ext [Bk] [Ev] {m b:Nat->St} {w:World} {f:List AV} {a:Act} (h:nJ m A w f a) (E:Ext m w b w'):nJ b A w' f a:=⟨h.size,fun i x c=>(h.rd i x c).ext E,h.defers.ext E⟩
def CR (R:AV->Value->Prop) (cs:List AV) (vs:Array Value):Prop:=vs.size=cs.length/\∀(i:Nat) (x:AV),cs[i]?=some x->x.one=true/\R x (vs.getD i Go.undef)
def jF:AV->Option (List AV)
 | .agg cs=>some cs
 |x=>if x.one then some [x]else none
def Value.ae4 [Bk] [Ev] {v:Value} (h:v.oneCell'=true):v.cells=#[v]:=by cases v<;>simp_all [Value.cells,Value.oneCell']
def pE [Bk] [Ev] {m:Nat->St} {w:World} {x:AV} {v:Value} (h:Rd m A w x v) (d:jF x=some cs):CR (Rd m A w) cs v.cells:=by
 have one:∀(x:AV) (v:Value),Rd m A w x v->x.one=true->CR (Rd m A w) [x] v.cells:=by
  intro x v h b;rw[Value.ae4 (h.one b)];refine⟨rfl,?_⟩;intro i y e;cases i<;>simp_all
 unfold jF at d;split at d
 .cases d
  cases h with
  |pure _ _ h =>
   cases h with
   |agg _ vs c b h=>exact⟨c,fun i x a=>⟨b i x a,.pure _ _ (h i x a)⟩⟩
  |agg _ vs c b h=>exact⟨c,fun i x a=>⟨b i x a,h i x a⟩⟩
 grind
def CR.agg [Bk] [Ev] {m:Nat->St} {A:Nat->Prop} {w:World} {cs:List AV} {vs:Array Value} (h:CR (Rd m A w) cs vs):Rd m A w (.agg cs) (.agg vs):=.agg cs vs h.1 (fun i x a=>(h.2 i x a).1) fun i x a=>(h.2 i x a).2
def nN (cs:List α) (off:Nat) (xs:List α):List α:=cs.take off++xs++cs.drop (off+xs.length)
theorem xM [Bk] [Ev] {cs:List α} {xs:List α} (h:off+xs.length<=cs.length):(nN cs off xs).length=cs.length:=by grind[nN]
section
variable [Bk] [Ev]
def sU {cs:List α} {xs:List α} (h:off+xs.length<=cs.length) (i:Nat):(nN cs off xs)[i]?=if off<=i/\i<off+xs.length then xs[i-off]? else cs[i]?:=by
 unfold nN;by_cases a:i<off<;>grind
def foldl_set (us:List Value):∀(a off:Nat) (vs:Array Value),off+a+us.length<=vs.size->((us.zipIdx a).foldl (fun cs (c,j)=>cs.setIfInBounds (off+j) c) vs).size=vs.size /\
  ∀k,((us.zipIdx a).foldl (fun cs (c,j)=>cs.setIfInBounds (off+j) c) vs).getD k Go.undef=if off+a<=k/\k<off+a+us.length then us.getD (k-off-a) Go.undef else vs.getD k Go.undef:=by
 induction us with
 |nil=>simp_all[if_neg]
 |cons u us d =>
  intro a off vs h;simp only[a0v]at h;simp only[List.zipIdx_cons,a2l];obtain⟨g,f⟩:=d (a+1) off (vs.setIfInBounds (off+a) u) (by grind);refine⟨by simp_all,fun k=>?_⟩;rw[f k];by_cases e:k=off+a
  .subst e
   rw[if_neg (by omega),if_pos ⟨by omega,by simp⟩];have:off+a<vs.size:=by omega
   simp_all
  .by_cases b:off+(a+1)<=k/\k<off+(a+1)+us.length
   .rw[if_pos b,if_pos (by grind)]
    grind
   .rw[if_neg b,if_neg (by grind)]
    simp[Array.getElem?_setIfInBounds_ne (show off+a≠k by omega)]
def R4 {R:AV->Value->Prop} {xs:List AV} {vs us:Array Value} (h:CR R cs vs) (g:CR R xs us) (d:off+xs.length<=cs.length) :
  CR R (nN cs off xs) (us.zipIdx.foldl (fun cs (c,j)=>cs.setIfInBounds (off+j) c) vs):=by
 have e:us.zipIdx.foldl (fun cs (c,j)=>cs.setIfInBounds (off+j) c) vs=(us.toList.zipIdx 0).foldl (fun cs (c,j)=>cs.setIfInBounds (off+j) c) vs:=by
  rw[<-Array.foldl_toList];simp
 have b:us.toList.length=xs.length:=by simpa using g.1
 obtain⟨l,k⟩:=foldl_set us.toList 0 off vs (by rw[b,h.1];omega);refine⟨?_,?_⟩
 .rw[e,l,xM d];exact h.1
 .intro i x a
  rw[sU d]at a;rw[e,k i];split at a
  .rename_i f
   rw[if_pos (by omega)];have:=g.2 _ _ a
   simp_all
  .rename_i f
   rw[if_neg (by omega)];exact h.2 _ _ a
def yS (a:Nat->Option (Nat×Nat)) (cells:List AV):List (Nat×AV)->Option (List AV)
 |[]=>some cells
 |(i,x)::d =>
  match a i,jF x with
  |some (off,c),some b=>if b.length=c/\off+b.length<=cells.length then yS a (nN cells off b) d else none
  |_,_=>none
def EZ {m:Nat->St} {A:Nat->Prop} {w:World} (a:Nat->Option (Nat×Nat)):∀(ps:List (Nat×AV)) (qs:List (Nat×Value)) (cs out:List AV) (vs:Array Value),CR (Rd m A w) cs vs->ps.length=qs.length ->
  (∀(i:Nat) (p:Nat×AV) (q:Nat×Value),ps[i]?=some p->qs[i]?=some q->p.1=q.1/\Rd m A w p.2 q.2)->yS a cs ps=some out->∃c,Instr.fill a vs qs=some c/\CR (Rd m A w) out c
 |[],[],cs,out,vs,h,_,_,b=>by simp only[yS,a0i]at b;subst b;exact⟨vs,rfl,h⟩
 |[],q::qs,_,_,_,_,d,_,_=>by simp at d
 |p::ps,[],_,_,_,_,d,_,_=>by simp at d
 |(i,x)::ps,(j,v)::qs,cs,out,vs,h,d,n,b=>by
  obtain⟨e,l⟩:=n 0 (i,x) (j,v) rfl rfl;simp only at e l;subst e;simp only[yS]at b;split at b
  .rename_i off t s o y
   split at b
   .rename_i f
    have g:=pE l y;have z:v.cells.size=s.length:=g.1;have:=R4 h g f.2;obtain⟨c,u,r⟩:=EZ a ps qs _ out _ this (by grind) (fun k p q o B=>n (k+1) p q (by grind) (by grind)) b;refine⟨c,?_,r⟩;simp only[Instr.fill,o];rw[if_neg]
    .exact u
    .have C:=h.1
     grind
   simp_all
  simp_all
end
abbrev AH:=Nat->dI
structure AR where
 v:AV
 bZ:List (Nat×dI):=[]
 xC:List Nat:=[]
def fZ (h:AH):List (Nat×dI)->AH
 |[]=>h
 |(i,b)::r=>fZ (gO h i b) r
def dX [Bk] [Ev] (P:Program) (o:Oper) (f:List AV) (h:AH) (r:AR):Prop :=
 ∀m A w a,dU m A h w->nJ m A w f a->∃x w' b,((execOp a.eval o).run P w=.ok (.value x) w'\/((execOp a.eval o).run P w=.ok .skip w'/\x=Go.undef)) /\
  dU b A (fZ h r.bZ) w'/\Rd b A w' r.v x/\Ext m w b w'
section
variable {P:Program} {o:Oper} {f:List AV} {h:AH}
section
variable [Bk] [Ev]
def cK {v:AV} {xC:List Nat} (k:∀m A w a,dU m A h w->nJ m A w f a->∃x,(execOp a.eval o).run P w=.ok (.value x) w/\Rd m A w v x):dX P o f h ⟨v,[],xC⟩:=by
 intro m A w a H F;obtain⟨x,c,b⟩:=k m A w a H F;exact⟨x,w,m,.inl c,H,b,Ext.refl m w⟩
def ED (b:o.op=.move x):dX P o f h ⟨eF f x,[],[]⟩ :=
 cK fun m A w a H F=>⟨a.eval x,by simp[execOp,b],F.eval x⟩
def pN (b:o.op=.assign x):dX P o f h ⟨eF f x,[],[]⟩ :=
 cK fun m A w a H F=>⟨a.eval x,by simp[execOp,b],F.eval x⟩
def Rd.bool {m:Nat->St} {w:World} {b:Bool} {v:Value} (h:Rd m A w (.c (.bool b)) v):v=.bool b:=by
 cases h with|pure _ _ h=>cases h;rfl
def Rd.amm {m:Nat->St} {w:World} {i:Nat} {v:Value} (h:Rd m A w (.o i) v):v=Ev.val i:=by
 cases h with|pure _ _ h=>cases h;rfl
def Rd.fK {m:Nat->St} {w:World} {u v:Value} (h:Rd m A w (.c u) v):v=u:=by
 cases h with|pure _ _ h=>cases h;rfl
def ajU {c y:Operand} {b:Bool} (g:o.op=.pick c x y) (e:eF f c=.c (.bool b)):dX P o f h ⟨bif b then eF f x else eF f y,[],[]⟩:=by
 refine cK fun m A w a H F=>?_;have d:=F.eval c;rw[e]at d;have i:=d.bool;cases b
 .exact⟨a.eval y,by simp_all[execOp,asBool],F.eval y⟩
 .exact⟨a.eval x,by simp_all[execOp,asBool],F.eval x⟩
def PI {m:Nat->St} {w:World} (H:dU m A h w) {vs:Array Value} (b:h id=.no) (c:CR (Rd m A w) cs vs) :
  dU (sset m id (.at w.heap.size)) A (gO h id (.cells T cs.length [cs])) (w.alloc (.cells vs T))/\Ext m w (sset m id (.at w.heap.size)) (w.alloc (.cells vs T))/\Rd (sset m id (.at w.heap.size)) A (w.alloc (.cells vs T)) (.ptr cs.length id 0 0) (.pointer (some ⟨w.heap.size,0,none⟩)):=by
 obtain⟨e,d⟩:=H.alloc (id:=id) (T:=T) (sz:=cs.length) (bG:=[cs]) (cs:=vs) b (by simp[c.1]) (by simp) (by
  intro i j x a;cases i with
  |zero =>
   simp only[iE,a3s,a1p]at a;rw[a3t,a02];exact c.2 j x a
  |succ i=>simp_all[iE])
 refine⟨e,d,?_⟩;have:=Rd.ptr (m:=sset m id (.at w.heap.size)) (A:=A) (w:=w.alloc (.cells vs T)) cs.length id 0 0 w.heap.size (by simp[sset]) (by simp)
 simp_all
def am3 {e:TypeId} (j:o.op=.box e x) (c:jF (eF f x)=some cs) (b:h id=.no):dX P o f h ⟨.ptr cs.length id 0 0,[(id,.cells e cs.length [cs])],[id]⟩:=by
 intro m A w a H F;obtain⟨i,g,d⟩:=PI H (T:=e) b (pE (F.eval x) c);refine⟨_,_,_,.inl ?_,i,d,g⟩
 simp_all[execOp,Instr.box,newVar,newRow]
def ahh {e:TypeId} {i:TypeInfo} {z:Value} (l:o.op=.alloc e) (n:P.info? e=some i) (k:i.zero=some z) (c:jF (SB z)=some cs) (b:h id=.no):dX P o f h ⟨.ptr cs.length id 0 0,[(id,.cells e cs.length [cs])],[id]⟩:=by
 intro m A w a H F;obtain⟨j,g,d⟩:=PI H (T:=e) b (pE (.pure _ _ (AL _ w z)) c);refine⟨_,_,_,.inl ?_,j,d,g⟩
 simp_all[execOp,Instr.alloc,zeroValue,typeInfo,newVar,newRow]
def mM (P:Program) (t:TypeId) (cs:List AV) (off:Nat):Option AV :=
 match P.underlying t with
 |some (.struct _)|some (.array _ _)=>match P.info? t with
  |some i=>if off+i.size<=cs.length then some (.agg ((cs.drop off).take i.size))else none
  |none=>none
 |some _=>cs[off]?
 |none=>none
def sJ (t:TypeId) (w:World) {d:TypeDesc} (h:P.underlying t=some d):(isAgg t).run P w=.ok (match d with | .struct _ | .array _ _=>true|_=>false) w:=by
 simp only[isAgg,Sem.run_bind,run_underlying h,Result.andThen_ok];cases d<;>simp
def xZ {m:Nat->St} {w:World} {t:TypeId} {x:AV} (a:mM P t cs off=some x) {b o0:Nat} {vs:Nat->Value} (k:∀j y,cs[j]?=some y->y.one=true/\w.cell? ⟨b,o0+j,none⟩=some (vs j)/\Rd m A w y (vs j)) :
  ∃v,(loadVar t ⟨b,o0+off,none⟩).run P w=.ok v w/\Rd m A w x v:=by
 unfold mM at a;have agg:∀(i:TypeInfo),P.info? t=some i->off+i.size<=cs.length->∃v:Array Value,(loadCells ⟨b,o0+off,none⟩ i.size).run P w=.ok v w/\Rd m A w (.agg ((cs.drop off).take i.size)) (.agg v):=by
  intro i d c;refine⟨_,run_loadCells w _ i.size (fun j=>vs (off+j)) ?_,?_⟩
  .intro j l
   have:(⟨b,o0+off,none⟩:Addr).add j=⟨b,o0+(off+j),none⟩:=(by grind[Addr.add]);rw[this];have o:cs[off+j]?=some cs[off+j]:=by simp_all
   grind
  .refine .agg _ _ (by grind) ?_ ?_
   .grind
   simp_all[a19]
 split at a
 .rename_i p f
  cases d:P.info? t with
  |none=>simp_all
  |some i =>
   simp only[d]at a;split at a
   .rename_i c
    cases a;obtain⟨v,h,g⟩:=agg i d c;simp_all[loadVar,sJ,sizeOf,typeInfo]
   simp_all
 .rename_i n e f
  cases d:P.info? t with
  |none=>simp_all
  |some i =>
   simp only[d]at a;split at a
   .rename_i c
    cases a;obtain⟨v,h,g⟩:=agg i d c;simp_all[loadVar,sJ,sizeOf,typeInfo]
   simp_all
 .simp_all[sJ,loadVar]
 simp_all
def Rd.Iv {m:Nat->St} {w:World} {sz i b:Nat} {u:Value} (h:Rd m A w (.ptr sz id i off) u) (g:m id=.at b):u=.pointer (some ⟨b,i*sz+off,none⟩):=by
 cases h with
 |pure _ _ h=>cases h
 |ptr _ _ _ _ d a c=>simp_all
 |Oc _ _ _ _ u a=>simp_all
def Rd.vU {m:Nat->St} {w:World} {sz i n b:Nat} {u:Value} (h:Rd m A w (.own T sz id i n) u) (g:m id=.at b) :
  ∃cap,u=.slice (some ⟨b,i*sz,none⟩) n cap/\n<=cap/\cap<=maxLen/\(i+cap)*sz=gW w b:=by
 cases h with
 |pure _ _ h=>cases h
 |own _ _ _ _ _ j cap a f d e c=>simp_all
 |vN _ _ _ _ _ a=>simp_all
 |wK _ _ _ _ _ _ _ _ a=>simp_all
def TE {t:TypeId} {sz i:Nat} {bG:List (List AV)} {e:List AV} {v:AV} (E:o.op=.load t x) (l:eF f x=.ptr sz id i off) (p:h id=.cells T sz bG) (q:bG[i]?=some e) (n:mM P t e off=some v) :
  dX P o f h ⟨v,[],[id]⟩:=by
 refine cK fun m A w a H F=>?_
 have d:=F.eval x;rw[l]at d;obtain⟨b,cs,z,I,G,s,r⟩:=H.block p q;have D:=d.Iv z;obtain⟨u,r1,r2⟩:=xZ (P:=P) (m:=m) (A:=A) (w:=w) (b:=b) (o0:=i*sz) (vs:=fun j=>cs.getD (i*sz+j) Go.undef) n (by
  intro j y C;have c:iE bG i j=some y:=by simp_all[iE]
  obtain⟨k,g⟩:=r i j y c;refine⟨k,?_,g⟩;have:=(kG c s).2.2;have B:i*sz+j<cs.size:=by omega
  simp_all[World.cell?])
 simp_all[execOp,Instr.loadAt,Instr.sureAddr]
def RD {t:TypeId} {sz i:Nat} {bG:List (List AV)} {e:List AV} {v:AV} (B:o.op=.load t x) (n:eF f x=.iY sz bG i off) (C:bG[i]?=some e) (p:mM P t e off=some v) :
  dX P o f h ⟨v,[],[]⟩:=by
 refine cK fun m A w a H F=>?_;have c:=F.eval x;rw[n]at c;cases c with
 |pure _ u c =>
  generalize r:a.eval x=u at c;cases c with
  |iY _ _ _ _ b d vs E D q l s k =>
   obtain⟨u,r1,r2⟩:=xZ (P:=P) (m:=m) (A:=A) (w:=w) (b:=b) (o0:=d+i*sz) (vs:=vs i) p (by
    intro j y z;have g:iE bG i j=some y:=by simp_all[iE]
    refine⟨l i j y g,?_,.pure _ _ (k i j y g)⟩
    grind)
   refine⟨u,?_,r2⟩;have e1:d+(i*sz+off)=d+i*sz+off:=by omega
   simp_all[execOp,Instr.loadAt,Instr.sureAddr]
def afM {m:Nat->St} {w:World} (H:dU m A h w) {sz i b:Nat} {bG:List (List AV)} {e xs:List AV} {us:Array Value} (D:h id=.cells T sz bG) (u:m id=.at b) (p:bG[i]?=some e) (g:CR (Rd m A w) xs us) (R:off+xs.length<=sz) :
  ∃w',(storeCells ⟨b,i*sz+off,none⟩ us.toList).run P w=.ok () w'/\dU m A (gO h id (.cells T sz (bG.set i (nN e off xs)))) w'/\Ext m w m w':=by
 obtain⟨V,cs,F,q,U,E,L⟩:=H.block D p;rw[u]at F;cases F;have C:i<bG.length:=(a0y.1 p).1;have N:e.length=sz:=E e (a0a p);have n:(i+1)*sz<=bG.length*sz:=a1q _ C;rw[a2h]at n;have r:us.toList.length=xs.length:=by simpa using g.1
 have o:i*sz+off+0+us.toList.length<=cs.size:=by omega
 have K:∀v∈us.toList,v.oneCell'=true:=by
  intro v G;obtain⟨k,B,rfl⟩:=a3u G;have z:k<xs.length:=by omega
  have:=g.2 k xs[k] (by simp[z]);have:=this.2.one this.1
  simp_all
 have t:=run_storeCells_at P b (i*sz+off) T us.toList 0 cs w q o K;refine⟨_,t,?_⟩;have s:(cs.toList.take (i*sz+off+0)++us.toList++cs.toList.drop (i*sz+off+0+us.toList.length)).toArray.size=cs.size:=by grind
 have c:∀k,(cs.toList.take (i*sz+off+0)++us.toList++cs.toList.drop (i*sz+off+0+us.toList.length)).toArray.getD k Go.undef=if i*sz+off<=k/\k<i*sz+off+xs.length then us.getD (k-(i*sz+off)) Go.undef else cs.getD k Go.undef:=by
  intro k;have:=sU (cs:=cs.toList) (off:=i*sz+off) (xs:=us.toList) (by omega) k;unfold nN at this;have e1:∀(l:List Value),l.toArray.getD k Go.undef=(l[k]?).getD Go.undef:=by simp_all
  rw[e1,a2q,this,r];split<;>simp_all
 refine H.write (els':=bG.set i (nN e off xs)) D u (setRow_heap w b cs _ T _ q) q s (fun k B=>setRow_other w b k _ B) rfl rfl rfl (by simp) ?_ ?_ ?_
 .simp_all
 .grind[xM]
 .intro d j x a
  unfold iE at a;rw[a0o]at a;split at a
  .rename_i f
   subst f;simp only[C,if_true,a1p]at a;rw[sU (by omega)]at a;rw[c];split at a
   .rename_i I
    rw[if_pos (by omega)];have:=g.2 _ _ a;refine⟨this.1,?_⟩;rw[show i*sz+j-(i*sz+off)=j-off by omega];simp_all
   .rename_i I
    rw[if_neg (by omega)];exact L i j x (by simp_all[iE])
  .rename_i f
   have J:iE bG d j=some x:=a;have S:=kG J E;rw[c,if_neg]
   .grind
   .rintro⟨Q,O⟩
    rcases a0z d i with y|M
    .have:(d+1)*sz<=i*sz:=a1q _ y
     grind
    .have:(i+1)*sz<=d*sz:=a1q _ (by omega)
     grind
def ahd {t:TypeId} {y:Operand} {sz i:Nat} {bG:List (List AV)} {e xs:List AV} (z:o.op=.store t x y) (p:eF f x=.ptr sz id i off) (c:h id=.cells T sz bG) (d:bG[i]?=some e) (n:jF (eF f y)=some xs)
  (q:(P.info? t).map (·.size)=some xs.length) (r:off+xs.length<=sz):dX P o f h ⟨.undef,[(id,.cells T sz (bG.set i (nN e off xs)))],[id]⟩:=by
 intro m A w a H F;obtain⟨b,cs,k,-⟩:=H.block c d;have j:=F.eval x;rw[p]at j;have v:=j.Iv k;have g:=pE (F.eval y) n;obtain⟨w',r1,r2,l⟩:=afM (P:=P) H c k d g r;cases s:P.info? t with
 |none=>simp_all
 |some u =>
  simp only[s,a0s,a0i]at q;refine⟨Go.undef,w',m,.inr ⟨?_,rfl⟩,r2,.pure _ _ .undef,l⟩;have hs:(a.eval y).cells.size=xs.length:=g.1
  simp_all[execOp,Instr.storeAt,Instr.sureAddr,storeVar,sizeOf,typeInfo]
def Ln {s sz i:Nat} {bG:List (List AV)} {e:List AV} (n:o.op=.nilCheck x) (d:eF f x=.ptr sz id i off) (g:h id=.cells T s bG) (j:bG[i]?=some e):dX P o f h ⟨.ptr sz id i off,[],[id]⟩:=by
 refine cK fun m A w a H F=>?_;obtain⟨b,cs,k,-⟩:=H.block g j;have c:=F.eval x;rw[d]at c;have l:=c.Iv k;simp_all[execOp]
def FX {sz i:Nat} {bG:List (List AV)} (e:o.op=.nilCheck x) (c:eF f x=.iY sz bG i off):dX P o f h ⟨.iY sz bG i off,[],[]⟩:=by
 refine cK fun m A w a H F=>?_;have b:=F.eval x;rw[c]at b;generalize d:a.eval x=u at b;have g:=b;cases b with
 |pure _ u b=>cases b<;>simp_all[execOp]
def MV {k:FuncId} {xs ys:List AV} (e:o.op=.nilCheck x) (c:eF f x=.fn (.func k) xs ys):dX P o f h ⟨.fn (.func k) xs ys,[],[]⟩:=by
 refine cK fun m A w a H F=>?_;have b:=F.eval x;rw[c]at b;generalize d:a.eval x=u at b;have g:=b;cases b with
 |pure _ u b=>cases b<;>simp_all[execOp]
 |fn=>simp_all[execOp]
def ab8 (op:BinOp):Value->Value->Option Value
 | .int k x,.int k' y =>
  match op with
  | .shl=>if y<0 then none else some (.int k (k.wrap (x*2 ^ (min y.toNat k.bits))))
  | .shr=>if y<0 then none else some (.int k (x.fdiv (2 ^ (min y.toNat k.bits))))
  |_=>if k=k' then
    match op with
    | .add=>some (.int k (k.wrap (x+y)))
    | .sub=>some (.int k (k.wrap (x-y)))
    | .mul=>some (.int k (k.wrap (x*y)))
    | .quo=>if y=0 then none else some (.int k (k.wrap (x.tdiv y)))
    | .rem=>if y=0 then none else some (.int k (x.tmod y))
    | .eql=>some (.bool (x==y))
    | .neq=>some (.bool (x != y))
    | .lss=>some (.bool (x<y))
    | .leq=>some (.bool (x<=y))
    | .gtr=>some (.bool (x > y))
    | .geq=>some (.bool (x ≥ y))
    |_=>none
   else none
 | .string x,.string y =>
  match op with
  | .eql=>some (.bool (x.toList==y.toList))
  | .neq=>some (.bool (!(x.toList==y.toList)))
  | .add=>if x.size+y.size<=9223372036854775807 then some (.string (x++y))else none
  |_=>none
 |_,_=>none
def am4 {op:BinOp} {t g:TypeId} {y:Operand} {u v r:Value} (n:o.op=.binOp op t x y g) (j:eF f x=.c u) (i:eF f y=.c v) (b:ab8 op u v=some r):dX P o f h ⟨.c r,[],[]⟩:=by
 refine cK fun m A w a H F=>?_;have e:=F.eval x;have d:=F.eval y;rw[j]at e;rw[i]at d;have e1:=e.fK;have e2:=d.fK;refine⟨r,?_,.pure _ _ (.c r)⟩;cases u with
 |int k p =>
  cases v with
  |int k' q =>
   have l:(eqGuard op t x y (.int k p) (.int k' q)).run P w=.ok () w:=by
    simp_all[eqGuard]
   cases op<;>simp only[ab8]at b<;>(try (split at b<;>try (cases b;done)))<;>(try (split at b<;>try (cases b;done)))<;>(try cases b) <;>
    simp_all [execOp,binOp,Op.intArith,Op.intDiv,Op.intCmp,Op.shift]<;>(omega)
  |_=>cases op<;>simp[ab8]at b
 |string p =>
  cases v with
  |string q =>
   have l:(eqGuard op t x y (.string p) (.string q)).run P w=.ok () w:=by
    simp_all[eqGuard]
   cases op<;>simp only[ab8]at b<;>(try (split at b<;>try (cases b;done)))<;>(try cases b) <;>
    simp_all [execOp,binOp,Op.stringOp]<;>omega
  |_=>cases op<;>simp[ab8]at b
 |_=>cases op<;>simp[ab8]at b
def run_equalIn_bool (d:Nat) {t:TypeId} {p q:Bool} (a:P.underlying t=some .bool) (w:World):(Op.equalIn (d+1) t (.bool p) (.bool q)).run P w=.ok (p==q) w:=by
 simp[Op.equalIn,run_underlying a]
def adg {op:BinOp} {t g:TypeId} {y:Operand} {p q:Bool} (l:o.op=.binOp op t x y g) (j:eF f x=.c (.bool p)) (i:eF f y=.c (.bool q)) (k:P.underlying t=some .bool) (b:op=.eql\/op=.neq) :
  dX P o f h ⟨.c (.bool (if op=.eql then p==q else !(p==q))),[],[]⟩:=by
 refine cK fun m A w a H F=>?_;have e:=F.eval x;have d:=F.eval y;rw[j]at e;rw[i]at d;have e1:=e.fK;have e2:=d.fK;refine⟨_,?_,.pure _ _ (.c _)⟩
 have n:(eqGuard op t x y (.bool p) (.bool q)).run P w=.ok () w:=by
  simp_all[eqGuard]
 have r:(Op.equal t (.bool p) (.bool q)).run P w=.ok (p==q) w:=run_equalIn_bool 9999 k w;rcases b with rfl|rfl<;>simp[execOp,l,e1,e2,n,binOp,r]
def unV (op:UnOp):Value->Option Value
 | .int k x=>match op with | .neg=>some (.int k (k.wrap (0-x)))|_=>none
 | .bool b=>match op with | .not=>some (.bool !b)|_=>none
 |_=>none
def aou {op:UnOp} {t:TypeId} {u r:Value} (g:o.op=.unOp op t x) (e:eF f x=.c u) (b:unV op u=some r):dX P o f h ⟨.c r,[],[]⟩:=by
 refine cK fun m A w a H F=>?_;have d:=F.eval x;rw[e]at d;have e1:=d.fK;refine⟨r,?_,.pure _ _ (.c r)⟩;cases u<;>cases op<;>simp[unV]at b<;>subst b<;>simp[execOp,g,e1,Op.unary,Op.intArith]
def C9 [Bk] (p:Poly):AV :=
 let b:=bnd p
 if b.1=b.2 then .c (.int .i64 b.1)else .e p
def yL (A:Nat->Prop) (w:World) (p:Poly):eC A w (C9 p) (.int .i64 (cI Ev.eW p)):=by
 have k:=It p;unfold C9;simp only;split
 .have:cI Ev.eW p=(bnd p).1:=by omega
  rw[this];exact .c _
 .exact .e p
def ajZ (p:Poly):(C9 p).one=true:=by
 unfold C9;simp only;split<;>rfl
def toP:AV->Option Poly
 | .e p=>some p
 | .c (.int .i64 n)=>some (zM n)
 |_=>none
def toP_ok {x:AV} {p:Poly} (a:toP x=some p) {m:Nat->St} {w:World} {v:Value} (h:Rd m A w x v):v=.int .i64 (cI Ev.eW p):=by
 unfold toP at a;split at a
 .cases a
  cases h with|pure _ _ h=>cases h;rfl
 .cases a
  rw[tS];exact h.fK
 simp_all
def ajn [Bk] (op:BinOp) (p q:Poly):Option AV :=
 match op with
 | .add=>let r:=wJ p q;if mJ r then some (C9 r)else none
 | .sub=>let r:=rK p q;if mJ r then some (C9 r)else none
 | .mul=>let r:=agt p q;if mJ r then some (C9 r)else none
 | .quo=>if nzB q then match findD 0 p q Bk.defs with
   |some r=>if mJ r then some (C9 r)else none
   |none=>none
  else none
 | .rem=>if nzB q then match findD 1 p q Bk.defs with
   |some r=>some (C9 r)
   |none=>none
  else none
 | .eql=>(eqB (rK p q)).map fun b=>.c (.bool b)
 | .neq=>(eqB (rK p q)).map fun b=>.c (.bool !b)
 | .lss=>(TU (rK p q)).map fun b=>.c (.bool b)
 | .geq=>(TU (rK p q)).map fun b=>.c (.bool !b)
 | .gtr=>(TU (rK q p)).map fun b=>.c (.bool b)
 | .leq=>(TU (rK q p)).map fun b=>.c (.bool !b)
 |_=>none
def ahc {op:BinOp} {t s:TypeId} {y:Operand} {p q:Poly} {r:AV} (B:o.op=.binOp op t x y s) (v:toP (eF f x)=some p) (u:toP (eF f y)=some q) (d:ajn op p q=some r):dX P o f h ⟨r,[],[]⟩:=by
 refine cK fun m A w a H F=>?_;have e1:=toP_ok v (F.eval x);have e2:=toP_ok u (F.eval y)
 have C:(eqGuard op t x y (.int .i64 (cI Ev.eW p)) (.int .i64 (cI Ev.eW q))).run P w=.ok () w:=by
  simp_all[eqGuard]
 have i:∀r:Poly,mJ r=true->IntKind.i64.wrap (cI Ev.eW r)=cI Ev.eW r:=fun r h=>IntWalk.i64_in _ (by have:=abM h;omega);have rd:∀r:Poly,Rd m A w (C9 r) (.int .i64 (cI Ev.eW r)):=fun r=>.pure _ _ (yL _ w r);cases op<;>simp only[ajn]at d
 case add =>
  split at d
  .rename_i g;cases d
   refine⟨_,?_,rd _⟩;have:=i _ g
   simp_all[qE,execOp,binOp,Op.intArith]
  simp_all
 case sub =>
  split at d
  .rename_i g;cases d
   refine⟨_,?_,rd _⟩;have:=i _ g
   simp_all[iA,execOp,binOp,Op.intArith]
  simp_all
 case mul =>
  split at d
  .rename_i g;cases d
   refine⟨_,?_,rd _⟩;have:=i _ g
   simp_all[Tw,execOp,binOp,Op.intArith]
  simp_all
 case quo =>
  split at d
  .rename_i j
   split at d
   .rename_i r0 l
    split at d
    .rename_i g;cases d
     refine⟨_,?_,rd _⟩;have:=i _ g;have z:cI Ev.eW r0=(cI Ev.eW p).tdiv (cI Ev.eW q):=(Ev.defs _ (EY l)).1 rfl;have n:=ahn j;simp_all[execOp,binOp,Op.intDiv]
    simp_all
   simp_all
  simp_all
 case rem =>
  split at d
  .rename_i j
   split at d
   .rename_i r0 l
    cases d;refine⟨_,?_,rd _⟩;have z:cI Ev.eW r0=(cI Ev.eW p).tmod (cI Ev.eW q):=(Ev.defs _ (EY l)).2.1 rfl;have n:=ahn j;simp_all[execOp,binOp,Op.intDiv]
   simp_all
  simp_all
 all_goals (try (cases d;done))
 all_goals (rw[a1c]at d;obtain⟨b,g,rfl⟩:=d)
 case eql =>
  have k:=Io g;rw[iA]at k;refine⟨.bool b,?_,.pure _ _ (.c _)⟩;have e:(cI Ev.eW p==cI Ev.eW q)=b:=by grind
  simp_all[execOp,binOp,Op.intCmp]
 case neq =>
  have k:=Io g;rw[iA]at k;refine⟨.bool !b,?_,.pure _ _ (.c _)⟩;have e:(cI Ev.eW p==cI Ev.eW q)=b:=by grind
  simp_all[execOp,binOp,Op.intCmp,bne]
 case lss =>
  have k:=pO g;rw[iA]at k;refine⟨.bool b,?_,.pure _ _ (.c _)⟩;have e:decide (cI Ev.eW p<cI Ev.eW q)=b:=by grind
  simp_all[execOp,binOp,Op.intCmp]
 case geq =>
  have k:=pO g;rw[iA]at k;refine⟨.bool !b,?_,.pure _ _ (.c _)⟩;have e:decide (cI Ev.eW q<=cI Ev.eW p)=!b:=by grind
  simp_all[execOp,binOp,Op.intCmp]
 case gtr =>
  have k:=pO g;rw[iA]at k;refine⟨.bool b,?_,.pure _ _ (.c _)⟩;have e:decide (cI Ev.eW q<cI Ev.eW p)=b:=by grind
  simp_all[execOp,binOp,Op.intCmp]
 case leq =>
  have k:=pO g;rw[iA]at k;refine⟨.bool !b,?_,.pure _ _ (.c _)⟩;have e:decide (cI Ev.eW p<=cI Ev.eW q)=!b:=by grind
  simp_all[execOp,binOp,Op.intCmp]
def aeC {t:TypeId} {p:Poly} (g:o.op=.unOp .neg t x) (c:eF f x=.e p) (d:mJ (qP (-1) p)=true):dX P o f h ⟨C9 (qP (-1) p),[],[]⟩:=by
 refine cK fun m A w a H F=>?_;have b:=F.eval x;rw[c]at b;have e1:=toP_ok (x:=.e p) rfl b;refine⟨_,?_,.pure _ _ (yL _ w _)⟩;have k:=abM d;have:=IntWalk.i64_in (cI Ev.eW (qP (-1) p)) (by omega)
 simp_all[xW,execOp,Op.unary,Op.intArith]
end
end
end Mc
namespace Mc
variable {m:Nat->St} {A:Nat->Prop} {u:Value} {off:Nat} {x:Operand} {k:IntKind} {cs:List AV} {ds:TypeDesc}
section
variable {P:Program} {o:Oper} {f:List AV} {h:AH}
theorem iM [Bk] [Ev] (b o j:Nat):(⟨b,o,none⟩:Addr).add j=⟨b,o+j,none⟩:=by simp_all[Addr.add]
section
variable [Bk] [Ev]
def Rd.pW {w:World} {sz:Nat} {bG:List (List AV)} (h:Rd m A w (.lit sz bG) u) :
  (bG=[]/\∃a cap,u=.slice a 0 cap)\/∃b off cap,∃vs:Nat->Nat->Value,u=.slice (some ⟨b,off,none⟩) bG.length cap/\¬ Av m A b/\b<w.heap.size/\bG.length<=cap/\(∀e∈bG,e.length=sz)/\(∀(i j:Nat) (x:AV),iE bG i j=some x->x.one=true) /\
   (∀(i j:Nat) (x:AV),iE bG i j=some x->w.cell? ⟨b,off+(i*sz+j),none⟩=some (vs i j))/\∀(i j:Nat) (x:AV),iE bG i j=some x->eC (Av m A) w x (vs i j):=by
 cases h with
 |pure _ _ h =>
  cases h with
  |lit _ _ b off cap vs l k g c n d f=>exact .inr ⟨b,off,cap,vs,rfl,l,k,g.1,c,n,d,f⟩
  |nQ _ a cap o=>simp_all
def Rd.EO {w:World} {sz n cap:Nat} {a:Option Addr} {bG:List (List AV)} (h:Rd m A w (.lit sz bG) (.slice a n cap)):cap<=maxLen:=by
 cases h with
 |pure _ _ h =>
  cases h<;>simp_all
def Rd.TV {w:World} {sz c a:Nat} {bG:List (List AV)} (h:Rd m A w (.iY sz bG c a) u) :
  ∃b off,∃vs:Nat->Nat->Value,u=.pointer (some ⟨b,off+(c*sz+a),none⟩)/\∀i j,Rd m A w (.iY sz bG i j) (.pointer (some ⟨b,off+(i*sz+j),none⟩)):=by
 cases h with
 |pure _ _ h =>
  cases h with
  |iY _ _ _ _ b off vs k g d l e f=>exact⟨b,off,vs,rfl,fun i j=>.pure _ _ (.iY sz bG i j b off vs k g d l e f)⟩
def nM (P:Program) (t:TypeId) (k:Nat):Option (TypeId×Nat×Nat) :=
 match P.underlying t with
 |some (.struct a)=>match a[k]? with
  |some fd=>(P.info? fd.type).map fun i=>(fd.type,fd.offset,i.size)
  |none=>none
 |_=>none
def zV {t k d n:Nat} (a:nM P t k=some (d,off,n)) (g:n≠0) (b c:Nat) (w:World):(Instr.fieldAt t (.pointer (some ⟨b,c,none⟩)) k).run P w=.ok (.pointer (some ⟨b,c+off,none⟩)) w:=by
 unfold nM at a;split at a
 .rename_i i f
  split at a
  .rename_i fd e
   cases h:P.info? fd.type<;>simp_all[a0s,a0i,a13,Instr.fieldAt,run_underlying,Instr.sureAddr,fieldPlace,sizeOf,typeInfo,iM]
  simp_all
 simp_all
def F6 {t:TypeId} {k j c n T sz id i:Nat} {bG:List (List AV)} {e:List AV} (q:o.op=.fieldAddr t x k) (l:eF f x=.ptr sz id i off) (s:h id=.cells T sz bG) (v:bG[i]?=some e) (u:nM P t k=some (j,c,n)) (r:n≠0) :
  dX P o f h ⟨.ptr sz id i (off+c),[],[id]⟩:=by
 refine cK fun m A w a H F=>?_;have g:=F.eval x;rw[l]at g;obtain⟨b,cs,d,-⟩:=H.block s v;have p:=g.Iv d;refine⟨.pointer (some ⟨b,i*sz+off+c,none⟩),by simp[execOp,q,p,zV u r],?_⟩;have:=Rd.ptr (m:=m) (A:=A) (w:=w) sz id i (off+c) b d (H.lt d)
 grind
def EH {t:TypeId} {k e c n sz i:Nat} {bG:List (List AV)} (p:o.op=.fieldAddr t x k) (j:eF f x=.iY sz bG i off) (r:nM P t k=some (e,c,n)) (q:n≠0) :
  dX P o f h ⟨.iY sz bG i (off+c),[],[]⟩:=by
 refine cK fun m A w a H F=>?_;have d:=F.eval x;rw[j]at d;obtain⟨b,g,vs,l,s⟩:=d.TV;refine⟨.pointer (some ⟨b,g+(i*sz+off)+c,none⟩),by simp[execOp,p,l,zV r q],?_⟩
 grind
def F4 {t e:TypeId} {ix:Operand} {sz:Nat} {bG:List (List AV)} {n:Int} (y:o.op=.indexAddr t x ix) (s:eF f x=.lit sz bG) (B:eF f ix=.c (.int k n)) (v:P.underlying t=some (.slice e)) (hs:(P.info? e).map (·.size)=some sz) (E:0<=n) (z:n.toNat<bG.length) :
  dX P o f h ⟨.iY sz bG n.toNat 0,[],[]⟩:=by
 refine cK fun m A w a H F=>?_;have l:=F.eval x;rw[s]at l;have j:=F.eval ix;rw[B]at j;have e2:=j.fK;obtain⟨rfl,-⟩|⟨b,off,cap,vs,u,D,C,I,d,r,p,q⟩:=l.pW
 .simp at z
 .cases g:P.info? e with
  |none=>simp_all
  |some G =>
   simp only[g,a0s,a0i]at hs;have i:n<(bG.length:Int):=by omega
   refine⟨.pointer (some ⟨b,off+(n.toNat*sz+0),none⟩),?_,.pure _ _ (.iY sz bG _ 0 b off vs D C d r p q)⟩;simp[execOp,y,u,e2,Instr.indexAt,asIntOf,run_underlying v,E,i,sizeOf,typeInfo,g,hs,iM]
def F3 {t e:TypeId} {ix:Operand} {T sz id i n':Nat} {bG:List (List AV)} {el:List AV} {n:Int} (u:o.op=.indexAddr t x ix) (q:eF f x=.own T sz id i n') (y:h id=.cells T sz bG) (v:eF f ix=.c (.int k n)) (s:P.underlying t=some (.slice e)) (hs:(P.info? e).map (·.size)=some sz) (B:0<=n) (D:n.toNat<n') (z:bG[i+n.toNat]?=some el) :
  dX P o f h ⟨.ptr sz id (i+n.toNat) 0,[],[id]⟩:=by
 refine cK fun m A w a H F=>?_;have p:=F.eval x;rw[q]at p;have l:=F.eval ix;rw[v]at l;have e2:=l.fK;obtain⟨b,cs,d,-⟩:=H.block y z;obtain⟨cap,r,-⟩:=p.vU d;cases g:P.info? e with
 |none=>simp_all
 |some C =>
  simp only[g,a0s,a0i]at hs;have j:n<(n':Int):=by omega
  refine⟨.pointer (some ⟨b,(i+n.toNat)*sz+0,none⟩),?_,.ptr sz id _ 0 b d (H.lt d)⟩;simp[execOp,u,r,e2,Instr.indexAt,asIntOf,run_underlying s,B,j,sizeOf,typeInfo,g,hs,iM,a2y]
def F5 {t e:TypeId} {ix:Operand} {T sz id i len s:Nat} {bG:List (List AV)} {el:List AV} {n:Int} (v:o.op=.indexAddr t x ix) (q:eF f x=.ptr sz id i off) (z:h id=.cells T sz bG) (B:bG[i]?=some el) (y:eF f ix=.c (.int k n)) (u:P.underlying t=some (.array len e)) (hs:(P.info? e).map (·.size)=some s) (C:0<=n) (E:n.toNat<len) :
  dX P o f h ⟨.ptr sz id i (off+n.toNat*s),[],[id]⟩:=by
 refine cK fun m A w a H F=>?_;have p:=F.eval x;rw[q]at p;have l:=F.eval ix;rw[y]at l;have e2:=l.fK;obtain⟨b,cs,d,-⟩:=H.block z B;have r:=p.Iv d;cases g:P.info? e with
 |none=>simp_all
 |some D =>
  simp only[g,a0s,a0i]at hs;have j:n<(len:Int):=by omega
  refine⟨.pointer (some ⟨b,i*sz+(off+n.toNat*s),none⟩),?_,.ptr sz id _ _ b d (H.lt d)⟩;simp[execOp,v,r,e2,Instr.indexAt,asIntOf,run_underlying u,C,j,sizeOf,typeInfo,g,hs,iM,Instr.sureAddr,a2r]
def EG {t e:TypeId} {ix:Operand} {sz i len s:Nat} {bG:List (List AV)} {n:Int} (v:o.op=.indexAddr t x ix) (p:eF f x=.iY sz bG i off) (y:eF f ix=.c (.int k n)) (r:P.underlying t=some (.array len e)) (hs:(P.info? e).map (·.size)=some s) (z:0<=n) (D:n.toNat<len) :
  dX P o f h ⟨.iY sz bG i (off+n.toNat*s),[],[]⟩:=by
 refine cK fun m A w a H F=>?_;have l:=F.eval x;rw[p]at l;have j:=F.eval ix;rw[y]at j;have e2:=j.fK;obtain⟨b,C,vs,q,u⟩:=l.TV;cases d:P.info? e with
 |none=>simp_all
 |some B =>
  simp only[d,a0s,a0i]at hs;have g:n<(len:Int):=by omega
  refine⟨_,?_,u i (off+n.toNat*s)⟩;simp[execOp,v,q,e2,Instr.indexAt,asIntOf,run_underlying r,z,g,sizeOf,typeInfo,d,hs,iM,Instr.sureAddr,a2r]
def Ao {w:World} {t:TypeId} {vs:Array Value} {x:AV} (c:CR (Rd m A w) cs vs) (a:mM P t cs off=some x):∃v,(part t vs off).run P w=.ok v w/\Rd m A w x v:=by
 unfold mM at a;have agg:∀(i:TypeInfo),off+i.size<=cs.length->Rd m A w (.agg ((cs.drop off).take i.size)) (.agg (vs.extract off (off+i.size))):=by
  intro i f;refine .agg _ _ (by have:=c.1;grind) ?_ ?_
  .intro j y b
   rw[a19,a3b]at b;split at b
   .exact(c.2 _ _ b).1
   simp_all
  .intro j y b
   rw[a19,a3b]at b;split at b
   .rename_i q
    have l:=(c.2 _ _ b).2
    have e1:(vs.extract off (off+i.size)).getD j Go.undef=vs.getD (off+j) Go.undef:=by
     have:=c.1;have k:off+j<vs.size:=by omega
     simp_all
    simp_all
   simp_all
 split at a
 .rename_i r h
  cases g:P.info? t with
  |none=>simp_all
  |some i =>
   simp only[g]at a;split at a
   .rename_i f
    cases a;simp_all[part,sJ,sizeOf,typeInfo]
   simp_all
 .rename_i n e h
  cases g:P.info? t with
  |none=>simp_all
  |some i =>
   simp only[g]at a;split at a
   .rename_i f
    cases a;simp_all[part,sJ,sizeOf,typeInfo]
   simp_all
 .rename_i d p o h
  have l:=c.2 _ _ a;have k:off<vs.size:=by rw[c.1];grind
  simp_all[sJ,part]
 simp_all
def Rd.pY [Bk] [Ev] {m:Nat->St} {A:Nat->Prop} {w:World} {cs:List AV} {u:Value} (h:Rd m A w (.agg cs) u):∃vs,u=.agg vs/\CR (Rd m A w) cs vs:=by
 cases h with
 |pure _ _ h =>
  cases h with
  |agg _ vs b c h=>exact⟨vs,rfl,b,fun i x a=>⟨c i x a,.pure _ _ (h i x a)⟩⟩
 |agg _ vs b c h=>exact⟨vs,rfl,b,fun i x a=>⟨c i x a,h i x a⟩⟩
def Rd.acA {w:World} (h:Rd m A w (.bE cs) u):∃vs,u=.tuple vs/\vs.size=cs.length/\∀(i:Nat) (x:AV),cs[i]?=some x->Rd m A w x (vs.getD i Go.undef):=by
 cases h with
 |pure _ _ h =>
  cases h with
  |bE _ vs a h=>exact⟨vs,rfl,a,fun i x b=>.pure _ _ (h i x b)⟩
 |bE _ vs a h=>simp_all
def ahf {t:TypeId} {k c d n:Nat} {v:AV} (s:o.op=.field t x k) (g:eF f x=.agg cs) (b:nM P t k=some (c,d,n)) (i:mM P c cs d=some v):dX P o f h ⟨v,[],[]⟩:=by
 refine cK fun m A w a H F=>?_;have e:=F.eval x;rw[g]at e;obtain⟨vs,p,j⟩:=e.pY;obtain⟨r,r1,r2⟩:=Ao (P:=P) j i;unfold nM at b;split at b
 .rename_i y q
  split at b
  .rename_i fd l
   cases u:P.info? fd.type<;>simp_all[execOp,Instr.field,run_underlying,asAgg]
  simp_all
 simp_all
def RF {t e:TypeId} {ix:Operand} {len s:Nat} {n:Int} {v:AV} (u:o.op=.index t x ix) (i:eF f x=.agg cs) (j:eF f ix=.c (.int k n)) (q:P.underlying t=some (.array len e)) (hs:(P.info? e).map (·.size)=some s) (z:0<=n) (y:n.toNat<len) (b:mM P e cs (n.toNat*s)=some v) :
  dX P o f h ⟨v,[],[]⟩:=by
 refine cK fun m A w a H F=>?_;have g:=F.eval x;rw[i]at g;have d:=F.eval ix;rw[j]at d;have e2:=d.fK;obtain⟨vs,p,l⟩:=g.pY;obtain⟨r,r1,r2⟩:=Ao (P:=P) l b;cases b:P.info? e<;>simp_all[execOp,Instr.index,asIntOf,run_underlying,sizeOf,typeInfo]
def RE {t:TypeId} {ix:Operand} {s:ByteArray} {n:Int} {b:UInt8} (l:o.op=.index t x ix) (g:eF f x=.c (.string s)) (i:eF f ix=.c (.int k n)) (j:P.underlying t=some .string) (q:0<=n) (p:s[n.toNat]?=some b) :
  dX P o f h ⟨.c (.int .u8 b.toNat),[],[]⟩:=by
 refine cK fun m A w a H F=>?_;have e:=F.eval x;rw[g]at e;have d:=F.eval ix;rw[i]at d;have e1:=e.fK;have e2:=d.fK;exact⟨_,by simp_all[execOp,Instr.index,asIntOf,run_underlying],.pure _ _ (.c _)⟩
def abr {k:Nat} {vs:List AV} {v:AV} (l:o.op=.extract x k) (d:eF f x=.bE vs) (e:vs[k]?=some v):dX P o f h ⟨v,[],[]⟩:=by
 refine cK fun m A w a H F=>?_;have c:=F.eval x;rw[d]at c;obtain⟨b,j,n,g⟩:=c.acA;have i:k<b.size:=by grind
 refine⟨b.getD k Go.undef,?_,g k v e⟩
 simp_all[execOp,Instr.extract]
def Nz (P:Program) (t:TypeId) (a:List (Nat×AV)):Option (List AV) :=
 match P.info? t,P.underlying t with
 |some it,some (.array _ e) =>
  match (it.zero.map SB).bind jF,P.info? e with
  |some z,some ie=>yS (fun i=>some (i*ie.size,ie.size)) z a
  |_,_=>none
 |some it,some (.struct c) =>
  match (it.zero.map SB).bind jF,c.toList.mapM (fun f=>(P.info? f.type).map fun i=>(f.offset,i.size))with
  |some z,some b=>yS (b.toArray[·]?) z a
  |_,_=>none
 |_,_=>none
def aiM {w:World} {t:TypeId} {ps:List (Nat×AV)} {qs:List (Nat×Value)} (n:ps.length=qs.length) (l:∀(i:Nat) (p:Nat×AV) (q:Nat×Value),ps[i]?=some p->qs[i]?=some q->p.1=q.1/\Rd m A w p.2 q.2) (a:Nz P t ps=some cs) :
  ∃j,P.built t qs=some j/\CR (Rd m A w) cs j:=by
 unfold Nz at a;unfold Program.built;split at a
 .rename_i it len e h g
  rw[h,g];simp only;cases d:it.zero with
  |none=>simp_all
  |some z =>
   cases o:P.info? e with
   |none=>simp_all
   |some ie =>
    cases b:jF (SB z)with
    |none=>simp_all
    |some zc =>
     simp only[d,o,b,a0s,a1p]at a;exact EZ _ ps qs zc cs z.cells (pE (.pure _ _ (AL _ w z)) b) n l a
 .rename_i it c h g
  rw[h,g];simp only;cases d:it.zero with
  |none=>simp_all
  |some z =>
   cases r:c.toList.mapM (fun f=>(P.info? f.type).map fun i=>(f.offset,i.size))with
   |none=>simp_all
   |some k =>
    cases b:jF (SB z)with
    |none=>simp_all
    |some zc =>
     simp only[d,r,b,a0s,a1p]at a;exact EZ _ ps qs zc cs z.cells (pE (.pure _ _ (AL _ w z)) b) n l a
 simp_all
def O8 {w:World} {a:Act} (F:nJ m A w f a) (b:Array (Nat×Operand)):∀(i:Nat) (p:Nat×AV) (q:Nat×Value),(b.toList.map fun p=>(p.1,eF f p.2))[i]?=some p->(b.map fun p=>(p.1,a.eval p.2)).toList[i]?=some q->p.1=q.1/\Rd m A w p.2 q.2:=by
 intro i p q d c;rw[a0l]at d;rw[Array.toList_map,a0l]at c;cases e:b.toList[i]? with
 |none=>simp_all
 |some y =>
  rw[e]at d c;simp only[a0s,a0i]at d c;subst d;subst c;exact⟨rfl,F.eval y.2⟩
def ahg {t:TypeId} {b:Array (Nat×Operand)} (i:o.op=.build t b) (d:Nz P t (b.toList.map fun p=>(p.1,eF f p.2))=some cs):dX P o f h ⟨.agg cs,[],[]⟩:=by
 refine cK fun m A w a H F=>?_;obtain⟨c,g,e⟩:=aiM (P:=P) (m:=m) (A:=A) (w:=w) (qs:=(b.map fun p=>(p.1,a.eval p.2)).toList) (by simp) (O8 F b) d;refine⟨.agg c,?_,e.agg⟩;have:=run_build (P:=P) w t (b.map fun p=>(p.1,a.eval p.2)) c g
 simp_all[execOp]
def FY {t:TypeId} (c:o.op=.makeInterface t x) (b:P.concrete t=true):dX P o f h ⟨.qZ t (eF f x),[],[]⟩:=by
 refine cK fun m A w a H F=>⟨.iface t (a.eval x),by simp_all[execOp,run_makeInterface],.qZ t _ _ (F.eval x)⟩
def EN {w:World} {a:Act} (F:nJ m A w f a) (xs:Array Operand):∀(i:Nat) (x:AV),(xs.toList.map (eF f))[i]?=some x->Rd m A w x ((xs.map a.eval).getD i Go.undef):=by
 intro i x b;rw[a0l]at b;cases c:xs.toList[i]? with
 |none=>simp_all
 |some y =>
  rw[c]at b;simp only[a0s,a0i]at b;subst b;have d:i<xs.size:=by grind
  have e:xs[i]=y:=by simp_all
  have:(xs.map a.eval).getD i Go.undef=a.eval y:=by simp_all
  rw[this];exact F.eval y
def TD {fn:Fn} {first b:Array Operand} (c:o.op=.makeFunc fn first b):dX P o f h ⟨.fn fn (first.toList.map (eF f)) (b.toList.map (eF f)),[],[]⟩:=by
 refine cK fun m A w a H F=>⟨.func fn (first.map a.eval) (b.map a.eval),by simp[execOp,c,Instr.makeFunc],?_⟩;exact .fn fn _ _ _ _ (by simp) (by simp) (EN F first) (EN F b)
def M3 {s d:TypeId} {k':IntKind} {n:Int} (g:o.op=.convert s d x) (e:eF f x=.c (.int k n)) (hs:P.underlying s=some ds) (i:P.underlying d=some (.int k')):dX P o f h ⟨.c (.int k' (k'.wrap n)),[],[]⟩:=by
 refine cK fun m A w a H F=>?_;have b:=F.eval x;rw[e]at b;have e1:=b.fK;exact⟨_,by simp[execOp,g,e1,convert,run_underlying hs,run_underlying i,Conv.intToInt],.pure _ _ (.c _)⟩
def MZ {s d:TypeId} {b:ByteArray} (i:o.op=.convert s d x) (g:eF f x=.c (.string b)) (hs:P.underlying s=some ds) (j:P.underlying d=some .string):dX P o f h ⟨.c (.string b),[],[]⟩:=by
 refine cK fun m A w a H F=>?_;have e:=F.eval x;rw[g]at e;have e1:=e.fK;exact⟨_,by simp[execOp,i,e1,convert,run_underlying hs,run_underlying j],.pure _ _ (.c _)⟩
def MY {s d:TypeId} {p:Poly} (g:o.op=.convert s d x) (c:eF f x=.e p) (hs:P.underlying s=some ds) (i:P.underlying d=some (.int .i64)) (j:mJ p=true):dX P o f h ⟨.e p,[],[]⟩:=by
 refine cK fun m A w a H F=>?_;have b:=F.eval x;rw[c]at b;have e1:=toP_ok (x:=.e p) rfl b;have:=IntWalk.i64_in (cI Ev.eW p) (by have:=abM j;omega);exact⟨_,by simp[execOp,g,e1,convert,run_underlying hs,run_underlying i,Conv.intToInt,this],.pure _ _ (.e p)⟩
def Rd.acK {w:World} {n:Poly} {xs:List Poly} (h:Rd m A w (.row n xs) u) :
  (cI Ev.eW n=0/\∃a cap,u=.slice a 0 cap)\/∃b off len cap,u=.slice (some ⟨b,off,none⟩) len cap/\cI Ev.eW n=(len:Nat)/\¬ Av m A b/\b<w.heap.size/\∀(j:Nat) (p:Poly),xs[j]?=some p->j<len->w.cell? ⟨b,off+j,none⟩=some (.int .i64 (cI Ev.eW p)):=by
 cases h with
 |pure _ _ h =>
  cases h<;>grind
def F0 {t e:TypeId} {ix:Operand} {N p:Poly} {xs:List Poly} {n:Int} (D:o.op=.indexAddr t x ix) (v:eF f x=.row N xs) (G:eF f ix=.c (.int k n)) (B:P.underlying t=some (.slice e)) (hs:(P.info? e).map (·.size)=some 1) (L:0<=n) (E:TU (rK (zM n) N)=some true) (C:xs[n.toNat]?=some p) :
  dX P o f h ⟨.iY 1 [[C9 p]] 0 0,[],[]⟩:=by
 refine cK fun m A w a H F=>?_;have s:=F.eval x;rw[v]at s;have r:=F.eval ix;rw[G]at r;have e2:=r.fK;have q:=pO E;rw[iA,tS,eq_comm,decide_eq_true_eq]at q;obtain⟨O,-⟩|⟨b,off,len,cap,z,Q,K,J,I⟩:=s.acK
 .omega
 .have u:=I _ _ C (by omega)
  cases g:P.info? e with
  |none=>simp_all
  |some M =>
   simp only[g,a0s,a0i]at hs;have l:n<(len:Int):=by omega
   refine⟨.pointer (some ⟨b,(off+n.toNat)+(0*1+0),none⟩),?_,.pure _ _ (.iY 1 _ 0 0 b (off+n.toNat) (fun _ _=>.int .i64 (cI Ev.eW p)) K J ?_ ?_ ?_ ?_)⟩
   .simp[execOp,D,z,e2,Instr.indexAt,asIntOf,run_underlying B,L,l,sizeOf,typeInfo,g,hs,iM]
   .simp_all
   .intro i j y d
    rcases i with _|i
    .rcases j with _|j
     .simp[iE]at d;subst d;exact ajZ p
     simp_all[iE]
    simp_all[iE]
   .grind[iE]
   .intro i j y d
    rcases i with _|i
    .rcases j with _|j
     .simp[iE]at d;subst d;exact yL _ w p
     simp_all[iE]
    simp_all[iE]
end
end
end Mc
namespace Mc
variable {x:Operand} {ts:Array TypeId} {k' k:IntKind}
section
variable {P:Program} {o:Oper} {f:List AV} {h:AH}
def jX (h:AH):AV->Option (List (List AV))
 | .emp=>some []
 | .lit _ bG=>some bG
 | .own T b id i n=>match h id with
  | .cells c a bG=>if c=T/\a=b/\i+n<=bG.length then some ((bG.drop i).take n)else none
  |_=>none
 |_=>none
def uM:AV->List Nat
 | .own _ _ id _ _=>[id]
 |_=>[]
section
variable [Bk] [Ev]
def flat_get {bG:List (List AV)} {sz:Nat} (c:∀e∈bG,e.length=sz) {k:Nat} (b:k<bG.length*sz):∃x,iE bG (k/sz) (k%sz)=some x:=by
 have a:0<sz:=by
  grind
 have f:k/sz<bG.length:=(a47 a).2 b;have d:k%sz<sz:=a3c _ a
 simp_all[iE]
def tZ {bG:List (List AV)} {i n a j:Nat} {x:AV} (h:iE ((bG.drop i).take n) a j=some x):a<n/\iE bG (i+a) j=some x:=by
 grind[iE]
def aaC {m:Nat->St} {A:Nat->Prop} {w:World} (H:dU m A h w) {x:AV} {v:Value} {bG:List (List AV)} {sz:Nat} (t:Rd m A w x v) (l:jX h x=some bG) (q:∀e∈bG,e.length=sz) (Y:∀T s id i n,x=.own T s id i n->s=sz) :
  ∃a cap,v=.slice a bG.length cap/\bG.length<=cap/\(a=none->bG=[])/\∃c:List Value,c.length=bG.length*sz/\(∀z,a=some z->∀j u,c[j]?=some u->w.cell? (z.add j)=some u)/\(∀u∈c,u.oneCell'=true) /\
   ∀(i j:Nat) (y:AV),iE bG i j=some y->y.one=true/\Rd m A w y (c.getD (i*sz+j) Go.undef):=by
 have R:∀c:List Value,c.length=bG.length*sz->(∀(i j:Nat) (y:AV),iE bG i j=some y->y.one=true/\Rd m A w y (c.getD (i*sz+j) Go.undef))->∀u∈c,u.oneCell'=true:=by
  intro c D C u K;obtain⟨k,hk,rfl⟩:=a3u K;obtain⟨y,g⟩:=flat_get q (k:=k) (by omega);obtain⟨Q,P⟩:=C _ _ _ g;have e1:k/sz*sz+k%sz=k:=by rw[a2z];exact a3v k sz
  rw[e1]at P;have:=P.one Q
  grind
 have nil:∀a cap,bG=[]->v=.slice a 0 cap->∃a cap,v=.slice a bG.length cap/\bG.length<=cap/\(a=none->bG=[])/\∃c:List Value,c.length=bG.length*sz/\(∀z,a=some z->∀j u,c[j]?=some u->w.cell? (z.add j)=some u)/\(∀u∈c,u.oneCell'=true) /\
   ∀(i j:Nat) (y:AV),iE bG i j=some y->y.one=true/\Rd m A w y (c.getD (i*sz+j) Go.undef):=by
  rintro a cap rfl rfl
  simp_all[iE]
 cases x with
 |emp =>
  simp only[jX,a0i]at l;cases t with|pure _ _ t=>cases t with|emp a=>exact nil a 0 l.symm rfl
 |lit s f =>
  simp only[jX,a0i]at l;subst l;obtain⟨rfl,a,cap,rfl⟩|⟨b,off,cap,vs,rfl,hA,I,G,hs,J,V,W⟩:=t.pW
  .exact nil a cap rfl rfl
  .have L:f≠[]->s=sz:=by
    intro B;obtain⟨e,r,rfl⟩:=a3w B;simp_all
   by_cases B:f=[]
   .grind
   have:=L B;subst this;have D:((List.range (f.length*s)).map fun k=>vs (k/s) (k%s)).length=f.length*s:=by simp
   have F:∀(i j:Nat) (y:AV),iE f i j=some y->y.one=true/\Rd m A w y (((List.range (f.length*s)).map fun k=>vs (k/s) (k%s)).getD (i*s+j) Go.undef):=by
    intro i j y g;have ab:=kG g q;refine⟨J i j y g,?_⟩
    have e1:(i*s+j)/s=i:=by
     grind[Nat.mul_comm,Nat.mul_add_div,Nat.div_eq_of_lt]
    have e2:(i*s+j)%s=j:=(by grind[Nat.mul_comm,Nat.mul_add_mod,Nat.mod_eq_of_lt])
    have:((List.range (f.length*s)).map fun k=>vs (k/s) (k%s)).getD (i*s+j) Go.undef=vs i j:=by
     grind
    rw[this];exact .pure _ _ (W i j y g)
   refine⟨some ⟨b,off,none⟩,cap,rfl,G,(fun h=>by cases h),(List.range (f.length*s)).map fun k=>vs (k/s) (k%s),D,?_,R _ D F,F⟩;intro z O j u K;cases O;have hj:j<f.length*s:=by grind
   obtain⟨y,g⟩:=flat_get q hj;have Q:=V _ _ _ g;have e1:j/s*s+j%s=j:=by rw[a2z];exact a3v j s
   grind[iM]
 |own T s id i n =>
  have:=Y T s id i n rfl;subst this;simp only[jX]at l;split at l
  .rename_i T' d o hh
   split at l
   .rename_i G
    obtain⟨rfl,rfl,N⟩:=G;cases l;rcases H.cells id _ _ _ hh with⟨hv,rfl⟩|⟨b,cs,g1,g2,g3,g4,g5⟩
    .have C:n=0:=by simp_all
     subst C;have:∃a cap,v=.slice a 0 cap:=by
      cases t with
      |pure _ _ h=>cases h
      |own _ _ _ _ _ b _ M=>simp_all
      |vN _ _ _ _ a M=>simp_all
      |wK _ _ _ _ _ _ _ _ M=>simp_all
     grind
    .obtain⟨cap,rfl,C,-,Z⟩:=t.vU g1
     have E:((o.drop i).take n).length=n:=(by grind);have S:(i+cap)*d=cs.size:=(by grind[gW]);have aa:(i+n)*d<=o.length*d:=a1q _ N
     have D:((cs.toList.drop (i*d)).take (n*d)).length=((o.drop i).take n).length*d:=by
      grind
     have F:∀(p j:Nat) (y:AV),iE ((o.drop i).take n) p j=some y->y.one=true/\Rd m A w y (((cs.toList.drop (i*d)).take (n*d)).getD (p*d+j) Go.undef):=by
      intro p j y g;obtain⟨J,X⟩:=tZ g;have I:=kG g q;obtain⟨U,q2⟩:=g5 _ _ _ X;refine⟨U,?_⟩
      rw[E]at I;have:((cs.toList.drop (i*d)).take (n*d)).getD (p*d+j) Go.undef=cs.getD ((i+p)*d+j) Go.undef:=by
       rw[List.getD,a19,if_pos I.2.2,a3b];rw[show i*d+(p*d+j)=(i+p)*d+j by grind];simp
      grind
     grind[iM,World.cell?]
   grind
  grind
 |_=>simp[jX]at l
def am2 {t:TypeId} {e:TypeId} {bG:List (List AV)} (z:o.op=.call { callee:=.builtin .len,args:=#[x],argTypes:=#[t] }) (r:P.underlying t=some (.slice e)) (d:jX h (eF f x)=some bG):dX P o f h ⟨.c (.int .i64 bG.length),[],uM (eF f x)⟩:=by
 refine cK fun m A w a H F=>?_
 have j:=F.eval x;have g:∃q cap,a.eval x=.slice q bG.length cap:=by
  generalize eF f x=y at j d;generalize a.eval x=v at j;cases y with
  |emp =>
   simp only[jX,a0i]at d;subst d;cases j with|pure _ _ u=>cases u<;>simp_all
  |lit s E =>
   simp only[jX,a0i]at d;subst d;obtain⟨rfl,a,cap,rfl⟩|⟨b,off,cap,vs,rfl,-⟩:=j.pW<;>simp_all
  |own T s id i n =>
   simp only[jX]at d;split at d
   .rename_i N G k B
    split at d
    .rename_i C
     obtain⟨rfl,rfl,I⟩:=C;cases d;have g:((k.drop i).take n).length=n:=(by grind);rw[g];rcases H.cells id _ _ _ B with⟨l,rfl⟩|⟨b,cs,D,M,L,K,J⟩
     .cases j with
      |pure _ _ h=>cases h
      |own _ _ _ _ _ b _ p=>simp_all
      |vN _ _ _ _ a p=>simp_all
      |wK _ _ _ _ _ _ _ _ p=>simp_all
     .obtain⟨cap,rfl,-⟩:=j.vU D
      simp_all
    simp_all
   simp_all
  |_=>simp[jX]at d
 obtain⟨q,cap,l⟩:=g;refine⟨_,?_,.pure _ _ (.c _)⟩;simp[execOp,z,resolve,invoke,builtin,l,Builtin.len_,run_underlying r,goInt]
def abo {t:TypeId} {s:ByteArray} (g:o.op=.call { callee:=.builtin .len,args:=#[x],argTypes:=#[t] }) (e:P.underlying t=some .string) (d:eF f x=.c (.string s)):dX P o f h ⟨.c (.int .i64 s.size),[],[]⟩:=by
 refine cK fun m A w a H F=>?_;have b:=F.eval x;rw[d]at b;have e1:=b.fK;refine⟨_,?_,.pure _ _ (.c _)⟩;simp[execOp,g,resolve,invoke,builtin,e1,Builtin.len_,run_underlying e,goInt]
def ajX {y:Operand} {p q:Int} (i:o.op=.call { callee:=.builtin .max,args:=#[x,y],argTypes:=ts }) (g:eF f x=.c (.int k p)) (e:eF f y=.c (.int k' q)):dX P o f h ⟨.c (.int k (if q > p then q else p)),[],[]⟩:=by
 refine cK fun m A w a H F=>?_;have d:=F.eval x;rw[g]at d;have b:=F.eval y;rw[e]at b;refine⟨_,?_,.pure _ _ (.c _)⟩;simp[execOp,i,resolve,invoke,builtin,d.fK,b.fK,Builtin.max_,Builtin.max2]
def ajV {y:Operand} {p q:Int} (i:o.op=.call { callee:=.builtin .min,args:=#[x,y],argTypes:=ts }) (g:eF f x=.c (.int k p)) (e:eF f y=.c (.int k' q)):dX P o f h ⟨.c (.int k (if q<p then q else p)),[],[]⟩:=by
 refine cK fun m A w a H F=>?_;have d:=F.eval x;rw[g]at d;have b:=F.eval y;rw[e]at b;refine⟨_,?_,.pure _ _ (.c _)⟩;simp[execOp,i,resolve,invoke,builtin,d.fK,b.fK,Builtin.min_,Builtin.min2]
def ajW {y z:Operand} {b:IntKind} {p q r:Int} (n:o.op=.call { callee:=.builtin .max,args:=#[x,y,z],argTypes:=ts }) (l:eF f x=.c (.int k p)) (j:eF f y=.c (.int k' q)) (i:eF f z=.c (.int b r)):dX P o f h ⟨.c (.int k (if r > (if q > p then q else p)then r else(if q > p then q else p))),[],[]⟩:=by
 refine cK fun m A w a H F=>?_;have g:=F.eval x;rw[l]at g;have e:=F.eval y;rw[j]at e;have d:=F.eval z;rw[i]at d;refine⟨_,?_,.pure _ _ (.c _)⟩;simp[execOp,n,resolve,invoke,builtin,g.fK,e.fK,d.fK,Builtin.max_,Builtin.max2]
def Ry {t:TypeId} {l g:Operand} {bG:List (List AV)} (D:o.op=.slice t x none (some l) (some g)) (p:P.underlying t=some (.slice (P.elem t))) (hs:(P.info? (P.elem t)).isSome=true) (q:jX h (eF f x)=some bG) (E:eF f l=.c (.int k 0)) (h1:eF f g=.c (.int k' 0)) :
  dX P o f h ⟨.emp,[],uM (eF f x)⟩:=by
 refine cK fun m A w a H F=>?_
 have u:=F.eval l;rw[E]at u;have r:=F.eval g;rw[h1]at r;have e:=F.eval x;have j:∃d n cap,a.eval x=.slice d n cap:=by
  generalize eF f x=y at e q;generalize a.eval x=v at e;cases y with
  |emp=>cases e with|pure _ _ B=>cases B<;>simp_all
  |lit s G =>
   obtain⟨rfl,a,cap,rfl⟩|⟨b,off,cap,vs,rfl,-⟩:=e.pW<;>simp_all
  |own T s id i n =>
   cases e with
   |pure _ _ h=>cases h
   |own _ _ _ _ _ b cap=>simp_all
   |vN _ _ _ _ a=>simp_all
   |wK=>simp_all
  |_=>simp[jX]at q
 obtain⟨d,n,cap,j⟩:=j;cases C:P.info? (P.elem t)with
 |none=>simp_all
 |some z =>
  refine⟨.slice (if(0:Nat)=0 then d else d.map (·.add (0*z.size))) 0 0,?_,?_⟩
  .have r1:=run_sliceAt_slice (P:=P) w t (.slice d n cap) none (some (.int k 0)) (some (.int k' 0)) p
   have r2:=run_slice_hm (P:=P) w t d n cap p k k' 0 0 (by omega) (by omega) (by omega);rw[r2]at r1;simp[execOp,D,j,u.fK,r.fK,r1,sizeOf,typeInfo,C,sliced]
  .exact .pure _ _ (.emp _)
def abq {t:TypeId} {e:TypeId} {n:Poly} {xs:List Poly} (g:o.op=.call { callee:=.builtin .len,args:=#[x],argTypes:=#[t] }) (d:P.underlying t=some (.slice e)) (k:eF f x=.row n xs):dX P o f h ⟨C9 n,[],[]⟩:=by
 refine cK fun m A w a H F=>?_;have i:=F.eval x;rw[k]at i;refine⟨_,?_,.pure _ _ (yL _ w n)⟩;obtain⟨j,p,cap,c⟩|⟨b,off,len,cap,c,l,-⟩:=i.acK
 .simp[execOp,g,resolve,invoke,builtin,c,Builtin.len_,run_underlying d,goInt,j]
 .simp[execOp,g,resolve,invoke,builtin,c,Builtin.len_,run_underlying d,goInt,l]
def Mb [Bk] (p q:Poly):Option Poly:=match TU (rK p q)with
 |some b=>some (if b then q else p)
 |none=>findD 2 p q Bk.defs
def aeb {p q r:Poly} (h:Mb p q=some r):cI Ev.eW r=if cI Ev.eW q > cI Ev.eW p then cI Ev.eW q else cI Ev.eW p:=by
 unfold Mb at h;split at h
 .rename_i b a
  cases h;have k:=pO a;rw[iA]at k;grind
 .have c:cI Ev.eW r=max (cI Ev.eW p) (cI Ev.eW q):=(Ev.defs _ (EY h)).2.2 rfl
  omega
def Ma [Bk] (p q:Poly):Option Poly:=(TU (rK q p)).map fun b=>if b then q else p
def aea {p q r:Poly} (h:Ma p q=some r):cI Ev.eW r=if cI Ev.eW q<cI Ev.eW p then cI Ev.eW q else cI Ev.eW p:=by
 unfold Ma at h;rw[a1c]at h;obtain⟨b,a,rfl⟩:=h;have k:=pO a;rw[iA]at k;grind
def abm {y:Operand} {p q r:Poly} (e:o.op=.call { callee:=.builtin .max,args:=#[x,y],argTypes:=ts }) (c:toP (eF f x)=some p) (b:toP (eF f y)=some q) (d:Mb p q=some r):dX P o f h ⟨C9 r,[],[]⟩:=by
 refine cK fun m A w a H F=>?_;have e1:=toP_ok c (F.eval x);have e2:=toP_ok b (F.eval y);refine⟨_,?_,.pure _ _ (yL _ w r)⟩;rw[aeb d];simp_all[execOp,resolve,invoke,builtin,Builtin.max_,Builtin.max2]
def abl {y:Operand} {p q r:Poly} (e:o.op=.call { callee:=.builtin .min,args:=#[x,y],argTypes:=ts }) (c:toP (eF f x)=some p) (b:toP (eF f y)=some q) (d:Ma p q=some r):dX P o f h ⟨C9 r,[],[]⟩:=by
 refine cK fun m A w a H F=>?_;have e1:=toP_ok c (F.eval x);have e2:=toP_ok b (F.eval y);refine⟨_,?_,.pure _ _ (yL _ w r)⟩;rw[aea d];simp_all[execOp,resolve,invoke,builtin,Builtin.min_,Builtin.min2]
end
end
end Mc
namespace Mc
variable {m:Nat->St} {A:Nat->Prop} {id:Nat}
section
variable {P:Program} {o:Oper} {f:List AV} {h:AH}
section
variable [Bk] [Ev]
def dU.kill {w:World} (H:dU m A h w) (v:m id=.uK) :
  dU (sset m id .dead) A (gO h id .dead) w/\Ext m w (sset m id .dead) w:=by
 have E:Ext m w (sset m id .dead) w:=by
  refine⟨rfl,rfl,rfl,a0g _,?_,?_,?_,?_,fun _ _ _ _=>rfl⟩<;>grind[sset]
 refine⟨⟨?_,H.old,?_,?_,?_,?_,H.mT.ext H.out E,H.nW E fun u B a y=>?_,rW.set H.scs trivial⟩,E⟩
 .intro k b f
  unfold sset at f;split at f
  .cases f
  .exact H.out k b f
 .intro k a
  unfold gO at a;unfold sset;split at a
  .cases a
  .rename_i c;rw[if_neg c];exact H.no k a
 .intro k a
  unfold gO at a;unfold sset;split at a
  .simp_all
  .rename_i c;rw[if_neg c];exact H.dead k a
 .intro k t l g a
  unfold gO at a;split at a
  .simp_all[dI.bG]
  .rename_i c
   obtain⟨s,p⟩|⟨b,cs,s,p,r,q,o⟩:=H.wV k t l g a
   .simp_all[sset]
   .exact .inr ⟨b,cs,by simp_all[sset],p,r,q,fun i j x n=>⟨(o i j x n).1,(o i j x n).2.ext E⟩⟩
 .intro i j b e d
  unfold sset at e d;split at e
  .cases e
  .split at d
   .cases d
   .exact H.inj i j b e d
 grind[gO,dI.other,sset]
def dU.LZ {w:World} (H:dU m A h w) (o:h id=.no) {B:dI} {T sz:Nat} (p:B.bG=some (T,sz,[])) (u:rW B) :
  dU (sset m id .uK) A (gO h id B) w/\Ext m w (sset m id .uK) w:=by
 have t:=H.no id o;have G:∀{k:Nat} {s:St},m k=s->s≠.no->k≠id:=by grind
 have E:Ext m w (sset m id .uK) w:=by
  refine⟨rfl,rfl,rfl,a0g _,?_,?_,?_,?_,fun _ _ _ _=>rfl⟩<;>grind[sset]
 refine⟨⟨?_,H.old,?_,?_,?_,?_,H.mT.ext H.out E,H.nW E fun D I a F=>?_,rW.set H.scs u⟩,E⟩
 .intro k b f
  unfold sset at f;split at f
  .cases f
  .exact H.out k b f
 .intro k a
  unfold gO at a;unfold sset;split at a
  .exact absurd a (dI.zX p).1
  .rename_i c;rw[if_neg c];exact H.no k a
 .intro k a
  unfold gO at a;unfold sset;split at a
  .exact absurd a (dI.zX p).2
  .rename_i c;rw[if_neg c];exact H.dead k a
 .intro k C l g a
  unfold gO at a;split at a
  .simp_all[sset]
  .rename_i c
   obtain⟨z,r⟩|⟨b,cs,z,r,y,v,q⟩:=H.wV k C l g a
   .simp_all[sset]
   .exact .inr ⟨b,cs,by simp_all[sset],r,y,v,fun i j x n=>⟨(q i j x n).1,(q i j x n).2.ext E⟩⟩
 .intro i j b e d
  unfold sset at e d;split at e
  .cases e
  .split at d
   .cases d
   .exact H.inj i j b e d
 grind[gO,dI.AD,sset]
def dU.acv {w:World} (H:dU m A h w) (a:h id=.no) (T sz:Nat) :
  dU (sset m id .uK) A (gO h id (.cells T sz [])) w/\Ext m w (sset m id .uK) w:=H.LZ a (T:=T) (sz:=sz) rfl trivial
def dU.agh {w w':World} (H:dU m A h w) {nx T sz b g:Nat} {els':List (List AV)} {cs':Array Value} {B:dI} (q:B.bG=some (T,sz,els')) (L:rW B) (p:m id=.at b) (t:h nx=.no) (d:w.grownBy w' (some b)) (y:g=b\/w.heap.size<=g) (J:g<w'.heap.size)
  (D:w'.heap[g]?=some (.cells cs' T (0,0))) (N:els'.length*sz<=cs'.size) (M:∀e∈els',e.length=sz)
  (z:∀(i j:Nat) (x:AV),iE els' i j=some x->x.one=true/\Rd m A w x (cs'.getD (i*sz+j) Go.undef)) :
  dU (sset (sset m id .dead) nx (.at g)) A (gO (gO h id .dead) nx B) w'/\Ext m w (sset (sset m id .dead) nx (.at g)) w':=by
 have F:=H.no nx t;have aa:nx≠id:=by grind
 have K:=H.lt p;have get:∀k,k≠nx->k≠id->sset (sset m id .dead) nx (.at g) k=m k:=by simp_all[sset]
 have o:sset (sset m id .dead) nx (.at g) nx=.at g:=by simp[sset]
 have ac:sset (sset m id .dead) nx (.at g) id=.dead:=by grind[sset]
 have Z:∀k c,m k=.at c->k≠id->c≠b/\w'.heap[c]?=w.heap[c]?:=by
  intro k c a v;have u:c≠b:=by rintro rfl;exact v (H.inj k id c a p)
  exact⟨u,d.block c (H.lt a) (by simp_all)⟩
 have E:Ext m w (sset (sset m id .dead) nx (.at g)) w':=by
  refine⟨d.os,d.tape,d.output,d.size,?_,?_,?_,?_,?_⟩
  .grind
  .grind
  .grind
  .intro c l hu
   have u:c≠b:=(by grind);refine⟨?_,d.block c l (by simp_all)⟩
   grind
  grind[gW]
 refine⟨⟨?_,fun c l=>by have:=H.old c l;have:=d.size;omega,?_,?_,?_,?_,H.mT.ext H.out E,H.nW E fun k B1 a ab=>?_,rW.set (rW.set H.scs trivial) L⟩,E⟩
 .intro k c a r
  by_cases e2:k=nx
  .subst e2;rw[o]at a;cases a
   rcases y with rfl|y
   .exact H.out id _ p r
   .have:=H.old _ r;omega
  .by_cases e1:k=id
   .simp_all
   .rw[get k e2 e1]at a;exact H.out k c a r
 .intro k a
  by_cases e2:k=nx
  .subst e2;rw[AI]at a;exact absurd a (dI.zX q).1
  .by_cases e1:k=id
   .simp_all[gO]
   .rw[get k e2 e1];simp[gO,e2,e1]at a;exact H.no k a
 .intro k a
  by_cases e2:k=nx
  .subst e2;rw[AI]at a;exact absurd a (dI.zX q).2
  .by_cases e1:k=id
   .simp_all
   .rw[get k e2 e1];simp[gO,e2,e1]at a;exact H.dead k a
 .intro k Y s n a
  by_cases e2:k=nx
  .subst e2
   rw[AI,q]at a;cases a;exact .inr ⟨g,cs',o,D,N,M,fun i j x f=>⟨(z i j x f).1,(z i j x f).2.ext E⟩⟩
  .by_cases e1:k=id
   .simp_all[gO,dI.bG]
   .simp[gO,e2,e1]at a
    obtain⟨R,Q⟩|⟨c,cs,R,Q,P,O,C⟩:=H.wV k Y s n a
    .simp_all
    .exact .inr ⟨c,cs,by simp_all,by grind,P,O,fun i j x f=>⟨(C i j x f).1,(C i j x f).2.ext E⟩⟩
 .intro i j c I G
  have key:∀k,sset (sset m id .dead) nx (.at g) k=.at c->(k=nx/\c=g)\/(k≠nx/\k≠id/\m k=.at c):=by
   grind
  rcases key i I with⟨X,a2⟩|⟨X,a2,W⟩<;>rcases key j G with⟨V,U⟩|⟨V,U,S⟩
  .omega
  .grind
  .grind
  .exact H.inj i j c W S
 grind[gO,dI.AD,dI.other]
def dU.renew {w w':World} (H:dU m A h w) {nx T sz b g:Nat} {bG els':List (List AV)} {cs':Array Value} (q:h id=.cells T sz bG) (l:m id=.at b) (c:h nx=.no) (d:w.grownBy w' (some b)) (k:g=b\/w.heap.size<=g) (a:g<w'.heap.size)
  (f:w'.heap[g]?=some (.cells cs' T (0,0))) (p:els'.length*sz<=cs'.size) (o:∀e∈els',e.length=sz)
  (n:∀(i j:Nat) (x:AV),iE els' i j=some x->x.one=true/\Rd m A w x (cs'.getD (i*sz+j) Go.undef)) :
  dU (sset (sset m id .dead) nx (.at g)) A (gO (gO h id .dead) nx (.cells T sz els')) w'/\Ext m w (sset (sset m id .dead) nx (.at g)) w':=H.agh rfl trivial l c d k a f p o n
def acb {xs ys:List (List AV)} {i j:Nat} {x:AV} (h:iE (xs++ys) i j=some x):(i<xs.length/\iE xs i j=some x)\/(xs.length<=i/\iE ys (i-xs.length) j=some x):=by
 grind[iE]
def OW {R:AV->Value->Prop} {xs ys:List (List AV)} {sz:Nat} (c:∀e∈xs,e.length=sz) {us vs:List Value} (g:us.length=xs.length*sz)
  (h1:∀(i j:Nat) (x:AV),iE xs i j=some x->x.one=true/\R x (us.getD (i*sz+j) Go.undef)) (f:∀(i j:Nat) (x:AV),iE ys i j=some x->x.one=true/\R x (vs.getD (i*sz+j) Go.undef)) :
  ∀(i j:Nat) (x:AV),iE (xs++ys) i j=some x->x.one=true/\R x ((us++vs).getD (i*sz+j) Go.undef):=by
 intro i j x h;rcases acb h with⟨a,b⟩|⟨a,b⟩
 .have k:=kG b c
  grind
 .have:=f _ _ _ b
  have d:xs.length*sz<=i*sz:=a1q _ a
  grind[Nat.sub_mul]
def zH (a0:Option Addr) (t g e:TypeId) (i:TypeInfo) (z:Value) (k:P.underlying t=some (.slice e)) (m:P.info? e=some i) (h:i.zero=some z) (w:World)
  (a:Addr) (n c:Nat) (d:List Value) (l:d.length=n*i.size) (f:∀j v,d[j]?=some v->w.cell? (a.add j)=some v)
  (p:0<n) (o:(n:Int)<=9223372036854775807) (q:n*i.bytes<=140737488355328) :
  (Builtin.append_ #[t,t] g #[.slice a0 0 0,.slice (some a) n c]).run P w =
   .ok (.slice (some ⟨w.heap.size,0,none⟩) n (grownCap w n 0 e)) (w.drew.alloc (.cells (d.toArray++Builtin.zeroCells z.cells (grownCap w n 0 e-n)) e)):=by
 cases a0 with
 |none=>exact run_append_nil w t g e i z k m h a n c d l f p o (by omega)
 |some b =>
  have:=run_append_grow (P:=P) w t g e i z k m h b 0 0 [] (by simp) (by simp_all) a n c d l f (by omega) (by omega) (by grind[nextslicecap_zero])
  simp_all
def nK (v:Value) (a0 a:Option Addr) (n cap g:Nat) (t b e:TypeId) (i:TypeInfo) (c:P.underlying t=some (.slice e)) (f:P.info? e=some i) (w:World) (d:n<=cap) (h:a0=none->n=0) :
  (Builtin.append_ #[t,t] b #[.slice a0 n cap,.slice a 0 g]).run P w=.ok (.slice a0 n cap) w:=by
 cases a0<;>cases a<;>simp[Builtin.append_,run_underlying c,sizeOf,typeInfo,f,Builtin.lenOf,Builtin.firstCells,d,storeCells,loadCells,loadCellsFrom]
def vA (h:AH) (e sz:Nat):AV->Option (List (List AV)×List (Nat×dI)×List Nat)
 | .emp=>some ([],[],[])
 | .own T s id 0 n=>match h id with
  | .cells b a bG=>if b=T/\a=s/\T=e/\s=sz/\n=bG.length then some (bG,[(id,.dead)],[id])else none
  |_=>none
 |_=>none
def Pb {t e:TypeId} {x y:Operand} {bG ys:List (List AV)} {k:List (Nat×dI)} {rd:List Nat} {i:TypeInfo} {z:Value} {nx:Nat} (ho:o.op=.call { callee:=.builtin .append,args:=#[x,y],argTypes:=#[t,t] }) (ht:P.underlying t=some (.slice e)) (hi:P.info? e=some i) (hz:i.zero=some z) (ag:z.cells.size=i.size) (aw:0<i.size)
  (D:vA h e i.size (eF f x)=some (bG,k,rd)) (hy:jX h (eF f y)=some ys) (U:∀q∈ys,q.length=i.size) (au:∀T s id j n,eF f y=.own T s id j n->s=i.size) (hb:(bG.length+ys.length)*i.bytes<=140737488355328) (hm:bG.length+ys.length<=1099511627776) (aj:h nx=.no) :
  dX P o f h ⟨.own e i.size nx 0 (bG.length+ys.length),k++[(nx,.cells e i.size (bG++ys))],nx::rd++uM (eF f y)⟩:=by
 intro m A w a H F;have K:=F.eval x;have gy:=F.eval y;obtain⟨a1,c1,ah,aJ,az,d,hl,N,ap,ai⟩:=aaC H gy hy U au;have l:∀v w',(Builtin.append_ #[t,t] o.type #[a.eval x,a.eval y]).run P w=.ok v w'->(execOp a.eval o).run P w=.ok (.value v) w':=by
  intro v w' C;simp[execOp,ho,resolve,invoke,builtin,C]
 have af:∀(m1:Nat->St) (h1:AH) (hk:fZ h (k++[(nx,.cells e i.size (bG++ys))])=gO h1 nx (.cells e i.size ys)) (H1:dU m1 A h1 w) (E1:Ext m w m1 w) (J:h1 nx=.no) (a0:Option Addr) (B:a.eval x=.slice a0 0 0) (he:bG=[]),
   ∃E w' I,((execOp a.eval o).run P w=.ok (.value E) w'\/((execOp a.eval o).run P w=.ok .skip w'/\E=Go.undef))/\dU I A (fZ h (k++[(nx,.cells e i.size (bG++ys))])) w'/\Rd I A w' (.own e i.size nx 0 (bG.length+ys.length)) E/\Ext m w I w':=by
  intro m1 h1 hk H1 E1 J a0 B he;subst he;rw[hk];rw[B,ah]at l;simp only[a20,a02]at hm hb |-;by_cases S:ys=[]
  .subst S
   have C:=nK (P:=P) (.slice a0 0 0) a0 a1 0 0 c1 t o.type e i ht hi w (a0g _) (fun _=>rfl);obtain⟨Q,O⟩:=H1.acv J e i.size;refine⟨_,w,_,.inl (l _ _ C),Q,?_,E1.trans O⟩;exact .vN e i.size nx 0 a0 (by simp[sset])
  .have an:0<ys.length:=a3d.2 S
   obtain⟨L,rfl⟩:∃L,a1=some L:=by
    cases a1<;>grind
   have C:=zH (P:=P) a0 t o.type e i z ht hi hz w L ys.length c1 d hl (fun j v hv=>N L rfl j v hv) an (by omega) hb
   have W:ys.length<=grownCap w ys.length 0 e/\grownCap w ys.length 0 e<=maxLen:=by
    unfold grownCap Question.cut;have:=a3c (w.tape w.drawn (.appendCap ys.length 0 e)) (show 0<2 ^ 63-ys.length by omega)
    grind[maxLen]
   have ab:(d.toArray++Builtin.zeroCells z.cells (grownCap w ys.length 0 e-ys.length)).size=grownCap w ys.length 0 e*i.size:=by
    simp only[Array.size_append,List.size_toArray,hl,Builtin.zeroCells,Array.size_map,Array.size_range,ag];rw[<-a2y];grind
   obtain⟨d1,d2⟩:=H1.drew;obtain⟨Q,O⟩:=d1.alloc (id:=nx) (T:=e) (sz:=i.size) (bG:=ys) (cs:=d.toArray++Builtin.zeroCells z.cells (grownCap w ys.length 0 e-ys.length)) J (by grind) U (by
    intro p j y r;obtain⟨r1,r2⟩:=ai p j y r;have X:=kG r U;have e1:(d.toArray++Builtin.zeroCells z.cells (grownCap w ys.length 0 e-ys.length)).getD (p*i.size+j) Go.undef=d.getD (p*i.size+j) Go.undef:=by
     have aA:p*i.size+j<d.length:=(by omega);simp[a1z,aA,List.getD]
    rw[e1];exact⟨r1,(r2.ext E1).ext d2⟩)
   refine⟨_,_,_,.inl (l _ _ C),Q,?_,(E1.trans d2).trans O⟩
   have:=Rd.own (m:=sset m1 nx (.at w.drew.heap.size)) (A:=A) (w:=w.drew.alloc (.cells (d.toArray++Builtin.zeroCells z.cells (grownCap w ys.length 0 e-ys.length)) e)) e i.size nx 0 ys.length w.heap.size (grownCap w ys.length 0 e) (by simp[sset]) (by simp) W.1 W.2 (by
    rw[a02,<-ab];have:(w.drew.alloc (.cells (d.toArray++Builtin.zeroCells z.cells (grownCap w ys.length 0 e-ys.length)) e)).heap[w.heap.size]?=some (.cells (d.toArray++Builtin.zeroCells z.cells (grownCap w ys.length 0 e-ys.length)) e (0,0)):=by
     show(w.heap.push _)[w.heap.size]?=_;simp
    grind[gW])
   grind
 unfold vA at D;split at D
 .rename_i Y
  simp only[a0i,a13]at D;obtain⟨rfl,rfl,rfl⟩:=D;rw[Y]at K;obtain⟨a0,B⟩:∃a0,a.eval x=.slice a0 0 0:=by
   generalize a.eval x=v at K;cases K with|pure _ _ C=>cases C<;>grind
  exact af m h (by simp[fZ]) H (Ext.refl _ _) aj a0 B rfl
 .rename_i T s id n Y
  split at D
  .rename_i M s' c hh
   split at D
   .rename_i hc
    obtain⟨rfl,rfl,rfl,rfl,rfl⟩:=hc;simp only[a0i,a13]at D;obtain⟨rfl,rfl,rfl⟩:=D;rw[Y]at K;have aI:nx≠id:=(by grind);rcases H.cells id _ _ _ hh with⟨hv,rfl⟩|⟨b,cs,g1,g2,g3,g4,g5⟩
    .obtain⟨a0,B⟩:∃a0,a.eval x=.slice a0 0 0:=by
      generalize a.eval x=v at K;cases K with
      |pure _ _ h=>cases h
      |own _ _ _ _ _ b _ hm=>grind
      |vN _ _ _ _ a hm=>grind
      |wK _ _ _ _ _ _ _ _ hm=>grind
     obtain⟨Q,O⟩:=H.kill hv;grind[fZ,lQ]
    .obtain⟨cap,B,ak,aD,aE⟩:=K.vU g1
     have ac:cap*i.size=cs.size:=(by grind[gW])
     have ao:w.ownsRow 0 M i.size (.slice (some ⟨b,0,none⟩) c.length cap) c.length (cs.toList.take (c.length*i.size)):=by
      refine⟨by grind,.inr ⟨b,cap,cs,rfl,a0n _,g2,ak,aD,ac.symm,rfl⟩⟩
     rw[B,ah]at l;simp only[a3t]at l;have av:(cs.toList.take (c.length*i.size)).length=c.length*i.size:=by grind
     have am:∀(p j:Nat) (y:AV),iE c p j=some y->y.one=true/\Rd m A w y ((cs.toList.take (c.length*i.size)).getD (p*i.size+j) Go.undef):=by
      intro p j y r;have X:=kG r g4;have:=g5 p j y r;rw[List.getD,a19,if_pos X.2.2];simpa using this
     have ae:=OW (R:=Rd m A w) (ys:=ys) g4 (us:=cs.toList.take (c.length*i.size)) (vs:=d) av am ai
     have Z:∀q∈c++ys,q.length=i.size:=by
      grind
     have fin:∀(G:Value) (w':World),(Builtin.append_ #[t,t] o.type #[.slice (some ⟨b,0,none⟩) c.length cap,.slice a1 ys.length c1]).run P w=.ok G w'->w'.ownsRow 0 M i.size G (c.length+ys.length) (cs.toList.take (c.length*i.size)++d)->w.grownBy w' (some b) ->
       (G.ownBlock=some b\/G.ownBlock=some w.heap.size) ->
       ∃E w' I,((execOp a.eval o).run P w=.ok (.value E) w'\/((execOp a.eval o).run P w=.ok .skip w'/\E=Go.undef))/\dU I A (fZ h ([(id,.dead)]++[(nx,.cells M i.size (c++ys))])) w'/\Rd I A w' (.own M i.size nx 0 (c.length+ys.length)) E/\Ext m w I w':=by
      intro G w' C ax aB aF;obtain⟨aH,aG|⟨g,mX,al,rfl,-,hg,ay,ar,CU,aa⟩⟩:=ax
      .grind[Value.ownBlock]
      .have aC:g=b\/w.heap.size<=g:=by
        grind[Value.ownBlock]
       have V:g<w'.heap.size:=by
        grind
       obtain⟨Q,O⟩:=H.renew (els':=c++ys) (nx:=nx) (g:=g) (cs':=al) hh g1 aj aB aC V hg (by grind) Z (by
        intro p j y r;have X:=kG r Z;obtain⟨r1,r2⟩:=ae p j y r;refine⟨r1,?_⟩
        have:(cs.toList.take (c.length*i.size)++d).getD (p*i.size+j) Go.undef=al.getD (p*i.size+j) Go.undef:=by
         rw[<-aa,List.getD,a19,if_pos (by grind)];simp
        grind)
       refine⟨_,w',_,.inl (l _ _ C),by simpa[fZ]using Q,?_,O⟩;have:=Rd.own (m:=sset (sset m id .dead) nx (.at g)) (A:=A) (w:=w') M i.size nx 0 (c.length+ys.length) g mX (by simp[sset]) V ay ar (by grind[gW])
       grind
     cases a1 with
     |none =>
      have:=az rfl;subst this;have C:=nK (P:=P) (.slice (some ⟨b,0,none⟩) c.length cap) (some ⟨b,0,none⟩) none c.length cap c1 t o.type M i ht hi w ak (by grind);have aq:d=[]:=(by simpa using hl);subst aq;refine fin _ _ C ?_ ⟨rfl,rfl,rfl,a0g _,fun _ _ _=>rfl⟩ (.inl rfl)
      grind
     |some L =>
      obtain⟨G,w',r1,r2,r3,r4,r5⟩:=run_append_own_at (P:=P) w 0 t o.type M i z i.size i.bytes ht hi hz rfl rfl ag aw (.slice (some ⟨b,0,none⟩) c.length cap) c.length _ ao L ys.length c1 d hl (fun j u hu=>N L rfl j u hu) ap (by grind[maxLen]) hb (a0n _);exact fin G w' r1 r2 r3 (by simpa[Value.ownBlock]using r5)
   grind
  grind
 grind
end
end
end Mc
namespace Mc
variable {zc:List AV} {m:Nat->St} {A:Nat->Prop} {nx:Nat} {x:Operand}
section
variable {P:Program} {o:Oper} {f:List AV} {h:AH}
section
variable [Bk] [Ev]
def OA {n:Nat} {i j:Nat} {x:AV} (h:iE (List.replicate n zc) i j=some x):i<n/\zc[j]?=some x:=by
 grind[iE]
def Rt {w:World} (H:dU m A h w) {T sz n cap:Nat} {bG:List (List AV)} {cs:Array Value} (a:h nx=.no) (f:bG.length=n) (b:n<=cap) (g:cap<=maxLen) (hs:cs.size=cap*sz) (l:∀e∈bG,e.length=sz)
  (k:∀(i j:Nat) (x:AV),iE bG i j=some x->x.one=true/\Rd m A w x (cs.getD (i*sz+j) Go.undef)) :
  dU (sset m nx (.at w.heap.size)) A (gO h nx (.cells T sz bG)) (w.alloc (.cells cs T))/\Ext m w (sset m nx (.at w.heap.size)) (w.alloc (.cells cs T))/\Rd (sset m nx (.at w.heap.size)) A (w.alloc (.cells cs T)) (.own T sz nx 0 n) (.slice (some ⟨w.heap.size,0,none⟩) n cap):=by
 subst f;obtain⟨d,c⟩:=H.alloc (id:=nx) (T:=T) (sz:=sz) (bG:=bG) (cs:=cs) a (by rw[hs];exact a1q _ b) l k;refine⟨d,c,?_⟩
 have:=Rd.own (m:=sset m nx (.at w.heap.size)) (A:=A) (w:=w.alloc (.cells cs T)) T sz nx 0 bG.length w.heap.size cap (by simp[sset]) (by simp) b g (by
  rw[a02,<-hs];have:(w.alloc (.cells cs T)).heap[w.heap.size]?=some (.cells cs T (0,0)):=by
   show(w.heap.push _)[w.heap.size]?=_;simp
  simp_all[gW])
 simp_all
def RA {t e:TypeId} {y:Operand} {i:TypeInfo} {z:Value} {k k':IntKind} {l c:Int} (M:o.op=.makeSlice t x y) (K:P.underlying t=some (.slice e)) (N:P.info? e=some i) (G:i.zero=some z) (p:jF (SB z)=some zc) (g:zc.length=i.size)
  (J:eF f x=.c (.int k l)) (I:eF f y=.c (.int k' c)) (Q:0<=l) (u:l<=c) (O:(i.bytes:Int)*c<=281474976710656) (Y:c<=1099511627776) (s:h nx=.no) :
  dX P o f h ⟨.own e i.size nx 0 l.toNat,[(nx,.cells e i.size (List.replicate l.toNat zc))],[nx]⟩:=by
 intro m A w a H F;have B:=F.eval x;rw[J]at B;have v:=F.eval y;rw[I]at v;have L:=run_make (P:=P) w t e i z K N G k k' l c Q u O (by omega);have b:CR (Rd m A w) zc z.cells:=pE (.pure _ _ (AL _ w z)) p;have r:(madeCells z.cells (c.toNat*i.size)).size=c.toNat*i.size:=by simp[madeCells]
 obtain⟨E,D,C⟩:=Rt H (T:=e) (sz:=i.size) (n:=l.toNat) (cap:=c.toNat) (bG:=List.replicate l.toNat zc) (cs:=madeCells z.cells (c.toNat*i.size)) s (by simp) (by omega) (by grind[maxLen]) r (by simp_all) (by
  intro d j U q;obtain⟨r1,r2⟩:=OA q;obtain⟨W,V⟩:=b.2 _ _ r2;have X:j<i.size:=by grind
  have R:z.cells.size=i.size:=b.1.trans g
  have S:d*i.size+j<c.toNat*i.size:=by
   have:(d+1)*i.size<=c.toNat*i.size:=a1q _ (by omega)
   grind
  simp_all[a4i,madeCells])
 refine⟨_,_,_,.inl ?_,by simpa[fZ]using E,C,D⟩;simp[execOp,M,B.fK,v.fK,L]
def chunk {α:Type} (sz:Nat):Nat->List α->List (List α)
 |0,_=>[]
 |n+1,l=>l.take sz::chunk sz n (l.drop sz)
def PE {α:Type} (sz:Nat):∀(n:Nat) (l:List α),(chunk sz n l).length=n
 |0,_=>rfl
 |n+1,l=>by simp[chunk,PE sz n]
def Nv {α:Type} (sz:Nat):∀(n:Nat) (l:List α),l.length=n*sz->∀e∈chunk sz n l,e.length=sz
 |0,_,_,e,a=>by simp_all[chunk]
 |n+1,l,b,e,a=>by
  rw[a2h]at b;simp only[chunk,a0d]at a;rcases a with rfl|a
  .simp_all
  .exact Nv sz n (l.drop sz) (by simp_all) e a
def PF (sz:Nat):∀(n:Nat) (l:List AV) (i j:Nat) (x:AV),iE (chunk sz n l) i j=some x->l[i*sz+j]?=some x
 |0,_,i,j,x,h=>by simp_all[chunk,iE]
 |n+1,l,0,j,x,h=>by
  simp_all[chunk,iE,a19]
 |n+1,l,i+1,j,x,h=>by
  have:=PF sz n (l.drop sz) i j x (by simpa[chunk,iE]using h)
  grind
def ai6 {w:World} {z:Value} (c:CR (Rd m A w) zc z.cells) (n:Nat):CR (Rd m A w) ((List.replicate n zc).flatten) ((Array.range (n*zc.length)).map (z.cells[·%z.cells.size]!)):=by
 have g:((List.replicate n zc).flatten).length=n*zc.length:=by simp
 refine⟨by simp,?_⟩;intro k x a;have b:k<n*zc.length:=by grind
 have e:0<zc.length:=by
  grind
 have d:=a3c k e;have key:∀(n k:Nat),k<n*zc.length->((List.replicate n zc).flatten)[k]?=zc[k%zc.length]?:=by
  intro n;induction n with
  |zero=>omega
  |succ n f =>
   intro k b;rw[List.replicate_succ,a2s];rcases a0z k zc.length with h|h<;>grind[Nat.mod_eq_of_lt,Nat.mod_eq_sub_mod]
 rw[key n k b]at a;obtain⟨r1,r2⟩:=c.2 _ _ a;refine⟨r1,?_⟩;have hs:=c.1;simp_all
def Ok {t e:TypeId} {len:Nat} {b:Array (Nat×Operand)} {i:TypeInfo} {z:Value} {cs:List AV} (V:o.op=.buildSlice t len b) (N:P.underlying t=some (.slice e)) (O:P.info? e=some i) (K:i.zero=some z) (u:jF (SB z)=some zc) (d:zc.length=i.size) (l:0<i.size) (y:0<len) (Q:len*i.size<=16777216)
  (C:yS (fun k=>some (k*i.size,i.size)) ((List.replicate len zc).flatten) (b.toList.map fun p=>(p.1,eF f p.2))=some cs) (v:h nx=.no) :
  dX P o f h ⟨.own e i.size nx 0 len,[(nx,.cells e i.size (chunk i.size len cs))],[nx]⟩:=by
 intro m A w a H F;have D:CR (Rd m A w) zc z.cells:=pE (.pure _ _ (AL _ w z)) u;have g:=ai6 D len;rw[d]at g;obtain⟨r,M,q⟩:=EZ _ _ (b.map fun p=>(p.1,a.eval p.2)).toList _ _ _ g (by simp) (O8 F b) C
 have B:∀(ps:List (Nat×AV)) (E:List AV) (c:List AV),yS (fun k=>some (k*i.size,i.size)) E ps=some c->c.length=E.length:=by
  intro ps;induction ps with
  |nil=>simp_all[yS]
  |cons p ps R =>
   grind[yS,xM]
 have s:cs.length=len*i.size:=by rw[B _ _ _ C];simp[d]
 have U:=run_buildSlice (P:=P) w t e len (b.map fun p=>(p.1,a.eval p.2)) r i z N O K (by omega) (by have:=Nat.mul_pos y l;omega) M
 obtain⟨J,I,G⟩:=Rt H (T:=e) (sz:=i.size) (n:=len) (cap:=len) (bG:=chunk i.size len cs) (cs:=r) v (PE _ _ _) (a0g _) (by
   have:len<=len*i.size:=a3x _ l
   grind[maxLen]) (by rw[q.1,s]) (Nv _ _ _ s) (by
  intro S j x L;exact q.2 _ _ (PF _ _ _ _ _ _ L))
 refine⟨_,_,_,.inl ?_,by simpa[fZ]using J,G,I⟩
 simp_all[execOp]
def gR (ρ:Operand->AV) (d:Nat):Option Operand->Option Nat
 |none=>some d
 |some x=>match ρ x with
  | .c (.int _ n)=>if 0<=n then some n.toNat else none
  |_=>none
def lR {w:World} {a:Act} (F:nJ m A w f a) {d n:Nat} (b:gR (eF f) d (some x)=some n):∃k,a.eval x=.int k (n:Int):=by
 simp only[gR]at b;have c:=F.eval x;split at b
 .rename_i k v e
  split at b
  .rename_i g
   cases b;rw[e]at c;exact⟨k,by rw[c.fK,a1w g]⟩
  simp_all
 simp_all
def pL {w:World} {a:Act} (F:nJ m A w f a) {t:TypeId} (h:P.underlying t=some (.slice (P.elem t))) {j:TypeInfo} (n:P.info? (P.elem t)=some j) {g c:Option Operand} {l u len cap:Nat} (b:gR (eF f) 0 g=some l) (e:gR (eF f) len c=some u) (h1:l<=u) (q:u<=len) (p:len<=cap) (d:Option Addr) :
  (Instr.sliceAt t (.slice d len cap) (g.map a.eval) (c.map a.eval) none).run P w=.ok (sliced d l u cap j.size) w:=by
 rw[run_sliceAt_slice (P:=P) w t _ _ _ _ h];cases g with
 |none =>
  simp only[gR,a0i]at b;subst b;cases c with
  |none =>
   simp_all[gR,run_slice_all,sizeOf,typeInfo]
  |some x =>
   obtain⟨k,i⟩:=lR F e;simp[i,run_slice_h (P:=P) w t d len cap h k (u:Int) (by omega) (by omega),sizeOf,typeInfo,n]
 |some y =>
  obtain⟨k',o⟩:=lR F b;cases c with
  |none =>
   simp_all[gR,run_slice_l,sizeOf,typeInfo]
  |some x =>
   obtain⟨k,i⟩:=lR F e;simp[i,o,run_slice_lh (P:=P) w t d len cap h k' k (l:Int) (u:Int) (by omega) (by omega) (by omega),sizeOf,typeInfo,n]
def Rz {t:TypeId} {z G:Option Operand} {sz l u:Nat} {bG:List (List AV)} (D:o.op=.slice t x z G none) (B:P.underlying t=some (.slice (P.elem t))) (hs:(P.info? (P.elem t)).map (·.size)=some sz) (L:eF f x=.lit sz bG) (n:gR (eF f) 0 z=some l) (p:gR (eF f) bG.length G=some u) (h1:l<=u) (s:u<=bG.length) :
  dX P o f h ⟨.lit sz ((bG.drop l).take (u-l)),[],[]⟩:=by
 refine cK fun m A w a H F=>?_;have g:=F.eval x;rw[L]at g;cases q:P.info? (P.elem t)with
 |none=>simp_all
 |some v =>
  simp only[q,a0s,a0i]at hs;subst hs;have r:((bG.drop l).take (u-l)).length=u-l:=by grind
  obtain⟨rfl,R,cap,c⟩|⟨b,off,cap,vs,c,Q,O,N,C,K,I,J⟩:=g.pW
  .have k:=pL (P:=P) F B q n p h1 s (cap:=cap) (by simp) R
   simp only[a20]at s k;have:l=0/\u=0:=by omega
   obtain⟨rfl,rfl⟩:=this;exact⟨_,by simp[execOp,D,c,k];rfl,.pure _ _ (by simp only[sliced,List.drop_nil,List.take_nil,a2t];exact .nQ _ _ _ (by rw[c]at g;exact a1k (Nat.sub_le _ _) g.EO))⟩
  .have k:=pL (P:=P) F B q n p h1 s N (some ⟨b,off,none⟩)
   refine⟨_,by simp[execOp,D,c,k];rfl,.pure _ _ ?_⟩;unfold sliced;by_cases E:l=u
   .subst E
    simp only[a2t,List.take_zero];exact .nQ _ _ _ (by rw[c]at g;exact a1k (Nat.sub_le _ _) g.EO)
   .rw[if_neg (by omega)]
    have:=eC.lit (A:=Av m A) (w:=w) v.size ((bG.drop l).take (u-l)) b (off+l*v.size) (cap-l) (fun i j=>vs (l+i) j) Q O ⟨by omega,by rw[c]at g;exact a1k (Nat.sub_le _ _) g.EO⟩ (fun e M=>C e (a21 (a2m M))) (fun i j y d=>K _ _ _ (tZ d).2)
     (fun i j y d=>by have:=I _ _ _ (tZ d).2;grind) (fun i j y d=>J _ _ _ (tZ d).2)
    rw[r]at this;simpa[iM]using this
def Rx {t:TypeId} {j s:Option Operand} {T sz id i n l u:Nat} {bG:List (List AV)} (E:o.op=.slice t x j s none) (B:P.underlying t=some (.slice (P.elem t))) (hs:(P.info? (P.elem t)).map (·.size)=some sz) (y:eF f x=.own T sz id i n) (I:h id=.cells T sz bG) (p:bG≠[]) (q:gR (eF f) 0 j=some l) (v:gR (eF f) n s=some u) (h1:l<=u) (K:u<=n) (M:l=0\/l<n) :
  dX P o f h ⟨.own T sz id (i+l) (u-l),[],[id]⟩:=by
 refine cK fun m A w a H F=>?_;have g:=F.eval x;rw[y]at g;cases k:P.info? (P.elem t)with
 |none=>simp_all
 |some c =>
  simp only[k,a0s,a0i]at hs;subst hs;obtain⟨e,r,rfl⟩:=a3w p;obtain⟨b,cs,d,-⟩:=H.block (i:=0) I rfl;obtain⟨cap,z,G,L,C⟩:=g.vU d;have D:=pL (P:=P) F B k q v h1 K G (some ⟨b,i*c.size,none⟩);refine⟨_,by simp[execOp,E,z,D];rfl,?_⟩
  have J:sliced (some ⟨b,i*c.size,none⟩) l u cap c.size=.slice (some ⟨b,(i+l)*c.size,none⟩) (u-l) (cap-l):=by
   grind[sliced,iM]
  rw[J];exact .own T c.size id (i+l) (u-l) b (cap-l) d (H.lt d) (by omega) (by omega) (by grind)
def Rw {t:TypeId} {p j:Option Operand} {s:ByteArray} {l u:Nat} (i:o.op=.slice t x p j none) (e:P.underlying t=some .string) (v:eF f x=.c (.string s)) (d:gR (eF f) 0 p=some l) (b:gR (eF f) s.size j=some u) (h1:l<=u) (r:u<=s.size) :
  dX P o f h ⟨.c (.string (s.extract l u)),[],[]⟩:=by
 refine cK fun m A w a H F=>?_;have g:=F.eval x;rw[v]at g;refine⟨_,?_,.pure _ _ (.c _)⟩;cases p with
 |none =>
  simp only[gR,a0i]at d;subst d;cases j with
  |none =>
   simp only[gR,a0i]at b;subst b;simp[execOp,i,g.fK,Instr.sliceAt,run_underlying e,Instr.slice,Instr.sliceBounds]
  |some y =>
   obtain⟨k,q⟩:=lR F b;simp[execOp,i,g.fK,Instr.sliceAt,run_underlying e,Instr.slice,Instr.sliceBounds,q,run_sliceBound,r]
 |some y =>
  obtain⟨k',n⟩:=lR F d;cases j with
  |none =>
   simp only[gR,a0i]at b;subst b;simp[execOp,i,g.fK,Instr.sliceAt,run_underlying e,Instr.slice,Instr.sliceBounds,n,run_sliceBound,h1]
  |some y =>
   obtain⟨k,q⟩:=lR F b;simp[execOp,i,g.fK,Instr.sliceAt,run_underlying e,Instr.slice,Instr.sliceBounds,q,n,run_sliceBound,h1,r]
def apf (d:TypeDesc):Bool:=match d with | .interface _=>false|_=>true
def M7:Operand->Bool
 | .const _=>true
 |_=>false
def LJ (P:Program) (t:TypeId):Bool:=match P.underlying t with|some (.interface _)=>true|_=>false
def LI (P:Program) (t:TypeId):Bool:=match P.underlying t with|some (.func _ _ _)=>true|_=>false
def adA {t:TypeId} (h:LJ P t=true):∃ms,P.underlying t=some (.interface ms):=by
 grind[LJ]
def adv {t:TypeId} (h:LI P t=true):∃a b c,P.underlying t=some (.func a b c):=by
 grind[LI]
def Xo [Bk] (P:Program) (r:TypeId->AV->AV->Option Bool) (xs ys:List AV):List Field->Option Bool
 |[]=>some true
 | f :: c => if f.name ≠ "_" then match mM P f.type xs f.offset, mM P f.type ys f.offset with
   |some a,some b=>match r f.type a b with
    |some true=>Xo P r xs ys c
    |some false=>some false
    |none=>none
   |_,_=>none
  else Xo P r xs ys c
def Xp [Bk] (P:Program) (r:TypeId->AV->AV->Option Bool) (e:TypeId) (s:Nat) (xs ys:List AV) (k:Nat):Nat->Option Bool
 |0=>some true
 |n+1=>match mM P e xs (k*s),mM P e ys (k*s)with
  |some a,some b=>match r e a b with
   |some true=>Xp P r e s xs ys (k+1) n
   |some false=>some false
   |none=>none
  |_,_=>none
def Xr [Bk] (P:Program):Nat->TypeId->AV->AV->Option Bool
 |0,_,_,_=>none
 |d+1,t,x,y=>match P.underlying t with
  |some .bool=>match x,y with
   | .c (.bool a),.c (.bool b)=>some (a==b)
   |_,_=>none
  |some (.int _)=>match x,y with
   | .c (.int k a),.c (.int k' b)=>if k=k' then some (a==b)else none
   |x,y=>match toP x,toP y with
    |some p,some q=>eqB (rK p q)
    |_,_=>none
  |some .string=>match x,y with
   | .c (.string a),.c (.string b)=>some (a.toList==b.toList)
   |_,_=>none
  |some (.struct h)=>match x,y with
   | .agg g,.agg f=>if P.stoodInHeld t then none else Xo P (Xr P d) g f h.toList
   |_,_=>none
  |some (.array len e)=>match x,y with
   | .agg g,.agg f=>match P.info? e with
    |some i=>Xp P (Xr P d) e i.size g f 0 len
    |none=>none
   |_,_=>none
  |_=>none
def LW (d:Nat) (e:TypeId) (s:Nat) (xs ys:Array Value) (k:Nat) (_:Option Bool×Unit):Sem (ForInStep (Option Bool×Unit)):=do
 let a <-part e xs (k*s);let b <-part e ys (k*s);let r <-Op.equalIn d e a b
 if r=false then pure (.done (some false,()))else pure (.yield (none,()))
def Lj (d:Nat) (t e:TypeId) (len:Nat) (xs ys:Array Value) (w:World) (b:P.underlying t=some (.array len e)) (i:TypeInfo) (c:P.info? e=some i) :
  (Op.equalIn (d+1) t (.agg xs) (.agg ys)).run P w=((forIn (List.range' 0 len) ((none:Option Bool),()) (fun k s=>LW d e i.size xs ys k s)).run P w).andThen fun a w'=>(match a.1 with|some r=>pure r|none=>pure true:Sem Bool).run P w':=by
 simp only[Op.equalIn,Sem.run_bind,run_underlying b,Result.andThen_ok];simp[sizeOf,typeInfo,c,LW]
 grind
def ah9 {m:Nat->St} {A:Nat->Prop} {w:World}:∀(d:Nat) (t:TypeId) (x y:AV) (u v:Value) (b:Bool),Xr P d t x y=some b->Rd m A w x u->Rd m A w y v->(Op.equalIn d t u v).run P w=.ok b w
 |0,t,x,y,u,v,b,h,_,_=>by grind[Xr]
 |d+1,t,x,y,u,v,b,h,o,j=>by
  have J:=fun t x y u v b=>ah9 (m:=m) (A:=A) (w:=w) d t x y u v b;unfold Xr at h;split at h
  .rename_i g
   split at h
   .cases h;rw[o.fK,j.fK];exact run_equalIn_bool d g w
   .cases h
  .rename_i I g
   split at h
   .split at h
    .rename_i Q;subst Q;cases h;rw[o.fK,j.fK];exact run_equalIn_int w d t _ I _ _ g
    .cases h
   .split at h
    .rename_i p q N M
     rw[toP_ok N o,toP_ok M j,run_equalIn_int w d t _ I _ _ g];have k:=Io h;rw[iA]at k;grind
    .cases h
  .rename_i g
   split at h
   .cases h;rw[o.fK,j.fK];exact run_equalIn_string w d t _ _ g
   .cases h
  .rename_i L g
   split at h
   .rename_i H G
    split at h
    .cases h
    .rename_i U
     obtain⟨vs,rfl,F⟩:=o.pY;obtain⟨r,rfl,E⟩:=j.pY;have K:P.fieldsOf t=L:=(by simp_all[Program.fieldsOf]);rw[run_equalIn_struct w d t vs r (by simp_all) (by simp_all),K];revert h;generalize L.toList=l;intro h;induction l generalizing b with
     |nil=>simp_all[Xo,Op.eqFields]
     |cons f l T =>
      simp only[Xo]at h;simp only[Op.eqFields];split at h
      .rename_i O
       rw[if_pos O];split at h
       .rename_i a c D C
        obtain⟨p,p1,p2⟩:=Ao (P:=P) F D;obtain⟨q,z,s⟩:=Ao (P:=P) E C;simp only[Sem.run_bind,p1,z,Result.andThen_ok];split at h
        .rename_i B
         rw[J f.type a c p q true B p2 s];simp_all
        .rename_i B
         cases h;rw[J f.type a c p q false B p2 s];simp
        .cases h
       .cases h
      simp_all
   .cases h
  .rename_i len e g
   split at h
   .rename_i H G
    split at h
    .rename_i i R
     obtain⟨vs,rfl,F⟩:=o.pY;obtain⟨r,rfl,E⟩:=j.pY;rw[Lj d t e len vs r w g i R];have key:∀(n k:Nat) (b:Bool),Xp P (Xr P d) e i.size H G k n=some b->((forIn (List.range' k n) ((none:Option Bool),()) (LW d e i.size vs r)).run P w)=.ok (if b then none else some false,()) w:=by
      intro n;induction n with
      |zero=>simp_all[Xp]
      |succ n S =>
       intro k b h;simp only[Xp]at h;rw[a4j,List.forIn_cons];split at h
       .rename_i a c D C
        obtain⟨p,p1,p2⟩:=Ao (P:=P) F D;obtain⟨q,z,s⟩:=Ao (P:=P) E C;simp only[LW,Sem.run_bind,p1,z,Result.andThen_ok];grind[Result.andThen_ok,Sem.run_pure]
       .cases h
     rw[key len 0 b h];cases b<;>simp
    .cases h
   .cases h
  .cases h
def Xq:∀(d:Nat) (t:TypeId) (x y:AV) (b:Bool),Xr P d t x y=some b->Xr P (d+1) t x y=some b
 |0,t,x,y,b,h=>by grind[Xr]
 |d+1,t,x,y,b,h=>by
  have i:=fun t x y b=>Xq d t x y b
  have f:∀(c a:List AV) (l:List Field) (b:Bool),Xo P (Xr P d) c a l=some b->Xo P (Xr P (d+1)) c a l=some b:=by
   intro c a l;induction l<;>grind[Xo]
  have g:∀(e:TypeId) (s:Nat) (c a:List AV) (n k:Nat) (b:Bool),Xp P (Xr P d) e s c a k n=some b->Xp P (Xr P (d+1)) e s c a k n=some b:=by
   intro e s c a n;induction n<;>grind[Xp]
  unfold Xr at h |-;split at h<;>grind
def akv {w:World} {t:TypeId} {x y:AV} {u v:Value} {b:Bool} (h:Xr P 8 t x y=some b) (d:Rd m A w x u) (c:Rd m A w y v):(Op.equal t u v).run P w=.ok b w:=by
 have key:∀k,Xr P (8+k) t x y=some b:=by
  intro k;induction k with
  |zero=>exact h
  |succ k a=>exact Xq _ _ _ _ _ a
 exact ah9 (8+9992) t x y u v b (key 9992) d c
def E5 (op:BinOp) (b:Bool):Option AV :=
 match op with
 | .eql=>some (.c (.bool b))
 | .neq=>some (.c (.bool !b))
 |_=>none
def aeR {op:BinOp} {b:Bool} {r:AV} (h:E5 op b=some r):(op=.eql/\r=.c (.bool b))\/(op=.neq/\r=.c (.bool !b)):=by
 unfold E5 at h;grind
def ahM:Value->Value->Bool
 | .iface _ _,.nilIface=>true
 | .nilIface,.nilIface=>true
 | .func _ _ _,.nilFunc=>true
 | .nilFunc,.nilFunc=>true
 | .agg _,.agg _=>true
 |_,_=>false
def ahr [Bk] (P:Program) (i:Nat) (t:TypeId):Bool:=match Bk.kinds[i]? with
 |some true=>(match P.underlying t with|some .string=>true|_=>false)
 |some false=>(match P.underlying t with|some .bool=>true|_=>false)
 |none=>false
def ahe {op:BinOp} {t l:TypeId} {y:Operand} {i:Nat} {r:AV} (z:o.op=.binOp op t x y l) (u:eF f x=.o i) (n:eF f y=.o i) (b:ahr P i t=true) (g:(op=.eql/\r=.c (.bool true))\/(op=.neq/\r=.c (.bool !true))):dX P o f h ⟨r,[],[]⟩:=by
 have key:(∃s,Ev.val i=.string s/\P.underlying t=some .string)\/∃c,Ev.val i=.bool c/\P.underlying t=some .bool:=by
  unfold ahr at b;split at b
  .rename_i d
   obtain⟨s,hs⟩:=(Ev.kin i true d).1 rfl;split at b
   .exact .inl ⟨s,hs,‹_›⟩
   simp_all
  .rename_i d
   obtain⟨s,hs⟩:=(Ev.kin i false d).2 rfl;split at b
   .exact .inr ⟨s,hs,‹_›⟩
   simp_all
  simp_all
 refine cK fun m A w a H F=>?_;have k:=F.eval x;have j:=F.eval y;rw[u]at k;rw[n]at j;have e1:=k.amm;have e2:=j.amm;rcases key with⟨s,hs,e⟩|⟨c,hs,e⟩
 .rw[hs]at e1 e2
  have v:(eqGuard op t x y (.string s) (.string s)).run P w=.ok () w:=by
   simp_all[eqGuard]
  rcases g with⟨rfl,rfl⟩|⟨rfl,rfl⟩
  .exact⟨.bool true,by simp_all[execOp,binOp,Op.stringOp],.pure _ _ (.c _)⟩
  .exact⟨.bool false,by simp_all[execOp,binOp,Op.stringOp],.pure _ _ (.c _)⟩
 .rw[hs]at e1 e2
  have v:(eqGuard op t x y (.bool c) (.bool c)).run P w=.ok () w:=by
   simp_all[eqGuard]
  have B:(Op.equal t (.bool c) (.bool c)).run P w=.ok true w:=by have:=run_equalIn_bool (P:=P) (p:=c) (q:=c) 9999 e w;rw[beq_self_eq_true]at this;exact this
  rcases g with⟨rfl,rfl⟩|⟨rfl,rfl⟩
  .exact⟨.bool true,by simp_all[execOp,binOp],.pure _ _ (.c _)⟩
  .exact⟨.bool false,by simp_all[execOp,binOp],.pure _ _ (.c _)⟩
def ak0 [Bk] (P:Program) (op:BinOp) (t:TypeId) (f e:Bool) (x y:AV):Option AV :=
 match x with
 | .c (.bool p)=>match y with
  | .c (.bool q)=>match P.underlying t with
   |some .bool=>match op with
    | .eql=>some (.c (.bool (p==q)))
    | .neq=>some (.c (.bool !(p==q)))
    |_=>none
   |_=>none
  |_=>none
 | .c .nilIface=>match y with
  | .c .nilIface=>if(f||e)=true/\LJ P t=true then E5 op true else none
  |_=>none
 | .qZ _ _=>match y with
  | .c .nilIface=>if LJ P t=true then E5 op false else none
  |_=>none
 | .fn _ _ _=>match y with
  | .c .nilFunc=>if LI P t=true then E5 op false else none
  |_=>none
 | .c .nilFunc=>match y with
  | .c .nilFunc=>if LI P t=true then E5 op true else none
  |_=>none
 | .agg d=>match y with
  | .agg a=>if P.eqGuardType P.depth t=false then(match Xr P 8 t (.agg d) (.agg a)with
    |some b=>E5 op b
    |none=>none)else none
  |_=>none
 | .o i=>match y with
  | .o j=>if i=j/\ahr P i t=true then E5 op true else none
  |_=>none
 | .c u=>match y with
  | .c v=>match ab8 op u v with
   |some r=>some (.c r)
   |none=>none
  |y=>match toP (.c u),toP y with
   |some p,some q=>ajn op p q
   |_,_=>none
 |x=>match toP x,toP y with
  |some p,some q=>ajn op p q
  |_,_=>none
def Rd.adq {w:World} {t:TypeId} {v:AV} {q:Value} (g:Rd m A w (.qZ t v) q):∃u,q=.iface t u/\Rd m A w v u:=by
 cases g with
 |pure _ _ h=>cases h with|qZ _ _ u a=>exact⟨u,rfl,.pure _ _ a⟩
 |qZ _ _ u a=>simp_all
def Rd.ann {w:World} {f:Fn} {xs ys:List AV} {q:Value} (g:Rd m A w (.fn f xs ys) q):∃vs a,q=.func f vs a:=by
 cases g with
 |pure _ _ h=>cases h<;>simp_all
 |fn _ _ _ vs a=>simp_all
def En (d:Nat) {t:TypeId} {ms:Array (String×TypeId)} (b:P.underlying t=some (.interface ms)) (a:TypeId) (v:Value) (w:World):(Op.equalIn (d+1) t (.iface a v) .nilIface).run P w=.ok false w:=by simp[Op.equalIn,run_underlying b]
def Eo (d:Nat) {t:TypeId} {ms:Array (String×TypeId)} (a:P.underlying t=some (.interface ms)) (w:World):(Op.equalIn (d+1) t .nilIface .nilIface).run P w=.ok true w:=by simp[Op.equalIn,run_underlying a]
def El (d:Nat) {t:TypeId} {a b:Array TypeId} {c:Bool} (e:P.underlying t=some (.func a b c)) (f:Fn) (x y:Array Value) (w:World):(Op.equalIn (d+1) t (.func f x y) .nilFunc).run P w=.ok false w:=by simp[Op.equalIn,run_underlying e]
def Em (d:Nat) {t:TypeId} {a b:Array TypeId} {c:Bool} (e:P.underlying t=some (.func a b c)) (w:World):(Op.equalIn (d+1) t .nilFunc .nilFunc).run P w=.ok true w:=by simp[Op.equalIn,run_underlying e]
def binOp_eql (op:BinOp) (t:TypeId) (x y:Value) (w:World) {b:Bool} (c:(Op.equal t x y).run P w=.ok b w) (a:ahM x y=true) :
  (op=.eql->(binOp op t x y).run P w=.ok (.bool b) w)/\(op=.neq->(binOp op t x y).run P w=.ok (.bool !b) w):=by
 unfold ahM at a;constructor<;>rintro rfl<;>(split at a<;>first|(cases a;done)|simp[binOp, *])
def ajY {op:BinOp} {t N:TypeId} {y:Operand} {r:AV} (D:o.op=.binOp op t x y N) (d:ak0 P op t (M7 x) (M7 y) (eF f x) (eF f y)=some r):dX P o f h ⟨r,[],[]⟩:=by
 have fin:∀(b:Bool) (z:(op=.eql/\r=.c (.bool b))\/(op=.neq/\r=.c (.bool !b))),
   (∀m A w a,nJ m A w f a->(eqGuard op t x y (a.eval x) (a.eval y)).run P w=.ok () w/\(Op.equal t (a.eval x) (a.eval y)).run P w=.ok b w/\ahM (a.eval x) (a.eval y)=true)->dX P o f h ⟨r,[],[]⟩:=by
  intro b z J;refine cK fun m A w a H F=>?_
  obtain⟨h1,Y,X⟩:=J m A w a F;obtain⟨q1,q2⟩:=binOp_eql op t _ _ w Y X;rcases z with⟨e,rfl⟩|⟨e,rfl⟩
  .exact⟨_,by simp_all[execOp],.pure _ _ (.c _)⟩
  .exact⟨_,by simp_all[execOp],.pure _ _ (.c _)⟩
 have s:∀(b:Bool),E5 op b=some r->(op=.eql/\r=.c (.bool b))\/(op=.neq/\r=.c (.bool !b)):=fun b h=>aeR h;unfold ak0 at d;split at d
 .rename_i p g
  split at d
  .rename_i q k
   split at d
   .rename_i B
    split at d
    .cases d;exact adg (op:=.eql) D g k B (.inl rfl)
    .cases d;exact adg (op:=.neq) D g k B (.inr rfl)
    simp_all
   simp_all
  simp_all
 .rename_i g
  split at d
  .rename_i k
   split at d
   .rename_i z
    obtain⟨ms,B⟩:=adA z.2;refine fin true (s true d) fun m A w a F=>?_
    have n:=F.eval x;rw[g]at n;have l:=F.eval y;rw[k]at l;rw[n.fK,l.fK];refine⟨?_,Eo 9999 B w,rfl⟩;have K:=z.1;rcases s true d with⟨e,-⟩|⟨e,-⟩<;>subst e<;>cases x<;>cases y<;>first|(simp[eqGuard];done)|(simp[M7]at K;done)
   simp_all
  simp_all
 .rename_i O v g
  split at d
  .rename_i k
   split at d
   .rename_i z
    obtain⟨ms,B⟩:=adA z;refine fin false (s false d) fun m A w a F=>?_
    have n:=F.eval x;rw[g]at n;have l:=F.eval y;rw[k]at l;obtain⟨u,C,-⟩:=n.adq;rw[C,l.fK];refine⟨?_,En 9999 B O u w,rfl⟩;rcases s false d with⟨e,-⟩|⟨e,-⟩<;>subst e<;>simp[eqGuard]
   simp_all
  simp_all
 .rename_i fn M L g
  split at d
  .rename_i k
   split at d
   .rename_i z
    obtain⟨a0,b0,Z,B⟩:=adv z;refine fin false (s false d) fun m A w a F=>?_
    have n:=F.eval x;rw[g]at n;have l:=F.eval y;rw[k]at l;obtain⟨vs,G,C⟩:=n.ann;rw[C,l.fK];refine⟨?_,El 9999 B fn vs G w,rfl⟩;rcases s false d with⟨e,-⟩|⟨e,-⟩<;>subst e<;>simp[eqGuard]
   simp_all
  simp_all
 .rename_i g
  split at d
  .rename_i k
   split at d
   .rename_i z
    obtain⟨a0,b0,Z,B⟩:=adv z;refine fin true (s true d) fun m A w a F=>?_
    have n:=F.eval x;rw[g]at n;have l:=F.eval y;rw[k]at l;rw[n.fK,l.fK];refine⟨?_,Em 9999 B w,rfl⟩;rcases s true d with⟨e,-⟩|⟨e,-⟩<;>subst e<;>simp[eqGuard]
   simp_all
  simp_all
 .rename_i M g
  split at d
  .rename_i L k
   split at d
   .rename_i U
    split at d
    .rename_i b V
     refine fin b (s b d) fun m A w a F=>?_;have n:=F.eval x;rw[g]at n;have l:=F.eval y;rw[k]at l;obtain⟨vs,Q,cx⟩:=n.pY;obtain⟨G,C,cy⟩:=l.pY;rw[Q]at n |-;rw[C]at l |-;refine⟨run_eqGuard_agg w op t x y vs G U,?_,rfl⟩;exact akv V n l
    simp_all
   simp_all
  simp_all
 .rename_i i g
  split at d
  .rename_i j k
   split at d
   .rename_i z
    obtain⟨rfl,J⟩:=z;exact ahe D g k J (s true d)
   simp_all
  simp_all
 .rename_i u T S R g
  split at d
  .rename_i v k
   split at d
   .rename_i r' W
    cases d;exact am4 D g k W
   simp_all
  .split at d
   .rename_i p q E I
    rw[<-g]at E;exact ahc D E I d
   simp_all
 .split at d
  .rename_i p q E I
   exact ahc D E I d
  simp_all
end
end
end Mc
namespace Mc
variable {m:Nat->St} {A:Nat->Prop} {w':World} {P:Program} {K:Act->World->Prop} {id:Nat} {x:AV} {fn:Func} {k:FuncId}
def uI (w:World) (a b:Act):Prop:=∀d∈b.defers,d∈a.defers\/∃D,d.target=.collected D/\w.heap.size<=D
def uI.same {w:World} {a b:Act} (h:b.defers=a.defers):uI w a b:=fun d c=>.inl (h▸c)
def uI.refl (w:World) (a:Act):uI w a a:=.same rfl
def put_defers (a:Act) (d:Option Tmp) (v:Value):(a.put d v).defers=a.defers:=by cases d<;>rfl
def uI.put (w:World) (a:Act) (d:Option Tmp) (v:Value):uI w a (a.put d v):=.same (by cases d<;>rfl)
def uI.trans {w b:World} {a e a2:Act} (h:uI w a e) (hs:w.heap.size<=b.heap.size) (k:uI b e a2):uI w a a2:=by
 intro d f;rcases k d f with c|⟨D,c,g⟩
 .exact h d c
 grind
def acq [Bk] [Ev] (Q:Exit->List AV->AH->Prop) (m:Nat->St) (A:Nat->Prop) (w:World) (a:Act):Exit->Act->World->Prop:=fun e d w'=>∃b c h',Q e c h'/\dU b A h' w'/\nJ b A w' c d/\Ext m w b w'/\uI w a d
def acq.back [Bk] [Ev] {Q:Exit->List AV->AH->Prop} {c:Nat->St} {w b:World} {a d:Act} {e:Exit} {f:Act} (E:Ext m w c b) (N:uI w a d) (h:acq Q c A b d e f w'):acq Q m A w a e f w':=by
 obtain⟨g,o,h',n,l,k,j,i⟩:=h;exact⟨g,o,h',n,l,k,E.trans j,N.trans E.size i⟩
def fw (r:Option Nat):Fence:={ Fence.wide with round:=r }
def Nh {r:Option Nat} {n:Nat} {f:FuncId} {args:Array Value} {w:World} {R:Ending->World->Prop}:CallsIn (fw r) n P f args w R↔Calls P f args w R:=callsIn_wide (n:=n)
def Ar {a:Act} {o:Oper} {w:World} {x:Next} (h:(execOp a.eval o).run P w=.ok x w') (i:∀d,x≠.defer d):∀c,o.op≠.defer c:=by
 intro c g;simp only[execOp,g,Sem.run_bind]at h;cases f:(resolve a.eval c o.type).run P w with
 |ok d b =>
  rw[f]at h;simp at h
  grind
 |halt e b=>simp_all
def Fx {r:Option Nat} {n:Nat} {a:Act} {o:Oper} {w:World} {v:Value} {Q:Exit->Act->World->Prop} (h:(execOp a.eval o).run P w=.ok (.value v) w') (b:K (a.put o.dst v) w'):o.wpIn (fw r) n P a w K Q:=by
 refine⟨fun _ _=>trivial,?_⟩;rw[Oper.semAt_eq _ _ _ (Ar h (fun d e=>by cases e)),h];exact b
def PR {r:Option Nat} {n:Nat} {a:Act} {o:Oper} {w:World} {Q:Exit->Act->World->Prop} (h:(execOp a.eval o).run P w=.ok .skip w') (b:K (a.put o.dst Go.undef) w'):o.wpIn (fw r) n P a w K Q:=by
 refine⟨fun _ _=>trivial,?_⟩;rw[Oper.semAt_eq _ _ _ (Ar h (fun d e=>by cases e)),h];exact b
def LY {r:Option Nat} {n:Nat} {a:Act} {o:Oper} {w:World} {f:FuncId} {args:Array Value} {Q:Exit->Act->World->Prop} (h:(execOp a.eval o).run P w=.ok (.enter f args) w')
  (c:Calls P f args w' fun e b=>∃v,e=.returned v/\K (a.put o.dst v) b):o.wpIn (fw r) n P a w K Q:=by
 refine⟨fun _ _=>trivial,?_⟩;rw[Oper.semAt_eq _ _ _ (Ar h (fun d e=>by cases e)),h];refine⟨fun h=>(by cases h),Nh.2 (c.mono ?_)⟩
 simp_all
def aat {r:Option Nat} {n:Nat} {a:Act} {o:Oper} {w:World} {l:Nat} {f:FuncId} {tmps:Array Value} {b body:Code} {Q:Exit->Act->World->Prop} (h:(execOp a.eval o).run P w=.ok (.round l f tmps b body) w')
  (g:RoundIn (fw r) (n-1) P l f tmps b body w' fun e c=>∃v,e=.returned v/\K (a.put o.dst v) c):o.wpIn (fw r) n P a w K Q:=by
 refine⟨fun _ _=>trivial,?_⟩;rw[Oper.semAt_eq _ _ _ (Ar h (fun d e=>by cases e)),h];refine⟨fun h=>(by cases h),g.mono ?_⟩
 simp_all
def kT [Bk] [Ev] (P:Program) (tp:Bool) (c:Code) (Q:Exit->List AV->AH->Prop) (f:List AV) (h:AH):Prop :=
 ∀r m A w a,(tp=true->r=none)->dU m A h w->nJ m A w f a->c.wpIn (fw r) 9 P (acq Q m A w a) a w
def ahH {p:Nat->Prop} (h:∃n,p n):∃n,p n/\∀k,p k->n<=k:=by
 obtain⟨n,a⟩:=h;induction n using Nat.strongRecOn<;>grind
def T4 {α:Type} (J:Nat->α->Prop):∃a:α->Nat,∀x,(∃n,J n x)->J (a x) x/\∀n,J n x->a x<=n:=by
 classical
 refine⟨fun x=>if h:∃n,J n x then Classical.choose (ahH h)else 0,fun x b=>?_⟩
 grind
section
variable {P:Program} {Q:Exit->List AV->AH->Prop} {f:List AV} {h:AH} {tp:Bool}
def kT.skip [Bk] [Ev] (k:Q .normal f h):kT P tp .skip Q f h:=fun r m A w a b H F=>wpIn_skip ⟨m,f,h,k,H,F,Ext.refl _ _,uI.refl _ _⟩
def kT.exit [Bk] [Ev] (k:Q (.exit id) f h):kT P tp (.exit id) Q f h:=fun r m A w a b H F=>wpIn_exit ⟨m,f,h,k,H,F,Ext.refl _ _,uI.refl _ _⟩
def kT.ret [Bk] [Ev] (k:Q .ret f h):kT P tp .ret Q f h:=fun r m A w a b H F=>wpIn_ret ⟨m,f,h,k,H,F,Ext.refl _ _,uI.refl _ _⟩
def als (N:List AV->AH->Prop) (Q:Exit->List AV->AH->Prop):Exit->List AV->AH->Prop
 | .normal,f,h=>N f h
 |e,f,h=>Q e f h
theorem kT.seq [Bk] [Ev] {x y:Code} (k:kT P tp x (als (kT P tp y Q) Q) f h):kT P tp (.seq x y) Q f h:=by
 intro r m A w a c H F;refine wpIn_seq (wpIn_mono (k r m A w a c H F) ?_);rintro e s l ⟨b,p,o,q,g,i,j,d⟩;cases e with
 |normal=>exact wpIn_mono (q r b A l s c g i) fun e a w n=>n.back j d
 |_=>exact⟨b,p,o,q,g,i,j,d⟩
section
variable [Bk] [Ev]
def kT.cond {c:Operand} {x y:Code} {b:Bool} (e:eF f c=.c (.bool b)) (k:kT P tp (if b then x else y) Q f h):kT P tp (.cond c x y) Q f h:=by
 intro r m A w a d H F;have:=F.eval c;rw[e]at this;exact wpIn_cond this.bool (k r m A w a d H F)
def Nb (id:Nat) (Q:Exit->List AV->AH->Prop):Exit->List AV->AH->Prop
 | .exit a,f,h=>if a=id then Q .normal f h else Q (.exit a) f h
 |e,f,h=>Q e f h
def kT.block {c:Code} (k:kT P tp c (Nb id Q) f h):kT P tp (.block id c) Q f h:=by
 intro r m A w a o H F;refine wpIn_block (wpIn_mono (k r m A w a o H F) ?_);rintro e t s ⟨b,g,d,q,j,l,n,i⟩;cases e with
 |exit p =>
  simp only[Nb]at q;simp only[Exit.inBlock];split
  .rename_i e;rw[if_pos e]at q;exact⟨b,g,d,q,j,l,n,i⟩
  .rename_i e;rw[if_neg e]at q;exact⟨b,g,d,q,j,l,n,i⟩
 |_=>exact⟨b,g,d,q,j,l,n,i⟩
def nU {P:Program} {b:Frame} {a:Act} {k:List Item} {cs:List Frame} {w:World} {c:Code}:step P (lone (b.atR a (.code (.scope c)::k)) cs w)=.next (lone (b.atR a (.code c::.inScope c::k)) cs w) :=
 step_lone_go (by simp[stepG,stepG.exec,Frame.atR])
def N8 {P:Program} {b:Frame} {a:Act} {k:List Item} {cs:List Frame} {w:World} {c:Code}:step P (lone (b.atR a (.inScope c::k)) cs w)=.next (lone (b.atR a k) cs w) :=
 step_lone_go (by simp[stepG,stepG.exec,Frame.atR])
def LX {P:Program} {F:Fence} {n:Nat} {Q:Exit->Act->World->Prop} {a:Act} {w:World} {c:Code} (h:c.wpIn F n P (fun e a w=>(∀l,e≠.goto l)/\Q e a w) a w):(Code.scope c).wpIn F n P Q a w:=by
 intro b k cs q p o;have i:(lone (b.atR a (.code (.scope c)::k)) cs w).fenced P F:=fenced_calm p o rfl;obtain⟨e,g,f,⟨x,j⟩,d⟩:=h b (.inScope c::k) cs q p o;cases e with
 |normal=>exact⟨.normal,g,f,j,.head i nU (StepsIn.trans d (.one (fenced_calm p o rfl) N8))⟩
 |exit id =>
  have v:exitTo id (.inScope c::k)=exitTo id k:=by simp[exitTo]
  exact⟨.exit id,g,f,j,fun k' s=>.head i nU (d.1 k' (by simp_all)),
   fun r s=>let ⟨m,u,t⟩:=d.2 r (by simp_all);⟨m,u,.head i nU t⟩⟩
 |goto l=>simp_all
 |ret=>exact⟨_,g,f,j,.of_steps (.one i nU) d⟩
 |panic ch=>exact⟨_,g,f,j,.of_steps (.one i nU) d⟩
 |outgrown=>exact⟨_,g,f,j,.of_steps (.one i nU) d⟩
def kT.scope {c:Code} (k:kT P tp c (fun e f h=>(∀l,e≠.goto l)/\Q e f h) f h):kT P tp (.scope c) Q f h:=by
 intro r m A w a d H F;refine LX (wpIn_mono (k r m A w a d H F) ?_);rintro e t s ⟨b,i,g,⟨q0,q⟩,n,o,p,j⟩;exact⟨q0,b,i,g,q,n,o,p,j⟩
def kT.label {l:Nat} (k:Q .normal f h):kT P tp (.label l) Q f h:=fun r m A w a b H F=>wpIn_label ⟨m,f,h,k,H,F,Ext.refl _ _,uI.refl _ _⟩
def kT.loop {c:Code} (I:Nat->List AV->AH->Prop) (n:Nat) (O:I n f h) (round:∀n f h,I n f h->kT P tp c (als (fun R h'=>∃n',n'<n/\I n' R h') Q) f h):kT P tp (.loop c) Q f h:=by
 intro r m A w a M H F;let J:Nat->Act->World->Prop:=fun n b w'=>∃d i g,I n i g/\dU d A g w'/\nJ d A w' i b/\Ext m w d w'/\uI w a b
 obtain⟨L,k⟩:=T4 (fun n (p:Act×World)=>J n p.1 p.2);refine wpIn_loop (fun b w'=>∃n,J n b w') (fun b w'=>L (b,w')) ⟨n,m,f,h,O,H,F,Ext.refl _ _,uI.refl _ _⟩ ?_;intro B s v;obtain⟨d,i,g,N,S,T,j,D⟩:=(k (B,s) v).1;refine wpIn_mono (round _ i g N r d A s B M S T) ?_;rintro e a2 o ⟨t,z,y,q,E,G,K,C⟩;cases e with
 |normal =>
  obtain⟨n',u,x⟩:=q;have l:J n' a2 o:=⟨t,z,y,x,E,G,j.trans K,D.trans j.size C⟩;exact⟨⟨n',l⟩,a4k ((k (a2,o) ⟨n',l⟩).2 n' l) u⟩
 |_=>exact⟨t,z,y,q,E,G,j.trans K,D.trans j.size C⟩
def nS (P:Program) (o:Oper) (f:List AV) (h:AH) (R:AV->AH->Prop):Prop :=
 ∀r m A w a,dU m A h w->nJ m A w f a->∀(K:Act->World->Prop) (Q:Exit->Act->World->Prop),(∀v h' x w' b,R v h'->dU b A h' w'->Rd b A w' v x->Ext m w b w'->K (a.put o.dst x) w')->o.wpIn (fw r) 9 P a w K Q
end
def dX.step [Bk] [Ev] {o:Oper} {r:AR} (k:dX P o f h r):nS P o f h (fun v h'=>v=r.v/\h'=fZ h r.bZ):=by
 intro r' m A w a H F K Q d;obtain⟨x,w',c,b,i,g,e⟩:=k m A w a H F;rcases b with b|⟨b,rfl⟩
 .exact Fx b (d _ _ x w' c ⟨rfl,rfl⟩ i g e)
 .exact PR b (d _ _ _ w' c ⟨rfl,rfl⟩ i g e)
def nS.mono [Bk] [Ev] {o:Oper} {R b:AV->AH->Prop} (k:nS P o f h R) (d:∀v h,R v h->b v h):nS P o f h b :=
 fun r m A w a H F K Q g=>k r m A w a H F K Q fun v h' x w' c e=>g v h' x w' c (d _ _ e)
def mD (ops:Array Oper) (o:Oper) (f:List AV):Option Bool :=
 match o.guard with
 |none=>some true
 |some (j,a)=>match (ops[j]?).bind (·.dst)with
  |none=>some false
  |some d=>match f[d]? with
   |some (.c (.bool b))=>some (b==a)
   |some .undef=>some false
   |none=>some false
   |_=>none
theorem Ax [Bk] [Ev] {w:World} {a:Act} {ops:Array Oper} {o:Oper} {b:Bool} (F:nJ m A w f a) (c:mD ops o f=some b):Region.wanted o (yielded ops a.tmps)=b:=by
 unfold mD at c;unfold Region.wanted;cases l:o.guard with
 |none=>simp_all
 |some p =>
  obtain⟨j,k⟩:=p;simp only[l]at c |-;unfold yielded;cases n:(ops[j]?).bind (·.dst)with
  |none=>simp_all
  |some d =>
   simp only[n,a1p]at c |-;have s:=F.size;split at c
   .rename_i q g
    cases c;have e:=F.rd d _ g;have i:d<a.tmps.size:=by grind
    have r:=e.fK;simp_all
   .rename_i g
    cases c;have e:=F.rd d _ g;have i:d<a.tmps.size:=by grind
    have r:a.tmps.getD d Go.undef=Go.undef:=by
     generalize a.tmps.getD d Go.undef=u at e;cases e with|pure _ _ h=>cases h;rfl
    have:a.tmps[d]?=some Go.undef:=(by simp_all);rw[this];rfl
   .simp_all
   simp_all
section
variable [Bk] [Ev]
def jZ (P:Program) (ops:Array Oper) (Q:Exit->List AV->AH->Prop) (l:List Nat) (f:List AV) (h:AH):Prop :=
 ∀r m A w a,dU m A h w->nJ m A w f a->wpOpsIn (fw r) 9 P ops (acq Q m A w a) l a w
def jZ.nil [Bk] [Ev] {ops:Array Oper} (k:Q .normal f h):jZ P ops Q [] f h:=fun r m A w a H F=>⟨m,f,h,k,H,F,Ext.refl _ _,uI.refl _ _⟩
def Oper.aau {r:Option Nat} {n:Nat} {o:Oper} {a:Act} {w:World} {g:Act->World->Prop} {Q Q':Exit->Act->World->Prop} (f:∀a w,K a w->g a w) (j:∀e a w,Q e a w->Q' e a w) (b:o.wpIn (fw r) n P a w K Q):o.wpIn (fw r) n P a w g Q':=by
 unfold Oper.wpIn at *;refine⟨b.1,?_⟩;have b:=b.2;have i:LetsOut Q->LetsOut Q':=fun⟨a0,w0,k⟩=>⟨a0,w0,j _ _ _ k⟩
 generalize (o.semAt (fw r).round a.eval).run P w=x at *;cases x with
 |ok n w' =>
  cases n<;>simp only[Oper.uponIn]at b |- <;>
   first
    |exact f _ _ b
    |exact b.elim
    |exact⟨b.1,CallsIn.mono b.2 (fun e d c=>by grind)⟩
    |exact⟨b.1,RowsIn.mono b.2 (fun _ _ c=>f _ _ c)⟩
    |exact⟨b.1,RoundIn.mono b.2 (fun e d c=>by grind)⟩
 |halt h w'=>cases h<;>simp only[Oper.uponIn]at b |-<;>first|simp_all|exact b.elim
def oE {r:Option Nat} {n:Nat} {ops:Array Oper} {Q Q':Exit->Act->World->Prop} (b:∀e a w,Q e a w->Q' e a w):∀(l:List Nat) (a:Act) (w:World),wpOpsIn (fw r) n P ops Q l a w->wpOpsIn (fw r) n P ops Q' l a w
 |[],a,w,h=>b _ _ _ h
 |i::l,a,w,h=>by
  simp only[wpOpsIn]at h |-;split at h
  .exact oE b l _ _ h
  .rename_i o d
   split at h
   .rename_i c
    rw[if_pos c];exact Oper.aau (fun a w h=>oE b l a w h) b h
   .rename_i c
    rw[if_neg c];exact⟨h.1,oE b l _ _ h.2⟩
def jZ.cons [Bk] [Ev] {ops:Array Oper} {i:Nat} {l:List Nat} {o:Oper} {R:AV->AH->Prop} (d:ops[i]?=some o) (j:mD ops o f=some true) (hs:nS P o f h R) (k:∀v h',R v h'->jZ P ops Q l (qS f o.dst v) h'):jZ P ops Q (i::l) f h:=by
 intro r m A w a H F;simp only[wpOpsIn,d];rw[if_pos (Ax F j)];refine hs r m A w a H F _ _ ?_;intro v h' x w' b n p c E;exact oE (fun e s q g=>g.back E (uI.put w a o.dst x)) l _ _ (k v h' n r b A w' _ p (F.put E c o.dst))
def jZ.pass {ops:Array Oper} {i:Nat} {l:List Nat} {o:Oper} (b:ops[i]?=some o) (g:mD ops o f=some false) (k:jZ P ops Q l (qS f o.dst .undef) h):jZ P ops Q (i::l) f h:=by
 intro r m A w a H F;simp only[wpOpsIn,b];rw[if_neg (by grind[Ax])];exact⟨fun _ _=>trivial,oE (fun e j d c=>c.back (Ext.refl _ _) (uI.put w a o.dst Go.undef)) l _ _ (k r m A w _ H (F.put (Ext.refl _ _) (.pure _ _ .undef) o.dst))⟩
def kT.region {ops:Array Oper} (k:jZ P ops Q (List.range ops.size) f h):kT P tp (.region id ops false) Q f h :=
 fun r m A w a _ H F=>wpIn_region (k r m A w a H F)
def jA (P:Program) (F:FuncId) (args:List AV) (h:AH) (R:AV->AH->Prop):Prop :=
 ∀m A w vs,dU m A h w->vs.size=args.length->(∀(i:Nat) (x:AV),args[i]?=some x->Rd m A w x (vs.getD i Go.undef)) ->
  Calls P F vs w fun e w'=>∃v u a h',e=.returned v/\R u h'/\dU a A h' w'/\Rd a A w' u v/\Ext m w a w'
def adN (P:Program) (a:TypeId) (h:AH):AV->Option AV
 | .ptr b id i off=>match h id with
  | .cells _ s bG=>if s=b then(bG[i]?).bind fun e=>mM P a e off else none
  |_=>none
 |_=>none
def AN (P:Program) (f:List AV) (h:AH):ResultVar->Option AV
 | .tmp t=>some (f.getD t .undef)
 | .cell t a=>adN P a h (f.getD t .undef)
def Ee:List AV->AV
 |[v]=>v
 |vs=>.bE vs
def fF (P:Program) (fn:Func) (f:List AV) (h:AH):Option AV :=
 (fn.results.toList.mapM (AN P f h)).map Ee
def agf (tmps:Array Value):ResultVar->Sem Value
 | .tmp t=>pure (tmps.getD t Go.undef)
 | .cell a t=>do loadVar t (<-asAddr (tmps.getD a Go.undef))
def aaQ (fn:Func) (tmps:Array Value):results fn tmps=(do let vs <-fn.results.mapM (agf tmps);pure (if h:vs.size=1 then vs[0]else .tuple vs)):=by
 unfold results;congr 1
def ajD {w:World} {a:Act} (H:dU m A h w) (F:nJ m A w f a) {r:ResultVar} (c:AN P f h r=some x) :
  ∃v,(agf a.tmps r).run P w=.ok v w/\Rd m A w x v:=by
 cases r with
 |tmp t =>
  simp only[AN,a0i]at c;subst c;exact⟨a.tmps.getD t Go.undef,rfl,F.eval (.tmp t)⟩
 |cell t D =>
  simp only[AN]at c;have d:=F.eval (.tmp t);simp only[eF,Act.eval]at d;unfold adN at c;split at c
  .rename_i E id i off p
   rw[p]at d;split at c
   .rename_i T s bG o
    split at c
    .rename_i hs
     subst hs;cases g:bG[i]? with
     |none=>simp_all
     |some e =>
      simp only[g,a1p]at c;obtain⟨b,cs,B,K,J,z,q⟩:=H.block o g;have I:=d.Iv B;obtain⟨u,r1,r2⟩:=xZ (P:=P) (m:=m) (A:=A) (w:=w) (b:=b) (o0:=i*s) (vs:=fun j=>cs.getD (i*s+j) Go.undef) c (by
       intro j y G;have k:iE bG i j=some y:=by simp_all[iE]
       obtain⟨n,l⟩:=q i j y k;refine⟨n,?_,l⟩;have:=(kG k z).2.2;have C:i*s+j<cs.size:=by omega
       simp_all[World.cell?])
      simp_all[agf,asAddr]
    simp_all
   simp_all
  simp_all
def IN {w:World} {a:Act} (H:dU m A h w) (F:nJ m A w f a) (g:fF P fn f h=some x):∃v,(results fn a.tmps).run P w=.ok v w/\Rd m A w x v:=by
 have key:∀(l:List ResultVar) (b:List AV),l.mapM (AN P f h)=some b->∃vs:List Value,(l.mapM (agf a.tmps)).run P w=.ok vs w/\vs.length=b.length/\∀(i:Nat) (x:AV),b[i]?=some x->Rd m A w x (vs.getD i Go.undef):=by
  intro l;induction l with
  |nil=>simp_all
  |cons r l q =>
   intro b e;rw[List.mapM_cons]at e;cases c:AN P f h r with
   |none=>simp_all
   |some y =>
    cases o:l.mapM (AN P f h)with
    |none=>simp_all
    |some p =>
     simp[c,o]at e;subst e;obtain⟨v,r1,r2⟩:=ajD H F c;obtain⟨vs,k,d,j⟩:=q p o;refine⟨v::vs,?_,by simp[d],?_⟩
     .simp_all
     grind
 unfold fF at g;cases n:fn.results.toList.mapM (AN P f h)with
 |none=>simp_all
 |some b =>
  simp only[n,a0s,a0i]at g;obtain⟨vs,k,d,j⟩:=key _ _ n;have s:(fn.results.mapM (agf a.tmps)).run P w=.ok vs.toArray w:=by
   rw[<-Array.toArray_toList (xs:=fn.results),List.mapM_toArray];simp[k]
  refine⟨if h:vs.toArray.size=1 then vs.toArray[0]else .tuple vs.toArray,?_,?_⟩
  .simp_all[aaQ]
  .subst g
   by_cases c:b.length=1
   .obtain⟨v,rfl⟩:=a3y.1 c
    obtain⟨u,rfl⟩:=a3y.1 (d.trans c);simpa[Ee]using j 0 v rfl
   .have t:vs.length≠1:=by omega
    rw[dif_neg (by omega)]
    have:Ee b=.bE b:=by
     match b,c with
     |[],_=>rfl
     |[v],h=>simp at h
     |_::_::_,_=>rfl
    rw[this];exact .bE _ _ (by simp[d]) (fun i x z=>by simp_all)
def aoL (P:Program) (fn:Func) (R:AV->AH->Prop):Exit->List AV->AH->Prop
 | .normal,f,h | .ret,f,h=>∃x,fF P fn f h=some x/\R x h
 |_,_,_=>False
def eC.cells {w:World} (hs:w.heap.size<=w'.heap.size) (D:∀b,b<w.heap.size->¬ A b->∀o,w'.cell? ⟨b,o,none⟩=w.cell? ⟨b,o,none⟩) {v:Value} (h:eC A w x v):eC A w' x v:=by
 induction h with
 |c v=>exact .c v
 |undef=>exact .undef
 |emp a=>exact .emp a
 |agg cs vs z g _ d=>exact .agg cs vs z g d
 |bE cs vs z _ d=>exact .bE cs vs z d
 |lit l bG b off cap vs k m q y g u _ d =>
  exact .lit l bG b off cap vs k (a0x m hs) q y g (fun i j x s=>(D b m k _).trans (u i j x s)) d
 |nQ l a cap k=>exact .nQ l a cap k
 |iY l bG J I b off vs k m y g u _ d =>
  exact .iY l bG J I b off vs k (a0x m hs) y g (fun i j x s=>(D b m k _).trans (u i j x s)) d
 |fn f r G vs H z L _ _ F E=>exact .fn f r G vs H z L F E
 |qZ t x v _ d=>exact .qZ t x v d
 |e p=>exact .e p
 |row n r b off len cap C q k m u=>exact .row n r b off len cap C q k (a0x m hs) fun j p s M=>(D b m k _).trans (u j p s M)
 |Tf n r a cap C=>exact .Tf n r a cap C
 |o i=>exact .o i
 |any v g=>exact .any v g
 |seq l base bZ tail v B g _ d=>exact .seq l base bZ tail v B g d
 |vH l base bZ tail p off v B g K _ d=>exact .vH l base bZ tail p off v B g K d
 |pP v=>exact .pP v
def shut (w:World) (D:Nat):World:=w.putObj D (.deferred none)
def OO {w:World} {D:Nat} {ds:Option (List Deferred)} (c:w.heap[D]?=some (.deferred ds)) (b o:Nat):(shut w D).cell? ⟨b,o,none⟩=w.cell? ⟨b,o,none⟩:=by
 by_cases e:b=D
 .subst e
  have:=World.putObj_heap_same (w:=w) (o:=.deferred none) (a2p.1 c).1
  simp_all[World.cell?,shut]
 .exact World.cell?_of_block (a:=⟨b,o,none⟩) (World.putObj_heap_other e)
def Rd.shut {m:Nat->St} {A:Nat->Prop} {w:World} {D:Nat} {ds:Option (List Deferred)} (C:w.heap[D]?=some (.deferred ds)) (G:∀id,m id≠.at D) {x:AV} {v:Value} (h:Rd m A w x v):Rd m A (shut w D) x v:=by
 have F:(Mc.shut w D).heap.size=w.heap.size:=World.putObj_size
 induction h with
 |pure x v h=>exact .pure x v (h.cells (by omega) fun b _ _ o=>OO C b o)
 |agg cs vs g E _ j=>exact .agg cs vs g E j
 |bE cs vs g _ j=>exact .bE cs vs g j
 |own T d id i n b cap c q e l k =>
  refine .own T d id i n b cap c (by omega) e l (k.trans ?_);have:(Mc.shut w D).heap[b]?=w.heap[b]?:=World.putObj_heap_other (by grind)
  simp_all[gW]
 |vN T d id i a c=>exact .vN T d id i a c
 |wK T d id i n a n' cap c=>exact .wK T d id i n a n' cap c
 |ptr d id i off b c q=>exact .ptr d id i off b c (by omega)
 |Oc d id i off a c=>exact .Oc d id i off a c
 |fn f y u vs z g B _ _ s r=>exact .fn f y u vs z g B s r
 |qZ t x v _ j=>exact .qZ t x v j
 |yld id b c=>exact .yld id b c
 |aar id b c=>exact .aar id b c
 |mpv id b c=>exact .mpv id b c
 |abv id b c=>exact .abv id b c
 |view T d id i n b cap c=>exact .view T d id i n b cap c
 |Ec T d id i n a cap c=>exact .Ec T d id i n a cap c
 |dD T d id n b len cap c q g e l k =>
  refine .dD T d id n b len cap c (by omega) g e l (k.trans ?_);have:(Mc.shut w D).heap[b]?=w.heap[b]?:=World.putObj_heap_other (by grind)
  simp_all[gW]
 |uP T d id n a c e=>exact .uP T d id n a c e
 |uQ T d id n a n' cap c=>exact .uQ T d id n a n' cap c
 |nP d id p off b c q=>exact .nP d id p off b c (by omega)
 |A6 d id p off a c=>exact .A6 d id p off a c
def dU.shut {m:Nat->St} {A:Nat->Prop} {w:World} {D:Nat} {ds:Option (List Deferred)} (H:dU m A h w) (l:w.heap[D]?=some (.deferred ds)) (u:∀id,m id≠.at D):dU m A h (shut w D):=by
 have E:(Mc.shut w D).heap.size=w.heap.size:=World.putObj_size;have o:∀b,b≠D->(Mc.shut w D).heap[b]?=w.heap[b]?:=fun b e=>World.putObj_heap_other e;refine⟨H.out,fun b d=>by rw[E];exact H.old b d,H.no,H.dead,?_,H.inj,?_,?_,H.scs⟩
 .intro id T G bG y
  obtain C|⟨b,cs,g,a,z,Q,F⟩:=H.wV id T G bG y
  .simp_all
  .exact .inr ⟨b,cs,g,(o b (by grind)).trans a,z,Q,fun i j x c=>⟨(F i j x c).1,(F i j x c).2.shut l u⟩⟩
 .intro t O
  obtain⟨g,a,z⟩:=H.mT t O;exact⟨g,by omega,fun j v C=>(OO l t.1 j).trans (z j v C)⟩
 .intro id B y P
  obtain⟨b,g,a⟩:=H.others id B y P;have d:=o b (by grind);refine⟨b,g,?_⟩;cases B with
  |lp st f ps as bd =>
   obtain⟨L,r,q,p,N,M,K,J,I⟩:=a;exact⟨L,d.trans r,q,p,N,M,K,J,fun i x c=>(I i x c).shut l u⟩
  |it s V=>exact d.trans a
  |mp es =>
   obtain⟨ms,n,r,q,p⟩:=a;refine⟨ms,n,d.trans r,q,fun i k x c=>?_⟩
   obtain⟨e,U,S,R⟩:=p i k x c;exact⟨e,U,S,R.shut l u⟩
  |_=>exact a
def Ext.shut {m a:Nat->St} {w w':World} {D:Nat} (E:Ext m w a w') (k:w.heap.size<=D) (j:∀id,a id≠.at D):Ext m w a (shut w' D):=by
 have c:(Mc.shut w' D).heap.size=w'.heap.size:=World.putObj_size;have d:∀b,b≠D->(Mc.shut w' D).heap[b]?=w'.heap[b]?:=fun b e=>World.putObj_heap_other e;refine⟨E.os,E.tape,E.output,by rw[c];exact E.size,E.at_,E.dead,E.uK,?_,?_⟩
 .intro b i h
  obtain⟨g,f⟩:=E.un b i h;grind
 .intro id b g f
  have:=d b (by grind);have:=E.rows id b g f
  grind[gW]
def Eh (w:World):List Nat->World
 |[]=>w
 |D::a=>Eh (shut w D) a
def Mm {m m0:Nat->St} {A:Nat->Prop} {w0:World}:∀(a:List Nat) (w:World),dU m A h w->a.Nodup->(∀D∈a,w.heap[D]?=some (.deferred (some []))/\∀id,m id≠.at D)->(∀D∈a,w0.heap.size<=D)->Ext m0 w0 m w ->
  dU m A h (Eh w a)/\Ext m0 w0 m (Eh w a)/\∀(x:AV) (v:Value),Rd m A w x v->Rd m A (Eh w a) x v
 |[],w,H,_,_,_,E=>⟨H,E,fun _ _ h=>h⟩
 |D::a,w,H,b,g,hs,E=>by
  obtain⟨f,c⟩:=g D a1b;rw[a3z]at b;obtain⟨r1,r2,i⟩:=Mm a (shut w D) (H.shut f c) b.2 (fun e d=>by
   obtain⟨k,j⟩:=g e (a06 _ d);exact⟨(World.putObj_heap_other (by grind)).trans k,j⟩) (fun e d=>hs e (a06 _ d)) (E.shut (hs D a1b) c)
  exact⟨r1,r2,fun x v h=>i x v (h.shut f c)⟩
def yA {F:Fence} {n:Nat} {fn:Func} {tmps:Array Value} {R:Ending->World->Prop}:∀(a:List Nat) (w:World),a.Nodup->(∀D∈a,w.heap[D]?=some (.deferred (some [])))->(∃v,(results fn tmps).run P (Eh w a)=.ok v (Eh w a)/\R (.returned v) (Eh w a))->LeavesInM F n P fn tmps R (a.map mark) .returning w
 |[],w,_,_,h=>h
 |D::a,w,b,c,h=>by
  rw[a3z]at b;refine⟨by simp,.inl ⟨D,shut w D,rfl,run_takeDeferred (c D a1b),?_⟩⟩;exact yA a (shut w D) b.2 (fun e d=>(World.putObj_heap_other (by grind)).trans (c e (a06 _ d))) h
def jA.hY {F:FuncId} {c:Code} {args:List AV} {R:AV->AH->Prop} (J:P.funcs[F]?=some fn) (K:fn.body=some c)
  (k:kT P true c (aoL P fn R) (args++List.replicate (fn.ntmps-args.length) .undef) h):jA P F args h R:=by
 intro m A w vs H I G;have FR:nJ m A w (args++List.replicate (fn.ntmps-args.length) .undef) { tmps:=vs++Array.replicate (fn.ntmps-vs.size) Go.undef,defers:=[] }:=by
  refine⟨by simp[I],?_,Marks.nil _ _⟩;intro i x a;rcases a0z i args.length with h|h
  .rw[a12 h]at a
   have:=G i x a;have l:i<vs.size:=(by omega);simpa[a1z,l]using this
  .rw[a14 h,a30]at a
   split at a
   .cases a
    have o:¬ i<vs.size:=(by omega)
    have:(vs++Array.replicate (fn.ntmps-vs.size) Go.undef).getD i Go.undef=Go.undef:=by
     simp[a1z,o,a31]
     simp_all
    simp only[this];exact .pure _ _ .undef
   simp_all
 refine Nh (r:=none) (n:=9) |>.1 (callsIn_of_wp_marks J K trivial (wpIn_mono (k none m A w _ (fun _=>rfl) H FR) ?_));rintro e g w' ⟨b,s,h',q,Q,j,S,O⟩
 have fin:∀x,fF P fn s h'=some x->R x h'->LeavesInM (fw none) 9 P fn g.tmps (fun e w'=>∃v u b h',e=.returned v/\R u h'/\dU b A h' w'/\Rd b A w' u v/\Ext m w b w') g.defers .returning w':=by
  intro x a d;obtain⟨f,N,y,t⟩:=j.defers;have M:∀D∈f,w.heap.size<=D:=by
   intro D p;rcases O (mark D) (by grind)with L|⟨U,L,T⟩<;>simp_all[mark]
  obtain⟨r1,r2,E⟩:=Mm f w' Q y t M S;have z:nJ b A (Eh w' f) s { tmps:=g.tmps,defers:=[] }:=⟨j.size,fun i x a=>E _ _ (j.rd i x a),Marks.nil _ _⟩;obtain⟨v,C,B⟩:=IN r1 z a;rw[N];exact yA f w' y (fun D p=>(t D p).1) ⟨v,C,v,x,b,h',rfl,d,r1,B,r2⟩
 cases e with
 |normal=>obtain⟨x,a,d⟩:=q;exact fin x a d
 |ret=>obtain⟨x,a,d⟩:=q;exact fin x a d
 |_=>exact q.elim
def alE (P:Program) (t:TypeId) (a:Bool):Bool:=match P.underlying t with
 |some (.pointer _)=>a
 |some _=>!a
 |none=>false
def RI (P:Program) (t:TypeId) (a:String):Option FuncId :=
 match P.info? t with
 |some i=>match i.methods.find? (·.name==a)with
  |some m=>match m.func with
   |some (k,b)=>if m.path.toList.isEmpty&&alE P t b then some k else none
   |none=>none
  |none=>none
 |none=>none
def abx {t:TypeId} {b:String} (a:RI P t b=some k) (n:Nat) (v:Value) (w:World):(method (n+1) t v b).run P w=.ok (k,v) w:=by
 unfold RI at a;split at a
 .rename_i i g
  split at a
  .rename_i mm f
   split at a
   .rename_i k' j h
    split at a
    .rename_i d
     cases a;rw[a0e]at d;have e:mm.path.toList=[]:=by simp_all
     have c:=d.2;unfold method;simp only[Sem.run_bind,typeInfo,program,Sem.run,g,Result.andThen_ok];simp only[f,Sem.run_bind,Sem.run_pure,e,follow,Result.andThen_ok,h];unfold alE at c;split at c<;>simp_all[receiverAt,run_underlying,Place.get]
    simp_all
   simp_all
  simp_all
 simp_all
def mI (P:Program) (ρ:Operand->AV):Op->Option (FuncId×List AV)
 | .call { callee:=.value g,args,.. }=>match ρ g with
  | .fn (.func k) first a=>some (k,first++args.toList.map ρ++a)
  |_=>none
 | .call { callee:=.invoke g name,args,.. }=>match ρ g with
  | .qZ t v=>match RI P t name with
   |some k=>some (k,v::args.toList.map ρ)
   |none=>none
  |_=>none
 |_=>none
def Ab {c : Code} (b : P.funcs[k]? = some fn) (d : fn.body = some c) (a : (fn.name == "runtime.NumGoroutine") = false) (args : Array Value) (w : World) : (callFunc k args).run P w = .ok (.enter k args) w := by
 simp_all[callFunc]
def nS.call {o : Oper} {args : List AV} {R : AV -> AH -> Prop} {c : Code} (p : mI P (eF f) o.op = some (k, args)) (T : P.funcs[k]? = some fn) (U : fn.body = some c) (O : (fn.name == "runtime.NumGoroutine") = false) (L : jA P k args h R) : nS P o f h R := by
 intro r' m A w a H F K Q Y;unfold mI at p;split at p
 .rename_i g b E G
  split at p
  .rename_i k' first l B
   simp only[a0i,a13]at p;obtain⟨rfl,rfl⟩:=p;have q:=F.eval g;rw[B]at q;obtain⟨vs,j,X,s,W,r1,r2⟩:∃vs j,a.eval g=.func (.func k') vs j/\vs.size=first.length/\j.size=l.length/\(∀(i:Nat) (x:AV),first[i]?=some x->Rd m A w x (vs.getD i Go.undef))/\∀(i:Nat) (x:AV),l[i]?=some x->Rd m A w x (j.getD i Go.undef):=by
    generalize a.eval g=u at q;cases q with
    |pure _ _ h=>cases h with|fn _ _ _ vs j J y h g=>exact⟨vs,j,rfl,J,y,fun i x d=>.pure _ _ (h i x d),fun i x d=>.pure _ _ (g i x d)⟩
    |fn _ _ _ vs j J y h g=>grind
   have n:(execOp a.eval o).run P w=.ok (.enter k' (vs++b.map a.eval++j)) w:=by
    simp_all[execOp,resolve,Deferred.ofValue,invoke,Ab]
   refine LY n ((L m A w _ H (by simp_all) ?_).mono ?_)
   .intro i x d
    rcases a0z i first.length with h|h
    .rw[a3e,a12 h]at d
     have:=r1 i x d
     simp_all[a1z]
    .rw[a3e,a14 h]at d
     rcases a0z (i-first.length) b.toList.length with V|V
     .rw[a12 (by simp_all)]at d
      have:=EN F b _ _ d
      have e:(vs++b.map a.eval++j).getD i Go.undef=(b.map a.eval).getD (i-first.length) Go.undef:=by
       have r:¬ i<first.length:=by omega
       have D:i-first.length<b.size:=by omega
       simp[a1z,r,D,s]
      simp_all
     .rw[a14 (by simp_all)]at d
      have:=r2 _ _ d
      have e:(vs++b.map a.eval++j).getD i Go.undef=j.getD (i-first.length-(b.toList.map (eF f)).length) Go.undef:=by
       have r:¬ i<first.length:=by omega
       have D:¬ i-first.length<b.size:=by simp_all
       simp[a1z,r,D,s,Nat.sub_sub]
      simp_all
   grind
  simp_all
 .rename_i g z b E G
  split at p
  .rename_i t v B
   split at p
   .rename_i k' S
    simp only[a0i,a13]at p;obtain⟨rfl,rfl⟩:=p;have q:=F.eval g;rw[B]at q;obtain⟨u,M,N⟩:=q.adq;have I:(method (P.types.size+Made.depth) t u z).run P w=.ok (k',u) w:=abx S (P.types.size+99) u w
    have n:(execOp a.eval o).run P w=.ok (.enter k' (#[u]++b.map a.eval)) w:=by
     simp only[execOp,G,resolve,Sem.run_bind,Sem.run_pure,Result.andThen_ok];simp only[invoke,M];simp only[a1z,Sem.run_bind];simp only[callMethod,program];have C:(b.map a.eval).extract 0 b.size=b.map a.eval:=by
      simp_all
     simp[Sem.run,I,Ab T U O,C]
    refine LY n ((L m A w _ H (by grind) ?_).mono ?_)
    .intro i x d
     cases i with
     |zero=>simp at d;subst d;simpa[a1z]using N
     |succ i =>
      have:=EN F b i x (by simp_all)
      simp_all[a1z]
    grind
   simp_all
  simp_all
 simp_all
end
end
end Mc
namespace Mc
variable {u:List (Nat×dI)}
structure xA where
 v:AV
 bZ:List (Nat×dI)
 xC:List Nat
 lo:Nat
 hi:Nat
 skip:Bool
def tmpsOf (l:List Operand):List Nat:=l.filterMap fun | .tmp t=>some t|_=>none
def Xd (ops:Array Oper) (o:Oper):List Nat :=
 match o.guard with
 |none=>[]
 |some (j,_)=>((ops[j]?).bind (·.dst)).toList
def yQ (ops:Array Oper) (o:Oper):List Nat:=tmpsOf o.op.operands.toList++Xd ops o
section
variable {P:Program} {ops:Array Oper}
def aao [Bk] [Ev] (P:Program) (ops:Array Oper) (o:Oper) (E:xA) (f:List AV) (h:AH):Prop :=
 ∀a h',a.length=f.length->(∀t∈yQ ops o,a[t]?=f[t]?)->(∀id∈E.xC,h' id=h id)->(∀id,E.lo<=id->id<E.hi->h' id=h id) ->
  if E.skip then mD ops o a=some false/\E.v=.undef/\E.bZ=[]else mD ops o a=some true/\nS P o a h' (fun v b=>v=E.v/\b=fZ h' E.bZ)
abbrev Sg:=List AV×AH
def app (x:Oper×xA) (s:Sg):Sg:=(qS s.1 x.1.dst x.2.v,fZ s.2 x.2.bZ)
def ES (E:xA):List Nat:=E.bZ.map (·.1)
def Ms (E:xA) (id:Nat):Bool:=E.xC.contains id||(decide (E.lo<=id)&&decide (id<E.hi))
def Su (ops:Array Oper) (x y:Oper×xA):Bool :=
 (match x.1.dst with|none=>true|some d=>!(yQ ops y.1).contains d)&&(match y.1.dst with|none=>true|some d=>!(yQ ops x.1).contains d) &&
 (match x.1.dst,y.1.dst with|some d,some d'=>d != d'|_,_=>true) &&
 (ES x.2).all (fun id=>!Ms y.2 id&&!(ES y.2).contains id)&&(ES y.2).all (fun id=>!Ms x.2 id&&!(ES x.2).contains id)
theorem kE [Bk] [Ev]:∀{h:AH} {id:Nat},id ∉ u.map (·.1)->fZ h u id=h id:=by
 induction u<;>simp_all[fZ,lQ]
section
variable [Bk] [Ev]
def xE:∀{h h':AH} {id:Nat},id∈u.map (·.1)->fZ h u id=fZ h' u id:=by
 induction u with
 |nil=>simp_all
 |cons p u a =>
  intro h h' id b;simp only[fZ];grind[kE,AI]
def ad8 {a:List (Nat×dI)} (h:AH) (c:∀id∈u.map (·.1),id ∉ a.map (·.1)):fZ (fZ h u) a=fZ (fZ h a) u:=by
 funext id;by_cases b:id∈u.map (·.1)
 .rw[kE (c id b)];exact xE b
 .by_cases d:id∈a.map (·.1)
  .rw[kE (u:=u) b];exact xE d
  simp_all[kE]
def abN {f:List AV} {d:Option Tmp} {v:AV} {t:Nat} (h:d≠some t):(qS f d v)[t]?=f[t]?:=by
 cases d<;>simp_all[qS]
def ah1 (f:List AV) (d:Option Tmp) (v:AV):(qS f d v).length=f.length:=by cases d<;>simp[qS]
def aeP {f:List AV} {d d':Option Tmp} {v a:AV} (h:∀t,d=some t->d'≠some t):qS (qS f d v) d' a=qS (qS f d' a) d v:=by
 cases d with
 |none=>rfl
 |some d =>
  cases d' with
  |none=>rfl
  |some d'=>simp only[qS];exact List.set_comm _ _ (by grind)
end
structure vX (ops:Array Oper) (x y:Oper×xA):Prop where
 a:∀d,x.1.dst=some d->d ∉ yQ ops y.1
 b:∀d,y.1.dst=some d->d ∉ yQ ops x.1
 c:∀d,x.1.dst=some d->y.1.dst≠some d
 d:∀id∈ES x.2,id ∉ y.2.xC/\¬ (y.2.lo<=id/\id<y.2.hi)/\id ∉ ES y.2
 e:∀id∈ES y.2,id ∉ x.2.xC/\¬ (x.2.lo<=id/\id<x.2.hi)/\id ∉ ES x.2
section
variable [Bk] [Ev]
def acj {x y:Oper×xA} (h:Su ops x y=true):vX ops x y:=by
 simp only[Su,a0e,a0k]at h;obtain⟨⟨⟨⟨e,d⟩,c⟩,b⟩,a⟩:=h;refine⟨?_,?_,?_,?_,?_⟩<;>grind[Ms]
def aao.far {x y:Oper×xA} (h:vX ops x y) {s:Sg}:aao P ops y.1 y.2 s.1 s.2↔aao P ops y.1 y.2 (app x s).1 (app x s).2:=by
 have o:∀t∈yQ ops y.1,(app x s).1[t]?=s.1[t]?:=fun t f=>abN fun e=>h.a t e f;have n:∀id∈y.2.xC,(app x s).2 id=s.2 id:=fun id c=>kE fun g=>(h.d id g).1 c;have m:∀id,y.2.lo<=id->id<y.2.hi->(app x s).2 id=s.2 id:=fun id a b=>kE fun g=>(h.d id g).2.1 ⟨a,b⟩;have p:(app x s).1.length=s.1.length:=ah1 _ _ _;constructor
 .intro k i h' l e1 e2 j
  exact k i h' (l.trans p) (fun t f=>(e1 t f).trans (o t f)) (fun id c=>(e2 id c).trans (n id c)) fun id a b=>(j id a b).trans (m id a b)
 .intro k i h' l e1 e2 j
  exact k i h' (l.trans p.symm) (fun t f=>(e1 t f).trans (o t f).symm) (fun id c=>(e2 id c).trans (n id c).symm) fun id a b=>(j id a b).trans (m id a b).symm
def XZ {x y:Oper×xA} (h:vX ops x y) (s:Sg):app y (app x s)=app x (app y s):=by
 unfold app;rw[aeP (fun t b=>h.c t b),ad8 _ (fun id a=>(h.d id a).2.2)]
def vX.symm {x y:Oper×xA} (h:vX ops x y):vX ops y x:=⟨h.b,h.a,fun d g f=>h.c d f g,h.e,h.d⟩
def Li (P:Program) (ops:Array Oper):List (Oper×xA)->Sg->Prop
 |[],_=>True
 |x::l,s=>aao P ops x.1 x.2 s.1 s.2/\Li P ops l (app x s)
def fin (l:List (Oper×xA)) (s:Sg):Sg:=l.foldl (fun s x=>app x s) s
def Li.append {l l':List (Oper×xA)}:∀{s:Sg},Li P ops (l++l') s↔Li P ops l s/\Li P ops l' (fin l s):=by
 induction l<;>simp_all[Li,fin,and_assoc]
def abP (l l':List (Oper×xA)) (s:Sg):fin (l++l') s=fin l' (fin l s):=by simp[fin]
def Li.move {t:Oper×xA}:∀(a post:List (Oper×xA)) (s:Sg),(∀x∈a,vX ops t x)->Li P ops (t::(a++post)) s->Li P ops (a++t::post) s/\fin (a++t::post) s=fin (t::(a++post)) s
 |[],post,s,_,h=>⟨h,rfl⟩
 |x::a,post,s,c,h=>by
  have b:=c x (by simp);simp only[a2a,Li]at h |-;obtain⟨l,k,d⟩:=h;have g:=(aao.far (P:=P) b).2 k;have i:=(aao.far (P:=P) b.symm).1 l;rw[XZ b]at d;obtain⟨f,e⟩:=Li.move a post (app x s) (fun y j=>c y (by simp[j])) ⟨i,d⟩;refine⟨⟨g,f⟩,?_⟩;show fin (a++t::post) (app x s)=fin (x::(a++post)) (app t s);rw[e];show fin (a++post) (app t (app x s))=fin (a++post) (app x (app t s));rw[XZ b]
def Li.perm {it:Nat->Oper×xA} {anc:Nat->Nat->Prop}:∀(T L:List Nat) (s:Sg),L.Perm T->T.Pairwise (·<·)->L.Pairwise (fun a b=>¬ anc b a)->(∀i j,i∈T->j∈T->i<j->anc i j\/vX ops (it i) (it j))->Li P ops (T.map it) s->Li P ops (L.map it) s/\fin (L.map it) s=fin (T.map it) s
 |[],L,s,g,_,_,_,_=>by
  simp_all
 |t::T,L,s,g,m,q,u,f=>by
  have h:t∈L:=g.symm.subset (by simp)
  obtain⟨c,post,rfl⟩:=List.append_of_mem h;have k:(c++post).Perm T:=by
   have:(t::(c++post)).Perm (t::T):=(List.perm_middle.symm).trans g
   simp_all
  rw[a2b]at m;rw[a2c]at q;obtain⟨o,d,n⟩:=q;rw[a2b]at d;have p:(c++post).Pairwise (fun a b=>¬ anc b a):=a2c.2 ⟨o,d.2,fun a w b v=>n a w b (by simp[v])⟩;simp only[a0r,Li]at f;obtain⟨B,A⟩:=Li.perm T (c++post) (app (it t) s) k m.2 p (fun i j z y=>u i j (by simp[z]) (by simp[y])) f.2
  have l:∀x∈c.map it,vX ops (it t) x:=by
   grind
  have e:Li P ops (it t::(c.map it++post.map it)) s:=⟨f.1,by simp_all⟩;obtain⟨C,r⟩:=Li.move (P:=P) (c.map it) (post.map it) s l e;refine⟨by simp_all,?_⟩;have:(c++t::post).map it=c.map it++it t::post.map it:=by simp
  rw[this,r];show fin (c.map it++post.map it) (app (it t) s)=fin (T.map it) (app (it t) s)
  simp_all
end
def MI (ops:Array Oper) (i:Nat):List Nat:=((ops[i]?).map fun o=>(o.after.toList.filter (Region.binds .any)).map (·.on)).getD []
def Cn (ops:Array Oper):Nat->List (List Nat)
 |0=>[]
 |n+1=>let acc:=Cn ops n;acc++[(MI ops n++(MI ops n).flatMap (fun i=>acc.getD i [])).eraseDups]
theorem wX [Bk] [Ev] (ops:Array Oper):∀n,(Cn ops n).length=n
 |0=>rfl
 |n+1=>by simp[Cn,wX ops n]
def rV [Bk] [Ev] {l:Nat->Prop} (down:∀i,l i->∀j∈MI ops i,l j):∀n j,j<n->l j->∀i∈(Cn ops n).getD j [],l i
 |0,j,f,_,_,_=>by omega
 |n+1,j,f,b,i,a=>by
  simp only[Cn]at a;rcases a0z j n with h|h
  .rw[List.getD,a12 (by simp_all[wX])]at a
   exact rV down n j h b i a
  .have e:j=n:=by omega
   subst e;rw[List.getD,a14 (by grind[wX]),wX,a2t]at a;simp only[a3s,a22]at a;rw[List.mem_eraseDups,a0m,a2d]at a;rcases a with a|⟨p,d,a⟩
   .grind
   .have g:=down j b p d
    rcases a0z p j with c|c
    .exact rV down j p c g i a
    simp_all[wX]
def Ls (ops:Array Oper) (i j:Nat):Bool:=((Cn ops ops.size).getD j []).contains i
def Pq (ops:Array Oper) (b:List xA):Bool :=
 let a:=Cn ops ops.size
 (List.range ops.size).all fun j =>
  (MI ops j).all (fun i=>decide (i<j))&&(a.getD j []).all (fun i=>decide (i<j)) &&
  (List.range j).all fun i=>(a.getD j []).contains i||(match ops[i]?,b[i]?,ops[j]?,b[j]? with|some o,some E,some o',some E'=>Su ops (o,E) (o',E')|_,_,_,_=>false)
theorem AA [Bk] [Ev] {l:Array Bool} {i j:Nat} (a:i<l.size):(l.setIfInBounds i true).getD j false=if i=j then true else l.getD j false:=by
 by_cases h:i=j<;>simp_all
def Nq [Bk] [Ev] {l:Array Bool} {i:Nat} (b:i<l.size) (c:l.getD i true=false):(l.setIfInBounds i true).toList.count false+1=l.toList.count false:=by
 rw[Array.toList_setIfInBounds];have a:i<l.toList.length:=by omega
 have e:l.toList[i]=false:=by
  simp_all
 grind
def jQ (ops:Array Oper) (a:List xA) (i:Nat):Oper×xA:=(ops.getD i default,a.getD i ⟨.undef,[],[],0,0,false⟩)
def kT.draw [Bk] [Ev] {tp:Bool} {Q:Exit->List AV->AH->Prop} {id:Nat} {f f':List AV} {h h':AH} (hm:P.follows .mixedOrders=true) (d:List xA) (hl:d.length=ops.size) (hb:Pq ops d=true) (hr:Li P ops ((List.range ops.size).map (jQ ops d)) (f,h)) (hf:fin ((List.range ops.size).map (jQ ops d)) (f,h)=(f',h')) (k:Q .normal f' h') :
  kT P tp (.region id ops true) Q f h:=by
 intro r' m A w a _ H F;refine wpIn_region_any hm ?_
 obtain⟨Hd,Ed⟩:=H.drew;have ac:∀j,j<ops.size->(∀i∈MI ops j,i<j)/\(∀i,Ls ops i j=true->i<j)/\∀i,i<j->Ls ops i j=true\/vX ops (jQ ops d i) (jQ ops d j):=by
  intro j K;have N:=a0k.1 hb j (a0t.2 K);simp only[a0e,a0k]at N;obtain⟨⟨N,h2⟩,h3⟩:=N;refine⟨fun i C=>by simp_all,fun i C=>?_,fun i C=>?_⟩
  .simp_all[Ls]
  .have M:=h3 i (a0t.2 C)
   rw[a15]at M;rcases M with M|M
   .exact .inl M
   .right
    have al:i<ops.size:=(by omega);have e1:ops[i]?=some ops[i]:=(by simp[al]);have e2:ops[j]?=some ops[j]:=(by simp[K]);have e3:d[i]?=some d[i]:=(by simp_all);have e4:d[j]?=some d[j]:=(by simp_all);rw[e1,e2,e3,e4]at M;have:=acj M
    simp_all[jQ]
 have key:∀(B:Nat) (c:Array Bool) (s:Act) (q:World),c.toList.count false<=B->c.size=ops.size->(∀i,c.getD i false=true->∀j∈MI ops i,c.getD j false=true) ->
   (∃L:List Nat,L.Nodup/\(∀i,i∈L↔c.getD i false=true)/\L.Pairwise (fun a b=>¬ Ls ops b a=true)/\∃t,dU t A (fin (L.map (jQ ops d)) (f,h)).2 q/\nJ t A q (fin (L.map (jQ ops d)) (f,h)).1 s/\Ext m w t q/\s.defers=a.defers)->wpAnyIn (fw r') 9 P .any ops (acq Q m A w a) B c s q:=by
  have done:∀(c:Array Bool) (s:Act) (q:World),c.size=ops.size->Region.ready .any ops c=[] ->
    (∃L:List Nat,L.Nodup/\(∀i,i∈L↔c.getD i false=true)/\L.Pairwise (fun a b=>¬ Ls ops b a=true)/\∃t,dU t A (fin (L.map (jQ ops d)) (f,h)).2 q/\nJ t A q (fin (L.map (jQ ops d)) (f,h)).1 s/\Ext m w t q/\s.defers=a.defers)->acq Q m A w a .normal s q:=by
   intro c s q hs p D;obtain⟨L,hn,J,Y,t,H1,O,E1,D1⟩:=D;have all:∀n i,i<n->i<ops.size->c.getD i false=true:=by
    intro n;induction n with
    |zero=>omega
    |succ n ih =>
     intro i av C;cases au:c.getD i false with
     |true=>rfl
     |false =>
      exfalso
      have:i∈Region.ready .any ops c:=by
       refine mem_ready.2 ⟨?_,ops[i],by simp[C],fun e he ay=>?_⟩<;>grind[MI]
      simp_all
   have E:L.Perm (List.range ops.size):=by
    grind
   have:=(Li.perm (P:=P) (ops:=ops) (it:=jQ ops d) (anc:=fun i j=>Ls ops i j=true) _ L (f,h) E (by exact a23) Y (fun i j _ K ab=>(ac j (a0t.1 K)).2.2 i ab) hr).2;rw[this,hf]at H1 O;exact⟨t,f',h',k,H1,O,E1,.same D1⟩
  intro B;induction B with
  |zero =>
   intro c s q hc hs T D;have p:Region.ready .any ops c=[]:=by
    cases ar:Region.ready .any ops c with
    |nil=>rfl
    |cons i r =>
     exfalso;obtain⟨N,o,Z,-⟩:=mem_ready.1 (show i∈Region.ready .any ops c by grind);have C:i<ops.size:=(a2p.1 Z).1;have:=Nq (l:=c) (i:=i) (by omega) N;omega
   exact⟨p,done c s q hs p D⟩
  |succ B ih =>
   intro c s q hc hs T D;refine⟨fun p=>done c s q hs p D,?_⟩
   intro i C;obtain⟨N,o,Z,ap⟩:=mem_ready.1 C;have aw:i<ops.size:=(a2p.1 Z).1;have S:i<c.size:=(by omega);have aA:c.getD i false=false:=(by grind);obtain⟨L,hn,J,Y,t,H1,O,E1,D1⟩:=D;have ax:i ∉ L:=fun hm=>by grind
   have ao:∀j∈MI ops i,c.getD j false=true:=by
    grind[MI]
   have z:∀x,(c.setIfInBounds i true).getD x false=true->∀j∈MI ops x,(c.setIfInBounds i true).getD j false=true:=by
    intro x U j K;rw[AA S]at U |-;grind
   have aq:∀x y,(x∈L\/x=i)->Ls ops y x=true->y∈L\/y=i:=by
    intro x y U hy;have V:x<ops.size:=by
     grind
    have aa:(c.setIfInBounds i true).getD x false=true:=by
     rw[AA S];grind
    have:=rV (ops:=ops) (l:=fun x=>(c.setIfInBounds i true).getD x false=true) z ops.size x V aa y (by simpa[Ls]using hy)
    grind[AA]
   have I:(L++[i]).Pairwise (fun a b=>¬ Ls ops b a=true):=by
    refine a2c.2 ⟨Y,List.pairwise_singleton _ _,?_⟩;intro x U y hy ag;simp only[a05]at hy;subst hy;have aa:=(J x).1 U
    have V:x<ops.size:=by
     grind
    have:=rV (ops:=ops) (l:=fun x=>c.getD x false=true) T ops.size x V aa y (by simpa[Ls]using ag)
    grind
   let g:=(List.range ops.size).filter fun x=>!(L++[i]).contains x
   have ad:∀x,x∈g↔x<ops.size/\x ∉ L/\x≠i:=by
    intro x;simp only[g,List.mem_filter,a0t,a32,List.contains_eq_mem,decide_eq_false_iff_not,a0m,a05,not_or]
   have az:∀x∈L,x<ops.size:=by
    grind
   have X:g.Nodup:=List.nodup_range.sublist List.filter_sublist
   have E:(L++[i]++g).Perm (List.range ops.size):=by
    have aj:(L++[i]++g).Nodup:=by
     rw[a33,a33];refine⟨⟨hn,by simp,?_⟩,X,?_⟩<;>grind
    rw[a4l aj a34];intro x;simp only[a0m,a05,ad,a0t];constructor<;>grind
   have af:(L++[i]++g).Pairwise (fun a b=>¬ Ls ops b a=true):=by
    refine a2c.2 ⟨I,?_,?_⟩
    .have ai:g.Pairwise (·<·):=List.Pairwise.filter _ a23
     refine ai.imp_of_mem ?_
     grind
    grind
   have W:=(Li.perm (P:=P) (ops:=ops) (it:=jQ ops d) (anc:=fun i j=>Ls ops i j=true) _ (L++[i]++g) (f,h) E (by exact a23) af (fun i j _ K ab=>(ac j (a0t.1 K)).2.2 i ab) hr).1;rw[a03,a03,Li.append,Li.append]at W;have am:aao P ops (jQ ops d i).1 (jQ ops d i).2 (fin (L.map (jQ ops d)) (f,h)).1 (fin (L.map (jQ ops d)) (f,h)).2:=W.1.2.1;have ak:(jQ ops d i).1=o:=(by simp[jQ,Z]);have u:=am _ _ rfl (fun _ _=>rfl) (fun _ _=>rfl) (fun _ _ _=>rfl)
   rw[ak]at u;have R:∀x,x∈L++[i]↔(c.setIfInBounds i true).getD x false=true:=by
    intro x;rw[AA S];simp only[a0m,a05,J];constructor
    .rintro(h|rfl)
     .split<;>first|rfl|exact h
     .simp
    grind
   have ae:(L++[i]).Nodup:=by
    rw[a33];refine⟨hn,by simp,?_⟩
    grind
   have G:fin ((L++[i]).map (jQ ops d)) (f,h)=app (o,(jQ ops d i).2) (fin (L.map (jQ ops d)) (f,h)):=by
    rw[a03,abP];show app (jQ ops d i) _=_
    grind
   have an:=Nq S N;unfold wpOpIn;simp only[Z];split at u
   .obtain⟨hg,hv,hu⟩:=u
    rw[if_neg (by grind[Ax])];refine⟨fun _ _=>trivial,ih _ _ _ (by omega) (by grind) z ⟨L++[i],ae,R,I,t,?_,?_,E1,(put_defers _ _ _).trans D1⟩⟩
    .rw[G];simp only[app,hu,fZ];exact H1
    .rw[G];simp only[app,hv];exact O.put (Ext.refl _ _) (.pure _ _ .undef) o.dst
   .obtain⟨hg,ah⟩:=u
    rw[if_pos (Ax O hg)];refine ah r' t A q s H1 O _ _ ?_;rintro v h2 x w2 m2 ⟨rfl,rfl⟩ H2 U E2;refine ih _ _ _ (by omega) (by grind) z ⟨L++[i],ae,R,I,m2,?_,?_,E1.trans E2,(put_defers _ _ _).trans D1⟩
    .rw[G];exact H2
    .rw[G];exact O.put E2 U o.dst
 refine key ops.size _ a _ (by simp) (by simp) (by intro i C;simp[a31]at C;grind) ⟨[],List.nodup_nil,?_,List.Pairwise.nil,m,Hd,F.ext Ed,Ed,rfl⟩;intro i;simp[a31]
 grind
end
end Mc
namespace Mc
section
variable {P:Program} {o:Oper} {f:List AV} {h:AH}
end
end Mc
namespace Mc
section
variable {P:Program} {o:Oper} {f:List AV} {h:AH}
section
variable [Bk] [Ev]
def Rd.ak4 {m:Nat->St} {A:Nat->Prop} {w:World} {T sz id i n b:Nat} {u:Value} (h:Rd m A w (.view T sz id i n) u) (g:m id=.at b):∃cap,u=.slice (some ⟨b,i*sz,none⟩) n cap:=by
 cases h with
 |pure _ _ h=>cases h
 |view _ _ _ _ _ c cap a=>rw[g]at a;cases a;exact⟨cap,rfl⟩
 |Ec _ _ _ _ _ _ _ a=>rw[g]at a;cases a
def Og {t:TypeId} {x k E j:Operand} {T sz id i n l u v:Nat} {bG:List (List AV)} (O:o.op=.slice t x (some k) (some E) (some j)) (y:P.underlying t=some (.slice (P.elem t))) (hs:(P.info? (P.elem t)).map (·.size)=some sz) (K:eF f x=.own T sz id i n) (Q:h id=.cells T sz bG) (B:bG≠[]) (D:gR (eF f) 0 (some k)=some l) (G:gR (eF f) n (some E)=some u) (C:gR (eF f) n (some j)=some v) (h1:l<=u) (X:u<=v) (W:v<=n) (V:l<v) :
  dX P o f h ⟨.view T sz id (i+l) (u-l),[],[id]⟩:=by
 refine cK fun m A w a H F=>?_;have g:=F.eval x;rw[K]at g;cases d:P.info? (P.elem t)with
 |none=>simp[d]at hs
 |some c =>
  simp only[d,a0s,a0i]at hs;subst hs;obtain⟨e,r,rfl⟩:=a3w B;obtain⟨b,cs,J,-⟩:=H.block (i:=0) Q rfl;obtain⟨cap,L,U,S,M⟩:=g.vU J;obtain⟨s,e1⟩:=lR F D;obtain⟨q,e2⟩:=lR F G;obtain⟨p,R⟩:=lR F C;have N:=run_slice_lhm (P:=P) w t (some ⟨b,i*c.size,none⟩) n cap y s q p (l:Int) (u:Int) (v:Int) (by omega) (by omega) (by omega) (by omega)
  have z:(Instr.sliceAt t (.slice (some ⟨b,i*c.size,none⟩) n cap) (some (.int s l)) (some (.int q u)) (some (.int p v))).run P w=.ok (sliced (some ⟨b,i*c.size,none⟩) l u v c.size) w:=by
   rw[run_sliceAt_slice (P:=P) w t _ _ _ _ y];simp[N,sizeOf,typeInfo,d]
  have I:sliced (some ⟨b,i*c.size,none⟩) l u v c.size=.slice (some ⟨b,(i+l)*c.size,none⟩) (u-l) (v-l):=by
   unfold sliced;rw[if_neg (by omega)];simp[iM,a2y]
  refine⟨_,by simp[execOp,O,L,e1,e2,R,z];rfl,?_⟩;rw[I];exact .view T c.size id (i+l) (u-l) b (v-l) J
def Oh {t:TypeId} {x z M s:Operand} {sz l u v:Nat} {bG:List (List AV)} (T:o.op=.slice t x (some z) (some M) (some s)) (E:P.underlying t=some (.slice (P.elem t))) (hs:(P.info? (P.elem t)).map (·.size)=some sz) (S:eF f x=.lit sz bG) (L:gR (eF f) 0 (some z)=some l) (N:gR (eF f) 0 (some M)=some u) (J:gR (eF f) 0 (some s)=some v) (h1:l<=u) (h2:u<=v) (h3:v<=bG.length) (I:bG≠[]) :
  dX P o f h ⟨.lit sz ((bG.drop l).take (u-l)),[],[]⟩:=by
 refine cK fun m A w a H F=>?_;have g:=F.eval x;rw[S]at g;cases r:P.info? (P.elem t)with
 |none=>simp[r]at hs
 |some p =>
  simp only[r,a0s,a0i]at hs;subst hs;obtain⟨D,e1⟩:=lR F L;obtain⟨C,e2⟩:=lR F N;obtain⟨B,e3⟩:=lR F J;have key:∀(k:Option Addr) (cap:Nat),bG.length<=cap->(Instr.sliceAt t (.slice k bG.length cap) (some (.int D l)) (some (.int C u)) (some (.int B v))).run P w=.ok (sliced k l u v p.size) w:=by
   intro k cap V;have q:=run_slice_lhm (P:=P) w t k bG.length cap E D C B (l:Int) (u:Int) (v:Int) (by omega) (by omega) (by omega) (by omega);rw[run_sliceAt_slice (P:=P) w t _ _ _ _ E];simp[q,sizeOf,typeInfo,r]
  have d:((bG.drop l).take (u-l)).length=u-l:=by simp;omega
  obtain⟨Z,k,cap,n⟩|⟨b,off,cap,vs,n,Y,X,W,G,O,Q,R⟩:=g.pW
  .exact absurd Z I
  .have q:=key (some ⟨b,off,none⟩) cap W
   refine⟨_,by simp[execOp,T,n,e1,e2,e3,q];rfl,.pure _ _ ?_⟩;unfold sliced;by_cases K:l=u
   .subst K
    simp only[a2t,List.take_zero];exact .nQ _ _ _ (by rw[n]at g;have:=g.EO;omega)
   .rw[if_neg (by omega)]
    have:=eC.lit (A:=Av m A) (w:=w) p.size ((bG.drop l).take (u-l)) b (off+l*p.size) (v-l) (fun i j=>vs (l+i) j) Y X ⟨by rw[d];omega,by rw[n]at g;have:=g.EO;omega⟩ (fun e U=>G e (a21 (a2m U))) (fun i j y c=>O _ _ _ (tZ c).2)
     (fun i j y c=>by have:=Q _ _ _ (tZ c).2;rw[<-this];congr 2;rw[a2y];omega) (fun i j y c=>R _ _ _ (tZ c).2)
    rw[d]at this;simpa[iM]using this
def Oi {t:TypeId} {x d B c:Operand} {T sz id i n l:Nat} {bG:List (List AV)} (K:o.op=.slice t x (some d) (some B) (some c)) (q:P.underlying t=some (.slice (P.elem t))) (hs:(P.info? (P.elem t)).map (·.size)=some sz) (E:eF f x=.own T sz id i n) (L:h id=.cells T sz bG) (v:bG≠[]) (z:gR (eF f) 0 (some d)=some l) (C:gR (eF f) n (some B)=some l) (y:gR (eF f) n (some c)=some l) (R:l<=n) :
  dX P o f h ⟨.emp,[],[id]⟩:=by
 refine cK fun m A w a H F=>?_;have g:=F.eval x;rw[E]at g;cases u:P.info? (P.elem t)with
 |none=>simp[u]at hs
 |some D =>
  obtain⟨e,r,rfl⟩:=a3w v;obtain⟨b,cs,M,-⟩:=H.block (i:=0) L rfl;obtain⟨cap,G,Q,O,I⟩:=g.vU M;obtain⟨p,e1⟩:=lR F z;obtain⟨k,e2⟩:=lR F C;obtain⟨j,N⟩:=lR F y;have J:=run_slice_lhm (P:=P) w t (some ⟨b,i*sz,none⟩) n cap q p k j (l:Int) (l:Int) (l:Int) (by omega) (by omega) (by omega) (by omega)
  have s:(Instr.sliceAt t (.slice (some ⟨b,i*sz,none⟩) n cap) (some (.int p l)) (some (.int k l)) (some (.int j l))).run P w=.ok (sliced (some ⟨b,i*sz,none⟩) l l l D.size) w:=by
   rw[run_sliceAt_slice (P:=P) w t _ _ _ _ q];simp[J,sizeOf,typeInfo,u]
  refine⟨_,by simp[execOp,K,G,e1,e2,N,s];rfl,?_⟩;unfold sliced;rw[a2t];exact .pure _ _ (.emp _)
def TF {t:TypeId} {x:Operand} {e:TypeId} {T sz id i n:Nat} (l:o.op=.call { callee:=.builtin .len,args:=#[x],argTypes:=#[t] }) (k:P.underlying t=some (.slice e)) (g:eF f x=.view T sz id i n):dX P o f h ⟨.c (.int .i64 n),[],[]⟩:=by
 refine cK fun m A w a H F=>?_
 have b:=F.eval x;rw[g]at b;have:∃d cap,a.eval x=.slice d n cap:=by
  generalize a.eval x=u at b;cases b with
  |pure _ _ h=>cases h
  |view _ _ _ _ _ q cap p=>exact⟨_,_,rfl⟩
  |Ec _ _ _ _ _ d cap p=>exact⟨_,_,rfl⟩
 obtain⟨d,cap,j⟩:=this;refine⟨_,?_,.pure _ _ (.c _)⟩;simp[execOp,l,resolve,invoke,builtin,j,Builtin.len_,run_underlying k,goInt]
def EE {t e:TypeId} {x ix:Operand} {T sz id i n':Nat} {bG:List (List AV)} {el:List AV} {k:IntKind} {n:Int} (u:o.op=.indexAddr t x ix) (q:eF f x=.view T sz id i n') (y:h id=.cells T sz bG) (v:eF f ix=.c (.int k n)) (s:P.underlying t=some (.slice e)) (hs:(P.info? e).map (·.size)=some sz) (B:0<=n) (D:n.toNat<n') (z:bG[i+n.toNat]?=some el) :
  dX P o f h ⟨.ptr sz id (i+n.toNat) 0,[],[id]⟩:=by
 refine cK fun m A w a H F=>?_;have p:=F.eval x;rw[q]at p;have l:=F.eval ix;rw[v]at l;have e2:=l.fK;obtain⟨b,cs,g,-⟩:=H.block y z;obtain⟨cap,r⟩:=p.ak4 g;cases d:P.info? e with
 |none=>simp[d]at hs
 |some C =>
  simp only[d,a0s,a0i]at hs;have j:n<(n':Int):=by omega
  refine⟨.pointer (some ⟨b,(i+n.toNat)*sz+0,none⟩),?_,.ptr sz id _ 0 b g (H.lt g)⟩;simp[execOp,u,r,e2,Instr.indexAt,asIntOf,run_underlying s,B,j,sizeOf,typeInfo,d,hs,iM,a2y]
end
def apd (n:Int) (es:List (Int×AV)):Bool:=es.all fun t=>t.1 != n
def ao6 (n:Int) (es:List (Int×AV)):Option AV:=match es.filter (fun t=>t.1==n)with|[t]=>some t.2|_=>none
end
end Mc
namespace Mc
variable {α:Type}
def lN (h:AH) (nx:Nat):Bool:=match h nx with | .no=>true|_=>false
def lU [Bk] [Ev] {h:AH} {nx:Nat} (k:lN h nx=true):h nx=.no:=by unfold lN at k;split at k<;>first|assumption|cases k
def kF (P:Program) (t:TypeId):Bool:=match P.underlying t with|some (.slice _)=>true|_=>false
def MS (y:AV) (n:Nat):Bool:=match y with | .own _ s _ _ _=>s==n|_=>true
def vC (P:Program) (t:TypeId) (x y:AV) (h:AH) (nx:Nat):Option AR :=
 match P.underlying t with
 |some (.slice e)=>match P.info? e with
  |some i=>match i.zero with
   |some z=>match vA h e i.size x,jX h y with
    |some (bG,k,rd),some a =>
     if z.cells.size=i.size/\0<i.size/\(a.all fun q=>q.length==i.size)=true/\MS y i.size=true/\(bG.length+a.length)*i.bytes<=140737488355328/\bG.length+a.length<=1099511627776/\lN h nx=true then
      some ⟨.own e i.size nx 0 (bG.length+a.length),k++[(nx,.cells e i.size (bG++a))],nx::rd++uM y⟩
     else none
    |_,_=>none
   |none=>none
  |none=>none
 |_=>none
def eK (P:Program) (t:TypeId):Option Nat:=(P.info? t).map (·.size)
def jJ [Bk] (P:Program) (op:Op) (ρ:Operand->AV) (h:AH) (nx:Nat):Option AR :=
 match op with
 | .move x=>some ⟨ρ x,[],[]⟩
 | .assign x=>some ⟨ρ x,[],[]⟩
 | .pick c x y=>match ρ c with
  | .c (.bool b)=>some ⟨bif b then ρ x else ρ y,[],[]⟩
  |_=>none
 | .alloc e=>match P.info? e with
  |some i=>match i.zero with
   |some z=>match jF (SB z)with
    |some cs=>if lN h nx then some ⟨.ptr cs.length nx 0 0,[(nx,.cells e cs.length [cs])],[nx]⟩else none
    |none=>none
   |none=>none
  |none=>none
 | .box e x=>match jF (ρ x)with
  |some cs=>if lN h nx then some ⟨.ptr cs.length nx 0 0,[(nx,.cells e cs.length [cs])],[nx]⟩else none
  |none=>none
 | .build t g=>match Nz P t (g.toList.map fun p=>(p.1,ρ p.2))with
  |some cs=>some ⟨.agg cs,[],[]⟩
  |none=>none
 | .buildSlice t len g=>match P.underlying t with
  |some (.slice e)=>match P.info? e with
   |some i=>match i.zero with
    |some z=>match jF (SB z)with
     |some zc=>if zc.length=i.size/\0<i.size/\0<len/\len*i.size<=16777216/\lN h nx=true then
       match yS (fun k=>some (k*i.size,i.size)) ((List.replicate len zc).flatten) (g.toList.map fun p=>(p.1,ρ p.2))with
       |some cs=>some ⟨.own e i.size nx 0 len,[(nx,.cells e i.size (chunk i.size len cs))],[nx]⟩
       |none=>none
      else none
     |none=>none
    |none=>none
   |none=>none
  |_=>none
 | .load t x=>match ρ x with
  | .ptr f id i off=>match h id with
   | .cells _ s bG=>if s=f then match bG[i]? with
     |some e=>match mM P t e off with
      |some v=>some ⟨v,[],[id]⟩
      |none=>none
     |none=>none
    else none
   |_=>none
  | .iY _ bG i off=>match bG[i]? with
   |some e=>match mM P t e off with
    |some v=>some ⟨v,[],[]⟩
    |none=>none
   |none=>none
  |_=>none
 | .store t x y=>match ρ x with
  | .ptr f id i off=>match h id with
   | .cells T s bG=>if s=f then match bG[i]?,jF (ρ y)with
     |some e,some w=>if eK P t=some w.length/\off+w.length<=f then some ⟨.undef,[(id,.cells T f (bG.set i (nN e off w)))],[id]⟩else none
     |_,_=>none
    else none
   |_=>none
  |_=>none
 | .nilCheck x=>match ρ x with
  | .ptr f id i off=>match h id with
   | .cells _ _ bG=>if(bG[i]?).isSome then some ⟨.ptr f id i off,[],[id]⟩else none
   |_=>none
  | .iY f bG i off=>some ⟨.iY f bG i off,[],[]⟩
  | .fn (.func k) w D=>some ⟨.fn (.func k) w D,[],[]⟩
  |_=>none
 | .binOp op t x y _=>match ak0 P op t (M7 x) (M7 y) (ρ x) (ρ y)with
  |some r=>some ⟨r,[],[]⟩
  |none=>none
 | .unOp op _ x=>match ρ x with
  | .c u=>match unV op u with
   |some r=>some ⟨.c r,[],[]⟩
   |none=>none
  | .e p=>match op with
   | .neg=>if mJ (qP (-1) p)then some ⟨C9 (qP (-1) p),[],[]⟩else none
   |_=>none
  |_=>none
 | .convert s d x=>match ρ x with
  | .c (.int _ n)=>match P.underlying s,P.underlying d with
   |some _,some (.int k)=>some ⟨.c (.int k (k.wrap n)),[],[]⟩
   |_,_=>none
  | .c (.string b)=>match P.underlying s,P.underlying d with
   |some _,some .string=>some ⟨.c (.string b),[],[]⟩
   |_,_=>none
  | .e p=>match P.underlying s,P.underlying d with
   |some _,some (.int .i64)=>if mJ p then some ⟨.e p,[],[]⟩else none
   |_,_=>none
  |_=>none
 | .makeInterface t x=>if P.concrete t then some ⟨.qZ t (ρ x),[],[]⟩else none
 | .makeFunc fn first B=>some ⟨.fn fn (first.toList.map ρ) (B.toList.map ρ),[],[]⟩
 | .makeSlice t x y=>match ρ x,ρ y with
  | .c (.int _ l),.c (.int _ c)=>match P.underlying t with
   |some (.slice e)=>match P.info? e with
    |some i=>match i.zero with
     |some z=>match jF (SB z)with
      |some zc=>if zc.length=i.size/\0<=l/\l<=c/\(i.bytes:Int)*c<=281474976710656/\c<=1099511627776/\lN h nx=true then
        some ⟨.own e i.size nx 0 l.toNat,[(nx,.cells e i.size (List.replicate l.toNat zc))],[nx]⟩else none
      |none=>none
     |none=>none
    |none=>none
   |_=>none
  |_,_=>none
 | .slice t x A j H=>match H with
  |some m=>match A,j with
   |none,some j=>match ρ j,ρ m with
    | .c (.int _ a),.c (.int _ b)=>match jX h (ρ x)with
     |some _=>if a=0/\b=0/\kF P t=true/\(P.info? (P.elem t)).isSome=true then some ⟨.emp,[],uM (ρ x)⟩else none
     |none=>none
    |_,_=>none
   |some A,some j=>match ρ x with
    | .own T f id i n=>match h id with
     | .cells o s bG=>match gR ρ 0 (some A),gR ρ n (some j),gR ρ n (some m)with
      |some l,some u,some v=>if o=T/\s=f/\bG≠[]/\l<=u/\u<=v/\v<=n/\l<v/\kF P t=true/\eK P (P.elem t)=some f then some ⟨.view T f id (i+l) (u-l),[],[id]⟩else
        if o=T/\s=f/\bG≠[]/\l=u/\u=v/\v<=n/\kF P t=true/\eK P (P.elem t)=some f then some ⟨.emp,[],[id]⟩else none
      |_,_,_=>none
     |_=>none
    | .lit f bG=>match gR ρ 0 (some A),gR ρ 0 (some j),gR ρ 0 (some m)with
     |some l,some u,some v=>if bG≠[]/\l<=u/\u<=v/\v<=bG.length/\kF P t=true/\eK P (P.elem t)=some f then some ⟨.lit f ((bG.drop l).take (u-l)),[],[]⟩else none
     |_,_,_=>none
    |_=>none
   |_,_=>none
  |none=>match ρ x with
   | .lit f bG=>match gR ρ 0 A,gR ρ bG.length j with
    |some l,some u=>if l<=u/\u<=bG.length/\kF P t=true/\eK P (P.elem t)=some f then some ⟨.lit f ((bG.drop l).take (u-l)),[],[]⟩else none
    |_,_=>none
   | .own T f id i n=>match h id with
    | .cells o s bG=>match gR ρ 0 A,gR ρ n j with
     |some l,some u=>if o=T/\s=f/\bG≠[]/\l<=u/\u<=n/\(l=0\/l<n)/\kF P t=true/\eK P (P.elem t)=some f then some ⟨.own T f id (i+l) (u-l),[],[id]⟩else none
     |_,_=>none
    |_=>none
   | .c (.string s)=>match P.underlying t with
    |some .string=>match gR ρ 0 A,gR ρ s.size j with
     |some l,some u=>if l<=u/\u<=s.size then some ⟨.c (.string (s.extract l u)),[],[]⟩else none
     |_,_=>none
    |_=>none
   |_=>none
 | .fieldAddr t x k=>match nM P t k with
  |some (_,C,n)=>if n≠0 then match ρ x with
    | .ptr f id i off=>match h id with
     | .cells _ s bG=>if s=f/\(bG[i]?).isSome=true then some ⟨.ptr f id i (off+C),[],[id]⟩else none
     |_=>none
    | .iY f bG i off=>some ⟨.iY f bG i (off+C),[],[]⟩
    |_=>none
   else none
  |none=>none
 | .field t x k=>match nM P t k with
  |some (E,C,_)=>match ρ x with
   | .agg cs=>match mM P E cs C with
    |some v=>some ⟨v,[],[]⟩
    |none=>none
   |_=>none
  |none=>none
 | .indexAddr t x ix=>match ρ ix with
  | .c (.int _ n)=>match P.underlying t with
   |some (.slice e)=>match ρ x with
    | .lit f bG=>if eK P e=some f/\0<=n/\n.toNat<bG.length then some ⟨.iY f bG n.toNat 0,[],[]⟩else none
    | .own T f id i n'=>match h id with
     | .cells o s bG=>if o=T/\s=f/\eK P e=some f/\0<=n/\n.toNat<n'/\(bG[i+n.toNat]?).isSome=true then some ⟨.ptr f id (i+n.toNat) 0,[],[id]⟩else none
     |_=>none
    | .view T f id i n'=>match h id with
     | .cells o s bG=>if o=T/\s=f/\eK P e=some f/\0<=n/\n.toNat<n'/\(bG[i+n.toNat]?).isSome=true then some ⟨.ptr f id (i+n.toNat) 0,[],[id]⟩else none
     |_=>none
    | .row N w=>match w[n.toNat]? with
     |some p=>if eK P e=some 1/\0<=n/\TU (rK (zM n) N)=some true then some ⟨.iY 1 [[C9 p]] 0 0,[],[]⟩else none
     |none=>none
    |_=>none
   |some (.array len e)=>match eK P e with
    |some s=>if 0<=n/\n.toNat<len then match ρ x with
      | .ptr f id i off=>match h id with
       | .cells _ G bG=>if G=f/\(bG[i]?).isSome=true then some ⟨.ptr f id i (off+n.toNat*s),[],[id]⟩else none
       |_=>none
      | .iY f bG i off=>some ⟨.iY f bG i (off+n.toNat*s),[],[]⟩
      |_=>none
     else none
    |none=>none
   |_=>none
  |_=>none
 | .index t x ix=>match ρ ix with
  | .c (.int _ n)=>match P.underlying t with
   |some (.array len e)=>match eK P e with
    |some s=>match ρ x with
     | .agg cs=>if 0<=n/\n.toNat<len then match mM P e cs (n.toNat*s)with
       |some v=>some ⟨v,[],[]⟩
       |none=>none
      else none
     |_=>none
    |none=>none
   |some .string=>match ρ x with
    | .c (.string s)=>match s[n.toNat]? with
     |some b=>if 0<=n then some ⟨.c (.int .u8 b.toNat),[],[]⟩else none
     |none=>none
    |_=>none
   |_=>none
  |_=>none
 | .extract x k=>match ρ x with
  | .bE vs=>match vs[k]? with
   |some v=>some ⟨v,[],[]⟩
   |none=>none
  |_=>none
 | .typeAssert ..=>none
 | .range ..=>none
 | .next ..=>none
 | .makeMap ..=>none
 | .insert ..=>none
 | .lookup ..=>none
 | .call { callee:=.builtin b,args,argTypes }=>match b with
  | .len=>match args.toList,argTypes.toList with
   |[x],[t]=>match P.underlying t with
    |some (.slice _)=>match jX h (ρ x)with
     |some bG=>some ⟨.c (.int .i64 bG.length),[],uM (ρ x)⟩
     |none=>match ρ x with
      | .row n _=>some ⟨C9 n,[],[]⟩
      | .view _ _ _ _ n=>some ⟨.c (.int .i64 n),[],[]⟩
      |_=>none
    |some .string=>match ρ x with
     | .c (.string s)=>some ⟨.c (.int .i64 s.size),[],[]⟩
     |_=>none
    |_=>none
   |_,_=>none
  | .append=>match args.toList,argTypes.toList with
   |[x,y],[t,F]=>if F=t then vC P t (ρ x) (ρ y) h nx else none
   |_,_=>none
  | .max=>match args.toList with
   |[x,y]=>match ρ x,ρ y with
    | .c (.int k p),.c (.int _ q)=>some ⟨.c (.int k (if q > p then q else p)),[],[]⟩
    |u,v=>match toP u,toP v with
     |some p,some q=>match Mb p q with
      |some r=>some ⟨C9 r,[],[]⟩
      |none=>none
     |_,_=>none
   |[x,y,z]=>match ρ x,ρ y,ρ z with
    | .c (.int k p),.c (.int _ q),.c (.int _ r)=>some ⟨.c (.int k (if r > (if q > p then q else p)then r else(if q > p then q else p))),[],[]⟩
    |_,_,_=>none
   |_=>none
  | .min=>match args.toList with
   |[x,y]=>match ρ x,ρ y with
    | .c (.int k p),.c (.int _ q)=>some ⟨.c (.int k (if q<p then q else p)),[],[]⟩
    |u,v=>match toP u,toP v with
     |some p,some q=>match Ma p q with
      |some r=>some ⟨C9 r,[],[]⟩
      |none=>none
     |_,_=>none
   |_=>none
  | .clear=>none
  |_=>none
 |_=>none
section
variable {P:Program} {o:Oper} {f:List AV} {h:AH}
section
variable [Bk] [Ev]
def pI {t:TypeId} (h:kF P t=true):P.underlying t=some (.slice (P.elem t)):=by
 unfold kF at h;unfold Program.elem;split at h
 .rename_i e a;rw[a]
 .cases h
def ach {l:Array α} {x:α} (h:l.toList=[x]):l=#[x]:=by cases l;simp_all
def Sr {l:Array α} {x y:α} (h:l.toList=[x,y]):l=#[x,y]:=by cases l;simp_all
def apa {l:Array α} {x y z:α} (h:l.toList=[x,y,z]):l=#[x,y,z]:=by cases l;simp_all
def anM {nx:Nat} {r:AR} (g:jJ P o.op (eF f) h nx=some r):dX P o f h r:=by
 obtain⟨dst,op,ty,ak,ai,guard⟩:=o;simp only at g;cases op with
 |move x=>simp only[jJ,a0i]at g;subst g;exact ED rfl
 |assign x=>simp only[jJ,a0i]at g;subst g;exact pN rfl
 |pick c x y =>
  simp only[jJ]at g;split at g
  .rename_i b A;cases g;exact ajU rfl A
  .cases g
 |alloc e =>
  simp only[jJ]at g;split at g
  .rename_i i G
   split at g
   .rename_i z O
    split at g
    .rename_i cs A
     split at g
     .rename_i W;cases g;exact ahh rfl G O A (lU W)
     .cases g
    .cases g
   .cases g
  .cases g
 |box e x =>
  simp only[jJ]at g;split at g
  .rename_i cs A
   split at g
   .rename_i W;cases g;exact am3 rfl A (lU W)
   .cases g
  .cases g
 |build t ab =>
  simp only[jJ]at g;split at g
  .rename_i cs A;cases g;exact ahg rfl A
  .cases g
 |buildSlice t len ab =>
  simp only[jJ]at g;split at g
  .rename_i e D
   split at g
   .rename_i i G
    split at g
    .rename_i z O
     split at g
     .rename_i zc Y
      split at g
      .rename_i Q
       split at g
       .rename_i cs X
        cases g;obtain⟨B,C,I,E,V⟩:=Q;exact Ok rfl D G O Y B C I E X (lU V)
       .cases g
      .cases g
     .cases g
    .cases g
   .cases g
  .cases g
 |load t x =>
  simp only[jJ]at g;split at g
  .rename_i J id i off w
   split at g
   .rename_i T s bG H
    split at g
    .rename_i hs
     subst hs;split at g
     .rename_i e D
      split at g
      .rename_i v K
       cases g;exact TE rfl w H D K
      .cases g
     .cases g
    .cases g
   .cases g
  .rename_i J bG i off w
   split at g
   .rename_i e D
    split at g
    .rename_i v K
     cases g;exact RD rfl w D K
    .cases g
   .cases g
  .cases g
 |store t x y =>
  simp only[jJ]at g;split at g
  .rename_i J id i off w
   split at g
   .rename_i T s bG H
    split at g
    .rename_i hs
     subst hs;split at g
     .rename_i e xs D L
      split at g
      .rename_i A
       cases g;exact ahd rfl w H D L A.1 A.2
      .cases g
     .cases g
    .cases g
   .cases g
  .cases g
 |nilCheck x =>
  simp only[jJ]at g;split at g
  .rename_i J id i off w
   split at g
   .rename_i T s bG H
    split at g
    .rename_i hs
     cases g;obtain⟨e,D⟩:=a3f.1 hs;exact Ln rfl w H D
    .cases g
   .cases g
  .rename_i J bG i off w;cases g;exact FX rfl w
  .rename_i k xs ys w;cases g;exact MV rfl w
  .cases g
 |range=>simp[jJ]at g
 |next=>simp[jJ]at g
 |makeMap=>simp[jJ]at g
 |insert=>simp[jJ]at g
 |lookup=>simp[jJ]at g
 |binOp an t x y ac =>
  simp only[jJ]at g;split at g
  .rename_i r' R;cases g;exact ajY rfl R
  .cases g
 |unOp aj t x =>
  simp only[jJ]at g;split at g
  .rename_i u w
   split at g
   .rename_i r' F;cases g;exact aou rfl w F
   .cases g
  .rename_i p w
   split at g
   .split at g
    .rename_i R;cases g;exact aeC rfl w R
    .cases g
   .cases g
  .cases g
 |convert s d x =>
  simp only[jJ]at g;split at g
  .rename_i k n w
   split at g
   .rename_i ds k' B C;cases g;exact M3 rfl w B C
   .cases g
  .rename_i b w
   split at g
   .rename_i ds B C;cases g;exact MZ rfl w B C
   .cases g
  .rename_i p w
   split at g
   .rename_i ds B C
    split at g
    .rename_i R;cases g;exact MY rfl w B C R
    .cases g
   .cases g
  .cases g
 |makeInterface t x =>
  simp only[jJ]at g;split at g
  .rename_i A;cases g;exact FY rfl A
  .cases g
 |makeFunc fn first ad=>simp only[jJ,a0i]at g;subst g;exact TD rfl
 |makeSlice t x y =>
  simp only[jJ]at g;split at g
  .rename_i k l k' c w L
   split at g
   .rename_i e D
    split at g
    .rename_i i G
     split at g
     .rename_i z O
      split at g
      .rename_i zc Y
       split at g
       .rename_i Q
        cases g;obtain⟨B,C,I,E,V,M⟩:=Q;exact RA rfl D G O Y B w L C I E V (lU M)
       .cases g
      .cases g
     .cases g
    .cases g
   .cases g
  .cases g
 |slice t x lo G mx =>
  simp only[jJ]at g;split at g
  .rename_i m
   split at g
   .rename_i ag
    split at g
    .rename_i k a k' b B C
     split at g
     .rename_i bG D
      split at g
      .rename_i A
       obtain⟨rfl,rfl,I,E⟩:=A;cases g;exact Ry rfl (pI I) E D B C
      .cases g
     .cases g
    .cases g
   .rename_i al ag
    split at g
    .rename_i T J id i n w
     split at g
     .rename_i T' s bG H
      split at g
      .rename_i l u v q1 q2 q3
       split at g
       .rename_i A
        obtain⟨rfl,rfl,B,C,I,E,V,M,U⟩:=A;cases g;exact Og rfl (pI M) U w H B q1 q2 q3 C I E V
       .split at g
        .rename_i A
         obtain⟨rfl,rfl,B,rfl,rfl,E,M,U⟩:=A;cases g;exact Oi rfl (pI M) U w H B q1 q2 q3 E
        .cases g
      .cases g
     .cases g
    .rename_i J bG w
     split at g
     .rename_i l u v q1 q2 q3
      split at g
      .rename_i A
       obtain⟨B,C,I,E,M,U⟩:=A;cases g;exact Oh rfl (pI M) U w q1 q2 q3 C I E B
      .cases g
     .cases g
    .cases g
   .cases g
  .split at g
   .rename_i J bG w
    split at g
    .rename_i l u B C
     split at g
     .rename_i A
      cases g;exact Rz rfl (pI A.2.2.1) A.2.2.2 w B C A.1 A.2.1
     .cases g
    .cases g
   .rename_i T J id i n w
    split at g
    .rename_i T' s bG H
     split at g
     .rename_i l u B C
      split at g
      .rename_i A
       obtain⟨rfl,rfl,I,E,V,M,U,h8⟩:=A;cases g;exact Rx rfl (pI U) h8 w H I B C E V M
      .cases g
     .cases g
    .cases g
   .rename_i s w
    split at g
    .rename_i F
     split at g
     .rename_i l u B C
      split at g
      .rename_i A
       cases g;exact Rw rfl F w B C A.1 A.2
      .cases g
     .cases g
    .cases g
   .cases g
 |fieldAddr t x k =>
  simp only[jJ]at g;split at g
  .rename_i ac o' n X
   split at g
   .rename_i W
    split at g
    .rename_i J id i off w
     split at g
     .rename_i T s bG H
      split at g
      .rename_i A
       obtain⟨rfl,hs⟩:=A;obtain⟨e,D⟩:=a3f.1 hs;cases g;exact F6 rfl w H D X W
      .cases g
     .cases g
    .rename_i J bG i off w
     cases g;exact EH rfl w X W
    .cases g
   .cases g
  .cases g
 |field t x k =>
  simp only[jJ]at g;split at g
  .rename_i ac o' n X
   split at g
   .rename_i cs w
    split at g
    .rename_i v K
     cases g;exact ahf rfl w X K
    .cases g
   .cases g
  .cases g
 |indexAddr t x ix =>
  simp only[jJ]at g;split at g
  .rename_i k n G
   split at g
   .rename_i e F
    split at g
    .rename_i J bG w
     split at g
     .rename_i A
      cases g;exact F4 rfl w G F A.1 A.2.1 A.2.2
     .cases g
    .rename_i T J id i n' w
     split at g
     .rename_i T' s bG H
      split at g
      .rename_i A
       obtain⟨rfl,rfl,B,C,I,E⟩:=A;obtain⟨el,D⟩:=a3f.1 E;cases g;exact F3 rfl w H G F B C I D
      .cases g
     .cases g
    .rename_i T J id i n' w
     split at g
     .rename_i T' s bG H
      split at g
      .rename_i A
       obtain⟨rfl,rfl,B,C,I,E⟩:=A;obtain⟨el,D⟩:=a3f.1 E;cases g;exact EE rfl w H G F B C I D
      .cases g
     .cases g
    .rename_i N xs w
     split at g
     .rename_i p K
      split at g
      .rename_i A
       cases g;exact F0 rfl w G F A.1 A.2.1 A.2.2 K
      .cases g
     .cases g
    .cases g
   .rename_i len e F
    split at g
    .rename_i s hs
     split at g
     .rename_i A
      split at g
      .rename_i J id i off w
       split at g
       .rename_i T s' bG H
        split at g
        .rename_i ah
         obtain⟨rfl,E⟩:=ah;obtain⟨el,D⟩:=a3f.1 E;cases g;exact F5 rfl w H D G F hs A.1 A.2
        .cases g
       .cases g
      .rename_i J bG i off w
       cases g;exact EG rfl w G F hs A.1 A.2
      .cases g
     .cases g
    .cases g
   .cases g
  .cases g
 |index t x ix =>
  simp only[jJ]at g;split at g
  .rename_i k n G
   split at g
   .rename_i len e F
    split at g
    .rename_i s hs
     split at g
     .rename_i cs w
      split at g
      .rename_i A
       split at g
       .rename_i v K
        cases g;exact RF rfl w G F hs A.1 A.2 K
       .cases g
      .cases g
     .cases g
    .cases g
   .rename_i F
    split at g
    .rename_i s w
     split at g
     .rename_i b R
      split at g
      .rename_i h0
       cases g;exact RE rfl w G F h0 R
      .cases g
     .cases g
    .cases g
   .cases g
  .cases g
 |extract x k =>
  simp only[jJ]at g;split at g
  .rename_i vs w
   split at g
   .rename_i v hv
    cases g;exact abr rfl w hv
   .cases g
  .cases g
 |typeAssert=>simp[jJ]at g
 |call c =>
  obtain⟨aa,args,ae⟩:=c;cases aa with
  |builtin b =>
   simp only[jJ]at g;split at g
   .split at g
    .rename_i x t S ht
     rw[ach S,ach ht];split at g
     .rename_i e F
      split at g
      .rename_i bG D;cases g;exact am2 rfl F D
      .split at g
       .rename_i n xs w;cases g;exact abq rfl F w
       .rename_i w;cases g;exact TF rfl F w
       .cases g
     .rename_i F
      split at g
      .rename_i s w;cases g;exact abo rfl F w
      .cases g
     .cases g
    .cases g
   .split at g
    .rename_i x y t t' S ht
     rw[Sr S,Sr ht];split at g
     .rename_i e
      subst e;unfold vC at g;split at g
      .rename_i e D
       split at g
       .rename_i i G
        split at g
        .rename_i z O
         split at g
         .rename_i bG k rd ys R L
          split at g
          .rename_i A
           obtain⟨B,C,I,E,V,M,U⟩:=A;cases g;refine Pb rfl D G O B C R L (fun q Z=>by simpa using a0k.1 I q Z) ?_ V M (lU U);intro T s id j n af;rw[af]at E;simpa[MS]using E
          .cases g
         .cases g
        .cases g
       .cases g
      .cases g
     .cases g
    .cases g
   .split at g
    .rename_i x y S
     rw[Sr S];split at g
     .rename_i k p k' q w L;cases g;exact ajX rfl w L
     .split at g
      .rename_i p q K Z
       split at g
       .rename_i r' hs;cases g;exact abm rfl K Z hs
       .cases g
      .cases g
    .rename_i x y z S
     rw[apa S];split at g
     .rename_i k p k' q am r' w L O;cases g;exact ajW rfl w L O
     .cases g
    .cases g
   .split at g
    .rename_i x y S
     rw[Sr S];split at g
     .rename_i k p k' q w L;cases g;exact ajV rfl w L
     .split at g
      .rename_i p q K Z
       split at g
       .rename_i r' hs;cases g;exact abl rfl K Z hs
       .cases g
      .cases g
    .cases g
   .cases g
   .cases g
  |_=>simp[jJ]at g
 |_=>simp[jJ]at g
end
end
end Mc
namespace Mc
variable {ρ:Operand->AV} {nx:Nat} {x:AV}
section
variable {P:Program}
section
variable [Bk] [Ev]
def ab7 {a:Operand->AV} {d:Nat} {x:Option Operand} (h:∀y,x=some y->a y=ρ y):gR a d x=gR ρ d x:=by
 cases x with
 |none=>rfl
 |some y=>simp only[gR,h y rfl]
def aoV {op:Op} {g:Operand->AV} {h:AH} (a:∀x∈op.operands.toList,g x=ρ x):jJ P op g h nx=jJ P op ρ h nx:=by
 cases op with
 |build t i =>
  have:(i.toList.map fun p=>(p.1,g p.2))=i.toList.map fun p=>(p.1,ρ p.2):=a01 fun p w=>by
   rw[a p.2 (by simp[Op.operands];exact⟨p.1,by simpa using w⟩)]
  simp only[jJ,this]
 |buildSlice t len i =>
  have:(i.toList.map fun p=>(p.1,g p.2))=i.toList.map fun p=>(p.1,ρ p.2):=a01 fun p w=>by
   rw[a p.2 (by simp[Op.operands];exact⟨p.1,by simpa using w⟩)]
  simp only[jJ,this]
 |makeFunc fn first o =>
  have e1:first.toList.map g=first.toList.map ρ:=a01 fun p w=>a p (by simp[Op.operands];exact .inl (by simpa using w))
  have e2:o.toList.map g=o.toList.map ρ:=a01 fun p w=>a p (by simp[Op.operands];exact .inr (by simpa using w));simp only[jJ,e1,e2]
 |slice t x E B G =>
  have F:=a x (by simp[Op.operands]);have e1:∀d,gR g d E=gR ρ d E:=fun d=>ab7 fun y v=>a y (by subst v;simp[Op.operands]);have e2:∀d,gR g d B=gR ρ d B:=fun d=>ab7 fun y v=>a y (by subst v;simp[Op.operands]);have M:∀y,B=some y->g y=ρ y:=fun y v=>a y (by subst v;simp[Op.operands]);have H:∀y,G=some y->g y=ρ y:=fun y v=>a y (by subst v;simp[Op.operands]);simp only[jJ,F,e1,e2];cases G with
  |none=>rfl
  |some m =>
   cases E with
   |some l =>
    cases B with
    |none=>rfl
    |some k =>
     have K:=e1 0;have J:∀n,gR g n (some k)=gR ρ n (some k):=fun n=>e2 n
     have I:∀n,gR g n (some m)=gR ρ n (some m):=fun n=>ab7 fun y v=>H y v;simp only[K,J,I]
   |none =>
    cases B with
    |none=>rfl
    |some k=>simp only[M k rfl,H m rfl]
 |call c =>
  obtain⟨C,args,A⟩:=c;cases C with
  |builtin b =>
   have e:∀x∈args.toList,g x=ρ x:=fun x F=>a x (by simp[Op.operands,Call.operands];simpa using F);cases b<;>simp only[jJ]
   all_goals (rcases D:args.toList with _|⟨x,_|⟨y,_|⟨z,_|⟨u,r⟩⟩⟩⟩<;>rw[D]at e<;>simp only[a0d,a0b,or_false,forall_eq_or_imp,forall_eq,implies_true,false_implies]at e<;>(try simp only[e])<;>(rcases A.toList with _|⟨S,_|⟨R,_|⟨Q,q⟩⟩⟩<;>(try simp only[e])))
  |_=>simp[jJ]
 |pick c x y =>
  have f:=a c (by simp[Op.operands]);have j:=a x (by simp[Op.operands]);have L:=a y (by simp[Op.operands]);simp only[jJ,f,j,L]
 |store t x y =>
  have f:=a x (by simp[Op.operands]);have j:=a y (by simp[Op.operands]);simp only[jJ,f,j]
 |binOp N t x y O =>
  have f:=a x (by simp[Op.operands]);have j:=a y (by simp[Op.operands]);simp only[jJ,f,j]
 |makeSlice t x y =>
  have f:=a x (by simp[Op.operands]);have j:=a y (by simp[Op.operands]);simp only[jJ,f,j]
 |range=>rfl
 |next=>rfl
 |insert=>rfl
 |lookup=>rfl
 |indexAddr t x y =>
  have f:=a x (by simp[Op.operands]);have j:=a y (by simp[Op.operands]);simp only[jJ,f,j]
 |index t x y =>
  have f:=a x (by simp[Op.operands]);have j:=a y (by simp[Op.operands]);simp only[jJ,f,j]
 |move x=>have f:=a x (by simp[Op.operands]);simp only[jJ,f]
 |assign x=>have f:=a x (by simp[Op.operands]);simp only[jJ,f]
 |box e x=>have f:=a x (by simp[Op.operands]);simp only[jJ,f]
 |load t x=>have f:=a x (by simp[Op.operands]);simp only[jJ,f]
 |nilCheck x=>have f:=a x (by simp[Op.operands]);simp only[jJ,f]
 |unOp u t x=>have f:=a x (by simp[Op.operands]);simp only[jJ,f]
 |convert s d x=>have f:=a x (by simp[Op.operands]);simp only[jJ,f]
 |makeInterface t x=>have f:=a x (by simp[Op.operands]);simp only[jJ,f]
 |fieldAddr t x k=>have f:=a x (by simp[Op.operands]);simp only[jJ,f]
 |field t x k=>have f:=a x (by simp[Op.operands]);simp only[jJ,f]
 |extract x k=>have f:=a x (by simp[Op.operands]);simp only[jJ,f]
 |typeAssert=>rfl
 |_=>simp[jJ]
def qQ {h h':AH} (e:h' nx=h nx):lN h' nx=lN h nx:=by unfold lN;rw[e]
def Ip {h h':AH} (e:∀id∈uM x,h' id=h id):jX h' x=jX h x:=by
 cases x<;>simp only[jX];rename_i T s id i n;rw[e id (by simp[uM])]
def ak2 {h h':AH} {e sz:Nat} (a:∀id∈uM x,h' id=h id):vA h' e sz x=vA h e sz x:=by
 cases x<;>simp only[vA];rename_i T s id i n;cases i<;>simp only[vA];rw[a id (by simp[uM])]
def XS {h:AH} {e sz:Nat} {bG:List (List AV)} {k:List (Nat×dI)} {rd:List Nat} (a:vA h e sz x=some (bG,k,rd)):rd=uM x/\k.map (·.1)=uM x:=by
 unfold vA at a;split at a
 .simp only[a0i,a13]at a
  obtain⟨rfl,rfl,rfl⟩:=a;exact⟨rfl,rfl⟩
 .split at a
  .split at a
   .simp only[a0i,a13]at a
    obtain⟨rfl,rfl,rfl⟩:=a;exact⟨rfl,rfl⟩
   .cases a
  .cases a
 .cases a
def PG {t:TypeId} {y:AV} {h h':AH} {r:AR} (a:vC P t x y h nx=some r) (b:∀id∈r.xC,h' id=h id):vC P t x y h' nx=some r:=by
 have key:∀(e f:Nat) bG k rd d,vA h e f x=some (bG,k,rd)->(∀id∈nx::rd++uM y,h' id=h id)->jX h y=some d->vA h' e f x=vA h e f x/\jX h' y=jX h y/\lN h' nx=lN h nx:=by
  intro e f bG k rd d g b j;have s:=(XS g).1;subst s;exact⟨ak2 fun id c=>b id (by simp[c]),Ip fun id c=>b id (by simp[c]),qQ (b nx (by simp))⟩
 unfold vC at a |-;split at a
 .rename_i e u
  split at a
  .rename_i i p
   split at a
   .rename_i z o
    split at a
    .rename_i bG k rd d g j
     split at a
     .rename_i q
      cases a;obtain⟨n,m,l⟩:=key e i.size bG k rd d g b j;simp only[p,o,n,m,l,g,j];rw[if_pos q]
     .cases a
    .cases a
   .cases a
  .cases a
 .cases a
end
theorem aoU [Bk] [Ev] {op:Op} {h h':AH} {r:AR} (a:jJ P op ρ h nx=some r) (d:∀id∈r.xC,h' id=h id):jJ P op ρ h' nx=some r:=by
 have one:∀{id:Nat},(∀i∈[id],h' i=h i)->h' id=h id:=fun k=>k _ (by simp);cases op with
 |alloc e =>
  simp only[jJ]at a |-;repeat' split at a
  all_goals (first|cases a|skip)
  have f:=qQ (one d)
  simp_all
 |box e x =>
  simp only[jJ]at a |-;repeat' split at a
  all_goals (first|cases a|skip)
  have f:=qQ (one d)
  simp_all
 |buildSlice t len n =>
  simp only[jJ]at a |-;repeat' split at a
  all_goals (first|cases a|skip)
  have f:=qQ (one d)
  simp_all
 |makeSlice t x y =>
  simp only[jJ]at a |-;repeat' split at a
  all_goals (first|cases a|skip)
  have f:=qQ (one d)
  simp_all
 |range=>simp[jJ]at a
 |makeMap=>simp[jJ]at a
 |next=>simp[jJ]at a
 |insert=>simp[jJ]at a
 |lookup=>simp[jJ]at a
 |load t x =>
  simp only[jJ]at a |-;repeat' split at a
  all_goals (first|cases a|skip)
  .have f:=one d;simp_all
  .simp_all
 |store t x y =>
  simp only[jJ]at a |-;repeat' split at a
  all_goals (first|cases a|skip)
  have f:=one d;simp_all
 |nilCheck x =>
  simp only[jJ]at a |-;repeat' split at a
  all_goals (first|cases a|skip)
  .have f:=one d;simp_all
  all_goals simp_all
 |fieldAddr t x k =>
  simp only[jJ]at a |-;repeat' split at a
  all_goals (first|cases a|skip)
  .have f:=one d;simp_all
  all_goals simp_all
 |indexAddr t x ix =>
  simp only[jJ]at a |-;repeat' split at a
  all_goals (first|cases a|skip)
  .simp_all
  .have f:=one d;simp_all
  .have f:=one d;simp_all
  .simp_all
  .have f:=one d;simp_all
  .simp_all
 |slice t x q u p =>
  simp only[jJ]at a |-;split at a
  .repeat' split at a
   all_goals (first|cases a|skip)
   .have f:=Ip (x:=ρ x) d
    simp_all
   .have f:=one d
    simp_all
   .have f:=one d
    simp_all
   .simp_all
  .repeat' split at a
   all_goals (first|cases a|skip)
   .simp_all
   .have f:=one d;simp_all
   .simp_all
 |call c =>
  obtain⟨g,args,j⟩:=c;cases g with
  |builtin b =>
   cases b with
   |append =>
    simp only[jJ]at a |-;split at a
    .split at a
     .rename_i x y t o m l e
      first|(rw[if_pos e];exact PG a d)|(rw[m,l];simp only;rw[if_pos e];exact PG a d)
     .cases a
    .cases a
   |len =>
    simp only[jJ]at a |-;repeat' split at a
    all_goals (first|cases a|skip)
    .rename_i x t m l _ e s _ bG v
     have f:=Ip (x:=ρ x) d
     simp_all
    .simp_all [jX]
    .simp_all [jX]
    .simp_all
   |max=>exact a
   |min=>exact a
   |clear=>simp[jJ]at a
   |_=>simp[jJ]at a
  |_=>simp[jJ]at a
 |_=>exact a
def ak7 [Bk] [Ev] {op:Op} {h:AH} {r:AR} (a:jJ P op ρ h nx=some r):∀id∈r.bZ.map (·.1),id∈r.xC:=by
 cases op with
 |call c =>
  obtain⟨d,args,f⟩:=c;cases d with
  |builtin b =>
   cases b with
   |append =>
    simp only[jJ]at a;split at a
    .split at a
     .unfold vC at a
      repeat' split at a
      all_goals (first|cases a|skip)
      rename_i j _ _;obtain⟨i,g⟩:=XS j;intro id e;simp only[a03,a0m,g,a0r,a1x,a05]at e;rcases e with h|h
      .simp[i,h]
      .simp[h]
     .cases a
    .cases a
   |_ =>
    simp only[jJ]at a;try (repeat' split at a)
    all_goals (first|cases a|skip)
    all_goals simp
  |_=>simp[jJ]at a
 |_ =>
  simp only[jJ]at a;try (repeat' split at a)
  all_goals (first|cases a|skip)
  all_goals simp
end
end Mc
end Go.Proofs.YtnepgggkgnckcaaGreat
