/-
 Texts joined and made small by wip/small.sh.
-/
import Derived.WalkKit
import Derived.Orders
import Derived.Maps.AppendAt
import Derived.Below
import Derived.Great.BuildSlice
import Derived.Laws.MakeOwn
import Derived.Laws.CopyRow
import Derived.IntWalk
import Derived.Laws.Slices
import Derived.Laws.OwnMore
import Derived.Laws.StructEq
import Derived.OrdersIn
import Derived.RangeFuncRecord
import Derived.MapKept
set_option linter.all false
set_option maxHeartbeats 4000000
namespace Go.Proofs.YtnepgggkgnckcaaGreat
def a0a:=@List.mem_of_getElem?
def a0b:=@List.not_mem_nil
def a0c:=@List.mem_cons
def a0d:=@List.getElem?_eq_getElem
def a0e:=@Bool.and_eq_true
def a0f:=@Int.le_refl
def a0g:=@Option.some.injEq
def a0h:=@Nat.le_refl
def a0i:=@List.all_eq_true
def a0j:=@Nat.zero_le
def a0k:=@List.getD_eq_getElem?_getD
def a0l:=@List.mem_map
def a0m:=@List.mem_append
def a0n:=@List.take_add_one
def a0o:=@List.getElem?_map
def a0p:=@Int.mul_nonneg
def a0q:=@Option.map_some
def a0r:=@List.getElem?_set
def a0s:=@Nat.lt_of_lt_of_le
def a0t:=@List.length_cons
def a0u:=@Nat.lt_or_ge
def a0v:=@List.mem_range
def a0w:=@Int.toNat_natCast
def a0x:=@List.sum_cons
def a0y:=@List.getElem?_eq_some_iff
def a0z:=@List.length_map
def a00:=@Nat.zero_add
def a01:=@List.map_cons
def a02:=@Int.mul_assoc
def a03:=@List.mem_cons_of_mem
def a04:=@List.take_length
def a05:=@List.mem_or_eq_of_mem_set
def a06:=@List.map_set
def a07:=@List.mem_singleton
def a08:=@List.filter_append
def a09:=@List.map_append
def a1a:=@Nat.mul_le_mul_right
def a1b:=@Option.map_eq_some_iff
def a1c:=@List.map_congr_left
def a1d:=@List.mem_cons_self
def a1e:=@Nat.le_trans
def a1f:=@Option.bind_some
def a1g:=@Int.add_zero
def a1h:=@Int.toNat_of_nonneg
def a1i:=@List.append_nil
def a1j:=@List.mem_iff_getElem?
def a1k:=@List.getElem?_eq_none
def a1l:=@List.take_of_length_le
def a1m:=@List.length_set
def a1n:=@List.any_eq_true
def a1o:=@List.forall_mem_cons
def a1p:=@Array.getElem?_append
def a1q:=@List.mem_replicate
def a1r:=@List.length_append
def a1s:=@Int.mul_le_mul_of_nonneg_left
def a1t:=@Prod.mk.injEq
def a1u:=@List.getElem?_append_right
def a1v:=@List.mem_flatMap
def a1w:=@Bool.or_eq_true
def a1x:=@List.map_nil
def a1y:=@List.sum_nil
def a1z:=@Option.map_none
def a10:=@Int.mul_comm
def a11:=@List.getElem?_take
def a12:=@List.pairwise_cons
def a13:=@List.pairwise_append
def a14:=@List.length_eq_zero_iff
def a15:=@List.range_succ
def a16:=@Int.mul_add
def a17:=@Int.le_trans
def a18:=@List.getElem?_append_left
def a19:=@Nat.succ_mul
def a2a:=@List.cons_append
def a2b:=@Bool.false_eq_true
def a2c:=@List.take_append_drop
def a2d:=@Int.emod_nonneg
def a2e:=@List.any_eq_false
def a2f:=@List.length_take
def a2g:=@Int.mul_le_mul_of_nonneg_right
def a2h:=@List.mem_of_mem_take
def a2i:=@List.map_map
def a2j:=@Int.ediv_nonneg
def a2k:=@List.filter_cons
def a2l:=@List.sum_append
def a2m:=@Int.add_mul
def a2n:=@Array.getElem?_eq_some_iff
def a2o:=@Nat.add_zero
def a2p:=@Nat.add_assoc
def a2q:=@List.flatten_cons
def a2r:=@Nat.sub_self
def a2s:=@Int.zero_add
def a2t:=@List.getElem_cons_drop
def a2u:=@List.map_id
def a2v:=@Nat.mul_comm
def a2w:=@List.length_nil
def a2x:=@List.mem_of_mem_drop
def a2y:=@Option.getD_some
def a2z:=@List.pairwise_lt_range
def a20:=@Int.lt_or_le
def a21:=@Int.ediv_le_of_le_mul
def a22:=@List.ext_getElem
def a23:=@Int.add_assoc
def a24:=@Int.emod_lt_of_pos
def a25:=@List.foldl_cons
def a26:=@List.getElem?_drop
def a27:=@Nat.mod_lt
def a28:=@List.length_pos_iff
def a29:=@Option.isSome_iff_exists
def a3a:=@List.zip_cons_cons
def a3b:=@List.flatMap_cons
def a3c:=@List.getElem?_set_self
def a3d:=@List.getElem_mem
def a3e:=@List.drop_length
def a3f:=@List.getElem?_eq_none_iff
def a3g:=@Int.min_eq_left
def a3h:=@Int.min_eq_right
def a3i:=@Int.add_le_add_left
def a3j:=@List.map_eq_nil_iff
def a3k:=@List.isEmpty_iff
def a3l:=@List.getElem?_set_ne
def a3m:=@List.getElem_of_mem
def a3n:=@Nat.add_mul
def a3o:=@Nat.div_add_mod
def a3p:=@List.exists_cons_of_ne_nil
def a3q:=@Nat.le_mul_of_pos_right
def a3r:=@List.length_eq_one_iff
def a3s:=@Array.getElem?_replicate
def a3t:=@List.append_assoc
def a3u:=@Bool.not_eq_true'
def a3v:=@List.nil_append
def a3w:=@List.ext_getElem?
def a3x:=@List.drop_eq_getElem_cons
def a3y:=@Int.mul_ediv_add_emod
def a3z:=@Bool.eq_iff_iff
def a30:=@Nat.eq_zero_or_pos
def a31:=@List.filter_eq_nil_iff
def a32:=@List.length_filter_le
def a33:=@Int.natCast_nonneg
def a34:=@List.mem_map_of_mem
def a35:=@List.getElem?_cons_zero
def a36:=@Nat.zero_mul
def a37:=@Nat.mod_eq_of_lt
def a38:=@List.range'_succ
def a39:=@Nat.lt_of_le_of_lt
def a4a:=@List.nodup_cons
def a4b:=@List.nodup_append
def a4c:=@List.perm_ext_iff_of_nodup
def a4d:=@List.nodup_range
def a4e:=@List.length_range
def a4f:=@List.mem_append_left
def a4g:=@List.mem_append_right
def a4h:=@List.getElem?_cons_succ
def a4i:=@List.all_cons
def a4j:=@Int.emod_eq_of_lt
def a4k:=@List.take_succ_eq_append_getElem
def a4l:=@List.eq_nil_of_length_eq_zero
def a4m:=@List.drop_eq_nil_of_le
def a4n:=@List.drop_eq_nil_iff
def a4o:=@List.findIdx?_eq_some_iff_getElem
def a4p:=@List.findIdx?_eq_none_iff
def a4q:=@Bool.not_eq_false
def a4r:=@List.filter_map
def a4s:=@List.filter_cons_of_pos
def a4t:=@Int.ediv_one
def a4u:=@List.set_append_right
def a4v:=@List.set_cons_zero
def a4w:=@Int.mul_le_mul_of_nonpos_right
def a4x:=@Nat.div_lt_iff_lt_mul
def a4y:=@List.getElem?_replicate
def a4z:=@Int.sub_mul_emod_self_left
def a40:=@Nat.two_pow_add_eq_or_of_lt
def a41:=@List.getElem?_take_of_lt
def a42:=@Int.le_ediv_of_mul_le
def a43:=@Array.getElem?_eq_none
def a44:=@List.mem_take_iff_getElem
def a45:=@Array.getD_eq_getD_getElem?
def a46:=@List.filter_cons_of_neg
def a47:=@Int.nonneg_of_mul_nonneg_left
open Go.RowKit
namespace Mc
abbrev Poly:=List (List Nat×Int)
def uA (ρ:Nat->Int):List Nat->Int
 |[]=>1
 |i::m=>ρ i*uA ρ m
def cQ (ρ:Nat->Int):Poly->Int
 |[]=>0
 |t::p=>t.2*uA ρ t.1+cQ ρ p
def ltM:List Nat->List Nat->Bool
 |[],[]=>false
 |[],_::_=>true
 |_::_,[]=>false
 |a::x,b::y=>if a=b then ltM x y else decide (a<b)
def akm (i:Nat):List Nat->List Nat
 |[]=>[i]
 |j::m=>if i<=j then i::j::m else j::akm i m
def ahS:List Nat->List Nat->List Nat
 |[],y=>y
 |i::x,y=>akm i (ahS x y)
def pins (m:List Nat) (c:Int):Poly->Poly
 |[]=>if c=0 then[]else[(m,c)]
 |t::q=>if m=t.1 then(if c+t.2=0 then q else(m,c+t.2)::q)else if ltM m t.1 then(m,c)::t::q else t::pins m c q
def wA:Poly->Poly->Poly
 |[],q=>q
 |t::p,q=>pins t.1 t.2 (wA p q)
def qV (k:Int) (p:Poly):Poly:=if k=0 then[]else p.map fun t=>(t.1,k*t.2)
def Ty (m:List Nat) (c:Int):Poly->Poly
 |[]=>[]
 |t::q=>pins (ahS m t.1) (c*t.2) (Ty m c q)
def agC:Poly->Poly->Poly
 |[],_=>[]
 |t::p,q=>wA (Ty t.1 t.2 q) (agC p q)
def yZ (n:Int):Poly:=if n=0 then[]else[([],n)]
def rM (p q:Poly):Poly:=wA (qV (-1) q) p
section
variable {ρ:Nat->Int}
def TT (i:Nat):∀m,uA ρ (akm i m)=ρ i*uA ρ m
 |[]=>rfl
 |j::m=>by
  unfold akm;split
  .rfl
  .simp only[uA,TT i m]
   rw[<-a02,<-a02,a10 (ρ j)]
def TS:∀x y,uA ρ (ahS x y)=uA ρ x*uA ρ y
 |[],y=>by simp[ahS,uA]
 |i::x,y=>by rw[ahS,TT,TS x y,uA,a02]
def MJ (m:List Nat) (c:Int):∀q,cQ ρ (pins m c q)=c*uA ρ m+cQ ρ q
 |[]=>by
  grind[pins,cQ]
 |t::q=>by
  unfold pins;split
  .rename_i h
   subst h;split
   .rename_i h
    simp only[cQ];have:c*uA ρ t.1+(t.2*uA ρ t.1+cQ ρ q)=(c+t.2)*uA ρ t.1+cQ ρ q:=by rw[a2m];omega
    rw[this,h];simp
   .simp only[cQ];rw[a2m];omega
  .split
   .rfl
   .simp only[cQ,MJ m c q];omega
def qK:∀p q,cQ ρ (wA p q)=cQ ρ p+cQ ρ q
 |[],q=>by simp[wA,cQ]
 |t::p,q=>by rw[wA,MJ,qK p q,cQ];omega
def ac8 (k:Int):∀p:Poly,cQ ρ (p.map fun t=>(t.1,k*t.2))=k*cQ ρ p
 |[]=>by simp[cQ]
 |t::p=>by
  simp_all[cQ,ac8,a16,a02]
def xP (k:Int) (p:Poly):cQ ρ (qV k p)=k*cQ ρ p:=by
 unfold qV;split
 .simp_all[cQ]
 .exact ac8 k p
def OY (m:List Nat) (c:Int):∀q,cQ ρ (Ty m c q)=c*uA ρ m*cQ ρ q
 |[]=>by simp[Ty,cQ]
 |t::q=>by
  rw[Ty,MJ,OY m c q,TS,cQ,a16];congr 1;rw[a02,a02,<-a02 t.2,a10 t.2,a02]
def Tz:∀p q,cQ ρ (agC p q)=cQ ρ p*cQ ρ q
 |[],q=>by simp[agC,cQ]
 |t::p,q=>by rw[agC,qK,OY,Tz p q,cQ,a2m]
def sY (n:Int):cQ ρ (yZ n)=n:=by
 grind[yZ,cQ,uA]
theorem iA (p q:Poly):cQ ρ (rM p q)=cQ ρ p-cQ ρ q:=by
 rw[rM,qK,xP];omega
end
inductive AV where
 |c (v:Value)
 |undef
 |emp
 |agg (cs:List AV)
 |bG (vs:List AV)
 |lit (sz:Nat) (bL:List (List AV))
 |own (T sz id i n:Nat)
 |ptr (sz id i off:Nat)
 |iZ (sz:Nat) (bL:List (List AV)) (i off:Nat)
 |fn (f:Fn) (first captured:List AV)
 |rG (t:TypeId) (v:AV)
 |e (p:Poly)
 |row (n:Poly) (xs:List Poly)
 |o (i:Nat)
 |yld (id:Nat)
 |mpv (id:Nat)
 |view (T sz id i n:Nat)
 |any
 |seq (sz base:Nat) (cJ:List (Poly×List AV)) (tail:List (List AV))
 |vD (sz base:Nat) (cJ:List (Poly×List AV)) (tail:List (List AV)) (p:Poly) (off:Nat)
 |cZ (T sz id:Nat) (n:Poly)
 |nP (sz id:Nat) (p:Poly) (off:Nat)
 |pT
def evT (ρ:Nat->Int):List Nat×Int->Int
 |([],c)=>c
 |([i],c)=>if c=1 then ρ i else if c=-1 then -ρ i else c*ρ i
 |t=>t.2*uA ρ t.1
def evG (ρ:Nat->Int):Int->Poly->Int
 |a,[]=>a
 |a,t::p=>evG ρ (match t with
  |([i],c)=>if c=1 then a+ρ i else if c=-1 then a-ρ i else a+c*ρ i
  |t=>a+t.2*uA ρ t.1) p
def evP (ρ:Nat->Int):Poly->Int
 |[]=>0
 |t::p=>evG ρ (evT ρ t) p
def aiq (ρ:Nat->Int) (t:List Nat×Int):evT ρ t=t.2*uA ρ t.1:=by
 unfold evT;grind[uA]
def air (ρ:Nat->Int):∀(p:Poly) (a:Int),evG ρ a p=a+cQ ρ p
 |[],a=>by simp[evG,cQ]
 |t::p,a=>by
  have h:=aiq ρ t;simp only[evG,cQ,air ρ p];split
  .simp only[evT]at h
   simp only[uA,Int.mul_one]at h |-;split
   .rename_i k;subst k;omega
   .split
    .rename_i k;subst k;omega
    .omega
  .omega
theorem xV (ρ:Nat->Int) (p:Poly):evP ρ p=cQ ρ p:=by
 cases p<;>simp_all[evP,cQ,air,aiq]
def afz {α:Type} (l:List α):List α->List α
 |[]=>l
 |x::t=>l++x::t
theorem Sw {α:Type} (l t:List α):afz l t=l++t:=by cases t<;>simp[afz]
def AM (ρ:Nat->Int) (a:Nat->Value) (b:Nat->List (List AV)):Nat->AV->AV
 |0,x=>x
 |k+1,x=>match x with
  | .e p=>.c (.int .i64 (evP ρ p))
  | .o i=>.c (a i)
  | .agg cs=>.agg (cs.map (AM ρ a b k))
  | .bG cs=>.bG (cs.map (AM ρ a b k))
  | .lit d bL=>.lit d (bL.map (·.map (AM ρ a b k)))
  | .seq d base cJ tail=>.lit d (afz ((cJ.map fun q=>(q.1,q.2.map (AM ρ a b k))).foldl (fun l q=>l.set (evP ρ q.1).toNat q.2) (b base)) (tail.map (·.map (AM ρ a b k))))
  | .rG t v=>.rG t (AM ρ a b k v)
  |x=>x
def mW:Nat->AV->Bool
 |0,_=>true
 |k+1,x=>match x with
  | .agg cs=>cs.all (mW k)
  | .bG cs=>cs.all (mW k)
  | .lit _ bL=>bL.all (·.all (mW k))
  | .seq _ _ cJ tail=>cJ.isEmpty&&tail.all (·.all (mW k))
  | .rG _ v=>mW k v
  |_=>true
inductive Cl:AV->Prop
 |c (v:Value):Cl (.c v)
 |undef:Cl .undef
 |emp:Cl .emp
 |any:Cl .any
 |agg (cs:List AV) (h:∀x∈cs,Cl x):Cl (.agg cs)
 |bG (cs:List AV) (h:∀x∈cs,Cl x):Cl (.bG cs)
 |lit (sz:Nat) (bL:List (List AV)) (h:∀e∈bL,∀x∈e,Cl x):Cl (.lit sz bL)
 |rG (t:TypeId) (x:AV) (h:Cl x):Cl (.rG t x)
def Cl.den {ρ:Nat->Int} {b:Nat->Value} {c:Nat->List (List AV)} {x:AV} (h:Cl x):∀k,AM ρ b c k x=x:=by
 have mp:∀(l:List AV) (g:AV->AV),(∀x∈l,g x=x)->l.map g=l:=fun l g f=>by
  conv=>rhs;rw[<-a2u l]
  exact a1c f
 induction h with
 |agg cs h a=>intro k;cases k<;>simp_all[AM]
 |bG cs h a=>intro k;cases k<;>simp_all[AM]
 |lit j bL h a=>intro k;cases k with
  |zero=>rfl
  |succ k =>
   simp only[AM];congr 1
   conv=>rhs;rw[<-a2u bL]
   exact a1c fun e i=>mp e _ fun x d=>a e i x d k
 |rG t x h a=>intro k;cases k<;>simp_all[AM]
 |_=>intro k;cases k<;>rfl
class Bk where
 vars:List (Int×Int):=[]
 facts:List (Poly×Int×Int):=[]
 defs:List (Nat×Poly×Poly×Poly):=[]
 ext:List (Nat×List Poly×List Poly):=[]
 yes:List Nat:=[]
 bR:List (Nat×List AV×AV):=[]
 mS:List (Nat×List Int):=[]
 kinds:List Bool:=[]
 lens:List (Nat×Poly):=[]
 gI:List (Nat×Poly×List AV):=[]
 afj:List (Nat×Nat×Nat):=[]
def Bk.var [Bk] (i:Nat):Int×Int:=Bk.vars.getD i (0,0)
class Ev [Bk] where
 xs:List Int
 vars:∀i,(Bk.var i).1<=xs.getD i 0/\xs.getD i 0<=(Bk.var i).2
 facts:∀t∈Bk.facts,t.2.1<=cQ (fun i=>xs.getD i 0) t.1/\cQ (fun i=>xs.getD i 0) t.1<=t.2.2
 defs:∀t∈Bk.defs,(t.1=0->cQ (fun i=>xs.getD i 0) t.2.2.2=(cQ (fun i=>xs.getD i 0) t.2.1).tdiv (cQ (fun i=>xs.getD i 0) t.2.2.1)) /\
  (t.1=1->cQ (fun i=>xs.getD i 0) t.2.2.2=(cQ (fun i=>xs.getD i 0) t.2.1).tmod (cQ (fun i=>xs.getD i 0) t.2.2.1)) /\
  (t.1=2->cQ (fun i=>xs.getD i 0) t.2.2.2=max (cQ (fun i=>xs.getD i 0) t.2.1) (cQ (fun i=>xs.getD i 0) t.2.2.1))
 LU:List Value
 anC:∀v∈LU,v.oneCell'=true
 kin:∀i b,Bk.kinds[i]?=some b->(b=true->∃s,LU.getD i (.bool false)=.string s)/\(b=false->∃c,LU.getD i (.bool false)=.bool c)
 C7:List (List (List AV))
 anp:∀t∈Bk.lens,((C7.getD t.1 []).length:Int)=cQ (fun i=>xs.getD i 0) t.2
 sat:∀t∈Bk.gI,0<=cQ (fun i=>xs.getD i 0) t.2.1/\(C7.getD t.1 [])[(cQ (fun i=>xs.getD i 0) t.2.1).toNat]?=some (t.2.2.map (AM (fun i=>xs.getD i 0) (fun i=>LU.getD i (.bool false)) (fun i=>C7.getD i []) 12))/\t.2.2.all (mW 12)=true
 spl:∀l∈C7,∀r∈l,∀x∈r,Cl x
 cat:∀t∈Bk.afj,C7.getD t.2.2 []=C7.getD t.1 []++C7.getD t.2.1 []
def Ev.eZ [Bk] [Ev]:Nat->Int:=fun i=>Ev.xs.getD i 0
section
variable [Bk] [Ev]
def Ev.seq (i:Nat):List (List AV):=Ev.C7.getD i []
def rowsOf [Bk] [Ev] (base:Nat) (cJ:List (Poly×List AV)) (tail:List (List AV)):List (List AV):=cJ.foldl (fun l q=>l.set (cQ Ev.eZ q.1).toNat q.2) (Ev.seq base)++tail
def InB (base:Nat) (p:Poly):Prop:=0<=cQ Ev.eZ p/\(cQ Ev.eZ p).toNat<(Ev.seq base).length
def kM [Bk] [Ev] (base:Nat) (cJ:List (Poly×List AV)) (tail:List (List AV)):(rowsOf base cJ tail).length=(Ev.seq base).length+tail.length:=by
 unfold rowsOf;rw[a1r];congr 1
 have:∀(cJ:List (Poly×List AV)) (l:List (List AV)),(cJ.foldl (fun l q=>l.set (cQ Ev.eZ q.1).toNat q.2) l).length=l.length:=by
  intro cJ;induction cJ<;>simp_all
 simp_all
def den [Bk] [Ev] (k:Nat) (x:AV):AV:=AM Ev.eZ (fun i=>Ev.LU.getD i (.bool false)) Ev.seq k x
def Ev.vF [Bk] [Ev] (i:Nat):∀r∈Ev.seq i,∀x∈r,Cl x:=by
 unfold Ev.seq;rw[List.getD];cases h:(Ev.C7)[i]? with
 |none=>simp_all
 |some l=>exact Ev.spl l (a0a h)
def adT (k sz base:Nat) (cJ:List (Poly×List AV)) (tail:List (List AV)):den (k+1) (.seq sz base cJ tail)=.lit sz ((rowsOf base cJ tail).map (·.map (den k))):=by
 have d:(Ev.seq base).map (·.map (den k))=Ev.seq base:=by
  conv=>rhs;rw[<-a2u (Ev.seq base)]
  refine a1c fun e b=>?_;show e.map (den k)=id e
  conv=>rhs;rw[id,<-a2u e]
  exact a1c fun x a=>(Ev.vF base e b x a).den k
 have c:∀(cJ:List (Poly×List AV)) (l:List (List AV)),(cJ.map fun q=>(q.1,q.2.map (den k))).foldl (fun l q=>l.set (evP Ev.eZ q.1).toNat q.2) (l.map (·.map (den k)))=(cJ.foldl (fun l q=>l.set (cQ Ev.eZ q.1).toNat q.2) l).map (·.map (den k)):=by
  intro cJ;induction cJ<;>grind[List.map_set,xV]
 show AV.lit sz (afz ((cJ.map fun q=>(q.1,q.2.map (den k))).foldl (fun l q=>l.set (evP Ev.eZ q.1).toNat q.2) (Ev.seq base)) (tail.map (·.map (den k))))=_
 grind[Sw,rowsOf]
def Ev.val [Bk] [Ev] (i:Nat):Value:=Ev.LU.getD i (.bool false)
def Ev.val_one (i:Nat):(Ev.val i).oneCell'=true:=by
 unfold Ev.val;rw[List.getD];cases h:(Ev.LU)[i]? with
 |none=>rfl
 |some v=>exact Ev.anC v (a0a h)
def aih (a b:Int×Int):Int×Int:=(min (min (a.1*b.1) (a.1*b.2)) (min (a.2*b.1) (a.2*b.2)),max (max (a.1*b.1) (a.1*b.2)) (max (a.2*b.1) (a.2*b.2)))
def abB {x a b y:Int} (h1:a<=x) (c:x<=b):x*y<=max (a*y) (b*y):=by
 rcases Int.le_total 0 y with h|h
 .exact a17 (a2g c h) (Int.le_max_right _ _)
 .exact a17 (a4w h1 h) (Int.le_max_left _ _)
def abC {x a b y:Int} (h1:a<=x) (c:x<=b):min (a*y) (b*y)<=x*y:=by
 rcases Int.le_total 0 y with h|h
 .exact a17 (Int.min_le_left _ _) (a2g h1 h)
 .exact a17 (Int.min_le_right _ _) (a4w c h)
def adD {a b:Int×Int} {x y:Int} (d:a.1<=x/\x<=a.2) (c:b.1<=y/\y<=b.2):(aih a b).1<=x*y/\x*y<=(aih a b).2:=by
 have u:=abB (y:=y) d.1 d.2;have l:=abC (y:=y) d.1 d.2;have f:=abB (y:=a.1) c.1 c.2;have h:=abC (y:=a.1) c.1 c.2;have e:=abB (y:=a.2) c.1 c.2;have g:=abC (y:=a.2) c.1 c.2
 grind[aih]
def ak3 [Bk]:List Nat->Int×Int
 |[]=>(1,1)
 |i::m=>aih (Bk.var i) (ak3 m)
def ad6:∀m,(ak3 m).1<=uA Ev.eZ m/\uA Ev.eZ m<=(ak3 m).2
 |[]=>⟨a0f _,a0f _⟩
 |i::m=>adD (Ev.vars i) (ad6 m)
def afn [Bk]:Poly->Int×Int
 |[]=>(0,0)
 |t::p=>let b:=aih (t.2,t.2) (ak3 t.1);let r:=afn p;(b.1+r.1,b.2+r.2)
def So:∀p,(afn p).1<=cQ Ev.eZ p/\cQ Ev.eZ p<=(afn p).2
 |[]=>⟨a0f _,a0f _⟩
 |t::p=>by
  have c:=adD (a:=(t.2,t.2)) (x:=t.2) ⟨a0f _,a0f _⟩ (ad6 t.1);have b:=So p;grind[afn,cQ]
def narrow (p:Poly):List (Poly×Int×Int)->Int×Int->Int×Int
 |[],b=>b
 |t::l,b=>narrow p l (if t.1=p then(max b.1 t.2.1,min b.2 t.2.2)else if qV (-1) t.1=p then(max b.1 (-t.2.2),min b.2 (-t.2.1))else b)
def FV {ρ:Nat->Int} (p:Poly):∀(l:List (Poly×Int×Int)) (b:Int×Int),(∀t∈l,t.2.1<=cQ ρ t.1/\cQ ρ t.1<=t.2.2)->b.1<=cQ ρ p/\cQ ρ p<=b.2->(narrow p l b).1<=cQ ρ p/\cQ ρ p<=(narrow p l b).2
 |[],b,_,h=>h
 |t::l,b,c,h=>by
  refine FV p l _ (fun t a=>c t (a03 _ a)) ?_;have a:=c t a1d;split
  .grind
  .split
   .rename_i e
    have:=xP (ρ:=ρ) (-1) t.1
    grind
   .exact h
def content:Poly->Nat
 |[]=>0
 |t::p=>Nat.gcd t.2.natAbs (content p)
def pM:Poly->Int×Poly
 |([],c)::r=>(c,r)
 |p=>(0,p)
def aey {ρ:Nat->Int} (p:Poly):cQ ρ p=(pM p).1+cQ ρ (pM p).2:=by
 unfold pM;grind[cQ,uA]
def bnd [Bk] (p:Poly):Int×Int :=
 let c:=pM p
 match c.2 with
 |[]=>(c.1,c.1)
 |q =>
  let g:=content q;let r:=q.map fun t=>(t.1,t.2/(g:Int))
  if qV g r=q then let b:=narrow r Bk.facts (afn r);(c.1+g*b.1,c.1+g*b.2)
  else let b:=narrow q Bk.facts (afn q);(c.1+b.1,c.1+b.2)
def Ii (p:Poly):(bnd p).1<=cQ Ev.eZ p/\cQ Ev.eZ p<=(bnd p).2:=by
 have hs:=aey (ρ:=Ev.eZ) p;unfold bnd;simp only;split
 .simp_all[cQ]
 .split
  .rename_i h
   have e:=xP (ρ:=Ev.eZ) (content (pM p).2:Int) ((pM p).2.map fun t=>(t.1,t.2/(content (pM p).2:Int)));rw[h]at e;have k:=FV ((pM p).2.map fun t=>(t.1,t.2/(content (pM p).2:Int))) Bk.facts _ Ev.facts (So _);have b:=a1s k.1 (a33 (content (pM p).2));have a:=a1s k.2 (a33 (content (pM p).2));simp only;change cQ Ev.eZ (pM p).2=_*cQ Ev.eZ _ at e;constructor
   .rw[hs,e];exact a3i b _
   .rw[hs,e];exact a3i a _
  .have k:=FV (pM p).2 Bk.facts _ Ev.facts (So _)
   simp only;constructor
   .rw[hs];exact a3i k.1 _
   .rw[hs];exact a3i k.2 _
def mD [Bk] (p:Poly):Bool:=let b:=bnd p;decide (-9223372036854775808<=b.1)&&decide (b.2<9223372036854775808)
def abT {p:Poly} (h:mD p=true):-9223372036854775808<=cQ Ev.eZ p/\cQ Ev.eZ p<9223372036854775808:=by
 have k:=Ii p;grind[mD]
def TW [Bk] (p:Poly):Option Bool:=let b:=bnd p;if b.2<0 then some true else if 0<=b.1 then some false else none
def pS {p:Poly} {b:Bool} (h:TW p=some b):b=decide (cQ Ev.eZ p<0):=by
 have k:=Ii p;grind[TW]
def eqB [Bk] (p:Poly):Option Bool:=let b:=bnd p;if b.2<0 then some false else if 0<b.1 then some false else if b.1=0/\b.2=0 then some true else none
def Ib {p:Poly} {b:Bool} (h:eqB p=some b):b=decide (cQ Ev.eZ p=0):=by
 have k:=Ii p;grind[eqB]
def findD (k:Nat) (p q:Poly):List (Nat×Poly×Poly×Poly)->Option Poly
 |[]=>none
 |t::l=>if t.1=k/\t.2.1=p/\t.2.2.1=q then some t.2.2.2 else findD k p q l
def EM {k:Nat} {p q r:Poly}:∀{l:List (Nat×Poly×Poly×Poly)},findD k p q l=some r->(k,p,q,r)∈l
 |[],h=>by cases h
 |t::l,h=>by
  unfold findD at h;split at h
  .grind
  .exact a03 _ (EM h)
def nzB [Bk] (p:Poly):Bool:=let b:=bnd p;decide (b.2<0)||decide (0<b.1)
def ahK {p:Poly} (h:nzB p=true):cQ Ev.eZ p≠0:=by
 have k:=Ii p;grind[nzB]
end
abbrev dK:Bk:={}
def ais (i:Nat):(@Bk.var dK i).1<=(([]:List Int).getD i 0)/\(([]:List Int).getD i 0)<=(@Bk.var dK i).2:=by
 show((([]:List (Int×Int)).getD i (0,0)).1<=_)/\(_<=(([]:List (Int×Int)).getD i (0,0)).2);simp
abbrev dN:@Ev dK:=@Ev.mk dK [] ais (fun t h=>absurd h a0b) (fun t h=>absurd h a0b) [] (fun v h=>absurd h a0b) (fun i b h=>by cases h) [] (fun t h=>absurd h a0b) (fun t h=>absurd h a0b) (fun l h=>absurd h a0b) (fun t h=>absurd h a0b)
end Mc
namespace Mc
variable {A:Nat->Prop} {w':World} {id T base off:Nat} {cs:List AV} {α:Type} {x:Operand}
def AV.one:AV->Bool
 | .c v=>v.oneCell'
 | .undef | .agg _ | .bG _ | .pT=>false
 |_=>true
inductive St where
 |no|dead|uB|at (b:Nat)
def iE (bL:List (List AV)) (i j:Nat):Option AV:=(bL[i]?).bind (·[j]?)
def gW (w:World) (b:Nat):Nat:=match w.heap[b]? with|some (.cells c _ _)=>c.size|_=>0
inductive eE [Bk] [Ev] (A:Nat->Prop) (w:World):AV->Value->Prop
 |c (v:Value):eE A w (.c v) v
 |undef:eE A w .undef Go.undef
 |emp (a:Option Addr):eE A w .emp (.slice a 0 0)
 |agg (cs:List AV) (vs:Array Value) (hl:vs.size=cs.length) (h1:∀(i:Nat) (x:AV),cs[i]?=some x->x.one=true) (h:∀(i:Nat) (x:AV),cs[i]?=some x->eE A w x (vs.getD i Go.undef)):eE A w (.agg cs) (.agg vs)
 |bG (cs:List AV) (vs:Array Value) (hl:vs.size=cs.length) (h:∀(i:Nat) (x:AV),cs[i]?=some x->eE A w x (vs.getD i Go.undef)):eE A w (.bG cs) (.tuple vs)
 |lit (sz:Nat) (bL:List (List AV)) (b off cap:Nat) (vs:Nat->Nat->Value) (hA:¬ A b) (hb:b<w.heap.size) (hc:bL.length<=cap/\cap<=maxLen) (hsz:∀e∈bL,e.length=sz)
   (h1:∀(i j:Nat) (x:AV),iE bL i j=some x->x.one=true) (hv:∀(i j:Nat) (x:AV),iE bL i j=some x->w.cell? ⟨b,off+(i*sz+j),none⟩=some (vs i j)) (h:∀(i j:Nat) (x:AV),iE bL i j=some x->eE A w x (vs i j)) :
   eE A w (.lit sz bL) (.slice (some ⟨b,off,none⟩) bL.length cap)
 |nR (sz:Nat) (a:Option Addr) (cap:Nat) (hm:cap<=maxLen):eE A w (.lit sz []) (.slice a 0 cap)
 |iZ (sz:Nat) (bL:List (List AV)) (i0 j0 b off:Nat) (vs:Nat->Nat->Value) (hA:¬ A b) (hb:b<w.heap.size) (hsz:∀e∈bL,e.length=sz)
   (h1:∀(i j:Nat) (x:AV),iE bL i j=some x->x.one=true) (hv:∀(i j:Nat) (x:AV),iE bL i j=some x->w.cell? ⟨b,off+(i*sz+j),none⟩=some (vs i j)) (h:∀(i j:Nat) (x:AV),iE bL i j=some x->eE A w x (vs i j)) :
   eE A w (.iZ sz bL i0 j0) (.pointer (some ⟨b,off+(i0*sz+j0),none⟩))
 |fn (f:Fn) (xs ys:List AV) (vs us:Array Value) (hl:vs.size=xs.length) (hk:us.size=ys.length) (h:∀(i:Nat) (x:AV),xs[i]?=some x->eE A w x (vs.getD i Go.undef)) (g:∀(i:Nat) (x:AV),ys[i]?=some x->eE A w x (us.getD i Go.undef)) :
   eE A w (.fn f xs ys) (.func f vs us)
 |rG (t:TypeId) (x:AV) (v:Value) (h:eE A w x v):eE A w (.rG t x) (.iface t v)
 |e (p:Poly):eE A w (.e p) (.int .i64 (cQ Ev.eZ p))
 |row (n:Poly) (xs:List Poly) (b off len cap:Nat) (hn:cQ Ev.eZ n=len) (hc:len<=cap) (hA:¬ A b) (hb:b<w.heap.size) (hv:∀(j:Nat) (p:Poly),xs[j]?=some p->j<len->w.cell? ⟨b,off+j,none⟩=some (.int .i64 (cQ Ev.eZ p))) :
   eE A w (.row n xs) (.slice (some ⟨b,off,none⟩) len cap)
 |Tg (n:Poly) (xs:List Poly) (a:Option Addr) (cap:Nat) (hn:cQ Ev.eZ n=0):eE A w (.row n xs) (.slice a 0 cap)
 |o (i:Nat):eE A w (.o i) (Ev.val i)
 |any (v:Value) (h1:v.oneCell'=true):eE A w .any v
 |seq (sz base:Nat) (cJ:List (Poly×List AV)) (tail:List (List AV)) (v:Value) (hin:∀q∈cJ,InB base q.1) (h1:v.oneCell'=true) (h:eE A w (.lit sz (rowsOf base cJ tail)) v):eE A w (.seq sz base cJ tail) v
 |vD (sz base:Nat) (cJ:List (Poly×List AV)) (tail:List (List AV)) (p:Poly) (off:Nat) (v:Value) (hin:∀q∈cJ,InB base q.1) (h1:v.oneCell'=true) (hp:0<=cQ Ev.eZ p) (h:eE A w (.iZ sz (rowsOf base cJ tail) (cQ Ev.eZ p).toNat off) v):eE A w (.vD sz base cJ tail p off) v
 |pT (v:Value):eE A w .pT v
theorem eE.one [Bk] [Ev] {w:World} {x:AV} {v:Value} (h:eE A w x v) (h1:x.one=true):v.oneCell'=true:=by
 cases h<;>first|exact h1|rfl|exact Ev.val_one _|assumption|simp_all[AV.one]
def eE.mono [Bk] [Ev] {A H:Nat->Prop} {w w':World} (hs:w.heap.size<=w'.heap.size) (D:∀b,b<w.heap.size->¬ A b->¬ H b/\w'.heap[b]?=w.heap[b]?) {x:AV} {v:Value} (h:eE A w x v):eE H w' x v:=by
 have q:∀b o,b<w.heap.size->¬ A b->w'.cell? ⟨b,o,none⟩=w.cell? ⟨b,o,none⟩:=fun b o g z=>World.cell?_of_block (D b g z).2
 induction h with
 |c v=>exact .c v
 |undef=>exact .undef
 |emp a=>exact .emp a
 |agg cs vs B k _ d=>exact .agg cs vs B k d
 |bG cs vs B _ d=>exact .bG cs vs B d
 |lit m bL b off cap vs l g E y k u _ d =>
  exact .lit m bL b off cap vs (D b g l).1 (a0s g hs) E y k (fun i j x s=>(q b _ g l).trans (u i j x s)) d
 |nR m a cap l=>exact .nR m a cap l
 |iZ m bL L K b off vs l g y k u _ d =>
  exact .iZ m bL L K b off vs (D b g l).1 (a0s g hs) y k (fun i j x s=>(q b _ g l).trans (u i j x s)) d
 |fn f r I vs J B N _ _ G F=>exact .fn f r I vs J B N G F
 |rG t x v _ d=>exact .rG t x v d
 |e p=>exact .e p
 |row n r b off len cap z E l g u=>exact .row n r b off len cap z E (D b g l).1 (a0s g hs) fun j p s O=>(q b _ g l).trans (u j p s O)
 |Tg n r a cap z=>exact .Tg n r a cap z
 |o i=>exact .o i
 |any v k=>exact .any v k
 |seq m base cJ tail v C k _ d=>exact .seq m base cJ tail v C k d
 |vD m base cJ tail p off v C k M _ d=>exact .vD m base cJ tail p off v C k M d
 |pT v=>exact .pT v
def Av (m:Nat->St) (A:Nat->Prop):Nat->Prop:=fun b=>A b\/∃id,m id=.at b
inductive Rd [Bk] [Ev] (m:Nat->St) (A:Nat->Prop) (w:World):AV->Value->Prop
 |pure (x:AV) (v:Value) (h:eE (Av m A) w x v):Rd m A w x v
 |agg (cs:List AV) (vs:Array Value) (hl:vs.size=cs.length) (h1:∀(i:Nat) (x:AV),cs[i]?=some x->x.one=true) (h:∀(i:Nat) (x:AV),cs[i]?=some x->Rd m A w x (vs.getD i Go.undef)):Rd m A w (.agg cs) (.agg vs)
 |bG (cs:List AV) (vs:Array Value) (hl:vs.size=cs.length) (h:∀(i:Nat) (x:AV),cs[i]?=some x->Rd m A w x (vs.getD i Go.undef)):Rd m A w (.bG cs) (.tuple vs)
 |own (T sz id i n b cap:Nat) (hm:m id=.at b) (hb:b<w.heap.size) (hn:n<=cap) (hc:cap<=maxLen) (hr:(i+cap)*sz=gW w b):Rd m A w (.own T sz id i n) (.slice (some ⟨b,i*sz,none⟩) n cap)
 |vJ (T sz id i:Nat) (a:Option Addr) (hm:m id=.uB):Rd m A w (.own T sz id i 0) (.slice a 0 0)
 |wC (T sz id i n:Nat) (a:Option Addr) (n' cap:Nat) (hm:m id=.dead):Rd m A w (.own T sz id i n) (.slice a n' cap)
 |ptr (sz id i off b:Nat) (hm:m id=.at b) (hb:b<w.heap.size):Rd m A w (.ptr sz id i off) (.pointer (some ⟨b,i*sz+off,none⟩))
 |N6 (sz id i off:Nat) (a:Option Addr) (hm:m id=.dead):Rd m A w (.ptr sz id i off) (.pointer a)
 |fn (f:Fn) (xs ys:List AV) (vs us:Array Value) (hl:vs.size=xs.length) (hk:us.size=ys.length) (h:∀(i:Nat) (x:AV),xs[i]?=some x->Rd m A w x (vs.getD i Go.undef)) (g:∀(i:Nat) (x:AV),ys[i]?=some x->Rd m A w x (us.getD i Go.undef)) :
   Rd m A w (.fn f xs ys) (.func f vs us)
 |rG (t:TypeId) (x:AV) (v:Value) (h:Rd m A w x v):Rd m A w (.rG t x) (.iface t v)
 |yld (id b:Nat) (hm:m id=.at b):Rd m A w (.yld id) (.func (.yield b) #[] #[])
 |aau (id b:Nat) (hm:m id=.dead):Rd m A w (.yld id) (.func (.yield b) #[] #[])
 |mpv (id b:Nat) (hm:m id=.at b):Rd m A w (.mpv id) (.map (some b))
 |abD (id b:Nat) (hm:m id=.dead):Rd m A w (.mpv id) (.map (some b))
 |view (T sz id i n b cap:Nat) (hm:m id=.at b):Rd m A w (.view T sz id i n) (.slice (some ⟨b,i*sz,none⟩) n cap)
 |CU (T sz id i n:Nat) (a:Option Addr) (cap:Nat) (hm:m id=.dead):Rd m A w (.view T sz id i n) (.slice a n cap)
 |cZ (T sz id:Nat) (n:Poly) (b len cap:Nat) (hm:m id=.at b) (hb:b<w.heap.size) (hl:cQ Ev.eZ n=len) (hn:len<=cap) (hc:cap<=maxLen) (hr:cap*sz=gW w b):Rd m A w (.cZ T sz id n) (.slice (some ⟨b,0,none⟩) len cap)
 |uH (T sz id:Nat) (n:Poly) (a:Option Addr) (hm:m id=.uB) (hn:cQ Ev.eZ n=0):Rd m A w (.cZ T sz id n) (.slice a 0 0)
 |uI (T sz id:Nat) (n:Poly) (a:Option Addr) (n' cap:Nat) (hm:m id=.dead):Rd m A w (.cZ T sz id n) (.slice a n' cap)
 |nP (sz id:Nat) (p:Poly) (off b:Nat) (hm:m id=.at b) (hb:b<w.heap.size):Rd m A w (.nP sz id p off) (.pointer (some ⟨b,(cQ Ev.eZ p).toNat*sz+off,none⟩))
 |AT (sz id:Nat) (p:Poly) (off:Nat) (a:Option Addr) (hm:m id=.dead):Rd m A w (.nP sz id p off) (.pointer a)
theorem Rd.one [Bk] [Ev] {m:Nat->St} {w:World} {x:AV} {v:Value} (h:Rd m A w x v) (h1:x.one=true):v.oneCell'=true:=by
 cases h<;>first|rfl|exact eE.one ‹_› h1|simp_all[AV.one]
structure Ext (m:Nat->St) (w:World) (m':Nat->St) (w':World):Prop where
 os:w'.os=w.os
 tape:w'.tape=w.tape
 output:w'.output=w.output
 size:w.heap.size<=w'.heap.size
 at_:∀id b,m id=.at b->m' id=.at b\/m' id=.dead
 dead:∀id,m id=.dead->m' id=.dead
 uB:∀id,m id=.uB->m' id=.uB\/m' id=.dead
 un:∀b,b<w.heap.size->(∀id,m id≠.at b)->(∀id,m' id≠.at b)/\w'.heap[b]?=w.heap[b]?
 rows:∀id b,m id=.at b->m' id=.at b->gW w' b=gW w b
def Ext.refl [Bk] [Ev] (m:Nat->St) (w:World):Ext m w m w:=⟨rfl,rfl,rfl,a0h _,fun _ _ h=>.inl h,fun _ h=>h,fun _ h=>.inl h,fun _ _ h=>⟨h,rfl⟩,fun _ _ _ _=>rfl⟩
def Ext.trans [Bk] [Ev] {m:Nat->St} {w:World} {j:Nat->St} {g:Nat->St} {f:World} (h:Ext m w j w') (k:Ext j w' g f):Ext m w g f:=by
 refine⟨k.os.trans h.os,k.tape.trans h.tape,k.output.trans h.output,a1e h.size k.size,?_,fun id o=>k.dead id (h.dead id o),fun id l=>(h.uB id l).elim (k.uB id) (fun d=>.inr (k.dead id d)),?_,?_⟩
 .intro id b i
  rcases h.at_ id b i with a|a
  .exact k.at_ id b a
  .exact .inr (k.dead id a)
 .intro b i n
  obtain⟨a,e⟩:=h.un b i n;obtain⟨q,p⟩:=k.un b (by grind) a
  simp_all
 .intro id b a e
  rcases h.at_ id b a with c|c
  .exact(k.rows id b c e).trans (h.rows id b a c)
  .rw[k.dead id c]at e;cases e
theorem Rd.ext [Bk] [Ev] {m:Nat->St} {w:World} {r:Nat->St} (E:Ext m w r w') {x:AV} {v:Value} (h:Rd m A w x v):Rd r A w' x v:=by
 induction h with
 |pure x v h =>
  refine .pure x v (h.mono E.size fun b e g=>?_);have z:=E.un b e (fun id y=>g (.inr ⟨id,y⟩));exact⟨fun k=>k.elim (fun k=>g (.inl k)) (fun⟨id,k⟩=>z.1 id k),z.2⟩
 |agg cs vs j G _ l=>exact .agg cs vs j G l
 |bG cs vs j _ l=>exact .bG cs vs j l
 |own T d id i n b cap c e g q o =>
  rcases E.at_ id b c with h|h
  .exact .own T d id i n b cap h (a0s e E.size) g q (o.trans (E.rows id b c h).symm)
  .exact .wC T d id i n _ _ _ h
 |vJ T d id i a c =>
  rcases E.uB id c with h|h
  .exact .vJ T d id i a h
  .exact .wC T d id i 0 a 0 0 h
 |wC T d id i n a n' cap c=>exact .wC T d id i n a n' cap (E.dead id c)
 |ptr d id i off b c e =>
  rcases E.at_ id b c with h|h
  .exact .ptr d id i off b h (a0s e E.size)
  .exact .N6 d id i off _ h
 |N6 d id i off a c=>exact .N6 d id i off a (E.dead id c)
 |fn f C B vs D j F _ _ u s=>exact .fn f C B vs D j F u s
 |rG t x v _ l=>exact .rG t x v l
 |yld id b c =>
  rcases E.at_ id b c with h|h
  .exact .yld id b h
  .exact .aau id b h
 |aau id b c=>exact .aau id b (E.dead id c)
 |mpv id b c =>
  rcases E.at_ id b c with h|h
  .exact .mpv id b h
  .exact .abD id b h
 |abD id b c=>exact .abD id b (E.dead id c)
 |view T d id i n b cap c =>
  rcases E.at_ id b c with h|h
  .exact .view T d id i n b cap h
  .exact .CU T d id i n _ _ h
 |CU T d id i n a cap c=>exact .CU T d id i n a cap (E.dead id c)
 |cZ T d id n b len cap c e j g q o =>
  rcases E.at_ id b c with h|h
  .exact .cZ T d id n b len cap h (a0s e E.size) j g q (o.trans (E.rows id b c h).symm)
  .exact .uI T d id n _ _ _ h
 |uH T d id n a c g =>
  rcases E.uB id c with h|h
  .exact .uH T d id n a h g
  .exact .uI T d id n a 0 0 h
 |uI T d id n a n' cap c=>exact .uI T d id n a n' cap (E.dead id c)
 |nP d id p off b c e =>
  rcases E.at_ id b c with h|h
  .exact .nP d id p off b h (a0s e E.size)
  .exact .AT d id p off _ h
 |AT d id p off a c=>exact .AT d id p off a (E.dead id c)
inductive LS where
 |ready|busy|done (c:Code)
def LS.st:LS->LoopState
 | .ready=>.ready
 | .busy=>.busy
 | .done _=>.done
def LS.pe:LS->Option Code
 | .done c=>some c
 |_=>none
inductive dC where
 |no|dead|cells (T sz:Nat) (bL:List (List AV))|lp (st:LS) (f:List AV) (ps:Array Tmp) (assign body:Code)
 |it (s:ByteArray) (pos:Nat)|mp (es:List (Int×AV))
 |sc (T sz base:Nat) (cJ:List (Poly×List AV)) (tail:List (List AV)) (n:Poly)
def dC.bL [Bk] [Ev]:dC->Option (Nat×Nat×List (List AV))
 | .cells T a bL=>some (T,a,bL)
 | .sc T a base cJ tail _=>some (T,a,rowsOf base cJ tail)
 |_=>none
def sA [Bk] [Ev]:dC->Prop
 | .sc _ _ base cJ tail n=>cQ Ev.eZ n=((rowsOf base cJ tail).length:Int)/\∀q∈cJ,InB base q.1
 |_=>True
def dC.other:dC->Bool
 | .lp .. | .it .. | .mp ..=>true
 |_=>false
section
variable [Bk] [Ev]
def ajo (m:Nat->St) (A:Nat->Prop) (w:World) (b:Nat) (st:LS) (f:List AV) (ps:Array Tmp) (a body:Code):Prop :=
 ∃L:Loop,w.heap[b]?=some (.loop L)/\L.state=st.st/\L.pending=st.pe/\L.params=ps/\L.assign=a/\L.body=body/\L.tmps.size=f.length/\∀(i:Nat) (x:AV),f[i]?=some x->Rd m A w x (L.tmps.getD i Go.undef)
theorem ajo.ext {m c:Nat->St} {w:World} {b:Nat} {st:LS} {f:List AV} {ps:Array Tmp} {a body:Code} (h:ajo m A w b st f ps a body) (E:Ext m w c w') (e:w'.heap[b]?=w.heap[b]?):ajo c A w' b st f ps a body:=by
 obtain⟨L,q,p,o,n,l,k,j,g⟩:=h;exact⟨L,e.trans q,p,o,n,l,k,j,fun i x d=>(g i x d).ext E⟩
def yF (m:Nat->St) (A:Nat->Prop) (w:World) (b:Nat):dC->Prop
 | .lp st f ps as bd=>ajo m A w b st f ps as bd
 | .it s c=>w.heap[b]?=some (.stringIter s c)
 | .mp es=>∃(ms:Array MapEntry) (a:Nat),w.heap[b]?=some (.map ms a)/\ms.size=es.length/\∀(i:Nat) (k:Int) (x:AV),es[i]?=some (k,x)->∃e,ms[i]?=some e/\e.key=.int .i64 k/\Rd m A w x e.val
 |_=>False
theorem yF.ext {m d:Nat->St} {w:World} {b:Nat} {B:dC} (h:yF m A w b B) (E:Ext m w d w') (c:w'.heap[b]?=w.heap[b]?):yF d A w' b B:=by
 cases B with
 |lp st f ps as bd=>exact ajo.ext h E c
 |it s o=>exact c.trans h
 |mp es =>
  obtain⟨ms,a,n,l,j⟩:=h;refine⟨ms,a,c.trans n,l,fun i k x g=>?_⟩
  obtain⟨e,g1,g2,g3⟩:=j i k x g;exact⟨e,g1,g2,g3.ext E⟩
 |_=>exact h
def yF.lt {m:Nat->St} {w:World} {b:Nat} {B:dC} (h:yF m A w b B):b<w.heap.size:=by
 cases B with
 |lp st f ps as bd=>obtain⟨L,c,-⟩:=h;grind
 |it s d=>exact(a2n.1 h).1
 |mp es=>obtain⟨ms,a,c,-⟩:=h;grind
 |_=>exact h.elim
end
def GOk [Bk] (A:Nat->Prop) (w:World):Prop:=∀t∈Bk.mS,A t.1/\t.1<w.heap.size/\∀(j:Nat) (v:Int),t.2[j]?=some v->w.cell? ⟨t.1,j,none⟩=some (.int .u8 v)
theorem GOk.ext [Bk] {m:Nat->St} {w:World} {f:Nat->St} (g:GOk A w) (out:∀id b,m id=.at b->¬ A b) (E:Ext m w f w'):GOk A w':=by
 intro t i;obtain⟨e,d,l⟩:=g t i;have k:=(E.un t.1 d fun id c=>out id t.1 c e).2;exact⟨e,a0s d E.size,fun j v h=>(World.cell?_of_block (a:=⟨t.1,j,none⟩) k).trans (l j v h)⟩
structure dV [Bk] [Ev] (m:Nat->St) (A:Nat->Prop) (h:Nat->dC) (w:World):Prop where
 out:∀id b,m id=.at b->¬ A b
 old:∀b,A b->b<w.heap.size
 no:∀id,h id=.no->m id=.no
 dead:∀id,h id=.dead->m id=.dead
 wQ:∀id T sz bL,(h id).bL=some (T,sz,bL)->(m id=.uB/\bL=[])\/∃b cs,m id=.at b/\w.heap[b]?=some (.cells cs T (0,0))/\bL.length*sz<=cs.size/\(∀e∈bL,e.length=sz) /\
  ∀(i j:Nat) (x:AV),iE bL i j=some x->x.one=true/\Rd m A w x (cs.getD (i*sz+j) Go.undef)
 inj:∀i j b,m i=.at b->m j=.at b->i=j
 mS:GOk A w
 others:∀id B,h id=B->B.other=true->∃b,m id=.at b/\yF m A w b B
 scs:∀id,sA (h id)
section
variable [Bk] [Ev]
def dV.cells {m:Nat->St} {h:Nat->dC} {w:World} (H:dV m A h w) (id T sz:Nat) (bL:List (List AV)) (a:h id=.cells T sz bL):(m id=.uB/\bL=[])\/∃b cs,m id=.at b/\w.heap[b]?=some (.cells cs T (0,0))/\bL.length*sz<=cs.size/\(∀e∈bL,e.length=sz) /\
  ∀(i j:Nat) (x:AV),iE bL i j=some x->x.one=true/\Rd m A w x (cs.getD (i*sz+j) Go.undef):=H.wQ id T sz bL (by rw[a];rfl)
def dV.nZ {m a:Nat->St} {h h':Nat->dC} {w:World} (H:dV m A h w) (E:Ext m w a w') (k:∀id B,h' id=B->B.other=true->h id=B/\∀b,m id=.at b->a id=.at b/\w'.heap[b]?=w.heap[b]?) :
  ∀id B,h' id=B->B.other=true->∃b,a id=.at b/\yF a A w' b B:=by
 intro id B i c;obtain⟨g,f⟩:=k id B i c;obtain⟨b,l,j⟩:=H.others id B g c;obtain⟨e,d⟩:=f b l;exact⟨b,e,j.ext E d⟩
def dV.lt {m:Nat->St} {h:Nat->dC} {w:World} (H:dV m A h w) {b:Nat} (d:m id=.at b):b<w.heap.size:=by
 cases c:h id with
 |no=>rw[H.no id c]at d;cases d
 |dead=>rw[H.dead id c]at d;cases d
 |cells T i bL =>
  obtain⟨a,-⟩|⟨g,cs,a,e,-⟩:=H.cells id T i bL c<;>grind
 |lp st f ps j body =>
  obtain⟨g,a,e⟩:=H.others id _ c rfl;rw[d]at a;cases a;exact e.lt
 |sc T i base cJ tail n =>
  obtain⟨a,-⟩|⟨g,cs,a,e,-⟩:=H.wQ id T i _ (by rw[c];rfl)<;>grind
 |it s k =>
  obtain⟨g,a,e⟩:=H.others id _ c rfl;rw[d]at a;cases a;exact e.lt
 |mp es =>
  obtain⟨g,a,e⟩:=H.others id _ c rfl;rw[d]at a;cases a;exact e.lt
theorem dC.Au {B:dC} {t:Nat×Nat×List (List AV)} (h:B.bL=some t):B.other=false:=by cases B<;>first|rfl|simp_all[dC.bL]
theorem dC.aeR {B:dC} (h:B.other=true):B.bL=none:=by cases B<;>first|rfl|simp_all[dC.other]
def dC.zP {B:dC} {t:Nat×Nat×List (List AV)} (h:B.bL=some t):B≠.no/\B≠.dead:=by grind[dC.bL]
def gO (h:Nat->dC) (id:Nat) (b:dC):Nat->dC:=fun k=>if k=id then b else h k
theorem Az (h:Nat->dC) (id:Nat) (b:dC):gO h id b id=b:=by simp[gO]
theorem lP (h:Nat->dC) {k:Nat} (b:dC) (a:k≠id):gO h id b k=h k:=by grind[gO]
def sA.set {h:Nat->dC} {B:dC} (H:∀id,sA (h id)) (a:sA B):∀k,sA (gO h id B k):=by
 grind[gO]
def sset (m:Nat->St) (id:Nat) (s:St):Nat->St:=fun k=>if k=id then s else m k
def kJ {bL:List (List AV)} {sz i j:Nat} {x:AV} (h:iE bL i j=some x) (b:∀e∈bL,e.length=sz):i<bL.length/\j<sz/\i*sz+j<bL.length*sz:=by
 unfold iE at h;cases a:bL[i]? with
 |none=>simp_all
 |some e =>
  rw[a]at h;simp only[a1f]at h;have c:i<bL.length:=(a0y.1 a).1;have f:j<e.length:=(a0y.1 h).1;have d:e.length=sz:=b e (a0a a);refine⟨c,by omega,?_⟩;have:(i+1)*sz<=bL.length*sz:=a1a _ c
  grind
def dV.block {m:Nat->St} {h:Nat->dC} {w:World} (H:dV m A h w) {sz i:Nat} {bL:List (List AV)} {e:List AV} (a:h id=.cells T sz bL) (c:bL[i]?=some e) :
  ∃b cs,m id=.at b/\w.heap[b]?=some (.cells cs T (0,0))/\bL.length*sz<=cs.size/\(∀e∈bL,e.length=sz)/\∀(i j:Nat) (x:AV),iE bL i j=some x->x.one=true/\Rd m A w x (cs.getD (i*sz+j) Go.undef):=by
 obtain⟨-,rfl⟩|h:=H.cells id T sz bL a<;>simp_all
def Ext.Ew {m:Nat->St} {h:Nat->dC} {w:World} (H:dV m A h w) (g:Below w.heap.size w w'):Ext m w m w':=by
 have a:∀b,b<w.heap.size->w'.heap[b]?=w.heap[b]?:=g.block;exact⟨g.os,g.tape,g.output,g.size,fun _ _ h=>.inl h,fun _ h=>h,fun _ h=>.inl h,fun b d c=>⟨c,a b d⟩,fun id b e f=>by simp[gW,a b (H.lt e)]⟩
def dV.below [Bk] [Ev] {m:Nat->St} {A:Nat->Prop} {h:Nat->dC} {w w':World} (H:dV m A h w) (g:Below w.heap.size w w'):dV m A h w':=by
 have E:=Ext.Ew H g;refine⟨H.out,fun b a=>by have:=H.old b a;have:=g.size;omega,H.no,H.dead,?_,H.inj,H.mS.ext H.out E,H.nZ E fun id B c q=>⟨c,fun b a=>⟨a,g.block b (H.lt a)⟩⟩,H.scs⟩;intro id T k bL c;obtain p|⟨b,cs,f,o,n,l,e⟩:=H.wQ id T k bL c
 .simp_all
 exact .inr ⟨b,cs,f,(g.block b (H.lt f)).trans o,n,l,fun i j x d=>⟨(e i j x d).1,(e i j x d).2.ext E⟩⟩
def dV.ajd {m:Nat->St} {h:Nat->dC} {w:World} (H:dV m A h w) {sz:Nat} {bL:List (List AV)} {cs:Array Value} {B:dC} (n:B.bL=some (T,sz,bL)) (C:sA B) (q:h id=.no) (F:bL.length*sz<=cs.size) (D:∀e∈bL,e.length=sz)
  (s:∀(i j:Nat) (x:AV),iE bL i j=some x->x.one=true/\Rd m A w x (cs.getD (i*sz+j) Go.undef)) :
  dV (sset m id (.at w.heap.size)) A (gO h id B) (w.alloc (.cells cs T))/\Ext m w (sset m id (.at w.heap.size)) (w.alloc (.cells cs T)):=by
 have y:=H.no id q;have K:∀k b,m k=.at b->b<w.heap.size:=fun k b f=>H.lt f
 have v:∀b,b<w.heap.size->(w.alloc (.cells cs T)).heap[b]?=w.heap[b]?:=fun b f=>by
  show(w.heap.push _)[b]?=_
  grind
 have E:Ext m w (sset m id (.at w.heap.size)) (w.alloc (.cells cs T)):=by
  refine⟨rfl,rfl,rfl,by simp,?_,?_,?_,?_,?_⟩<;>grind[sset,gW]
 refine⟨⟨?_,fun b f=>by have:=H.old b f;grind,?_,?_,?_,?_,H.mS.ext H.out E,H.nZ E fun J B1 M L=>?_,sA.set H.scs C⟩,E⟩
 .intro k b a r
  unfold sset at a;split at a
  .cases a;have:=H.old _ r;omega
  .exact H.out k b a r
 .intro k a
  unfold gO at a;unfold sset;split at a
  .exact absurd a (dC.zP n).1
  .rename_i c;rw[if_neg c];exact H.no k a
 .intro k a
  unfold gO at a;unfold sset;split at a
  .exact absurd a (dC.zP n).2
  .rename_i c;rw[if_neg c];exact H.dead k a
 .intro k I p o a
  unfold gO at a;split at a
  .rename_i z
   rw[n]at a;cases a;subst z;refine .inr ⟨w.heap.size,cs,by simp[sset],?_,F,D,fun i j x d=>⟨(s i j x d).1,(s i j x d).2.ext E⟩⟩;show(w.heap.push _)[w.heap.size]?=_;simp
  .rename_i c
   obtain⟨g1,g2⟩|⟨b,u,g1,g2,g3,G,t⟩:=H.wQ k I p o a
   .simp_all[sset]
   refine .inr ⟨b,u,by simp_all[sset],?_,g3,G,fun i j x d=>⟨(t i j x d).1,(t i j x d).2.ext E⟩⟩
   grind
 .intro i j b l g
  unfold sset at l g;split at l<;>split at g
  .omega
  .grind
  .grind
  .exact H.inj i j b l g
 grind[gO,dC.Au,sset]
def dV.alloc {m:Nat->St} {h:Nat->dC} {w:World} (H:dV m A h w) {sz:Nat} {bL:List (List AV)} {cs:Array Value} (a:h id=.no) (d:bL.length*sz<=cs.size) (c:∀e∈bL,e.length=sz)
  (b:∀(i j:Nat) (x:AV),iE bL i j=some x->x.one=true/\Rd m A w x (cs.getD (i*sz+j) Go.undef)) :
  dV (sset m id (.at w.heap.size)) A (gO h id (.cells T sz bL)) (w.alloc (.cells cs T))/\Ext m w (sset m id (.at w.heap.size)) (w.alloc (.cells cs T)) :=
 H.ajd rfl trivial a d c b
def dV.afL {m:Nat->St} {h:Nat->dC} {w:World} (H:dV m A h w) {sz b:Nat} {els':List (List AV)} {cs cs':Array Value} {B:dC} (p:B.bL=some (T,sz,els')) (I:sA B) (l:m id=.at b)
  (C:w'.heap[b]?=some (.cells cs' T (0,0))) (N:w.heap[b]?=some (.cells cs T (0,0))) (O:cs'.size=cs.size) (d:∀k,k≠b->w'.heap[k]?=w.heap[k]?) (u:w'.os=w.os) (D:w'.tape=w.tape) (F:w'.output=w.output) (z:w'.heap.size=w.heap.size)
  (K:els'.length*sz<=cs'.size) (J:∀e∈els',e.length=sz) (v:∀(i j:Nat) (x:AV),iE els' i j=some x->x.one=true/\Rd m A w x (cs'.getD (i*sz+j) Go.undef)) :
  dV m A (gO h id B) w'/\Ext m w m w':=by
 have E:Ext m w m w':=by
  refine⟨u,D,F,by omega,fun _ _ h=>.inl h,fun _ h=>h,fun _ h=>.inl h,?_,?_⟩<;>grind[gW]
 refine⟨⟨H.out,fun b l=>by have:=H.old b l;omega,?_,?_,?_,H.inj,H.mS.ext H.out E,H.nZ E fun t B1 o P=>?_,sA.set H.scs I⟩,E⟩
 .intro k a
  unfold gO at a;split at a
  .exact absurd a (dC.zP p).1
  .exact H.no k a
 .intro k a
  unfold gO at a;split at a
  .exact absurd a (dC.zP p).2
  .exact H.dead k a
 .intro k M s n a
  unfold gO at a;split at a
  .rename_i G
   rw[p]at a;cases a;subst G;exact .inr ⟨b,cs',l,C,K,J,fun i j x c=>⟨(v i j x c).1,(v i j x c).2.ext E⟩⟩
  .rename_i f
   obtain g|⟨r,q,g1,g2,g3,L,y⟩:=H.wQ k M s n a
   .simp_all
   refine .inr ⟨r,q,g1,?_,g3,L,fun i j x c=>⟨(y i j x c).1,(y i j x c).2.ext E⟩⟩;rw[d r (by rintro rfl;exact f (H.inj k id r g1 l))];exact g2
 .unfold gO at o
  split at o
  .simp_all[dC.Au]
  .rename_i f
   exact⟨o,fun k a=>⟨a,d k (by rintro rfl;exact f (H.inj t id k a l))⟩⟩
def dV.write {m:Nat->St} {h:Nat->dC} {w:World} (H:dV m A h w) {sz b:Nat} {bL els':List (List AV)} {cs cs':Array Value} (t:h id=.cells T sz bL) (p:m id=.at b)
  (l:w'.heap[b]?=some (.cells cs' T (0,0))) (d:w.heap[b]?=some (.cells cs T (0,0))) (f:cs'.size=cs.size) (c:∀k,k≠b->w'.heap[k]?=w.heap[k]?) (g:w'.os=w.os) (n:w'.tape=w.tape) (o:w'.output=w.output) (a:w'.heap.size=w.heap.size)
  (s:els'.length*sz<=cs'.size) (r:∀e∈els',e.length=sz) (q:∀(i j:Nat) (x:AV),iE els' i j=some x->x.one=true/\Rd m A w x (cs'.getD (i*sz+j) Go.undef)) :
  dV m A (gO h id (.cells T sz els')) w'/\Ext m w m w' :=
 H.afL rfl trivial p l d f c g n o a s r q
def dV.drew {m:Nat->St} {h:Nat->dC} {w:World} (H:dV m A h w):dV m A h w.drew/\Ext m w m w.drew:=by
 have b:Below w.heap.size w w.drew:=(Below.refl _ _).drew;exact⟨H.below b,Ext.Ew H b⟩
end
theorem rV {bL:List (List AV)} {g:AV->AV} (i j:Nat):iE (bL.map (·.map g)) i j=(iE bL i j).map g:=by
 grind[iE]
def pZ {bL:List (List AV)} {i j:Nat} {x:AV} (h:iE bL i j=some x):∃e∈bL,x∈e:=by
 unfold iE at h;cases a:bL[i]? with
 |none=>simp_all
 |some e =>
  rw[a]at h;exact⟨e,a0a a,a0a h⟩
section
variable [Bk] [Ev]
def oU:∀(k:Nat) (x:AV),(den k x).one=x.one
 |0,x=>rfl
 |k+1,x=>by
  cases x<;>first|rfl|exact Ev.val_one _
def eE.abN {w:World} {g:AV->AV} {sz:Nat} {bL:List (List AV)} (u:∀e∈bL,∀x∈e,∀v,eE A w x v->eE A w (g x) v) (h1:∀x,(g x).one=x.one) {v:Value} (h:eE A w (.lit sz bL) v):eE A w (.lit sz (bL.map (·.map g))) v:=by
 generalize c:AV.lit sz bL=y at h;cases h with
 |lit s es b off cap vs n m k p q r t =>
  cases c;have f:(bL.map (·.map g)).length=bL.length:=by simp
  rw[<-f]at k |-;refine .lit sz _ b off cap vs n m k ?_ ?_ ?_ ?_
  .simp_all
  .intro i j x d
   rw[rV]at d;obtain⟨y,c,rfl⟩:=a1b.1 d;grind
  .simp_all[rV]
  .intro i j x d
   rw[rV]at d;obtain⟨y,c,rfl⟩:=a1b.1 d;obtain⟨e,z,o⟩:=pZ c;grind
 |nR s a cap l =>
  cases c;exact .nR sz a cap l
 |_=>cases c
def eE.ah0 {w:World} {g:AV->AV} {sz:Nat} {bL:List (List AV)} (u:∀e∈bL,∀x∈e,∀v,eE A w (g x) v->eE A w x v) (h1:∀x,(g x).one=x.one) {v:Value} (h:eE A w (.lit sz (bL.map (·.map g))) v):eE A w (.lit sz bL) v:=by
 generalize c:AV.lit sz (bL.map (·.map g))=y at h;cases h with
 |lit s es b off cap vs o n k q l r t =>
  cases c;have d:(bL.map (·.map g)).length=bL.length:=by simp
  rw[d]at k |-;refine .lit sz bL b off cap vs o n k ?_ ?_ ?_ ?_
  .simp_all
  .intro i j x f
   have:=l i j (g x) (by simp_all[rV])
   simp_all
  .simp_all[rV]
  .intro i j x f
   obtain⟨e,z,p⟩:=pZ f;grind[rV]
 |nR s a cap m =>
  injection c with e1 e2;rw[a3j]at e2;subst e2;exact .nR sz a cap m
 |_=>cases c
def eE.aom {w:World} {g:AV->AV} (d:∀x∈cs,∀v,eE A w x v->eE A w (g x) v) (h1:∀x,(g x).one=x.one) {v:Value} (h:eE A w (.agg cs) v):eE A w (.agg (cs.map g)) v:=by
 cases h with
 |agg _ vs c a b =>
  refine .agg _ vs (by simp_all) ?_ ?_<;>grind
def eE.aon {w:World} {g:AV->AV} (d:∀x∈cs,∀v,eE A w (g x) v->eE A w x v) (h1:∀x,(g x).one=x.one) {v:Value} (h:eE A w (.agg (cs.map g)) v):eE A w (.agg cs) v:=by
 cases h with
 |agg _ vs e b c =>
  refine .agg cs vs (by simp_all) ?_ ?_
  .intro i x a
   have:=b i (g x) (by simp_all)
   simp_all
  .intro i x a
   exact d x (a0a a) _ (c i (g x) (by simp_all))
def eE.am6 {w:World} {g:AV->AV} (c:∀x∈cs,∀v,eE A w x v->eE A w (g x) v) {v:Value} (h:eE A w (.bG cs) v):eE A w (.bG (cs.map g)) v:=by
 cases h with
 |bG _ vs b a =>
  refine .bG _ vs (by simp_all) ?_
  grind
def eE.am7 {w:World} {g:AV->AV} (c:∀x∈cs,∀v,eE A w (g x) v->eE A w x v) {v:Value} (h:eE A w (.bG (cs.map g)) v):eE A w (.bG cs) v:=by
 cases h with
 |bG _ vs d b =>
  refine .bG cs vs (by simp_all) ?_;intro i x a;exact c x (a0a a) _ (b i (g x) (by simp_all))
def eE.MV [Bk] [Ev] {A:Nat->Prop} {w:World}:∀(k:Nat) (x:AV) (v:Value),eE A w x v->eE A w (den k x) v
 |0,x,v,h=>h
 |k+1,x,v,h=>by
  have m:∀(x:AV) (v:Value),eE A w x v->eE A w (den k x) v:=eE.MV k;cases h with
  |e p =>
   have:den (k+1) (.e p)=.c (.int .i64 (cQ Ev.eZ p)):=by rw[<-xV];rfl
   rw[this];exact .c _
  |o i=>exact .c _
  |agg cs vs u j d=>exact eE.aom (fun x _=>m x) (oU k) (.agg cs vs u j d)
  |bG cs vs u d=>exact eE.am6 (fun x _=>m x) (.bG cs vs u d)
  |lit l bL b off cap vs z y D s j r d=>exact eE.abN (fun e _ x _=>m x) (oU k) (.lit l bL b off cap vs z y D s j r d)
  |nR l a cap J=>exact eE.abN (fun e _ x _=>m x) (oU k) (.nR l a cap J)
  |seq l base cJ tail v B j d=>rw[adT];exact eE.abN (fun e _ x _=>m x) (oU k) d
  |rG t x v d=>exact .rG t _ v (m x v d)
  |c v=>exact .c v
  |undef=>exact .undef
  |emp a=>exact .emp a
  |iZ l bL H G b off vs z y s j r d=>exact .iZ l bL H G b off vs z y s j r d
  |fn f q E vs F u K h g=>exact .fn f q E vs F u K h g
  |row n q b off len cap C D z y r=>exact .row n q b off len cap C D z y r
  |Tg n q a cap C=>exact .Tg n q a cap C
  |any v j=>exact .any v j
  |vD l base cJ tail p off v B j I d=>exact .vD l base cJ tail p off v B j I d
  |pT v=>exact .pT v
def eE.Fs [Bk] [Ev] {A:Nat->Prop} {w:World}:∀(k:Nat) (x:AV) (v:Value),mW k x=true->eE A w (den k x) v->eE A w x v
 |0,x,v,_,h=>h
 |k+1,x,v,a,h=>by
  have f:∀(x:AV),mW k x=true->∀(v:Value),eE A w (den k x) v->eE A w x v:=fun x a v=>eE.Fs k x v a;cases x with
  |e p =>
   have h:eE A w (.c (.int .i64 (evP Ev.eZ p))) v:=h;rw[xV]at h;cases h;exact .e p
  |o i =>
   have h:eE A w (.c (Ev.val i)) v:=h;cases h;exact .o i
  |agg cs=>exact eE.aon (fun x d=>f x (a0i.1 a x d)) (oU k) h
  |bG cs=>exact eE.am7 (fun x d=>f x (a0i.1 a x d)) h
  |lit g bL=>exact eE.ah0 (fun e b x d=>f x (a0i.1 (a0i.1 a e b) x d)) (oU k) h
  |seq g base cJ tail =>
   simp only[mW,a0e,a3k]at a;obtain⟨rfl,a⟩:=a;rw[adT]at h;refine .seq g base [] tail v (fun q l=>absurd l a0b) (h.one rfl) (eE.ah0 (fun e b x d=>?_) (oU k) h);unfold rowsOf at b;rw[List.foldl_nil]at b;rcases a0m.1 b with b|b
   .intro v n
    have e1:den k x=x:=(Ev.vF base e b x d).den k
    simp_all
   grind
  |rG t y =>
   have m:eE A w (.rG t (den k y)) v:=h;cases m with|rG _ _ u j=>exact .rG t y u (f y a u j)
  |_=>exact h
def eE.cl {b1:Bk} {e1:@Ev b1} {b2:Bk} {e2:@Ev b2} {A:Nat->Prop} {w:World} {x:AV} (d:Cl x):∀{v:Value},@eE b1 e1 A w x v->@eE b2 e2 A w x v:=by
 induction d with
 |c u=>intro v h;cases h;exact .c u
 |undef=>intro v h;cases h;exact .undef
 |emp=>intro v h;cases h;exact .emp _
 |any=>intro v h;cases h with|any v g=>exact .any v g
 |agg cs l f =>
  intro v h;cases h with
  |agg _ vs m g k=>exact .agg cs vs m g fun i x d=>f x (a0a d) (k i x d)
 |bG cs l f =>
  intro v h;cases h with
  |bG _ vs m k=>exact .bG cs vs m fun i x d=>f x (a0a d) (k i x d)
 |lit n bL l f =>
  intro v h;cases h with
  |lit _ _ b off cap vs s r l o g p k =>
   refine .lit n bL b off cap vs s r l o g p fun i j x d=>?_;obtain⟨e,z,y⟩:=pZ d;grind
  |nR _ a cap q=>exact .nR n a cap q
 |rG t x d f =>
  intro v h;cases h with|rG _ _ v h=>exact .rG t x v (f h)
def Rd.cl [Bk] [Ev] {m:Nat->St} {A:Nat->Prop} {w:World} {x:AV} (a:Cl x):∀{v:Value},Rd m A w x v->eE (Av m A) w x v:=by
 induction a with
 |agg cs e b =>
  intro v h;cases h with
  |pure _ _ h=>exact h
  |agg _ vs d f c=>exact .agg cs vs d f fun i x a=>b x (a0a a) (c i x a)
 |bG cs e b =>
  intro v h;cases h with
  |pure _ _ h=>exact h
  |bG _ vs d c=>exact .bG cs vs d fun i x a=>b x (a0a a) (c i x a)
 |rG t x a b =>
  intro v h;cases h with
  |pure _ _ h=>exact h
  |rG _ _ v h=>exact .rG t x v (b h)
 |_=>intro v h;cases h with|pure _ _ h=>exact h
def aaA [Bk] (p:Poly):List (Poly×List AV)->Option (Option (List AV))
 |[]=>some none
 |q::l=>match aaA p l with
  |some (some r)=>some (some r)
  |none=>none
  |some none=>if q.1=p then some (some q.2)else match eqB (rM q.1 p)with
    |some true=>some (some q.2)
    |some false=>some none
    |none=>none
def ad9 (base:Nat) (p:Poly):List (Nat×Poly×List AV)->Option (List AV)
 |[]=>none
 |t::l=>if t.1=base/\t.2.1=p then some t.2.2 else ad9 base p l
def lenOf (base:Nat):List (Nat×Poly)->Option Poly
 |[]=>none
 |t::l=>if t.1=base then some t.2 else lenOf base l
def akj:Poly->Option Nat
 |[]=>some 0
 |[([],n)]=>if 0<=n then some n.toNat else none
 |_=>none
def rowAt [Bk] (base:Nat) (cJ:List (Poly×List AV)) (tail:List (List AV)) (p:Poly):Option (List AV) :=
 match aaA p cJ with
 |none=>none
 |some (some r)=>some r
 |some none=>match ad9 base p Bk.gI with
  |some r=>some r
  |none=>match lenOf base Bk.lens with
   |some n=>(akj (rM p n)).bind fun k=>tail[k]?
   |none=>none
def XY {base:Nat} {p:Poly} {r:List AV}:∀{l:List (Nat×Poly×List AV)},ad9 base p l=some r->(base,p,r)∈l
 |[],h=>by cases h
 |t::l,h=>by
  unfold ad9 at h;split at h
  .grind
  .exact a03 _ (XY h)
def T7 {base:Nat} {n:Poly}:∀{l:List (Nat×Poly)},lenOf base l=some n->(base,n)∈l
 |[],h=>by cases h
 |t::l,h=>by
  unfold lenOf at h;split at h
  .grind
  .exact a03 _ (T7 h)
def Ao {n:Poly} (h:lenOf base Bk.lens=some n):((Ev.seq base).length:Int)=cQ Ev.eZ n:=Ev.anp _ (T7 h)
def adw {ρ:Nat->Int} {p:Poly} {k:Nat} (h:akj p=some k):cQ ρ p=(k:Int):=by
 unfold akj at h;grind[cQ,uA]
def acx (x y:AV):Prop:=x=y\/(x=den 12 y/\Cl x/\mW 12 y=true)
def PI (r0 r:List AV):Prop:=r0.length=r.length/\∀(j:Nat) (y:AV),r[j]?=some y->∃x,r0[j]?=some x/\acx x y
def PI.refl [Bk] [Ev] (r:List AV):PI r r:=⟨rfl,fun j y h=>⟨y,h,.inl rfl⟩⟩
theorem acx.one {x y:AV} (h:acx x y):x.one=y.one:=by
 rcases h with rfl|⟨rfl,-⟩
 .rfl
 .exact oU 12 y
def acx.rdL {w:World} {x y:AV} {v:Value} (h:acx x y) (a:eE A w x v):eE A w y v:=by
 rcases h with rfl|⟨rfl,-,b⟩
 .exact a
 .exact eE.Fs 12 y v b a
def acx.rd {m:Nat->St} {w:World} {x y:AV} {v:Value} (h:acx x y) (a:Rd m A w x v):Rd m A w y v:=by
 rcases h with rfl|⟨rfl,c,b⟩
 .exact a
 .exact .pure _ _ (eE.Fs 12 y v b (a.cl c))
theorem Mj:∀(cJ:List (Poly×List AV)) (l:List (List AV)) (i:Nat),(∀q∈cJ,(cQ Ev.eZ q.1).toNat≠i)->(cJ.foldl (fun l q=>l.set (cQ Ev.eZ q.1).toNat q.2) l)[i]?=l[i]?
 |[],l,i,_=>rfl
 |q::cJ,l,i,h=>by
  rw[a25,Mj cJ _ i (fun q a=>h q (a03 _ a)),a3l (h q a1d)]
def acI {p:Poly} (i:0<=cQ Ev.eZ p):∀(cJ:List (Poly×List AV)) (l:List (List AV)),(∀q∈cJ,0<=cQ Ev.eZ q.1/\(cQ Ev.eZ q.1).toNat<l.length) ->
  (∀r,aaA p cJ=some (some r)->(cJ.foldl (fun l q=>l.set (cQ Ev.eZ q.1).toNat q.2) l)[(cQ Ev.eZ p).toNat]?=some r)/\(aaA p cJ=some none->∀q∈cJ,(cQ Ev.eZ q.1).toNat≠(cQ Ev.eZ p).toNat)
 |[],l,_=>⟨fun r h=>(by cases h),fun _ q h=>absurd h a0b⟩
 |q::cJ,l,e=>by
  have g:=e q a1d;obtain⟨n,m⟩:=acI i cJ (l.set (cQ Ev.eZ q.1).toNat q.2) (fun q g=>by grind)
  have j:∀r,aaA p cJ=some none->cQ Ev.eZ q.1=cQ Ev.eZ p->q.2=r->((q::cJ).foldl (fun l q=>l.set (cQ Ev.eZ q.1).toNat q.2) l)[(cQ Ev.eZ p).toNat]?=some r:=by
   grind[Mj]
  constructor
  .intro r b
   unfold aaA at b;split at b
   .simp_all
   .cases b
   .rename_i f
    split at b
    .simp_all
    .split at b
     .rename_i d
      cases b;have:=Ib d
      grind[iA]
     .cases b
     simp_all
  .intro a k c
   unfold aaA at a;split at a
   .cases a
   .cases a
   .rename_i f
    rcases a0c.1 c with rfl|c
    .split at a
     .cases a
     .split at a
      .cases a
      .rename_i d
       have:=Ib d;rw[iA]at this;grind
      simp_all
    grind
def Mr {cJ:List (Poly×List AV)} {tail:List (List AV)} {p:Poly} {r:List AV} (d:∀q∈cJ,InB base q.1) (i:0<=cQ Ev.eZ p) (h:rowAt base cJ tail p=some r) :
  ∃r0,(rowsOf base cJ tail)[(cQ Ev.eZ p).toNat]?=some r0/\PI r0 r:=by
 have s:(cJ.foldl (fun l q=>l.set (cQ Ev.eZ q.1).toNat q.2) (Ev.seq base)).length=(Ev.seq base).length:=by
  have:=kM base cJ []
  simp_all[rowsOf]
 obtain⟨f,e⟩:=acI i cJ (Ev.seq base) d;unfold rowAt at h;split at h
 .cases h
 .rename_i r' b
  cases h;have v:=f r b;have c:=(a0y.1 v).1;exact⟨r,by simp_all[rowsOf,a18],PI.refl r⟩
 .rename_i b
  have z:=Mj cJ (Ev.seq base) (cQ Ev.eZ p).toNat (e b);split at h
  .rename_i r' u
   cases h;have o:=XY u;obtain⟨-,a,w⟩:=Ev.sat _ o;have a:(Ev.seq base)[(cQ Ev.eZ p).toNat]?=some (r.map (den 12)):=a;have c:=(a0y.1 a).1;refine⟨r.map (den 12),by simp_all[rowsOf,a18],by simp,?_⟩;intro j y g;refine⟨den 12 y,by simp_all,.inr ⟨rfl,?_,?_⟩⟩
   .exact Ev.vF base _ (a0a a) _ (a34 (a0a g))
   grind
  .split at h
   .rename_i n m
    rw[Option.bind_eq_some_iff]at h;obtain⟨k,t,x⟩:=h;have e1:=Ao m;have e2:=adw (ρ:=Ev.eZ) t;rw[iA]at e2;refine⟨r,?_,PI.refl r⟩
    grind[rowsOf]
   .cases h
def aaQ [Bk] (base:Nat) (cJ:List (Poly×List AV)) (tail:List (List AV)) (p:Poly) (r:List AV):Option (List (Poly×List AV)×List (List AV)) :=
 match lenOf base Bk.lens with
 |some n=>match akj (rM p n)with
  |some k=>if k<tail.length then some (cJ,tail.set k r)else none
  |none=>if TW p=some false/\TW (rM p n)=some true then
    match cJ.getLast? with
    |some q=>if q.1=p then some (cJ.dropLast++[(p,r)],tail)else some (cJ++[(p,r)],tail)
    |none=>some ([(p,r)],tail)
   else none
 |none=>none
def aeE {cJ a:List (Poly×List AV)} {tail b:List (List AV)} {p:Poly} {r:List AV} (w:∀q∈cJ,InB base q.1) (h:aaQ base cJ tail p r=some (a,b)) :
  rowsOf base a b=(rowsOf base cJ tail).set (cQ Ev.eZ p).toNat r/\(∀q∈a,InB base q.1)/\0<=cQ Ev.eZ p:=by
 have s:(cJ.foldl (fun l q=>l.set (cQ Ev.eZ q.1).toNat q.2) (Ev.seq base)).length=(Ev.seq base).length:=by
  have:=kM base cJ []
  simp_all[rowsOf]
 unfold aaQ at h;split at h
 .rename_i n o
  have e1:=Ao o;split at h
  .rename_i k t
   split at h
   .rename_i v
    cases h;have e2:=adw (ρ:=Ev.eZ) t;rw[iA]at e2;grind[rowsOf]
   .cases h
  .split at h
   .rename_i i
    have j:=pS i.1;have j:=of_decide_eq_false j.symm;have g:=pS i.2;have g:=of_decide_eq_true g.symm;rw[iA]at g;have m:InB base p:=⟨by omega,by omega⟩
    have app:∀c:List (Poly×List AV),(c.foldl (fun l q=>l.set (cQ Ev.eZ q.1).toNat q.2) (Ev.seq base)).length=(Ev.seq base).length:=by
     intro c;have:=kM base c []
     grind[rowsOf]
    have add:∀c:List (Poly×List AV),rowsOf base (c++[(p,r)]) tail=(rowsOf base c tail).set (cQ Ev.eZ p).toNat r:=by
     grind[rowsOf]
    split at h
    .rename_i q d
     split at h
     .rename_i e
      cases h;have y:cJ=cJ.dropLast++[q]:=by
       have f:cJ≠[]:=(by grind);rw[List.getLast?_eq_some_getLast f]at d;cases d;exact(List.dropLast_concat_getLast f).symm
      refine⟨?_,?_,m.1⟩
      .grind[rowsOf,List.set_append_left,List.set_set]
      .intro x u
       grind
     grind
    .rename_i d
     cases h;have:cJ=[]:=by simpa using d
     grind
   .cases h
 .cases h
def TK:Value->AV
 | .slice none 0 0=>.emp
 |v=>.c v
def SC:Value->AV
 | .agg vs=>if vs.all Value.oneCell' then .agg (vs.toList.map TK)else .c (.agg vs)
 |v=>TK v
def aao (A:Nat->Prop) (w:World) (v:Value):eE A w (TK v) v:=by
 unfold TK;split
 .exact .emp _
 .exact .c _
def ahF (v:Value) (h:v.oneCell'=true):(TK v).one=true:=by
 unfold TK;split
 .rfl
 .exact h
def getD_map {β:Type} (l:Array α) (f:α->β) (i:Nat) (x:β) (d:α) (h:(l.toList.map f)[i]?=some x):f (l.getD i d)=x:=by
 rw[a0o]at h;cases a:l.toList[i]?<;>simp_all
def AG (A:Nat->Prop) (w:World) (v:Value):eE A w (SC v) v:=by
 unfold SC;split
 .rename_i vs
  split
  .rename_i d
   refine .agg _ _ (by simp) ?_ ?_
   .intro i x a
    have b:=getD_map vs TK i x Go.undef a;have e:i<vs.size:=(by grind);rw[<-b];refine ahF _ ?_
    simp_all
   .intro i x a
    have b:=getD_map vs TK i x Go.undef a;rw[<-b];exact aao A w _
  .exact .c _
 .exact aao A w _
end
def eJ (f:List AV):Operand->AV
 | .tmp t=>f.getD t .undef
 | .const v=>SC v
 | .global g=>.c (.pointer (some ⟨g,0,none⟩))
 | .func k=>.fn (.func k) [] []
def mark (D:Nat):Deferred:={ target:=.collected D,args:=#[] }
def Marks (m:Nat->St) (w:World) (ds:List Deferred):Prop:=∃a:List Nat,ds=a.map mark/\a.Nodup/\∀D∈a,w.heap[D]?=some (.deferred (some []))/\∀id,m id≠.at D
def Marks.nil (m:Nat->St) (w:World):Marks m w []:=⟨[],rfl,List.nodup_nil,fun D h=>absurd h a0b⟩
theorem Marks.ext {m a:Nat->St} {w:World} {ds:List Deferred} (h:Marks m w ds) (E:Ext m w a w'):Marks a w' ds:=by
 obtain⟨j,i,g,f⟩:=h;refine⟨j,i,g,fun D e=>?_⟩
 obtain⟨d,c⟩:=f D e;have b:D<w.heap.size:=(a2n.1 d).1;obtain⟨l,k⟩:=E.un D b c;simp_all
structure nJ [Bk] [Ev] (m:Nat->St) (A:Nat->Prop) (w:World) (f:List AV) (a:Act):Prop where
 size:a.tmps.size=f.length
 rd:∀(i:Nat) (x:AV),f[i]?=some x->Rd m A w x (a.tmps.getD i Go.undef)
 defers:Marks m w a.defers
section
variable [Bk] [Ev]
def nJ.eval {m:Nat->St} {w:World} {f:List AV} {a:Act} (h:nJ m A w f a) (o:Operand):Rd m A w (eJ f o) (a.eval o):=by
 cases o with
 |tmp t =>
  simp only[eJ,Act.eval];cases b:f[t]? with
  |some x =>
   have:=h.rd t x b
   simp_all
  |none =>
   have hs:a.tmps.size<=t:=by rw[h.size];simp_all
   rw[List.getD,b];have:a.tmps.getD t Go.undef=Go.undef:=by simp_all
   rw[this];exact .pure _ _ .undef
 |const v=>exact .pure _ _ (AG _ w v)
 |global g=>exact .pure _ _ (.c _)
 |func k=>exact .pure _ _ (.fn _ [] [] #[] #[] rfl rfl (by simp_all) (by simp_all))
def qY (f:List AV):Option Tmp->AV->List AV
 |none,_=>f
 |some d,v=>f.set d v
def nJ.put {m c:Nat->St} {w:World} {f:List AV} {a:Act} (h:nJ m A w f a) (E:Ext m w c w') {x:AV} {v:Value} (k:Rd c A w' x v) (d:Option Tmp):nJ c A w' (qY f d x) (a.put d v):=by
 cases d with
 |none=>exact⟨h.size,fun i x g=>(h.rd i x g).ext E,h.defers.ext E⟩
 |some d =>
  refine⟨by simp[Act.put,qY,h.size],?_,h.defers.ext E⟩;intro i y b;simp only[qY,Act.put]at b |-;rw[a0r]at b;split at b
  .rename_i e
   subst e;split at b
   .rename_i j
    cases b;have:d<a.tmps.size:=by rw[h.size];exact j
    simp_all
   simp_all
  .rename_i e
   have:(a.tmps.setIfInBounds d v).getD i Go.undef=a.tmps.getD i Go.undef:=by
    simp_all
   rw[this];exact(h.rd i y b).ext E
theorem nJ.ext {m b:Nat->St} {w:World} {f:List AV} {a:Act} (h:nJ m A w f a) (E:Ext m w b w'):nJ b A w' f a:=⟨h.size,fun i x c=>(h.rd i x c).ext E,h.defers.ext E⟩
def CR (R:AV->Value->Prop) (cs:List AV) (vs:Array Value):Prop:=vs.size=cs.length/\∀(i:Nat) (x:AV),cs[i]?=some x->x.one=true/\R x (vs.getD i Go.undef)
def jD:AV->Option (List AV)
 | .agg cs=>some cs
 |x=>if x.one then some [x]else none
def Value.afi {v:Value} (h:v.oneCell'=true):v.cells=#[v]:=by cases v<;>simp_all [Value.cells,Value.oneCell']
def pG {m:Nat->St} {w:World} {x:AV} {v:Value} (h:Rd m A w x v) (d:jD x=some cs):CR (Rd m A w) cs v.cells:=by
 have one:∀(x:AV) (v:Value),Rd m A w x v->x.one=true->CR (Rd m A w) [x] v.cells:=by
  intro x v h b;rw[Value.afi (h.one b)];refine⟨rfl,?_⟩;intro i y e;cases i<;>simp_all
 unfold jD at d;split at d
 .cases d
  cases h with
  |pure _ _ h =>
   cases h with
   |agg _ vs c b h=>exact⟨c,fun i x a=>⟨b i x a,.pure _ _ (h i x a)⟩⟩
  |agg _ vs c b h=>exact⟨c,fun i x a=>⟨b i x a,h i x a⟩⟩
 grind
def CR.agg [Bk] [Ev] {m:Nat->St} {A:Nat->Prop} {w:World} {cs:List AV} {vs:Array Value} (h:CR (Rd m A w) cs vs):Rd m A w (.agg cs) (.agg vs):=.agg cs vs h.1 (fun i x a=>(h.2 i x a).1) fun i x a=>(h.2 i x a).2
def nN (cs:List α) (off:Nat) (xs:List α):List α:=cs.take off++xs++cs.drop (off+xs.length)
theorem xG {cs:List α} {xs:List α} (h:off+xs.length<=cs.length):(nN cs off xs).length=cs.length:=by grind[nN]
def sP {cs:List α} {xs:List α} (h:off+xs.length<=cs.length) (i:Nat):(nN cs off xs)[i]?=if off<=i/\i<off+xs.length then xs[i-off]? else cs[i]?:=by
 unfold nN;by_cases a:i<off<;>grind
def foldl_set (us:List Value):∀(a off:Nat) (vs:Array Value),off+a+us.length<=vs.size->((us.zipIdx a).foldl (fun cs (c,j)=>cs.setIfInBounds (off+j) c) vs).size=vs.size /\
  ∀k,((us.zipIdx a).foldl (fun cs (c,j)=>cs.setIfInBounds (off+j) c) vs).getD k Go.undef=if off+a<=k/\k<off+a+us.length then us.getD (k-off-a) Go.undef else vs.getD k Go.undef:=by
 induction us with
 |nil=>simp_all[if_neg]
 |cons u us d =>
  intro a off vs h;simp only[a0t]at h;simp only[List.zipIdx_cons,a25];obtain⟨g,f⟩:=d (a+1) off (vs.setIfInBounds (off+a) u) (by grind);refine⟨by simp_all,fun k=>?_⟩;rw[f k];by_cases e:k=off+a
  .subst e
   rw[if_neg (by omega),if_pos ⟨by omega,by simp⟩];have:off+a<vs.size:=by omega
   simp_all
  .by_cases b:off+(a+1)<=k/\k<off+(a+1)+us.length
   .rw[if_pos b,if_pos (by grind)]
    grind
   .rw[if_neg b,if_neg (by grind)]
    simp[Array.getElem?_setIfInBounds_ne (show off+a≠k by omega)]
def R6 {R:AV->Value->Prop} {xs:List AV} {vs us:Array Value} (h:CR R cs vs) (g:CR R xs us) (d:off+xs.length<=cs.length) :
  CR R (nN cs off xs) (us.zipIdx.foldl (fun cs (c,j)=>cs.setIfInBounds (off+j) c) vs):=by
 have e:us.zipIdx.foldl (fun cs (c,j)=>cs.setIfInBounds (off+j) c) vs=(us.toList.zipIdx 0).foldl (fun cs (c,j)=>cs.setIfInBounds (off+j) c) vs:=by
  rw[<-Array.foldl_toList];simp
 have b:us.toList.length=xs.length:=by simpa using g.1
 obtain⟨l,k⟩:=foldl_set us.toList 0 off vs (by rw[b,h.1];omega);refine⟨?_,?_⟩
 .rw[e,l,xG d];exact h.1
 .intro i x a
  rw[sP d]at a;rw[e,k i];split at a
  .rename_i f
   rw[if_pos (by omega)];have:=g.2 _ _ a
   simp_all
  .rename_i f
   rw[if_neg (by omega)];exact h.2 _ _ a
def yM (a:Nat->Option (Nat×Nat)) (cells:List AV):List (Nat×AV)->Option (List AV)
 |[]=>some cells
 |(i,x)::d =>
  match a i,jD x with
  |some (off,c),some b=>if b.length=c/\off+b.length<=cells.length then yM a (nN cells off b) d else none
  |_,_=>none
def EN {m:Nat->St} {A:Nat->Prop} {w:World} (a:Nat->Option (Nat×Nat)):∀(ps:List (Nat×AV)) (qs:List (Nat×Value)) (cs out:List AV) (vs:Array Value),CR (Rd m A w) cs vs->ps.length=qs.length ->
  (∀(i:Nat) (p:Nat×AV) (q:Nat×Value),ps[i]?=some p->qs[i]?=some q->p.1=q.1/\Rd m A w p.2 q.2)->yM a cs ps=some out->∃c,Instr.fill a vs qs=some c/\CR (Rd m A w) out c
 |[],[],cs,out,vs,h,_,_,b=>by simp only[yM,a0g]at b;subst b;exact⟨vs,rfl,h⟩
 |[],q::qs,_,_,_,_,d,_,_=>by simp at d
 |p::ps,[],_,_,_,_,d,_,_=>by simp at d
 |(i,x)::ps,(j,v)::qs,cs,out,vs,h,d,n,b=>by
  obtain⟨e,l⟩:=n 0 (i,x) (j,v) rfl rfl;simp only at e l;subst e;simp only[yM]at b;split at b
  .rename_i off t s o y
   split at b
   .rename_i f
    have g:=pG l y;have z:v.cells.size=s.length:=g.1;have:=R6 h g f.2;obtain⟨c,u,r⟩:=EN a ps qs _ out _ this (by grind) (fun k p q o B=>n (k+1) p q (by grind) (by grind)) b;refine⟨c,?_,r⟩;simp only[Instr.fill,o];rw[if_neg]
    .exact u
    .have C:=h.1
     grind
   simp_all
  simp_all
end
abbrev AH:=Nat->dC
structure AR where
 v:AV
 cJ:List (Nat×dC):=[]
 wX:List Nat:=[]
def gE (h:AH):List (Nat×dC)->AH
 |[]=>h
 |(i,b)::r=>gE (gO h i b) r
def eA [Bk] [Ev] (P:Program) (o:Oper) (f:List AV) (h:AH) (r:AR):Prop :=
 ∀m A w a,dV m A h w->nJ m A w f a->∃x w' b,((execOp a.eval o).run P w=.ok (.value x) w'\/((execOp a.eval o).run P w=.ok .skip w'/\x=Go.undef)) /\
  dV b A (gE h r.cJ) w'/\Rd b A w' r.v x/\Ext m w b w'
section
variable {P:Program} {o:Oper} {f:List AV} {h:AH}
section
variable [Bk] [Ev]
def cY {v:AV} {wX:List Nat} (k:∀m A w a,dV m A h w->nJ m A w f a->∃x,(execOp a.eval o).run P w=.ok (.value x) w/\Rd m A w v x):eA P o f h ⟨v,[],wX⟩:=by
 intro m A w a H F;obtain⟨x,c,b⟩:=k m A w a H F;exact⟨x,w,m,.inl c,H,b,Ext.refl m w⟩
def Eo (b:o.op=.move x):eA P o f h ⟨eJ f x,[],[]⟩ :=
 cY fun m A w a H F=>⟨a.eval x,by simp[execOp,b],F.eval x⟩
def pR (b:o.op=.assign x):eA P o f h ⟨eJ f x,[],[]⟩ :=
 cY fun m A w a H F=>⟨a.eval x,by simp[execOp,b],F.eval x⟩
def Rd.bool {m:Nat->St} {w:World} {b:Bool} {v:Value} (h:Rd m A w (.c (.bool b)) v):v=.bool b:=by
 cases h with|pure _ _ h=>cases h;rfl
def Rd.amM {m:Nat->St} {w:World} {i:Nat} {v:Value} (h:Rd m A w (.o i) v):v=Ev.val i:=by
 cases h with|pure _ _ h=>cases h;rfl
def Rd.fN {m:Nat->St} {w:World} {u v:Value} (h:Rd m A w (.c u) v):v=u:=by
 cases h with|pure _ _ h=>cases h;rfl
def aj9 {c y:Operand} {b:Bool} (g:o.op=.pick c x y) (e:eJ f c=.c (.bool b)):eA P o f h ⟨bif b then eJ f x else eJ f y,[],[]⟩:=by
 refine cY fun m A w a H F=>?_;have d:=F.eval c;rw[e]at d;have i:=d.bool;cases b
 .exact⟨a.eval y,by simp_all[execOp,asBool],F.eval y⟩
 .exact⟨a.eval x,by simp_all[execOp,asBool],F.eval x⟩
def PD {m:Nat->St} {w:World} (H:dV m A h w) {vs:Array Value} (b:h id=.no) (c:CR (Rd m A w) cs vs) :
  dV (sset m id (.at w.heap.size)) A (gO h id (.cells T cs.length [cs])) (w.alloc (.cells vs T))/\Ext m w (sset m id (.at w.heap.size)) (w.alloc (.cells vs T))/\Rd (sset m id (.at w.heap.size)) A (w.alloc (.cells vs T)) (.ptr cs.length id 0 0) (.pointer (some ⟨w.heap.size,0,none⟩)):=by
 obtain⟨e,d⟩:=H.alloc (id:=id) (T:=T) (sz:=cs.length) (bL:=[cs]) (cs:=vs) b (by simp[c.1]) (by simp) (by
  intro i j x a;cases i with
  |zero =>
   simp only[iE,a35,a1f]at a;rw[a36,a00];exact c.2 j x a
  |succ i=>simp_all[iE])
 refine⟨e,d,?_⟩;have:=Rd.ptr (m:=sset m id (.at w.heap.size)) (A:=A) (w:=w.alloc (.cells vs T)) cs.length id 0 0 w.heap.size (by simp[sset]) (by simp)
 simp_all
def anA {e:TypeId} (j:o.op=.box e x) (c:jD (eJ f x)=some cs) (b:h id=.no):eA P o f h ⟨.ptr cs.length id 0 0,[(id,.cells e cs.length [cs])],[id]⟩:=by
 intro m A w a H F;obtain⟨i,g,d⟩:=PD H (T:=e) b (pG (F.eval x) c);refine⟨_,_,_,.inl ?_,i,d,g⟩
 simp_all[execOp,Instr.box,newVar,newRow]
def ahE {e:TypeId} {i:TypeInfo} {z:Value} (l:o.op=.alloc e) (n:P.info? e=some i) (k:i.zero=some z) (c:jD (SC z)=some cs) (b:h id=.no):eA P o f h ⟨.ptr cs.length id 0 0,[(id,.cells e cs.length [cs])],[id]⟩:=by
 intro m A w a H F;obtain⟨j,g,d⟩:=PD H (T:=e) b (pG (.pure _ _ (AG _ w z)) c);refine⟨_,_,_,.inl ?_,j,d,g⟩
 simp_all[execOp,Instr.alloc,zeroValue,typeInfo,newVar,newRow]
def mJ (P:Program) (t:TypeId) (cs:List AV) (off:Nat):Option AV :=
 match P.underlying t with
 |some (.struct _)|some (.array _ _)=>match P.info? t with
  |some i=>if off+i.size<=cs.length then some (.agg ((cs.drop off).take i.size))else none
  |none=>none
 |some _=>cs[off]?
 |none=>none
def sH (t:TypeId) (w:World) {d:TypeDesc} (h:P.underlying t=some d):(isAgg t).run P w=.ok (match d with | .struct _ | .array _ _=>true|_=>false) w:=by
 simp only[isAgg,Sem.run_bind,run_underlying h,Result.andThen_ok];cases d<;>simp
def xS {m:Nat->St} {w:World} {t:TypeId} {x:AV} (a:mJ P t cs off=some x) {b o0:Nat} {vs:Nat->Value} (k:∀j y,cs[j]?=some y->y.one=true/\w.cell? ⟨b,o0+j,none⟩=some (vs j)/\Rd m A w y (vs j)) :
  ∃v,(loadVar t ⟨b,o0+off,none⟩).run P w=.ok v w/\Rd m A w x v:=by
 unfold mJ at a;have agg:∀(i:TypeInfo),P.info? t=some i->off+i.size<=cs.length->∃v:Array Value,(loadCells ⟨b,o0+off,none⟩ i.size).run P w=.ok v w/\Rd m A w (.agg ((cs.drop off).take i.size)) (.agg v):=by
  intro i d c;refine⟨_,run_loadCells w _ i.size (fun j=>vs (off+j)) ?_,?_⟩
  .intro j l
   have:(⟨b,o0+off,none⟩:Addr).add j=⟨b,o0+(off+j),none⟩:=(by grind[Addr.add]);rw[this];have o:cs[off+j]?=some cs[off+j]:=by simp_all
   grind
  .refine .agg _ _ (by grind) ?_ ?_
   .grind
   simp_all[a11]
 split at a
 .rename_i p f
  cases d:P.info? t with
  |none=>simp_all
  |some i =>
   simp only[d]at a;split at a
   .rename_i c
    cases a;obtain⟨v,h,g⟩:=agg i d c;simp_all[loadVar,sH,sizeOf,typeInfo]
   simp_all
 .rename_i n e f
  cases d:P.info? t with
  |none=>simp_all
  |some i =>
   simp only[d]at a;split at a
   .rename_i c
    cases a;obtain⟨v,h,g⟩:=agg i d c;simp_all[loadVar,sH,sizeOf,typeInfo]
   simp_all
 .simp_all[sH,loadVar]
 simp_all
def Rd.Ik {m:Nat->St} {w:World} {sz i b:Nat} {u:Value} (h:Rd m A w (.ptr sz id i off) u) (g:m id=.at b):u=.pointer (some ⟨b,i*sz+off,none⟩):=by
 cases h with
 |pure _ _ h=>cases h
 |ptr _ _ _ _ d a c=>simp_all
 |N6 _ _ _ _ u a=>simp_all
def Rd.vO {m:Nat->St} {w:World} {sz i n b:Nat} {u:Value} (h:Rd m A w (.own T sz id i n) u) (g:m id=.at b) :
  ∃cap,u=.slice (some ⟨b,i*sz,none⟩) n cap/\n<=cap/\cap<=maxLen/\(i+cap)*sz=gW w b:=by
 cases h with
 |pure _ _ h=>cases h
 |own _ _ _ _ _ j cap a f d e c=>simp_all
 |vJ _ _ _ _ _ a=>simp_all
 |wC _ _ _ _ _ _ _ _ a=>simp_all
def TH {t:TypeId} {sz i:Nat} {bL:List (List AV)} {e:List AV} {v:AV} (D:o.op=.load t x) (l:eJ f x=.ptr sz id i off) (p:h id=.cells T sz bL) (q:bL[i]?=some e) (n:mJ P t e off=some v) :
  eA P o f h ⟨v,[],[id]⟩:=by
 refine cY fun m A w a H F=>?_
 have d:=F.eval x;rw[l]at d;obtain⟨b,cs,g1,g2,g3,s,r⟩:=H.block p q;have C:=d.Ik g1;obtain⟨u,r1,r2⟩:=xS (P:=P) (m:=m) (A:=A) (w:=w) (b:=b) (o0:=i*sz) (vs:=fun j=>cs.getD (i*sz+j) Go.undef) n (by
  intro j y B;have c:iE bL i j=some y:=by simp_all[iE]
  obtain⟨k,g⟩:=r i j y c;refine⟨k,?_,g⟩;have:=(kJ c s).2.2;have z:i*sz+j<cs.size:=by omega
  simp_all[World.cell?])
 simp_all[execOp,Instr.loadAt,Instr.sureAddr]
def RA {t:TypeId} {sz i:Nat} {bL:List (List AV)} {e:List AV} {v:AV} (B:o.op=.load t x) (n:eJ f x=.iZ sz bL i off) (C:bL[i]?=some e) (p:mJ P t e off=some v) :
  eA P o f h ⟨v,[],[]⟩:=by
 refine cY fun m A w a H F=>?_;have c:=F.eval x;rw[n]at c;cases c with
 |pure _ u c =>
  generalize r:a.eval x=u at c;cases c with
  |iZ _ _ _ _ b d vs E D q l s k =>
   obtain⟨u,r1,r2⟩:=xS (P:=P) (m:=m) (A:=A) (w:=w) (b:=b) (o0:=d+i*sz) (vs:=vs i) p (by
    intro j y z;have g:iE bL i j=some y:=by simp_all[iE]
    refine⟨l i j y g,?_,.pure _ _ (k i j y g)⟩
    grind)
   refine⟨u,?_,r2⟩;have e1:d+(i*sz+off)=d+i*sz+off:=by omega
   simp_all[execOp,Instr.loadAt,Instr.sureAddr]
def afW {m:Nat->St} {w:World} (H:dV m A h w) {sz i b:Nat} {bL:List (List AV)} {e xs:List AV} {us:Array Value} (C:h id=.cells T sz bL) (t:m id=.at b) (p:bL[i]?=some e) (g:CR (Rd m A w) xs us) (O:off+xs.length<=sz) :
  ∃w',(storeCells ⟨b,i*sz+off,none⟩ us.toList).run P w=.ok () w'/\dV m A (gO h id (.cells T sz (bL.set i (nN e off xs)))) w'/\Ext m w m w':=by
 obtain⟨R,cs,g1,g2,g3,D,J⟩:=H.block C p;rw[t]at g1;cases g1;have B:i<bL.length:=(a0y.1 p).1;have L:e.length=sz:=D e (a0a p);have n:(i+1)*sz<=bL.length*sz:=a1a _ B;rw[a19]at n;have q:us.toList.length=xs.length:=by simpa using g.1
 have o:i*sz+off+0+us.toList.length<=cs.size:=by omega
 have I:∀v∈us.toList,v.oneCell'=true:=by
  intro v E;obtain⟨k,z,rfl⟩:=a3m E;have y:k<xs.length:=by omega
  have:=g.2 k xs[k] (by simp[y]);have:=this.2.one this.1
  simp_all
 have s:=run_storeCells_at P b (i*sz+off) T us.toList 0 cs w g2 o I;refine⟨_,s,?_⟩;have r:(cs.toList.take (i*sz+off+0)++us.toList++cs.toList.drop (i*sz+off+0+us.toList.length)).toArray.size=cs.size:=by grind
 have c:∀k,(cs.toList.take (i*sz+off+0)++us.toList++cs.toList.drop (i*sz+off+0+us.toList.length)).toArray.getD k Go.undef=if i*sz+off<=k/\k<i*sz+off+xs.length then us.getD (k-(i*sz+off)) Go.undef else cs.getD k Go.undef:=by
  intro k;have:=sP (cs:=cs.toList) (off:=i*sz+off) (xs:=us.toList) (by omega) k;unfold nN at this;have e1:∀(l:List Value),l.toArray.getD k Go.undef=(l[k]?).getD Go.undef:=by simp_all
  rw[e1,a2o,this,q];split<;>simp_all
 refine H.write (els':=bL.set i (nN e off xs)) C t (setRow_heap w b cs _ T _ g2) g2 r (fun k z=>setRow_other w b k _ z) rfl rfl rfl (by simp) ?_ ?_ ?_
 .simp_all
 .grind[xG]
 .intro d j x a
  unfold iE at a;rw[a0r]at a;split at a
  .rename_i f
   subst f;simp only[B,if_true,a1f]at a;rw[sP (by omega)]at a;rw[c];split at a
   .rename_i F
    rw[if_pos (by omega)];have:=g.2 _ _ a;refine⟨this.1,?_⟩;rw[show i*sz+j-(i*sz+off)=j-off by omega];simp_all
   .rename_i F
    rw[if_neg (by omega)];exact J i j x (by simp_all[iE])
  .rename_i f
   have G:iE bL d j=some x:=a;have Q:=kJ G D;rw[c,if_neg]
   .grind
   .rintro⟨N,M⟩
    rcases a0u d i with u|K
    .have:(d+1)*sz<=i*sz:=a1a _ u
     grind
    .have:(i+1)*sz<=d*sz:=a1a _ (by omega)
     grind
def ahA {t:TypeId} {y:Operand} {sz i:Nat} {bL:List (List AV)} {e xs:List AV} (v:o.op=.store t x y) (n:eJ f x=.ptr sz id i off) (c:h id=.cells T sz bL) (d:bL[i]?=some e) (l:jD (eJ f y)=some xs)
  (p:(P.info? t).map (·.size)=some xs.length) (q:off+xs.length<=sz):eA P o f h ⟨.undef,[(id,.cells T sz (bL.set i (nN e off xs)))],[id]⟩:=by
 intro m A w a H F;obtain⟨b,cs,g1,-⟩:=H.block c d;have j:=F.eval x;rw[n]at j;have u:=j.Ik g1;have g:=pG (F.eval y) l;obtain⟨w',r1,r2,k⟩:=afW (P:=P) H c g1 d g q;cases r:P.info? t with
 |none=>simp_all
 |some s =>
  simp only[r,a0q,a0g]at p;refine⟨Go.undef,w',m,.inr ⟨?_,rfl⟩,r2,.pure _ _ .undef,k⟩;have hs:(a.eval y).cells.size=xs.length:=g.1
  simp_all[execOp,Instr.storeAt,Instr.sureAddr,storeVar,sizeOf,typeInfo]
def Lg {s sz i:Nat} {bL:List (List AV)} {e:List AV} (l:o.op=.nilCheck x) (d:eJ f x=.ptr sz id i off) (g:h id=.cells T s bL) (j:bL[i]?=some e):eA P o f h ⟨.ptr sz id i off,[],[id]⟩:=by
 refine cY fun m A w a H F=>?_;obtain⟨b,cs,g1,-⟩:=H.block g j;have c:=F.eval x;rw[d]at c;have k:=c.Ik g1;simp_all[execOp]
def FK {sz i:Nat} {bL:List (List AV)} (e:o.op=.nilCheck x) (c:eJ f x=.iZ sz bL i off):eA P o f h ⟨.iZ sz bL i off,[],[]⟩:=by
 refine cY fun m A w a H F=>?_;have b:=F.eval x;rw[c]at b;generalize d:a.eval x=u at b;have g:=b;cases b with
 |pure _ u b=>cases b<;>simp_all[execOp]
def MO {k:FuncId} {xs ys:List AV} (e:o.op=.nilCheck x) (c:eJ f x=.fn (.func k) xs ys):eA P o f h ⟨.fn (.func k) xs ys,[],[]⟩:=by
 refine cY fun m A w a H F=>?_;have b:=F.eval x;rw[c]at b;generalize d:a.eval x=u at b;have g:=b;cases b with
 |pure _ u b=>cases b<;>simp_all[execOp]
 |fn=>simp_all[execOp]
def ach (op:BinOp):Value->Value->Option Value
 | .int k x,.int k' y =>
  match op with
  | .shl=>if y<0 then none else some (.int k (k.wrap (x*2 ^ (min y.toNat k.bits))))
  | .shr=>if y<0 then none else some (.int k (x.fdiv (2 ^ (min y.toNat k.bits))))
  |_=>if k=k' then
    match op with
    | .add=>some (.int k (k.wrap (x+y)))
    | .sub=>some (.int k (k.wrap (x-y)))
    | .mul=>some (.int k (k.wrap (x*y)))
    | .quo=>if y=0 then none else some (.int k (k.wrap (x.tdiv y)))
    | .rem=>if y=0 then none else some (.int k (x.tmod y))
    | .eql=>some (.bool (x==y))
    | .neq=>some (.bool (x != y))
    | .lss=>some (.bool (x<y))
    | .leq=>some (.bool (x<=y))
    | .gtr=>some (.bool (x > y))
    | .geq=>some (.bool (x ≥ y))
    |_=>none
   else none
 | .string x,.string y =>
  match op with
  | .eql=>some (.bool (x.toList==y.toList))
  | .neq=>some (.bool (!(x.toList==y.toList)))
  | .add=>if x.size+y.size<=9223372036854775807 then some (.string (x++y))else none
  |_=>none
 |_,_=>none
def anB {op:BinOp} {t g:TypeId} {y:Operand} {u v r:Value} (n:o.op=.binOp op t x y g) (j:eJ f x=.c u) (i:eJ f y=.c v) (b:ach op u v=some r):eA P o f h ⟨.c r,[],[]⟩:=by
 refine cY fun m A w a H F=>?_;have e:=F.eval x;have d:=F.eval y;rw[j]at e;rw[i]at d;have e1:=e.fN;have e2:=d.fN;refine⟨r,?_,.pure _ _ (.c r)⟩;cases u with
 |int k p =>
  cases v with
  |int k' q =>
   have l:(eqGuard op t x y (.int k p) (.int k' q)).run P w=.ok () w:=by
    simp_all[eqGuard]
   cases op<;>simp only[ach]at b<;>(try (split at b<;>try (cases b;done)))<;>(try (split at b<;>try (cases b;done)))<;>(try cases b) <;>
    simp_all [execOp,binOp,Op.intArith,Op.intDiv,Op.intCmp,Op.shift]<;>(omega)
  |_=>cases op<;>simp[ach]at b
 |string p =>
  cases v with
  |string q =>
   have l:(eqGuard op t x y (.string p) (.string q)).run P w=.ok () w:=by
    simp_all[eqGuard]
   cases op<;>simp only[ach]at b<;>(try (split at b<;>try (cases b;done)))<;>(try cases b) <;>
    simp_all [execOp,binOp,Op.stringOp]<;>omega
  |_=>cases op<;>simp[ach]at b
 |_=>cases op<;>simp[ach]at b
def run_equalIn_bool (d:Nat) {t:TypeId} {p q:Bool} (a:P.underlying t=some .bool) (w:World):(Op.equalIn (d+1) t (.bool p) (.bool q)).run P w=.ok (p==q) w:=by
 simp[Op.equalIn,run_underlying a]
def adu {op:BinOp} {t g:TypeId} {y:Operand} {p q:Bool} (l:o.op=.binOp op t x y g) (j:eJ f x=.c (.bool p)) (i:eJ f y=.c (.bool q)) (k:P.underlying t=some .bool) (b:op=.eql\/op=.neq) :
  eA P o f h ⟨.c (.bool (if op=.eql then p==q else !(p==q))),[],[]⟩:=by
 refine cY fun m A w a H F=>?_;have e:=F.eval x;have d:=F.eval y;rw[j]at e;rw[i]at d;have e1:=e.fN;have e2:=d.fN;refine⟨_,?_,.pure _ _ (.c _)⟩
 have n:(eqGuard op t x y (.bool p) (.bool q)).run P w=.ok () w:=by
  simp_all[eqGuard]
 have r:(Op.equal t (.bool p) (.bool q)).run P w=.ok (p==q) w:=run_equalIn_bool 9999 k w;rcases b with rfl|rfl<;>simp[execOp,l,e1,e2,n,binOp,r]
def unV (op:UnOp):Value->Option Value
 | .int k x=>match op with | .neg=>some (.int k (k.wrap (0-x)))|_=>none
 | .bool b=>match op with | .not=>some (.bool !b)|_=>none
 |_=>none
def ao4 {op:UnOp} {t:TypeId} {u r:Value} (g:o.op=.unOp op t x) (e:eJ f x=.c u) (b:unV op u=some r):eA P o f h ⟨.c r,[],[]⟩:=by
 refine cY fun m A w a H F=>?_;have d:=F.eval x;rw[e]at d;have e1:=d.fN;refine⟨r,?_,.pure _ _ (.c r)⟩;cases u<;>cases op<;>simp[unV]at b<;>subst b<;>simp[execOp,g,e1,Op.unary,Op.intArith]
def CM [Bk] (p:Poly):AV :=
 let b:=bnd p
 if b.1=b.2 then .c (.int .i64 b.1)else .e p
def yE (A:Nat->Prop) (w:World) (p:Poly):eE A w (CM p) (.int .i64 (cQ Ev.eZ p)):=by
 have k:=Ii p;unfold CM;simp only;split
 .have:cQ Ev.eZ p=(bnd p).1:=by omega
  rw[this];exact .c _
 .exact .e p
def ake (p:Poly):(CM p).one=true:=by
 unfold CM;simp only;split<;>rfl
def toP:AV->Option Poly
 | .e p=>some p
 | .c (.int .i64 n)=>some (yZ n)
 |_=>none
def toP_ok {x:AV} {p:Poly} (a:toP x=some p) {m:Nat->St} {w:World} {v:Value} (h:Rd m A w x v):v=.int .i64 (cQ Ev.eZ p):=by
 unfold toP at a;split at a
 .cases a
  cases h with|pure _ _ h=>cases h;rfl
 .cases a
  rw[sY];exact h.fN
 simp_all
def ajG [Bk] (op:BinOp) (p q:Poly):Option AV :=
 match op with
 | .add=>let r:=wA p q;if mD r then some (CM r)else none
 | .sub=>let r:=rM p q;if mD r then some (CM r)else none
 | .mul=>let r:=agC p q;if mD r then some (CM r)else none
 | .quo=>if nzB q then match findD 0 p q Bk.defs with
   |some r=>if mD r then some (CM r)else none
   |none=>none
  else none
 | .rem=>if nzB q then match findD 1 p q Bk.defs with
   |some r=>some (CM r)
   |none=>none
  else none
 | .eql=>(eqB (rM p q)).map fun b=>.c (.bool b)
 | .neq=>(eqB (rM p q)).map fun b=>.c (.bool !b)
 | .lss=>(TW (rM p q)).map fun b=>.c (.bool b)
 | .geq=>(TW (rM p q)).map fun b=>.c (.bool !b)
 | .gtr=>(TW (rM q p)).map fun b=>.c (.bool b)
 | .leq=>(TW (rM q p)).map fun b=>.c (.bool !b)
 |_=>none
def ahz {op:BinOp} {t s:TypeId} {y:Operand} {p q:Poly} {r:AV} (B:o.op=.binOp op t x y s) (v:toP (eJ f x)=some p) (u:toP (eJ f y)=some q) (d:ajG op p q=some r):eA P o f h ⟨r,[],[]⟩:=by
 refine cY fun m A w a H F=>?_;have e1:=toP_ok v (F.eval x);have e2:=toP_ok u (F.eval y)
 have C:(eqGuard op t x y (.int .i64 (cQ Ev.eZ p)) (.int .i64 (cQ Ev.eZ q))).run P w=.ok () w:=by
  simp_all[eqGuard]
 have i:∀r:Poly,mD r=true->IntKind.i64.wrap (cQ Ev.eZ r)=cQ Ev.eZ r:=fun r h=>IntWalk.i64_in _ (by have:=abT h;omega);have rd:∀r:Poly,Rd m A w (CM r) (.int .i64 (cQ Ev.eZ r)):=fun r=>.pure _ _ (yE _ w r);cases op<;>simp only[ajG]at d
 case add =>
  split at d
  .rename_i g;cases d
   refine⟨_,?_,rd _⟩;have:=i _ g
   simp_all[qK,execOp,binOp,Op.intArith]
  simp_all
 case sub =>
  split at d
  .rename_i g;cases d
   refine⟨_,?_,rd _⟩;have:=i _ g
   simp_all[iA,execOp,binOp,Op.intArith]
  simp_all
 case mul =>
  split at d
  .rename_i g;cases d
   refine⟨_,?_,rd _⟩;have:=i _ g
   simp_all[Tz,execOp,binOp,Op.intArith]
  simp_all
 case quo =>
  split at d
  .rename_i j
   split at d
   .rename_i r0 l
    split at d
    .rename_i g;cases d
     refine⟨_,?_,rd _⟩;have:=i _ g;have z:cQ Ev.eZ r0=(cQ Ev.eZ p).tdiv (cQ Ev.eZ q):=(Ev.defs _ (EM l)).1 rfl;have n:=ahK j;simp_all[execOp,binOp,Op.intDiv]
    simp_all
   simp_all
  simp_all
 case rem =>
  split at d
  .rename_i j
   split at d
   .rename_i r0 l
    cases d;refine⟨_,?_,rd _⟩;have z:cQ Ev.eZ r0=(cQ Ev.eZ p).tmod (cQ Ev.eZ q):=(Ev.defs _ (EM l)).2.1 rfl;have n:=ahK j;simp_all[execOp,binOp,Op.intDiv]
   simp_all
  simp_all
 all_goals (try (cases d;done))
 all_goals (rw[a1b]at d;obtain⟨b,g,rfl⟩:=d)
 case eql =>
  have k:=Ib g;rw[iA]at k;refine⟨.bool b,?_,.pure _ _ (.c _)⟩;have e:(cQ Ev.eZ p==cQ Ev.eZ q)=b:=by grind
  simp_all[execOp,binOp,Op.intCmp]
 case neq =>
  have k:=Ib g;rw[iA]at k;refine⟨.bool !b,?_,.pure _ _ (.c _)⟩;have e:(cQ Ev.eZ p==cQ Ev.eZ q)=b:=by grind
  simp_all[execOp,binOp,Op.intCmp,bne]
 case lss =>
  have k:=pS g;rw[iA]at k;refine⟨.bool b,?_,.pure _ _ (.c _)⟩;have e:decide (cQ Ev.eZ p<cQ Ev.eZ q)=b:=by grind
  simp_all[execOp,binOp,Op.intCmp]
 case geq =>
  have k:=pS g;rw[iA]at k;refine⟨.bool !b,?_,.pure _ _ (.c _)⟩;have e:decide (cQ Ev.eZ q<=cQ Ev.eZ p)=!b:=by grind
  simp_all[execOp,binOp,Op.intCmp]
 case gtr =>
  have k:=pS g;rw[iA]at k;refine⟨.bool b,?_,.pure _ _ (.c _)⟩;have e:decide (cQ Ev.eZ q<cQ Ev.eZ p)=b:=by grind
  simp_all[execOp,binOp,Op.intCmp]
 case leq =>
  have k:=pS g;rw[iA]at k;refine⟨.bool !b,?_,.pure _ _ (.c _)⟩;have e:decide (cQ Ev.eZ p<=cQ Ev.eZ q)=!b:=by grind
  simp_all[execOp,binOp,Op.intCmp]
def aeS {t:TypeId} {p:Poly} (g:o.op=.unOp .neg t x) (c:eJ f x=.e p) (d:mD (qV (-1) p)=true):eA P o f h ⟨CM (qV (-1) p),[],[]⟩:=by
 refine cY fun m A w a H F=>?_;have b:=F.eval x;rw[c]at b;have e1:=toP_ok (x:=.e p) rfl b;refine⟨_,?_,.pure _ _ (yE _ w _)⟩;have k:=abT d;have:=IntWalk.i64_in (cQ Ev.eZ (qV (-1) p)) (by omega)
 simp_all[xP,execOp,Op.unary,Op.intArith]
end
end
end Mc
namespace Mc
variable {m:Nat->St} {A:Nat->Prop} {u:Value} {off:Nat} {x:Operand} {k:IntKind} {cs:List AV} {ds:TypeDesc}
section
variable {P:Program} {o:Oper} {f:List AV} {h:AH}
section
variable [Bk] [Ev]
theorem iS (b o j:Nat):(⟨b,o,none⟩:Addr).add j=⟨b,o+j,none⟩:=by simp_all[Addr.add]
def Rd.pY {w:World} {sz:Nat} {bL:List (List AV)} (h:Rd m A w (.lit sz bL) u) :
  (bL=[]/\∃a cap,u=.slice a 0 cap)\/∃b off cap,∃vs:Nat->Nat->Value,u=.slice (some ⟨b,off,none⟩) bL.length cap/\¬ Av m A b/\b<w.heap.size/\bL.length<=cap/\(∀e∈bL,e.length=sz)/\(∀(i j:Nat) (x:AV),iE bL i j=some x->x.one=true) /\
   (∀(i j:Nat) (x:AV),iE bL i j=some x->w.cell? ⟨b,off+(i*sz+j),none⟩=some (vs i j))/\∀(i j:Nat) (x:AV),iE bL i j=some x->eE (Av m A) w x (vs i j):=by
 cases h with
 |pure _ _ h =>
  cases h with
  |lit _ _ b off cap vs l k g c n d f=>exact .inr ⟨b,off,cap,vs,rfl,l,k,g.1,c,n,d,f⟩
  |nR _ a cap o=>simp_all
def Rd.EA {w:World} {sz n cap:Nat} {a:Option Addr} {bL:List (List AV)} (h:Rd m A w (.lit sz bL) (.slice a n cap)):cap<=maxLen:=by
 cases h with
 |pure _ _ h =>
  cases h<;>simp_all
def Rd.TX {w:World} {sz c a:Nat} {bL:List (List AV)} (h:Rd m A w (.iZ sz bL c a) u) :
  ∃b off,∃vs:Nat->Nat->Value,u=.pointer (some ⟨b,off+(c*sz+a),none⟩)/\∀i j,Rd m A w (.iZ sz bL i j) (.pointer (some ⟨b,off+(i*sz+j),none⟩)):=by
 cases h with
 |pure _ _ h =>
  cases h with
  |iZ _ _ _ _ b off vs k g d l e f=>exact⟨b,off,vs,rfl,fun i j=>.pure _ _ (.iZ sz bL i j b off vs k g d l e f)⟩
def nM (P:Program) (t:TypeId) (k:Nat):Option (TypeId×Nat×Nat) :=
 match P.underlying t with
 |some (.struct a)=>match a[k]? with
  |some fd=>(P.info? fd.type).map fun i=>(fd.type,fd.offset,i.size)
  |none=>none
 |_=>none
def zM {t k d n:Nat} (a:nM P t k=some (d,off,n)) (g:n≠0) (b c:Nat) (w:World):(Instr.fieldAt t (.pointer (some ⟨b,c,none⟩)) k).run P w=.ok (.pointer (some ⟨b,c+off,none⟩)) w:=by
 unfold nM at a;split at a
 .rename_i i f
  split at a
  .rename_i fd e
   cases h:P.info? fd.type<;>simp_all[a0q,a0g,a1t,Instr.fieldAt,run_underlying,Instr.sureAddr,fieldPlace,sizeOf,typeInfo,iS]
  simp_all
 simp_all
def FU {t:TypeId} {k g c n T sz id i:Nat} {bL:List (List AV)} {e:List AV} (p:o.op=.fieldAddr t x k) (j:eJ f x=.ptr sz id i off) (r:h id=.cells T sz bL) (u:bL[i]?=some e) (s:nM P t k=some (g,c,n)) (q:n≠0) :
  eA P o f h ⟨.ptr sz id i (off+c),[],[id]⟩:=by
 refine cY fun m A w a H F=>?_;have d:=F.eval x;rw[j]at d;obtain⟨b,cs,g1,-⟩:=H.block r u;have l:=d.Ik g1;refine⟨.pointer (some ⟨b,i*sz+off+c,none⟩),by simp[execOp,p,l,zM s q],?_⟩;have:=Rd.ptr (m:=m) (A:=A) (w:=w) sz id i (off+c) b g1 (H.lt g1)
 grind
def Eu {t:TypeId} {k e c n sz i:Nat} {bL:List (List AV)} (p:o.op=.fieldAddr t x k) (j:eJ f x=.iZ sz bL i off) (r:nM P t k=some (e,c,n)) (q:n≠0) :
  eA P o f h ⟨.iZ sz bL i (off+c),[],[]⟩:=by
 refine cY fun m A w a H F=>?_;have d:=F.eval x;rw[j]at d;obtain⟨b,g,vs,l,s⟩:=d.TX;refine⟨.pointer (some ⟨b,g+(i*sz+off)+c,none⟩),by simp[execOp,p,l,zM r q],?_⟩
 grind
def FP {t e:TypeId} {ix:Operand} {sz:Nat} {bL:List (List AV)} {n:Int} (y:o.op=.indexAddr t x ix) (s:eJ f x=.lit sz bL) (B:eJ f ix=.c (.int k n)) (v:P.underlying t=some (.slice e)) (hs:(P.info? e).map (·.size)=some sz) (E:0<=n) (z:n.toNat<bL.length) :
  eA P o f h ⟨.iZ sz bL n.toNat 0,[],[]⟩:=by
 refine cY fun m A w a H F=>?_;have l:=F.eval x;rw[s]at l;have j:=F.eval ix;rw[B]at j;have e2:=j.fN;obtain⟨rfl,-⟩|⟨b,off,cap,vs,u,D,C,I,d,r,p,q⟩:=l.pY
 .simp at z
 .cases g:P.info? e with
  |none=>simp_all
  |some G =>
   simp only[g,a0q,a0g]at hs;have i:n<(bL.length:Int):=by omega
   refine⟨.pointer (some ⟨b,off+(n.toNat*sz+0),none⟩),?_,.pure _ _ (.iZ sz bL _ 0 b off vs D C d r p q)⟩;simp[execOp,y,u,e2,Instr.indexAt,asIntOf,run_underlying v,E,i,sizeOf,typeInfo,g,hs,iS]
def FO {t e:TypeId} {ix:Operand} {T sz id i n':Nat} {bL:List (List AV)} {el:List AV} {n:Int} (s:o.op=.indexAddr t x ix) (p:eJ f x=.own T sz id i n') (v:h id=.cells T sz bL) (u:eJ f ix=.c (.int k n)) (r:P.underlying t=some (.slice e)) (hs:(P.info? e).map (·.size)=some sz) (z:0<=n) (C:n.toNat<n') (y:bL[i+n.toNat]?=some el) :
  eA P o f h ⟨.ptr sz id (i+n.toNat) 0,[],[id]⟩:=by
 refine cY fun m A w a H F=>?_;have l:=F.eval x;rw[p]at l;have j:=F.eval ix;rw[u]at j;have e2:=j.fN;obtain⟨b,cs,g1,-⟩:=H.block v y;obtain⟨cap,q,-⟩:=l.vO g1;cases d:P.info? e with
 |none=>simp_all
 |some B =>
  simp only[d,a0q,a0g]at hs;have g:n<(n':Int):=by omega
  refine⟨.pointer (some ⟨b,(i+n.toNat)*sz+0,none⟩),?_,.ptr sz id _ 0 b g1 (H.lt g1)⟩;simp[execOp,s,q,e2,Instr.indexAt,asIntOf,run_underlying r,z,g,sizeOf,typeInfo,d,hs,iS,a3n]
def FQ {t e:TypeId} {ix:Operand} {T sz id i len s:Nat} {bL:List (List AV)} {el:List AV} {n:Int} (u:o.op=.indexAddr t x ix) (p:eJ f x=.ptr sz id i off) (y:h id=.cells T sz bL) (z:bL[i]?=some el) (v:eJ f ix=.c (.int k n)) (r:P.underlying t=some (.array len e)) (hs:(P.info? e).map (·.size)=some s) (B:0<=n) (D:n.toNat<len) :
  eA P o f h ⟨.ptr sz id i (off+n.toNat*s),[],[id]⟩:=by
 refine cY fun m A w a H F=>?_;have l:=F.eval x;rw[p]at l;have j:=F.eval ix;rw[v]at j;have e2:=j.fN;obtain⟨b,cs,g1,-⟩:=H.block y z;have q:=l.Ik g1;cases d:P.info? e with
 |none=>simp_all
 |some C =>
  simp only[d,a0q,a0g]at hs;have g:n<(len:Int):=by omega
  refine⟨.pointer (some ⟨b,i*sz+(off+n.toNat*s),none⟩),?_,.ptr sz id _ _ b g1 (H.lt g1)⟩;simp[execOp,u,q,e2,Instr.indexAt,asIntOf,run_underlying r,B,g,sizeOf,typeInfo,d,hs,iS,Instr.sureAddr,a2p]
def Et {t e:TypeId} {ix:Operand} {sz i len s:Nat} {bL:List (List AV)} {n:Int} (v:o.op=.indexAddr t x ix) (p:eJ f x=.iZ sz bL i off) (y:eJ f ix=.c (.int k n)) (r:P.underlying t=some (.array len e)) (hs:(P.info? e).map (·.size)=some s) (z:0<=n) (D:n.toNat<len) :
  eA P o f h ⟨.iZ sz bL i (off+n.toNat*s),[],[]⟩:=by
 refine cY fun m A w a H F=>?_;have l:=F.eval x;rw[p]at l;have j:=F.eval ix;rw[y]at j;have e2:=j.fN;obtain⟨b,C,vs,q,u⟩:=l.TX;cases d:P.info? e with
 |none=>simp_all
 |some B =>
  simp only[d,a0q,a0g]at hs;have g:n<(len:Int):=by omega
  refine⟨_,?_,u i (off+n.toNat*s)⟩;simp[execOp,v,q,e2,Instr.indexAt,asIntOf,run_underlying r,z,g,sizeOf,typeInfo,d,hs,iS,Instr.sureAddr,a2p]
def Ai {w:World} {t:TypeId} {vs:Array Value} {x:AV} (c:CR (Rd m A w) cs vs) (a:mJ P t cs off=some x):∃v,(part t vs off).run P w=.ok v w/\Rd m A w x v:=by
 unfold mJ at a;have agg:∀(i:TypeInfo),off+i.size<=cs.length->Rd m A w (.agg ((cs.drop off).take i.size)) (.agg (vs.extract off (off+i.size))):=by
  intro i f;refine .agg _ _ (by have:=c.1;grind) ?_ ?_
  .intro j y b
   rw[a11,a26]at b;split at b
   .exact(c.2 _ _ b).1
   simp_all
  .intro j y b
   rw[a11,a26]at b;split at b
   .rename_i q
    have l:=(c.2 _ _ b).2
    have e1:(vs.extract off (off+i.size)).getD j Go.undef=vs.getD (off+j) Go.undef:=by
     have:=c.1;have k:off+j<vs.size:=by omega
     simp_all
    simp_all
   simp_all
 split at a
 .rename_i r h
  cases g:P.info? t with
  |none=>simp_all
  |some i =>
   simp only[g]at a;split at a
   .rename_i f
    cases a;simp_all[part,sH,sizeOf,typeInfo]
   simp_all
 .rename_i n e h
  cases g:P.info? t with
  |none=>simp_all
  |some i =>
   simp only[g]at a;split at a
   .rename_i f
    cases a;simp_all[part,sH,sizeOf,typeInfo]
   simp_all
 .rename_i d p o h
  have l:=c.2 _ _ a;have k:off<vs.size:=by rw[c.1];grind
  simp_all[sH,part]
 simp_all
def Rd.qA [Bk] [Ev] {m:Nat->St} {A:Nat->Prop} {w:World} {cs:List AV} {u:Value} (h:Rd m A w (.agg cs) u):∃vs,u=.agg vs/\CR (Rd m A w) cs vs:=by
 cases h with
 |pure _ _ h =>
  cases h with
  |agg _ vs b c h=>exact⟨vs,rfl,b,fun i x a=>⟨c i x a,.pure _ _ (h i x a)⟩⟩
 |agg _ vs b c h=>exact⟨vs,rfl,b,fun i x a=>⟨c i x a,h i x a⟩⟩
def Rd.acJ {w:World} (h:Rd m A w (.bG cs) u):∃vs,u=.tuple vs/\vs.size=cs.length/\∀(i:Nat) (x:AV),cs[i]?=some x->Rd m A w x (vs.getD i Go.undef):=by
 cases h with
 |pure _ _ h =>
  cases h with
  |bG _ vs a h=>exact⟨vs,rfl,a,fun i x b=>.pure _ _ (h i x b)⟩
 |bG _ vs a h=>simp_all
def ahC {t:TypeId} {k c d n:Nat} {v:AV} (s:o.op=.field t x k) (g:eJ f x=.agg cs) (b:nM P t k=some (c,d,n)) (i:mJ P c cs d=some v):eA P o f h ⟨v,[],[]⟩:=by
 refine cY fun m A w a H F=>?_;have e:=F.eval x;rw[g]at e;obtain⟨vs,p,j⟩:=e.qA;obtain⟨r,r1,r2⟩:=Ai (P:=P) j i;unfold nM at b;split at b
 .rename_i y q
  split at b
  .rename_i fd l
   cases u:P.info? fd.type<;>simp_all[execOp,Instr.field,run_underlying,asAgg]
  simp_all
 simp_all
def RE {t e:TypeId} {ix:Operand} {len s:Nat} {n:Int} {v:AV} (u:o.op=.index t x ix) (i:eJ f x=.agg cs) (j:eJ f ix=.c (.int k n)) (q:P.underlying t=some (.array len e)) (hs:(P.info? e).map (·.size)=some s) (z:0<=n) (y:n.toNat<len) (b:mJ P e cs (n.toNat*s)=some v) :
  eA P o f h ⟨v,[],[]⟩:=by
 refine cY fun m A w a H F=>?_;have g:=F.eval x;rw[i]at g;have d:=F.eval ix;rw[j]at d;have e2:=d.fN;obtain⟨vs,p,l⟩:=g.qA;obtain⟨r,r1,r2⟩:=Ai (P:=P) l b;cases b:P.info? e<;>simp_all[execOp,Instr.index,asIntOf,run_underlying,sizeOf,typeInfo]
def RD {t:TypeId} {ix:Operand} {s:ByteArray} {n:Int} {b:UInt8} (l:o.op=.index t x ix) (g:eJ f x=.c (.string s)) (i:eJ f ix=.c (.int k n)) (j:P.underlying t=some .string) (q:0<=n) (p:s[n.toNat]?=some b) :
  eA P o f h ⟨.c (.int .u8 b.toNat),[],[]⟩:=by
 refine cY fun m A w a H F=>?_;have e:=F.eval x;rw[g]at e;have d:=F.eval ix;rw[i]at d;have e1:=e.fN;have e2:=d.fN;exact⟨_,by simp_all[execOp,Instr.index,asIntOf,run_underlying],.pure _ _ (.c _)⟩
def abA {k:Nat} {vs:List AV} {v:AV} (l:o.op=.extract x k) (d:eJ f x=.bG vs) (e:vs[k]?=some v):eA P o f h ⟨v,[],[]⟩:=by
 refine cY fun m A w a H F=>?_;have c:=F.eval x;rw[d]at c;obtain⟨b,j,n,g⟩:=c.acJ;have i:k<b.size:=by grind
 refine⟨b.getD k Go.undef,?_,g k v e⟩
 simp_all[execOp,Instr.extract]
def Nv (P:Program) (t:TypeId) (a:List (Nat×AV)):Option (List AV) :=
 match P.info? t,P.underlying t with
 |some it,some (.array _ e) =>
  match (it.zero.map SC).bind jD,P.info? e with
  |some z,some ie=>yM (fun i=>some (i*ie.size,ie.size)) z a
  |_,_=>none
 |some it,some (.struct c) =>
  match (it.zero.map SC).bind jD,c.toList.mapM (fun f=>(P.info? f.type).map fun i=>(f.offset,i.size))with
  |some z,some b=>yM (b.toArray[·]?) z a
  |_,_=>none
 |_,_=>none
def ai8 {w:World} {t:TypeId} {ps:List (Nat×AV)} {qs:List (Nat×Value)} (n:ps.length=qs.length) (l:∀(i:Nat) (p:Nat×AV) (q:Nat×Value),ps[i]?=some p->qs[i]?=some q->p.1=q.1/\Rd m A w p.2 q.2) (a:Nv P t ps=some cs) :
  ∃j,P.built t qs=some j/\CR (Rd m A w) cs j:=by
 unfold Nv at a;unfold Program.built;split at a
 .rename_i it len e h g
  rw[h,g];simp only;cases d:it.zero with
  |none=>simp_all
  |some z =>
   cases o:P.info? e with
   |none=>simp_all
   |some ie =>
    cases b:jD (SC z)with
    |none=>simp_all
    |some zc =>
     simp only[d,o,b,a0q,a1f]at a;exact EN _ ps qs zc cs z.cells (pG (.pure _ _ (AG _ w z)) b) n l a
 .rename_i it c h g
  rw[h,g];simp only;cases d:it.zero with
  |none=>simp_all
  |some z =>
   cases r:c.toList.mapM (fun f=>(P.info? f.type).map fun i=>(f.offset,i.size))with
   |none=>simp_all
   |some k =>
    cases b:jD (SC z)with
    |none=>simp_all
    |some zc =>
     simp only[d,r,b,a0q,a1f]at a;exact EN _ ps qs zc cs z.cells (pG (.pure _ _ (AG _ w z)) b) n l a
 simp_all
def OZ {w:World} {a:Act} (F:nJ m A w f a) (b:Array (Nat×Operand)):∀(i:Nat) (p:Nat×AV) (q:Nat×Value),(b.toList.map fun p=>(p.1,eJ f p.2))[i]?=some p->(b.map fun p=>(p.1,a.eval p.2)).toList[i]?=some q->p.1=q.1/\Rd m A w p.2 q.2:=by
 intro i p q d c;rw[a0o]at d;rw[Array.toList_map,a0o]at c;cases e:b.toList[i]? with
 |none=>simp_all
 |some y =>
  rw[e]at d c;simp only[a0q,a0g]at d c;subst d;subst c;exact⟨rfl,F.eval y.2⟩
def ahD {t:TypeId} {b:Array (Nat×Operand)} (i:o.op=.build t b) (d:Nv P t (b.toList.map fun p=>(p.1,eJ f p.2))=some cs):eA P o f h ⟨.agg cs,[],[]⟩:=by
 refine cY fun m A w a H F=>?_;obtain⟨c,g,e⟩:=ai8 (P:=P) (m:=m) (A:=A) (w:=w) (qs:=(b.map fun p=>(p.1,a.eval p.2)).toList) (by simp) (OZ F b) d;refine⟨.agg c,?_,e.agg⟩;have:=run_build (P:=P) w t (b.map fun p=>(p.1,a.eval p.2)) c g
 simp_all[execOp]
def FL {t:TypeId} (c:o.op=.makeInterface t x) (b:P.concrete t=true):eA P o f h ⟨.rG t (eJ f x),[],[]⟩:=by
 refine cY fun m A w a H F=>⟨.iface t (a.eval x),by simp_all[execOp,run_makeInterface],.rG t _ _ (F.eval x)⟩
def Ez {w:World} {a:Act} (F:nJ m A w f a) (xs:Array Operand):∀(i:Nat) (x:AV),(xs.toList.map (eJ f))[i]?=some x->Rd m A w x ((xs.map a.eval).getD i Go.undef):=by
 intro i x b;rw[a0o]at b;cases c:xs.toList[i]? with
 |none=>simp_all
 |some y =>
  rw[c]at b;simp only[a0q,a0g]at b;subst b;have d:i<xs.size:=by grind
  have e:xs[i]=y:=by simp_all
  have:(xs.map a.eval).getD i Go.undef=a.eval y:=by simp_all
  rw[this];exact F.eval y
def TG {fn:Fn} {first b:Array Operand} (c:o.op=.makeFunc fn first b):eA P o f h ⟨.fn fn (first.toList.map (eJ f)) (b.toList.map (eJ f)),[],[]⟩:=by
 refine cY fun m A w a H F=>⟨.func fn (first.map a.eval) (b.map a.eval),by simp[execOp,c,Instr.makeFunc],?_⟩;exact .fn fn _ _ _ _ (by simp) (by simp) (Ez F first) (Ez F b)
def MU {s d:TypeId} {k':IntKind} {n:Int} (g:o.op=.convert s d x) (e:eJ f x=.c (.int k n)) (hs:P.underlying s=some ds) (i:P.underlying d=some (.int k')):eA P o f h ⟨.c (.int k' (k'.wrap n)),[],[]⟩:=by
 refine cY fun m A w a H F=>?_;have b:=F.eval x;rw[e]at b;have e1:=b.fN;exact⟨_,by simp[execOp,g,e1,convert,run_underlying hs,run_underlying i,Conv.intToInt],.pure _ _ (.c _)⟩
def MS {s d:TypeId} {b:ByteArray} (i:o.op=.convert s d x) (g:eJ f x=.c (.string b)) (hs:P.underlying s=some ds) (j:P.underlying d=some .string):eA P o f h ⟨.c (.string b),[],[]⟩:=by
 refine cY fun m A w a H F=>?_;have e:=F.eval x;rw[g]at e;have e1:=e.fN;exact⟨_,by simp[execOp,i,e1,convert,run_underlying hs,run_underlying j],.pure _ _ (.c _)⟩
def MR {s d:TypeId} {p:Poly} (g:o.op=.convert s d x) (c:eJ f x=.e p) (hs:P.underlying s=some ds) (i:P.underlying d=some (.int .i64)) (j:mD p=true):eA P o f h ⟨.e p,[],[]⟩:=by
 refine cY fun m A w a H F=>?_;have b:=F.eval x;rw[c]at b;have e1:=toP_ok (x:=.e p) rfl b;have:=IntWalk.i64_in (cQ Ev.eZ p) (by have:=abT j;omega);exact⟨_,by simp[execOp,g,e1,convert,run_underlying hs,run_underlying i,Conv.intToInt,this],.pure _ _ (.e p)⟩
def Rd.acV {w:World} {n:Poly} {xs:List Poly} (h:Rd m A w (.row n xs) u) :
  (cQ Ev.eZ n=0/\∃a cap,u=.slice a 0 cap)\/∃b off len cap,u=.slice (some ⟨b,off,none⟩) len cap/\cQ Ev.eZ n=(len:Nat)/\¬ Av m A b/\b<w.heap.size/\∀(j:Nat) (p:Poly),xs[j]?=some p->j<len->w.cell? ⟨b,off+j,none⟩=some (.int .i64 (cQ Ev.eZ p)):=by
 cases h with
 |pure _ _ h =>
  cases h<;>grind
def FN {t e:TypeId} {ix:Operand} {N p:Poly} {xs:List Poly} {n:Int} (D:o.op=.indexAddr t x ix) (v:eJ f x=.row N xs) (G:eJ f ix=.c (.int k n)) (B:P.underlying t=some (.slice e)) (hs:(P.info? e).map (·.size)=some 1) (L:0<=n) (E:TW (rM (yZ n) N)=some true) (C:xs[n.toNat]?=some p) :
  eA P o f h ⟨.iZ 1 [[CM p]] 0 0,[],[]⟩:=by
 refine cY fun m A w a H F=>?_;have s:=F.eval x;rw[v]at s;have r:=F.eval ix;rw[G]at r;have e2:=r.fN;have q:=pS E;rw[iA,sY,eq_comm,decide_eq_true_eq]at q;obtain⟨O,-⟩|⟨b,off,len,cap,z,Q,K,J,I⟩:=s.acV
 .omega
 .have u:=I _ _ C (by omega)
  cases g:P.info? e with
  |none=>simp_all
  |some M =>
   simp only[g,a0q,a0g]at hs;have l:n<(len:Int):=by omega
   refine⟨.pointer (some ⟨b,(off+n.toNat)+(0*1+0),none⟩),?_,.pure _ _ (.iZ 1 _ 0 0 b (off+n.toNat) (fun _ _=>.int .i64 (cQ Ev.eZ p)) K J ?_ ?_ ?_ ?_)⟩
   .simp[execOp,D,z,e2,Instr.indexAt,asIntOf,run_underlying B,L,l,sizeOf,typeInfo,g,hs,iS]
   .simp_all
   .intro i j y d
    rcases i with _|i
    .rcases j with _|j
     .simp[iE]at d;subst d;exact ake p
     simp_all[iE]
    simp_all[iE]
   .grind[iE]
   .intro i j y d
    rcases i with _|i
    .rcases j with _|j
     .simp[iE]at d;subst d;exact yE _ w p
     simp_all[iE]
    simp_all[iE]
end
end
end Mc
namespace Mc
variable {x:Operand} {ts:Array TypeId} {k k':IntKind}
section
variable {P:Program} {o:Oper} {f:List AV} {h:AH}
def jX (h:AH):AV->Option (List (List AV))
 | .emp=>some []
 | .lit _ bL=>some bL
 | .own T b id i n=>match h id with
  | .cells c a bL=>if c=T/\a=b/\i+n<=bL.length then some ((bL.drop i).take n)else none
  |_=>none
 |_=>none
def uC:AV->List Nat
 | .own _ _ id _ _=>[id]
 |_=>[]
section
variable [Bk] [Ev]
def flat_get {bL:List (List AV)} {sz:Nat} (c:∀e∈bL,e.length=sz) {k:Nat} (b:k<bL.length*sz):∃x,iE bL (k/sz) (k%sz)=some x:=by
 have a:0<sz:=by
  grind
 have f:k/sz<bL.length:=(a4x a).2 b;have d:k%sz<sz:=a27 _ a
 simp_all[iE]
def tR {bL:List (List AV)} {i n a j:Nat} {x:AV} (h:iE ((bL.drop i).take n) a j=some x):a<n/\iE bL (i+a) j=some x:=by
 grind[iE]
def aaG {m:Nat->St} {A:Nat->Prop} {w:World} (H:dV m A h w) {x:AV} {v:Value} {bL:List (List AV)} {sz:Nat} (t:Rd m A w x v) (l:jX h x=some bL) (q:∀e∈bL,e.length=sz) (Y:∀T s id i n,x=.own T s id i n->s=sz) :
  ∃a cap,v=.slice a bL.length cap/\bL.length<=cap/\(a=none->bL=[])/\∃c:List Value,c.length=bL.length*sz/\(∀z,a=some z->∀j u,c[j]?=some u->w.cell? (z.add j)=some u)/\(∀u∈c,u.oneCell'=true) /\
   ∀(i j:Nat) (y:AV),iE bL i j=some y->y.one=true/\Rd m A w y (c.getD (i*sz+j) Go.undef):=by
 have R:∀c:List Value,c.length=bL.length*sz->(∀(i j:Nat) (y:AV),iE bL i j=some y->y.one=true/\Rd m A w y (c.getD (i*sz+j) Go.undef))->∀u∈c,u.oneCell'=true:=by
  intro c D C u K;obtain⟨k,hk,rfl⟩:=a3m K;obtain⟨y,g⟩:=flat_get q (k:=k) (by omega);obtain⟨Q,P⟩:=C _ _ _ g;have e1:k/sz*sz+k%sz=k:=by rw[a2v];exact a3o k sz
  rw[e1]at P;have:=P.one Q
  grind
 have nil:∀a cap,bL=[]->v=.slice a 0 cap->∃a cap,v=.slice a bL.length cap/\bL.length<=cap/\(a=none->bL=[])/\∃c:List Value,c.length=bL.length*sz/\(∀z,a=some z->∀j u,c[j]?=some u->w.cell? (z.add j)=some u)/\(∀u∈c,u.oneCell'=true) /\
   ∀(i j:Nat) (y:AV),iE bL i j=some y->y.one=true/\Rd m A w y (c.getD (i*sz+j) Go.undef):=by
  rintro a cap rfl rfl
  simp_all[iE]
 cases x with
 |emp =>
  simp only[jX,a0g]at l;cases t with|pure _ _ t=>cases t with|emp a=>exact nil a 0 l.symm rfl
 |lit s f =>
  simp only[jX,a0g]at l;subst l;obtain⟨rfl,a,cap,rfl⟩|⟨b,off,cap,vs,rfl,hA,I,G,hs,J,V,W⟩:=t.pY
  .exact nil a cap rfl rfl
  .have L:f≠[]->s=sz:=by
    intro B;obtain⟨e,r,rfl⟩:=a3p B;simp_all
   by_cases B:f=[]
   .grind
   have:=L B;subst this;have D:((List.range (f.length*s)).map fun k=>vs (k/s) (k%s)).length=f.length*s:=by simp
   have F:∀(i j:Nat) (y:AV),iE f i j=some y->y.one=true/\Rd m A w y (((List.range (f.length*s)).map fun k=>vs (k/s) (k%s)).getD (i*s+j) Go.undef):=by
    intro i j y g;have ab:=kJ g q;refine⟨J i j y g,?_⟩
    have e1:(i*s+j)/s=i:=by
     grind[Nat.mul_comm,Nat.mul_add_div,Nat.div_eq_of_lt]
    have e2:(i*s+j)%s=j:=(by grind[Nat.mul_comm,Nat.mul_add_mod,Nat.mod_eq_of_lt])
    have:((List.range (f.length*s)).map fun k=>vs (k/s) (k%s)).getD (i*s+j) Go.undef=vs i j:=by
     grind
    rw[this];exact .pure _ _ (W i j y g)
   refine⟨some ⟨b,off,none⟩,cap,rfl,G,(fun h=>by cases h),(List.range (f.length*s)).map fun k=>vs (k/s) (k%s),D,?_,R _ D F,F⟩;intro z O j u K;cases O;have hj:j<f.length*s:=by grind
   obtain⟨y,g⟩:=flat_get q hj;have Q:=V _ _ _ g;have e1:j/s*s+j%s=j:=by rw[a2v];exact a3o j s
   grind[iS]
 |own T s id i n =>
  have:=Y T s id i n rfl;subst this;simp only[jX]at l;split at l
  .rename_i T' d o hh
   split at l
   .rename_i G
    obtain⟨rfl,rfl,N⟩:=G;cases l;rcases H.cells id _ _ _ hh with⟨hv,rfl⟩|⟨b,cs,g1,g2,g3,g4,g5⟩
    .have C:n=0:=by simp_all
     subst C;have:∃a cap,v=.slice a 0 cap:=by
      cases t with
      |pure _ _ h=>cases h
      |own _ _ _ _ _ b _ M=>simp_all
      |vJ _ _ _ _ a M=>simp_all
      |wC _ _ _ _ _ _ _ _ M=>simp_all
     grind
    .obtain⟨cap,rfl,C,-,Z⟩:=t.vO g1
     have E:((o.drop i).take n).length=n:=(by grind);have S:(i+cap)*d=cs.size:=(by grind[gW]);have aa:(i+n)*d<=o.length*d:=a1a _ N
     have D:((cs.toList.drop (i*d)).take (n*d)).length=((o.drop i).take n).length*d:=by
      grind
     have F:∀(p j:Nat) (y:AV),iE ((o.drop i).take n) p j=some y->y.one=true/\Rd m A w y (((cs.toList.drop (i*d)).take (n*d)).getD (p*d+j) Go.undef):=by
      intro p j y g;obtain⟨J,X⟩:=tR g;have I:=kJ g q;obtain⟨U,q2⟩:=g5 _ _ _ X;refine⟨U,?_⟩
      rw[E]at I;have:((cs.toList.drop (i*d)).take (n*d)).getD (p*d+j) Go.undef=cs.getD ((i+p)*d+j) Go.undef:=by
       rw[List.getD,a11,if_pos I.2.2,a26];rw[show i*d+(p*d+j)=(i+p)*d+j by grind];simp
      grind
     grind[iS,World.cell?]
   grind
  grind
 |_=>simp[jX]at l
def anz {t:TypeId} {e:TypeId} {bL:List (List AV)} (z:o.op=.call { callee:=.builtin .len,args:=#[x],argTypes:=#[t] }) (r:P.underlying t=some (.slice e)) (d:jX h (eJ f x)=some bL):eA P o f h ⟨.c (.int .i64 bL.length),[],uC (eJ f x)⟩:=by
 refine cY fun m A w a H F=>?_
 have j:=F.eval x;have g:∃q cap,a.eval x=.slice q bL.length cap:=by
  generalize eJ f x=y at j d;generalize a.eval x=v at j;cases y with
  |emp =>
   simp only[jX,a0g]at d;subst d;cases j with|pure _ _ u=>cases u<;>simp_all
  |lit s D =>
   simp only[jX,a0g]at d;subst d;obtain⟨rfl,a,cap,rfl⟩|⟨b,off,cap,vs,rfl,-⟩:=j.pY<;>simp_all
  |own T s id i n =>
   simp only[jX]at d;split at d
   .rename_i K E k B
    split at d
    .rename_i C
     obtain⟨rfl,rfl,G⟩:=C;cases d;have g:((k.drop i).take n).length=n:=(by grind);rw[g];rcases H.cells id _ _ _ B with⟨l,rfl⟩|⟨b,cs,g1,g2,g3,J,I⟩
     .cases j with
      |pure _ _ h=>cases h
      |own _ _ _ _ _ b _ p=>simp_all
      |vJ _ _ _ _ a p=>simp_all
      |wC _ _ _ _ _ _ _ _ p=>simp_all
     .obtain⟨cap,rfl,-⟩:=j.vO g1
      simp_all
    simp_all
   simp_all
  |_=>simp[jX]at d
 obtain⟨q,cap,l⟩:=g;refine⟨_,?_,.pure _ _ (.c _)⟩;simp[execOp,z,resolve,invoke,builtin,l,Builtin.len_,run_underlying r,goInt]
def abx {t:TypeId} {s:ByteArray} (g:o.op=.call { callee:=.builtin .len,args:=#[x],argTypes:=#[t] }) (e:P.underlying t=some .string) (d:eJ f x=.c (.string s)):eA P o f h ⟨.c (.int .i64 s.size),[],[]⟩:=by
 refine cY fun m A w a H F=>?_;have b:=F.eval x;rw[d]at b;have e1:=b.fN;refine⟨_,?_,.pure _ _ (.c _)⟩;simp[execOp,g,resolve,invoke,builtin,e1,Builtin.len_,run_underlying e,goInt]
def akc {y:Operand} {p q:Int} (i:o.op=.call { callee:=.builtin .max,args:=#[x,y],argTypes:=ts }) (g:eJ f x=.c (.int k p)) (e:eJ f y=.c (.int k' q)):eA P o f h ⟨.c (.int k (if q > p then q else p)),[],[]⟩:=by
 refine cY fun m A w a H F=>?_;have d:=F.eval x;rw[g]at d;have b:=F.eval y;rw[e]at b;refine⟨_,?_,.pure _ _ (.c _)⟩;simp[execOp,i,resolve,invoke,builtin,d.fN,b.fN,Builtin.max_,Builtin.max2]
def aka {y:Operand} {p q:Int} (i:o.op=.call { callee:=.builtin .min,args:=#[x,y],argTypes:=ts }) (g:eJ f x=.c (.int k p)) (e:eJ f y=.c (.int k' q)):eA P o f h ⟨.c (.int k (if q<p then q else p)),[],[]⟩:=by
 refine cY fun m A w a H F=>?_;have d:=F.eval x;rw[g]at d;have b:=F.eval y;rw[e]at b;refine⟨_,?_,.pure _ _ (.c _)⟩;simp[execOp,i,resolve,invoke,builtin,d.fN,b.fN,Builtin.min_,Builtin.min2]
def akb {y z:Operand} {b:IntKind} {p q r:Int} (n:o.op=.call { callee:=.builtin .max,args:=#[x,y,z],argTypes:=ts }) (l:eJ f x=.c (.int k p)) (j:eJ f y=.c (.int k' q)) (i:eJ f z=.c (.int b r)):eA P o f h ⟨.c (.int k (if r > (if q > p then q else p)then r else(if q > p then q else p))),[],[]⟩:=by
 refine cY fun m A w a H F=>?_;have g:=F.eval x;rw[l]at g;have e:=F.eval y;rw[j]at e;have d:=F.eval z;rw[i]at d;refine⟨_,?_,.pure _ _ (.c _)⟩;simp[execOp,n,resolve,invoke,builtin,g.fN,e.fN,d.fN,Builtin.max_,Builtin.max2]
def Rx {t:TypeId} {j e:Operand} {bL:List (List AV)} (z:o.op=.slice t x none (some j) (some e)) (l:P.underlying t=some (.slice (P.elem t))) (hs:(P.info? (P.elem t)).isSome=true) (p:jX h (eJ f x)=some bL) (B:eJ f j=.c (.int k 0)) (h1:eJ f e=.c (.int k' 0)) :
  eA P o f h ⟨.emp,[],uC (eJ f x)⟩:=by
 refine cY fun m A w a H F=>?_
 have g1:=F.eval j;rw[B]at g1;have g2:=F.eval e;rw[h1]at g2;have g3:=F.eval x;have g:∃d n cap,a.eval x=.slice d n cap:=by
  generalize eJ f x=y at g3 p;generalize a.eval x=v at g3;cases y with
  |emp=>cases g3 with|pure _ _ r=>cases r<;>simp_all
  |lit s C =>
   obtain⟨rfl,a,cap,rfl⟩|⟨b,off,cap,vs,rfl,-⟩:=g3.pY<;>simp_all
  |own T s id i n =>
   cases g3 with
   |pure _ _ h=>cases h
   |own _ _ _ _ _ b cap=>simp_all
   |vJ _ _ _ _ a=>simp_all
   |wC=>simp_all
  |_=>simp[jX]at p
 obtain⟨d,n,cap,g⟩:=g;cases u:P.info? (P.elem t)with
 |none=>simp_all
 |some q =>
  refine⟨.slice (if(0:Nat)=0 then d else d.map (·.add (0*q.size))) 0 0,?_,?_⟩
  .have r1:=run_sliceAt_slice (P:=P) w t (.slice d n cap) none (some (.int k 0)) (some (.int k' 0)) l
   have r2:=run_slice_hm (P:=P) w t d n cap l k k' 0 0 (by omega) (by omega) (by omega);rw[r2]at r1;simp[execOp,z,g,g1.fN,g2.fN,r1,sizeOf,typeInfo,u,sliced]
  .exact .pure _ _ (.emp _)
def abz {t:TypeId} {e:TypeId} {n:Poly} {xs:List Poly} (g:o.op=.call { callee:=.builtin .len,args:=#[x],argTypes:=#[t] }) (d:P.underlying t=some (.slice e)) (k:eJ f x=.row n xs):eA P o f h ⟨CM n,[],[]⟩:=by
 refine cY fun m A w a H F=>?_;have i:=F.eval x;rw[k]at i;refine⟨_,?_,.pure _ _ (yE _ w n)⟩;obtain⟨j,p,cap,c⟩|⟨b,off,len,cap,c,l,-⟩:=i.acV
 .simp[execOp,g,resolve,invoke,builtin,c,Builtin.len_,run_underlying d,goInt,j]
 .simp[execOp,g,resolve,invoke,builtin,c,Builtin.len_,run_underlying d,goInt,l]
def L5 [Bk] (p q:Poly):Option Poly:=match TW (rM p q)with
 |some b=>some (if b then q else p)
 |none=>findD 2 p q Bk.defs
def aeq {p q r:Poly} (h:L5 p q=some r):cQ Ev.eZ r=if cQ Ev.eZ q > cQ Ev.eZ p then cQ Ev.eZ q else cQ Ev.eZ p:=by
 unfold L5 at h;split at h
 .rename_i b a
  cases h;have k:=pS a;rw[iA]at k;grind
 .have c:cQ Ev.eZ r=max (cQ Ev.eZ p) (cQ Ev.eZ q):=(Ev.defs _ (EM h)).2.2 rfl
  omega
def L4 [Bk] (p q:Poly):Option Poly:=(TW (rM q p)).map fun b=>if b then q else p
def aep {p q r:Poly} (h:L4 p q=some r):cQ Ev.eZ r=if cQ Ev.eZ q<cQ Ev.eZ p then cQ Ev.eZ q else cQ Ev.eZ p:=by
 unfold L4 at h;rw[a1b]at h;obtain⟨b,a,rfl⟩:=h;have k:=pS a;rw[iA]at k;grind
def abv {y:Operand} {p q r:Poly} (e:o.op=.call { callee:=.builtin .max,args:=#[x,y],argTypes:=ts }) (c:toP (eJ f x)=some p) (b:toP (eJ f y)=some q) (d:L5 p q=some r):eA P o f h ⟨CM r,[],[]⟩:=by
 refine cY fun m A w a H F=>?_;have e1:=toP_ok c (F.eval x);have e2:=toP_ok b (F.eval y);refine⟨_,?_,.pure _ _ (yE _ w r)⟩;rw[aeq d];simp_all[execOp,resolve,invoke,builtin,Builtin.max_,Builtin.max2]
def abu {y:Operand} {p q r:Poly} (e:o.op=.call { callee:=.builtin .min,args:=#[x,y],argTypes:=ts }) (c:toP (eJ f x)=some p) (b:toP (eJ f y)=some q) (d:L4 p q=some r):eA P o f h ⟨CM r,[],[]⟩:=by
 refine cY fun m A w a H F=>?_;have e1:=toP_ok c (F.eval x);have e2:=toP_ok b (F.eval y);refine⟨_,?_,.pure _ _ (yE _ w r)⟩;rw[aep d];simp_all[execOp,resolve,invoke,builtin,Builtin.min_,Builtin.min2]
end
end
end Mc
namespace Mc
variable {m:Nat->St} {A:Nat->Prop} {id:Nat}
section
variable {P:Program} {o:Oper} {f:List AV} {h:AH}
section
variable [Bk] [Ev]
def dV.kill {w:World} (H:dV m A h w) (s:m id=.uB) :
  dV (sset m id .dead) A (gO h id .dead) w/\Ext m w (sset m id .dead) w:=by
 have E:Ext m w (sset m id .dead) w:=by
  refine⟨rfl,rfl,rfl,a0h _,?_,?_,?_,?_,fun _ _ _ _=>rfl⟩<;>grind[sset]
 refine⟨⟨?_,H.old,?_,?_,?_,?_,H.mS.ext H.out E,H.nZ E fun r B a t=>?_,sA.set H.scs trivial⟩,E⟩
 .intro k b f
  unfold sset at f;split at f
  .cases f
  .exact H.out k b f
 .intro k a
  unfold gO at a;unfold sset;split at a
  .cases a
  .rename_i c;rw[if_neg c];exact H.no k a
 .intro k a
  unfold gO at a;unfold sset;split at a
  .simp_all
  .rename_i c;rw[if_neg c];exact H.dead k a
 .intro k q l g a
  unfold gO at a;split at a
  .simp_all[dC.bL]
  .rename_i c
   obtain⟨g1,g2⟩|⟨b,cs,g1,g2,g3,p,o⟩:=H.wQ k q l g a
   .simp_all[sset]
   .exact .inr ⟨b,cs,by simp_all[sset],g2,g3,p,fun i j x n=>⟨(o i j x n).1,(o i j x n).2.ext E⟩⟩
 .intro i j b e d
  unfold sset at e d;split at e
  .cases e
  .split at d
   .cases d
   .exact H.inj i j b e d
 grind[gO,dC.other,sset]
def dV.LQ {w:World} (H:dV m A h w) (o:h id=.no) {B:dC} {T sz:Nat} (p:B.bL=some (T,sz,[])) (t:sA B) :
  dV (sset m id .uB) A (gO h id B) w/\Ext m w (sset m id .uB) w:=by
 have r:=H.no id o;have C:∀{k:Nat} {s:St},m k=s->s≠.no->k≠id:=by grind
 have E:Ext m w (sset m id .uB) w:=by
  refine⟨rfl,rfl,rfl,a0h _,?_,?_,?_,?_,fun _ _ _ _=>rfl⟩<;>grind[sset]
 refine⟨⟨?_,H.old,?_,?_,?_,?_,H.mS.ext H.out E,H.nZ E fun y B1 a z=>?_,sA.set H.scs t⟩,E⟩
 .intro k b f
  unfold sset at f;split at f
  .cases f
  .exact H.out k b f
 .intro k a
  unfold gO at a;unfold sset;split at a
  .exact absurd a (dC.zP p).1
  .rename_i c;rw[if_neg c];exact H.no k a
 .intro k a
  unfold gO at a;unfold sset;split at a
  .exact absurd a (dC.zP p).2
  .rename_i c;rw[if_neg c];exact H.dead k a
 .intro k v l g a
  unfold gO at a;split at a
  .simp_all[sset]
  .rename_i c
   obtain⟨g1,g2⟩|⟨b,cs,g1,g2,g3,u,q⟩:=H.wQ k v l g a
   .simp_all[sset]
   .exact .inr ⟨b,cs,by simp_all[sset],g2,g3,u,fun i j x n=>⟨(q i j x n).1,(q i j x n).2.ext E⟩⟩
 .intro i j b e d
  unfold sset at e d;split at e
  .cases e
  .split at d
   .cases d
   .exact H.inj i j b e d
 grind[gO,dC.Au,sset]
def dV.acD {w:World} (H:dV m A h w) (a:h id=.no) (T sz:Nat) :
  dV (sset m id .uB) A (gO h id (.cells T sz [])) w/\Ext m w (sset m id .uB) w:=H.LQ a (T:=T) (sz:=sz) rfl trivial
def dV.ags {w w':World} (H:dV m A h w) {nx T sz b g:Nat} {els':List (List AV)} {cs':Array Value} {B:dC} (q:B.bL=some (T,sz,els')) (L:sA B) (p:m id=.at b) (t:h nx=.no) (d:w.grownBy w' (some b)) (y:g=b\/w.heap.size<=g) (J:g<w'.heap.size)
  (D:w'.heap[g]?=some (.cells cs' T (0,0))) (N:els'.length*sz<=cs'.size) (M:∀e∈els',e.length=sz)
  (z:∀(i j:Nat) (x:AV),iE els' i j=some x->x.one=true/\Rd m A w x (cs'.getD (i*sz+j) Go.undef)) :
  dV (sset (sset m id .dead) nx (.at g)) A (gO (gO h id .dead) nx B) w'/\Ext m w (sset (sset m id .dead) nx (.at g)) w':=by
 have F:=H.no nx t;have X:nx≠id:=by grind
 have K:=H.lt p;have get:∀k,k≠nx->k≠id->sset (sset m id .dead) nx (.at g) k=m k:=by simp_all[sset]
 have o:sset (sset m id .dead) nx (.at g) nx=.at g:=by simp[sset]
 have Z:sset (sset m id .dead) nx (.at g) id=.dead:=by grind[sset]
 have W:∀k c,m k=.at c->k≠id->c≠b/\w'.heap[c]?=w.heap[c]?:=by
  intro k c a v;have u:c≠b:=by rintro rfl;exact v (H.inj k id c a p)
  exact⟨u,d.block c (H.lt a) (by simp_all)⟩
 have E:Ext m w (sset (sset m id .dead) nx (.at g)) w':=by
  refine⟨d.os,d.tape,d.output,d.size,?_,?_,?_,?_,?_⟩
  .grind
  .grind
  .grind
  .intro c l hu
   have u:c≠b:=(by grind);refine⟨?_,d.block c l (by simp_all)⟩
   grind
  grind[gW]
 refine⟨⟨?_,fun c l=>by have:=H.old c l;have:=d.size;omega,?_,?_,?_,?_,H.mS.ext H.out E,H.nZ E fun k B1 a Y=>?_,sA.set (sA.set H.scs trivial) L⟩,E⟩
 .intro k c a r
  by_cases e2:k=nx
  .subst e2;rw[o]at a;cases a
   rcases y with rfl|y
   .exact H.out id _ p r
   .have:=H.old _ r;omega
  .by_cases e1:k=id
   .simp_all
   .rw[get k e2 e1]at a;exact H.out k c a r
 .intro k a
  by_cases e2:k=nx
  .subst e2;rw[Az]at a;exact absurd a (dC.zP q).1
  .by_cases e1:k=id
   .simp_all[gO]
   .rw[get k e2 e1];simp[gO,e2,e1]at a;exact H.no k a
 .intro k a
  by_cases e2:k=nx
  .subst e2;rw[Az]at a;exact absurd a (dC.zP q).2
  .by_cases e1:k=id
   .simp_all
   .rw[get k e2 e1];simp[gO,e2,e1]at a;exact H.dead k a
 .intro k V s n a
  by_cases e2:k=nx
  .subst e2
   rw[Az,q]at a;cases a;exact .inr ⟨g,cs',o,D,N,M,fun i j x f=>⟨(z i j x f).1,(z i j x f).2.ext E⟩⟩
  .by_cases e1:k=id
   .simp_all[gO,dC.bL]
   .simp[gO,e2,e1]at a
    obtain⟨g1,g2⟩|⟨c,cs,g1,g2,g3,O,C⟩:=H.wQ k V s n a
    .simp_all
    .exact .inr ⟨c,cs,by simp_all,by grind,g3,O,fun i j x f=>⟨(C i j x f).1,(C i j x f).2.ext E⟩⟩
 .intro i j c I G
  have key:∀k,sset (sset m id .dead) nx (.at g) k=.at c->(k=nx/\c=g)\/(k≠nx/\k≠id/\m k=.at c):=by
   grind
  rcases key i I with⟨U,a2⟩|⟨U,a2,S⟩<;>rcases key j G with⟨R,Q⟩|⟨R,Q,P⟩
  .omega
  .grind
  .grind
  .exact H.inj i j c S P
 grind[gO,dC.Au,dC.other]
def dV.renew {w w':World} (H:dV m A h w) {nx T sz b g:Nat} {bL els':List (List AV)} {cs':Array Value} (q:h id=.cells T sz bL) (l:m id=.at b) (c:h nx=.no) (d:w.grownBy w' (some b)) (k:g=b\/w.heap.size<=g) (a:g<w'.heap.size)
  (f:w'.heap[g]?=some (.cells cs' T (0,0))) (p:els'.length*sz<=cs'.size) (o:∀e∈els',e.length=sz)
  (n:∀(i j:Nat) (x:AV),iE els' i j=some x->x.one=true/\Rd m A w x (cs'.getD (i*sz+j) Go.undef)) :
  dV (sset (sset m id .dead) nx (.at g)) A (gO (gO h id .dead) nx (.cells T sz els')) w'/\Ext m w (sset (sset m id .dead) nx (.at g)) w':=H.ags rfl trivial l c d k a f p o n
def ack {xs ys:List (List AV)} {i j:Nat} {x:AV} (h:iE (xs++ys) i j=some x):(i<xs.length/\iE xs i j=some x)\/(xs.length<=i/\iE ys (i-xs.length) j=some x):=by
 grind[iE]
def OM {R:AV->Value->Prop} {xs ys:List (List AV)} {sz:Nat} (c:∀e∈xs,e.length=sz) {us vs:List Value} (g:us.length=xs.length*sz)
  (h1:∀(i j:Nat) (x:AV),iE xs i j=some x->x.one=true/\R x (us.getD (i*sz+j) Go.undef)) (f:∀(i j:Nat) (x:AV),iE ys i j=some x->x.one=true/\R x (vs.getD (i*sz+j) Go.undef)) :
  ∀(i j:Nat) (x:AV),iE (xs++ys) i j=some x->x.one=true/\R x ((us++vs).getD (i*sz+j) Go.undef):=by
 intro i j x h;rcases ack h with⟨a,b⟩|⟨a,b⟩
 .have k:=kJ b c
  grind
 .have:=f _ _ _ b
  have d:xs.length*sz<=i*sz:=a1a _ a
  grind[Nat.sub_mul]
def yT (a0:Option Addr) (t g e:TypeId) (i:TypeInfo) (z:Value) (k:P.underlying t=some (.slice e)) (m:P.info? e=some i) (h:i.zero=some z) (w:World)
  (a:Addr) (n c:Nat) (d:List Value) (l:d.length=n*i.size) (f:∀j v,d[j]?=some v->w.cell? (a.add j)=some v)
  (p:0<n) (o:(n:Int)<=9223372036854775807) (q:n*i.bytes<=140737488355328) :
  (Builtin.append_ #[t,t] g #[.slice a0 0 0,.slice (some a) n c]).run P w =
   .ok (.slice (some ⟨w.heap.size,0,none⟩) n (grownCap w n 0 e)) (w.drew.alloc (.cells (d.toArray++Builtin.zeroCells z.cells (grownCap w n 0 e-n)) e)):=by
 cases a0 with
 |none=>exact run_append_nil w t g e i z k m h a n c d l f p o (by omega)
 |some b =>
  have:=run_append_grow (P:=P) w t g e i z k m h b 0 0 [] (by simp) (by simp_all) a n c d l f (by omega) (by omega) (by grind[nextslicecap_zero])
  simp_all
def nK (v:Value) (a0 a:Option Addr) (n cap g:Nat) (t b e:TypeId) (i:TypeInfo) (c:P.underlying t=some (.slice e)) (f:P.info? e=some i) (w:World) (d:n<=cap) (h:a0=none->n=0) :
  (Builtin.append_ #[t,t] b #[.slice a0 n cap,.slice a 0 g]).run P w=.ok (.slice a0 n cap) w:=by
 cases a0<;>cases a<;>simp[Builtin.append_,run_underlying c,sizeOf,typeInfo,f,Builtin.lenOf,Builtin.firstCells,d,storeCells,loadCells,loadCellsFrom]
def wO (h:AH) (e sz:Nat):AV->Option (List (List AV)×List (Nat×dC)×List Nat)
 | .emp=>some ([],[],[])
 | .own T s id 0 n=>match h id with
  | .cells b a bL=>if b=T/\a=s/\T=e/\s=sz/\n=bL.length then some (bL,[(id,.dead)],[id])else none
  |_=>none
 |_=>none
def O3 {t e:TypeId} {x y:Operand} {bL ys:List (List AV)} {k:List (Nat×dC)} {rd:List Nat} {i:TypeInfo} {z:Value} {nx:Nat} (ho:o.op=.call { callee:=.builtin .append,args:=#[x,y],argTypes:=#[t,t] }) (ht:P.underlying t=some (.slice e)) (hi:P.info? e=some i) (hz:i.zero=some z) (ag:z.cells.size=i.size) (aw:0<i.size)
  (D:wO h e i.size (eJ f x)=some (bL,k,rd)) (hy:jX h (eJ f y)=some ys) (U:∀q∈ys,q.length=i.size) (au:∀T s id j n,eJ f y=.own T s id j n->s=i.size) (hb:(bL.length+ys.length)*i.bytes<=140737488355328) (hm:bL.length+ys.length<=1099511627776) (aj:h nx=.no) :
  eA P o f h ⟨.own e i.size nx 0 (bL.length+ys.length),k++[(nx,.cells e i.size (bL++ys))],nx::rd++uC (eJ f y)⟩:=by
 intro m A w a H F;have K:=F.eval x;have gy:=F.eval y;obtain⟨a1,c1,ah,aJ,az,d,hl,N,ap,ai⟩:=aaG H gy hy U au;have l:∀v w',(Builtin.append_ #[t,t] o.type #[a.eval x,a.eval y]).run P w=.ok v w'->(execOp a.eval o).run P w=.ok (.value v) w':=by
  intro v w' C;simp[execOp,ho,resolve,invoke,builtin,C]
 have af:∀(m1:Nat->St) (h1:AH) (hk:gE h (k++[(nx,.cells e i.size (bL++ys))])=gO h1 nx (.cells e i.size ys)) (H1:dV m1 A h1 w) (E1:Ext m w m1 w) (J:h1 nx=.no) (a0:Option Addr) (B:a.eval x=.slice a0 0 0) (he:bL=[]),
   ∃E w' I,((execOp a.eval o).run P w=.ok (.value E) w'\/((execOp a.eval o).run P w=.ok .skip w'/\E=Go.undef))/\dV I A (gE h (k++[(nx,.cells e i.size (bL++ys))])) w'/\Rd I A w' (.own e i.size nx 0 (bL.length+ys.length)) E/\Ext m w I w':=by
  intro m1 h1 hk H1 E1 J a0 B he;subst he;rw[hk];rw[B,ah]at l;simp only[a2w,a00]at hm hb |-;by_cases S:ys=[]
  .subst S
   have C:=nK (P:=P) (.slice a0 0 0) a0 a1 0 0 c1 t o.type e i ht hi w (a0h _) (fun _=>rfl);obtain⟨Q,O⟩:=H1.acD J e i.size;refine⟨_,w,_,.inl (l _ _ C),Q,?_,E1.trans O⟩;exact .vJ e i.size nx 0 a0 (by simp[sset])
  .have an:0<ys.length:=a28.2 S
   obtain⟨L,rfl⟩:∃L,a1=some L:=by
    cases a1<;>grind
   have C:=yT (P:=P) a0 t o.type e i z ht hi hz w L ys.length c1 d hl (fun j v hv=>N L rfl j v hv) an (by omega) hb
   have W:ys.length<=grownCap w ys.length 0 e/\grownCap w ys.length 0 e<=maxLen:=by
    unfold grownCap Question.cut;have:=a27 (w.tape w.drawn (.appendCap ys.length 0 e)) (show 0<2 ^ 63-ys.length by omega)
    grind[maxLen]
   have ab:(d.toArray++Builtin.zeroCells z.cells (grownCap w ys.length 0 e-ys.length)).size=grownCap w ys.length 0 e*i.size:=by
    simp only[Array.size_append,List.size_toArray,hl,Builtin.zeroCells,Array.size_map,Array.size_range,ag];rw[<-a3n];grind
   obtain⟨d1,d2⟩:=H1.drew;obtain⟨Q,O⟩:=d1.alloc (id:=nx) (T:=e) (sz:=i.size) (bL:=ys) (cs:=d.toArray++Builtin.zeroCells z.cells (grownCap w ys.length 0 e-ys.length)) J (by grind) U (by
    intro p j y r;obtain⟨r1,r2⟩:=ai p j y r;have X:=kJ r U;have e1:(d.toArray++Builtin.zeroCells z.cells (grownCap w ys.length 0 e-ys.length)).getD (p*i.size+j) Go.undef=d.getD (p*i.size+j) Go.undef:=by
     have aA:p*i.size+j<d.length:=(by omega);simp[a1p,aA,List.getD]
    rw[e1];exact⟨r1,(r2.ext E1).ext d2⟩)
   refine⟨_,_,_,.inl (l _ _ C),Q,?_,(E1.trans d2).trans O⟩
   have:=Rd.own (m:=sset m1 nx (.at w.drew.heap.size)) (A:=A) (w:=w.drew.alloc (.cells (d.toArray++Builtin.zeroCells z.cells (grownCap w ys.length 0 e-ys.length)) e)) e i.size nx 0 ys.length w.heap.size (grownCap w ys.length 0 e) (by simp[sset]) (by simp) W.1 W.2 (by
    rw[a00,<-ab];have:(w.drew.alloc (.cells (d.toArray++Builtin.zeroCells z.cells (grownCap w ys.length 0 e-ys.length)) e)).heap[w.heap.size]?=some (.cells (d.toArray++Builtin.zeroCells z.cells (grownCap w ys.length 0 e-ys.length)) e (0,0)):=by
     show(w.heap.push _)[w.heap.size]?=_;simp
    grind[gW])
   grind
 unfold wO at D;split at D
 .rename_i Y
  simp only[a0g,a1t]at D;obtain⟨rfl,rfl,rfl⟩:=D;rw[Y]at K;obtain⟨a0,B⟩:∃a0,a.eval x=.slice a0 0 0:=by
   generalize a.eval x=v at K;cases K with|pure _ _ C=>cases C<;>grind
  exact af m h (by simp[gE]) H (Ext.refl _ _) aj a0 B rfl
 .rename_i T s id n Y
  split at D
  .rename_i M s' c hh
   split at D
   .rename_i hc
    obtain⟨rfl,rfl,rfl,rfl,rfl⟩:=hc;simp only[a0g,a1t]at D;obtain⟨rfl,rfl,rfl⟩:=D;rw[Y]at K;have aI:nx≠id:=(by grind);rcases H.cells id _ _ _ hh with⟨hv,rfl⟩|⟨b,cs,g1,g2,g3,g4,g5⟩
    .obtain⟨a0,B⟩:∃a0,a.eval x=.slice a0 0 0:=by
      generalize a.eval x=v at K;cases K with
      |pure _ _ h=>cases h
      |own _ _ _ _ _ b _ hm=>grind
      |vJ _ _ _ _ a hm=>grind
      |wC _ _ _ _ _ _ _ _ hm=>grind
     obtain⟨Q,O⟩:=H.kill hv;grind[gE,lP]
    .obtain⟨cap,B,ak,aD,aE⟩:=K.vO g1
     have ac:cap*i.size=cs.size:=(by grind[gW])
     have ao:w.ownsRow 0 M i.size (.slice (some ⟨b,0,none⟩) c.length cap) c.length (cs.toList.take (c.length*i.size)):=by
      refine⟨by grind,.inr ⟨b,cap,cs,rfl,a0j _,g2,ak,aD,ac.symm,rfl⟩⟩
     rw[B,ah]at l;simp only[a36]at l;have av:(cs.toList.take (c.length*i.size)).length=c.length*i.size:=by grind
     have am:∀(p j:Nat) (y:AV),iE c p j=some y->y.one=true/\Rd m A w y ((cs.toList.take (c.length*i.size)).getD (p*i.size+j) Go.undef):=by
      intro p j y r;have X:=kJ r g4;have:=g5 p j y r;rw[List.getD,a11,if_pos X.2.2];simpa using this
     have ae:=OM (R:=Rd m A w) (ys:=ys) g4 (us:=cs.toList.take (c.length*i.size)) (vs:=d) av am ai
     have Z:∀q∈c++ys,q.length=i.size:=by
      grind
     have fin:∀(G:Value) (w':World),(Builtin.append_ #[t,t] o.type #[.slice (some ⟨b,0,none⟩) c.length cap,.slice a1 ys.length c1]).run P w=.ok G w'->w'.ownsRow 0 M i.size G (c.length+ys.length) (cs.toList.take (c.length*i.size)++d)->w.grownBy w' (some b) ->
       (G.ownBlock=some b\/G.ownBlock=some w.heap.size) ->
       ∃E w' I,((execOp a.eval o).run P w=.ok (.value E) w'\/((execOp a.eval o).run P w=.ok .skip w'/\E=Go.undef))/\dV I A (gE h ([(id,.dead)]++[(nx,.cells M i.size (c++ys))])) w'/\Rd I A w' (.own M i.size nx 0 (c.length+ys.length)) E/\Ext m w I w':=by
      intro G w' C ax aB aF;obtain⟨aH,aG|⟨g,nA,al,rfl,-,hg,ay,ar,Cz,aa⟩⟩:=ax
      .grind[Value.ownBlock]
      .have aC:g=b\/w.heap.size<=g:=by
        grind[Value.ownBlock]
       have V:g<w'.heap.size:=by
        grind
       obtain⟨Q,O⟩:=H.renew (els':=c++ys) (nx:=nx) (g:=g) (cs':=al) hh g1 aj aB aC V hg (by grind) Z (by
        intro p j y r;have X:=kJ r Z;obtain⟨r1,r2⟩:=ae p j y r;refine⟨r1,?_⟩
        have:(cs.toList.take (c.length*i.size)++d).getD (p*i.size+j) Go.undef=al.getD (p*i.size+j) Go.undef:=by
         rw[<-aa,List.getD,a11,if_pos (by grind)];simp
        grind)
       refine⟨_,w',_,.inl (l _ _ C),by simpa[gE]using Q,?_,O⟩;have:=Rd.own (m:=sset (sset m id .dead) nx (.at g)) (A:=A) (w:=w') M i.size nx 0 (c.length+ys.length) g nA (by simp[sset]) V ay ar (by grind[gW])
       grind
     cases a1 with
     |none =>
      have:=az rfl;subst this;have C:=nK (P:=P) (.slice (some ⟨b,0,none⟩) c.length cap) (some ⟨b,0,none⟩) none c.length cap c1 t o.type M i ht hi w ak (by grind);have aq:d=[]:=(by simpa using hl);subst aq;refine fin _ _ C ?_ ⟨rfl,rfl,rfl,a0h _,fun _ _ _=>rfl⟩ (.inl rfl)
      grind
     |some L =>
      obtain⟨G,w',r1,r2,r3,r4,r5⟩:=run_append_own_at (P:=P) w 0 t o.type M i z i.size i.bytes ht hi hz rfl rfl ag aw (.slice (some ⟨b,0,none⟩) c.length cap) c.length _ ao L ys.length c1 d hl (fun j u hu=>N L rfl j u hu) ap (by grind[maxLen]) hb (a0j _);exact fin G w' r1 r2 r3 (by simpa[Value.ownBlock]using r5)
   grind
  grind
 grind
end
end
end Mc
namespace Mc
variable {zc:List AV} {m:Nat->St} {A:Nat->Prop} {nx:Nat} {x:Operand}
section
variable {P:Program} {o:Oper} {f:List AV} {h:AH}
section
variable [Bk] [Ev]
def Ou {n:Nat} {i j:Nat} {x:AV} (h:iE (List.replicate n zc) i j=some x):i<n/\zc[j]?=some x:=by
 grind[iE]
def Rr {w:World} (H:dV m A h w) {T sz n cap:Nat} {bL:List (List AV)} {cs:Array Value} (a:h nx=.no) (f:bL.length=n) (b:n<=cap) (g:cap<=maxLen) (hs:cs.size=cap*sz) (l:∀e∈bL,e.length=sz)
  (k:∀(i j:Nat) (x:AV),iE bL i j=some x->x.one=true/\Rd m A w x (cs.getD (i*sz+j) Go.undef)) :
  dV (sset m nx (.at w.heap.size)) A (gO h nx (.cells T sz bL)) (w.alloc (.cells cs T))/\Ext m w (sset m nx (.at w.heap.size)) (w.alloc (.cells cs T))/\Rd (sset m nx (.at w.heap.size)) A (w.alloc (.cells cs T)) (.own T sz nx 0 n) (.slice (some ⟨w.heap.size,0,none⟩) n cap):=by
 subst f;obtain⟨d,c⟩:=H.alloc (id:=nx) (T:=T) (sz:=sz) (bL:=bL) (cs:=cs) a (by rw[hs];exact a1a _ b) l k;refine⟨d,c,?_⟩
 have:=Rd.own (m:=sset m nx (.at w.heap.size)) (A:=A) (w:=w.alloc (.cells cs T)) T sz nx 0 bL.length w.heap.size cap (by simp[sset]) (by simp) b g (by
  rw[a00,<-hs];have:(w.alloc (.cells cs T)).heap[w.heap.size]?=some (.cells cs T (0,0)):=by
   show(w.heap.push _)[w.heap.size]?=_;simp
  simp_all[gW])
 simp_all
def Rz {t e:TypeId} {y:Operand} {i:TypeInfo} {z:Value} {k k':IntKind} {l c:Int} (K:o.op=.makeSlice t x y) (I:P.underlying t=some (.slice e)) (L:P.info? e=some i) (D:i.zero=some z) (p:jD (SC z)=some zc) (g:zc.length=i.size)
  (G:eJ f x=.c (.int k l)) (E:eJ f y=.c (.int k' c)) (N:0<=l) (u:l<=c) (M:(i.bytes:Int)*c<=281474976710656) (W:c<=1099511627776) (s:h nx=.no) :
  eA P o f h ⟨.own e i.size nx 0 l.toNat,[(nx,.cells e i.size (List.replicate l.toNat zc))],[nx]⟩:=by
 intro m A w a H F;have g1:=F.eval x;rw[G]at g1;have g2:=F.eval y;rw[E]at g2;have J:=run_make (P:=P) w t e i z I L D k k' l c N u M (by omega);have b:CR (Rd m A w) zc z.cells:=pG (.pure _ _ (AG _ w z)) p;have r:(madeCells z.cells (c.toNat*i.size)).size=c.toNat*i.size:=by simp[madeCells]
 obtain⟨C,B,v⟩:=Rr H (T:=e) (sz:=i.size) (n:=l.toNat) (cap:=c.toNat) (bL:=List.replicate l.toNat zc) (cs:=madeCells z.cells (c.toNat*i.size)) s (by simp) (by omega) (by grind[maxLen]) r (by simp_all) (by
  intro d j R q;obtain⟨r1,r2⟩:=Ou q;obtain⟨U,S⟩:=b.2 _ _ r2;have V:j<i.size:=by grind
  have O:z.cells.size=i.size:=b.1.trans g
  have Q:d*i.size+j<c.toNat*i.size:=by
   have:(d+1)*i.size<=c.toNat*i.size:=a1a _ (by omega)
   grind
  simp_all[a37,madeCells])
 refine⟨_,_,_,.inl ?_,by simpa[gE]using C,v,B⟩;simp[execOp,K,g1.fN,g2.fN,J]
def chunk {α:Type} (sz:Nat):Nat->List α->List (List α)
 |0,_=>[]
 |n+1,l=>l.take sz::chunk sz n (l.drop sz)
def Pz {α:Type} (sz:Nat):∀(n:Nat) (l:List α),(chunk sz n l).length=n
 |0,_=>rfl
 |n+1,l=>by simp[chunk,Pz sz n]
def Nq {α:Type} (sz:Nat):∀(n:Nat) (l:List α),l.length=n*sz->∀e∈chunk sz n l,e.length=sz
 |0,_,_,e,a=>by simp_all[chunk]
 |n+1,l,b,e,a=>by
  rw[a19]at b;simp only[chunk,a0c]at a;rcases a with rfl|a
  .simp_all
  .exact Nq sz n (l.drop sz) (by simp_all) e a
def PA (sz:Nat):∀(n:Nat) (l:List AV) (i j:Nat) (x:AV),iE (chunk sz n l) i j=some x->l[i*sz+j]?=some x
 |0,_,i,j,x,h=>by simp_all[chunk,iE]
 |n+1,l,0,j,x,h=>by
  simp_all[chunk,iE,a11]
 |n+1,l,i+1,j,x,h=>by
  have:=PA sz n (l.drop sz) i j x (by simpa[chunk,iE]using h)
  grind
def ajr {w:World} {z:Value} (c:CR (Rd m A w) zc z.cells) (n:Nat):CR (Rd m A w) ((List.replicate n zc).flatten) ((Array.range (n*zc.length)).map (z.cells[·%z.cells.size]!)):=by
 have g:((List.replicate n zc).flatten).length=n*zc.length:=by simp
 refine⟨by simp,?_⟩;intro k x a;have b:k<n*zc.length:=by grind
 have e:0<zc.length:=by
  grind
 have d:=a27 k e;have key:∀(n k:Nat),k<n*zc.length->((List.replicate n zc).flatten)[k]?=zc[k%zc.length]?:=by
  intro n;induction n with
  |zero=>omega
  |succ n f =>
   intro k b;rw[List.replicate_succ,a2q];rcases a0u k zc.length with h|h<;>grind[Nat.mod_eq_of_lt,Nat.mod_eq_sub_mod]
 rw[key n k b]at a;obtain⟨r1,r2⟩:=c.2 _ _ a;refine⟨r1,?_⟩;have hs:=c.1;simp_all
def Oe {t e:TypeId} {len:Nat} {b:Array (Nat×Operand)} {i:TypeInfo} {z:Value} {cs:List AV} (V:o.op=.buildSlice t len b) (N:P.underlying t=some (.slice e)) (O:P.info? e=some i) (K:i.zero=some z) (u:jD (SC z)=some zc) (d:zc.length=i.size) (l:0<i.size) (y:0<len) (Q:len*i.size<=16777216)
  (C:yM (fun k=>some (k*i.size,i.size)) ((List.replicate len zc).flatten) (b.toList.map fun p=>(p.1,eJ f p.2))=some cs) (v:h nx=.no) :
  eA P o f h ⟨.own e i.size nx 0 len,[(nx,.cells e i.size (chunk i.size len cs))],[nx]⟩:=by
 intro m A w a H F;have D:CR (Rd m A w) zc z.cells:=pG (.pure _ _ (AG _ w z)) u;have g:=ajr D len;rw[d]at g;obtain⟨r,M,q⟩:=EN _ _ (b.map fun p=>(p.1,a.eval p.2)).toList _ _ _ g (by simp) (OZ F b) C
 have B:∀(ps:List (Nat×AV)) (E:List AV) (c:List AV),yM (fun k=>some (k*i.size,i.size)) E ps=some c->c.length=E.length:=by
  intro ps;induction ps with
  |nil=>simp_all[yM]
  |cons p ps R =>
   grind[yM,xG]
 have s:cs.length=len*i.size:=by rw[B _ _ _ C];simp[d]
 have U:=run_buildSlice (P:=P) w t e len (b.map fun p=>(p.1,a.eval p.2)) r i z N O K (by omega) (by have:=Nat.mul_pos y l;omega) M
 obtain⟨J,I,G⟩:=Rr H (T:=e) (sz:=i.size) (n:=len) (cap:=len) (bL:=chunk i.size len cs) (cs:=r) v (Pz _ _ _) (a0h _) (by
   have:len<=len*i.size:=a3q _ l
   grind[maxLen]) (by rw[q.1,s]) (Nq _ _ _ s) (by
  intro S j x L;exact q.2 _ _ (PA _ _ _ _ _ _ L))
 refine⟨_,_,_,.inl ?_,by simpa[gE]using J,G,I⟩
 simp_all[execOp]
def gU (ρ:Operand->AV) (d:Nat):Option Operand->Option Nat
 |none=>some d
 |some x=>match ρ x with
  | .c (.int _ n)=>if 0<=n then some n.toNat else none
  |_=>none
def lQ {w:World} {a:Act} (F:nJ m A w f a) {d n:Nat} (b:gU (eJ f) d (some x)=some n):∃k,a.eval x=.int k (n:Int):=by
 simp only[gU]at b;have c:=F.eval x;split at b
 .rename_i k v e
  split at b
  .rename_i g
   cases b;rw[e]at c;exact⟨k,by rw[c.fN,a1h g]⟩
  simp_all
 simp_all
def pP {w:World} {a:Act} (F:nJ m A w f a) {t:TypeId} (h:P.underlying t=some (.slice (P.elem t))) {j:TypeInfo} (n:P.info? (P.elem t)=some j) {g c:Option Operand} {l u len cap:Nat} (b:gU (eJ f) 0 g=some l) (e:gU (eJ f) len c=some u) (h1:l<=u) (q:u<=len) (p:len<=cap) (d:Option Addr) :
  (Instr.sliceAt t (.slice d len cap) (g.map a.eval) (c.map a.eval) none).run P w=.ok (sliced d l u cap j.size) w:=by
 rw[run_sliceAt_slice (P:=P) w t _ _ _ _ h];cases g with
 |none =>
  simp only[gU,a0g]at b;subst b;cases c with
  |none =>
   simp_all[gU,run_slice_all,sizeOf,typeInfo]
  |some x =>
   obtain⟨k,i⟩:=lQ F e;simp[i,run_slice_h (P:=P) w t d len cap h k (u:Int) (by omega) (by omega),sizeOf,typeInfo,n]
 |some y =>
  obtain⟨k',o⟩:=lQ F b;cases c with
  |none =>
   simp_all[gU,run_slice_l,sizeOf,typeInfo]
  |some x =>
   obtain⟨k,i⟩:=lQ F e;simp[i,o,run_slice_lh (P:=P) w t d len cap h k' k (l:Int) (u:Int) (by omega) (by omega) (by omega),sizeOf,typeInfo,n]
def Ry {t:TypeId} {z G:Option Operand} {sz l u:Nat} {bL:List (List AV)} (D:o.op=.slice t x z G none) (B:P.underlying t=some (.slice (P.elem t))) (hs:(P.info? (P.elem t)).map (·.size)=some sz) (L:eJ f x=.lit sz bL) (n:gU (eJ f) 0 z=some l) (p:gU (eJ f) bL.length G=some u) (h1:l<=u) (s:u<=bL.length) :
  eA P o f h ⟨.lit sz ((bL.drop l).take (u-l)),[],[]⟩:=by
 refine cY fun m A w a H F=>?_;have g:=F.eval x;rw[L]at g;cases q:P.info? (P.elem t)with
 |none=>simp_all
 |some v =>
  simp only[q,a0q,a0g]at hs;subst hs;have r:((bL.drop l).take (u-l)).length=u-l:=by grind
  obtain⟨rfl,R,cap,c⟩|⟨b,off,cap,vs,c,Q,O,N,C,K,I,J⟩:=g.pY
  .have k:=pP (P:=P) F B q n p h1 s (cap:=cap) (by simp) R
   simp only[a2w]at s k;have:l=0/\u=0:=by omega
   obtain⟨rfl,rfl⟩:=this;exact⟨_,by simp[execOp,D,c,k];rfl,.pure _ _ (by simp only[sliced,List.drop_nil,List.take_nil,a2r];exact .nR _ _ _ (by rw[c]at g;exact a1e (Nat.sub_le _ _) g.EA))⟩
  .have k:=pP (P:=P) F B q n p h1 s N (some ⟨b,off,none⟩)
   refine⟨_,by simp[execOp,D,c,k];rfl,.pure _ _ ?_⟩;unfold sliced;by_cases E:l=u
   .subst E
    simp only[a2r,List.take_zero];exact .nR _ _ _ (by rw[c]at g;exact a1e (Nat.sub_le _ _) g.EA)
   .rw[if_neg (by omega)]
    have:=eE.lit (A:=Av m A) (w:=w) v.size ((bL.drop l).take (u-l)) b (off+l*v.size) (cap-l) (fun i j=>vs (l+i) j) Q O ⟨by omega,by rw[c]at g;exact a1e (Nat.sub_le _ _) g.EA⟩ (fun e M=>C e (a2x (a2h M))) (fun i j y d=>K _ _ _ (tR d).2)
     (fun i j y d=>by have:=I _ _ _ (tR d).2;grind) (fun i j y d=>J _ _ _ (tR d).2)
    rw[r]at this;simpa[iS]using this
def Rw {t:TypeId} {d q:Option Operand} {T sz id i n l u:Nat} {bL:List (List AV)} (D:o.op=.slice t x d q none) (z:P.underlying t=some (.slice (P.elem t))) (hs:(P.info? (P.elem t)).map (·.size)=some sz) (v:eJ f x=.own T sz id i n) (G:h id=.cells T sz bL) (k:bL≠[]) (p:gU (eJ f) 0 d=some l) (s:gU (eJ f) n q=some u) (h1:l<=u) (J:u<=n) (L:l=0\/l<n) :
  eA P o f h ⟨.own T sz id (i+l) (u-l),[],[id]⟩:=by
 refine cY fun m A w a H F=>?_;have g:=F.eval x;rw[v]at g;cases j:P.info? (P.elem t)with
 |none=>simp_all
 |some c =>
  simp only[j,a0q,a0g]at hs;subst hs;obtain⟨e,r,rfl⟩:=a3p k;obtain⟨b,cs,g1,-⟩:=H.block (i:=0) G rfl;obtain⟨cap,y,E,K,B⟩:=g.vO g1;have C:=pP (P:=P) F z j p s h1 J E (some ⟨b,i*c.size,none⟩);refine⟨_,by simp[execOp,D,y,C];rfl,?_⟩
  have I:sliced (some ⟨b,i*c.size,none⟩) l u cap c.size=.slice (some ⟨b,(i+l)*c.size,none⟩) (u-l) (cap-l):=by
   grind[sliced,iS]
  rw[I];exact .own T c.size id (i+l) (u-l) b (cap-l) g1 (H.lt g1) (by omega) (by omega) (by grind)
def Rv {t:TypeId} {p j:Option Operand} {s:ByteArray} {l u:Nat} (i:o.op=.slice t x p j none) (e:P.underlying t=some .string) (v:eJ f x=.c (.string s)) (d:gU (eJ f) 0 p=some l) (b:gU (eJ f) s.size j=some u) (h1:l<=u) (r:u<=s.size) :
  eA P o f h ⟨.c (.string (s.extract l u)),[],[]⟩:=by
 refine cY fun m A w a H F=>?_;have g:=F.eval x;rw[v]at g;refine⟨_,?_,.pure _ _ (.c _)⟩;cases p with
 |none =>
  simp only[gU,a0g]at d;subst d;cases j with
  |none =>
   simp only[gU,a0g]at b;subst b;simp[execOp,i,g.fN,Instr.sliceAt,run_underlying e,Instr.slice,Instr.sliceBounds]
  |some y =>
   obtain⟨k,q⟩:=lQ F b;simp[execOp,i,g.fN,Instr.sliceAt,run_underlying e,Instr.slice,Instr.sliceBounds,q,run_sliceBound,r]
 |some y =>
  obtain⟨k',n⟩:=lQ F d;cases j with
  |none =>
   simp only[gU,a0g]at b;subst b;simp[execOp,i,g.fN,Instr.sliceAt,run_underlying e,Instr.slice,Instr.sliceBounds,n,run_sliceBound,h1]
  |some y =>
   obtain⟨k,q⟩:=lQ F b;simp[execOp,i,g.fN,Instr.sliceAt,run_underlying e,Instr.slice,Instr.sliceBounds,q,n,run_sliceBound,h1,r]
def apU (d:TypeDesc):Bool:=match d with | .interface _=>false|_=>true
def MY:Operand->Bool
 | .const _=>true
 |_=>false
def LF (P:Program) (t:TypeId):Bool:=match P.underlying t with|some (.interface _)=>true|_=>false
def LC (P:Program) (t:TypeId):Bool:=match P.underlying t with|some (.func _ _ _)=>true|_=>false
def adP {t:TypeId} (h:LF P t=true):∃ms,P.underlying t=some (.interface ms):=by
 grind[LF]
def adK {t:TypeId} (h:LC P t=true):∃a b c,P.underlying t=some (.func a b c):=by
 grind[LC]
def Xs [Bk] (P:Program) (r:TypeId->AV->AV->Option Bool) (xs ys:List AV):List Field->Option Bool
 |[]=>some true
 | f :: c => if f.name ≠ "_" then match mJ P f.type xs f.offset, mJ P f.type ys f.offset with
   |some a,some b=>match r f.type a b with
    |some true=>Xs P r xs ys c
    |some false=>some false
    |none=>none
   |_,_=>none
  else Xs P r xs ys c
def Xt [Bk] (P:Program) (r:TypeId->AV->AV->Option Bool) (e:TypeId) (s:Nat) (xs ys:List AV) (k:Nat):Nat->Option Bool
 |0=>some true
 |n+1=>match mJ P e xs (k*s),mJ P e ys (k*s)with
  |some a,some b=>match r e a b with
   |some true=>Xt P r e s xs ys (k+1) n
   |some false=>some false
   |none=>none
  |_,_=>none
def Xv [Bk] (P:Program):Nat->TypeId->AV->AV->Option Bool
 |0,_,_,_=>none
 |d+1,t,x,y=>match P.underlying t with
  |some .bool=>match x,y with
   | .c (.bool a),.c (.bool b)=>some (a==b)
   |_,_=>none
  |some (.int _)=>match x,y with
   | .c (.int k a),.c (.int k' b)=>if k=k' then some (a==b)else none
   |x,y=>match toP x,toP y with
    |some p,some q=>eqB (rM p q)
    |_,_=>none
  |some .string=>match x,y with
   | .c (.string a),.c (.string b)=>some (a.toList==b.toList)
   |_,_=>none
  |some (.struct h)=>match x,y with
   | .agg g,.agg f=>if P.stoodInHeld t then none else Xs P (Xv P d) g f h.toList
   |_,_=>none
  |some (.array len e)=>match x,y with
   | .agg g,.agg f=>match P.info? e with
    |some i=>Xt P (Xv P d) e i.size g f 0 len
    |none=>none
   |_,_=>none
  |_=>none
def LN (d:Nat) (e:TypeId) (s:Nat) (xs ys:Array Value) (k:Nat) (_:Option Bool×Unit):Sem (ForInStep (Option Bool×Unit)):=do
 let a <-part e xs (k*s);let b <-part e ys (k*s);let r <-Op.equalIn d e a b
 if r=false then pure (.done (some false,()))else pure (.yield (none,()))
def Ld (d:Nat) (t e:TypeId) (len:Nat) (xs ys:Array Value) (w:World) (b:P.underlying t=some (.array len e)) (i:TypeInfo) (c:P.info? e=some i) :
  (Op.equalIn (d+1) t (.agg xs) (.agg ys)).run P w=((forIn (List.range' 0 len) ((none:Option Bool),()) (fun k s=>LN d e i.size xs ys k s)).run P w).andThen fun a w'=>(match a.1 with|some r=>pure r|none=>pure true:Sem Bool).run P w':=by
 simp only[Op.equalIn,Sem.run_bind,run_underlying b,Result.andThen_ok];simp[sizeOf,typeInfo,c,LN]
 grind
def ait {m:Nat->St} {A:Nat->Prop} {w:World}:∀(d:Nat) (t:TypeId) (x y:AV) (u v:Value) (b:Bool),Xv P d t x y=some b->Rd m A w x u->Rd m A w y v->(Op.equalIn d t u v).run P w=.ok b w
 |0,t,x,y,u,v,b,h,_,_=>by grind[Xv]
 |d+1,t,x,y,u,v,b,h,o,j=>by
  have J:=fun t x y u v b=>ait (m:=m) (A:=A) (w:=w) d t x y u v b;unfold Xv at h;split at h
  .rename_i g
   split at h
   .cases h;rw[o.fN,j.fN];exact run_equalIn_bool d g w
   .cases h
  .rename_i I g
   split at h
   .split at h
    .rename_i Q;subst Q;cases h;rw[o.fN,j.fN];exact run_equalIn_int w d t _ I _ _ g
    .cases h
   .split at h
    .rename_i p q N M
     rw[toP_ok N o,toP_ok M j,run_equalIn_int w d t _ I _ _ g];have k:=Ib h;rw[iA]at k;grind
    .cases h
  .rename_i g
   split at h
   .cases h;rw[o.fN,j.fN];exact run_equalIn_string w d t _ _ g
   .cases h
  .rename_i L g
   split at h
   .rename_i H G
    split at h
    .cases h
    .rename_i U
     obtain⟨vs,rfl,F⟩:=o.qA;obtain⟨r,rfl,E⟩:=j.qA;have K:P.fieldsOf t=L:=(by simp_all[Program.fieldsOf]);rw[run_equalIn_struct w d t vs r (by simp_all) (by simp_all),K];revert h;generalize L.toList=l;intro h;induction l generalizing b with
     |nil=>simp_all[Xs,Op.eqFields]
     |cons f l T =>
      simp only[Xs]at h;simp only[Op.eqFields];split at h
      .rename_i O
       rw[if_pos O];split at h
       .rename_i a c D C
        obtain⟨p,p1,p2⟩:=Ai (P:=P) F D;obtain⟨q,z,s⟩:=Ai (P:=P) E C;simp only[Sem.run_bind,p1,z,Result.andThen_ok];split at h
        .rename_i B
         rw[J f.type a c p q true B p2 s];simp_all
        .rename_i B
         cases h;rw[J f.type a c p q false B p2 s];simp
        .cases h
       .cases h
      simp_all
   .cases h
  .rename_i len e g
   split at h
   .rename_i H G
    split at h
    .rename_i i R
     obtain⟨vs,rfl,F⟩:=o.qA;obtain⟨r,rfl,E⟩:=j.qA;rw[Ld d t e len vs r w g i R];have key:∀(n k:Nat) (b:Bool),Xt P (Xv P d) e i.size H G k n=some b->((forIn (List.range' k n) ((none:Option Bool),()) (LN d e i.size vs r)).run P w)=.ok (if b then none else some false,()) w:=by
      intro n;induction n with
      |zero=>simp_all[Xt]
      |succ n S =>
       intro k b h;simp only[Xt]at h;rw[a38,List.forIn_cons];split at h
       .rename_i a c D C
        obtain⟨p,p1,p2⟩:=Ai (P:=P) F D;obtain⟨q,z,s⟩:=Ai (P:=P) E C;simp only[LN,Sem.run_bind,p1,z,Result.andThen_ok];grind[Result.andThen_ok,Sem.run_pure]
       .cases h
     rw[key len 0 b h];cases b<;>simp
    .cases h
   .cases h
  .cases h
def Xu:∀(d:Nat) (t:TypeId) (x y:AV) (b:Bool),Xv P d t x y=some b->Xv P (d+1) t x y=some b
 |0,t,x,y,b,h=>by grind[Xv]
 |d+1,t,x,y,b,h=>by
  have i:=fun t x y b=>Xu d t x y b
  have f:∀(c a:List AV) (l:List Field) (b:Bool),Xs P (Xv P d) c a l=some b->Xs P (Xv P (d+1)) c a l=some b:=by
   intro c a l;induction l<;>grind[Xs]
  have g:∀(e:TypeId) (s:Nat) (c a:List AV) (n k:Nat) (b:Bool),Xt P (Xv P d) e s c a k n=some b->Xt P (Xv P (d+1)) e s c a k n=some b:=by
   intro e s c a n;induction n<;>grind[Xt]
  unfold Xv at h |-;split at h<;>grind
def akD {w:World} {t:TypeId} {x y:AV} {u v:Value} {b:Bool} (h:Xv P 8 t x y=some b) (d:Rd m A w x u) (c:Rd m A w y v):(Op.equal t u v).run P w=.ok b w:=by
 have key:∀k,Xv P (8+k) t x y=some b:=by
  intro k;induction k with
  |zero=>exact h
  |succ k a=>exact Xu _ _ _ _ _ a
 exact ait (8+9992) t x y u v b (key 9992) d c
def EO (op:BinOp) (b:Bool):Option AV :=
 match op with
 | .eql=>some (.c (.bool b))
 | .neq=>some (.c (.bool !b))
 |_=>none
def ae5 {op:BinOp} {b:Bool} {r:AV} (h:EO op b=some r):(op=.eql/\r=.c (.bool b))\/(op=.neq/\r=.c (.bool !b)):=by
 unfold EO at h;grind
def ah9:Value->Value->Bool
 | .iface _ _,.nilIface=>true
 | .nilIface,.nilIface=>true
 | .func _ _ _,.nilFunc=>true
 | .nilFunc,.nilFunc=>true
 | .agg _,.agg _=>true
 |_,_=>false
def ahO [Bk] (P:Program) (i:Nat) (t:TypeId):Bool:=match Bk.kinds[i]? with
 |some true=>(match P.underlying t with|some .string=>true|_=>false)
 |some false=>(match P.underlying t with|some .bool=>true|_=>false)
 |none=>false
def ahB {op:BinOp} {t l:TypeId} {y:Operand} {i:Nat} {r:AV} (z:o.op=.binOp op t x y l) (u:eJ f x=.o i) (n:eJ f y=.o i) (b:ahO P i t=true) (g:(op=.eql/\r=.c (.bool true))\/(op=.neq/\r=.c (.bool !true))):eA P o f h ⟨r,[],[]⟩:=by
 have key:(∃s,Ev.val i=.string s/\P.underlying t=some .string)\/∃c,Ev.val i=.bool c/\P.underlying t=some .bool:=by
  unfold ahO at b;split at b
  .rename_i d
   obtain⟨s,hs⟩:=(Ev.kin i true d).1 rfl;split at b
   .exact .inl ⟨s,hs,‹_›⟩
   simp_all
  .rename_i d
   obtain⟨s,hs⟩:=(Ev.kin i false d).2 rfl;split at b
   .exact .inr ⟨s,hs,‹_›⟩
   simp_all
  simp_all
 refine cY fun m A w a H F=>?_;have k:=F.eval x;have j:=F.eval y;rw[u]at k;rw[n]at j;have e1:=k.amM;have e2:=j.amM;rcases key with⟨s,hs,e⟩|⟨c,hs,e⟩
 .rw[hs]at e1 e2
  have v:(eqGuard op t x y (.string s) (.string s)).run P w=.ok () w:=by
   simp_all[eqGuard]
  rcases g with⟨rfl,rfl⟩|⟨rfl,rfl⟩
  .exact⟨.bool true,by simp_all[execOp,binOp,Op.stringOp],.pure _ _ (.c _)⟩
  .exact⟨.bool false,by simp_all[execOp,binOp,Op.stringOp],.pure _ _ (.c _)⟩
 .rw[hs]at e1 e2
  have v:(eqGuard op t x y (.bool c) (.bool c)).run P w=.ok () w:=by
   simp_all[eqGuard]
  have B:(Op.equal t (.bool c) (.bool c)).run P w=.ok true w:=by have:=run_equalIn_bool (P:=P) (p:=c) (q:=c) 9999 e w;rw[beq_self_eq_true]at this;exact this
  rcases g with⟨rfl,rfl⟩|⟨rfl,rfl⟩
  .exact⟨.bool true,by simp_all[execOp,binOp],.pure _ _ (.c _)⟩
  .exact⟨.bool false,by simp_all[execOp,binOp],.pure _ _ (.c _)⟩
def ak7 [Bk] (P:Program) (op:BinOp) (t:TypeId) (f e:Bool) (x y:AV):Option AV :=
 match x with
 | .c (.bool p)=>match y with
  | .c (.bool q)=>match P.underlying t with
   |some .bool=>match op with
    | .eql=>some (.c (.bool (p==q)))
    | .neq=>some (.c (.bool !(p==q)))
    |_=>none
   |_=>none
  |_=>none
 | .c .nilIface=>match y with
  | .c .nilIface=>if(f||e)=true/\LF P t=true then EO op true else none
  |_=>none
 | .rG _ _=>match y with
  | .c .nilIface=>if LF P t=true then EO op false else none
  |_=>none
 | .fn _ _ _=>match y with
  | .c .nilFunc=>if LC P t=true then EO op false else none
  |_=>none
 | .c .nilFunc=>match y with
  | .c .nilFunc=>if LC P t=true then EO op true else none
  |_=>none
 | .agg d=>match y with
  | .agg a=>if P.eqGuardType P.depth t=false then(match Xv P 8 t (.agg d) (.agg a)with
    |some b=>EO op b
    |none=>none)else none
  |_=>none
 | .o i=>match y with
  | .o j=>if i=j/\ahO P i t=true then EO op true else none
  |_=>none
 | .c u=>match y with
  | .c v=>match ach op u v with
   |some r=>some (.c r)
   |none=>none
  |y=>match toP (.c u),toP y with
   |some p,some q=>ajG op p q
   |_,_=>none
 |x=>match toP x,toP y with
  |some p,some q=>ajG op p q
  |_,_=>none
def Rd.adE {w:World} {t:TypeId} {v:AV} {q:Value} (g:Rd m A w (.rG t v) q):∃u,q=.iface t u/\Rd m A w v u:=by
 cases g with
 |pure _ _ h=>cases h with|rG _ _ u a=>exact⟨u,rfl,.pure _ _ a⟩
 |rG _ _ u a=>simp_all
def Rd.anR {w:World} {f:Fn} {xs ys:List AV} {q:Value} (g:Rd m A w (.fn f xs ys) q):∃vs a,q=.func f vs a:=by
 cases g with
 |pure _ _ h=>cases h<;>simp_all
 |fn _ _ _ vs a=>simp_all
def Ec (d:Nat) {t:TypeId} {ms:Array (String×TypeId)} (b:P.underlying t=some (.interface ms)) (a:TypeId) (v:Value) (w:World):(Op.equalIn (d+1) t (.iface a v) .nilIface).run P w=.ok false w:=by simp[Op.equalIn,run_underlying b]
def Ee (d:Nat) {t:TypeId} {ms:Array (String×TypeId)} (a:P.underlying t=some (.interface ms)) (w:World):(Op.equalIn (d+1) t .nilIface .nilIface).run P w=.ok true w:=by simp[Op.equalIn,run_underlying a]
def Ea (d:Nat) {t:TypeId} {a b:Array TypeId} {c:Bool} (e:P.underlying t=some (.func a b c)) (f:Fn) (x y:Array Value) (w:World):(Op.equalIn (d+1) t (.func f x y) .nilFunc).run P w=.ok false w:=by simp[Op.equalIn,run_underlying e]
def Eb (d:Nat) {t:TypeId} {a b:Array TypeId} {c:Bool} (e:P.underlying t=some (.func a b c)) (w:World):(Op.equalIn (d+1) t .nilFunc .nilFunc).run P w=.ok true w:=by simp[Op.equalIn,run_underlying e]
def binOp_eql (op:BinOp) (t:TypeId) (x y:Value) (w:World) {b:Bool} (c:(Op.equal t x y).run P w=.ok b w) (a:ah9 x y=true) :
  (op=.eql->(binOp op t x y).run P w=.ok (.bool b) w)/\(op=.neq->(binOp op t x y).run P w=.ok (.bool !b) w):=by
 unfold ah9 at a;constructor<;>rintro rfl<;>(split at a<;>first|(cases a;done)|simp[binOp, *])
def akd {op:BinOp} {t L:TypeId} {y:Operand} {r:AV} (B:o.op=.binOp op t x y L) (d:ak7 P op t (MY x) (MY y) (eJ f x) (eJ f y)=some r):eA P o f h ⟨r,[],[]⟩:=by
 have fin:∀(b:Bool) (n:(op=.eql/\r=.c (.bool b))\/(op=.neq/\r=.c (.bool !b))),
   (∀m A w a,nJ m A w f a->(eqGuard op t x y (a.eval x) (a.eval y)).run P w=.ok () w/\(Op.equal t (a.eval x) (a.eval y)).run P w=.ok b w/\ah9 (a.eval x) (a.eval y)=true)->eA P o f h ⟨r,[],[]⟩:=by
  intro b n G;refine cY fun m A w a H F=>?_
  obtain⟨h1,W,V⟩:=G m A w a F;obtain⟨Z,Y⟩:=binOp_eql op t _ _ w W V;rcases n with⟨e,rfl⟩|⟨e,rfl⟩
  .exact⟨_,by simp_all[execOp],.pure _ _ (.c _)⟩
  .exact⟨_,by simp_all[execOp],.pure _ _ (.c _)⟩
 have l:∀(b:Bool),EO op b=some r->(op=.eql/\r=.c (.bool b))\/(op=.neq/\r=.c (.bool !b)):=fun b h=>ae5 h;unfold ak7 at d;split at d
 .rename_i p g
  split at d
  .rename_i q k
   split at d
   .rename_i s
    split at d
    .cases d;exact adu (op:=.eql) B g k s (.inl rfl)
    .cases d;exact adu (op:=.neq) B g k s (.inr rfl)
    simp_all
   simp_all
  simp_all
 .rename_i g
  split at d
  .rename_i k
   split at d
   .rename_i n
    obtain⟨ms,s⟩:=adP n.2;refine fin true (l true d) fun m A w a F=>?_
    have g1:=F.eval x;rw[g]at g1;have g2:=F.eval y;rw[k]at g2;rw[g1.fN,g2.fN];refine⟨?_,Ee 9999 s w,rfl⟩;have I:=n.1;rcases l true d with⟨e,-⟩|⟨e,-⟩<;>subst e<;>cases x<;>cases y<;>first|(simp[eqGuard];done)|(simp[MY]at I;done)
   simp_all
  simp_all
 .rename_i M v g
  split at d
  .rename_i k
   split at d
   .rename_i n
    obtain⟨ms,s⟩:=adP n;refine fin false (l false d) fun m A w a F=>?_
    have g1:=F.eval x;rw[g]at g1;have g2:=F.eval y;rw[k]at g2;obtain⟨u,z,-⟩:=g1.adE;rw[z,g2.fN];refine⟨?_,Ec 9999 s M u w,rfl⟩;rcases l false d with⟨e,-⟩|⟨e,-⟩<;>subst e<;>simp[eqGuard]
   simp_all
  simp_all
 .rename_i fn K J g
  split at d
  .rename_i k
   split at d
   .rename_i n
    obtain⟨a0,b0,X,s⟩:=adK n;refine fin false (l false d) fun m A w a F=>?_
    have g1:=F.eval x;rw[g]at g1;have g2:=F.eval y;rw[k]at g2;obtain⟨vs,D,z⟩:=g1.anR;rw[z,g2.fN];refine⟨?_,Ea 9999 s fn vs D w,rfl⟩;rcases l false d with⟨e,-⟩|⟨e,-⟩<;>subst e<;>simp[eqGuard]
   simp_all
  simp_all
 .rename_i g
  split at d
  .rename_i k
   split at d
   .rename_i n
    obtain⟨a0,b0,X,s⟩:=adK n;refine fin true (l true d) fun m A w a F=>?_
    have g1:=F.eval x;rw[g]at g1;have g2:=F.eval y;rw[k]at g2;rw[g1.fN,g2.fN];refine⟨?_,Eb 9999 s w,rfl⟩;rcases l true d with⟨e,-⟩|⟨e,-⟩<;>subst e<;>simp[eqGuard]
   simp_all
  simp_all
 .rename_i K g
  split at d
  .rename_i J k
   split at d
   .rename_i S
    split at d
    .rename_i b T
     refine fin b (l b d) fun m A w a F=>?_;have g1:=F.eval x;rw[g]at g1;have g2:=F.eval y;rw[k]at g2;obtain⟨vs,N,cx⟩:=g1.qA;obtain⟨D,z,cy⟩:=g2.qA;rw[N]at g1 |-;rw[z]at g2 |-;refine⟨run_eqGuard_agg w op t x y vs D S,?_,rfl⟩;exact akD T g1 g2
    simp_all
   simp_all
  simp_all
 .rename_i i g
  split at d
  .rename_i j k
   split at d
   .rename_i n
    obtain⟨rfl,G⟩:=n;exact ahB B g k G (l true d)
   simp_all
  simp_all
 .rename_i u R Q O g
  split at d
  .rename_i v k
   split at d
   .rename_i r' U
    cases d;exact anB B g k U
   simp_all
  .split at d
   .rename_i p q C E
    rw[<-g]at C;exact ahz B C E d
   simp_all
 .split at d
  .rename_i p q C E
   exact ahz B C E d
  simp_all
end
end
end Mc
namespace Mc
variable {m:Nat->St} {A:Nat->Prop} {w':World} {P:Program} {K:Act->World->Prop} {id:Nat} {x:AV} {fn:Func} {k:FuncId}
def tZ (w:World) (a b:Act):Prop:=∀d∈b.defers,d∈a.defers\/∃D,d.target=.collected D/\w.heap.size<=D
def tZ.same {w:World} {a b:Act} (h:b.defers=a.defers):tZ w a b:=fun d c=>.inl (h▸c)
def tZ.refl (w:World) (a:Act):tZ w a a:=.same rfl
def put_defers (a:Act) (d:Option Tmp) (v:Value):(a.put d v).defers=a.defers:=by cases d<;>rfl
def tZ.put (w:World) (a:Act) (d:Option Tmp) (v:Value):tZ w a (a.put d v):=.same (by cases d<;>rfl)
def tZ.trans {w b:World} {a e a2:Act} (h:tZ w a e) (hs:w.heap.size<=b.heap.size) (k:tZ b e a2):tZ w a a2:=by
 intro d f;rcases k d f with c|⟨D,c,g⟩
 .exact h d c
 grind
def acy [Bk] [Ev] (Q:Exit->List AV->AH->Prop) (m:Nat->St) (A:Nat->Prop) (w:World) (a:Act):Exit->Act->World->Prop:=fun e d w'=>∃b c h',Q e c h'/\dV b A h' w'/\nJ b A w' c d/\Ext m w b w'/\tZ w a d
def acy.back [Bk] [Ev] {Q:Exit->List AV->AH->Prop} {c:Nat->St} {w b:World} {a d:Act} {e:Exit} {f:Act} (E:Ext m w c b) (N:tZ w a d) (h:acy Q c A b d e f w'):acy Q m A w a e f w':=by
 obtain⟨g,o,h',n,l,k,j,i⟩:=h;exact⟨g,o,h',n,l,k,E.trans j,N.trans E.size i⟩
def fw (r:Option Nat):Fence:={ Fence.wide with round:=r }
def M9 {r:Option Nat} {n:Nat} {f:FuncId} {args:Array Value} {w:World} {R:Ending->World->Prop}:CallsIn (fw r) n P f args w R↔Calls P f args w R:=callsIn_wide (n:=n)
def Al {a:Act} {o:Oper} {w:World} {x:Next} (h:(execOp a.eval o).run P w=.ok x w') (i:∀d,x≠.defer d):∀c,o.op≠.defer c:=by
 intro c g;simp only[execOp,g,Sem.run_bind]at h;cases f:(resolve a.eval c o.type).run P w with
 |ok d b =>
  rw[f]at h;simp at h
  grind
 |halt e b=>simp_all
def Fk {r:Option Nat} {n:Nat} {a:Act} {o:Oper} {w:World} {v:Value} {Q:Exit->Act->World->Prop} (h:(execOp a.eval o).run P w=.ok (.value v) w') (b:K (a.put o.dst v) w'):o.wpIn (fw r) n P a w K Q:=by
 refine⟨fun _ _=>trivial,?_⟩;rw[Oper.semAt_eq _ _ _ (Al h (fun d e=>by cases e)),h];exact b
def PL {r:Option Nat} {n:Nat} {a:Act} {o:Oper} {w:World} {Q:Exit->Act->World->Prop} (h:(execOp a.eval o).run P w=.ok .skip w') (b:K (a.put o.dst Go.undef) w'):o.wpIn (fw r) n P a w K Q:=by
 refine⟨fun _ _=>trivial,?_⟩;rw[Oper.semAt_eq _ _ _ (Al h (fun d e=>by cases e)),h];exact b
def LP {r:Option Nat} {n:Nat} {a:Act} {o:Oper} {w:World} {f:FuncId} {args:Array Value} {Q:Exit->Act->World->Prop} (h:(execOp a.eval o).run P w=.ok (.enter f args) w')
  (c:Calls P f args w' fun e b=>∃v,e=.returned v/\K (a.put o.dst v) b):o.wpIn (fw r) n P a w K Q:=by
 refine⟨fun _ _=>trivial,?_⟩;rw[Oper.semAt_eq _ _ _ (Al h (fun d e=>by cases e)),h];refine⟨fun h=>(by cases h),M9.2 (c.mono ?_)⟩
 simp_all
def aaw {r:Option Nat} {n:Nat} {a:Act} {o:Oper} {w:World} {l:Nat} {f:FuncId} {tmps:Array Value} {b body:Code} {Q:Exit->Act->World->Prop} (h:(execOp a.eval o).run P w=.ok (.round l f tmps b body) w')
  (g:RoundIn (fw r) (n-1) P l f tmps b body w' fun e c=>∃v,e=.returned v/\K (a.put o.dst v) c):o.wpIn (fw r) n P a w K Q:=by
 refine⟨fun _ _=>trivial,?_⟩;rw[Oper.semAt_eq _ _ _ (Al h (fun d e=>by cases e)),h];refine⟨fun h=>(by cases h),g.mono ?_⟩
 simp_all
def kV [Bk] [Ev] (P:Program) (tp:Bool) (c:Code) (Q:Exit->List AV->AH->Prop) (f:List AV) (h:AH):Prop :=
 ∀r m A w a,(tp=true->r=none)->dV m A h w->nJ m A w f a->c.wpIn (fw r) 9 P (acy Q m A w a) a w
def ah3 {p:Nat->Prop} (h:∃n,p n):∃n,p n/\∀k,p k->n<=k:=by
 obtain⟨n,a⟩:=h;induction n using Nat.strongRecOn<;>grind
def T8 {α:Type} (J:Nat->α->Prop):∃a:α->Nat,∀x,(∃n,J n x)->J (a x) x/\∀n,J n x->a x<=n:=by
 classical
 refine⟨fun x=>if h:∃n,J n x then Classical.choose (ah3 h)else 0,fun x b=>?_⟩
 grind
section
variable {P:Program} {Q:Exit->List AV->AH->Prop} {f:List AV} {h:AH} {tp:Bool}
section
variable [Bk] [Ev]
def kV.skip (k:Q .normal f h):kV P tp .skip Q f h:=fun r m A w a b H F=>wpIn_skip ⟨m,f,h,k,H,F,Ext.refl _ _,tZ.refl _ _⟩
def kV.exit (k:Q (.exit id) f h):kV P tp (.exit id) Q f h:=fun r m A w a b H F=>wpIn_exit ⟨m,f,h,k,H,F,Ext.refl _ _,tZ.refl _ _⟩
def kV.ret (k:Q .ret f h):kV P tp .ret Q f h:=fun r m A w a b H F=>wpIn_ret ⟨m,f,h,k,H,F,Ext.refl _ _,tZ.refl _ _⟩
def alB (N:List AV->AH->Prop) (Q:Exit->List AV->AH->Prop):Exit->List AV->AH->Prop
 | .normal,f,h=>N f h
 |e,f,h=>Q e f h
theorem kV.seq {x y:Code} (k:kV P tp x (alB (kV P tp y Q) Q) f h):kV P tp (.seq x y) Q f h:=by
 intro r m A w a c H F;refine wpIn_seq (wpIn_mono (k r m A w a c H F) ?_);rintro e p l ⟨b,f1,o,q,g,i,j,d⟩;cases e with
 |normal=>exact wpIn_mono (q r b A l p c g i) fun e a w n=>n.back j d
 |_=>exact⟨b,f1,o,q,g,i,j,d⟩
def kV.cond {c:Operand} {x y:Code} {b:Bool} (e:eJ f c=.c (.bool b)) (k:kV P tp (if b then x else y) Q f h):kV P tp (.cond c x y) Q f h:=by
 intro r m A w a d H F;have:=F.eval c;rw[e]at this;exact wpIn_cond this.bool (k r m A w a d H F)
def M5 (id:Nat) (Q:Exit->List AV->AH->Prop):Exit->List AV->AH->Prop
 | .exit a,f,h=>if a=id then Q .normal f h else Q (.exit a) f h
 |e,f,h=>Q e f h
def kV.block {c:Code} (k:kV P tp c (M5 id Q) f h):kV P tp (.block id c) Q f h:=by
 intro r m A w a n H F;refine wpIn_block (wpIn_mono (k r m A w a n H F) ?_);rintro e s p ⟨b,f1,d,q,i,j,l,g⟩;cases e with
 |exit o =>
  simp only[M5]at q;simp only[Exit.inBlock];split
  .rename_i e;rw[if_pos e]at q;exact⟨b,f1,d,q,i,j,l,g⟩
  .rename_i e;rw[if_neg e]at q;exact⟨b,f1,d,q,i,j,l,g⟩
 |_=>exact⟨b,f1,d,q,i,j,l,g⟩
def nX {P:Program} {b:Frame} {a:Act} {k:List Item} {cs:List Frame} {w:World} {c:Code}:step P (lone (b.atR a (.code (.scope c)::k)) cs w)=.next (lone (b.atR a (.code c::.inScope c::k)) cs w) :=
 step_lone_go (by simp[stepG,stepG.exec,Frame.atR])
def N3 {P:Program} {b:Frame} {a:Act} {k:List Item} {cs:List Frame} {w:World} {c:Code}:step P (lone (b.atR a (.inScope c::k)) cs w)=.next (lone (b.atR a k) cs w) :=
 step_lone_go (by simp[stepG,stepG.exec,Frame.atR])
def LO {P:Program} {F:Fence} {n:Nat} {Q:Exit->Act->World->Prop} {a:Act} {w:World} {c:Code} (h:c.wpIn F n P (fun e a w=>(∀l,e≠.goto l)/\Q e a w) a w):(Code.scope c).wpIn F n P Q a w:=by
 intro b k cs q p o;have i:(lone (b.atR a (.code (.scope c)::k)) cs w).fenced P F:=fenced_calm p o rfl;obtain⟨e,g,f,⟨x,j⟩,d⟩:=h b (.inScope c::k) cs q p o;cases e with
 |normal=>exact⟨.normal,g,f,j,.head i nX (StepsIn.trans d (.one (fenced_calm p o rfl) N3))⟩
 |exit id =>
  have v:exitTo id (.inScope c::k)=exitTo id k:=by simp[exitTo]
  exact⟨.exit id,g,f,j,fun k' s=>.head i nX (d.1 k' (by simp_all)),
   fun r s=>let ⟨m,u,t⟩:=d.2 r (by simp_all);⟨m,u,.head i nX t⟩⟩
 |goto l=>simp_all
 |ret=>exact⟨_,g,f,j,.of_steps (.one i nX) d⟩
 |panic y=>exact⟨_,g,f,j,.of_steps (.one i nX) d⟩
 |outgrown=>exact⟨_,g,f,j,.of_steps (.one i nX) d⟩
def kV.scope {c:Code} (k:kV P tp c (fun e f h=>(∀l,e≠.goto l)/\Q e f h) f h):kV P tp (.scope c) Q f h:=by
 intro r m A w a d H F;refine LO (wpIn_mono (k r m A w a d H F) ?_);rintro e s p ⟨b,f1,g,⟨q0,q⟩,j,n,o,i⟩;exact⟨q0,b,f1,g,q,j,n,o,i⟩
def kV.label {l:Nat} (k:Q .normal f h):kV P tp (.label l) Q f h:=fun r m A w a b H F=>wpIn_label ⟨m,f,h,k,H,F,Ext.refl _ _,tZ.refl _ _⟩
def kV.loop {c:Code} (I:Nat->List AV->AH->Prop) (n:Nat) (M:I n f h) (round:∀n f h,I n f h->kV P tp c (alB (fun N h'=>∃n',n'<n/\I n' N h') Q) f h):kV P tp (.loop c) Q f h:=by
 intro r m A w a K H F;let J:Nat->Act->World->Prop:=fun n b w'=>∃d f1 g,I n f1 g/\dV d A g w'/\nJ d A w' f1 b/\Ext m w d w'/\tZ w a b
 obtain⟨G,j⟩:=T8 (fun n (p:Act×World)=>J n p.1 p.2);refine wpIn_loop (fun b w'=>∃n,J n b w') (fun b w'=>G (b,w')) ⟨n,m,f,h,M,H,F,Ext.refl _ _,tZ.refl _ _⟩ ?_;intro y o u;obtain⟨d,f1,g,L,O,R,i,B⟩:=(j (y,o) u).1;refine wpIn_mono (round _ f1 g L r d A o y K O R) ?_;rintro e a2 l ⟨s,f2,x,q,C,D,E,z⟩;cases e with
 |normal =>
  obtain⟨n',t,v⟩:=q;have k:J n' a2 l:=⟨s,f2,x,v,C,D,i.trans E,B.trans i.size z⟩;exact⟨⟨n',k⟩,a39 ((j (a2,l) ⟨n',k⟩).2 n' k) t⟩
 |_=>exact⟨s,f2,x,q,C,D,i.trans E,B.trans i.size z⟩
def nU (P:Program) (o:Oper) (f:List AV) (h:AH) (R:AV->AH->Prop):Prop :=
 ∀r m A w a,dV m A h w->nJ m A w f a->∀(K:Act->World->Prop) (Q:Exit->Act->World->Prop),(∀v h' x w' b,R v h'->dV b A h' w'->Rd b A w' v x->Ext m w b w'->K (a.put o.dst x) w')->o.wpIn (fw r) 9 P a w K Q
def eA.step [Bk] [Ev] {o:Oper} {r:AR} (k:eA P o f h r):nU P o f h (fun v h'=>v=r.v/\h'=gE h r.cJ):=by
 intro r' m A w a H F K Q d;obtain⟨x,w',c,b,i,g,e⟩:=k m A w a H F;rcases b with b|⟨b,rfl⟩
 .exact Fk b (d _ _ x w' c ⟨rfl,rfl⟩ i g e)
 .exact PL b (d _ _ _ w' c ⟨rfl,rfl⟩ i g e)
def nU.mono [Bk] [Ev] {o:Oper} {R b:AV->AH->Prop} (k:nU P o f h R) (d:∀v h,R v h->b v h):nU P o f h b :=
 fun r m A w a H F K Q g=>k r m A w a H F K Q fun v h' x w' c e=>g v h' x w' c (d _ _ e)
def lY (ops:Array Oper) (o:Oper) (f:List AV):Option Bool :=
 match o.guard with
 |none=>some true
 |some (j,a)=>match (ops[j]?).bind (·.dst)with
  |none=>some false
  |some d=>match f[d]? with
   |some (.c (.bool b))=>some (b==a)
   |some .undef=>some false
   |none=>some false
   |_=>none
theorem Aq {w:World} {a:Act} {ops:Array Oper} {o:Oper} {b:Bool} (F:nJ m A w f a) (c:lY ops o f=some b):Region.wanted o (yielded ops a.tmps)=b:=by
 unfold lY at c;unfold Region.wanted;cases l:o.guard with
 |none=>simp_all
 |some p =>
  obtain⟨j,k⟩:=p;simp only[l]at c |-;unfold yielded;cases n:(ops[j]?).bind (·.dst)with
  |none=>simp_all
  |some d =>
   simp only[n,a1f]at c |-;have s:=F.size;split at c
   .rename_i q g
    cases c;have e:=F.rd d _ g;have i:d<a.tmps.size:=by grind
    have r:=e.fN;simp_all
   .rename_i g
    cases c;have e:=F.rd d _ g;have i:d<a.tmps.size:=by grind
    have r:a.tmps.getD d Go.undef=Go.undef:=by
     generalize a.tmps.getD d Go.undef=u at e;cases e with|pure _ _ h=>cases h;rfl
    have:a.tmps[d]?=some Go.undef:=(by simp_all);rw[this];rfl
   .simp_all
   simp_all
def kA (P:Program) (ops:Array Oper) (Q:Exit->List AV->AH->Prop) (l:List Nat) (f:List AV) (h:AH):Prop :=
 ∀r m A w a,dV m A h w->nJ m A w f a->wpOpsIn (fw r) 9 P ops (acy Q m A w a) l a w
def kA.nil [Bk] [Ev] {ops:Array Oper} (k:Q .normal f h):kA P ops Q [] f h:=fun r m A w a H F=>⟨m,f,h,k,H,F,Ext.refl _ _,tZ.refl _ _⟩
def Oper.aax {r:Option Nat} {n:Nat} {o:Oper} {a:Act} {w:World} {g:Act->World->Prop} {Q Q':Exit->Act->World->Prop} (f:∀a w,K a w->g a w) (j:∀e a w,Q e a w->Q' e a w) (b:o.wpIn (fw r) n P a w K Q):o.wpIn (fw r) n P a w g Q':=by
 unfold Oper.wpIn at *;refine⟨b.1,?_⟩;have b:=b.2;have i:LetsOut Q->LetsOut Q':=fun⟨a0,w0,k⟩=>⟨a0,w0,j _ _ _ k⟩
 generalize (o.semAt (fw r).round a.eval).run P w=x at *;cases x with
 |ok n w' =>
  cases n<;>simp only[Oper.uponIn]at b |- <;>
   first
    |exact f _ _ b
    |exact b.elim
    |exact⟨b.1,CallsIn.mono b.2 (fun e d c=>by grind)⟩
    |exact⟨b.1,RowsIn.mono b.2 (fun _ _ c=>f _ _ c)⟩
    |exact⟨b.1,RoundIn.mono b.2 (fun e d c=>by grind)⟩
 |halt h w'=>cases h<;>simp only[Oper.uponIn]at b |-<;>first|simp_all|exact b.elim
def oJ {r:Option Nat} {n:Nat} {ops:Array Oper} {Q Q':Exit->Act->World->Prop} (b:∀e a w,Q e a w->Q' e a w):∀(l:List Nat) (a:Act) (w:World),wpOpsIn (fw r) n P ops Q l a w->wpOpsIn (fw r) n P ops Q' l a w
 |[],a,w,h=>b _ _ _ h
 |i::l,a,w,h=>by
  simp only[wpOpsIn]at h |-;split at h
  .exact oJ b l _ _ h
  .rename_i o d
   split at h
   .rename_i c
    rw[if_pos c];exact Oper.aax (fun a w h=>oJ b l a w h) b h
   .rename_i c
    rw[if_neg c];exact⟨h.1,oJ b l _ _ h.2⟩
def kA.cons [Bk] [Ev] {ops:Array Oper} {i:Nat} {l:List Nat} {o:Oper} {R:AV->AH->Prop} (d:ops[i]?=some o) (j:lY ops o f=some true) (hs:nU P o f h R) (k:∀v h',R v h'->kA P ops Q l (qY f o.dst v) h'):kA P ops Q (i::l) f h:=by
 intro r m A w a H F;simp only[wpOpsIn,d];rw[if_pos (Aq F j)];refine hs r m A w a H F _ _ ?_;intro v h' x w' b n p c E;exact oJ (fun e s q g=>g.back E (tZ.put w a o.dst x)) l _ _ (k v h' n r b A w' _ p (F.put E c o.dst))
def kA.pass {ops:Array Oper} {i:Nat} {l:List Nat} {o:Oper} (b:ops[i]?=some o) (g:lY ops o f=some false) (k:kA P ops Q l (qY f o.dst .undef) h):kA P ops Q (i::l) f h:=by
 intro r m A w a H F;simp only[wpOpsIn,b];rw[if_neg (by grind[Aq])];exact⟨fun _ _=>trivial,oJ (fun e j d c=>c.back (Ext.refl _ _) (tZ.put w a o.dst Go.undef)) l _ _ (k r m A w _ H (F.put (Ext.refl _ _) (.pure _ _ .undef) o.dst))⟩
def kV.region {ops:Array Oper} (k:kA P ops Q (List.range ops.size) f h):kV P tp (.region id ops false) Q f h :=
 fun r m A w a _ H F=>wpIn_region (k r m A w a H F)
def jA (P:Program) (F:FuncId) (args:List AV) (h:AH) (R:AV->AH->Prop):Prop :=
 ∀m A w vs,dV m A h w->vs.size=args.length->(∀(i:Nat) (x:AV),args[i]?=some x->Rd m A w x (vs.getD i Go.undef)) ->
  Calls P F vs w fun e w'=>∃v u a h',e=.returned v/\R u h'/\dV a A h' w'/\Rd a A w' u v/\Ext m w a w'
def ad3 (P:Program) (a:TypeId) (h:AH):AV->Option AV
 | .ptr b id i off=>match h id with
  | .cells _ s bL=>if s=b then(bL[i]?).bind fun e=>mJ P a e off else none
  |_=>none
 |_=>none
def AJ (P:Program) (f:List AV) (h:AH):ResultVar->Option AV
 | .tmp t=>some (f.getD t .undef)
 | .cell t a=>ad3 P a h (f.getD t .undef)
def CW:List AV->AV
 |[v]=>v
 |vs=>.bG vs
def fJ (P:Program) (fn:Func) (f:List AV) (h:AH):Option AV :=
 (fn.results.toList.mapM (AJ P f h)).map CW
def agr (tmps:Array Value):ResultVar->Sem Value
 | .tmp t=>pure (tmps.getD t Go.undef)
 | .cell a t=>do loadVar t (<-asAddr (tmps.getD a Go.undef))
def aaU (fn:Func) (tmps:Array Value):results fn tmps=(do let vs <-fn.results.mapM (agr tmps);pure (if h:vs.size=1 then vs[0]else .tuple vs)):=by
 unfold results;congr 1
def ajT {w:World} {a:Act} (H:dV m A h w) (F:nJ m A w f a) {r:ResultVar} (c:AJ P f h r=some x) :
  ∃v,(agr a.tmps r).run P w=.ok v w/\Rd m A w x v:=by
 cases r with
 |tmp t =>
  simp only[AJ,a0g]at c;subst c;exact⟨a.tmps.getD t Go.undef,rfl,F.eval (.tmp t)⟩
 |cell t C =>
  simp only[AJ]at c;have d:=F.eval (.tmp t);simp only[eJ,Act.eval]at d;unfold ad3 at c;split at c
  .rename_i D id i off p
   rw[p]at d;split at c
   .rename_i T s bL o
    split at c
    .rename_i hs
     subst hs;cases g:bL[i]? with
     |none=>simp_all
     |some e =>
      simp only[g,a1f]at c;obtain⟨b,cs,g1,g2,g3,z,q⟩:=H.block o g;have G:=d.Ik g1;obtain⟨u,r1,r2⟩:=xS (P:=P) (m:=m) (A:=A) (w:=w) (b:=b) (o0:=i*s) (vs:=fun j=>cs.getD (i*s+j) Go.undef) c (by
       intro j y E;have k:iE bL i j=some y:=by simp_all[iE]
       obtain⟨n,l⟩:=q i j y k;refine⟨n,?_,l⟩;have:=(kJ k z).2.2;have B:i*s+j<cs.size:=by omega
       simp_all[World.cell?])
      simp_all[agr,asAddr]
    simp_all
   simp_all
  simp_all
def IG {w:World} {a:Act} (H:dV m A h w) (F:nJ m A w f a) (g:fJ P fn f h=some x):∃v,(results fn a.tmps).run P w=.ok v w/\Rd m A w x v:=by
 have key:∀(l:List ResultVar) (b:List AV),l.mapM (AJ P f h)=some b->∃vs:List Value,(l.mapM (agr a.tmps)).run P w=.ok vs w/\vs.length=b.length/\∀(i:Nat) (x:AV),b[i]?=some x->Rd m A w x (vs.getD i Go.undef):=by
  intro l;induction l with
  |nil=>simp_all
  |cons r l q =>
   intro b e;rw[List.mapM_cons]at e;cases c:AJ P f h r with
   |none=>simp_all
   |some y =>
    cases o:l.mapM (AJ P f h)with
    |none=>simp_all
    |some p =>
     simp[c,o]at e;subst e;obtain⟨v,r1,r2⟩:=ajT H F c;obtain⟨vs,k,d,j⟩:=q p o;refine⟨v::vs,?_,by simp[d],?_⟩
     .simp_all
     grind
 unfold fJ at g;cases n:fn.results.toList.mapM (AJ P f h)with
 |none=>simp_all
 |some b =>
  simp only[n,a0q,a0g]at g;obtain⟨vs,k,d,j⟩:=key _ _ n;have s:(fn.results.mapM (agr a.tmps)).run P w=.ok vs.toArray w:=by
   rw[<-Array.toArray_toList (xs:=fn.results),List.mapM_toArray];simp[k]
  refine⟨if h:vs.toArray.size=1 then vs.toArray[0]else .tuple vs.toArray,?_,?_⟩
  .simp_all[aaU]
  .subst g
   by_cases c:b.length=1
   .obtain⟨v,rfl⟩:=a3r.1 c
    obtain⟨u,rfl⟩:=a3r.1 (d.trans c);simpa[CW]using j 0 v rfl
   .have t:vs.length≠1:=by omega
    rw[dif_neg (by omega)]
    have:CW b=.bG b:=by
     match b,c with
     |[],_=>rfl
     |[v],h=>simp at h
     |_::_::_,_=>rfl
    rw[this];exact .bG _ _ (by simp[d]) (fun i x z=>by simp_all)
def apo (P:Program) (fn:Func) (R:AV->AH->Prop):Exit->List AV->AH->Prop
 | .normal,f,h | .ret,f,h=>∃x,fJ P fn f h=some x/\R x h
 |_,_,_=>False
def eE.cells {w:World} (hs:w.heap.size<=w'.heap.size) (D:∀b,b<w.heap.size->¬ A b->∀o,w'.cell? ⟨b,o,none⟩=w.cell? ⟨b,o,none⟩) {v:Value} (h:eE A w x v):eE A w' x v:=by
 induction h with
 |c v=>exact .c v
 |undef=>exact .undef
 |emp a=>exact .emp a
 |agg cs vs z g _ d=>exact .agg cs vs z g d
 |bG cs vs z _ d=>exact .bG cs vs z d
 |lit l bL b off cap vs k m q y g u _ d =>
  exact .lit l bL b off cap vs k (a0s m hs) q y g (fun i j x s=>(D b m k _).trans (u i j x s)) d
 |nR l a cap k=>exact .nR l a cap k
 |iZ l bL J I b off vs k m y g u _ d =>
  exact .iZ l bL J I b off vs k (a0s m hs) y g (fun i j x s=>(D b m k _).trans (u i j x s)) d
 |fn f r G vs H z L _ _ F E=>exact .fn f r G vs H z L F E
 |rG t x v _ d=>exact .rG t x v d
 |e p=>exact .e p
 |row n r b off len cap C q k m u=>exact .row n r b off len cap C q k (a0s m hs) fun j p s M=>(D b m k _).trans (u j p s M)
 |Tg n r a cap C=>exact .Tg n r a cap C
 |o i=>exact .o i
 |any v g=>exact .any v g
 |seq l base cJ tail v B g _ d=>exact .seq l base cJ tail v B g d
 |vD l base cJ tail p off v B g K _ d=>exact .vD l base cJ tail p off v B g K d
 |pT v=>exact .pT v
def shut (w:World) (D:Nat):World:=w.putObj D (.deferred none)
def OG {w:World} {D:Nat} {ds:Option (List Deferred)} (c:w.heap[D]?=some (.deferred ds)) (b o:Nat):(shut w D).cell? ⟨b,o,none⟩=w.cell? ⟨b,o,none⟩:=by
 by_cases e:b=D
 .subst e
  have:=World.putObj_heap_same (w:=w) (o:=.deferred none) (a2n.1 c).1
  simp_all[World.cell?,shut]
 .exact World.cell?_of_block (a:=⟨b,o,none⟩) (World.putObj_heap_other e)
def Rd.shut {m:Nat->St} {A:Nat->Prop} {w:World} {D:Nat} {ds:Option (List Deferred)} (C:w.heap[D]?=some (.deferred ds)) (G:∀id,m id≠.at D) {x:AV} {v:Value} (h:Rd m A w x v):Rd m A (shut w D) x v:=by
 have F:(Mc.shut w D).heap.size=w.heap.size:=World.putObj_size
 induction h with
 |pure x v h=>exact .pure x v (h.cells (by omega) fun b _ _ o=>OG C b o)
 |agg cs vs g E _ j=>exact .agg cs vs g E j
 |bG cs vs g _ j=>exact .bG cs vs g j
 |own T d id i n b cap c q e l k =>
  refine .own T d id i n b cap c (by omega) e l (k.trans ?_);have:(Mc.shut w D).heap[b]?=w.heap[b]?:=World.putObj_heap_other (by grind)
  simp_all[gW]
 |vJ T d id i a c=>exact .vJ T d id i a c
 |wC T d id i n a n' cap c=>exact .wC T d id i n a n' cap c
 |ptr d id i off b c q=>exact .ptr d id i off b c (by omega)
 |N6 d id i off a c=>exact .N6 d id i off a c
 |fn f y u vs z g B _ _ s r=>exact .fn f y u vs z g B s r
 |rG t x v _ j=>exact .rG t x v j
 |yld id b c=>exact .yld id b c
 |aau id b c=>exact .aau id b c
 |mpv id b c=>exact .mpv id b c
 |abD id b c=>exact .abD id b c
 |view T d id i n b cap c=>exact .view T d id i n b cap c
 |CU T d id i n a cap c=>exact .CU T d id i n a cap c
 |cZ T d id n b len cap c q g e l k =>
  refine .cZ T d id n b len cap c (by omega) g e l (k.trans ?_);have:(Mc.shut w D).heap[b]?=w.heap[b]?:=World.putObj_heap_other (by grind)
  simp_all[gW]
 |uH T d id n a c e=>exact .uH T d id n a c e
 |uI T d id n a n' cap c=>exact .uI T d id n a n' cap c
 |nP d id p off b c q=>exact .nP d id p off b c (by omega)
 |AT d id p off a c=>exact .AT d id p off a c
def dV.shut {m:Nat->St} {A:Nat->Prop} {w:World} {D:Nat} {ds:Option (List Deferred)} (H:dV m A h w) (l:w.heap[D]?=some (.deferred ds)) (u:∀id,m id≠.at D):dV m A h (shut w D):=by
 have E:(Mc.shut w D).heap.size=w.heap.size:=World.putObj_size;have o:∀b,b≠D->(Mc.shut w D).heap[b]?=w.heap[b]?:=fun b e=>World.putObj_heap_other e;refine⟨H.out,fun b d=>by rw[E];exact H.old b d,H.no,H.dead,?_,H.inj,?_,?_,H.scs⟩
 .intro id T G bL y
  obtain C|⟨b,cs,g,a,z,Q,F⟩:=H.wQ id T G bL y
  .simp_all
  .exact .inr ⟨b,cs,g,(o b (by grind)).trans a,z,Q,fun i j x c=>⟨(F i j x c).1,(F i j x c).2.shut l u⟩⟩
 .intro t O
  obtain⟨g,a,z⟩:=H.mS t O;exact⟨g,by omega,fun j v C=>(OG l t.1 j).trans (z j v C)⟩
 .intro id B y P
  obtain⟨b,g,a⟩:=H.others id B y P;have d:=o b (by grind);refine⟨b,g,?_⟩;cases B with
  |lp st f ps as bd =>
   obtain⟨L,r,q,p,N,M,K,J,I⟩:=a;exact⟨L,d.trans r,q,p,N,M,K,J,fun i x c=>(I i x c).shut l u⟩
  |it s R=>exact d.trans a
  |mp es =>
   obtain⟨ms,n,r,q,p⟩:=a;refine⟨ms,n,d.trans r,q,fun i k x c=>?_⟩
   obtain⟨e,g1,g2,g3⟩:=p i k x c;exact⟨e,g1,g2,g3.shut l u⟩
  |_=>exact a
def Ext.shut {m a:Nat->St} {w w':World} {D:Nat} (E:Ext m w a w') (k:w.heap.size<=D) (j:∀id,a id≠.at D):Ext m w a (shut w' D):=by
 have c:(Mc.shut w' D).heap.size=w'.heap.size:=World.putObj_size;have d:∀b,b≠D->(Mc.shut w' D).heap[b]?=w'.heap[b]?:=fun b e=>World.putObj_heap_other e;refine⟨E.os,E.tape,E.output,by rw[c];exact E.size,E.at_,E.dead,E.uB,?_,?_⟩
 .intro b i h
  obtain⟨g,f⟩:=E.un b i h;grind
 .intro id b g f
  have:=d b (by grind);have:=E.rows id b g f
  grind[gW]
def C0 (w:World):List Nat->World
 |[]=>w
 |D::a=>C0 (shut w D) a
def Mg {m m0:Nat->St} {A:Nat->Prop} {w0:World}:∀(a:List Nat) (w:World),dV m A h w->a.Nodup->(∀D∈a,w.heap[D]?=some (.deferred (some []))/\∀id,m id≠.at D)->(∀D∈a,w0.heap.size<=D)->Ext m0 w0 m w ->
  dV m A h (C0 w a)/\Ext m0 w0 m (C0 w a)/\∀(x:AV) (v:Value),Rd m A w x v->Rd m A (C0 w a) x v
 |[],w,H,_,_,_,E=>⟨H,E,fun _ _ h=>h⟩
 |D::a,w,H,b,g,hs,E=>by
  obtain⟨f,c⟩:=g D a1d;rw[a4a]at b;obtain⟨r1,r2,i⟩:=Mg a (shut w D) (H.shut f c) b.2 (fun e d=>by
   obtain⟨k,j⟩:=g e (a03 _ d);exact⟨(World.putObj_heap_other (by grind)).trans k,j⟩) (fun e d=>hs e (a03 _ d)) (E.shut (hs D a1d) c)
  exact⟨r1,r2,fun x v h=>i x v (h.shut f c)⟩
def xT {F:Fence} {n:Nat} {fn:Func} {tmps:Array Value} {R:Ending->World->Prop}:∀(a:List Nat) (w:World),a.Nodup->(∀D∈a,w.heap[D]?=some (.deferred (some [])))->(∃v,(results fn tmps).run P (C0 w a)=.ok v (C0 w a)/\R (.returned v) (C0 w a))->LeavesInM F n P fn tmps R (a.map mark) .returning w
 |[],w,_,_,h=>h
 |D::a,w,b,c,h=>by
  rw[a4a]at b;refine⟨by simp,.inl ⟨D,shut w D,rfl,run_takeDeferred (c D a1d),?_⟩⟩;exact xT a (shut w D) b.2 (fun e d=>(World.putObj_heap_other (by grind)).trans (c e (a03 _ d))) h
def jA.fP {F:FuncId} {c:Code} {args:List AV} {R:AV->AH->Prop} (J:P.funcs[F]?=some fn) (K:fn.body=some c)
  (k:kV P true c (apo P fn R) (args++List.replicate (fn.ntmps-args.length) .undef) h):jA P F args h R:=by
 intro m A w vs H I G;have FR:nJ m A w (args++List.replicate (fn.ntmps-args.length) .undef) { tmps:=vs++Array.replicate (fn.ntmps-vs.size) Go.undef,defers:=[] }:=by
  refine⟨by simp[I],?_,Marks.nil _ _⟩;intro i x a;rcases a0u i args.length with h|h
  .rw[a18 h]at a
   have:=G i x a;have l:i<vs.size:=(by omega);simpa[a1p,l]using this
  .rw[a1u h,a4y]at a
   split at a
   .cases a
    have o:¬ i<vs.size:=(by omega)
    have:(vs++Array.replicate (fn.ntmps-vs.size) Go.undef).getD i Go.undef=Go.undef:=by
     simp[a1p,o,a3s]
     simp_all
    simp only[this];exact .pure _ _ .undef
   simp_all
 refine M9 (r:=none) (n:=9) |>.1 (callsIn_of_wp_marks J K trivial (wpIn_mono (k none m A w _ (fun _=>rfl) H FR) ?_));rintro e g w' ⟨b,s,h',q,Q,j,S,O⟩
 have fin:∀x,fJ P fn s h'=some x->R x h'->LeavesInM (fw none) 9 P fn g.tmps (fun e w'=>∃v u b h',e=.returned v/\R u h'/\dV b A h' w'/\Rd b A w' u v/\Ext m w b w') g.defers .returning w':=by
  intro x a d;obtain⟨f,N,y,t⟩:=j.defers;have M:∀D∈f,w.heap.size<=D:=by
   intro D p;rcases O (mark D) (by grind)with L|⟨U,L,T⟩<;>simp_all[mark]
  obtain⟨r1,r2,E⟩:=Mg f w' Q y t M S;have z:nJ b A (C0 w' f) s { tmps:=g.tmps,defers:=[] }:=⟨j.size,fun i x a=>E _ _ (j.rd i x a),Marks.nil _ _⟩;obtain⟨v,C,B⟩:=IG r1 z a;rw[N];exact xT f w' y (fun D p=>(t D p).1) ⟨v,C,v,x,b,h',rfl,d,r1,B,r2⟩
 cases e with
 |normal=>obtain⟨x,a,d⟩:=q;exact fin x a d
 |ret=>obtain⟨x,a,d⟩:=q;exact fin x a d
 |_=>exact q.elim
def alT (P:Program) (t:TypeId) (a:Bool):Bool:=match P.underlying t with
 |some (.pointer _)=>a
 |some _=>!a
 |none=>false
def RI (P:Program) (t:TypeId) (a:String):Option FuncId :=
 match P.info? t with
 |some i=>match i.methods.find? (·.name==a)with
  |some m=>match m.func with
   |some (k,b)=>if m.path.toList.isEmpty&&alT P t b then some k else none
   |none=>none
  |none=>none
 |none=>none
def abF {t:TypeId} {b:String} (a:RI P t b=some k) (n:Nat) (v:Value) (w:World):(method (n+1) t v b).run P w=.ok (k,v) w:=by
 unfold RI at a;split at a
 .rename_i i g
  split at a
  .rename_i mm f
   split at a
   .rename_i k' j h
    split at a
    .rename_i d
     cases a;rw[a0e]at d;have e:mm.path.toList=[]:=by simp_all
     have c:=d.2;unfold method;simp only[Sem.run_bind,typeInfo,program,Sem.run,g,Result.andThen_ok];simp only[f,Sem.run_bind,Sem.run_pure,e,follow,Result.andThen_ok,h];unfold alT at c;split at c<;>simp_all[receiverAt,run_underlying,Place.get]
    simp_all
   simp_all
  simp_all
 simp_all
def mC (P:Program) (ρ:Operand->AV):Op->Option (FuncId×List AV)
 | .call { callee:=.value g,args,.. }=>match ρ g with
  | .fn (.func k) first a=>some (k,first++args.toList.map ρ++a)
  |_=>none
 | .call { callee:=.invoke g name,args,.. }=>match ρ g with
  | .rG t v=>match RI P t name with
   |some k=>some (k,v::args.toList.map ρ)
   |none=>none
  |_=>none
 |_=>none
def zU {c : Code} (b : P.funcs[k]? = some fn) (d : fn.body = some c) (a : (fn.name == "runtime.NumGoroutine") = false) (args : Array Value) (w : World) : (callFunc k args).run P w = .ok (.enter k args) w := by
 simp_all[callFunc]
def nU.call {o : Oper} {args : List AV} {R : AV -> AH -> Prop} {c : Code} (p : mC P (eJ f) o.op = some (k, args)) (T : P.funcs[k]? = some fn) (U : fn.body = some c) (O : (fn.name == "runtime.NumGoroutine") = false) (L : jA P k args h R) : nU P o f h R := by
 intro r' m A w a H F K Q Y;unfold mC at p;split at p
 .rename_i g b E G
  split at p
  .rename_i k' first l B
   simp only[a0g,a1t]at p;obtain⟨rfl,rfl⟩:=p;have q:=F.eval g;rw[B]at q;obtain⟨vs,j,X,s,W,r1,r2⟩:∃vs j,a.eval g=.func (.func k') vs j/\vs.size=first.length/\j.size=l.length/\(∀(i:Nat) (x:AV),first[i]?=some x->Rd m A w x (vs.getD i Go.undef))/\∀(i:Nat) (x:AV),l[i]?=some x->Rd m A w x (j.getD i Go.undef):=by
    generalize a.eval g=u at q;cases q with
    |pure _ _ h=>cases h with|fn _ _ _ vs j J y h g=>exact⟨vs,j,rfl,J,y,fun i x d=>.pure _ _ (h i x d),fun i x d=>.pure _ _ (g i x d)⟩
    |fn _ _ _ vs j J y h g=>grind
   have n:(execOp a.eval o).run P w=.ok (.enter k' (vs++b.map a.eval++j)) w:=by
    simp_all[execOp,resolve,Deferred.ofValue,invoke,zU]
   refine LP n ((L m A w _ H (by simp_all) ?_).mono ?_)
   .intro i x d
    rcases a0u i first.length with h|h
    .rw[a3t,a18 h]at d
     have:=r1 i x d
     simp_all[a1p]
    .rw[a3t,a1u h]at d
     rcases a0u (i-first.length) b.toList.length with V|V
     .rw[a18 (by simp_all)]at d
      have:=Ez F b _ _ d
      have e:(vs++b.map a.eval++j).getD i Go.undef=(b.map a.eval).getD (i-first.length) Go.undef:=by
       have r:¬ i<first.length:=by omega
       have D:i-first.length<b.size:=by omega
       simp[a1p,r,D,s]
      simp_all
     .rw[a1u (by simp_all)]at d
      have:=r2 _ _ d
      have e:(vs++b.map a.eval++j).getD i Go.undef=j.getD (i-first.length-(b.toList.map (eJ f)).length) Go.undef:=by
       have r:¬ i<first.length:=by omega
       have D:¬ i-first.length<b.size:=by simp_all
       simp[a1p,r,D,s,Nat.sub_sub]
      simp_all
   grind
  simp_all
 .rename_i g z b E G
  split at p
  .rename_i t v B
   split at p
   .rename_i k' S
    simp only[a0g,a1t]at p;obtain⟨rfl,rfl⟩:=p;have q:=F.eval g;rw[B]at q;obtain⟨u,M,N⟩:=q.adE;have I:(method (P.types.size+Made.depth) t u z).run P w=.ok (k',u) w:=abF S (P.types.size+99) u w
    have n:(execOp a.eval o).run P w=.ok (.enter k' (#[u]++b.map a.eval)) w:=by
     simp only[execOp,G,resolve,Sem.run_bind,Sem.run_pure,Result.andThen_ok];simp only[invoke,M];simp only[a1p,Sem.run_bind];simp only[callMethod,program];have C:(b.map a.eval).extract 0 b.size=b.map a.eval:=by
      simp_all
     simp[Sem.run,I,zU T U O,C]
    refine LP n ((L m A w _ H (by grind) ?_).mono ?_)
    .intro i x d
     cases i with
     |zero=>simp at d;subst d;simpa[a1p]using N
     |succ i =>
      have:=Ez F b i x (by simp_all)
      simp_all[a1p]
    grind
   simp_all
  simp_all
 simp_all
end
end
end Mc
namespace Mc
variable {u:List (Nat×dC)}
structure wV where
 v:AV
 cJ:List (Nat×dC)
 wX:List Nat
 lo:Nat
 hi:Nat
 skip:Bool
def tmpsOf (l:List Operand):List Nat:=l.filterMap fun | .tmp t=>some t|_=>none
def Xh (ops:Array Oper) (o:Oper):List Nat :=
 match o.guard with
 |none=>[]
 |some (j,_)=>((ops[j]?).bind (·.dst)).toList
def yK (ops:Array Oper) (o:Oper):List Nat:=tmpsOf o.op.operands.toList++Xh ops o
section
variable {P:Program} {ops:Array Oper}
section
variable [Bk] [Ev]
def aar (P:Program) (ops:Array Oper) (o:Oper) (E:wV) (f:List AV) (h:AH):Prop :=
 ∀a h',a.length=f.length->(∀t∈yK ops o,a[t]?=f[t]?)->(∀id∈E.wX,h' id=h id)->(∀id,E.lo<=id->id<E.hi->h' id=h id) ->
  if E.skip then lY ops o a=some false/\E.v=.undef/\E.cJ=[]else lY ops o a=some true/\nU P o a h' (fun v b=>v=E.v/\b=gE h' E.cJ)
abbrev Sg:=List AV×AH
def app (x:Oper×wV) (s:Sg):Sg:=(qY s.1 x.1.dst x.2.v,gE s.2 x.2.cJ)
def EE (E:wV):List Nat:=E.cJ.map (·.1)
def Mm (E:wV) (id:Nat):Bool:=E.wX.contains id||(decide (E.lo<=id)&&decide (id<E.hi))
def Sx (ops:Array Oper) (x y:Oper×wV):Bool :=
 (match x.1.dst with|none=>true|some d=>!(yK ops y.1).contains d)&&(match y.1.dst with|none=>true|some d=>!(yK ops x.1).contains d) &&
 (match x.1.dst,y.1.dst with|some d,some d'=>d != d'|_,_=>true) &&
 (EE x.2).all (fun id=>!Mm y.2 id&&!(EE y.2).contains id)&&(EE y.2).all (fun id=>!Mm x.2 id&&!(EE x.2).contains id)
theorem kD:∀{h:AH} {id:Nat},id ∉ u.map (·.1)->gE h u id=h id:=by
 induction u<;>simp_all[gE,lP]
def wZ:∀{h h':AH} {id:Nat},id∈u.map (·.1)->gE h u id=gE h' u id:=by
 induction u with
 |nil=>simp_all
 |cons p u a =>
  intro h h' id b;simp only[gE];grind[kD,Az]
def aeo {a:List (Nat×dC)} (h:AH) (c:∀id∈u.map (·.1),id ∉ a.map (·.1)):gE (gE h u) a=gE (gE h a) u:=by
 funext id;by_cases b:id∈u.map (·.1)
 .rw[kD (c id b)];exact wZ b
 .by_cases d:id∈a.map (·.1)
  .rw[kD (u:=u) b];exact wZ d
  simp_all[kD]
def abV {f:List AV} {d:Option Tmp} {v:AV} {t:Nat} (h:d≠some t):(qY f d v)[t]?=f[t]?:=by
 cases d<;>simp_all[qY]
def aim (f:List AV) (d:Option Tmp) (v:AV):(qY f d v).length=f.length:=by cases d<;>simp[qY]
def ae3 {f:List AV} {d d':Option Tmp} {v a:AV} (h:∀t,d=some t->d'≠some t):qY (qY f d v) d' a=qY (qY f d' a) d v:=by
 cases d with
 |none=>rfl
 |some d =>
  cases d' with
  |none=>rfl
  |some d'=>simp only[qY];exact List.set_comm _ _ (by grind)
end
structure vQ (ops:Array Oper) (x y:Oper×wV):Prop where
 a:∀d,x.1.dst=some d->d ∉ yK ops y.1
 b:∀d,y.1.dst=some d->d ∉ yK ops x.1
 c:∀d,x.1.dst=some d->y.1.dst≠some d
 d:∀id∈EE x.2,id ∉ y.2.wX/\¬ (y.2.lo<=id/\id<y.2.hi)/\id ∉ EE y.2
 e:∀id∈EE y.2,id ∉ x.2.wX/\¬ (x.2.lo<=id/\id<x.2.hi)/\id ∉ EE x.2
section
variable [Bk] [Ev]
def acs {x y:Oper×wV} (h:Sx ops x y=true):vQ ops x y:=by
 simp only[Sx,a0e,a0i]at h;obtain⟨⟨⟨⟨e,d⟩,c⟩,b⟩,a⟩:=h;refine⟨?_,?_,?_,?_,?_⟩<;>grind[Mm]
def aar.far {x y:Oper×wV} (h:vQ ops x y) {s:Sg}:aar P ops y.1 y.2 s.1 s.2↔aar P ops y.1 y.2 (app x s).1 (app x s).2:=by
 have o:∀t∈yK ops y.1,(app x s).1[t]?=s.1[t]?:=fun t f=>abV fun e=>h.a t e f;have n:∀id∈y.2.wX,(app x s).2 id=s.2 id:=fun id c=>kD fun g=>(h.d id g).1 c;have m:∀id,y.2.lo<=id->id<y.2.hi->(app x s).2 id=s.2 id:=fun id a b=>kD fun g=>(h.d id g).2.1 ⟨a,b⟩;have p:(app x s).1.length=s.1.length:=aim _ _ _;constructor
 .intro k i h' l e1 e2 j
  exact k i h' (l.trans p) (fun t f=>(e1 t f).trans (o t f)) (fun id c=>(e2 id c).trans (n id c)) fun id a b=>(j id a b).trans (m id a b)
 .intro k i h' l e1 e2 j
  exact k i h' (l.trans p.symm) (fun t f=>(e1 t f).trans (o t f).symm) (fun id c=>(e2 id c).trans (n id c).symm) fun id a b=>(j id a b).trans (m id a b).symm
def X5 {x y:Oper×wV} (h:vQ ops x y) (s:Sg):app y (app x s)=app x (app y s):=by
 unfold app;rw[ae3 (fun t b=>h.c t b),aeo _ (fun id a=>(h.d id a).2.2)]
def vQ.symm {x y:Oper×wV} (h:vQ ops x y):vQ ops y x:=⟨h.b,h.a,fun d g f=>h.c d f g,h.e,h.d⟩
def I7 (P:Program) (ops:Array Oper):List (Oper×wV)->Sg->Prop
 |[],_=>True
 |x::l,s=>aar P ops x.1 x.2 s.1 s.2/\I7 P ops l (app x s)
def fin (l:List (Oper×wV)) (s:Sg):Sg:=l.foldl (fun s x=>app x s) s
def I7.append {l l':List (Oper×wV)}:∀{s:Sg},I7 P ops (l++l') s↔I7 P ops l s/\I7 P ops l' (fin l s):=by
 induction l<;>simp_all[I7,fin,and_assoc]
def abX (l l':List (Oper×wV)) (s:Sg):fin (l++l') s=fin l' (fin l s):=by simp[fin]
def I7.move {t:Oper×wV}:∀(a post:List (Oper×wV)) (s:Sg),(∀x∈a,vQ ops t x)->I7 P ops (t::(a++post)) s->I7 P ops (a++t::post) s/\fin (a++t::post) s=fin (t::(a++post)) s
 |[],post,s,_,h=>⟨h,rfl⟩
 |x::a,post,s,c,h=>by
  have b:=c x (by simp);simp only[a2a,I7]at h |-;obtain⟨l,k,d⟩:=h;have g:=(aar.far (P:=P) b).2 k;have i:=(aar.far (P:=P) b.symm).1 l;rw[X5 b]at d;obtain⟨f,e⟩:=I7.move a post (app x s) (fun y j=>c y (by simp[j])) ⟨i,d⟩;refine⟨⟨g,f⟩,?_⟩;show fin (a++t::post) (app x s)=fin (x::(a++post)) (app t s);rw[e];show fin (a++post) (app t (app x s))=fin (a++post) (app x (app t s));rw[X5 b]
def I7.perm {it:Nat->Oper×wV} {anc:Nat->Nat->Prop}:∀(T L:List Nat) (s:Sg),L.Perm T->T.Pairwise (·<·)->L.Pairwise (fun a b=>¬ anc b a)->(∀i j,i∈T->j∈T->i<j->anc i j\/vQ ops (it i) (it j))->I7 P ops (T.map it) s->I7 P ops (L.map it) s/\fin (L.map it) s=fin (T.map it) s
 |[],L,s,g,_,_,_,_=>by
  simp_all
 |t::T,L,s,g,m,q,u,f=>by
  have h:t∈L:=g.symm.subset (by simp)
  obtain⟨c,post,rfl⟩:=List.append_of_mem h;have k:(c++post).Perm T:=by
   have:(t::(c++post)).Perm (t::T):=(List.perm_middle.symm).trans g
   simp_all
  rw[a12]at m;rw[a13]at q;obtain⟨o,d,n⟩:=q;rw[a12]at d;have p:(c++post).Pairwise (fun a b=>¬ anc b a):=a13.2 ⟨o,d.2,fun a w b v=>n a w b (by simp[v])⟩;simp only[a01,I7]at f;obtain⟨B,A⟩:=I7.perm T (c++post) (app (it t) s) k m.2 p (fun i j z y=>u i j (by simp[z]) (by simp[y])) f.2
  have l:∀x∈c.map it,vQ ops (it t) x:=by
   grind
  have e:I7 P ops (it t::(c.map it++post.map it)) s:=⟨f.1,by simp_all⟩;obtain⟨C,r⟩:=I7.move (P:=P) (c.map it) (post.map it) s l e;refine⟨by simp_all,?_⟩;have:(c++t::post).map it=c.map it++it t::post.map it:=by simp
  rw[this,r];show fin (c.map it++post.map it) (app (it t) s)=fin (T.map it) (app (it t) s)
  simp_all
def MB (ops:Array Oper) (i:Nat):List Nat:=((ops[i]?).map fun o=>(o.after.toList.filter (Region.binds .any)).map (·.on)).getD []
def A2 (ops:Array Oper):Nat->List (List Nat)
 |0=>[]
 |n+1=>let acc:=A2 ops n;acc++[(MB ops n++(MB ops n).flatMap (fun i=>acc.getD i [])).eraseDups]
theorem wS (ops:Array Oper):∀n,(A2 ops n).length=n
 |0=>rfl
 |n+1=>by simp[A2,wS ops n]
def rW {l:Nat->Prop} (down:∀i,l i->∀j∈MB ops i,l j):∀n j,j<n->l j->∀i∈(A2 ops n).getD j [],l i
 |0,j,f,_,_,_=>by omega
 |n+1,j,f,b,i,a=>by
  simp only[A2]at a;rcases a0u j n with h|h
  .rw[List.getD,a18 (by simp_all[wS])]at a
   exact rW down n j h b i a
  .have e:j=n:=by omega
   subst e;rw[List.getD,a1u (by grind[wS]),wS,a2r]at a;simp only[a35,a2y]at a;rw[List.mem_eraseDups,a0m,a1v]at a;rcases a with a|⟨p,d,a⟩
   .grind
   .have g:=down j b p d
    rcases a0u p j with c|c
    .exact rW down j p c g i a
    simp_all[wS]
def Lo (ops:Array Oper) (i j:Nat):Bool:=((A2 ops ops.size).getD j []).contains i
def Pk (ops:Array Oper) (b:List wV):Bool :=
 let a:=A2 ops ops.size
 (List.range ops.size).all fun j =>
  (MB ops j).all (fun i=>decide (i<j))&&(a.getD j []).all (fun i=>decide (i<j)) &&
  (List.range j).all fun i=>(a.getD j []).contains i||(match ops[i]?,b[i]?,ops[j]?,b[j]? with|some o,some E,some o',some E'=>Sx ops (o,E) (o',E')|_,_,_,_=>false)
theorem Ar {l:Array Bool} {i j:Nat} (a:i<l.size):(l.setIfInBounds i true).getD j false=if i=j then true else l.getD j false:=by
 by_cases h:i=j<;>simp_all
def Nj {l:Array Bool} {i:Nat} (b:i<l.size) (c:l.getD i true=false):(l.setIfInBounds i true).toList.count false+1=l.toList.count false:=by
 rw[Array.toList_setIfInBounds];have a:i<l.toList.length:=by omega
 have e:l.toList[i]=false:=by
  simp_all
 grind
def jP (ops:Array Oper) (a:List wV) (i:Nat):Oper×wV:=(ops.getD i default,a.getD i ⟨.undef,[],[],0,0,false⟩)
def kV.draw {tp:Bool} {Q:Exit->List AV->AH->Prop} {id:Nat} {f f':List AV} {h h':AH} (hm:P.follows .mixedOrders=true) (d:List wV) (hl:d.length=ops.size) (hb:Pk ops d=true) (hr:I7 P ops ((List.range ops.size).map (jP ops d)) (f,h)) (hf:fin ((List.range ops.size).map (jP ops d)) (f,h)=(f',h')) (k:Q .normal f' h') :
  kV P tp (.region id ops true) Q f h:=by
 intro r' m A w a _ H F;refine wpIn_region_any hm ?_
 obtain⟨Hd,Ed⟩:=H.drew;have ac:∀j,j<ops.size->(∀i∈MB ops j,i<j)/\(∀i,Lo ops i j=true->i<j)/\∀i,i<j->Lo ops i j=true\/vQ ops (jP ops d i) (jP ops d j):=by
  intro j K;have N:=a0i.1 hb j (a0v.2 K);simp only[a0e,a0i]at N;obtain⟨⟨N,h2⟩,h3⟩:=N;refine⟨fun i C=>by simp_all,fun i C=>?_,fun i C=>?_⟩
  .simp_all[Lo]
  .have M:=h3 i (a0v.2 C)
   rw[a1w]at M;rcases M with M|M
   .exact .inl M
   .right
    have al:i<ops.size:=(by omega);have e1:ops[i]?=some ops[i]:=(by simp[al]);have e2:ops[j]?=some ops[j]:=(by simp[K]);have e3:d[i]?=some d[i]:=(by simp_all);have e4:d[j]?=some d[j]:=(by simp_all);rw[e1,e2,e3,e4]at M;have:=acs M
    simp_all[jP]
 have key:∀(B:Nat) (c:Array Bool) (s:Act) (q:World),c.toList.count false<=B->c.size=ops.size->(∀i,c.getD i false=true->∀j∈MB ops i,c.getD j false=true) ->
   (∃L:List Nat,L.Nodup/\(∀i,i∈L↔c.getD i false=true)/\L.Pairwise (fun a b=>¬ Lo ops b a=true)/\∃t,dV t A (fin (L.map (jP ops d)) (f,h)).2 q/\nJ t A q (fin (L.map (jP ops d)) (f,h)).1 s/\Ext m w t q/\s.defers=a.defers)->wpAnyIn (fw r') 9 P .any ops (acy Q m A w a) B c s q:=by
  have done:∀(c:Array Bool) (s:Act) (q:World),c.size=ops.size->Region.ready .any ops c=[] ->
    (∃L:List Nat,L.Nodup/\(∀i,i∈L↔c.getD i false=true)/\L.Pairwise (fun a b=>¬ Lo ops b a=true)/\∃t,dV t A (fin (L.map (jP ops d)) (f,h)).2 q/\nJ t A q (fin (L.map (jP ops d)) (f,h)).1 s/\Ext m w t q/\s.defers=a.defers)->acy Q m A w a .normal s q:=by
   intro c s q hs p D;obtain⟨L,hn,J,Y,t,H1,O,E1,D1⟩:=D;have all:∀n i,i<n->i<ops.size->c.getD i false=true:=by
    intro n;induction n with
    |zero=>omega
    |succ n ih =>
     intro i av C;cases au:c.getD i false with
     |true=>rfl
     |false =>
      exfalso
      have:i∈Region.ready .any ops c:=by
       refine mem_ready.2 ⟨?_,ops[i],by simp[C],fun e he ay=>?_⟩<;>grind[MB]
      simp_all
   have E:L.Perm (List.range ops.size):=by
    grind
   have:=(I7.perm (P:=P) (ops:=ops) (it:=jP ops d) (anc:=fun i j=>Lo ops i j=true) _ L (f,h) E (by exact a2z) Y (fun i j _ K ab=>(ac j (a0v.1 K)).2.2 i ab) hr).2;rw[this,hf]at H1 O;exact⟨t,f',h',k,H1,O,E1,.same D1⟩
  intro B;induction B with
  |zero =>
   intro c s q hc hs T D;have p:Region.ready .any ops c=[]:=by
    cases ar:Region.ready .any ops c with
    |nil=>rfl
    |cons i r =>
     exfalso;obtain⟨N,o,Z,-⟩:=mem_ready.1 (show i∈Region.ready .any ops c by grind);have C:i<ops.size:=(a2n.1 Z).1;have:=Nj (l:=c) (i:=i) (by omega) N;omega
   exact⟨p,done c s q hs p D⟩
  |succ B ih =>
   intro c s q hc hs T D;refine⟨fun p=>done c s q hs p D,?_⟩
   intro i C;obtain⟨N,o,Z,ap⟩:=mem_ready.1 C;have aw:i<ops.size:=(a2n.1 Z).1;have S:i<c.size:=(by omega);have aA:c.getD i false=false:=(by grind);obtain⟨L,hn,J,Y,t,H1,O,E1,D1⟩:=D;have ax:i ∉ L:=fun hm=>by grind
   have ao:∀j∈MB ops i,c.getD j false=true:=by
    grind[MB]
   have z:∀x,(c.setIfInBounds i true).getD x false=true->∀j∈MB ops x,(c.setIfInBounds i true).getD j false=true:=by
    intro x U j K;rw[Ar S]at U |-;grind
   have aq:∀x y,(x∈L\/x=i)->Lo ops y x=true->y∈L\/y=i:=by
    intro x y U hy;have V:x<ops.size:=by
     grind
    have aa:(c.setIfInBounds i true).getD x false=true:=by
     rw[Ar S];grind
    have:=rW (ops:=ops) (l:=fun x=>(c.setIfInBounds i true).getD x false=true) z ops.size x V aa y (by simpa[Lo]using hy)
    grind[Ar]
   have I:(L++[i]).Pairwise (fun a b=>¬ Lo ops b a=true):=by
    refine a13.2 ⟨Y,List.pairwise_singleton _ _,?_⟩;intro x U y hy ag;simp only[a07]at hy;subst hy;have aa:=(J x).1 U
    have V:x<ops.size:=by
     grind
    have:=rW (ops:=ops) (l:=fun x=>c.getD x false=true) T ops.size x V aa y (by simpa[Lo]using ag)
    grind
   let g:=(List.range ops.size).filter fun x=>!(L++[i]).contains x
   have ad:∀x,x∈g↔x<ops.size/\x ∉ L/\x≠i:=by
    intro x;simp only[g,List.mem_filter,a0v,a3u,List.contains_eq_mem,decide_eq_false_iff_not,a0m,a07,not_or]
   have az:∀x∈L,x<ops.size:=by
    grind
   have X:g.Nodup:=List.nodup_range.sublist List.filter_sublist
   have E:(L++[i]++g).Perm (List.range ops.size):=by
    have aj:(L++[i]++g).Nodup:=by
     rw[a4b,a4b];refine⟨⟨hn,by simp,?_⟩,X,?_⟩<;>grind
    rw[a4c aj a4d];intro x;simp only[a0m,a07,ad,a0v];constructor<;>grind
   have af:(L++[i]++g).Pairwise (fun a b=>¬ Lo ops b a=true):=by
    refine a13.2 ⟨I,?_,?_⟩
    .have ai:g.Pairwise (·<·):=List.Pairwise.filter _ a2z
     refine ai.imp_of_mem ?_
     grind
    grind
   have W:=(I7.perm (P:=P) (ops:=ops) (it:=jP ops d) (anc:=fun i j=>Lo ops i j=true) _ (L++[i]++g) (f,h) E (by exact a2z) af (fun i j _ K ab=>(ac j (a0v.1 K)).2.2 i ab) hr).1;rw[a09,a09,I7.append,I7.append]at W;have am:aar P ops (jP ops d i).1 (jP ops d i).2 (fin (L.map (jP ops d)) (f,h)).1 (fin (L.map (jP ops d)) (f,h)).2:=W.1.2.1;have ak:(jP ops d i).1=o:=(by simp[jP,Z]);have u:=am _ _ rfl (fun _ _=>rfl) (fun _ _=>rfl) (fun _ _ _=>rfl)
   rw[ak]at u;have R:∀x,x∈L++[i]↔(c.setIfInBounds i true).getD x false=true:=by
    intro x;rw[Ar S];simp only[a0m,a07,J];constructor
    .rintro(h|rfl)
     .split<;>first|rfl|exact h
     .simp
    grind
   have ae:(L++[i]).Nodup:=by
    rw[a4b];refine⟨hn,by simp,?_⟩
    grind
   have G:fin ((L++[i]).map (jP ops d)) (f,h)=app (o,(jP ops d i).2) (fin (L.map (jP ops d)) (f,h)):=by
    rw[a09,abX];show app (jP ops d i) _=_
    grind
   have an:=Nj S N;unfold wpOpIn;simp only[Z];split at u
   .obtain⟨hg,hv,hu⟩:=u
    rw[if_neg (by grind[Aq])];refine⟨fun _ _=>trivial,ih _ _ _ (by omega) (by grind) z ⟨L++[i],ae,R,I,t,?_,?_,E1,(put_defers _ _ _).trans D1⟩⟩
    .rw[G];simp only[app,hu,gE];exact H1
    .rw[G];simp only[app,hv];exact O.put (Ext.refl _ _) (.pure _ _ .undef) o.dst
   .obtain⟨hg,ah⟩:=u
    rw[if_pos (Aq O hg)];refine ah r' t A q s H1 O _ _ ?_;rintro v h2 x w2 m2 ⟨rfl,rfl⟩ H2 U E2;refine ih _ _ _ (by omega) (by grind) z ⟨L++[i],ae,R,I,m2,?_,?_,E1.trans E2,(put_defers _ _ _).trans D1⟩
    .rw[G];exact H2
    .rw[G];exact O.put E2 U o.dst
 refine key ops.size _ a _ (by simp) (by simp) (by intro i C;simp[a3s]at C;grind) ⟨[],List.nodup_nil,?_,List.Pairwise.nil,m,Hd,F.ext Ed,Ed,rfl⟩;intro i;simp[a3s]
 grind
end
end
end Mc
namespace Mc
section
variable {P:Program} {o:Oper} {f:List AV} {h:AH}
end
end Mc
namespace Mc
section
variable {P:Program} {o:Oper} {f:List AV} {h:AH}
section
variable [Bk] [Ev]
def Rd.alb {m:Nat->St} {A:Nat->Prop} {w:World} {T sz id i n b:Nat} {u:Value} (h:Rd m A w (.view T sz id i n) u) (g:m id=.at b):∃cap,u=.slice (some ⟨b,i*sz,none⟩) n cap:=by
 cases h with
 |pure _ _ h=>cases h
 |view _ _ _ _ _ c cap a=>simp_all
 |CU _ _ _ _ _ _ _ a=>simp_all
def N9 {t:TypeId} {x j C d:Operand} {T sz id i n l u v:Nat} {bL:List (List AV)} (M:o.op=.slice t x (some j) (some C) (some d)) (J:P.underlying t=some (.slice (P.elem t))) (hs:(P.info? (P.elem t)).map (·.size)=some sz) (G:eJ f x=.own T sz id i n) (N:h id=.cells T sz bL) (y:bL≠[]) (B:gU (eJ f) 0 (some j)=some l) (D:gU (eJ f) n (some C)=some u) (z:gU (eJ f) n (some d)=some v) (h1:l<=u) (W:u<=v) (V:v<=n) (U:l<v) :
  eA P o f h ⟨.view T sz id (i+l) (u-l),[],[id]⟩:=by
 refine cY fun m A w a H F=>?_;have g:=F.eval x;rw[G]at g;cases L:P.info? (P.elem t)with
 |none=>simp_all
 |some c =>
  simp only[L,a0q,a0g]at hs;subst hs;obtain⟨e,r,rfl⟩:=a3p y;obtain⟨b,cs,g1,-⟩:=H.block (i:=0) N rfl;obtain⟨cap,I,S,Q,K⟩:=g.vO g1;obtain⟨q,e1⟩:=lQ F B;obtain⟨p,e2⟩:=lQ F D;obtain⟨k,O⟩:=lQ F z;have R:=run_slice_lhm (P:=P) w t (some ⟨b,i*c.size,none⟩) n cap J q p k (l:Int) (u:Int) (v:Int) (by omega) (by omega) (by omega) (by omega)
  have s:(Instr.sliceAt t (.slice (some ⟨b,i*c.size,none⟩) n cap) (some (.int q l)) (some (.int p u)) (some (.int k v))).run P w=.ok (sliced (some ⟨b,i*c.size,none⟩) l u v c.size) w:=by
   simp_all[run_sliceAt_slice,sizeOf,typeInfo]
  have E:sliced (some ⟨b,i*c.size,none⟩) l u v c.size=.slice (some ⟨b,(i+l)*c.size,none⟩) (u-l) (v-l):=by
   grind[sliced,iS]
  refine⟨_,by simp[execOp,M,I,e1,e2,O,s];rfl,?_⟩;rw[E];exact .view T c.size id (i+l) (u-l) b (v-l) g1
def Oa {t:TypeId} {x r J q:Operand} {sz l u v:Nat} {bL:List (List AV)} (S:o.op=.slice t x (some r) (some J) (some q)) (Q:P.underlying t=some (.slice (P.elem t))) (hs:(P.info? (P.elem t)).map (·.size)=some sz) (O:eJ f x=.lit sz bL) (I:gU (eJ f) 0 (some r)=some l) (K:gU (eJ f) 0 (some J)=some u) (E:gU (eJ f) 0 (some q)=some v) (h1:l<=u) (h2:u<=v) (h3:v<=bL.length) (Z:bL≠[]) :
  eA P o f h ⟨.lit sz ((bL.drop l).take (u-l)),[],[]⟩:=by
 refine cY fun m A w a H F=>?_;have g:=F.eval x;rw[O]at g;cases R:P.info? (P.elem t)with
 |none=>simp_all
 |some n =>
  simp only[R,a0q,a0g]at hs;subst hs;obtain⟨B,e1⟩:=lQ F I;obtain⟨z,e2⟩:=lQ F K;obtain⟨s,Y⟩:=lQ F E;have key:∀(d:Option Addr) (cap:Nat),bL.length<=cap->(Instr.sliceAt t (.slice d bL.length cap) (some (.int B l)) (some (.int z u)) (some (.int s v))).run P w=.ok (sliced d l u v n.size) w:=by
   intro d cap U;have D:=run_slice_lhm (P:=P) w t d bL.length cap Q B z s (l:Int) (u:Int) (v:Int) (by omega) (by omega) (by omega) (by omega)
   simp_all[run_sliceAt_slice,sizeOf,typeInfo]
  have p:((bL.drop l).take (u-l)).length=u-l:=by grind
  obtain⟨h0,d,cap,k⟩|⟨b,off,cap,vs,k,X,W,V,C,L,M,N⟩:=g.pY
  .simp_all
  .have D:=key (some ⟨b,off,none⟩) cap V
   refine⟨_,by simp[execOp,S,k,e1,e2,Y,D];rfl,.pure _ _ ?_⟩;unfold sliced;by_cases G:l=u
   .subst G
    simp only[a2r,List.take_zero];exact .nR _ _ _ (by rw[k]at g;have:=g.EA;omega)
   .rw[if_neg (by omega)]
    have:=eE.lit (A:=Av m A) (w:=w) n.size ((bL.drop l).take (u-l)) b (off+l*n.size) (v-l) (fun i j=>vs (l+i) j) X W ⟨by omega,by rw[k]at g;have:=g.EA;omega⟩ (fun e T=>C e (a2x (a2h T))) (fun i j y c=>L _ _ _ (tR c).2)
     (fun i j y c=>by have:=M _ _ _ (tR c).2;grind) (fun i j y c=>N _ _ _ (tR c).2)
    rw[p]at this;simpa[iS]using this
def Ob {t:TypeId} {x d y c:Operand} {T sz id i n l:Nat} {bL:List (List AV)} (I:o.op=.slice t x (some d) (some y) (some c)) (E:P.underlying t=some (.slice (P.elem t))) (hs:(P.info? (P.elem t)).map (·.size)=some sz) (C:eJ f x=.own T sz id i n) (J:h id=.cells T sz bL) (s:bL≠[]) (v:gU (eJ f) 0 (some d)=some l) (z:gU (eJ f) n (some y)=some l) (u:gU (eJ f) n (some c)=some l) (Q:l<=n) :
  eA P o f h ⟨.emp,[],[id]⟩:=by
 refine cY fun m A w a H F=>?_;have g:=F.eval x;rw[C]at g;cases N:P.info? (P.elem t)with
 |none=>simp_all
 |some B =>
  obtain⟨e,r,rfl⟩:=a3p s;obtain⟨b,cs,g1,-⟩:=H.block (i:=0) J rfl;obtain⟨cap,D,O,L,G⟩:=g.vO g1;obtain⟨p,e1⟩:=lQ F v;obtain⟨k,e2⟩:=lQ F z;obtain⟨j,K⟩:=lQ F u;have M:=run_slice_lhm (P:=P) w t (some ⟨b,i*sz,none⟩) n cap E p k j (l:Int) (l:Int) (l:Int) (by omega) (by omega) (by omega) (by omega)
  have q:(Instr.sliceAt t (.slice (some ⟨b,i*sz,none⟩) n cap) (some (.int p l)) (some (.int k l)) (some (.int j l))).run P w=.ok (sliced (some ⟨b,i*sz,none⟩) l l l B.size) w:=by
   simp_all[run_sliceAt_slice,sizeOf,typeInfo]
  refine⟨_,by simp[execOp,I,D,e1,e2,K,q];rfl,?_⟩;unfold sliced;rw[a2r];exact .pure _ _ (.emp _)
def TI {t:TypeId} {x:Operand} {e:TypeId} {T sz id i n:Nat} (l:o.op=.call { callee:=.builtin .len,args:=#[x],argTypes:=#[t] }) (k:P.underlying t=some (.slice e)) (g:eJ f x=.view T sz id i n):eA P o f h ⟨.c (.int .i64 n),[],[]⟩:=by
 refine cY fun m A w a H F=>?_
 have b:=F.eval x;rw[g]at b;have:∃d cap,a.eval x=.slice d n cap:=by
  generalize a.eval x=u at b;cases b with
  |pure _ _ h=>cases h
  |view _ _ _ _ _ q cap p=>simp_all
  |CU _ _ _ _ _ d cap p=>simp_all
 obtain⟨d,cap,j⟩:=this;refine⟨_,?_,.pure _ _ (.c _)⟩;simp[execOp,l,resolve,invoke,builtin,j,Builtin.len_,run_underlying k,goInt]
def Ep {t e:TypeId} {x ix:Operand} {T sz id i n':Nat} {bL:List (List AV)} {el:List AV} {k:IntKind} {n:Int} (s:o.op=.indexAddr t x ix) (p:eJ f x=.view T sz id i n') (v:h id=.cells T sz bL) (u:eJ f ix=.c (.int k n)) (r:P.underlying t=some (.slice e)) (hs:(P.info? e).map (·.size)=some sz) (z:0<=n) (C:n.toNat<n') (y:bL[i+n.toNat]?=some el) :
  eA P o f h ⟨.ptr sz id (i+n.toNat) 0,[],[id]⟩:=by
 refine cY fun m A w a H F=>?_;have l:=F.eval x;rw[p]at l;have j:=F.eval ix;rw[u]at j;have e2:=j.fN;obtain⟨b,cs,g1,-⟩:=H.block v y;obtain⟨cap,q⟩:=l.alb g1;cases d:P.info? e with
 |none=>simp_all
 |some B =>
  simp only[d,a0q,a0g]at hs;have g:n<(n':Int):=by omega
  refine⟨.pointer (some ⟨b,(i+n.toNat)*sz+0,none⟩),?_,.ptr sz id _ 0 b g1 (H.lt g1)⟩;simp[execOp,s,q,e2,Instr.indexAt,asIntOf,run_underlying r,z,g,sizeOf,typeInfo,d,hs,iS,a3n]
end
def apS (n:Int) (es:List (Int×AV)):Bool:=es.all fun t=>t.1 != n
def apL (n:Int) (es:List (Int×AV)):Option AV:=match es.filter (fun t=>t.1==n)with|[t]=>some t.2|_=>none
end
end Mc
namespace Mc
variable {α:Type}
def lN (h:AH) (nx:Nat):Bool:=match h nx with | .no=>true|_=>false
def lS [Bk] [Ev] {h:AH} {nx:Nat} (k:lN h nx=true):h nx=.no:=by grind[lN]
def kG (P:Program) (t:TypeId):Bool:=match P.underlying t with|some (.slice _)=>true|_=>false
def MM (y:AV) (n:Nat):Bool:=match y with | .own _ s _ _ _=>s==n|_=>true
def vA (P:Program) (t:TypeId) (x y:AV) (h:AH) (nx:Nat):Option AR :=
 match P.underlying t with
 |some (.slice e)=>match P.info? e with
  |some i=>match i.zero with
   |some z=>match wO h e i.size x,jX h y with
    |some (bL,k,rd),some a =>
     if z.cells.size=i.size/\0<i.size/\(a.all fun q=>q.length==i.size)=true/\MM y i.size=true/\(bL.length+a.length)*i.bytes<=140737488355328/\bL.length+a.length<=1099511627776/\lN h nx=true then
      some ⟨.own e i.size nx 0 (bL.length+a.length),k++[(nx,.cells e i.size (bL++a))],nx::rd++uC y⟩
     else none
    |_,_=>none
   |none=>none
  |none=>none
 |_=>none
def eO (P:Program) (t:TypeId):Option Nat:=(P.info? t).map (·.size)
def jI [Bk] (P:Program) (op:Op) (ρ:Operand->AV) (h:AH) (nx:Nat):Option AR :=
 match op with
 | .move x=>some ⟨ρ x,[],[]⟩
 | .assign x=>some ⟨ρ x,[],[]⟩
 | .pick c x y=>match ρ c with
  | .c (.bool b)=>some ⟨bif b then ρ x else ρ y,[],[]⟩
  |_=>none
 | .alloc e=>match P.info? e with
  |some i=>match i.zero with
   |some z=>match jD (SC z)with
    |some cs=>if lN h nx then some ⟨.ptr cs.length nx 0 0,[(nx,.cells e cs.length [cs])],[nx]⟩else none
    |none=>none
   |none=>none
  |none=>none
 | .box e x=>match jD (ρ x)with
  |some cs=>if lN h nx then some ⟨.ptr cs.length nx 0 0,[(nx,.cells e cs.length [cs])],[nx]⟩else none
  |none=>none
 | .build t g=>match Nv P t (g.toList.map fun p=>(p.1,ρ p.2))with
  |some cs=>some ⟨.agg cs,[],[]⟩
  |none=>none
 | .buildSlice t len g=>match P.underlying t with
  |some (.slice e)=>match P.info? e with
   |some i=>match i.zero with
    |some z=>match jD (SC z)with
     |some zc=>if zc.length=i.size/\0<i.size/\0<len/\len*i.size<=16777216/\lN h nx=true then
       match yM (fun k=>some (k*i.size,i.size)) ((List.replicate len zc).flatten) (g.toList.map fun p=>(p.1,ρ p.2))with
       |some cs=>some ⟨.own e i.size nx 0 len,[(nx,.cells e i.size (chunk i.size len cs))],[nx]⟩
       |none=>none
      else none
     |none=>none
    |none=>none
   |none=>none
  |_=>none
 | .load t x=>match ρ x with
  | .ptr f id i off=>match h id with
   | .cells _ s bL=>if s=f then match bL[i]? with
     |some e=>match mJ P t e off with
      |some v=>some ⟨v,[],[id]⟩
      |none=>none
     |none=>none
    else none
   |_=>none
  | .iZ _ bL i off=>match bL[i]? with
   |some e=>match mJ P t e off with
    |some v=>some ⟨v,[],[]⟩
    |none=>none
   |none=>none
  |_=>none
 | .store t x y=>match ρ x with
  | .ptr f id i off=>match h id with
   | .cells T s bL=>if s=f then match bL[i]?,jD (ρ y)with
     |some e,some w=>if eO P t=some w.length/\off+w.length<=f then some ⟨.undef,[(id,.cells T f (bL.set i (nN e off w)))],[id]⟩else none
     |_,_=>none
    else none
   |_=>none
  |_=>none
 | .nilCheck x=>match ρ x with
  | .ptr f id i off=>match h id with
   | .cells _ _ bL=>if(bL[i]?).isSome then some ⟨.ptr f id i off,[],[id]⟩else none
   |_=>none
  | .iZ f bL i off=>some ⟨.iZ f bL i off,[],[]⟩
  | .fn (.func k) w D=>some ⟨.fn (.func k) w D,[],[]⟩
  |_=>none
 | .binOp op t x y _=>match ak7 P op t (MY x) (MY y) (ρ x) (ρ y)with
  |some r=>some ⟨r,[],[]⟩
  |none=>none
 | .unOp op _ x=>match ρ x with
  | .c u=>match unV op u with
   |some r=>some ⟨.c r,[],[]⟩
   |none=>none
  | .e p=>match op with
   | .neg=>if mD (qV (-1) p)then some ⟨CM (qV (-1) p),[],[]⟩else none
   |_=>none
  |_=>none
 | .convert s d x=>match ρ x with
  | .c (.int _ n)=>match P.underlying s,P.underlying d with
   |some _,some (.int k)=>some ⟨.c (.int k (k.wrap n)),[],[]⟩
   |_,_=>none
  | .c (.string b)=>match P.underlying s,P.underlying d with
   |some _,some .string=>some ⟨.c (.string b),[],[]⟩
   |_,_=>none
  | .e p=>match P.underlying s,P.underlying d with
   |some _,some (.int .i64)=>if mD p then some ⟨.e p,[],[]⟩else none
   |_,_=>none
  |_=>none
 | .makeInterface t x=>if P.concrete t then some ⟨.rG t (ρ x),[],[]⟩else none
 | .makeFunc fn first B=>some ⟨.fn fn (first.toList.map ρ) (B.toList.map ρ),[],[]⟩
 | .makeSlice t x y=>match ρ x,ρ y with
  | .c (.int _ l),.c (.int _ c)=>match P.underlying t with
   |some (.slice e)=>match P.info? e with
    |some i=>match i.zero with
     |some z=>match jD (SC z)with
      |some zc=>if zc.length=i.size/\0<=l/\l<=c/\(i.bytes:Int)*c<=281474976710656/\c<=1099511627776/\lN h nx=true then
        some ⟨.own e i.size nx 0 l.toNat,[(nx,.cells e i.size (List.replicate l.toNat zc))],[nx]⟩else none
      |none=>none
     |none=>none
    |none=>none
   |_=>none
  |_,_=>none
 | .slice t x A j H=>match H with
  |some m=>match A,j with
   |none,some j=>match ρ j,ρ m with
    | .c (.int _ a),.c (.int _ b)=>match jX h (ρ x)with
     |some _=>if a=0/\b=0/\kG P t=true/\(P.info? (P.elem t)).isSome=true then some ⟨.emp,[],uC (ρ x)⟩else none
     |none=>none
    |_,_=>none
   |some A,some j=>match ρ x with
    | .own T f id i n=>match h id with
     | .cells o s bL=>match gU ρ 0 (some A),gU ρ n (some j),gU ρ n (some m)with
      |some l,some u,some v=>if o=T/\s=f/\bL≠[]/\l<=u/\u<=v/\v<=n/\l<v/\kG P t=true/\eO P (P.elem t)=some f then some ⟨.view T f id (i+l) (u-l),[],[id]⟩else
        if o=T/\s=f/\bL≠[]/\l=u/\u=v/\v<=n/\kG P t=true/\eO P (P.elem t)=some f then some ⟨.emp,[],[id]⟩else none
      |_,_,_=>none
     |_=>none
    | .lit f bL=>match gU ρ 0 (some A),gU ρ 0 (some j),gU ρ 0 (some m)with
     |some l,some u,some v=>if bL≠[]/\l<=u/\u<=v/\v<=bL.length/\kG P t=true/\eO P (P.elem t)=some f then some ⟨.lit f ((bL.drop l).take (u-l)),[],[]⟩else none
     |_,_,_=>none
    |_=>none
   |_,_=>none
  |none=>match ρ x with
   | .lit f bL=>match gU ρ 0 A,gU ρ bL.length j with
    |some l,some u=>if l<=u/\u<=bL.length/\kG P t=true/\eO P (P.elem t)=some f then some ⟨.lit f ((bL.drop l).take (u-l)),[],[]⟩else none
    |_,_=>none
   | .own T f id i n=>match h id with
    | .cells o s bL=>match gU ρ 0 A,gU ρ n j with
     |some l,some u=>if o=T/\s=f/\bL≠[]/\l<=u/\u<=n/\(l=0\/l<n)/\kG P t=true/\eO P (P.elem t)=some f then some ⟨.own T f id (i+l) (u-l),[],[id]⟩else none
     |_,_=>none
    |_=>none
   | .c (.string s)=>match P.underlying t with
    |some .string=>match gU ρ 0 A,gU ρ s.size j with
     |some l,some u=>if l<=u/\u<=s.size then some ⟨.c (.string (s.extract l u)),[],[]⟩else none
     |_,_=>none
    |_=>none
   |_=>none
 | .fieldAddr t x k=>match nM P t k with
  |some (_,C,n)=>if n≠0 then match ρ x with
    | .ptr f id i off=>match h id with
     | .cells _ s bL=>if s=f/\(bL[i]?).isSome=true then some ⟨.ptr f id i (off+C),[],[id]⟩else none
     |_=>none
    | .iZ f bL i off=>some ⟨.iZ f bL i (off+C),[],[]⟩
    |_=>none
   else none
  |none=>none
 | .field t x k=>match nM P t k with
  |some (E,C,_)=>match ρ x with
   | .agg cs=>match mJ P E cs C with
    |some v=>some ⟨v,[],[]⟩
    |none=>none
   |_=>none
  |none=>none
 | .indexAddr t x ix=>match ρ ix with
  | .c (.int _ n)=>match P.underlying t with
   |some (.slice e)=>match ρ x with
    | .lit f bL=>if eO P e=some f/\0<=n/\n.toNat<bL.length then some ⟨.iZ f bL n.toNat 0,[],[]⟩else none
    | .own T f id i n'=>match h id with
     | .cells o s bL=>if o=T/\s=f/\eO P e=some f/\0<=n/\n.toNat<n'/\(bL[i+n.toNat]?).isSome=true then some ⟨.ptr f id (i+n.toNat) 0,[],[id]⟩else none
     |_=>none
    | .view T f id i n'=>match h id with
     | .cells o s bL=>if o=T/\s=f/\eO P e=some f/\0<=n/\n.toNat<n'/\(bL[i+n.toNat]?).isSome=true then some ⟨.ptr f id (i+n.toNat) 0,[],[id]⟩else none
     |_=>none
    | .row N w=>match w[n.toNat]? with
     |some p=>if eO P e=some 1/\0<=n/\TW (rM (yZ n) N)=some true then some ⟨.iZ 1 [[CM p]] 0 0,[],[]⟩else none
     |none=>none
    |_=>none
   |some (.array len e)=>match eO P e with
    |some s=>if 0<=n/\n.toNat<len then match ρ x with
      | .ptr f id i off=>match h id with
       | .cells _ G bL=>if G=f/\(bL[i]?).isSome=true then some ⟨.ptr f id i (off+n.toNat*s),[],[id]⟩else none
       |_=>none
      | .iZ f bL i off=>some ⟨.iZ f bL i (off+n.toNat*s),[],[]⟩
      |_=>none
     else none
    |none=>none
   |_=>none
  |_=>none
 | .index t x ix=>match ρ ix with
  | .c (.int _ n)=>match P.underlying t with
   |some (.array len e)=>match eO P e with
    |some s=>match ρ x with
     | .agg cs=>if 0<=n/\n.toNat<len then match mJ P e cs (n.toNat*s)with
       |some v=>some ⟨v,[],[]⟩
       |none=>none
      else none
     |_=>none
    |none=>none
   |some .string=>match ρ x with
    | .c (.string s)=>match s[n.toNat]? with
     |some b=>if 0<=n then some ⟨.c (.int .u8 b.toNat),[],[]⟩else none
     |none=>none
    |_=>none
   |_=>none
  |_=>none
 | .extract x k=>match ρ x with
  | .bG vs=>match vs[k]? with
   |some v=>some ⟨v,[],[]⟩
   |none=>none
  |_=>none
 | .typeAssert ..=>none
 | .range ..=>none
 | .next ..=>none
 | .makeMap ..=>none
 | .insert ..=>none
 | .lookup ..=>none
 | .call { callee:=.builtin b,args,argTypes }=>match b with
  | .len=>match args.toList,argTypes.toList with
   |[x],[t]=>match P.underlying t with
    |some (.slice _)=>match jX h (ρ x)with
     |some bL=>some ⟨.c (.int .i64 bL.length),[],uC (ρ x)⟩
     |none=>match ρ x with
      | .row n _=>some ⟨CM n,[],[]⟩
      | .view _ _ _ _ n=>some ⟨.c (.int .i64 n),[],[]⟩
      |_=>none
    |some .string=>match ρ x with
     | .c (.string s)=>some ⟨.c (.int .i64 s.size),[],[]⟩
     |_=>none
    |_=>none
   |_,_=>none
  | .append=>match args.toList,argTypes.toList with
   |[x,y],[t,F]=>if F=t then vA P t (ρ x) (ρ y) h nx else none
   |_,_=>none
  | .max=>match args.toList with
   |[x,y]=>match ρ x,ρ y with
    | .c (.int k p),.c (.int _ q)=>some ⟨.c (.int k (if q > p then q else p)),[],[]⟩
    |u,v=>match toP u,toP v with
     |some p,some q=>match L5 p q with
      |some r=>some ⟨CM r,[],[]⟩
      |none=>none
     |_,_=>none
   |[x,y,z]=>match ρ x,ρ y,ρ z with
    | .c (.int k p),.c (.int _ q),.c (.int _ r)=>some ⟨.c (.int k (if r > (if q > p then q else p)then r else(if q > p then q else p))),[],[]⟩
    |_,_,_=>none
   |_=>none
  | .min=>match args.toList with
   |[x,y]=>match ρ x,ρ y with
    | .c (.int k p),.c (.int _ q)=>some ⟨.c (.int k (if q<p then q else p)),[],[]⟩
    |u,v=>match toP u,toP v with
     |some p,some q=>match L4 p q with
      |some r=>some ⟨CM r,[],[]⟩
      |none=>none
     |_,_=>none
   |_=>none
  | .clear=>none
  |_=>none
 |_=>none
section
variable {P:Program} {o:Oper} {f:List AV} {h:AH}
section
variable [Bk] [Ev]
def pN {t:TypeId} (h:kG P t=true):P.underlying t=some (.slice (P.elem t)):=by
 grind[kG,Program.elem]
def acq {l:Array α} {x:α} (h:l.toList=[x]):l=#[x]:=by grind
def Su {l:Array α} {x y:α} (h:l.toList=[x,y]):l=#[x,y]:=by grind
def apP {l:Array α} {x y z:α} (h:l.toList=[x,y,z]):l=#[x,y,z]:=by grind
def aoe {nx:Nat} {r:AR} (g:jI P o.op (eJ f) h nx=some r):eA P o f h r:=by
 obtain⟨dst,op,ty,aj,ah,guard⟩:=o;simp only at g;cases op with
 |move x=>simp only[jI,a0g]at g;subst g;exact Eo rfl
 |assign x=>simp only[jI,a0g]at g;subst g;exact pR rfl
 |pick c x y =>
  simp only[jI]at g;split at g
  .rename_i b A;cases g;exact aj9 rfl A
  simp_all
 |alloc e =>
  simp only[jI]at g;split at g
  .rename_i i G
   split at g
   .rename_i z O
    split at g
    .rename_i cs A
     split at g
     .rename_i W;cases g;exact ahE rfl G O A (lS W)
     simp_all
    simp_all
   simp_all
  simp_all
 |box e x =>
  simp only[jI]at g;split at g
  .rename_i cs A
   split at g
   .rename_i W;cases g;exact anA rfl A (lS W)
   simp_all
  simp_all
 |build t aa =>
  simp only[jI]at g;split at g
  .rename_i cs A;cases g;exact ahD rfl A
  simp_all
 |buildSlice t len aa =>
  simp only[jI]at g;split at g
  .rename_i e D
   split at g
   .rename_i i G
    split at g
    .rename_i z O
     split at g
     .rename_i zc Y
      split at g
      .rename_i Q
       split at g
       .rename_i cs X
        cases g;obtain⟨B,C,I,E,V⟩:=Q;exact Oe rfl D G O Y B C I E X (lS V)
       simp_all
      simp_all
     simp_all
    simp_all
   simp_all
  simp_all
 |load t x =>
  simp only[jI]at g;split at g
  .rename_i J id i off w
   split at g
   .rename_i T s bL H
    split at g
    .rename_i hs
     subst hs;split at g
     .rename_i e D
      split at g
      .rename_i v K
       cases g;exact TH rfl w H D K
      simp_all
     simp_all
    simp_all
   simp_all
  .rename_i J bL i off w
   split at g
   .rename_i e D
    split at g
    .rename_i v K
     cases g;exact RA rfl w D K
    simp_all
   simp_all
  simp_all
 |store t x y =>
  simp only[jI]at g;split at g
  .rename_i J id i off w
   split at g
   .rename_i T s bL H
    split at g
    .rename_i hs
     subst hs;split at g
     .rename_i e xs D L
      split at g
      .rename_i A
       cases g;exact ahA rfl w H D L A.1 A.2
      simp_all
     simp_all
    simp_all
   simp_all
  simp_all
 |nilCheck x =>
  simp only[jI]at g;split at g
  .rename_i J id i off w
   split at g
   .rename_i T s bL H
    split at g
    .rename_i hs
     cases g;obtain⟨e,D⟩:=a29.1 hs;exact Lg rfl w H D
    simp_all
   simp_all
  .rename_i J bL i off w;cases g;exact FK rfl w
  .rename_i k xs ys w;cases g;exact MO rfl w
  simp_all
 |range=>simp[jI]at g
 |next=>simp[jI]at g
 |makeMap=>simp[jI]at g
 |insert=>simp[jI]at g
 |lookup=>simp[jI]at g
 |binOp am t x y ab =>
  simp only[jI]at g;split at g
  .rename_i r' R;cases g;exact akd rfl R
  simp_all
 |unOp ai t x =>
  simp only[jI]at g;split at g
  .rename_i u w
   split at g
   .rename_i r' F;cases g;exact ao4 rfl w F
   simp_all
  .rename_i p w
   split at g
   .split at g
    .rename_i R;cases g;exact aeS rfl w R
    simp_all
   simp_all
  simp_all
 |convert s d x =>
  simp only[jI]at g;split at g
  .rename_i k n w
   split at g
   .rename_i ds k' B C;cases g;exact MU rfl w B C
   simp_all
  .rename_i b w
   split at g
   .rename_i ds B C;cases g;exact MS rfl w B C
   simp_all
  .rename_i p w
   split at g
   .rename_i ds B C
    split at g
    .rename_i R;cases g;exact MR rfl w B C R
    simp_all
   simp_all
  simp_all
 |makeInterface t x =>
  simp only[jI]at g;split at g
  .rename_i A;cases g;exact FL rfl A
  simp_all
 |makeFunc fn first ac=>simp only[jI,a0g]at g;subst g;exact TG rfl
 |makeSlice t x y =>
  simp only[jI]at g;split at g
  .rename_i k l k' c w L
   split at g
   .rename_i e D
    split at g
    .rename_i i G
     split at g
     .rename_i z O
      split at g
      .rename_i zc Y
       split at g
       .rename_i Q
        cases g;obtain⟨B,C,I,E,V,M⟩:=Q;exact Rz rfl D G O Y B w L C I E V (lS M)
       simp_all
      simp_all
     simp_all
    simp_all
   simp_all
  simp_all
 |slice t x lo G mx =>
  simp only[jI]at g;split at g
  .rename_i m
   split at g
   .rename_i af
    split at g
    .rename_i k a k' b B C
     split at g
     .rename_i bL D
      split at g
      .rename_i A
       obtain⟨rfl,rfl,I,E⟩:=A;cases g;exact Rx rfl (pN I) E D B C
      simp_all
     simp_all
    simp_all
   .rename_i ak af
    split at g
    .rename_i T J id i n w
     split at g
     .rename_i T' s bL H
      split at g
      .rename_i l u v q1 q2 q3
       split at g
       .rename_i A
        obtain⟨rfl,rfl,B,C,I,E,V,M,U⟩:=A;cases g;exact N9 rfl (pN M) U w H B q1 q2 q3 C I E V
       .split at g
        .rename_i A
         obtain⟨rfl,rfl,B,rfl,rfl,E,M,U⟩:=A;cases g;exact Ob rfl (pN M) U w H B q1 q2 q3 E
        simp_all
      simp_all
     simp_all
    .rename_i J bL w
     split at g
     .rename_i l u v q1 q2 q3
      split at g
      .rename_i A
       obtain⟨B,C,I,E,M,U⟩:=A;cases g;exact Oa rfl (pN M) U w q1 q2 q3 C I E B
      simp_all
     simp_all
    simp_all
   simp_all
  .split at g
   .rename_i J bL w
    split at g
    .rename_i l u B C
     split at g
     .rename_i A
      cases g;exact Ry rfl (pN A.2.2.1) A.2.2.2 w B C A.1 A.2.1
     simp_all
    simp_all
   .rename_i T J id i n w
    split at g
    .rename_i T' s bL H
     split at g
     .rename_i l u B C
      split at g
      .rename_i A
       obtain⟨rfl,rfl,I,E,V,M,U,h8⟩:=A;cases g;exact Rw rfl (pN U) h8 w H I B C E V M
      simp_all
     simp_all
    simp_all
   .rename_i s w
    split at g
    .rename_i F
     split at g
     .rename_i l u B C
      split at g
      .rename_i A
       cases g;exact Rv rfl F w B C A.1 A.2
      simp_all
     simp_all
    simp_all
   simp_all
 |fieldAddr t x k =>
  simp only[jI]at g;split at g
  .rename_i ab o' n X
   split at g
   .rename_i W
    split at g
    .rename_i J id i off w
     split at g
     .rename_i T s bL H
      split at g
      .rename_i A
       obtain⟨rfl,hs⟩:=A;obtain⟨e,D⟩:=a29.1 hs;cases g;exact FU rfl w H D X W
      simp_all
     simp_all
    .rename_i J bL i off w
     cases g;exact Eu rfl w X W
    simp_all
   simp_all
  simp_all
 |field t x k =>
  simp only[jI]at g;split at g
  .rename_i ab o' n X
   split at g
   .rename_i cs w
    split at g
    .rename_i v K
     cases g;exact ahC rfl w X K
    simp_all
   simp_all
  simp_all
 |indexAddr t x ix =>
  simp only[jI]at g;split at g
  .rename_i k n G
   split at g
   .rename_i e F
    split at g
    .rename_i J bL w
     split at g
     .rename_i A
      cases g;exact FP rfl w G F A.1 A.2.1 A.2.2
     simp_all
    .rename_i T J id i n' w
     split at g
     .rename_i T' s bL H
      split at g
      .rename_i A
       obtain⟨rfl,rfl,B,C,I,E⟩:=A;obtain⟨el,D⟩:=a29.1 E;cases g;exact FO rfl w H G F B C I D
      simp_all
     simp_all
    .rename_i T J id i n' w
     split at g
     .rename_i T' s bL H
      split at g
      .rename_i A
       obtain⟨rfl,rfl,B,C,I,E⟩:=A;obtain⟨el,D⟩:=a29.1 E;cases g;exact Ep rfl w H G F B C I D
      simp_all
     simp_all
    .rename_i N xs w
     split at g
     .rename_i p K
      split at g
      .rename_i A
       cases g;exact FN rfl w G F A.1 A.2.1 A.2.2 K
      simp_all
     simp_all
    simp_all
   .rename_i len e F
    split at g
    .rename_i s hs
     split at g
     .rename_i A
      split at g
      .rename_i J id i off w
       split at g
       .rename_i T s' bL H
        split at g
        .rename_i ag
         obtain⟨rfl,E⟩:=ag;obtain⟨el,D⟩:=a29.1 E;cases g;exact FQ rfl w H D G F hs A.1 A.2
        simp_all
       simp_all
      .rename_i J bL i off w
       cases g;exact Et rfl w G F hs A.1 A.2
      simp_all
     simp_all
    simp_all
   simp_all
  simp_all
 |index t x ix =>
  simp only[jI]at g;split at g
  .rename_i k n G
   split at g
   .rename_i len e F
    split at g
    .rename_i s hs
     split at g
     .rename_i cs w
      split at g
      .rename_i A
       split at g
       .rename_i v K
        cases g;exact RE rfl w G F hs A.1 A.2 K
       simp_all
      simp_all
     simp_all
    simp_all
   .rename_i F
    split at g
    .rename_i s w
     split at g
     .rename_i b R
      split at g
      .rename_i h0
       cases g;exact RD rfl w G F h0 R
      simp_all
     simp_all
    simp_all
   simp_all
  simp_all
 |extract x k =>
  simp only[jI]at g;split at g
  .rename_i vs w
   split at g
   .rename_i v hv
    cases g;exact abA rfl w hv
   simp_all
  simp_all
 |typeAssert=>simp[jI]at g
 |call c =>
  obtain⟨Z,args,ad⟩:=c;cases Z with
  |builtin b =>
   simp only[jI]at g;split at g
   .split at g
    .rename_i x t S ht
     rw[acq S,acq ht];split at g
     .rename_i e F
      split at g
      .rename_i bL D;cases g;exact anz rfl F D
      .split at g
       .rename_i n xs w;cases g;exact abz rfl F w
       .rename_i w;cases g;exact TI rfl F w
       simp_all
     .rename_i F
      split at g
      .rename_i s w;cases g;exact abx rfl F w
      simp_all
     simp_all
    simp_all
   .split at g
    .rename_i x y t t' S ht
     rw[Su S,Su ht];split at g
     .rename_i e
      subst e;unfold vA at g;split at g
      .rename_i e D
       split at g
       .rename_i i G
        split at g
        .rename_i z O
         split at g
         .rename_i bL k rd ys R L
          split at g
          .rename_i A
           obtain⟨B,C,I,E,V,M,U⟩:=A;cases g;refine O3 rfl D G O B C R L (fun q hq=>by simp_all) ?_ V M (lS U);intro T s id j n ae;rw[ae]at E;simpa[MM]using E
          simp_all
         simp_all
        simp_all
       simp_all
      simp_all
     simp_all
    simp_all
   .split at g
    .rename_i x y S
     rw[Su S];split at g
     .rename_i k p k' q w L;cases g;exact akc rfl w L
     .split at g
      .rename_i p q K hq
       split at g
       .rename_i r' hs;cases g;exact abv rfl K hq hs
       simp_all
      simp_all
    .rename_i x y z S
     rw[apP S];split at g
     .rename_i k p k' q al r' w L O;cases g;exact akb rfl w L O
     simp_all
    simp_all
   .split at g
    .rename_i x y S
     rw[Su S];split at g
     .rename_i k p k' q w L;cases g;exact aka rfl w L
     .split at g
      .rename_i p q K hq
       split at g
       .rename_i r' hs;cases g;exact abu rfl K hq hs
       simp_all
      simp_all
    simp_all
   .cases g
   simp_all
  |_=>simp_all[jI]
 |_=>simp[jI]at g
end
end
end Mc
namespace Mc
variable {ρ:Operand->AV} {nx:Nat} {x:AV}
section
variable {P:Program}
section
variable [Bk] [Ev]
def acg {a:Operand->AV} {d:Nat} {x:Option Operand} (h:∀y,x=some y->a y=ρ y):gU a d x=gU ρ d x:=by
 cases x<;>grind[gU]
def apA {op:Op} {a:Operand->AV} {h:AH} (g:∀x∈op.operands.toList,a x=ρ x):jI P op a h nx=jI P op ρ h nx:=by
 cases op with
 |build t f =>
  have:(f.toList.map fun p=>(p.1,a p.2))=f.toList.map fun p=>(p.1,ρ p.2):=a1c fun p H=>by
   grind[Op.operands]
  grind[jI]
 |buildSlice t len f =>
  have:(f.toList.map fun p=>(p.1,a p.2))=f.toList.map fun p=>(p.1,ρ p.2):=a1c fun p H=>by
   grind[Op.operands]
  simp only[jI,this]
 |makeFunc fn first B =>
  simp_all[Op.operands,jI]
 |slice t x A v C =>
  have D:=g x (by simp[Op.operands]);have e1:∀d,gU a d A=gU ρ d A:=fun d=>acg fun y j=>g y (by simp_all[Op.operands]);have e2:∀d,gU a d v=gU ρ d v:=fun d=>acg fun y j=>g y (by simp_all[Op.operands]);have R:∀y,v=some y->a y=ρ y:=fun y j=>g y (by simp_all[Op.operands]);have K:∀y,C=some y->a y=ρ y:=fun y j=>g y (by simp_all[Op.operands]);simp only[jI,D,e1,e2];cases C with
  |none=>rfl
  |some m =>
   cases A with
   |some l =>
    cases v with
    |none=>rfl
    |some k =>
     have G:=e1 0;have F:∀n,gU a n (some k)=gU ρ n (some k):=fun n=>e2 n
     have E:∀n,gU a n (some m)=gU ρ n (some m):=fun n=>acg fun y j=>K y j;simp only[G,F,E]
   |none =>
    grind
 |call c =>
  obtain⟨o,args,i⟩:=c;cases o with
  |builtin b =>
   have e:∀x∈args.toList,a x=ρ x:=fun x D=>g x (by simp_all[Op.operands,Call.operands]);cases b<;>simp only[jI]
   all_goals (rcases w:args.toList with _|⟨x,_|⟨y,_|⟨z,_|⟨u,r⟩⟩⟩⟩<;>rw[w]at e<;>simp only[a0c,a0b,or_false,forall_eq_or_imp,forall_eq,implies_true,false_implies]at e<;>(try simp only[e])<;>(rcases i.toList with _|⟨Q,_|⟨O,_|⟨N,q⟩⟩⟩<;>(try simp only[e])))
  |_=>simp[jI]
 |pick c x y =>
  simp_all[Op.operands,jI]
 |store t x y =>
  simp_all[Op.operands,jI]
 |binOp L t x y M =>
  simp_all[Op.operands,jI]
 |makeSlice t x y =>
  simp_all[Op.operands,jI]
 |range=>rfl
 |next=>rfl
 |insert=>rfl
 |lookup=>rfl
 |indexAddr t x y =>
  have J:=g x (by simp[Op.operands]);have I:=g y (by simp[Op.operands]);simp only[jI,J,I]
 |index t x y =>
  simp_all[Op.operands,jI]
 |move x=>simp_all[Op.operands,jI]
 |assign x=>simp_all[Op.operands,jI]
 |box e x=>simp_all[Op.operands,jI]
 |load t x=>simp_all[Op.operands,jI]
 |nilCheck x=>simp_all[Op.operands,jI]
 |unOp u t x=>simp_all[Op.operands,jI]
 |convert s d x=>simp_all[Op.operands,jI]
 |makeInterface t x=>simp_all[Op.operands,jI]
 |fieldAddr t x k=>grind[Op.operands,jI]
 |field t x k=>simp_all[Op.operands,jI]
 |extract x k=>simp_all[Op.operands,jI]
 |typeAssert=>rfl
 |_=>simp[jI]
def qW {h h':AH} (e:h' nx=h nx):lN h' nx=lN h nx:=by simp_all[lN]
def Ic {h h':AH} (e:∀id∈uC x,h' id=h id):jX h' x=jX h x:=by
 cases x<;>simp only[jX]
 simp_all[uC]
def ak9 {h h':AH} {e sz:Nat} (a:∀id∈uC x,h' id=h id):wO h' e sz x=wO h e sz x:=by
 cases x<;>simp only[wO]
 grind[uC]
def XW {h:AH} {e sz:Nat} {bL:List (List AV)} {k:List (Nat×dC)} {rd:List Nat} (a:wO h e sz x=some (bL,k,rd)):rd=uC x/\k.map (·.1)=uC x:=by
 unfold wO at a;split at a
 .simp only[a0g,a1t]at a
  obtain⟨rfl,rfl,rfl⟩:=a;exact⟨rfl,rfl⟩
 .split at a
  .split at a
   .simp only[a0g,a1t]at a
    obtain⟨rfl,rfl,rfl⟩:=a;exact⟨rfl,rfl⟩
   simp_all
  simp_all
 simp_all
def PB {t:TypeId} {y:AV} {h h':AH} {r:AR} (d:vA P t x y h nx=some r) (a:∀id∈r.wX,h' id=h id):vA P t x y h' nx=some r:=by
 have key:∀(e c:Nat) bL k rd f,wO h e c x=some (bL,k,rd)->(∀id∈nx::rd++uC y,h' id=h id)->jX h y=some f->wO h' e c x=wO h e c x/\jX h' y=jX h y/\lN h' nx=lN h nx:=by
  intro e c bL k rd f g a l;have j:=(XW g).1;subst j;exact⟨ak9 fun id b=>a id (by simp[b]),Ic fun id b=>a id (by simp[b]),qW (a nx (by simp))⟩
 unfold vA at d |-;split at d
 .rename_i e n
  split at d
  .rename_i i m
   split at d<;>grind
  omega
 omega
theorem apz {op:Op} {h h':AH} {r:AR} (a:jI P op ρ h nx=some r) (d:∀id∈r.wX,h' id=h id):jI P op ρ h' nx=some r:=by
 have one:∀{id:Nat},(∀i∈[id],h' i=h i)->h' id=h id:=fun k=>k _ (by simp);cases op with
 |alloc e =>
  simp only[jI]at a |-;repeat' split at a
  all_goals (first|cases a|skip)
  have f:=qW (one d)
  simp_all
 |box e x =>
  simp only[jI]at a |-;repeat' split at a
  all_goals (first|cases a|skip)
  have f:=qW (one d)
  simp_all
 |buildSlice t len n =>
  simp only[jI]at a |-;repeat' split at a
  all_goals (first|cases a|skip)
  have f:=qW (one d)
  simp_all
 |makeSlice t x y =>
  simp only[jI]at a |-;repeat' split at a
  all_goals (first|cases a|skip)
  have f:=qW (one d)
  simp_all
 |range=>simp[jI]at a
 |makeMap=>simp[jI]at a
 |next=>simp[jI]at a
 |insert=>simp[jI]at a
 |lookup=>simp[jI]at a
 |load t x =>
  simp only[jI]at a |-;repeat' split at a<;>grind
 |store t x y =>
  simp only[jI]at a |-;repeat' split at a<;>grind
 |nilCheck x =>
  simp only[jI]at a |-;grind
 |fieldAddr t x k =>
  simp only[jI]at a |-;repeat' split at a<;>grind
 |indexAddr t x ix =>
  simp only[jI]at a |-;repeat' split at a
  all_goals (first|cases a|skip)
  .simp_all
  .simp_all
  .simp_all
  .simp_all
  .simp_all
  simp_all
 |slice t x q u p =>
  simp only[jI]at a |-;split at a
  .repeat' split at a
   all_goals (first|cases a|skip)
   .have f:=Ic (x:=ρ x) d
    simp_all
   .simp_all
   .simp_all
   simp_all
  .repeat' split at a<;>grind
 |call c =>
  obtain⟨g,args,j⟩:=c;cases g with
  |builtin b =>
   cases b with
   |append =>
    simp only[jI]at a |-;split at a
    .split at a
     .rename_i x y t o m l e
      first|(rw[if_pos e];exact PB a d)|(rw[m,l];simp only;rw[if_pos e];exact PB a d)
     simp_all
    omega
   |len =>
    simp only[jI]at a |-;repeat' split at a
    all_goals (first|cases a|skip)
    .rename_i x t m l _ e s _ bL v
     have f:=Ic (x:=ρ x) d
     simp_all
    .grind[jX]
    .grind[jX]
    simp_all
   |max=>exact a
   |min=>exact a
   |clear=>simp[jI]at a
   |_=>simp[jI]at a
  |_=>simp_all[jI]
 |_=>exact a
def ale {op:Op} {h:AH} {r:AR} (a:jI P op ρ h nx=some r):∀id∈r.cJ.map (·.1),id∈r.wX:=by
 cases op with
 |call c =>
  obtain⟨d,args,e⟩:=c;cases d with
  |builtin b =>
   cases b with
   |append =>
    simp only[jI]at a;split at a
    .split at a
     .unfold vA at a
      repeat' split at a
      all_goals (first|cases a|skip)
      rename_i f _ _;obtain⟨i,g⟩:=XW f;grind
     simp_all
    simp_all
   |_ =>
    simp only[jI]at a;try (repeat' split at a)
    all_goals (first|cases a|skip)
    all_goals simp
  |_=>simp_all[jI]
 |_ =>
  simp only[jI]at a;try (repeat' split at a)
  all_goals (first|cases a|skip)
  all_goals simp
end
end
end Mc
end Go.Proofs.YtnepgggkgnckcaaGreat
