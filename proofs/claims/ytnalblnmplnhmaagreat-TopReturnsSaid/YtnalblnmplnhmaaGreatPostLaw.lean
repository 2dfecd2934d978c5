/-
 Vouchers that balance, of small amounts, on balances that are not great: they are posted. And stock.Post of them.
-/
import Derived.Test.YtnalblnmplnhmaaGreatPpost
set_option linter.unusedVariables false
set_option linter.unusedSimpArgs false
namespace Go.Proofs.YtnalblnmplnhmaaGreat
open Go.RowKit Mc
def vtot (l:List Lin) (a:Int):Int:=((l.filter fun x=>x.a==a).map (·.n)).sum
theorem vtot_cons (x:Lin) (l:List Lin) (a:Int):vtot (x::l) a=(if x.a=a then x.n else 0)+vtot l a:=by
 unfold vtot
 by_cases h:x.a=a
 ·simp[List.filter_cons,h]
 ·simp[List.filter_cons,h]
def adds (bal:List Int) (l:List Lin):List Int:=(List.range 17).map fun(a:Nat)=>bal.getD a 0+vtot l a
def plainL (l:List Lin):List Lin:=((List.range 17).map fun(a:Nat)=>(⟨(a:Int),vtot l a⟩:Lin)).filter (fun x=>!zeroN x)
structure Small (l:List Lin):Prop where
 ok:∀x∈l,0≤x.a∧x.a<17∧-1125899906842624≤x.n∧x.n≤1125899906842624
 len:l.length≤12
theorem vtot_bd:∀(l:List Lin),(∀x∈l,0≤x.a∧x.a<17∧-1125899906842624≤x.n∧x.n≤1125899906842624)→∀a,-(1125899906842624*(l.length:Int))≤vtot l a∧vtot l a≤1125899906842624*(l.length:Int)
 |[],_,a=>by simp[vtot]
 |x::l,h,a=>by
  have ih:=vtot_bd l (fun y hy=>h y (List.mem_cons_of_mem _ hy)) a
  have hx:=h x List.mem_cons_self
  rw[vtot_cons,List.length_cons]
  split<;>omega
theorem abs_bd:∀(l:List Lin),(∀x∈l,0≤x.a∧x.a<17∧-1125899906842624≤x.n∧x.n≤1125899906842624)→absum (amts l)≤1125899906842624*(l.length:Int)
 |[],_=>by simp[absum,amts]
 |x::l,h=>by
  have ih:=abs_bd l (fun y hy=>h y (List.mem_cons_of_mem _ hy))
  have hx:=h x List.mem_cons_self
  have:amts (x::l)=x.n::amts l:=rfl
  rw[this,absum_cons,List.length_cons]
  omega
theorem acc_abs:∀(l:List Lin) (a:Int),absum (accA l a)≤absum (amts l)
 |[],a=>by simp[accA,amts,absum]
 |x::l,a=>by
  have ih:=acc_abs l a
  have e:amts (x::l)=x.n::amts l:=rfl
  by_cases h:x.a=a
  ·have e2:accA (x::l) a=x.n::accA l a:=by simp[accA,amts,List.filter_cons,h]
   rw[e,e2,absum_cons,absum_cons];omega
  ·have e2:accA (x::l) a=accA l a:=by simp[accA,amts,List.filter_cons,h]
   rw[e,e2,absum_cons];omega
theorem plain_small {l:List Lin} (h:Small l):plainS l=(plainL l,0):=by
 have hb:l.any badP=false:=by
  rw[List.any_eq_false]
  intro x hx
  have:=h.ok x hx
  simp only[badP,Bool.or_eq_true,Bool.not_eq_true',not_or,Bool.not_eq_false]
  exact⟨isAcc_iff.2 ⟨this.1,this.2.1⟩,inB_iff.2 ⟨by omega,by omega⟩⟩
 have hs:∀a:Int,sumGo 0 (accA l a)=some (vtot l a):=by
  intro a
  have h1:=acc_abs l a
  have h2:=abs_bd l h.ok
  have h3:=h.len
  rw[sumGo_abs _ 0 (by omega),Int.zero_add]
  rfl
 unfold plainS plainL
 simp only[hb,Bool.false_eq_true,if_false]
 have:(List.range 17).any (fun(a:Nat)=>decide (sumE (accA l (a:Int))≠0))=false:=by
  rw[List.any_eq_false]
  intro a _
  simp[(sumV_some (hs a)).2]
 simp only[this,Bool.false_eq_true,if_false]
 have e:(fun(a:Nat)=>(⟨(a:Int),sumV (accA l (a:Int))⟩:Lin))=fun(a:Nat)=>⟨(a:Int),vtot l a⟩:=by
  funext a;rw[(sumV_some (hs a)).1]
 rw[e]
theorem cnt_le (f g:Nat→Bool) (c:Nat) (h:∀a,f a=true→g a=true∨a=c):∀k,((List.range k).filter f).length≤((List.range k).filter g).length+(if c<k then 1 else 0)
 |0=>by simp
 |k+1=>by
  have ih:=cnt_le f g c h k
  rw[List.range_succ,List.filter_append,List.filter_append,List.length_append,List.length_append]
  have e:((List.filter f [k]).length:Nat)≤(List.filter g [k]).length+(if k=c then 1 else 0):=by
   cases hf:f k with
   |false=>simp[List.filter_cons,hf]
   |true =>
    rcases h k hf with hg|rfl
    ·simp[List.filter_cons,hf,hg]
    ·simp[List.filter_cons,hf]
  by_cases hk:k=c
  ·subst hk
   simp at ih e ⊢
   omega
  ·simp only[hk,if_false]at e
   by_cases h2:c<k
   ·simp only[h2,if_true]at ih
    have:c<k+1:=by omega
    simp only[this,if_true];omega
   ·have:¬ c<k+1:=by omega
    simp only[h2,if_false]at ih
    simp only[this,if_false];omega
theorem cnt_vtot:∀(l:List Lin),((List.range 17).filter fun(a:Nat)=>decide (vtot l a≠0)).length≤l.length
 |[]=>by simp[vtot]
 |x::l=>by
  have ih:=cnt_vtot l
  have:=cnt_le (fun(a:Nat)=>decide (vtot (x::l) a≠0)) (fun(a:Nat)=>decide (vtot l a≠0)) x.a.toNat (by
   intro a ha
   by_cases h:x.a=a
   ·right;rw[h];simp
   ·left
    rw[vtot_cons,if_neg h]at ha
    simpa using ha) 17
  rw[List.length_cons]
  split at this<;>omega
theorem plainL_len {l:List Lin}:(plainL l).length≤l.length:=by
 have:=cnt_vtot l
 unfold plainL
 rw[List.filter_map,List.length_map]
 refine Nat.le_trans (Nat.le_of_eq ?_) this
 congr 2
 funext a
 simp[zeroN]
theorem sum_if (c n:Int):∀k:Nat,((List.range k).map fun(a:Nat)=>if c=(a:Int)then n else 0).sum=if 0≤c∧c<k then n else 0
 |0=>by simp;intro h h2;omega
 |k+1=>by
  rw[List.range_succ,List.map_append,List.sum_append,sum_if c n k]
  simp only[List.map_cons,List.map_nil,List.sum_cons,List.sum_nil,Int.add_zero]
  by_cases h1:c=(k:Int)
  ·rw[if_neg (by omega),if_pos h1,if_pos (by omega)];omega
  ·by_cases h2:0≤c∧c<k
   ·rw[if_pos h2,if_neg h1,if_pos (by omega)];omega
   ·rw[if_neg h2,if_neg h1,if_neg (by omega)];rfl
theorem sum_map_add (f g:Nat→Int):∀l:List Nat,(l.map fun a=>f a+g a).sum=(l.map f).sum+(l.map g).sum
 |[]=>rfl
 |a::l=>by simp only[List.map_cons,List.sum_cons,sum_map_add f g l];omega
theorem sum_vtot:∀(l:List Lin),(∀x∈l,0≤x.a∧x.a<17)→((List.range 17).map fun(a:Nat)=>vtot l a).sum=(amts l).sum
 |[],_=>by simp[vtot,amts];decide
 |x::l,h=>by
  have ih:=sum_vtot l (fun y hy=>h y (List.mem_cons_of_mem _ hy))
  have hx:=h x List.mem_cons_self
  have e:(fun(a:Nat)=>vtot (x::l) a)=fun(a:Nat)=>(if x.a=(a:Int)then x.n else 0)+vtot l a:=by funext a;rw[vtot_cons]
  rw[e,sum_map_add,ih,sum_if,if_pos (show 0≤x.a∧x.a<((17:Nat):Int)from hx)]
  rfl
theorem sum_nz:∀(l:List Lin),(amts (l.filter fun x=>!zeroN x)).sum=(amts l).sum
 |[]=>rfl
 |x::l=>by
  have ih:=sum_nz l
  have e:amts (x::l)=x.n::amts l:=rfl
  rw[e,List.sum_cons,←ih]
  cases hz:zeroN x with
  |true =>
   have:x.n=0:=by simpa[zeroN]using hz
   rw[List.filter_cons_of_neg (by simp[hz]),this,Int.zero_add]
  |false =>
   rw[List.filter_cons_of_pos (by simp[hz])]
   rfl
theorem plainL_mem {l:List Lin} (h:Small l):∀x∈plainL l,0≤x.a∧x.a<17∧x.n≠0∧x.n=vtot l x.a:=by
 intro x hx
 obtain⟨h1,h2⟩:=List.mem_filter.1 hx
 obtain⟨a,ha,rfl⟩:=List.mem_map.1 h1
 have:=List.mem_range.1 ha
 refine⟨by simp only;omega,by simp only;omega,?_,rfl⟩
 simpa[zeroN]using h2
theorem vtot_map (f:Nat→Int) (c:Nat):∀k:Nat,vtot ((List.range k).map fun(a:Nat)=>(⟨(a:Int),f a⟩:Lin)) c=if c<k then f c else 0
 |0=>by simp[vtot]
 |k+1=>by
  have ih:=vtot_map f c k
  rw[List.range_succ,List.map_append]
  unfold vtot at ih ⊢
  rw[List.filter_append,List.map_append,List.sum_append,ih]
  by_cases h:k=c
  ·subst h
   simp
  ·have h2:¬ ((k:Int)=(c:Int)):=by omega
   simp[List.filter_cons,h2]
   by_cases h3:c<k
   ·have:c<k+1:=by omega
    simp[h3,this]
   ·have:¬ c<k+1:=by omega
    simp[h3,this]
theorem vtot_nz (l:List Lin) (c:Int):vtot (l.filter fun x=>!zeroN x) c=vtot l c:=by
 induction l with
 |nil=>rfl
 |cons x l ih =>
  cases hz:zeroN x with
  |true =>
   have:x.n=0:=by simpa[zeroN]using hz
   rw[List.filter_cons_of_neg (by simp[hz]),ih,vtot_cons,this]
   simp
  |false=>rw[List.filter_cons_of_pos (by simp[hz]),vtot_cons,vtot_cons,ih]
theorem vtot_plain (l:List Lin) {a:Nat} (ha:a<17):vtot (plainL l) a=vtot l a:=by
 unfold plainL
 rw[vtot_nz,vtot_map,if_pos ha]
theorem plainL_twice {l:List Lin} (h:Small l):plainS (plainL l)=(plainL l,0):=by
 have hb:(plainL l).any badP=false:=by
  rw[List.any_eq_false]
  intro x hx
  have:=plainL_mem h x hx
  have h2:=vtot_bd l h.ok x.a
  have h3:=h.len
  simp only[badP,Bool.or_eq_true,Bool.not_eq_true',not_or,Bool.not_eq_false]
  exact⟨isAcc_iff.2 ⟨this.1,this.2.1⟩,inB_iff.2 ⟨by omega,by omega⟩⟩
 have hs:∀a:Nat,a<17→sumGo 0 (accA (plainL l) a)=some (vtot l a):=by
  intro a ha
  have h2:=vtot_bd l h.ok
  have h3:=h.len
  have h4:absum (amts (plainL l))≤17*(12*1125899906842624):=by
   have:∀m:List Lin,(∀x∈m,-(12*1125899906842624)≤x.n∧x.n≤12*1125899906842624)→absum (amts m)≤12*1125899906842624*(m.length:Int):=by
    intro m
    induction m with
    |nil=>intro _;simp[amts,absum]
    |cons x m ih =>
     intro hm
     have e:amts (x::m)=x.n::amts m:=rfl
     have:=ih fun y hy=>hm y (List.mem_cons_of_mem _ hy)
     have hx:=hm x List.mem_cons_self
     rw[e,absum_cons,List.length_cons];omega
   have h5:=this (plainL l) (fun x hx=>by have:=plainL_mem h x hx;have:=h2 x.a;omega)
   have h6:=plainL_len (l:=l)
   omega
  have h1:=acc_abs (plainL l) a
  rw[sumGo_abs _ 0 (by omega),Int.zero_add]
  exact congrArg some (vtot_plain l ha)
 have:(List.range 17).any (fun(a:Nat)=>decide (sumE (accA (plainL l) (a:Int))≠0))=false:=by
  rw[List.any_eq_false]
  intro a ha
  simp[(sumV_some (hs a (List.mem_range.1 ha))).2]
 have e:(List.range 17).map (fun(a:Nat)=>(⟨(a:Int),sumV (accA (plainL l) (a:Int))⟩:Lin))=(List.range 17).map fun(a:Nat)=>⟨(a:Int),vtot l a⟩ :=
  List.map_congr_left fun a ha=>by rw[(sumV_some (hs a (List.mem_range.1 ha))).1]
 generalize hm:plainL l=m at hb this e ⊢
 unfold plainS
 simp only[hb,Bool.false_eq_true,if_false,this,e]
 rw[←hm]
 rfl
theorem addAll_go (bal:List Int) (f:Nat→Int) (hb:bal.length=17) (hB:∀a:Nat,a<17→-144115188075855872≤bal.getD a 0∧bal.getD a 0≤144115188075855872) (hf:∀a,-(12*1125899906842624)≤f a∧f a≤12*1125899906842624) :
  ∀k,k≤17→addAll bal (((List.range k).map fun(a:Nat)=>(⟨(a:Int),f a⟩:Lin)).filter fun x=>!zeroN x)=some ((List.range 17).map fun(a:Nat)=>bal.getD a 0+if a<k then f a else 0)
 |0,_=>by
  simp only[List.range_zero,List.map_nil,List.filter_nil,addAll,Option.some.injEq]
  apply List.ext_getElem
  ·simp[hb]
  ·intro i h1 h2
   simp[List.getElem?_eq_getElem h1]
 |k+1,hk=>by
  have ih:=addAll_go bal f hb hB hf k (by omega)
  rw[List.range_succ,List.map_append,List.filter_append]
  have hset:(List.range 17).map (fun(a:Nat)=>bal.getD a 0+if a<k+1 then f a else 0)=((List.range 17).map fun(a:Nat)=>bal.getD a 0+if a<k then f a else 0).set k (bal.getD k 0+f k):=by
   apply List.ext_getElem
   ·simp
   ·intro i h1 h2
    rw[List.getElem_set]
    by_cases e:k=i
    ·subst e;simp
    ·simp only[e,if_false,List.getElem_map,List.getElem_range]
     have:(i<k+1)=(i<k):=by simp;omega
     simp only[this]
  have hget:((List.range 17).map fun(a:Nat)=>bal.getD a 0+if a<k then f a else 0).getD k 0=bal.getD k 0:=by
   rw[List.getD,List.getElem?_map,List.getElem?_range (by omega)]
   simp
  by_cases hz:f k=0
  ·have e:List.filter (fun x=>!zeroN x) (List.map (fun(a:Nat)=>(⟨(a:Int),f a⟩:Lin)) [k])=[]:=by simp[zeroN,hz]
   rw[e,List.append_nil,ih,hset]
   congr 1
   rw[hz,Int.add_zero]
   apply List.ext_getElem
   ·simp
   ·intro i h1 h2
    rw[List.getElem_set]
    by_cases e:k=i
    ·subst e;simp
    ·simp[e]
  ·have e:List.filter (fun x=>!zeroN x) (List.map (fun(a:Nat)=>(⟨(a:Int),f a⟩:Lin)) [k])=[⟨(k:Int),f k⟩]:=by simp[zeroN,hz]
   rw[e,addAll_snoc,ih]
   simp only[Option.bind_some,Int.toNat_natCast,hget]
   have h1:=hB k (by omega)
   have h2:=hf k
   rw[if_pos (addOk_iff.2 ⟨inB_iff.2 ⟨by omega,by omega⟩,inB_iff.2 ⟨by omega,by omega⟩,inB_iff.2 ⟨by omega,by omega⟩⟩),hset]
theorem post_small {bal:List Int} {l:List Lin} (hb:bal.length=17) (hB:∀a:Nat,a<17→-144115188075855872≤bal.getD a 0∧bal.getD a 0≤144115188075855872) (h:Small l) (hs:(amts l).sum=0):postS bal (plainL l)=(adds bal l,0):=by
 have h2:=vtot_bd l h.ok
 have h3:=h.len
 have hP:=plainL_twice h
 have hA:addAll bal (plainL l)=some (adds bal l):=by
  have:=addAll_go bal (fun a=>vtot l a) hb hB (fun a=>by have:=h2 a;omega) 17 (Nat.le_refl _)
  unfold plainL adds
  rw[this]
  congr 1
 have hc:(plainL l).length=0∨checkL (plainL l)=true:=by
  rcases Nat.eq_zero_or_pos (plainL l).length with h0|h0
  ·exact .inl h0
  ·right
   have h6:=plainL_len (l:=l)
   have hbad:(plainL l).any badC=false:=by
    rw[List.any_eq_false]
    intro x hx
    have:=plainL_mem h x hx
    have h2:=h2 x.a
    simp only[badC,Bool.or_eq_true,Bool.not_eq_true',not_or,Bool.not_eq_false,decide_eq_true_eq]
    exact⟨⟨isAcc_iff.2 ⟨this.1,this.2.1⟩,this.2.2.1⟩,inB_iff.2 ⟨by omega,by omega⟩⟩
   have h4:absum (amts (plainL l))≤17*(12*1125899906842624):=by
    have:∀m:List Lin,(∀x∈m,-(12*1125899906842624)≤x.n∧x.n≤12*1125899906842624)→absum (amts m)≤12*1125899906842624*(m.length:Int):=by
     intro m
     induction m with
     |nil=>intro _;simp[amts,absum]
     |cons x m ih =>
      intro hm
      have e:amts (x::m)=x.n::amts m:=rfl
      have:=ih fun y hy=>hm y (List.mem_cons_of_mem _ hy)
      have hx:=hm x List.mem_cons_self
      rw[e,absum_cons,List.length_cons];omega
    have h5:=this (plainL l) (fun x hx=>by have:=plainL_mem h x hx;have:=h2 x.a;omega)
    omega
   have hz:sumGo 0 (amts (plainL l))=some 0:=by
    rw[sumGo_abs _ 0 (by omega),Int.zero_add]
    congr 1
    unfold plainL
    rw[sum_nz]
    have e:amts ((List.range 17).map fun(a:Nat)=>(⟨(a:Int),vtot l a⟩:Lin))=(List.range 17).map fun(a:Nat)=>vtot l a:=by
     unfold amts;rw[List.map_map];rfl
    rw[e,sum_vtot l (fun x hx=>⟨(h.ok x hx).1,(h.ok x hx).2.1⟩),hs]
   unfold checkL
   rw[hbad,(sumV_some hz).1,(sumV_some hz).2]
   simp
   omega
 have hn:¬ ((0:Int)≠0∨(0<(plainL l).length∧checkL (plainL l)=false)):=by
  rintro(h|⟨h1,h2⟩)
  ·exact h rfl
  ·rcases hc with h3|h3
   ·omega
   ·rw[h3]at h2;cases h2
 have e1:postE bal (plainL l)=0:=by rw[postE,hP,if_neg hn,hA]
 rw[postS,if_pos e1,postN,hP,hA]
 rfl
end Go.Proofs.YtnalblnmplnhmaaGreat
