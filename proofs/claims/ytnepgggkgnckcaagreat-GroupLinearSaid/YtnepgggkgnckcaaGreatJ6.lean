/-
 Texts joined and made small by wip/small.sh.
-/
import Derived.Test.YtnepgggkgnckcaaGreatJ5
import Derived.Deep.AppendLies
import Derived.BigQuiet
set_option linter.unusedVariables false
set_option linter.unusedSimpArgs false
namespace Go.Proofs.YtnepgggkgnckcaaGreat
open Go.RowKit
section
def wC (rest:List Int) (x:Nat):Int:=-(rest.getD x 0)
def jM (v:Int):Bool:=decide (v<0)||decide (288230376151711744<v)
def zT (v:Int):Bool:=decide (v≠0)
def pS (t:Int) (ws:List Int):Bool:=jM t||ws.any jM||!(ws.any zT)
def hZ (t s:Int) (ws:List Int):List Int:=ws.map fun x=>t*x/s
def iF (t s:Int) (ws:List Int):List Int:=ws.map fun x=>t*x%s
def mT (l:List Int) (ps:List Nat):List Int:=ps.foldl (fun l i=>l.set i (l.getD i 0+1)) l
theorem aa5 (l:List Int) (ps:List Nat) (i:Nat):mT l (ps++[i])=(mT l ps).set i ((mT l ps).getD i 0+1):=by simp[mT,List.foldl_append]
theorem Gp (l:List Int) (ps:List Nat):(mT l ps).length=l.length:=by
 induction ps generalizing l with
 |nil=>rfl
 |cons i ps ih=>simp only[mT,List.foldl_cons]at ih ⊢;rw[ih];simp
theorem Rq {t s x:Int} (ht:0≤t) (hs:0<s) (hx:0≤x) (hxs:x≤s):0≤t*x/s∧t*x/s≤t∧0≤t*x%s∧t*x%s<s:=by
 refine⟨Int.ediv_nonneg (Int.mul_nonneg ht hx) (by omega),?_,Int.emod_nonneg _ (by omega),Int.emod_lt_of_pos _ hs⟩
 apply Int.ediv_le_of_le_mul hs
 exact Int.mul_le_mul_of_nonneg_left hxs ht
theorem TE {t s:Int} (ht:0≤t) (hs:0<s):∀(ws:List Int),(∀x,x∈ws→0≤x)→0≤(hZ t s ws).sum∧(hZ t s ws).sum*s≤t*ws.sum
 |[],_=>by simp[hZ]
 |x::ws,h=>by
  have ih:=TE ht hs ws fun y hy=>h y (by simp[hy])
  have hx:=h x (by simp)
  have h1:0≤t*x/s:=Int.ediv_nonneg (Int.mul_nonneg ht hx) (by omega)
  have h2:t*x/s*s≤t*x:=Int.ediv_mul_le _ (by omega)
  simp only[hZ,List.map_cons,List.sum_cons]at ih ⊢;rw[Int.add_mul,Int.mul_add];omega
theorem IW:∀(l:List Int) (x:Int),(∀y,y∈l→0≤y)→x∈l→x≤l.sum∧0≤l.sum
 |[],x,_,hx=>by simp at hx
 |y::l,x,h,hx=>by
  have hy:=h y (by simp)
  have h0:0≤l.sum:=by
   clear hx;induction l with
   |nil=>simp
   |cons z l ih =>
    rw[List.sum_cons];have:=ih fun u hu=>h u (by simp at hu ⊢;rcases hu with rfl|hu<;>simp[*])
    have:=h z (by simp)
    omega
  rw[List.sum_cons];rcases List.mem_cons.1 hx with rfl|hx
  ·omega
  ·have:=IW l x (fun u hu=>h u (by simp[hu])) hx
   omega
structure oJ (t:Int) (ws:List Int) (s:Int):Prop where
 t0:0≤t
 t1:t≤288230376151711744
 s0:1≤s
 s1:s≤288230376151711744
 all:∀x,x∈ws→0≤x∧x≤s
 sum:ws.sum=s
theorem oJ.of {t:Int} {ws:List Int} (h:pS t ws=false) (he:cY ws=0):oJ t ws (cU ws):=by
 simp only[pS,Bool.or_eq_false_iff,Bool.not_eq_false']at h;obtain⟨⟨h1,h2⟩,h3⟩:=h
 simp[jM]at h1
 have hall:∀x,x∈ws→0≤x:=fun x hx=>by
  have:=List.any_eq_false.1 h2 x hx
  simp[jM]at this
  omega
 obtain⟨s,hs⟩:∃s,bS 0 ws=some s:=by
  unfold cY at he;cases hg:bS 0 ws with
  |none=>rw[hg]at he;simp at he
  |some s=>exact⟨s,rfl⟩
 have hV:cU ws=s:=by simp[cU,hs]
 have hsum:=yK ws 0 s hs;have hin:=dW.1 (EV ws 0 s (by decide +kernel) hs)
 obtain⟨x,hx,hx0⟩:=List.any_eq_true.1 h3;simp[zT]at hx0
 have h4:=IW ws x hall hx;have h5:=hall x hx;rw[hV];exact⟨by omega,by omega,by omega,by omega,fun y hy=>⟨hall y hy,by have:=IW ws y hall hy;omega⟩,by omega⟩
theorem oJ.left {t s:Int} {ws:List Int} (h:oJ t ws s) (j:Nat):0≤(hZ t s (ws.take j)).sum∧(hZ t s (ws.take j)).sum≤t:=by
 have a:=TE h.t0 (show 0<s by have:=h.s0;omega) (ws.take j) fun x hx=>(h.all x (List.mem_of_mem_take hx)).1
 refine⟨a.1,?_⟩
 have hle:(ws.take j).sum≤s:=by
  have e:(ws.take j).sum+(ws.drop j).sum=s:=by rw[←List.sum_append,List.take_append_drop,h.sum]
  have:∀l:List Int,(∀y,y∈l→0≤y)→0≤l.sum:=by
   intro l;induction l with
   |nil=>simp
   |cons z l ih=>intro hl;rw[List.sum_cons];have:=ih fun u hu=>hl u (by simp[hu]);have:=hl z (by simp);omega
  have:=this (ws.drop j) fun y hy=>(h.all y (List.mem_of_mem_drop hy)).1
  omega
 have h2:t*(ws.take j).sum≤t*s:=Int.mul_le_mul_of_nonneg_left hle h.t0
 have h3:(hZ t s (ws.take j)).sum*s≤t*s:=by omega
 exact Int.le_of_mul_le_mul_right h3 (by have:=h.s0;omega)
theorem oJ.md {t s x:Int} {ws:List Int} (h:oJ t ws s) (hx:x∈ws):Ob t x s=t*x/s∧T0 t x s=t*x%s:=by
 have hb:=h.all x hx;have q:=Rq h.t0 (show 0<s by have:=h.s0;omega) hb.1 hb.2
 have:=h.t0;have:=h.t1;have:=h.s0
 simp only[Ob,T0];rw[if_neg (by omega),if_neg (by omega),if_neg (by omega),if_neg (by omega)]
 exact⟨rfl,rfl⟩
theorem aak (t s:Int) {ws:List Int} {j:Nat} (hj:j<ws.length):hZ t s (ws.take (j+1))=hZ t s (ws.take j)++[t*ws.getD j 0/s]:=by
 rw[Co hj];simp[hZ]
theorem aai (t s:Int) {ws:List Int} {j:Nat} (hj:j<ws.length):iF t s (ws.take (j+1))=iF t s (ws.take j)++[t*ws.getD j 0%s]:=by
 rw[Co hj];simp[iF]
theorem OD (l:List Int) (i j:Nat) (v:Int) (hi:i<l.length):(l.set i v).getD j 0=if i=j then v else l.getD j 0:=by
 rw[List.getD_eq_getElem?_getD,List.getD_eq_getElem?_getD,List.getElem?_set];by_cases h:i=j
 ·subst h;simp[hi]
 ·simp[h]
theorem Gq:∀(ps:List Nat) (l:List Int) (i:Nat),(∀p,p∈ps→p<l.length)→(mT l ps).getD i 0=l.getD i 0+(ps.count i:Int)
 |[],l,i,h=>by simp[mT]
 |p::ps,l,i,h=>by
  have hp:=h p (by simp)
  have ih:=Gq ps (l.set p (l.getD p 0+1)) i (fun q hq=>by rw[List.length_set];exact h q (by simp[hq]))
  have e:mT l (p::ps)=mT (l.set p (l.getD p 0+1)) ps:=rfl
  rw[e,ih,OD _ _ _ _ hp,List.count_cons];by_cases hpi:p=i
  ·subst hpi;simp;omega
  ·simp[hpi]
theorem aeT (l:List Int):∀(i:Nat) (v:Int),i<l.length→(l.set i v).sum=l.sum-l.getD i 0+v:=by
 induction l with
 |nil=>intro i v h;simp at h
 |cons x l ih =>
  intro i v h;cases i with
  |zero=>simp;omega
  |succ i =>
   have:=ih i v (by simpa using h)
   simp only[List.set_cons_succ,List.sum_cons,this];simp
   omega
theorem Pg:∀(ps:List Nat) (l:List Int),(∀p,p∈ps→p<l.length)→(mT l ps).sum=l.sum+(ps.length:Int)
 |[],l,h=>by simp[mT]
 |p::ps,l,h=>by
  have hp:=h p (by simp)
  have ih:=Pg ps (l.set p (l.getD p 0+1)) (fun q hq=>by rw[List.length_set];exact h q (by simp[hq]))
  have e:mT l (p::ps)=mT (l.set p (l.getD p 0+1)) ps:=rfl
  rw[e,ih,aeT _ _ _ hp,List.length_cons];omega
theorem TF (t s:Int):∀(ws:List Int),t*ws.sum=(hZ t s ws).sum*s+(iF t s ws).sum
 |[]=>by simp[hZ,iF]
 |x::ws=>by
  have ih:=TF t s ws;have h:=Int.mul_ediv_add_emod (t*x) s
  simp only[hZ,iF,List.map_cons,List.sum_cons]at ih ⊢;rw[Int.mul_add,Int.add_mul,ih];have e:s*(t*x/s)=t*x/s*s:=Int.mul_comm _ _
  omega
theorem vP {n:Nat} {key:Nat→Int} {m:List Nat} (h:jI key (List.range n) m):m.Nodup∧∀i,i∈m↔i<n:=by
 refine⟨?_,fun i=>(jI.mem h).trans List.mem_range⟩
 rw[List.nodup_iff_count];intro a;have hk:=h (key a)
 have c1:m.count a=(m.filter fun x=>key x==key a).count a:=by rw[List.count_filter];simp
 have c2:(List.range n).count a=((List.range n).filter fun x=>key x==key a).count a:=by rw[List.count_filter];simp
 rw[c1,hk,←c2];exact List.nodup_iff_count.1 List.nodup_range a
theorem BI {n:Nat} {key:Nat→Int} {m:List Nat} (hr:eJ key m) (hs:jI key (List.range n) m) {L i k:Nat} (hi:i∈m.take L) (hk:k<n) (h:key k<key i∨(key k=key i∧k<i)):k∈m.take L:=by
 have hm:m=m.take L++m.drop L:=(List.take_append_drop L m).symm
 have hkm:k∈m:=((vP hs).2 k).2 hk
 rw[hm]at hkm;rcases List.mem_append.1 hkm with h1|h1
 ·exact h1
 ·exfalso
  rw[hm]at hr;have hle:=(eJ.app.1 hr).2.2 i hi k h1
  have he:key k=key i∧k<i:=by
   rcases h with h|h
   ·omega
   ·exact h
  have hf:=hs (key i)
  rw[hm,List.filter_append]at hf;have hp:((List.range n).filter fun x=>key x==key i).Pairwise (·<·):=(List.pairwise_lt_range (n:=n)).filter _
  rw[←hf]at hp;have:=(List.pairwise_append.1 hp).2.2 i (List.mem_filter.2 ⟨hi,by simp⟩) k (List.mem_filter.2 ⟨h1,by simp[he.1]⟩)
  omega
def sW (t s:Int) (ws:List Int):Nat:=(min (t-(hZ t s ws).sum) ws.length).toNat
theorem ab4 (t s:Int) (hs:0<s):∀(ws:List Int),0≤(iF t s ws).sum∧(iF t s ws).sum≤(s-1)*ws.length
 |[]=>by simp[iF]
 |x::ws=>by
  have ih:=ab4 t s hs ws;have h1:=Int.emod_nonneg (t*x) (show s≠0 by omega)
  have h2:=Int.emod_lt_of_pos (t*x) hs
  simp only[iF,List.map_cons,List.sum_cons,List.length_cons]at ih ⊢;have e:(s-1)*((ws.length+1:Nat):Int)=(s-1)*(ws.length:Int)+(s-1):=by rw[Int.natCast_add,Int.mul_add];simp
  omega
theorem TX {t s:Int} {ws:List Int} (h:oJ t ws s):(sW t s ws:Int)=t-(hZ t s ws).sum∧sW t s ws≤ws.length∧(sW t s ws:Int)*s=(iF t s ws).sum:=by
 have hs:0<s:=by have:=h.s0;omega
 have a:=h.left ws.length;rw[List.take_length]at a;have b:=TF t s ws;rw[h.sum]at b;have c:=ab4 t s hs ws;have e:(t-(hZ t s ws).sum)*s=(iF t s ws).sum:=by rw[Int.sub_mul];omega
 have d:t-(hZ t s ws).sum≤ws.length:=by
  rcases Int.lt_or_le (ws.length:Int) (t-(hZ t s ws).sum)with h1|h1
  ·exfalso
   have h2:(ws.length:Int)*s≤(t-(hZ t s ws).sum)*s:=Int.mul_le_mul_of_nonneg_right (by omega) (by omega)
   have h3:((ws.length:Int)+1)*s≤(t-(hZ t s ws).sum)*s:=Int.mul_le_mul_of_nonneg_right (by omega) (by omega)
   have h4:(s-1)*(ws.length:Int)=(ws.length:Int)*s-(ws.length:Int):=by rw[Int.sub_mul,Int.mul_comm];omega
   rw[Int.add_mul]at h3;omega
  ·exact h1
 have f:(sW t s ws:Int)=t-(hZ t s ws).sum:=by unfold sW;omega
 exact⟨f,by omega,by rw[f];exact e⟩
theorem Nu {t s:Int} {ws:List Int} {i:Nat} (hi:i<ws.length):(hZ t s ws).getD i 0=t*ws.getD i 0/s:=by
 simp[hZ,List.getD_eq_getElem?_getD,hi]
theorem Np {t s:Int} {ws:List Int} {i:Nat} (hi:i<ws.length):(iF t s ws).getD i 0=t*ws.getD i 0%s:=by
 simp[iF,List.getD_eq_getElem?_getD,hi]
theorem xI (t s:Int) (ws:List Int):(hZ t s ws).length=ws.length:=by simp[hZ]
theorem Fj (t s:Int) (ws:List Int):(iF t s ws).length=ws.length:=by simp[iF]
theorem Ie:∀(l m:List Nat),l.Nodup→(∀x,x∈l→x∈m)→l.length≤m.length
 |[],m,_,_=>by simp
 |x::l,m,h,hm=>by
  have h':=List.nodup_cons.1 h;have hx:=hm x (by simp)
  have ih:=Ie l (m.erase x) h'.2 fun y hy=>(List.mem_erase_of_ne (by rintro rfl;exact h'.1 hy)).2 (hm y (by simp[hy]))
  rw[List.length_erase_of_mem hx]at ih;have:=List.length_pos_of_mem hx
  simp only[List.length_cons];omega
structure Fair (t s:Int) (ws A:List Int):Prop where
 len:A.length=ws.length
 sum:A.sum=t
 one:∀i,i<ws.length→A.getD i 0=t*ws.getD i 0/s∨A.getD i 0=t*ws.getD i 0/s+1
 none:∀i,i<ws.length→ws.getD i 0=0→A.getD i 0=0
 mono:∀i k,k<i→i<ws.length→ws.getD i 0≤ws.getD k 0→A.getD i 0≤A.getD k 0
theorem GZ (l:List Int) (s:Int) (hl:∀z,z∈l→0≤z∧z<s):l.sum≤(s-1)*((l.filter fun z=>decide (0<z)).length:Int):=by
 induction l with
 |nil=>simp
 |cons z l ih =>
  have ih:=ih fun y hy=>hl y (by simp[hy])
  have hz:=hl z (by simp)
  by_cases h:0<z
  ·rw[List.filter_cons_of_pos (by simpa using h),List.sum_cons,List.length_cons]
   have e:(s-1)*(((l.filter fun z=>decide (0<z)).length+1:Nat):Int)=(s-1)*((l.filter fun z=>decide (0<z)).length:Int)+(s-1):=by rw[Int.natCast_add,Int.mul_add];simp
   omega
  ·rw[List.filter_cons_of_neg (by simpa using h),List.sum_cons]
   omega
theorem C5 (l:List Int) (p:Int→Bool):((List.range l.length).filter fun i=>p (l.getD i 0)).length=(l.filter p).length:=by
 have:l=(List.range l.length).map fun i=>l.getD i 0:=by
  apply List.ext_getElem
  ·simp
  ·intro i h1 h2
   simp[List.getD_eq_getElem?_getD,h1]
 conv=>rhs;rw[this]
 rw[List.filter_map,List.length_map];rfl
theorem afG {t s:Int} {ws:List Int} {m:List Nat} (h:oJ t ws s) (hr:eJ (wC (iF t s ws)) m) (hs:jI (wC (iF t s ws)) (List.range ws.length) m) :
  Fair t s ws (mT (hZ t s ws) (m.take (sW t s ws))):=by
 have hs0:0<s:=by have:=h.s0;omega
 obtain⟨nd,mem⟩:=vP hs;obtain⟨L1,L2,L3⟩:=TX h;obtain⟨L,hL⟩:∃L,sW t s ws=L:=⟨_,rfl⟩
 rw[hL]at L1 L2 L3 ⊢;have AO:m.length=ws.length:=by
  have:=(List.perm_ext_iff_of_nodup nd List.nodup_range).2 fun i=>(mem i).trans List.mem_range.symm
  rw[this.length_eq,List.length_range]
 have hin:∀p,p∈m.take L→p<(hZ t s ws).length:=fun p hp=>by rw[xI];exact(mem p).1 (List.mem_of_mem_take hp)
 have hcnt:∀i,(m.take L).count i=if i∈m.take L then 1 else 0:=fun i=>by
  have h1:=List.nodup_iff_count.1 (nd.sublist (List.take_sublist L m)) i
  by_cases h2:i∈m.take L
  ·have:=List.count_pos_iff.2 h2
   rw[if_pos h2];omega
  ·rw[if_neg h2,List.count_eq_zero.2 h2]
 have hget:∀i,i<ws.length→(mT (hZ t s ws) (m.take L)).getD i 0=t*ws.getD i 0/s+if i∈m.take L then 1 else 0:=fun i hi=>by
  rw[Gq _ _ _ hin,Nu hi,hcnt];split<;>rfl
 have hwpos:∀i,i<ws.length→0≤ws.getD i 0:=fun i hi=>by
  have:ws.getD i 0∈ws:=by rw[List.getD_eq_getElem?_getD,List.getElem?_eq_getElem hi];exact List.getElem_mem hi
  exact(h.all _ this).1
 have hkey:∀i,i<ws.length→wC (iF t s ws) i=-(t*ws.getD i 0%s):=fun i hi=>by unfold wC;rw[Np hi]
 have hpos:∀i,i∈m.take L→0<t*ws.getD i 0%s:=by
  intro i hi;have hiw:i<ws.length:=(mem i).1 (List.mem_of_mem_take hi)
  rcases Int.lt_or_le 0 (t*ws.getD i 0%s)with h1|h1
  ·exact h1
  ·exfalso
   have h0:=Int.emod_nonneg (t*ws.getD i 0) (show s≠0 by omega)
   have hsub:∀k,k∈((List.range ws.length).filter fun k=>decide (0<(iF t s ws).getD k 0))→k∈(m.take L).erase i:=by
    intro k hk;obtain⟨hk1,hk2⟩:=List.mem_filter.1 hk;have hkw:=List.mem_range.1 hk1;simp only[decide_eq_true_eq]at hk2;rw[Np hkw]at hk2;have:k∈m.take L:=BI hr hs hi hkw (.inl (by rw[hkey k hkw,hkey i hiw];omega))
    exact(List.Nodup.mem_erase_iff (nd.sublist (List.take_sublist L m))).2 ⟨by rintro rfl;omega,this⟩
   have hlen:((List.range ws.length).filter fun k=>decide (0<(iF t s ws).getD k 0)).length≤((m.take L).erase i).length:=by
    have nd2:((List.range ws.length).filter fun k=>decide (0<(iF t s ws).getD k 0)).Nodup:=List.nodup_range.filter _
    exact Ie _ _ nd2 hsub
   have hl2:((m.take L).erase i).length+1=L:=by
    rw[List.length_erase_of_mem hi,List.length_take];have:=List.length_pos_of_mem hi
    rw[List.length_take]at this;omega
   have hc:=GZ (iF t s ws) s (fun z hz=>by
    obtain⟨x,hx,rfl⟩:=List.mem_map.1 hz;exact⟨Int.emod_nonneg _ (by omega),Int.emod_lt_of_pos _ hs0⟩)
   have e1:=C5 (iF t s ws) fun z=>decide (0<z)
   rw[Fj]at e1;rw[←e1]at hc;obtain⟨c,hcE⟩:∃c,((List.range ws.length).filter fun k=>decide (0<(iF t s ws).getD k 0)).length=c:=⟨_,rfl⟩
   rw[hcE]at hc hlen;have h5:(s-1)*(c:Int)≤(s-1)*((L:Int)-1):=Int.mul_le_mul_of_nonneg_left (by omega) (by omega)
   have h6:(s-1)*((L:Int)-1)=(L:Int)*s-s-L+1:=by rw[Int.sub_mul,Int.mul_sub,Int.mul_comm s];omega
   have hL1:1≤L:=by omega
   omega
 refine⟨by rw[Gp,xI],?_,fun i hi=>?_,fun i hi h0=>?_,fun i k hki hi hle=>?_⟩
 ·rw[Pg _ _ hin,List.length_take,AO]
  omega
 ·rw[hget i hi]
  split<;>omega
 ·rw[hget i hi,h0]
  have:i ∉ m.take L:=fun hm=>by have:=hpos i hm;rw[h0]at this;simp at this
  rw[if_neg this];simp
 ·have hk:k<ws.length:=by omega
  rw[hget i hi,hget k hk];have hq:t*ws.getD i 0/s≤t*ws.getD k 0/s:=Int.ediv_le_ediv hs0 (Int.mul_le_mul_of_nonneg_left hle h.t0)
  by_cases hiL:i∈m.take L
  ·rw[if_pos hiL]
   by_cases hqe:t*ws.getD i 0/s=t*ws.getD k 0/s
   ·have d1:=Int.mul_ediv_add_emod (t*ws.getD i 0) s
    have d2:=Int.mul_ediv_add_emod (t*ws.getD k 0) s
    have d3:t*ws.getD i 0≤t*ws.getD k 0:=Int.mul_le_mul_of_nonneg_left hle h.t0
    rw[hqe]at d1;have hkL:k∈m.take L:=BI hr hs hiL hk (by
     rw[hkey k hk,hkey i hi];rcases Int.lt_or_le (t*ws.getD i 0%s) (t*ws.getD k 0%s)with g|g
     ·exact .inl (by omega)
     ·exact .inr ⟨by omega,hki⟩)
    rw[if_pos hkL];omega
   ·split<;>omega
  ·rw[if_neg hiL]
   split<;>omega
def iN (l:List Int) (ps:List Nat):List Int:=ps.foldl (fun l i=>l.set i (-1)) l
theorem M6 (l:List Int) (ps:List Nat) (i:Nat):iN l (ps++[i])=(iN l ps).set i (-1):=by simp[iN,List.foldl_append]
theorem Ra (l:List Int) (ps:List Nat):(iN l ps).length=l.length:=by
 induction ps generalizing l with
 |nil=>rfl
 |cons i ps ih=>simp only[iN,List.foldl_cons]at ih ⊢;rw[ih];simp
theorem qJ:∀(ps:List Nat) (l:List Int) (i:Nat),i<l.length→(iN l ps).getD i 0=if i∈ps then -1 else l.getD i 0
 |[],l,i,h=>by simp[iN]
 |p::ps,l,i,h=>by
  have ih:=qJ ps (l.set p (-1)) i (by rw[List.length_set];exact h)
  have e:iN l (p::ps)=iN (l.set p (-1)) ps:=rfl
  rw[e,ih];by_cases hi:i∈ps
  ·simp[hi]
  ·rw[if_neg hi]
   by_cases hpi:p=i
   ·subst hpi
    rw[OD _ _ _ _ h];simp
   ·have:i ∉ p::ps:=by simp[hi];exact fun e=>hpi e.symm
    rw[if_neg this,List.getD_eq_getElem?_getD,List.getElem?_set_ne hpi,←List.getD_eq_getElem?_getD]
theorem af0 {rem:List Int} {m:List Nat} {i B:Nat} (hr:eJ (wC rem) m) (hs:jI (wC rem) (List.range rem.length) m) (hpos:∀z,z∈rem→0≤z) (hi:i<rem.length) (hB:B<rem.length)
  (h1:∀k,k<rem.length→(iN rem (m.take i)).getD k 0≤(iN rem (m.take i)).getD B 0) (h2:∀k,k<B→(iN rem (m.take i)).getD k 0<(iN rem (m.take i)).getD B 0):m[i]?=some B:=by
 obtain⟨nd,mem⟩:=vP hs;have AO:m.length=rem.length:=by
  have:=(List.perm_ext_iff_of_nodup nd List.nodup_range).2 fun i=>(mem i).trans List.mem_range.symm
  rw[this.length_eq,List.length_range]
 obtain⟨x,hx⟩:∃x,m[i]?=some x:=⟨m[i]'(by omega),List.getElem?_eq_getElem _⟩
 rw[hx];have hxm:x∈m:=List.mem_of_getElem? hx
 have hxn:x<rem.length:=(mem x).1 hxm
 have htk:m.take (i+1)=m.take i++[x]:=by rw[List.take_add_one,hx];rfl
 have hxt:x ∉ m.take i:=by
  intro h;have:=nd.sublist (List.take_sublist (i+1) m)
  rw[htk]at this;exact(List.nodup_append.1 this).2.2 x h x (by simp) rfl
 have posD:∀k,k<rem.length→0≤rem.getD k 0:=fun k hk=>hpos _ (by rw[List.getD_eq_getElem?_getD,List.getElem?_eq_getElem hk];exact List.getElem_mem hk)
 have e1:=h1 x hxn;rw[qJ _ _ _ hxn,if_neg hxt,qJ _ _ _ hB]at e1;have hBt:B ∉ m.take i:=fun h=>by rw[if_pos h]at e1;have:=posD x hxn;omega
 rw[if_neg hBt]at e1;have hd:B=x:=by
  have key:B∈m.take (i+1)→B=x:=fun h=>by
   rw[htk]at h;rcases List.mem_append.1 h with h|h
   ·exact absurd h hBt
   ·simpa using h
  have hxt1:x∈m.take (i+1):=by rw[htk];simp
  rcases Int.lt_or_le (rem.getD x 0) (rem.getD B 0)with g|g
  ·exact key (BI hr hs hxt1 hB (.inl (by unfold wC;omega)))
  ·rcases Nat.lt_trichotomy B x with g2|g2|g2
   ·exact key (BI hr hs hxt1 hB (.inr ⟨by unfold wC;omega,g2⟩))
   ·exact g2
   ·have:=h2 x g2
    rw[qJ _ _ _ hxn,if_neg hxt,qJ _ _ _ hB,if_neg hBt]at this;omega
 rw[hd]
def BD (key:Nat→Int) (x:Nat):List Nat→List Nat
 |[]=>[x]
 |y::l=>if key x<key y then x::y::l else y::BD key x l
def LL (key:Nat→Int) (l:List Nat):List Nat:=l.foldl (fun a x=>BD key x a) []
theorem Ox {key:Nat→Int} {x z:Nat}:∀{l:List Nat},z∈BD key x l↔z=x∨z∈l
 |[]=>by simp[BD]
 |y::l=>by
  unfold BD;split
  ·simp
  ·rw[List.mem_cons,Ox,List.mem_cons]
   constructor
   ·rintro(h|h|h)
    ·exact .inr (.inl h)
    ·exact .inl h
    ·exact .inr (.inr h)
   ·rintro(h|h|h)
    ·exact .inr (.inl h)
    ·exact .inl h
    ·exact .inr (.inr h)
theorem FY {key:Nat→Int} {x:Nat}:∀{l:List Nat},eJ key l→eJ key (BD key x l)
 |[],_=>by simp[BD,eJ]
 |y::l,h=>by
  unfold BD;have h1:=List.pairwise_cons.1 h;split
  ·refine List.pairwise_cons.2 ⟨fun z hz=>?_,h⟩
   rcases List.mem_cons.1 hz with rfl|hz
   ·omega
   ·have:=h1.1 z hz;omega
  ·refine List.pairwise_cons.2 ⟨fun z hz=>?_,FY h1.2⟩
   rcases Ox.1 hz with rfl|hz
   ·omega
   ·exact h1.1 z hz
theorem DA {key:Nat→Int} {x:Nat} (k:Int):∀{l:List Nat},eJ key l→(BD key x l).filter (fun z=>key z==k)=l.filter (fun z=>key z==k)++[x].filter (fun z=>key z==k)
 |[],_=>by simp[BD]
 |y::l,h=>by
  unfold BD;have h1:=List.pairwise_cons.1 h;split
  ·rename_i hlt
   by_cases hk:key x=k
   ·have e:(y::l).filter (fun z=>key z==k)=[]:=by
     rw[List.filter_eq_nil_iff];intro z hz;have:key y≤key z:=by
      rcases List.mem_cons.1 hz with rfl|hz
      ·omega
      ·exact h1.1 z hz
     simp;omega
    rw[List.filter_cons,e];simp[hk]
   ·rw[List.filter_cons];simp[hk]
  ·have ih:=DA (x:=x) k h1.2
   rw[List.filter_cons,ih,show(y::l).filter (fun z=>key z==k)=if(key y==k)=true then y::l.filter (fun z=>key z==k)else l.filter (fun z=>key z==k)from List.filter_cons ..]
   split<;>simp
theorem LK {key:Nat→Int} (l:List Nat):eJ key (LL key l)∧jI key l (LL key l):=by
 have go:∀(l a b:List Nat),eJ key b→jI key a b→eJ key (l.foldl (fun a x=>BD key x a) b)∧jI key (a++l) (l.foldl (fun a x=>BD key x a) b):=by
  intro l;induction l with
  |nil=>intro a b h1 h2;simpa using⟨h1,h2⟩
  |cons x l ih =>
   intro a b h1 h2;have:=ih (a++[x]) (BD key x b) (FY h1) (fun k=>by rw[DA k h1,h2 k,List.filter_append])
   simpa using this
 unfold LL;simpa using go l [] [] (by simp[eJ]) (fun k=>rfl)
def fD (t:Int) (ws:List Int):List Int×Int :=
 if pS t ws then([],1)else if cY ws≠0 then([],2)else(mT (hZ t (cU ws) ws) ((LL (wC (iF t (cU ws) ws)) (List.range ws.length)).take (sW t (cU ws) ws)),0)
theorem dJ.agN {w w':World} {B:Nat} {e:TypeId} {k:Nat} {v:Value} {n:Nat} {zs:List Int} {r:Option Nat} (h:dJ w B e k v n zs) (g:w.grownBy w' r) (hne:v.ownBlock=none∨v.ownBlock≠r):dJ w' B e k v n zs:=World.ownsRow.kept h g hne
theorem dJ.lt2 {w:World} {B:Nat} {e:TypeId} {k:Nat} {v:Value} {n:Nat} {zs:List Int} (h:dJ w B e k v n zs):∀b,v.ownBlock=some b→b<w.heap.size∧B≤b:=fun b hb=>by
 have:=World.ownsRow.lt h b hb
 exact⟨by omega,by omega⟩
theorem DM {B:Nat} {w w':World} {r:Option Nat} (g:w.grownBy w' r) (hB:B≤w.heap.size) (hr:∀k,r=some k→B≤k):Below B w w':=(Below.refl B w).grown g hB hr
theorem AQ {P:Program} (w:World) {ops:Array Oper} {rest:List Oper} {o:Oper} {a:Act} {Q:Exit→Act→World→Prop} (hgd:o.guard=none) (s x:Operand) (t:TypeId)
  (ho:o.op=.call { callee:=.builtin .append,args:=#[s,x],argTypes:=#[t,t] })
  (base:Nat) (e:TypeId) (size:Nat) (E:Tf P t e size)
  (v:Value) (n:Nat) (zs:List Int) (hs:a.eval s=v) (hown:dJ w base e size v n zs)
  (b off c:Nat) (ns:List Int) (hx:a.eval x=.slice (some ⟨b,off,none⟩) 1 c) (hl:ns.length=size) (hc:bD w b off ns)
  (hn:(n+1)*(size*8)≤140737488355328) (hbase:base≤w.heap.size)
  (h:∀g cap w',dJ w' base e size (.slice (some ⟨g,0,none⟩) (n+1) cap) (n+1) (zs++ns)→w.grownBy w' v.ownBlock→(v.ownBlock=some g∨g=w.heap.size)→g<w'.heap.size→wpList P ops Q rest (a.put o.dst (.slice (some ⟨g,0,none⟩) (n+1) cap)) w'):wpList P ops Q (o::rest) a w:=by
 obtain⟨ht,⟨i,z,hi,hz,hsize,hby,hzs⟩,hp⟩:=E
 have h8:n+1≤(n+1)*(size*8):=Nat.le_mul_of_pos_right _ (by omega)
 refine wpList_append_lies w hgd s x t ho base e i z size (size*8) ht hi hz hsize hby hzs hp v n (ints zs) hs hown ⟨b,off,none⟩ 1 c (ints ns) hx (by rw[sY];omega) ?_ ?_ (by omega) (by unfold maxLen;omega) hn hbase w.heap.size rfl ?_
 ·intro j u hj
  rw[uU]at hj;have hlt:j<ns.length:=by
   rcases Nat.lt_or_ge j ns.length with h|h
   ·exact h
   ·rw[List.getElem?_eq_none h]at hj;cases hj
  have:=hc j hlt
  rw[List.getElem?_eq_getElem hlt]at hj;rw[List.getD_eq_getElem?_getD,List.getElem?_eq_getElem hlt]at this;simp only[Option.map_some,Option.some.injEq]at hj;subst hj;by_cases h0:j=0
  ·subst h0;simpa[Addr.add]using this
  ·simpa[Addr.add,h0]using this
 ·intro u hu
  simp only[ints,List.mem_map]at hu;obtain⟨y,-,rfl⟩:=hu;rfl
 ·intro g cap w' hown' hg hl hlt
  exact h g cap w' (by rw[dJ,sZ];exact hown') hg hl hlt
def ago (w:World) (t:Int) (ws:List Int) (m:List Nat) (e:Ending) (w':World):Prop :=
 (if pS t ws then e=.returned (.tuple #[.slice none 0 0,.int .i64 1])
  else if cY ws≠0 then e=.returned (.tuple #[.slice none 0 0,.int .i64 2])
  else ∃g cap,e=.returned (.tuple #[.slice (some ⟨g,0,none⟩) ws.length cap,.int .i64 0])∧ws.length≤cap∧cap≤maxLen∧g<w'.heap.size∧w.heap.size≤g ∧
   bD w' g 0 (mT (hZ t (cU ws) ws) (m.take (sW t (cU ws) ws)))∧∀i,w'.frozen? ⟨g,i,none⟩=false)∧Below w.heap.size w w'
structure Two (w:World) (gl gr B:Nat) (A R:List Int) (w0:World):Prop where
 l:bD w gl 0 A
 r:bD w gr 0 R
 fl:∀i,w.frozen? ⟨gl,i,none⟩=false
 fr:∀i,w.frozen? ⟨gr,i,none⟩=false
 ll:gl<w.heap.size
 rl:gr<w.heap.size
 bl:B≤gl
 br:B≤gr
 ne:gl≠gr
 bel:Below B w0 w
theorem Two.below {w w' w0:World} {gl gr B:Nat} {A R:List Int} (h:Two w gl gr B A R w0) (g:Below w.heap.size w w'):Two w' gl gr B A R w0 :=
 ⟨h.l.below h.ll g,h.r.below h.rl g,fun i=>(g.frozen (p:=⟨gl,i,none⟩) h.ll).trans (h.fl i),fun i=>(g.frozen (p:=⟨gr,i,none⟩) h.rl).trans (h.fr i),Nat.lt_of_lt_of_le h.ll g.size,Nat.lt_of_lt_of_le h.rl g.size,h.bl,h.br,h.ne,h.bel.trans (g.mono (Nat.le_of_lt (Nat.lt_of_le_of_lt h.bl h.ll)))⟩
theorem Two.set {w w0:World} {gl gr B:Nat} {A R:List Int} (h:Two w gl gr B A R w0) {b:Nat} (hb:b<A.length) (hr:b<R.length) (x y:Int) :
  Two ((w.setCell ⟨gl,b,none⟩ (.int .i64 x)).setCell ⟨gr,b,none⟩ (.int .i64 y)) gl gr B (A.set b x) (R.set b y) w0:=by
 have hB:=h.bl;have hB2:=h.br
 refine⟨?_,?_,fun i=>by rw[World.frozen?_setCell,World.frozen?_setCell];exact h.fl i,fun i=>by rw[World.frozen?_setCell,World.frozen?_setCell];exact h.fr i,by simpa[World.setCell]using h.ll,by simpa[World.setCell]using h.rl,h.bl,h.br,h.ne,(h.bel.setCell (p:=⟨gl,b,none⟩) (by simp only;omega) _).setCell (p:=⟨gr,b,none⟩) (by simp only;omega) _⟩
 ·have:=bD.put h.l hb x
  rw[Nat.zero_add]at this;exact fun i hi=>(World.cell?_of_block (w:=w.setCell ⟨gl,b,none⟩ (.int .i64 x)) (Below.heap_setCell _ _ _ _ h.ne)).trans (this i hi)
 ·have h1:bD (w.setCell ⟨gl,b,none⟩ (.int .i64 x)) gr 0 R:=fun i hi=>(World.cell?_of_block (w:=w) (Below.heap_setCell _ _ _ _ (Ne.symm h.ne))).trans (h.r i hi)
  have:=bD.put h1 hr y
  rw[Nat.zero_add]at this;exact this
theorem Pp {ws:List Int} {j:Nat} {x:Int} (p:Int→Bool) (hx:ws[j]?=some x):(ws.take (j+1)).any p=((ws.take j).any p||p x):=by
 rw[List.take_add_one,hx];simp
theorem S9 {ws:List Int} {j:Nat} {x:Int} {p:Int→Bool} (hx:ws[j]?=some x) (h:p x=true):ws.any p=true:=List.any_eq_true.2 ⟨x,List.mem_of_getElem? hx,h⟩
set_option maxRecDepth 20000 in
set_option maxHeartbeats 4000000 in
theorem HK (a:Option Addr) (cap:Nat) (ws:List Int) (m:List Nat) (t:Int) (w:World) (h:Row w 1 a ws.length cap ws) (hn6:ws.length≤1000000) (htI:iM t)
  (hm:pS t ws=false→cY ws=0→eJ (wC (iF t (cU ws) ws)) m∧jI (wC (iF t (cU ws) ws)) (List.range ws.length) m) :
  Calls Tryz.prog 90 #[.int .i64 t,.slice a ws.length cap] w (ago w t ws m):=by
 have hbad:∀e w',pS t ws=true→e=Ending.returned (.tuple #[.slice none 0 0,.int .i64 1])→Below w.heap.size w w'→ago w t ws m e w':=fun e w' h1 h2 h3=>⟨by rw[if_pos h1];exact h2,h3⟩
 have hbig:∀e w',pS t ws=false→cY ws≠0→e=Ending.returned (.tuple #[.slice none 0 0,.int .i64 2])→Below w.heap.size w w'→ago w t ws m e w':=fun e w' h1 h2 h3 h4=>⟨by rw[h1,if_neg (by simp),if_pos h2];exact h3,h4⟩
 have hfine:∀g cap' e w',pS t ws=false→cY ws=0→e=Ending.returned (.tuple #[.slice (some ⟨g,0,none⟩) ws.length cap',.int .i64 0])→ws.length≤cap'→cap'≤maxLen→g<w'.heap.size→w.heap.size≤g→bD w' g 0 (mT (hZ t (cU ws) ws) (m.take (sW t (cU ws) ws)))→(∀i,w'.frozen? ⟨g,i,none⟩=false)→Below w.heap.size w w'→ago w t ws m e w' :=
  fun g cap' e w' h1 h2 h3 h4 h5 h6 h9 h7 hz h8=>⟨by rw[h1,if_neg (by simp),if_neg (by simp[h2])];exact⟨g,cap',h3,h4,h5,h6,h9,h7,hz⟩,h8⟩
 obtain⟨n,hN⟩:∃n,ws.length=n:=⟨_,rfl⟩
 rw[hN]at h hn6 hm hfine ⊢;have hNh:=Lib.hid hN;have hr0:=h;obtain⟨hl,hcap,hmax,hall,hat⟩:=h;unfold maxLen at hmax;have hcells:∀j x,ws[j]?=some x→∃b off,a=some ⟨b,off,none⟩∧w.cell? ⟨b,off+j,none⟩=some (.int .i64 x)∧b<w.heap.size:=by
  intro j x hx;have hj:j<ws.length:=by
   rcases Nat.lt_or_ge j ws.length with g|g
   ·exact g
   ·rw[List.getElem?_eq_none g]at hx;cases hx
  rcases hat with h0|⟨b,off,e,hb,hc⟩
  ·omega
  ·exact⟨b,off,e,by rw[hc j hj,List.getD_eq_getElem?_getD,hx];rfl,hb⟩
 have hch:=Lib.hid hcells;have hrh:=Lib.hid hr0;have hmh:=Lib.hid hm;have hbadh:=Lib.hid hbad;have hbigh:=Lib.hid hbig;have hfineh:=Lib.hid hfine;have hallh:=Lib.hid hall;clear hN hat hcells hr0 hm hbad hbig hfine hall hl;go_enter Tryz.func90,Tryz.ntmps90
 go_wp2_with fail
 go_loop [6,7] (fun s i=>∃j:Nat,j≤n∧i=.int .i64 j∧s=.bool ((ws.take j).any zT)∧Hid ((ws.take j).any jM=false)) (fun _ i=>n-(intOf i).toNat)
 case atStart=>exact⟨0,by omega,rfl,rfl,rfl⟩
 case round =>
  obtain⟨j,hj,rfl,rfl,hnw⟩:=hrel;by_cases hlt:j<n
  ·have hltI:(j:Int)<(n:Int):=by omega
   have hj0:(0:Int)≤(j:Int):=by omega
   obtain⟨x,hx⟩:∃x,ws[j]?=some x:=⟨ws[j]'(by rw[hNh.out];exact hlt),List.getElem?_eq_getElem _⟩
   obtain⟨b,off,rfl,c0,hbl⟩:=hch.out j x hx;have hb1:jM x=true→pS t ws=true:=fun h1=>by simp[pS,S9 hx h1]
   have s1:=Pp zT hx;have s2:=Pp jM hx;rw[hnw.out]at s2;have hxh:=Lib.hid hx;clear hx;by_cases hx0:x<0
   ·have hb2:=Lib.hid (hb1 (by simp[jM,hx0]))
    clear hb1 s1 s2;go_wp2_with fail
    go_ret2
    exact hbadh.out _ _ hb2.out rfl (Below.refl _ _)
   ·by_cases hx1:288230376151711744<x
    ·have hb2:=Lib.hid (hb1 (by simp[jM,hx1]))
     clear hb1 s1 s2;go_wp2_with fail
     go_ret2
     exact hbadh.out _ _ hb2.out rfl (Below.refl _ _)
    ·have hw:jM x=false:=by simp[jM];omega
     rw[hw]at s2;have s2h:=Lib.hid s2;clear hb1 s2 hw;cases hsm:(ws.take j).any zT with
     |true =>
      rw[hsm]at s1;have s1h:=Lib.hid s1;clear hsm s1;go_wp2_with fail
      go_round
      case rel=>exact⟨j+1,by omega,by go_num,by rw[s1h.out];rfl,s2h⟩
      case measure=>simp[intOf];omega
     |false =>
      rw[hsm]at s1;have hsx:zT x=decide (0<x):=by unfold zT;rw[Bool.eq_iff_iff];simp;omega
      rw[hsx]at s1;have s1h:=Lib.hid s1;clear hsm s1 hsx;go_wp2_with fail
      go_round
      case rel=>exact⟨j+1,by omega,by go_num,by rw[s1h.out];simp,s2h⟩
      case measure=>simp[intOf];omega
  ·have ej:j=n:=by omega
   subst ej;have hge:¬ (j:Int)<(j:Int):=by omega
   have htk:ws.take j=ws:=List.take_of_length_le (by rw[hNh.out];omega)
   rw[htk]at hnw ⊢;clear htk;by_cases ht:jM t=true
   ·have hb:=Lib.hid (show pS t ws=true by simp[pS,ht])
    by_cases ht0:t<0
    ·go_wp2_with fail
     go_ret2
     exact hbadh.out _ _ hb.out rfl (Below.refl _ _)
    ·have ht1:288230376151711744<t:=by simp[jM]at ht;omega
     go_wp2_with fail
     go_ret2
     exact hbadh.out _ _ hb.out rfl (Below.refl _ _)
   ·have ht':jM t=false:=by simpa using ht
    have ht0:¬ t<0:=fun h=>ht (by simp[jM,h])
    have ht1:¬ 288230376151711744<t:=fun h=>ht (by simp[jM,h])
    cases hsm:ws.any zT with
    |false =>
     have hb:=Lib.hid (show pS t ws=true by simp[pS,hsm])
     clear hsm ht ht';go_wp2_with fail
     go_ret2
     exact hbadh.out _ _ hb.out rfl (Below.refl _ _)
    |true =>
     have hb:=Lib.hid (show pS t ws=false by simp[pS,hsm,ht',hnw.out])
     clear hsm ht ht' hnw;go_wp2_with fail
     refine(Lf _ _ _ _ _ hrh.out).mono ?_
     rintro e w1 ⟨rfl,rfl⟩
     by_cases hse:cY ws=0
     ·have hO:=oJ.of hb.out hse
      obtain⟨hr,hs⟩:=hmh.out hb.out hse;have hfine:=fun g cap' e w'=>hfineh.out g cap' e w' hb.out hse
      rw[hse];obtain⟨s,hsV⟩:∃s,cU ws=s:=⟨_,rfl⟩
      rw[hsV]at hO hr hs hfine ⊢;have hfineh2:=Lib.hid hfine;have hOh:=Lib.hid hO;have hrh2:=Lib.hid hr;have hsh2:=Lib.hid hs;have hj1:1≤j:=by
       rcases Nat.eq_zero_or_pos j with h0|h0
       ·exfalso
        subst h0;have:ws=[]:=List.eq_nil_of_length_eq_zero hNh.out
        have h1:=hO.sum;have h2:=hO.s0;rw[this]at h1;simp at h1
        omega
       ·exact h0
      have hs0:1≤s:=hO.s0
      have hs1:s≤288230376151711744:=hO.s1
      have htt:0≤t:=hO.t0
      have htt1:t≤288230376151711744:=hO.t1
      clear hO hr hs hfine hfineh hmh hse hsV;go_wp2_with fail
      go_loopw [10,11,12,13] (fun l r u i wr=>∃k:Nat,k≤j∧i=.int .i64 (k:Int)∧u=.int .i64 (t-(hZ t s (ws.take k)).sum)∧dJ wr w.heap.size 3 1 l k (hZ t s (ws.take k))∧dJ wr w.heap.size 3 1 r k (iF t s (ws.take k))∧(l.ownBlock=none∨l.ownBlock≠r.ownBlock)∧Below w.heap.size w wr) (fun _ _ _ i _=>j-(intOf i).toNat)
      case atStart=>exact⟨0,by omega,rfl,by simp[hZ],dJ.nil _ _ _ _,dJ.nil _ _ _ _,.inl rfl,Below.refl _ _⟩
      case round =>
       obtain⟨k,hk,rfl,rfl,hOl,hOr,hap,hbel⟩:=hrel;have hsz:=hbel.size;have hlf:=hOh.out.left k;by_cases hlt:k<j
       ·have hltI:(k:Int)<(j:Int):=by omega
        have hk0:(0:Int)≤(k:Int):=by omega
        obtain⟨x,hx⟩:∃x,ws[k]?=some x:=⟨ws[k]'(by rw[hNh.out];exact hlt),List.getElem?_eq_getElem _⟩
        obtain⟨b,off,rfl,c00,hbl⟩:=hch.out k x hx;have c0:=(hbel.cell (p:=⟨b,off+k,none⟩) hbl).trans c00
        have hgx:ws.getD k 0=x:=by rw[List.getD_eq_getElem?_getD,hx];rfl
        have hmd:=hOh.out.md (List.mem_of_getElem? hx)
        have hxb:=hOh.out.all x (List.mem_of_getElem? hx)
        have hqb:=Rq htt (show 0<s by omega) hxb.1 hxb.2
        have hMD:=vV t x s;rw[hmd.1,hmd.2]at hMD;have hqs:=aak t s (ws:=ws) (j:=k) (by rw[hNh.out];exact hlt)
        have hrs:=aai t s (ws:=ws) (j:=k) (by rw[hNh.out];exact hlt)
        rw[hgx]at hqs hrs;have hlf2:=hOh.out.left (k+1)
        have hsum:(hZ t s (ws.take (k+1))).sum=(hZ t s (ws.take k)).sum+t*x/s:=by rw[hqs];simp
        obtain⟨q,hq⟩:∃q,t*x/s=q:=⟨_,rfl⟩
        obtain⟨r,hr⟩:∃r,t*x%s=r:=⟨_,rfl⟩
        rw[hq]at hMD hqs hsum hqb;rw[hr]at hMD hrs hqb;obtain⟨A,hA⟩:∃A,(hZ t s (ws.take k)).sum=A:=⟨_,rfl⟩
        rw[hA]at hlf hsum ⊢;have hsumh:=Lib.hid hsum;have hqsh:=Lib.hid hqs;have hrsh:=Lib.hid hrs;have hxI:iM x:=⟨by omega,by omega⟩
        have hsI:iM s:=⟨by omega,by omega⟩
        have hb1:0≤t-A:=by omega
        have hb2:0≤t-A-q:=by omega
        have hb3:t-A-q≤t:=by omega
        have f1:IntKind.i64.wrap (t-A-q)=t-A-q:=IntWalk.i64_in _ (by omega)
        have hMDh:=Lib.hid hMD;clear hmd hMD hqs hrs hsum hq hr hA hx hgx hlf hlf2 c00;go_wp2_with fail
        refine(hMDh.out _ htI hxI hsI).mono ?_
        rintro e w1 ⟨rfl,rfl⟩
        go_wp2_with (at_builtin;refine AQ _ rfl _ _ 22 rfl w.heap.size 3 1 qY _ k (hZ t s (ws.take k)) rfl (hOl.alloc _) wr.heap.size 0 1 [q] rfl rfl (bD.new wr [q] 3) ?c1 ?c2 ?_)
        case c1=>omega
        case c2=>simp;omega
        intro g1 cap1 w1 hO1 hg1 hl1 hlt1;have hne1:u11.ownBlock=none∨u11.ownBlock≠u10.ownBlock:=by
         cases h11:u11.ownBlock with
         |none=>exact .inl rfl
         |some z =>
          right
          rcases hap with h10|h10
          ·rw[h10];simp
          ·rw[h11]at h10;exact Ne.symm h10
        have hOr1:=(dJ.alloc hOr (.cells #[.int .i64 q] 3)).agN hg1 hne1
        have hb1':Below w.heap.size w w1:=(hbel.alloc hsz _).trans (DM hg1 (by simp;omega) fun z hz=>(hOl.lt2 z hz).2)
        have hw1s:wr.heap.size<w1.heap.size:=by have:=hg1.size;simp at this;omega
        have hll:u10.ownBlock=some g1∨g1=wr.heap.size+1:=by simpa using hl1
        have hg11:u11.ownBlock≠some g1:=fun e=>by
         rcases hll with h10|h10
         ·rcases hne1 with h|h
          ·rw[h]at e;cases e
          ·rw[h10]at h;exact h e
         ·have:=(hOr.lt2 g1 e).1;omega
        have hr1s:w.heap.size≤w1.heap.size:=by omega
        clear hg1 hl1 hOr hbel;go_wp2_with (at_builtin;refine AQ _ rfl _ _ 22 rfl w.heap.size 3 1 qY _ k (iF t s (ws.take k)) rfl (hOr1.alloc _) w1.heap.size 0 1 [r] rfl rfl (bD.new w1 [r] 3) ?c1 ?c2 ?_)
        case c1=>omega
        case c2=>simp;omega
        intro g2 cap2 w2 hO2 hg2 hl2 hlt2;have hO1b:=(dJ.alloc hO1 (.cells #[.int .i64 r] 3)).agN hg2 (.inr (fun e=>hg11 e.symm))
        have hl22:u11.ownBlock=some g2∨g2=w1.heap.size+1:=by simpa using hl2
        have hgg:g1≠g2:=by
         rintro rfl
         rcases hl22 with h|h
         ·exact hg11 h
         ·omega
        have hb2':Below w.heap.size w w2:=(hb1'.alloc hr1s _).trans (DM hg2 (by simp;omega) fun z hz=>(hOr1.lt2 z hz).2)
        rw[←hqsh.out]at hO1b;rw[←hrsh.out]at hO2;clear hg2 hl2 hOr1 hO1 hb1' hne1 hll hg11 hl22 hap hOl;go_wp2_with fail
        go_roundw
        case rel=>exact⟨k+1,by omega,by go_num,by rw[hsumh.out];congr 1;omega,hO1b,hO2,.inr (fun e=>hgg (by injection e)),hb2'⟩
        case measure=>simp[intOf];omega
       ·have ek:k=j:=by omega
        subst ek;have hgek:¬ (k:Int)<(k:Int):=by omega
        have htk:ws.take k=ws:=List.take_of_length_le (by rw[hNh.out];omega)
        rw[htk]at hOl hOr ⊢;obtain⟨gl,cl,rfl,hl1,hl2,hl3,hl4,hl5,hl6⟩:=hOl.agR (by omega)
        obtain⟨gr,cr,rfl,hr1,hr2,hr3,hr4,hr5,hr6⟩:=hOr.agR (by omega)
        have hgg:gl≠gr:=by
         rintro rfl
         rcases hap with h|h
         ·cases h
         ·exact h rfl
        have hTwo:Two wr gl gr w.heap.size (hZ t s ws) (iF t s ws) w:=⟨hl5,hr5,hl6,hr6,hl2,hr2,hl1,hr1,hgg,hbel⟩
        obtain⟨L1,L2,L3⟩:=TX hOh.out;rw[←L1];obtain⟨L,hL⟩:∃L,sW t s ws=L:=⟨_,rfl⟩
        rw[hL]at L2 L3 hfineh2 ⊢;rw[hNh.out]at L2;have hLL3:=Lib.hid L3;have hLh:=Lib.hid hL;unfold maxLen at hl4 hr4;clear hl5 hr5 hl6 hr6 hl2 hr2 hl1 hr1 hap hbel hOl hOr htk L1 L3 hL hlf;go_wp2_with fail
        go_loopw [12] (fun u wr=>∃i r:Nat,i+r=L∧u=.int .i64 (r:Int)∧Two wr gl gr w.heap.size (mT (hZ t s ws) (m.take i)) (iN (iF t s ws) (m.take i)) w) (fun u _=>(intOf u).toNat)
        case atStart=>exact⟨0,L,by omega,rfl,hTwo⟩
        case round =>
         obtain⟨i,r,hir,rfl,hT⟩:=hrel;obtain⟨wo,rfl⟩:∃wo:World,wo=wr:=⟨_,rfl⟩
         by_cases hr0:0<r
         ·have hr0I:(0:Int)<(r:Int):=by omega
          have hAl:(mT (hZ t s ws) (m.take i)).length=k:=by rw[Gp,xI];exact hNh.out
          have hRl:(iN (iF t s ws) (m.take i)).length=k:=by rw[Ra,Fj];exact hNh.out
          have hAb:∀b,b<k→0≤(mT (hZ t s ws) (m.take i)).getD b 0∧(mT (hZ t s ws) (m.take i)).getD b 0≤288230376152711744:=by
           intro b hb;have hbw:b<ws.length:=by rw[hNh.out];exact hb
           have hxm:ws.getD b 0∈ws:=by rw[List.getD_eq_getElem?_getD,List.getElem?_eq_getElem hbw];exact List.getElem_mem hbw
           have hx:=hOh.out.all _ hxm;have hq:=Rq htt (show 0<s by omega) hx.1 hx.2
           have hmem:=(vP hsh2.out).2
           rw[Gq _ _ _ (fun p hp=>by rw[xI,hNh.out];exact(hmem p).1 (List.mem_of_mem_take hp)),Nu hbw]
           have hc:=List.count_le_length (a:=b) (l:=m.take i)
           rw[List.length_take]at hc;omega
          have hbest:∀B,B<k→(∀p,p<k→(iN (iF t s ws) (m.take i)).getD p 0≤(iN (iF t s ws) (m.take i)).getD B 0)→(∀p,p<B→(iN (iF t s ws) (m.take i)).getD p 0<(iN (iF t s ws) (m.take i)).getD B 0)→m[i]?=some B:=by
           intro B hB h1 h2;have hrl:(iF t s ws).length=k:=by rw[Fj];exact hNh.out
           refine af0 hrh2.out (by rw[hrl];exact hsh2.out) (fun z hz=>?_) (by omega) (by omega) (by rw[hrl];exact h1) h2
           obtain⟨x,hx,rfl⟩:=List.mem_map.1 hz;exact Int.emod_nonneg _ (by omega)
          have hstep:∀B,m[i]?=some B→mT (hZ t s ws) (m.take (i+1))=(mT (hZ t s ws) (m.take i)).set B ((mT (hZ t s ws) (m.take i)).getD B 0+1)∧iN (iF t s ws) (m.take (i+1))=(iN (iF t s ws) (m.take i)).set B (-1):=by
           intro B hB;have htk:m.take (i+1)=m.take i++[B]:=by rw[List.take_add_one,hB];rfl
           rw[htk,aa5,M6];exact⟨rfl,rfl⟩
          generalize mT (hZ t s ws) (m.take i)=A at hT hAl hAb hstep
          generalize iN (iF t s ws) (m.take i)=R at hT hRl hbest hstep
          have hAlh:=Lib.hid hAl;have hRlh:=Lib.hid hRl;have hAbh:=Lib.hid hAb;have hbesth:=Lib.hid hbest;have hsteph:=Lib.hid hstep;have hirh:=Lib.hid hir;clear hAl hRl hAb hbest hstep hir;have hkI:(1:Int)≤(k:Int):=by omega
          have hrb:r≤1000000:=by have:=hirh.out;omega
          go_wp2_with fail
          go_loopw [17,18] (fun b q wx=>∃B p:Nat,1≤p∧p≤k∧B<p∧b=.int .i64 (B:Int)∧q=.int .i64 (p:Int)∧Hid (∀z,z<p→R.getD z 0≤R.getD B 0)∧Hid (∀z,z<B→R.getD z 0<R.getD B 0)∧Below wo.heap.size wo wx) (fun _ q _=>k-(intOf q).toNat)
          case atStart =>
           have hz1:Hid (∀z,z<1→R.getD z 0≤R.getD 0 0):=fun z hz=>by
            have:z=0:=by omega
            subst this;exact Int.le_refl _
           exact⟨0,1,by omega,by omega,by omega,rfl,rfl,hz1,fun z hz=>by omega,Below.refl _ _⟩
          case round =>
           obtain⟨B,p,hp1,hpk,hBp,rfl,rfl,hA1,hA2,hbw⟩:=hrel;have hT2:=hT.below hbw;have hB0:(0:Int)≤(B:Int):=by omega
           have hBkI:(B:Int)<(k:Int):=by omega
           by_cases hpk2:p<k
           ·have hpkI:(p:Int)<(k:Int):=by omega
            have hp0:(0:Int)≤(p:Int):=by omega
            have c0:=hT2.r p (by rw[hRlh.out];exact hpk2)
            have c1:=hT2.r B (by rw[hRlh.out];omega)
            rw[Nat.zero_add]at c0 c1;obtain⟨x,hx⟩:∃x,R.getD p 0=x:=⟨_,rfl⟩
            obtain⟨y,hy⟩:∃y,R.getD B 0=y:=⟨_,rfl⟩
            rw[hx]at c0;rw[hy]at c1;have hxh:=Lib.hid hx;have hyh:=Lib.hid hy;clear hx hy hT2;by_cases hxy:y<x
            ·have hd:decide (y<x)=true:=decide_eq_true hxy
             go_wp2_with fail
             go_quiet (fail)
             go_wp2_with fail
             case' roundEnd =>
              refine⟨⟨p,p+1,by omega,by omega,by omega,rfl,by go_num,fun z hz=>?_,fun z hz=>?_,blw⟩,?_⟩
              ·rcases Nat.lt_or_ge z p with g|g
               ·have:=hA1.out z g;rw[hxh.out];rw[hyh.out]at this;omega
               ·have:z=p:=by omega
                subst this;omega
              ·have:=hA1.out z hz;rw[hxh.out];rw[hyh.out]at this;omega
              ·simp[intOf];omega
            ·have hd:decide (y<x)=false:=decide_eq_false hxy
             go_wp2_with fail
             go_quiet (fail)
             go_wp2_with fail
             case' roundEnd =>
              refine⟨⟨B,p+1,by omega,by omega,by omega,rfl,by go_num,fun z hz=>?_,hA2.out,blw⟩,?_⟩
              ·rcases Nat.lt_or_ge z p with g|g
               ·exact hA1.out z g
               ·have:z=p:=by omega
                subst this;rw[hxh.out,hyh.out];omega
              ·simp[intOf];omega
           ·have ep:p=k:=by omega
            have hpkI:¬ (p:Int)<(k:Int):=by omega
            have hm:=hbesth.out B (by omega) (fun z hz=>hA1.out z (by omega)) hA2.out
            obtain⟨e1,e2⟩:=hsteph.out B hm;have hab:=hAbh.out B (by omega)
            have c0:=hT2.l B (by rw[hAlh.out];omega)
            rw[Nat.zero_add]at c0;have hT3:=hT2.set (b:=B) (by rw[hAlh.out];omega) (by rw[hRlh.out];omega) (A.getD B 0+1) (-1)
            rw[←e1,←e2]at hT3;obtain⟨y,hy⟩:∃y,A.getD B 0=y:=⟨_,rfl⟩
            rw[hy]at c0 hab hT3;obtain⟨hab1,hab2⟩:=hab;have f1:=hT2.fl B;have f2:=hT2.fr B;have c1:=hT2.r B (by rw[hRlh.out];omega)
            rw[Nat.zero_add]at c1;have w1:IntKind.i64.wrap (y+1)=y+1:=IntWalk.i64_in _ (by omega)
            clear hy hT2 hm e1 e2 hA1 hA2 hbw hT;go_wp2_with fail
            case' roundEnd =>
             obtain⟨r',rfl⟩:∃r',r=r'+1:=⟨r-1,by omega⟩
             refine⟨⟨i+1,r',by have:=hirh.out;omega,by go_num,hT3⟩,?_⟩
             simp[intOf]
         ·obtain rfl:r=0:=by omega
          obtain rfl:i=L:=by omega
          have hz:¬ (0:Int)<((0:Nat):Int):=by omega
          have hf:=hT.l;go_wp2_with fail
          go_ret2
          exact hfineh2.out gl cl _ _ rfl hl3 (by unfold maxLen;exact hl4) hT.ll hT.bl hf hT.fl hT.bel
     ·have he2:cY ws=2:=by unfold cY at hse ⊢;split<;>simp_all
      have hseh:=Lib.hid hse;rw[he2];clear he2 hse;go_wp2_with fail
      go_ret2
      exact hbigh.out _ _ hb.out hseh.out rfl (Below.refl _ _)
end
section
open Mc
theorem Nt {A:Nat→Prop} {w:World}:@dG dI dN A w (.lit 1 (aA [])) (.slice none 0 0):=@dG.nG dI dN A w 1 none 0 (by unfold maxLen;omega)
theorem Pc {t:Int} {ws:List Int} (ht:iM t) (hI:eN ws) (hn:ws.length≤1000000):Ck 90 [.i t,.lit 1 (aA ws)] (.aZ [.lit 1 (aA (fD t ws).1),.i (fD t ws).2]):=by
 refine⟨aX (.c _) (aX (kK _).lit eM),.aZ _ (aX (kK _).lit (aX (.c _) eM)),?_⟩
 intro A w vs hA hG hl hv;have hvs:=EM hl;have h0:=hv 0 _ rfl;generalize vs.getD 0 Go.undef=v0 at *;have h1:=hv 1 _ rfl;generalize vs.getD 1 Go.undef=v1 at *;subst hvs;cases h0;obtain⟨a,cap,rfl,R⟩:=Eo h1 hI;have ho:=LK (key:=wC (iF t (cU ws) ws)) (List.range ws.length)
 refine(HK a cap ws (LL (wC (iF t (cU ws) ws)) (List.range ws.length)) t w R hn ht (fun _ _=>ho)).mono ?_
 rintro e w' ⟨he,hb⟩
 unfold fD;by_cases hbad:pS t ws=true
 ·rw[if_pos hbad]at he ⊢
  subst he;exact⟨_,rfl,kC Nt mZ,hb⟩
 rw[if_neg hbad]at he ⊢;by_cases hs:cY ws≠0
 ·rw[if_pos hs]at he ⊢
  subst he;exact⟨_,rfl,kC Nt mZ,hb⟩
 rw[if_neg hs]at he ⊢;obtain⟨g,cap',rfl,k1,k2,k3,k4,k5,-⟩:=he;have hlen:(mT (hZ t (cU ws) ws) ((LL (wC (iF t (cU ws) ws)) (List.range ws.length)).take (sW t (cU ws) ws))).length=ws.length:=by rw[Gp,xI]
 refine⟨_,rfl,kC ?_ mZ,hb⟩
 generalize mT (hZ t (cU ws) ws) ((LL (wC (iF t (cU ws) ws)) (List.range ws.length)).take (sW t (cU ws) ws))=B at *
 rw[←hlen]at k1 ⊢;exact Ow hA k1 k2 (.inr ⟨g,0,rfl,k4,k3,k5⟩)
theorem Hx {t:Int} {ws:List Int}:((fD t ws).2=0∧0≤t∧t≤288230376151711744∧(fD t ws).1.length=ws.length∧(∀x∈(fD t ws).1,0≤x∧x≤t)∧(fD t ws).1.sum=t)∨(((fD t ws).2=1∨(fD t ws).2=2)∧(fD t ws).1=[]):=by
 unfold fD;by_cases hbad:pS t ws=true
 ·rw[if_pos hbad];exact .inr ⟨.inl rfl,rfl⟩
 rw[if_neg hbad];by_cases hs:cY ws≠0
 ·rw[if_pos hs];exact .inr ⟨.inr rfl,rfl⟩
 rw[if_neg hs];left
 have hO:=oJ.of (by simpa using hbad) (by simpa using hs)
 obtain⟨o1,o2⟩:=LK (key:=wC (iF t (cU ws) ws)) (List.range ws.length)
 have F:=afG hO o1 o2;dsimp only
 generalize mT (hZ t (cU ws) ws) ((LL (wC (iF t (cU ws) ws)) (List.range ws.length)).take (sW t (cU ws) ws))=B at *
 have hp:∀x,x∈B→0≤x:=by
  intro x hx;obtain⟨i,hi⟩:=List.mem_iff_getElem?.1 hx
  have hlt:=(List.getElem?_eq_some_iff.1 hi).1
  have hB:B.getD i 0=x:=by rw[List.getD_eq_getElem?_getD,hi];rfl
  have hw:0≤ws.getD i 0:=(hO.all _ (fR (by rw[←F.len];exact hlt))).1
  have hq:=Int.ediv_nonneg (Int.mul_nonneg hO.t0 hw) (show 0≤cU ws by have:=hO.s0;omega)
  rcases F.one i (by rw[←F.len];exact hlt)with h|h<;>omega
 refine⟨rfl,hO.t0,hO.t1,F.len,fun x hx=>⟨hp x hx,?_⟩,F.sum⟩
 have:=(IW B x hp hx).1
 rw[F.sum]at this;exact this
set_option maxRecDepth 1000000
def lI (S:bH) (r:bH×Int):bH×Int:=if r.2=0 then({ r.1 with done:=1+r.1.done },0)else(S,r.2)
theorem Mr (T:bH):({ T with done:=1+T.done }:bH).av=.agg [.i T.aB,.i T.aD,.lit 1 (aA T.weights),.lit 1 (dM T.methods),.lit 1 (dM T.iC),.lit 8 (bN T.aH),.lit 8 (kW T.bX),.lit 9 (gD T.aU),.lit 6 (gY T.aM),.i (1+T.done)]:=rfl
section
variable {e item loc dst q a ref r0 r1 r2:Int}
theorem ah8 (hE:0≤e∧e≤3) (hI:0≤item∧item≤4) (hL:0≤loc∧loc≤1) (hQ:1≤q∧q≤1073741824) (hA:0≤a∧a≤1073741824):Ck 22 [uE 1 e item loc 0 q a 0] WP:=cw _ (ev1 { vars:=[(0,3),(0,4),(0,1),(1,1073741824),(0,1073741824)] } [e,item,loc,q,a] [] [] .nil) [(.agg [.i 1,.v 0,.v 1,.v 2,.i 0,.v 3,.v 4,.i 0,.emp])] WP kn
theorem akg (hQ:1≤q∧q≤1073741824) (hA:0≤a∧a≤1073741824) (hR:0≤ref∧ref≤39):Ck 22 [uE 2 0 0 0 0 q a ref] WP:=cw _ (ev1 { vars:=[(1,1073741824),(0,1073741824),(0,39)] } [q,a,ref] [] [] .nil) [(.agg [.i 2,.i 0,.i 0,.i 0,.i 0,.v 0,.v 1,.v 2,.emp])] WP kn
theorem afQ (hE:0≤e∧e≤3) (hI:0≤item∧item≤4) (hL:0≤loc∧loc≤1) (hT:0≤dst∧dst≤3) (hQ:1≤q∧q≤1073741824) (hA:0≤a∧a≤1073741824) (hne:dst≠e):Ck 22 [uE 12 e item loc dst q a 0] WP:=by
 rcases(by omega:dst<e∨e<dst)with h|h
 ·exact cw _ (ev1 { vars:=Zs,facts:=[([([0],-1),([3],1)],-100,-1)] } [e,item,loc,dst,q,a] [] [] .nil) Zq WP kn
 ·exact cw _ (ev1 { vars:=Zs,facts:=[([([0],-1),([3],1)],1,100)] } [e,item,loc,dst,q,a] [] [] .nil) Zq WP kn
theorem afP (hL:0≤loc∧loc≤1) (hQ:1≤q∧q≤1073741824) (hR:0≤ref∧ref≤39):Ck 22 [uE 13 0 0 loc 0 q 0 ref] WP:=cw _ (ev1 { vars:=[(0,1),(1,1073741824),(0,39)] } [loc,q,ref] [] [] .nil) [(.agg [.i 13,.i 0,.i 0,.v 0,.i 0,.v 1,.i 0,.v 2,.emp])] WP kn
theorem d_step1 {S:bH} {r:bH×Int} (hC:Ck 22 [uE 1 e item loc 0 q a 0] WP) (hD:Ck 87 [S.av,uE 1 e item loc 0 q a 0] (.aZ [r.1.av,.i r.2])) (hE:kY r.2) (hT:0≤r.1.done∧r.1.done≤1000000) :
  Ck 16 [S.av,uE 1 e item loc 0 q a 0] (.aZ [(lI S r).1.av,.i (lI S r).2]):=by
 obtain⟨T,f⟩:=r;dsimp only at *
 unfold lI;by_cases h0:f=0
 ·subst h0
  rw[if_pos rfl,Mr];exact cw _ (ev1 { vars:=[(0,1000000)],bT:=[JW,(87,J9,(.aZ [(.agg [.o 8,.o 9,.q 1 8,.q 1 9,.q 1 10,.q 8 7,.q 8 11,.q 9 12,.q 6 13,.v 0]),.i 0]))] } [T.done] [.I S.aB,.I S.aD,.I S.done,.I e,.I item,.I loc,.I q,.I a,.I T.aB,.I T.aD] (sT S (sT T [])) .nil) J9 (.aZ [(.agg [.o 8,.o 9,.q 1 8,.q 1 9,.q 1 10,.q 8 7,.q 8 11,.q 9 12,.q 6 13,Wf]),.i 0]) (kc hC (kc hD kn))
 ·rw[if_neg h0]
  exact cw _ (ev1 { vars:=WA,bT:=[JW,(87,J9,(.aZ [(.agg [.o 8,.o 9,.q 1 8,.q 1 9,.q 1 10,.q 8 7,.q 8 11,.q 9 12,.q 6 13,.v 1]),.v 0]))] } [f,T.done] [.I S.aB,.I S.aD,.I S.done,.I e,.I item,.I loc,.I q,.I a,.I T.aB,.I T.aD] (sT S (sT T [])) .nil) J9 Up (kc hC (kc hD kn))
theorem adR {S:bH} {r:bH×Int} (hC:Ck 22 [uE 12 e item loc dst q a 0] WP) (hD:Ck 142 [S.av,uE 12 e item loc dst q a 0] (.aZ [r.1.av,.i r.2])) (hE:kY r.2) (hT:0≤r.1.done∧r.1.done≤1000000) :
  Ck 16 [S.av,uE 12 e item loc dst q a 0] (.aZ [(lI S r).1.av,.i (lI S r).2]):=by
 obtain⟨T,f⟩:=r;dsimp only at *
 unfold lI;by_cases h0:f=0
 ·subst h0
  rw[if_pos rfl,Mr];exact cw _ (ev1 { vars:=[(0,1000000)],bT:=[JS,(142,J4,(.aZ [(.agg [.o 9,.o 10,.q 1 8,.q 1 9,.q 1 10,.q 8 7,.q 8 11,.q 9 12,.q 6 13,.v 0]),.i 0]))] } [T.done] [.I S.aB,.I S.aD,.I S.done,.I e,.I item,.I loc,.I dst,.I q,.I a,.I T.aB,.I T.aD] (sT S (sT T [])) .nil) J4 (.aZ [(.agg [.o 9,.o 10,.q 1 8,.q 1 9,.q 1 10,.q 8 7,.q 8 11,.q 9 12,.q 6 13,Wf]),.i 0]) (kc hC (kc hD kn))
 ·rw[if_neg h0]
  exact cw _ (ev1 { vars:=WA,bT:=[JS,(142,J4,(.aZ [(.agg [.o 9,.o 10,.q 1 8,.q 1 9,.q 1 10,.q 8 7,.q 8 11,.q 9 12,.q 6 13,.v 1]),.v 0]))] } [f,T.done] [.I S.aB,.I S.aD,.I S.done,.I e,.I item,.I loc,.I dst,.I q,.I a,.I T.aB,.I T.aD] (sT S (sT T [])) .nil) J4 Up (kc hC (kc hD kn))
theorem adQ {S:bH} {r:bH×Int} (hC:Ck 22 [uE 13 0 0 loc 0 q 0 ref] WP) (hD:Ck 142 [S.av,uE 13 0 0 loc 0 q 0 ref] (.aZ [r.1.av,.i r.2])) (hE:kY r.2) (hT:0≤r.1.done∧r.1.done≤1000000) :
  Ck 16 [S.av,uE 13 0 0 loc 0 q 0 ref] (.aZ [(lI S r).1.av,.i (lI S r).2]):=by
 obtain⟨T,f⟩:=r;dsimp only at *
 unfold lI;by_cases h0:f=0
 ·subst h0
  rw[if_pos rfl,Mr];exact cw _ (ev1 { vars:=[(0,1000000)],bT:=[JT,(142,J5,(.aZ [(.agg [.o 6,.o 7,.q 1 8,.q 1 9,.q 1 10,.q 8 7,.q 8 11,.q 9 12,.q 6 13,.v 0]),.i 0]))] } [T.done] [.I S.aB,.I S.aD,.I S.done,.I loc,.I q,.I ref,.I T.aB,.I T.aD] (sT S (sT T [])) .nil) J5 (.aZ [(.agg [.o 6,.o 7,.q 1 8,.q 1 9,.q 1 10,.q 8 7,.q 8 11,.q 9 12,.q 6 13,Wf]),.i 0]) (kc hC (kc hD kn))
 ·rw[if_neg h0]
  exact cw _ (ev1 { vars:=WA,bT:=[JT,(142,J5,(.aZ [(.agg [.o 6,.o 7,.q 1 8,.q 1 9,.q 1 10,.q 8 7,.q 8 11,.q 9 12,.q 6 13,.v 1]),.v 0]))] } [f,T.done] [.I S.aB,.I S.aD,.I S.done,.I loc,.I q,.I ref,.I T.aB,.I T.aD] (sT S (sT T [])) .nil) J5 Up (kc hC (kc hD kn))
end
end
section
open Mc
set_option maxRecDepth 1000000
def bH.rc (S:bH) (k:Int):yF:=S.bX.getD k.toNat ⟨0,0,0,0,0,0,0,0⟩
namespace LD
section
variable {S:bH} {dst a:Int} {refs:List Int} {A:Nat→Prop} {w0:World} {a0:Act} {R:AV}
end
end LD
end
section
open Mc
set_option maxRecDepth 1000000
section
variable {S:bH} {e:Int}
end
end
section
open Mc
set_option maxRecDepth 1000000
namespace RO
end RO
section
variable {S:bH} {e:Int}
end
end
section
open Mc
theorem z58:rV 0:=⟨by simp,by simp⟩
def tZ (l:List bB) (n:Int):List bB×bB:=if 0<n then((dZ l n).1,(dZ l n).2.1)else(l,.zero)
theorem I6 {l:List bB} {n:Int} (h:LR l):LR (tZ l n).1∧(tZ l n).1.length≤l.length∧(0≤(tZ l n).2.v∧(tZ l n).2.v≤288230376151711744)∧rV (tZ l n).2.p:=by
 unfold tZ;split
 ·exact⟨pN h,FH,NO h,TQ h n⟩
 ·exact⟨h,Nat.le_refl _,⟨by simp[bB.zero],by simp[bB.zero]⟩,z58⟩
def oY (l:List bB) (d:vG):List bB×bB×bB×bB :=
 ((tZ (tZ (tZ l d.a).1 d.b).1 d.c).1,(tZ l d.a).2,(tZ (tZ l d.a).1 d.b).2,(tZ (tZ (tZ l d.a).1 d.b).1 d.c).2)
theorem Ts {l:List bB} {d:vG} (h:LR l):LR (oY l d).1∧(oY l d).1.length≤l.length∧((0≤(oY l d).2.1.v∧(oY l d).2.1.v≤288230376151711744)∧rV (oY l d).2.1.p)∧(0≤(oY l d).2.2.1.v∧(oY l d).2.2.1.v≤288230376151711744)∧(0≤(oY l d).2.2.2.v∧(oY l d).2.2.2.v≤288230376151711744):=by
 obtain⟨a1,a2,a3,a4⟩:=I6 (n:=d.a) h
 obtain⟨b1,b2,b3,b4⟩:=I6 (n:=d.b) a1
 obtain⟨c1,c2,c3,c4⟩:=I6 (n:=d.c) b1
 exact⟨c1,by show(tZ _ _).1.length≤_;omega,⟨a3,a4⟩,b3,c3⟩
def cX (S:bH) (e item loc:Int) (x:AP):Bool:=x.waits&&decide (x.eX=e)&&decide (x.item=item)&&decide (x.loc=loc)&&decide (x.period=(S.bU e).now)
def AP.nil:AP:=⟨0,0,0,0,0,0,0,0,false⟩
section
variable (P:AP→Bool) (l:List AP)
def DN:Nat→List Int
 |0=>[]
 |j+1=>DN j++(if P (l.getD j .nil)then[(j:Int)]else[])
def Ht:Nat→List Int
 |0=>[]
 |j+1=>Ht j++(if P (l.getD j .nil)then[(l.getD j .nil).lS-(l.getD j .nil).back]else[])
def smN:Nat→Bool
 |0=>false
 |j+1=>smN j||(P (l.getD j .nil)&&decide ((l.getD j .nil).back<(l.getD j .nil).lS))
theorem ME (j:Nat):(DN P l j).length=(Ht P l j).length:=by
 induction j with
 |zero=>rfl
 |succ j ih=>simp only[DN,Ht,List.length_append,ih];split<;>rfl
theorem SX (j:Nat):(DN P l j).length≤j:=by
 induction j with
 |zero=>simp[DN]
 |succ j ih=>simp only[DN,List.length_append];split<;>simp<;>omega
theorem ad8 (j:Nat):∀k∈DN P l j,0≤k∧k<j:=by
 induction j with
 |zero=>intro k hk;simp[DN]at hk
 |succ j ih =>
  intro k hk;simp only[DN,List.mem_append]at hk;rcases hk with hk|hk
  ·have:=ih k hk;omega
  ·split at hk
   ·simp at hk;omega
   ·simp at hk
theorem abr (j:Nat) (h:∀x∈l,0≤x.back∧x.back≤x.lS∧x.lS≤1073741824) (hj:j≤l.length):∀k∈Ht P l j,0≤k∧k≤1073741824:=by
 induction j with
 |zero=>intro k hk;simp[Ht]at hk
 |succ j ih =>
  intro k hk;simp only[Ht,List.mem_append]at hk;rcases hk with hk|hk
  ·exact ih (by omega) k hk
  ·have:=h _ (fR (d:=.nil) (show j<l.length by omega))
   split at hk
   ·rw[List.mem_singleton]at hk;omega
   ·simp at hk
theorem Nb (j:Nat) (h:smN P l j=true):∃k∈Ht P l j,0<k:=by
 induction j with
 |zero=>cases h
 |succ j ih =>
  simp only[smN,Bool.or_eq_true,Bool.and_eq_true,decide_eq_true_eq]at h;rcases h with h|⟨h1,h2⟩
  ·obtain⟨k,hk,h0⟩:=ih h
   exact⟨k,by simp only[Ht];exact List.mem_append_left _ hk,h0⟩
  ·exact⟨(l.getD j .nil).lS-(l.getD j .nil).back,by simp only[Ht];rw[if_pos h1];simp,by omega⟩
end
def kV (v:Int) (w:List Int):List Int×Int:=if 0≤v then fD v w else((fD (-v) w).1.map (fun x=>-x),(fD (-v) w).2)
theorem B5 (c:Int) (l:List Int) (h:∀x∈l,0≤x∧x≤c):eB l≤c*l.length:=by
 induction l with
 |nil=>simp[eB]
 |cons x r ih =>
  have:=ih fun y hy=>h y (by simp[hy])
  have:=h x (by simp)
  simp only[eB,List.length_cons,List.map_cons,List.sum_cons]at *
  rw[show c*((r.length+1:Nat):Int)=c*r.length+c by rw[Int.natCast_add,Int.mul_add];simp]
  omega
theorem vQ {t:Int} {w:List Int} (ht:0≤t∧t≤288230376151711744) (hw:∀k∈w,0≤k∧k≤1073741824) (hl:w.length≤40) (hs:∃k∈w,0<k):(fD t w).2=0∧(fD t w).1.length=w.length∧∀x∈(fD t w).1,0≤x∧x≤t:=by
 have h2:(fD t w).2=0:=by
  unfold fD;have hb:pS t w=false:=by
   unfold pS;obtain⟨k,hk,h0⟩:=hs;have a1:jM t=false:=by unfold jM;simp;omega
   have a2:w.any jM=false:=by
    rw[List.any_eq_false];intro x hx;have:=hw x hx
    unfold jM;simp;omega
   have a3:w.any zT=true:=List.any_eq_true.2 ⟨k,hk,by unfold zT;simp;omega⟩
   rw[a1,a2,a3];rfl
  have he:cY w=0:=(M5 (by have:=B5 1073741824 w hw;omega)).1
  rw[if_neg (by rw[hb];simp),if_neg (by rw[he];simp)]
 rcases Hx (t:=t) (ws:=w)with⟨_,_,_,k1,k2,_⟩|⟨k1,_⟩
 ·exact⟨h2,k1,k2⟩
 ·omega
theorem sK {v:Int} {w:List Int} (hv:rV v) (hw:∀k∈w,0≤k∧k≤1073741824) (hl:w.length≤40) (hs:∃k∈w,0<k):(kV v w).2=0∧(kV v w).1.length=w.length∧∀x∈(kV v w).1,rV x:=by
 unfold rV at *
 unfold kV;split
 ·obtain⟨a,b,c⟩:=vQ (t:=v) ⟨by omega,by omega⟩ hw hl hs
  exact⟨a,b,fun x hx=>by have:=c x hx;omega⟩
 ·obtain⟨a,b,c⟩:=vQ (t:=-v) ⟨by omega,by omega⟩ hw hl hs
  refine⟨a,by simpa using b,fun x hx=>?_⟩
  obtain⟨y,hy,rfl⟩:=List.mem_map.1 hx;have:=c y hy
  omega
def uC (at' c p:List Int) (l:List AP):Nat→List AP
 |0=>l
 |j+1=>(uC at' c p l j).set (at'.getD j 0).toNat { (uC at' c p l j).getD (at'.getD j 0).toNat .nil with cost:=c.getD j 0,cN:=p.getD j 0 }
theorem Bf (at' c p:List Int) (l:List AP) (j:Nat):(uC at' c p l j).length=l.length:=by
 induction j with
 |zero=>rfl
 |succ j ih=>simp only[uC,List.length_set,ih]
theorem Nx (at' c p:List Int) (l:List AP) (Q:AP→Prop) (h:∀x∈l,Q x) (hc:∀x∈c,rV x) (hp:∀x∈p,rV x) (hQ:∀x a b,Q x→rV a→rV b→Q { x with cost:=a,cN:=b }) (j:Nat) (hj:∀k∈at',0≤k∧k<l.length) (hja:j≤at'.length):∀x∈uC at' c p l j,Q x:=by
 induction j with
 |zero=>exact h
 |succ j ih =>
  have ih:=ih (by omega)
  intro x hx;simp only[uC]at hx;have hk:=hj _ (fR (d:=0) (show j<at'.length by omega))
  have b58:∀(z:List Int),(∀x∈z,rV x)→rV (z.getD j 0):=by
   intro z hz;by_cases hl:j<z.length
   ·exact hz _ (fR hl)
   ·rw[List.getD_eq_getElem?_getD,List.getElem?_eq_none (by omega)];exact z58
  rcases List.mem_or_eq_of_mem_set hx with hx|rfl
  ·exact ih x hx
  ·exact hQ _ _ _ (ih _ (fR (by rw[Bf];omega))) (b58 c hc) (b58 p hp)
def pR (S:bH) (e item loc:Int) (x:bB):bH :=
 if smN (cX S e item loc) S.aU S.aU.length=false then S else
 { S with aU:=uC (DN (cX S e item loc) S.aU S.aU.length) (kV x.v (Ht (cX S e item loc) S.aU S.aU.length)).1 (kV x.p (Ht (cX S e item loc) S.aU S.aU.length)).1 S.aU (DN (cX S e item loc) S.aU S.aU.length).length }
def iJ (S:bH) (e item loc:Int):bH×Int :=
 if((S.bU e).cQ (2*item+loc)).p0+((S.bU e).cQ (2*item+loc)).p1+((S.bU e).cQ (2*item+loc)).p2=0 then(S,0)else
 match oY ((S.bU e).cQ (2*item+loc)).bK ((S.bU e).cQ (2*item+loc)).pn with
 |(l,⟨xq,xv,xp⟩,⟨yq,yv,yp⟩,⟨zq,zv,zp⟩) =>
 match gK (S.bP e ((S.bU e).eK (2*item+loc) ⟨l,0,0,0⟩)) e [⟨5,xv⟩,⟨7,yv⟩,⟨8,zv⟩,⟨0,-xv⟩,⟨0,-yv⟩,⟨0,-zv⟩]with
 |(S1,f)=>if f≠0 then(S,f)else
 match jR S1 e item [0,0,0,0,0,xv,0,0,yv,zv,0]with
 |(S2,f)=>if f≠0 then(S,f)else(pR S2 e item loc ⟨xq,xv,xp⟩,0)
structure Sv (S T:bH):Prop where
 gn:Gn T
 sh:T.aH.map eC.sh=S.aH.map eC.sh
 le:T.aH.length=S.aH.length
 wt:T.weights=S.weights
 pe:T.aD=S.aD
 en:T.aB=S.aB
 me:T.methods=S.methods
 co:T.iC=S.iC
 dn:T.done=S.done
 rc:T.bX=S.bX
 tr:T.aM=S.aM
theorem Sv.refl {S:bH} (G:Gn S):Sv S S:=⟨G,rfl,rfl,rfl,rfl,rfl,rfl,rfl,rfl,rfl,rfl⟩
theorem Sv.trans {S T U:bH} (h:Sv S T) (g:Sv T U):Sv S U:=⟨g.gn,g.sh.trans h.sh,g.le.trans h.le,g.wt.trans h.wt,g.pe.trans h.pe,g.en.trans h.en,g.me.trans h.me,g.co.trans h.co,g.dn.trans h.dn,g.rc.trans h.rc,g.tr.trans h.tr⟩
theorem Kn.sv {S T:bH} (k:Kn S T) (G:Gn S):Sv S T:=by
 have e:=k.eq;exact⟨k.gn G,k.sh,k.len,by rw[e];rfl,by rw[e];rfl,by rw[e];rfl,by rw[e];rfl,by rw[e];rfl,by rw[e];rfl,by rw[e];rfl,by rw[e];rfl⟩
theorem Sv.ix {S T:bH} (h:Sv S T) {e item:Int} (x:Ix S e item):Ix T e item:=⟨x.e0,by rw[h.le];exact x.e1,x.i0,by rw[h.wt];exact x.i1⟩
theorem Sv.shE {S T:bH} (h:Sv S T) (e:Int):(T.bU e).sh=(S.bU e).sh:=by
 unfold bH.bU;rw[Eu,Eu,h.sh]
theorem Sv.now {S T:bH} (h:Sv S T) (e:Int):(T.bU e).now=(S.bU e).now:=congrArg Prod.fst (h.shE e)
theorem Sv.fJ {S T:bH} (h:Sv S T) (e i:Int):T.fJ e i=S.fJ e i:=by unfold bH.fJ;rw[h.me]
theorem aaU {S:bH} (G:Gn S) {e item loc:Int} {x:bB} (hx:(0≤x.v∧x.v≤288230376151711744)∧rV x.p):Sv S (pR S e item loc x):=by
 unfold pR;split
 ·exact .refl G
 ·rename_i hs
  have hs:smN (cX S e item loc) S.aU S.aU.length=true:=by simpa using hs
  have hsal:=G.Tu;have hw:=abr (cX S e item loc) S.aU S.aU.length (fun x hx=>by obtain⟨_,_,_,b4,b5,_⟩:=G.Tv x hx;omega) (Nat.le_refl _)
  have hl:=SX (cX S e item loc) S.aU S.aU.length
  have hll:=ME (cX S e item loc) S.aU S.aU.length
  have hin:=ad8 (cX S e item loc) S.aU S.aU.length
  have hso:=Nb _ _ _ hs;obtain⟨-,-,c1⟩:=sK (v:=x.v) ⟨by omega,by omega⟩ hw (by omega) hso
  obtain⟨-,-,p1⟩:=sK (v:=x.p) hx.2 hw (by omega) hso
  generalize DN (cX S e item loc) S.aU S.aU.length=A at *
  generalize Ht (cX S e item loc) S.aU S.aU.length=W at *
  have h:=G.toStOk;refine⟨⟨⟨h.hn,h.hw,h.GR,h.DB,h.AO,h.uF,h.mb,h.cb,h.bU,h.ahead⟩,G.rcl,by show(uC _ _ _ _ _).length≤40;rw[Bf];exact G.Tu,G.GY,G.rcb,?_,G.trb,G.d0,G.al,?_⟩,rfl,rfl,rfl,rfl,rfl,rfl,rfl,rfl,rfl,rfl⟩
  ·exact Nx A _ _ _ (aiw S.aH.length S.weights.length) G.Tv c1 p1 (fun x a b hx ha hb=>by obtain⟨b1,b2,b3,b4,b5,b6,b7,b8⟩:=hx;exact⟨b1,b2,b3,b4,b5,ha,hb,b8⟩) _ hin (Nat.le_refl _)
  ·exact Nx A _ _ _ (fun x=>x.period≤(S.bU x.eX).now) G.pb c1 p1 (fun x a b hx ha hb=>hx) _ hin (Nat.le_refl _)
theorem Cu {S:bH} (G:Gn S) {e item loc:Int} (x:Ix S e item) (l0:0≤loc) (l1:loc≤1) (hm:S.fJ e item=3):Sv S (iJ S e item loc).1∧kY (iJ S e item loc).2∧((iJ S e item loc).2≠0→(iJ S e item loc).1=S):=by
 have h:=G.toStOk;have hp:=h.Rx x l0 l1;obtain⟨a1,a2,a3,a4,a5⟩:=Ts (d:=((S.bU e).cQ (2*item+loc)).pn) hp.lr
 unfold iJ;split
 ·exact⟨.refl G,⟨by simp,by simp⟩,fun h=>absurd rfl h⟩
 ·generalize oY ((S.bU e).cQ (2*item+loc)).bK ((S.bU e).cQ (2*item+loc)).pn=r at *
  obtain⟨l,⟨xq,xv,xp⟩,⟨yq,yv,yp⟩,⟨zq,zv,zp⟩⟩:=r
  dsimp only at *
  have q0:=qO a1.ok;have hone:l.length≤1:=by rcases hp.one with h1|h1<;>omega
  have K0:=Fm h x l0 l1 (p:=⟨l,0,0,0⟩) ⟨a1,.inr hone,by show(0:Int)≤0;omega,by show(0:Int)≤0;omega,by show(0:Int)≤0;omega,by show(0:Int)+0+0≤qs l;omega,.inl hm⟩
  generalize S.bP e ((S.bU e).eK (2*item+loc) ⟨l,0,0,0⟩)=S0 at *
  obtain⟨K1,e1,-⟩:=nB K0.ok (K0.ix x) [⟨5,xv⟩,⟨7,yv⟩,⟨8,zv⟩,⟨0,-xv⟩,⟨0,-yv⟩,⟨0,-zv⟩]
  generalize gK S0 e [⟨5,xv⟩,⟨7,yv⟩,⟨8,zv⟩,⟨0,-xv⟩,⟨0,-yv⟩,⟨0,-zv⟩]=r at *
  obtain⟨S1,f1⟩:=r;dsimp only at *
  split
  ·exact⟨.refl G,e1,fun _=>rfl⟩
  ·have K2:=K0.trans K1
   obtain⟨K3,e3,-⟩:=xC K2.ok (K2.ix x) (r:=[0,0,0,0,0,xv,0,0,yv,zv,0]) rfl
   generalize jR S1 e item [0,0,0,0,0,xv,0,0,yv,zv,0]=r at *
   obtain⟨S2,f2⟩:=r;dsimp only at *
   split
   ·exact⟨.refl G,e3,fun _=>rfl⟩
   ·have K4:=(K2.trans K3).sv G
    exact⟨K4.trans (aaU K4.gn a3),⟨by simp,by simp⟩,fun h=>absurd rfl h⟩
def jX (S:bH) (e item:Int):bH×Int :=
 match iJ S e item 0 with
 |(T,f)=>if f≠0 then(S,f)else match iJ T e item 1 with
 |(U,f)=>if f≠0 then(S,f)else(U,0)
def jC (e:Int):Nat→Nat→bH→bH×Int
 |0,_,T=>(T,0)
 |n+1,j,T=>if T.fJ e (j:Int)=3 then(match jX T e (j:Int)with|(U,f)=>if f≠0 then(T,f)else jC e n (j+1) U)else jC e n (j+1) T
theorem Re {S:bH} (G:Gn S) {e item:Int} (x:Ix S e item) (hm:S.fJ e item=3):Sv S (jX S e item).1∧kY (jX S e item).2:=by
 obtain⟨k1,e1,-⟩:=Cu G x (loc:=0) (by omega) (by omega) hm
 unfold jX;generalize iJ S e item 0=r at *;obtain⟨T,f⟩:=r;dsimp only at *
 split
 ·exact⟨.refl G,e1⟩
 ·obtain⟨k2,e2,-⟩:=Cu k1.gn (k1.ix x) (loc:=1) (by omega) (by omega) (by rw[k1.fJ];exact hm)
  generalize iJ T e item 1=r at *;obtain⟨U,f⟩:=r;dsimp only at *
  split
  ·exact⟨.refl G,e2⟩
  ·exact⟨k1.trans k2,⟨by simp,by simp⟩⟩
def uO (v q p:Int):Int:=if v<0∨q<0∨p<0 then 0 else if v≤q*p then 0 else v-q*p
theorem aez (v q p:Int) (hv:v≤288230376151711744):0≤uO v q p∧uO v q p≤288230376151711744:=by
 unfold uO;split
 ·omega
 ·rename_i h
  have hm:0≤q*p:=Int.mul_nonneg (by omega) (by omega)
  split<;>omega
def bH.Fs (S:bH) (e:Int) (i:Nat):Int:=(S.bU e).aW.getD i 0
def bH.down (S:bH) (e:Int) (i:Nat):Int:=(S.bU e).down.getD i 0
def P5 (S:bH) (e:Int) (i:Nat):Int:=uO (dQ S e (i:Int)).1.v (dQ S e (i:Int)).1.q (S.Fs e i)
def nN (S:bH) (e:Int):Nat→List cD
 |0=>[]
 |j+1=>nN S e j++(if 0≤S.Fs e j then[⟨10,P5 S e j-S.down e j⟩,⟨11,-(P5 S e j-S.down e j)⟩]else[])
def nD (S:bH) (e:Int):Nat→List Int
 |0=>(S.bU e).down
 |j+1=>if 0≤S.Fs e j then(nD S e j).set j (P5 S e j)else nD S e j
theorem IY (l:List Int):rV (cU l):=⟨(IX l).1,(IX l).2⟩
theorem IT (S:bH) (e:Int) (i:Nat):0≤P5 S e i∧P5 S e i≤288230376151711744:=aez _ _ _ (IY _).2
theorem Bw (S:bH) (e:Int) (n:Nat):(nD S e n).length=(S.bU e).down.length:=by
 induction n with
 |zero=>rfl
 |succ j ih=>simp only[nD];split<;>simp[ih]
theorem TY {S:bH} {e:Int} (h:∀v∈(S.bU e).down,0≤v∧v≤M58) (n:Nat):∀v∈nD S e n,0≤v∧v≤M58:=by
 induction n with
 |zero=>exact h
 |succ j ih =>
  intro v hv;simp only[nD]at hv;split at hv
  ·rcases List.mem_or_eq_of_mem_set hv with hv|rfl
   ·exact ih v hv
   ·exact IT S e j
  ·exact ih v hv
theorem adh (S:bH) (e:Int) (n:Nat):(nD S e n).getD n 0=S.down e n:=by
 have go:∀(k:Nat),k≤n→(nD S e k).getD n 0=S.down e n:=by
  intro k;induction k with
  |zero=>intro _;rfl
  |succ j ih =>
   intro hk;simp only[nD];split
   ·rw[List.getD_eq_getElem?_getD,List.getElem?_set,if_neg (by omega),←List.getD_eq_getElem?_getD];exact ih (by omega)
   ·exact ih (by omega)
 exact go n (Nat.le_refl _)
theorem N7 (S:bH) (e:Int) (n:Nat):(nN S e n).length≤2*n:=by
 induction n with
 |zero=>simp[nN]
 |succ j ih=>simp only[nN,List.length_append];split<;>simp<;>omega
theorem afu {S:bH} {e:Int} (h:∀v∈(S.bU e).down,0≤v∧v≤M58) (n:Nat):∀x∈nN S e n,(0≤x.a∧x.a≤100)∧(-4611686018427387904≤x.n∧x.n≤4611686018427387904):=by
 induction n with
 |zero=>intro x hx;simp[nN]at hx
 |succ j ih =>
  intro x hx;simp only[nN,List.mem_append]at hx;rcases hx with hx|hx
  ·exact ih x hx
  ·have b1:=IT S e j
   have b2:0≤S.down e j∧S.down e j≤288230376151711744:=by
    unfold bH.down;by_cases hl:j<(S.bU e).down.length
    ·exact h _ (fR hl)
    ·rw[List.getD_eq_getElem?_getD,List.getElem?_eq_none (by omega)];simp
   split at hx
   ·simp only[List.mem_cons,List.not_mem_nil,or_false]at hx
    rcases hx with rfl|rfl
    ·exact⟨by simp,by dsimp only;omega⟩
    ·exact⟨by simp,by dsimp only;omega⟩
   ·simp at hx
def eC.yM (x:eC) (l:List Int):eC:={ x with down:=l }
def pI (S:bH) (e:Int):bH×Int :=
 match gK (S.bP e ((S.bU e).yM (nD S e S.weights.length))) e (nN S e S.weights.length)with
 |(T,f)=>if f≠0 then(S,f)else(T,0)
theorem Xq {S:bH} (h:StOk S) {e item:Int} (x:Ix S e item) {l:List Int} (hl:l.length=(S.bU e).down.length) (hb:∀v∈l,0≤v∧v≤M58):Kn S (S.bP e ((S.bU e).yM l)):=by
 have E:=h.Hh x;exact⟨Kin.bP (h.bP x.e0 ⟨E.pl,E.ok,E.bl,E.bb,E.rl,E.rr,E.pr,E.prb,by show l.length=_;rw[hl];exact E.dl,hb,E.now⟩ (h.ahead _ (List.mem_of_getElem? (h.at_ x)) _ (h.at_ x))),qA x rfl⟩
theorem T5 {S:bH} (G:Gn S) {e item:Int} (x:Ix S e item):Kn S (pI S e).1∧kY (pI S e).2:=by
 have h:=G.toStOk;have E:=h.Hh x;have K:=Xq h x (Bw S e S.weights.length) (TY E.db _)
 unfold pI;obtain⟨K1,e1,-⟩:=nB K.ok (K.ix x) (nN S e S.weights.length)
 generalize gK (S.bP e ((S.bU e).yM (nD S e S.weights.length))) e (nN S e S.weights.length)=r at *
 obtain⟨T,f⟩:=r;dsimp only at *
 split
 ·exact⟨.refl h,e1⟩
 ·exact⟨K.trans K1,⟨by simp,by simp⟩⟩
theorem Cw {e:Int}:∀(n j:Nat) (S:bH),Gn S→(0≤e∧e<S.aH.length)→n+j≤S.weights.length→Sv S (jC e n j S).1∧kY (jC e n j S).2
 |0,_,S,G,_,_=>⟨.refl G,by show kY 0;exact⟨by simp,by simp⟩⟩
 |n+1,j,S,G,he,hj=>by
  unfold jC;split
  ·rename_i hm
   obtain⟨k1,e1⟩:=Re G (e:=e) (item:=(j:Int)) ⟨he.1,he.2,by omega,by omega⟩ hm
   generalize jX S e (j:Int)=r at *
   obtain⟨U,f⟩:=r;dsimp only at *
   split
   ·exact⟨.refl G,e1⟩
   ·obtain⟨k2,e2⟩:=Cw n (j+1) U k1.gn ⟨he.1,by rw[k1.le];exact he.2⟩ (by rw[k1.wt];omega)
    exact⟨k1.trans k2,e2⟩
  ·exact Cw n (j+1) S G he (by omega)
def eC.shut (x:eC) (y:EntC):eC:={ x with closed:=true,ahead:=[y] }
def iR (S:bH) (e:Int):bH×Int :=
 if(S.bU e).closed=true then(S,7)else
 match jC e S.weights.length 0 S with
 |(T,f)=>if f≠0 then(S,f)else
 match pI T e with
 |(U,f)=>if f≠0 then(S,f)else(U.bP e ((U.bU e).shut (S.bU e).toEntC),0)
theorem Gj {S:bH} (G:Gn S) {e:Int} (x:Ix S e 0):yG S (iR S e):=by
 have h:=G.toStOk;unfold iR;split
 ·exact yG.bad G ⟨by simp,by simp⟩
 ·rename_i uF
  obtain⟨k1,e1⟩:=Cw S.weights.length 0 S G ⟨x.e0,x.e1⟩ (by omega)
  generalize jC e S.weights.length 0 S=r at *;obtain⟨T,f⟩:=r;dsimp only at *
  split
  ·exact yG.bad G e1
  ·obtain⟨k2,e2⟩:=T5 k1.gn (k1.ix x)
   generalize pI T e=r at *;obtain⟨U,f⟩:=r;dsimp only at *
   split
   ·exact yG.bad G e2
   ·have k3:=k1.trans (k2.sv k1.gn)
    clear k1 k2 e1 e2;have E:=k3.gn.toStOk.Hh (k3.ix x)
    have E0:=h.Hh x;have hs:=k3.gn.toStOk.bP (e:=e) (x:=(U.bU e).shut (S.bU e).toEntC) x.e0 ⟨E.pl,E.ok,E.bl,E.bb,E.rl,E.rr,E.pr,E.prb,E.dl,E.db,E.now⟩ (fun y hy=>by
     rw[show((U.bU e).shut (S.bU e).toEntC).ahead=[(S.bU e).toEntC]from rfl,List.mem_singleton]at hy
     subst hy;rw[k3.wt,k3.me];exact E0)
    have hle:(U.bP e ((U.bU e).shut (S.bU e).toEntC)).aH.length=U.aH.length:=by simp[bH.bP]
    have Gu:=k3.gn;have hnow:=k3.now e;refine⟨⟨hs,Gu.rcl,Gu.Tu,Gu.GY,by rw[hle];exact Gu.rcb,by rw[hle];exact Gu.Tv,by rw[hle];exact Gu.trb,Gu.d0,?_,?_⟩,⟨by simp,by simp⟩,fun h=>absurd rfl h,by rw[hle,k3.le],k3.wt,k3.pe,k3.en,k3.me,k3.dn⟩
    ·intro y hy
     rcases List.mem_or_eq_of_mem_set hy with hy|rfl
     ·exact Gu.al y hy
     ·refine⟨rfl,fun y hy=>?_⟩
      rw[show((U.bU e).shut (S.bU e).toEntC).sh.2.2=[(S.bU e).toEntC]from rfl,List.mem_singleton]at hy
      subst hy;exact⟨hnow.symm,by simpa using uF⟩
    ·intro s hs
     have p:=Gu.pb s hs;have b:=(Gu.Tv s hs).1
     show s.period≤((U.aH.set e.toNat ((U.bU e).shut (S.bU e).toEntC)).getD s.eX.toNat eC.nil).now
     rw[List.getD_eq_getElem?_getD,List.getElem?_set];split
     ·rename_i he
      have e2:s.eX=e:=by have:=x.e0;omega
      rw[if_pos (by have:=x.e0;have:=x.e1;have:=k3.le;omega)]
      rw[e2]at p;exact p
     ·unfold bH.bU at p
      rw[List.getD_eq_getElem?_getD]at p;exact p
end
section
open Mc
section
variable {S:bH} {e:Int}
end
end
section
open Mc
theorem Nr (a:Option Addr) (cap:Nat) (ws:List Int) (t:Int) (w:World) (h:Row w 1 a ws.length cap ws) (hn:ws.length≤1000000) (ht:iM t) (hb:pS t ws=false) (he:cY ws=0) :
  Calls Tryz.prog 90 #[.int .i64 t,.slice a ws.length cap] w fun e w'=>∃g cap',e=.returned (.tuple #[.slice (some ⟨g,0,none⟩) ws.length cap',.int .i64 0])∧ws.length≤cap'∧cap'≤maxLen∧g<w'.heap.size∧w.heap.size≤g∧bD w' g 0 (fD t ws).1∧(∀i,w'.frozen? ⟨g,i,none⟩=false)∧Below w.heap.size w w':=by
 have ho:=LK (key:=wC (iF t (cU ws) ws)) (List.range ws.length)
 refine(HK a cap ws (LL (wC (iF t (cU ws) ws)) (List.range ws.length)) t w h hn ht (fun _ _=>ho)).mono ?_
 rintro e w' ⟨k,hB⟩
 rw[if_neg (by rw[hb];simp),if_neg (by rw[he];simp)]at k
 obtain⟨g,cap',rfl,k1,k2,k3,k4,k5,k6⟩:=k;refine⟨g,cap',rfl,k1,k2,k3,k4,?_,k6,hB⟩
 unfold fD;rw[if_neg (by rw[hb];simp),if_neg (by rw[he];simp)]
 exact k5
def Hb (A:List Int) (k:Nat):List Int:=(A.take k).map (fun x=>-x)++A.drop k
theorem N5 (A:List Int) (k:Nat) (h:k≤A.length):(Hb A k).length=A.length:=by simp[Hb];omega
theorem adb (A:List Int) (k:Nat) (h:k<A.length):(Hb A k).getD k 0=A.getD k 0:=by
 unfold Hb;rw[List.getD_eq_getElem?_getD,List.getD_eq_getElem?_getD,List.getElem?_append_right (by simp;omega)]
 simp only[List.length_map,List.length_take];rw[show k-min k A.length=0 by omega,List.getElem?_drop]
 rfl
theorem ada (A:List Int) (k:Nat) (h:k<A.length):(Hb A k).set k (-(A.getD k 0))=Hb A (k+1):=by
 unfold Hb;have hx:A.getD k 0=A[k]:=by rw[List.getD_eq_getElem?_getD,List.getElem?_eq_getElem h];rfl
 rw[List.set_append_right _ _ (by simp;omega)]
 simp only[List.length_map,List.length_take];rw[show k-min k A.length=0 by omega,List.drop_eq_getElem_cons h,List.set_cons_zero,List.take_add_one,List.getElem?_eq_getElem h,hx]
 show(A.take k).map _++(-A[k]::A.drop (k+1))=(A.take k++[A[k]]).map _++_
 rw[List.map_append,List.append_assoc];rfl
set_option maxRecDepth 20000 in
set_option maxHeartbeats 1000000 in
theorem Fk (a:Option Addr) (cap:Nat) (ws:List Int) (v:Int) (w:World) (h:Row w 1 a ws.length cap ws) (hn:ws.length≤1000) (hv:v<0) (hv2:-288230376151711744≤v) (hb:pS (-v) ws=false) (he:cY ws=0) :
  Calls Tryz.prog 181 #[.int .i64 v,.slice a ws.length cap] w fun e w'=>∃g cap',e=.returned (.tuple #[.slice (some ⟨g,0,none⟩) ws.length cap',.int .i64 0])∧ws.length≤cap'∧cap'≤maxLen∧g<w'.heap.size∧w.heap.size≤g∧bD w' g 0 ((fD (-v) ws).1.map (fun x=>-x))∧Below w.heap.size w w':=by
 have hS:=Nr a cap ws (-v) w h (by omega) ⟨by omega,by omega⟩ hb he
 obtain⟨A,hA⟩:∃A,(fD (-v) ws).1=A:=⟨_,rfl⟩
 have hbd:A.length=ws.length∧∀x∈A,0≤x∧x≤288230376151711744:=by
  rcases Hx (t:=-v) (ws:=ws)with⟨_,_,_,k1,k2,_⟩|⟨k1,_⟩
  ·rw[hA]at k1 k2
   exact⟨k1,fun x hx=>by have:=k2 x hx;omega⟩
  ·exfalso
   unfold fD at k1;rw[if_neg (by rw[hb];simp),if_neg (by rw[he];simp)]at k1
   simp at k1
 rw[hA]at hS ⊢;obtain⟨n,hN⟩:∃n,ws.length=n:=⟨_,rfl⟩
 rw[hN]at hS hbd hn ⊢;have hwv:IntKind.i64.wrap (-v)=-v:=IntWalk.i64_in _ (by omega)
 have hbh:=Lib.hid hbd;have hSh:=Lib.hid hS;clear h hb he hA hN hbd hS;go_enter Tryz.func181,Tryz.ntmps181
 go_wp2_with (go_at_call 90;refine hSh.out.mono ?_;rintro e w1 ⟨g,cap',rfl,k1,k2,k3,k4,k5,k6,hB⟩;unfold maxLen at k2)
 go_loopw [8] (fun i wr=>∃k:Nat,k≤n∧i=.int .i64 (k:Int)∧bD wr g 0 (Hb A k)∧(∀i,wr.frozen? ⟨g,i,none⟩=false)∧g<wr.heap.size∧Below w.heap.size w wr) (fun i _=>n-(intOf i).toNat)
 case atStart=>exact⟨0,by omega,rfl,k5,k6,k3,hB⟩
 case round =>
  obtain⟨k,hk,rfl,c,fz,lt,hb⟩:=hrel;obtain⟨hl,hbd⟩:=hbh.out;by_cases hlt:k<n
  ·have hltI:(k:Int)<(n:Int):=by omega
   have hk0:(0:Int)≤(k:Int):=by omega
   have c0:=c k (by rw[N5 _ _ (by omega)];omega)
   rw[Nat.zero_add,adb _ _ (by omega)]at c0
   have hput:=bD.put c (j:=k) (by rw[N5 _ _ (by omega)];omega) (-(A.getD k 0))
   rw[Nat.zero_add,ada _ _ (by omega)]at hput
   have hx:=hbd _ (fR (d:=0) (show k<A.length by omega))
   obtain⟨x,hxe⟩:∃x,A.getD k 0=x:=⟨_,rfl⟩
   rw[hxe]at c0 hput hx;have f0:=fz k;have w2:IntKind.i64.wrap (-x)=-x:=IntWalk.i64_in _ (by omega)
   have hfz:∀i,(wr.setCell ⟨g,k,none⟩ (.int .i64 (-x))).frozen? ⟨g,i,none⟩=false:=fun i=>by rw[World.frozen?_setCell];exact fz i
   have hbel:Below w.heap.size w (wr.setCell ⟨g,k,none⟩ (.int .i64 (-x))):=hb.setCell (p:=⟨g,k,none⟩) (by simp only;omega) _
   have hputh:=Lib.hid hput;have hfzh:=Lib.hid hfz;clear hl hbd hxe hput hfz hx c k5;go_wp2_with fail
   case' roundEnd =>
    refine⟨⟨k+1,by omega,by go_num,hputh.out,hfzh.out,by simpa[World.setCell]using lt,hbel⟩,?_⟩
    simp[intOf];omega
  ·obtain rfl:k=n:=by omega
   have hg:¬ (k:Int)<(k:Int):=by omega
   have e:Hb A k=A.map (fun x=>-x):=by unfold Hb;rw[List.take_of_length_le (by omega),List.drop_eq_nil_of_le (by omega),List.append_nil]
   rw[e]at c;have ch:=Lib.hid c;clear e hl hbd c k5;go_wp2_with fail
   go_ret2
   exact⟨g,cap',rfl,k1,by unfold maxLen;exact k2,lt,k4,ch.out,hb⟩
theorem BS {v:Int} {ws:List Int} (hv:rV v) (hw:∀k∈ws,0≤k∧k≤1073741824) (hl:ws.length≤40) (hs:∃k∈ws,0<k):Ck 181 [.i v,.lit 1 (aA ws)] (.aZ [.lit 1 (aA (kV v ws).1),.i 0]):=by
 have hI:eN ws:=fun k hk=>by have:=hw k hk;exact⟨by omega,by omega⟩
 by_cases h0:0≤v
 ·have hS:=Pc (t:=v) (ws:=ws) ⟨by omega,by omega⟩ hI (by omega)
  obtain⟨g1,g2,g3⟩:=vQ (t:=v) (w:=ws) ⟨h0,hv.2⟩ hw hl hs
  rw[g1]at hS;have e:(kV v ws).1=(fD v ws).1:=by unfold kV;rw[if_pos h0]
  rw[e];generalize (fD v ws).1=C at *
  have hv2:=hv.2;exact cw _ (ev1 { vars:=[(0,288230376151711744)],bT:=[(90,[.v 0,.q 1 0],(.aZ [.q 1 1,.i 0]))] } [v] [] [aA ws,aA C] .nil) [.v 0,.q 1 0] (.aZ [.q 1 1,.i 0]) (kc hS kn)
 ·obtain⟨g0,g1,g2⟩:pS (-v) ws=false∧cY ws=0∧(fD (-v) ws).1.length=ws.length:=by
   have hv1:=hv.1;obtain⟨q1,q2,q3⟩:=vQ (t:=-v) (w:=ws) ⟨by omega,by omega⟩ hw hl hs
   refine⟨?_,(M5 (by have:=B5 1073741824 ws hw;omega)).1,q2⟩
   cases hb:pS (-v) ws with
   |false=>rfl
   |true=>unfold fD at q1;rw[if_pos hb]at q1;cases q1
  have e:(kV v ws).1=(fD (-v) ws).1.map (fun x=>-x):=by unfold kV;rw[if_neg h0]
  rw[e];refine⟨aX (.c _) (aX (kK _).lit eM),.aZ _ (aX (kK _).lit (aX (.c _) eM)),?_⟩
  intro A w vs hA hG hl' hv';have hvs:=EM hl';have h0':=hv' 0 _ rfl;generalize vs.getD 0 Go.undef=v0 at *;have h1:=hv' 1 _ rfl;generalize vs.getD 1 Go.undef=v1 at *;subst hvs;cases h0';obtain⟨a,cap,rfl,R⟩:=Eo h1 hI;refine(Fk a cap ws v w R (by omega) (by omega) hv.1 g0 g1).mono ?_
  rintro e w' ⟨g,cap',rfl,k1,k2,k3,k4,k5,hb⟩
  refine⟨_,rfl,kC ?_ mZ,hb⟩
  have hlen:((fD (-v) ws).1.map (fun x=>-x)).length=ws.length:=by rw[List.length_map];exact g2
  generalize (fD (-v) ws).1.map (fun x=>-x)=B at *
  rw[←hlen]at k1 ⊢;exact Ow hA k1 k2 (.inr ⟨g,0,rfl,k4,k3,k5⟩)
def agQ (b:Bk) (fi:List AV) (bi:List Mc.bY) (i:Nat) (ids:oU) (fo:List AV) (bo:List Mc.bY):Bool :=
 (fi.all (sI b bi.length)&&bi.all (bI b bi.length))&&match fi[i]? with
 |some x=>(match wD (eZ bi) 16 x with
  |some (y,js)=>Ez (zU ids) (fi.set i y) fo&&Ph ids (eW (eZ bi) (js.map fun id=>(id,bY.dead))) ids bo&&ndC ids&&(fo.all (sO bo.length)&&bo.all (bO bo.length))
  |none=>false)
 |none=>false
def aer (b:Bk) (fi:List AV) (bi:List Mc.bY) (i:Nat) (ids:oU) (fo:List AV) (bo:List Mc.bY):Prop:=agQ b fi bi i ids fo bo=true
section
variable {b:Bk} {ev:@Ev b} {A:Nat→Prop} {w0:World} {a0:Act} {mm:Nat→St} {w:World} {a:Act} {fi fo fc fd:List AV} {bi bo bc bd:List Mc.bY} {ids:oU} {i:Nat}
theorem eU.Ol [Bk] [Ev] {m:Nat→St} {f:List AV} {h:AH} (pr:eU A w0 a0 m w a f h) {x y:AV} {js:List Nat} (hi:f[i]?=some x) (hz:wD h 16 x=some (y,js)) :
  eU A w0 a0 (lD m js) w a (f.set i y) (eW h (js.map fun id=>(id,bY.dead))):=by
 obtain⟨E,H,F,N⟩:=pr;obtain⟨H2,E2⟩:=H.Ol js;refine⟨E.trans E2,H2,?_,N⟩
 have F2:=F.ext E2;refine⟨by rw[List.length_set];exact F2.size,?_,F2.defers⟩
 intro k z hk;rw[List.getElem?_set]at hk;split at hk
 ·rename_i he
  subst he;split at hk
  ·cases hk
   exact .pure _ _ (CZ H js hz (fun id h=>h) (F.rd _ _ hi))
  ·cases hk
 ·exact F2.rd k z hk
theorem aer.go (s:aer b fi bi i ids fo bo) (ev:@Ev b) (pr:@eU dI dN A w0 a0 mm w a fc (eZ bc))
  (ef:fi.map (@jP b ev)=fc:=by rfl) (eb:bi.map (@uH b ev)=bc:=by rfl) (eg:fo.map (@jP b ev)=fd:=by rfl) (eh:bo.map (@uH b ev)=bd:=by rfl) (hg:b.kI=[]:=by rfl):∃mm,@eU dI dN A w0 a0 mm w a fd (eZ bd):=by
 unfold aer agQ at s;rw[Bool.and_eq_true]at s;obtain⟨s1,s2⟩:=s;obtain⟨m1,pr⟩:=sS b ev pr ef eb s1 hg;split at s2
 ·rename_i x hx
  split at s2
  ·rename_i y js hz
   simp only[Bool.and_eq_true]at s2;have pr2:=@eU.Ol A w0 a0 w a i b ev m1 fi (eZ bi) pr x y js hx hz
   obtain⟨m2,pr3⟩:=Ny b ev (eU.to (ids:=ids) pr2 (Cr s2.1.1.1) (Gs pr2.rel.PR s2.1.1.2) (ade s2.1.2) hg) (by rw[Bool.and_eq_true];exact s2.2)
   rw[eg,eh]at pr3;exact⟨m2,pr3⟩
  ·cases s2
 ·cases s2
end
end
section
open Mc
set_option maxRecDepth 1000000
section
variable {S:bH} {e item loc:Int}
theorem O6 (G:Gn S) (X:Ix S e item) (l0:-2≤loc) (l1:loc≤3) {g:AP} (hg:g∈S.aU):Ck 180 [S.av,.agg g.row,.i e,.i item,.i loc] (.c (.bool (cX S e item loc g))):=by
 have h:=G.toStOk;have E:=h.Hh X;have:=h.hn;have:=h.hw;have:=X.e0;have:=X.e1;have:=X.i0;have:=X.i1
 obtain⟨b1,b2,b3,b4,b5,b6,b7,b8⟩:=G.Tv g hg;have hat:=h.at_ X;obtain⟨x,hx⟩:∃x,x=S.bU e:=⟨_,rfl⟩
 have hat:S.aH[e.toNat]?=some ⟨⟨x.now,x.closed,x.bE,x.dC,x.bF,x.aW,x.down⟩,x.ahead⟩:=by rw[hx];exact hat
 have xn:=E.now;rw[←hx]at xn;have fin:∀b,cX S e item loc g=b→Ck 180 [S.av,.agg g.row,.i e,.i item,.i loc] (.c (.bool b))→Ck 180 [S.av,.agg g.row,.i e,.i item,.i loc] (.c (.bool (cX S e item loc g))):=fun b hb h=>by rw[hb];exact h
 unfold cX at fin ⊢;rw[←hx]at fin ⊢;obtain⟨ge,gi,gl,gq,gb,gc,gp,gd,gw⟩:=g;dsimp only at *
 cases gw with
 |false=>exact fin false rfl (cw _ (ev1 { vars:=Za,facts:=Vh,lens:=W2,kT:=Qk } [(S.aH.length:Int),e,item,loc,x.now,ge,gi,gl,gd] [.I S.aB,.I S.aD,.I S.done,.I x.now,.bool x.closed,.I gq,.I gb,.I gc,.I gp] (sT S [bL x.bE,aA x.dC,bM x.bF,aA x.aW,aA x.down,bV x.ahead]) (.d (aE hat) .nil)) [Wu,(.agg [.v 5,.v 6,.v 7,.o 5,.o 6,.o 7,.o 8,.v 8,WH]),.v 1,.v 2,.v 3] WH kn)
 |true =>
  rcases(by omega:ge<e∨e<ge∨ge=e)with h1|h1|h1
  ·exact fin false (by simp;omega) (cw _ (ev1 { vars:=Za,facts:=[Vx,([([1],-1),([5],1)],-200,-1)],lens:=W2,kT:=Qk } [(S.aH.length:Int),e,item,loc,x.now,ge,gi,gl,gd] [.I S.aB,.I S.aD,.I S.done,.I x.now,.bool x.closed,.I gq,.I gb,.I gc,.I gp] (sT S [bL x.bE,aA x.dC,bM x.bF,aA x.aW,aA x.down,bV x.ahead]) (.d (aE hat) .nil)) Jo WH kn)
  ·exact fin false (by simp;omega) (cw _ (ev1 { vars:=Za,facts:=[Vx,([([1],-1),([5],1)],1,200)],lens:=W2,kT:=Qk } [(S.aH.length:Int),e,item,loc,x.now,ge,gi,gl,gd] [.I S.aB,.I S.aD,.I S.done,.I x.now,.bool x.closed,.I gq,.I gb,.I gc,.I gp] (sT S [bL x.bE,aA x.dC,bM x.bF,aA x.aW,aA x.down,bV x.ahead]) (.d (aE hat) .nil)) Jo WH kn)
  rcases(by omega:gi<item∨item<gi∨gi=item)with h2|h2|h2
  ·exact fin false (by simp;omega) (cw _ (ev1 { vars:=Za,facts:=[Vx,Vy,([([2],-1),([6],1)],-200,-1)],lens:=W2,kT:=Qk } [(S.aH.length:Int),e,item,loc,x.now,ge,gi,gl,gd] [.I S.aB,.I S.aD,.I S.done,.I x.now,.bool x.closed,.I gq,.I gb,.I gc,.I gp] (sT S [bL x.bE,aA x.dC,bM x.bF,aA x.aW,aA x.down,bV x.ahead]) (.d (aE hat) .nil)) Jo WH kn)
  ·exact fin false (by simp;omega) (cw _ (ev1 { vars:=Za,facts:=[Vx,Vy,([([2],-1),([6],1)],1,200)],lens:=W2,kT:=Qk } [(S.aH.length:Int),e,item,loc,x.now,ge,gi,gl,gd] [.I S.aB,.I S.aD,.I S.done,.I x.now,.bool x.closed,.I gq,.I gb,.I gc,.I gp] (sT S [bL x.bE,aA x.dC,bM x.bF,aA x.aW,aA x.down,bV x.ahead]) (.d (aE hat) .nil)) Jo WH kn)
  rcases(by omega:gl<loc∨loc<gl∨gl=loc)with h3|h3|h3
  ·exact fin false (by simp;omega) (cw _ (ev1 { vars:=Za,facts:=[Vx,Vy,Vz,([([3],-1),([7],1)],-200,-1)],lens:=W2,kT:=Qk } [(S.aH.length:Int),e,item,loc,x.now,ge,gi,gl,gd] [.I S.aB,.I S.aD,.I S.done,.I x.now,.bool x.closed,.I gq,.I gb,.I gc,.I gp] (sT S [bL x.bE,aA x.dC,bM x.bF,aA x.aW,aA x.down,bV x.ahead]) (.d (aE hat) .nil)) Jo WH kn)
  ·exact fin false (by simp;omega) (cw _ (ev1 { vars:=Za,facts:=[Vx,Vy,Vz,([([3],-1),([7],1)],1,200)],lens:=W2,kT:=Qk } [(S.aH.length:Int),e,item,loc,x.now,ge,gi,gl,gd] [.I S.aB,.I S.aD,.I S.done,.I x.now,.bool x.closed,.I gq,.I gb,.I gc,.I gp] (sT S [bL x.bE,aA x.dC,bM x.bF,aA x.aW,aA x.down,bV x.ahead]) (.d (aE hat) .nil)) Jo WH kn)
  rcases(by omega:gd<x.now∨x.now<gd∨gd=x.now)with h4|h4|h4
  ·exact fin false (by simp;omega) (cw _ (ev1 { vars:=Za,facts:=[Vx,Vy,Vz,VA,([([4],-1),([8],1)],-200,-1)],lens:=W2,kT:=Qk } [(S.aH.length:Int),e,item,loc,x.now,ge,gi,gl,gd] [.I S.aB,.I S.aD,.I S.done,.I x.now,.bool x.closed,.I gq,.I gb,.I gc,.I gp] (sT S [bL x.bE,aA x.dC,bM x.bF,aA x.aW,aA x.down,bV x.ahead]) (.d (aE hat) .nil)) Jo WH kn)
  ·exact fin false (by simp;omega) (cw _ (ev1 { vars:=Za,facts:=[Vx,Vy,Vz,VA,([([4],-1),([8],1)],1,200)],lens:=W2,kT:=Qk } [(S.aH.length:Int),e,item,loc,x.now,ge,gi,gl,gd] [.I S.aB,.I S.aD,.I S.done,.I x.now,.bool x.closed,.I gq,.I gb,.I gc,.I gp] (sT S [bL x.bE,aA x.dC,bM x.bF,aA x.aW,aA x.down,bV x.ahead]) (.d (aE hat) .nil)) Jo WH kn)
  ·exact fin true (by simp[h1,h2,h3,h4]) (cw _ (ev1 { vars:=Za,facts:=[Vx,Vy,Vz,VA,([([4],-1),([8],1)],0,0)],lens:=W2,kT:=Qk } [(S.aH.length:Int),e,item,loc,x.now,ge,gi,gl,gd] [.I S.aB,.I S.aD,.I S.done,.I x.now,.bool x.closed,.I gq,.I gb,.I gc,.I gp] (sT S [bL x.bE,aA x.dC,bM x.bF,aA x.aW,aA x.down,bV x.ahead]) (.d (aE hat) .nil)) Jo WP kn)
end
theorem MA {L:List bB} {p0 p1 p2:Int} (h:LR L) (h0:0≤p0∧p0≤288230376151711744) (h1:0≤p1∧p1≤288230376151711744) (h2:0≤p2∧p2≤288230376151711744) :
  Ck 122 [dA.av ⟨L,p0,p1,p2⟩] (.aZ [dA.av ⟨(oY L ⟨p0,p1,p2⟩).1,0,0,0⟩,.agg [.i (oY L ⟨p0,p1,p2⟩).2.1.q,.i (oY L ⟨p0,p1,p2⟩).2.1.v,.i (oY L ⟨p0,p1,p2⟩).2.1.p,.i (oY L ⟨p0,p1,p2⟩).2.2.1.q,.i (oY L ⟨p0,p1,p2⟩).2.2.1.v,.i (oY L ⟨p0,p1,p2⟩).2.2.1.p,.i (oY L ⟨p0,p1,p2⟩).2.2.2.q,.i (oY L ⟨p0,p1,p2⟩).2.2.2.v,.i (oY L ⟨p0,p1,p2⟩).2.2.2.p]]):=by
 obtain⟨M0,X0,e0⟩:∃M X,tZ L p0=(M,X):=⟨_,_,rfl⟩
 obtain⟨M1,X1,e1⟩:∃M X,tZ M0 p1=(M,X):=⟨_,_,rfl⟩
 obtain⟨M2,X2,e2⟩:∃M X,tZ M1 p2=(M,X):=⟨_,_,rfl⟩
 have hs:oY L ⟨p0,p1,p2⟩=(M2,X0,X1,X2):=by simp only[oY,e0,e1,e2]
 rw[hs];dsimp only
 have st:∀(M:List bB) (n:Int) (M':List bB) (X:bB),LR M→0≤n∧n≤288230376151711744→tZ M n=(M',X)→(n=0∧M=M'∧X=.zero)∨(0<n∧LR M'∧∃f,Ck 215 [.lit 3 (aO M),.i n] (.aZ [.lit 3 (aO M'),X.av,.i f])):=by
  intro M n M' X hM hn he;unfold tZ at he;split at he
  ·cases he
   exact .inr ⟨‹_›,pN hM,_,Iv hM ⟨by omega,by omega⟩⟩
  ·cases he
   exact .inl ⟨by omega,rfl,rfl⟩
 clear hs;rcases st L p0 _ _ h h0 e0 with⟨rfl,rfl,rfl⟩|⟨q0,hM0,f0,ho0⟩
 ·rcases st L p1 _ _ h h1 e1 with⟨rfl,rfl,rfl⟩|⟨q1,hM1,f1,ho1⟩
  ·rcases st L p2 _ _ h h2 e2 with⟨rfl,rfl,rfl⟩|⟨q2,hM2,f2,ho2⟩
   ·exact cw _ (ev1 {  } [] [] [aO L] .nil) [(.agg [.q 3 0,.i 0,.i 0,.i 0])] (.aZ [(.agg [.q 3 0,.i 0,.i 0,.i 0]),(.agg [.i 0,.i 0,.i 0,.i 0,.i 0,.i 0,.i 0,.i 0,.i 0])]) kn
   ·obtain⟨x2q,x2v,x2p⟩:=X2
    exact cw _ (ev1 { vars:=VB,bT:=QS } [p2] [.I x2q,.I x2v,.I x2p,.I f2] [aO L,aO M2] .nil) [(.agg [.q 3 0,.i 0,.i 0,.v 0])] (.aZ [UM,(.agg [.i 0,.i 0,.i 0,.i 0,.i 0,.i 0,.o 0,.o 1,.o 2])]) (kc ho2 kn)
  ·obtain⟨x1q,x1v,x1p⟩:=X1
   rcases st M1 p2 _ _ hM1 h2 e2 with⟨rfl,rfl,rfl⟩|⟨q2,hM2,f2,ho2⟩
   ·exact cw _ (ev1 { vars:=VB,bT:=QS } [p1] [.I x1q,.I x1v,.I x1p,.I f1] [aO L,aO M1] .nil) [(.agg [.q 3 0,.i 0,.v 0,.i 0])] (.aZ [UM,(.agg [.i 0,.i 0,.i 0,.o 0,.o 1,.o 2,.i 0,.i 0,.i 0])]) (kc ho1 kn)
   ·obtain⟨x2q,x2v,x2p⟩:=X2
    exact cw _ (ev1 { vars:=Yi,bT:=KX } [p1,p2] [.I x1q,.I x1v,.I x1p,.I f1,.I x2q,.I x2v,.I x2p,.I f2] [aO L,aO M1,aO M2] .nil) [(.agg [.q 3 0,.i 0,.v 0,.v 1])] (.aZ [UN,(.agg [.i 0,.i 0,.i 0,.o 0,.o 1,.o 2,.o 4,.o 5,.o 6])]) (kc ho1 (kc ho2 kn))
 ·obtain⟨x0q,x0v,x0p⟩:=X0
  rcases st M0 p1 _ _ hM0 h1 e1 with⟨rfl,rfl,rfl⟩|⟨q1,hM1,f1,ho1⟩
  ·rcases st M0 p2 _ _ hM0 h2 e2 with⟨rfl,rfl,rfl⟩|⟨q2,hM2,f2,ho2⟩
   ·exact cw _ (ev1 { vars:=VB,bT:=QS } [p0] [.I x0q,.I x0v,.I x0p,.I f0] [aO L,aO M0] .nil) [(.agg [.q 3 0,.v 0,.i 0,.i 0])] (.aZ [UM,(.agg [.o 0,.o 1,.o 2,.i 0,.i 0,.i 0,.i 0,.i 0,.i 0])]) (kc ho0 kn)
   ·obtain⟨x2q,x2v,x2p⟩:=X2
    exact cw _ (ev1 { vars:=Yi,bT:=KX } [p0,p2] [.I x0q,.I x0v,.I x0p,.I f0,.I x2q,.I x2v,.I x2p,.I f2] [aO L,aO M0,aO M2] .nil) [(.agg [.q 3 0,.v 0,.i 0,.v 1])] (.aZ [UN,(.agg [.o 0,.o 1,.o 2,.i 0,.i 0,.i 0,.o 4,.o 5,.o 6])]) (kc ho0 (kc ho2 kn))
  ·obtain⟨x1q,x1v,x1p⟩:=X1
   rcases st M1 p2 _ _ hM1 h2 e2 with⟨rfl,rfl,rfl⟩|⟨q2,hM2,f2,ho2⟩
   ·exact cw _ (ev1 { vars:=Yi,bT:=KX } [p0,p1] [.I x0q,.I x0v,.I x0p,.I f0,.I x1q,.I x1v,.I x1p,.I f1] [aO L,aO M0,aO M1] .nil) [(.agg [.q 3 0,.v 0,.v 1,.i 0])] (.aZ [UN,(.agg [.o 0,.o 1,.o 2,.o 4,.o 5,.o 6,.i 0,.i 0,.i 0])]) (kc ho0 (kc ho1 kn))
   ·obtain⟨x2q,x2v,x2p⟩:=X2
    exact cw _ (ev1 { vars:=[(1,288230376151711744),(1,288230376151711744),(1,288230376151711744)],bT:=[Q1,Q2,(215,[.q 3 2,.v 2],(.aZ [.q 3 3,Vw,.o 11]))] } [p0,p1,p2] [.I x0q,.I x0v,.I x0p,.I f0,.I x1q,.I x1v,.I x1p,.I f1,.I x2q,.I x2v,.I x2p,.I f2] [aO L,aO M0,aO M1,aO M2] .nil) [(.agg [.q 3 0,.v 0,.v 1,.v 2])] (.aZ [(.agg [.q 3 3,.i 0,.i 0,.i 0]),(.agg [.o 0,.o 1,.o 2,.o 4,.o 5,.o 6,.o 8,.o 9,.o 10])]) (kc ho0 (kc ho1 (kc ho2 kn)))
namespace CO
abbrev cF (e item loc at' w sm i:AV):List AV:=fr 122 [(1,e),(2,item),(3,loc),(5,.ptr 10 0 0 0),(9,.ptr 3 1 0 0),(10,.ptr 10 2 0 0),(11,.i 0),(12,at'),(13,w),(14,sm),(15,i)]
abbrev gF (at' c p l i:AV):List AV:=fr 122 [(5,.ptr 10 0 0 0),(10,.ptr 10 2 0 0),(11,.i 0),(12,at'),(17,c),(19,p),(21,l),(22,i)]
abbrev oI (k n:Nat):AV:=.own 3 1 k 0 n
abbrev oX (n:Nat):AV:=.own 137 9 4 0 n
abbrev GW (l:List Int):Mc.bY:=.cells 3 1 (aA l)
abbrev cB (S:bH) (xq xv xp:Int):List Mc.bY:=[.cells 31 10 [[.i S.aB,.i S.aD,.lit 1 (aA S.weights),.lit 1 (dM S.methods),.lit 1 (dM S.iC),.lit 8 (bN S.aH),.lit 8 (kW S.bX),.lit 9 (gD S.aU),.lit 6 (gY S.aM),.i S.done]],.cells 101 3 [[.i xq,.i xv,.i xp]],.cells 31 10 ZB]
noncomputable def body:Code:=(Tryz.f125).body.getD .skip
abbrev agE (c:Code) (r:Option (RT Out)):Prop:=AK { vars:=[(0,40)],lens:=[(5,[([0],1)])] } c (Zb++List.replicate 117 .undef) [] [some 0,some 1,some 2,none,none] (cF (.o 3) (.o 4) (.o 5) (.own 3 1 3 0 0) (.own 3 1 4 0 0) WH (.i 0)) [JN,Uw,QH,W5,W5] r
noncomputable def zW:Option (RT Out):=Nm { vars:=[(0,40)],lens:=[(5,[([0],1)])] } body (Zb++List.replicate 117 .undef:List AV).length (Zb++List.replicate 117 .undef) [] 0
theorem aji:agE body zW:=⟨rfl,by decide +kernel,by decide +kernel⟩
abbrev acG (c:Code):Prop:=fL { vars:=ZP,facts:=[Vn,Vp],lens:=YC,kT:=QI,bT:=[(180,Ju,WH)] } c (cF (.o 3) (.o 4) (.o 5) VQ VR (.o 16) (.v 1)) Kp 0 [some 0,some 1,some 2,some 3,some 4] (cF (.o 3) (.o 4) (.o 5) VQ VR (.o 16) Wd) Kp
theorem ajd:acG (aF zW):=⟨_,rfl,by decide +kernel,by decide +kernel⟩
abbrev acF (c:Code):Prop:=fL { vars:=ZP,facts:=[Vn,Vp,(WL,0,2147483648)],lens:=YC,kT:=QI,bT:=K7 } c (cF (.o 3) (.o 4) (.o 5) VQ VR WP (.v 1)) Kp 0 [some 0,some 1,some 2,some 7,some 9] (cF (.o 3) (.o 4) (.o 5) UO UP WP Wd) Kj
theorem ajc:acF (aF zW):=⟨_,rfl,by decide +kernel,by decide +kernel⟩
abbrev RP (c:Code):Prop:=fL { vars:=ZP,facts:=[Vn,Vp,(WL,1,2147483648)],lens:=YC,kT:=QI,bT:=K7 } c (cF (.o 3) (.o 4) (.o 5) VQ VR WH (.v 1)) Kp 0 [some 0,some 1,some 2,some 7,some 9] (cF (.o 3) (.o 4) (.o 5) UO UP WP Wd) Kj
theorem ahA:RP (aF zW):=⟨_,rfl,by decide +kernel,by decide +kernel⟩
abbrev RQ (c:Code):Prop:=fL { vars:=ZP,facts:=[Vn,Vp,(WL,0,0)],lens:=YC,kT:=QI,bT:=K7 } c (cF (.o 3) (.o 4) (.o 5) VQ VR WH (.v 1)) Kp 0 [some 0,some 1,some 2,some 7,some 9] (cF (.o 3) (.o 4) (.o 5) UO UP WH Wd) [JN,Uw,QH,YK,(.sc 3 1 8 [] [[.i 0]] WV)]
theorem ahB:RQ (aF zW):=⟨_,rfl,by decide +kernel,by decide +kernel⟩
abbrev acL (c:Code):Prop:=fL { vars:=W6,lens:=YD } c (cF (.o 3) (.o 4) (.o 5) VS VT (.o 9) (.v 0)) Kq 2 [some 0,some 1,some 2,some 3,some 4] (cF (.o 3) (.o 4) (.o 5) VS VT (.o 9) (.v 0)) Kq
theorem ajf:acL (aF zW):=⟨_,rfl,by decide +kernel,by decide +kernel⟩
abbrev acK (o:Option (RT Out)):Prop:=rT { vars:=W6,lens:=YD } Tryz.f125 o 0 (cF (.o 3) (.o 4) (.o 5) VS VT WH (.v 0)) Kq (Uq)
theorem ahE:acK zW:=⟨_,rfl,by decide +kernel,by decide +kernel,by kernel_rfl⟩
theorem ajh:aer { vars:=W6,lens:=YD } (cF (.o 3) (.o 4) (.o 5) VS VT WP (.v 0)) Kq 13 [some 0,some 1,some 2,some 3] (cF (.o 3) (.o 4) (.o 5) VS (.q 1 8) WP (.v 0)) Kz:=by unfold aer;decide +kernel
abbrev acJ (o:Option (RT Out)) (r:Option (RT Out)):Prop:=yE { vars:=W6,lens:=YD,bT:=JM } o 0 (cF (.o 3) (.o 4) (.o 5) VS (.q 1 8) WP (.v 0)) Kz [some 0,some 1,some 2,some 3,some 4] (gF VS (.q 1 9) (.q 1 10) Vq (.i 0)) [JN,Uw,QH,U4,(.sc 137 9 5 [] [] [([0],1)])] r
noncomputable def Fb:Option (RT Out):=rsA { vars:=W6,lens:=YD,bT:=JM } zW 0 (cF (.o 3) (.o 4) (.o 5) VS (.q 1 8) WP (.v 0):List AV).length (cF (.o 3) (.o 4) (.o 5) VS (.q 1 8) WP (.v 0)) Kz 4
theorem ahD:acJ zW Fb:=⟨rfl,by decide +kernel,by decide +kernel⟩
abbrev acM (c:Code):Prop:=fL { vars:=[(0,40),(0,40),(0,39),(0,39)],facts:=[([([1],1),([2],-1)],1,40),([([0],1),([3],-1)],1,40)],lens:=Qp,kT:=[(7,[([2],1)],[.v 3]),(8,[([2],1)],[.o 6]),(9,[([2],1)],[.o 7]),(10,[([3],1)],[.o 8,.o 9,.o 10,.o 11,.o 12,.o 13,.o 14,.o 15,.o 16])] } c (gF VS (.q 1 8) (.q 1 9) Vq (.v 2)) Ko 0 [some 0,some 1,some 2,some 3,some 4] (gF VS (.q 1 8) (.q 1 9) Vq (.e WV)) [JN,(.cells 101 3 [[.o 3,.o 4,.o 5]]),QH,U4,(.sc 137 9 10 [([([3],1)],[.o 8,.o 9,.o 10,.o 11,.o 12,.o 6,.o 7,.o 15,.o 16])] [] [([0],1)])]
theorem ajg:acM (aF Fb):=⟨_,rfl,by decide +kernel,by decide +kernel⟩
abbrev acI (c:Code):Prop:=fL { vars:=W6,lens:=Qp } c (gF VS (.q 1 8) (.q 1 9) Vq (.v 1)) Ko 4 [some 0,some 1,some 2,some 3,some 4] (gF VS (.q 1 8) (.q 1 9) Vq (.v 1)) Ko
theorem aje:acI (aF Fb):=⟨_,rfl,by decide +kernel,by decide +kernel⟩
abbrev acH (o:Option (RT Out)):Prop:=rT { vars:=W6,lens:=Qp } Tryz.f125 o 2 (gF VS (.q 1 8) (.q 1 9) Vq (.v 1)) Ko ((.aZ [(.agg [.o 0,.o 1,.q 1 1,.q 1 2,.q 1 3,.q 8 0,.q 8 4,.q 9 10,.q 6 6,.o 2]),.i 0]))
theorem ahC:acH Fb:=⟨_,rfl,by decide +kernel,by decide +kernel,by kernel_rfl⟩
noncomputable abbrev fC:Func:=Tryz.f125
section
variable {S:bH} {e item loc xq xv xp:Int} {A:Nat→Prop} {w0:World} {a0:Act} {R:AV}
theorem ajE (oA:Option (RT Out)) (rn:acG (aF oA)) (rt:acF (aF oA)) (rft:RP (aF oA)) (rff:RQ (aF oA)) (rx:acL (aF oA)) (G:Gn S) (X:Ix S e item) (l0:0≤loc) (l1:loc≤1)
  {mm:Nat→St} {w:World} {aa:Act} (pr:@eU dI dN A w0 a0 mm w aa (cF (.i e) (.i item) (.i loc) (oI 3 0) (oI 4 0) WH (.i 0)) (eZ (cB S xq xv xp++[GW [],GW []])))
  (kk:∀mm w aa,@eU dI dN A w0 a0 mm w aa (cF (.i e) (.i item) (.i loc) (oI 3 (DN (cX S e item loc) S.aU S.aU.length).length) (oI 4 (DN (cX S e item loc) S.aU S.aU.length).length) (.c (.bool (smN (cX S e item loc) S.aU S.aU.length))) (.i (S.aU.length:Int))) (eZ (cB S xq xv xp++[GW (DN (cX S e item loc) S.aU S.aU.length),GW (Ht (cX S e item loc) S.aU S.aU.length)]))→KS Tryz.prog (oK oA) (Fin Tryz.prog fC A w0 a0 R) (AX.exit 0).to aa w) :
  (Code.loop (aF oA)).wpIn (fw none) 9 Tryz.prog (KS Tryz.prog (oK oA) (Fin Tryz.prog fC A w0 a0 R)) aa w:=by
 have hsl:=G.Tu;refine eA (fun n a' w=>∃(j:Nat),n=S.aU.length-j∧j≤S.aU.length∧∃mm,@eU dI dN A w0 a0 mm w a' (cF (.i e) (.i item) (.i loc) (oI 3 (DN (cX S e item loc) S.aU j).length) (oI 4 (DN (cX S e item loc) S.aU j).length) (.c (.bool (smN (cX S e item loc) S.aU j))) (.i (j:Int))) (eZ (cB S xq xv xp++[GW (DN (cX S e item loc) S.aU j),GW (Ht (cX S e item loc) S.aU j)]))) ?_ (n:=S.aU.length) ⟨0,rfl,Nat.zero_le _,_,pr⟩
 rintro n aa w ⟨j,rfl,hj,mm,pr⟩
 have hle:=SX (cX S e item loc) S.aU j
 have hll:=ME (cX S e item loc) S.aU j
 rcases(by omega:j=S.aU.length∨j<S.aU.length)with rfl|hlt
 ·generalize DN (cX S e item loc) S.aU S.aU.length=A' at *
  generalize Ht (cX S e item loc) S.aU S.aU.length=Wt at *
  generalize smN (cX S e item loc) S.aU S.aU.length=sm at *
  obtain⟨m,hm⟩:∃m:Nat,A'.length=m:=⟨_,rfl⟩
  rw[hm]at pr hle hll kk;refine rx.go (ev1 _ [(S.aU.length:Int),(m:Int)] [.I S.aB,.I S.aD,.I S.done,.I e,.I item,.I loc,.I xq,.I xv,.I xp,.bool sm] (sT S [aA A',aA Wt]) .nil) (xK kn) pr ?_
  exact kk
 ·obtain⟨g,hg0⟩:∃g,S.aU[j]?=some g:=⟨_,List.getElem?_eq_getElem hlt⟩
  have hgm:=List.mem_of_getElem? hg0
  have hg:S.aU[(j:Int).toNat]?=some ⟨g.eX,g.item,g.loc,g.lS,g.back,g.cost,g.cN,g.period,g.waits⟩:=by simpa using hg0
  have hgd:S.aU.getD j .nil=g:=by rw[List.getD_eq_getElem?_getD,hg0];rfl
  obtain⟨b1,b2,b3,b4,b5,b6,b7,b8⟩:=G.Tv g hgm;have hw:=O6 G X (by omega) (by omega) hgm (loc:=loc)
  have nx:∀(A1 W1:List Int) (s1:Bool),A1=DN (cX S e item loc) S.aU (j+1)→W1=Ht (cX S e item loc) S.aU (j+1)→s1=smN (cX S e item loc) S.aU (j+1)→∀mm w a,@eU dI dN A w0 a0 mm w a (cF (.i e) (.i item) (.i loc) (oI 3 A1.length) (oI 4 A1.length) (.c (.bool s1)) (.i (1+(j:Int)))) (eZ (cB S xq xv xp++[GW A1,GW W1]))→∃n',n'<S.aU.length-j∧∃(j':Nat),n'=S.aU.length-j'∧j'≤S.aU.length∧∃mm,@eU dI dN A w0 a0 mm w a (cF (.i e) (.i item) (.i loc) (oI 3 (DN (cX S e item loc) S.aU j').length) (oI 4 (DN (cX S e item loc) S.aU j').length) (.c (.bool (smN (cX S e item loc) S.aU j'))) (.i (j':Int))) (eZ (cB S xq xv xp++[GW (DN (cX S e item loc) S.aU j'),GW (Ht (cX S e item loc) S.aU j')])):=by
   rintro A1 W1 s1 rfl rfl rfl mm w a pr
   rw[show(1+(j:Int))=((j+1:Nat):Int)by omega]at pr
   exact⟨_,by omega,j+1,rfl,by omega,mm,pr⟩
  simp only[DN,Ht,smN,hgd]at nx;generalize cX S e item loc g=b at *;generalize hAe:DN (cX S e item loc) S.aU j=A' at *
  generalize hWe:Ht (cX S e item loc) S.aU j=Wt at *
  generalize smN (cX S e item loc) S.aU j=sm at *
  clear hAe hWe;obtain⟨m,hm⟩:∃m:Nat,A'.length=m:=⟨_,rfl⟩
  rw[hm]at pr hle hll;have ap:∀(l:List Int) (v:Int),aA (l++[v])=aA l++[[.i v]]:=fun l v=>by simp[aA]
  have al:∀(v:Int),(A'++[v]).length=m+1:=fun v=>by simp[hm]
  have m1:(1+(m:Int)).toNat=m+1:=by omega
  cases b with
  |false =>
   refine rn.go (ev1 _ [(S.aU.length:Int),(j:Int),(m:Int),g.lS,g.back] [.I S.aB,.I S.aD,.I S.done,.I e,.I item,.I loc,.I xq,.I xv,.I xp,.I g.eX,.I g.item,.I g.loc,.I g.cost,.I g.cN,.I g.period,.bool g.waits,.bool sm] (sT S [aA A',aA Wt]) (.d (aV hg) .nil)) (xK (kc hw kn)) pr (fd:=cF (.i e) (.i item) (.i loc) (oI 3 m) (oI 4 m) (.c (.bool sm)) (.i (1+(j:Int)))) (bd:=cB S xq xv xp++[GW A',GW Wt]) ?_
   intro mm w a pr;rw[←hm]at pr;exact nx A' Wt sm (by simp) (by simp) (by simp) mm w a pr
  |true =>
   rw[if_pos rfl]at nx;have nx:=nx (A'++[(j:Int)]) (Wt++[g.lS-g.back])
   simp only[al]at nx;cases sm with
   |true =>
    refine rt.go (ev1 _ [(S.aU.length:Int),(j:Int),(m:Int),g.lS,g.back] [.I S.aB,.I S.aD,.I S.done,.I e,.I item,.I loc,.I xq,.I xv,.I xp,.I g.eX,.I g.item,.I g.loc,.I g.cost,.I g.cN,.I g.period,.bool g.waits] (sT S [aA A',aA Wt]) (.d (aV hg) .nil)) (xK (kc hw kn)) pr (fd:=cF (.i e) (.i item) (.i loc) (oI 3 (1+(m:Int)).toNat) (oI 4 (1+(m:Int)).toNat) WP (.i (1+(j:Int)))) (bd:=cB S xq xv xp++[.cells 3 1 (aA A'++[[.i (j:Int)]]),.cells 3 1 (aA Wt++[[.i (g.lS-g.back)]])]) ?_
    intro mm w a pr;rw[m1,←ap,←ap]at pr;exact nx true (by simp) (by simp) (by simp) mm w a pr
   |false =>
    rcases(by omega:g.back<g.lS∨g.back=g.lS)with hb|hb
    ·refine rft.go (ev1 _ [(S.aU.length:Int),(j:Int),(m:Int),g.lS,g.back] [.I S.aB,.I S.aD,.I S.done,.I e,.I item,.I loc,.I xq,.I xv,.I xp,.I g.eX,.I g.item,.I g.loc,.I g.cost,.I g.cN,.I g.period,.bool g.waits] (sT S [aA A',aA Wt]) (.d (aV hg) .nil)) (xK (kc hw kn)) pr (fd:=cF (.i e) (.i item) (.i loc) (oI 3 (1+(m:Int)).toNat) (oI 4 (1+(m:Int)).toNat) WP (.i (1+(j:Int)))) (bd:=cB S xq xv xp++[.cells 3 1 (aA A'++[[.i (j:Int)]]),.cells 3 1 (aA Wt++[[.i (g.lS-g.back)]])]) ?_
     intro mm w a pr;rw[m1,←ap,←ap]at pr;exact nx true (by simp) (by simp) (by simp[hb]) mm w a pr
    ·have hz:g.lS-g.back=0:=by omega
     rw[hz]at nx;refine rff.go (ev1 _ [(S.aU.length:Int),(j:Int),(m:Int),g.lS,g.back] [.I S.aB,.I S.aD,.I S.done,.I e,.I item,.I loc,.I xq,.I xv,.I xp,.I g.eX,.I g.item,.I g.loc,.I g.cost,.I g.cN,.I g.period,.bool g.waits] (sT S [aA A',aA Wt]) (.d (aV hg) .nil)) (xK (kc hw kn)) pr (fd:=cF (.i e) (.i item) (.i loc) (oI 3 (1+(m:Int)).toNat) (oI 4 (1+(m:Int)).toNat) WH (.i (1+(j:Int)))) (bd:=cB S xq xv xp++[.cells 3 1 (aA A'++[[.i (j:Int)]]),.cells 3 1 (aA Wt++[[.i 0]])]) ?_
     intro mm w a pr;rw[m1,←ap,←ap]at pr;exact nx false (by simp) (by simp) (by simp[hb]) mm w a pr
theorem ajD (o2:Option (RT Out)) (rr:acM (aF o2)) (ry:acI (aF o2)) (G:Gn S) {A' C P:List Int} {m:Nat} (hA:A'.length=m) (hC:C.length=m) (hP:P.length=m) (hm:m≤40) (hin:∀k∈A',0≤k∧k<S.aU.length)
  {mm:Nat→St} {w:World} {aa:Act} (pr:@eU dI dN A w0 a0 mm w aa (gF (oI 3 m) (.lit 1 (aA C)) (.lit 1 (aA P)) (oX S.aU.length) (.i 0)) (eZ (cB S xq xv xp++[GW A',.cells 137 9 (gD S.aU)])))
  (kk:∀mm w aa,@eU dI dN A w0 a0 mm w aa (gF (oI 3 m) (.lit 1 (aA C)) (.lit 1 (aA P)) (oX S.aU.length) (.i (m:Int))) (eZ (cB S xq xv xp++[GW A',.cells 137 9 (gD (uC A' C P S.aU m))]))→KS Tryz.prog (oK o2) (Fin Tryz.prog fC A w0 a0 R) (AX.exit 2).to aa w) :
  (Code.loop (aF o2)).wpIn (fw none) 9 Tryz.prog (KS Tryz.prog (oK o2) (Fin Tryz.prog fC A w0 a0 R)) aa w:=by
 have hsl:=G.Tu;refine eA (fun n a' w=>∃(j:Nat),n=m-j∧j≤m∧∃mm,@eU dI dN A w0 a0 mm w a' (gF (oI 3 m) (.lit 1 (aA C)) (.lit 1 (aA P)) (oX S.aU.length) (.i (j:Int))) (eZ (cB S xq xv xp++[GW A',.cells 137 9 (gD (uC A' C P S.aU j))]))) ?_ (n:=m) ⟨0,rfl,Nat.zero_le _,_,pr⟩
 rintro n aa w ⟨j,rfl,hj,mm,pr⟩
 have hlen:=Bf A' C P S.aU j;rcases(by omega:m=j∨j<m)with rfl|hlt
 ·generalize uC A' C P S.aU m=c2 at *
  refine ry.go (ev1 _ [(S.aU.length:Int),(m:Int)] [.I S.aB,.I S.aD,.I S.done,.I xq,.I xv,.I xp] (sT S [aA A',aA C,aA P,gD c2]) .nil) (xK kn) pr ?_
  exact kk
 ·have hk:A'[(j:Int).toNat]?=some (A'.getD j 0):=getD_some (by omega)
  have hc:C[(j:Int).toNat]?=some (C.getD j 0):=getD_some (by omega)
  have hp:P[(j:Int).toNat]?=some (P.getD j 0):=getD_some (by omega)
  have hkb:=hin _ (fR (d:=0) (k:=j) (l:=A') (by omega))
  have nx:gD (uC A' C P S.aU (j+1))=(gD (uC A' C P S.aU j)).set (A'.getD j 0).toNat (({ (uC A' C P S.aU j).getD (A'.getD j 0).toNat .nil with cost:=C.getD j 0,cN:=P.getD j 0 }:AP).row):=by
   simp only[uC,gD,List.map_set]
  have fin:∀mm w a,@eU dI dN A w0 a0 mm w a (gF (oI 3 m) (.lit 1 (aA C)) (.lit 1 (aA P)) (oX S.aU.length) (.i (1+(j:Int)))) (eZ (cB S xq xv xp++[GW A',.cells 137 9 (gD (uC A' C P S.aU (j+1)))]))→∃n',n'<m-j∧∃(j':Nat),n'=m-j'∧j'≤m∧∃mm,@eU dI dN A w0 a0 mm w a (gF (oI 3 m) (.lit 1 (aA C)) (.lit 1 (aA P)) (oX S.aU.length) (.i (j':Int))) (eZ (cB S xq xv xp++[GW A',.cells 137 9 (gD (uC A' C P S.aU j'))])):=by
   intro mm w a pr;rw[show(1+(j:Int))=((j+1:Nat):Int)by omega]at pr
   exact⟨_,by omega,j+1,rfl,by omega,mm,pr⟩
  rw[nx]at fin;clear nx;have hg:(uC A' C P S.aU j)[(A'.getD j 0).toNat]?=some ((uC A' C P S.aU j).getD (A'.getD j 0).toNat .nil):=getD_some (by omega)
  generalize A'.getD j 0=k at *;generalize C.getD j 0=c at *;generalize P.getD j 0=p at *;generalize uC A' C P S.aU j=c2 at *;generalize c2.getD k.toNat .nil=g at *;have hg:c2[k.toNat]?=some ⟨g.eX,g.item,g.loc,g.lS,g.back,g.cost,g.cN,g.period,g.waits⟩:=hg
  refine rr.go (ev1 _ [(S.aU.length:Int),(m:Int),(j:Int),k] [.I S.aB,.I S.aD,.I S.done,.I xq,.I xv,.I xp,.I c,.I p,.I g.eX,.I g.item,.I g.loc,.I g.lS,.I g.back,.I g.cost,.I g.cN,.I g.period,.bool g.waits] (sT S [aA A',aA C,aA P,gD c2]) (.d (aI hk) (.d (aI hc) (.d (aI hp) (.d (aV hg) .nil))))) (xK kn) pr (fd:=gF (oI 3 m) (.lit 1 (aA C)) (.lit 1 (aA P)) (oX S.aU.length) (.i (1+(j:Int)))) (bd:=cB S xq xv xp++[GW A',.cells 137 9 ((gD c2).set k.toNat [.i g.eX,.i g.item,.i g.loc,.i g.lS,.i g.back,.i c,.i p,.i g.period,.c (.bool g.waits)])]) ?_
  intro mm w a pr;exact fin mm w a pr
theorem walk (oA o2:Option (RT Out)) (rA:agE body oA) (rn:acG (aF oA)) (rt:acF (aF oA)) (rft:RP (aF oA)) (rff:RQ (aF oA)) (rx:acL (aF oA)) (r0:acK oA) (r1:acJ oA o2) (rr:acM (aF o2)) (ry:acI (aF o2)) (rz:acH o2)
  (G:Gn S) (X:Ix S e item) (l0:0≤loc) (l1:loc≤1) (hv:0≤xv∧xv≤288230376151711744) (hp:rV xp) :
  Ck 125 [S.av,.i e,.i item,.i loc,bB.av ⟨xq,xv,xp⟩] (.aZ [(pR S e item loc ⟨xq,xv,xp⟩).av,.i 0]):=by
 have hsl:=G.Tu;refine CK.jJ Tryz.func125 (c:=body) (by kernel_rfl) (EE.out) (GQ.out) fun A w0 a0=>?_
 generalize hR:AV.aZ [(pR S e item loc ⟨xq,xv,xp⟩).av,.i 0]=R
 intro mm w aa pr;rw[Tryz.ntmps125]at pr;refine rA.go (ev1 _ [(S.aU.length:Int)] [.I S.aB,.I S.aD,.I S.done,.I e,.I item,.I loc,.I xq,.I xv,.I xp] (sT S []) .nil) (xK kn) pr (fd:=cF (.i e) (.i item) (.i loc) (oI 3 0) (oI 4 0) WH (.i 0)) (bd:=cB S xq xv xp++[GW [],GW []]) ?_
 intro mm w aa pr;refine ajE oA rn rt rft rff rx G X l0 l1 pr ?_
 intro mm w aa pr;unfold pR at hR;have hw:=abr (cX S e item loc) S.aU S.aU.length (fun x hx=>by obtain⟨_,_,_,b4,b5,_⟩:=G.Tv x hx;omega) (Nat.le_refl _)
 have hle:=SX (cX S e item loc) S.aU S.aU.length
 have hll:=ME (cX S e item loc) S.aU S.aU.length
 have hin:=ad8 (cX S e item loc) S.aU S.aU.length
 have hso:=Nb (cX S e item loc) S.aU S.aU.length
 generalize DN (cX S e item loc) S.aU S.aU.length=A' at *
 generalize Ht (cX S e item loc) S.aU S.aU.length=Wt at *
 generalize smN (cX S e item loc) S.aU S.aU.length=sm at *
 obtain⟨m,hm⟩:∃m:Nat,A'.length=m:=⟨_,rfl⟩
 rw[hm]at pr hle hll hR;cases sm with
 |false =>
  rw[if_pos rfl]at hR;subst hR;exact r0.go (ev1 _ [(S.aU.length:Int),(m:Int)] [.I S.aB,.I S.aD,.I S.done,.I e,.I item,.I loc,.I xq,.I xv,.I xp] (sT S [aA A',aA Wt]) .nil) (xK kn) pr
 |true =>
  rw[if_neg (by simp)]at hR
  obtain⟨mm,pr⟩:=ajh.go (ev1 _ [(S.aU.length:Int),(m:Int)] [.I S.aB,.I S.aD,.I S.done,.I e,.I item,.I loc,.I xq,.I xv,.I xp] (sT S [aA A',aA Wt]) .nil) pr (fd:=cF (.i e) (.i item) (.i loc) (oI 3 m) (.lit 1 (aA Wt)) WP (.i (S.aU.length:Int))) (bd:=cB S xq xv xp++[GW A'])
  have hso:=hso rfl;have hc:=BS (v:=xv) (ws:=Wt) ⟨by omega,by omega⟩ hw (by omega) hso
  have hp:=BS (v:=xp) (ws:=Wt) hp hw (by omega) hso
  obtain⟨-,lc,-⟩:=sK (v:=xv) (w:=Wt) ⟨by omega,by omega⟩ hw (by omega) hso
  obtain⟨-,lp,-⟩:=sK (v:=xp) (w:=Wt) ‹rV xp› hw (by omega) hso
  dsimp only at hR
  generalize (kV xv Wt).1=C at *
  generalize (kV xp Wt).1=P at *
  refine r1.go (ev1 _ [(S.aU.length:Int),(m:Int)] [.I S.aB,.I S.aD,.I S.done,.I e,.I item,.I loc,.I xq,.I xv,.I xp] (sT S [aA A',aA Wt,aA C,aA P]) .nil) (xK (kc hc (kc hp kn))) pr (fd:=gF (oI 3 m) (.lit 1 (aA C)) (.lit 1 (aA P)) (oX S.aU.length) (.i 0)) (bd:=cB S xq xv xp++[GW A',.cells 137 9 (gD S.aU)]) ?_
  intro mm w aa pr;refine ajD o2 rr ry G hm (by omega) (by omega) (by omega) hin pr ?_
  intro mm w aa pr;subst hR;have hlen:=Bf A' C P S.aU m;generalize uC A' C P S.aU m=c2 at *;exact rz.go (ev1 _ [(S.aU.length:Int),(m:Int)] [.I S.aB,.I S.aD,.I S.done,.I xq,.I xv,.I xp] (sT S [aA A',aA C,aA P,gD c2]) .nil) (xK kn) pr
end
end CO
section
variable {S:bH} {e item loc:Int}
theorem My {xq xv xp:Int} (G:Gn S) (X:Ix S e item) (l0:0≤loc) (l1:loc≤1) (hv:0≤xv∧xv≤288230376151711744) (hp:rV xp) :
  Ck 125 [S.av,.i e,.i item,.i loc,bB.av ⟨xq,xv,xp⟩] (.aZ [(pR S e item loc ⟨xq,xv,xp⟩).av,.i 0]) :=
 CO.walk CO.zW CO.Fb CO.aji CO.ajd CO.ajc CO.ahA CO.ahB CO.ajf CO.ahE CO.ahD CO.ajg CO.aje CO.ahC G X l0 l1 hv hp
end
end
section
open Mc
theorem aby {v q p:Int} (hv:¬ v<0) (hq:¬ q<0) (hp:¬ p<0) (iv:iM v) (iq:iM q) (ip:iM p) :
  uO v q p=(if iI q p > 0∨jB q p ≥ IntKind.u64.wrap v then 0 else v-jB q p)∧(¬ iI q p > 0→¬ jB q p ≥ IntKind.u64.wrap v→0≤jB q p∧jB q p<v):=by
 have h1:=EI (a:=q) (b:=p) (by omega) iq.hi (by omega) ip.hi
 have h2:=yI q p;have h3:=uM q p;have e:IntKind.u64.wrap v=v:=wrap_small (by omega) (by have:=iv.hi;omega)
 rw[e];unfold uO;rw[if_neg (by omega)]
 have hvb:=iv.hi;generalize iI q p=hi at *;generalize jB q p=lo at *;generalize q*p=qp at *
 refine⟨?_,fun a b=>⟨by omega,by omega⟩⟩
 split
 ·rw[if_pos];omega
 ·rw[if_neg (by omega)];omega
set_option maxHeartbeats 800000 in
theorem Lg (v q p:Int) (w:World) (iv:iM v) (iq:iM q) (ip:iM p) :
  Calls Tryz.prog 126 #[.int .i64 v,.int .i64 q,.int .i64 p] w fun e w'=>e=.returned (.int .i64 (uO v q p))∧Below w.heap.size w w':=by
 by_cases hv:v<0
 ·have e:uO v q p=0:=by simp[uO,hv]
  rw[e];go_enter Tryz.func126,Tryz.ntmps126
  go_wp2_with fail
  go_ret;exact⟨rfl,blw⟩
 by_cases hq:q<0
 ·have e:uO v q p=0:=by simp[uO,hq]
  rw[e];go_enter Tryz.func126,Tryz.ntmps126
  go_wp2_with fail
  go_ret;exact⟨rfl,blw⟩
 by_cases hp:p<0
 ·have e:uO v q p=0:=by simp[uO,hp]
  rw[e];go_enter Tryz.func126,Tryz.ntmps126
  go_wp2_with fail
  go_ret;exact⟨rfl,blw⟩
 obtain⟨ht,hb⟩:=aby hv hq hp iv iq ip;have h3:=uM q p;have h2:=yI q p;have hvb:=iv.hi;have e1:IntKind.u64.wrap v=v:=wrap_small (by omega) (by omega)
 rw[e1]at ht hb;by_cases hh:iI q p > 0
 ·have e:uO v q p=0:=by rw[ht,if_pos (.inl hh)]
  rw[e];clear ht hb;go_enter Tryz.func126,Tryz.ntmps126
  go_wp2_with (go_at_call 182;refine(xH _ _ _).mono ?_;rintro e w' ⟨rfl,rfl⟩)
  go_ret;exact⟨rfl,blw⟩
 by_cases hl:jB q p ≥ v
 ·have e:uO v q p=0:=by rw[ht,if_pos (.inr hl)]
  rw[e];clear ht hb;go_enter Tryz.func126,Tryz.ntmps126
  go_wp2_with (go_at_call 182;refine(xH _ _ _).mono ?_;rintro e w' ⟨rfl,rfl⟩)
  go_ret;exact⟨rfl,blw⟩
 ·have e:uO v q p=v-jB q p:=by rw[ht,if_neg (by omega)]
  obtain⟨b1,b2⟩:=hb hh hl;rw[e];clear ht;go_enter Tryz.func126,Tryz.ntmps126
  go_wp2_with (go_at_call 182;refine(xH _ _ _).mono ?_;rintro e w' ⟨rfl,rfl⟩)
  go_ret;exact⟨rfl,blw⟩
theorem Mz {v q p:Int} (hv:iM v) (hq:iM q) (hp:iM p):Ck 126 [.i v,.i q,.i p] (.i (uO v q p)) :=
 ⟨aX (.c _) (aX (.c _) (aX (.c _) eM)),.c _,@ahZ dI dN _ [.int .i64 v,.int .i64 q,.int .i64 p] _ fun w=>(Lg v q p w hv hq hp).mono fun e w' h=>⟨h.1,h.2⟩⟩
set_option maxRecDepth 1000000
section
variable {S:bH} {e item loc:Int}
theorem Mx (G:Gn S) (X:Ix S e item) (l0:0≤loc) (l1:loc≤1) (hm:S.fJ e item=3) :
  Ck 62 [S.av,.i e,.i item,.i loc] (.aZ [(iJ S e item loc).1.av,.i (iJ S e item loc).2]):=by
 have h:=G.toStOk;have:=h.hn;have:=h.hw;have:=X.e0;have:=X.e1;have:=X.i0;have:=X.i1
 have ha:=rH h X l0 l1;have hpo:=h.Rx X l0 l1;obtain⟨a1,a2,a3,a4,a5⟩:=Ts (d:=((S.bU e).cQ (2*item+loc)).pn) hpo.lr
 have hone:(oY ((S.bU e).cQ (2*item+loc)).bK ((S.bU e).cQ (2*item+loc)).pn).1.length≤1:=by rcases hpo.one with h1|h1<;>omega
 have q0:=qO a1.ok;have b0:=hpo.a0;have b1:=hpo.b0;have b2:=hpo.c0;have b3:=hpo.sum;have b4:=hpo.lr.q
 have hlr:=hpo.lr;have hu:=fun P=>Iu h X l0 l1 P
 have hK:=fun p hp=>Fm h X l0 l1 (p:=p) hp
 rw[hm]at hK;unfold iJ;generalize (S.bU e).cQ (2*item+loc)=P at *
 obtain⟨L,p0,p1,p2⟩:=P;have hs:=MA (L:=L) (p0:=p0) (p1:=p1) (p2:=p2) hlr (by change 0≤p0 at b0;change 0≤p1 at b1;change 0≤p2 at b2;change p0+p1+p2≤_ at b3;omega) (by change 0≤p0 at b0;change 0≤p1 at b1;change 0≤p2 at b2;change p0+p1+p2≤_ at b3;omega) (by change 0≤p0 at b0;change 0≤p1 at b1;change 0≤p2 at b2;change p0+p1+p2≤_ at b3;omega)
 change 0≤p0 at b0;change 0≤p1 at b1;change 0≤p2 at b2;change p0+p1+p2≤_ at b3
 have epn:(⟨L,p0,p1,p2⟩:dA).pn=⟨p0,p1,p2⟩:=rfl
 rw[epn]at a1 a2 a3 a4 a5 hone q0 ⊢;dsimp only at a1 a2 a3 a4 a5 hone q0 hlr b4 b3 ⊢
 by_cases hz:p0+p1+p2=0
 ·rw[if_pos hz]
  exact cw _ (ev1 { vars:=[(0,3),(0,4),(0,1),(0,288230376151711744),(0,288230376151711744),(0,288230376151711744)],facts:=[([([3],1),([4],1),([5],1)],0,0)],bT:=[Qf] } [e,item,loc,p0,p1,p2] [.I S.aB,.I S.aD,.I S.done] (sT S [aO L]) .nil) Y1 Uq (kc ha kn)
 rw[if_neg hz];generalize oY L ⟨p0,p1,p2⟩=r at *
 obtain⟨M,⟨xq,xv,xp⟩,⟨yq,yv,yp⟩,⟨zq,zv,zp⟩⟩:=r
 dsimp only at *
 have hu:=hu ⟨M,0,0,0⟩
 have K0:=hK ⟨M,0,0,0⟩ ⟨a1,.inr hone,by show(0:Int)≤0;omega,by show(0:Int)≤0;omega,by show(0:Int)≤0;omega,by show(0:Int)+0+0≤qs M;omega,.inl rfl⟩
 generalize S.bP e ((S.bU e).eK (2*item+loc) ⟨M,0,0,0⟩)=S0 at *
 obtain⟨E1,rfl⟩:=K0.ex;have hp:=mE K0.ok (K0.ix X) (l:=[⟨5,xv⟩,⟨7,yv⟩,⟨8,zv⟩,⟨0,-xv⟩,⟨0,-yv⟩,⟨0,-zv⟩]) (So fmo) (by simp)
 obtain⟨k1,e1,-⟩:=nB K0.ok (K0.ix X) [⟨5,xv⟩,⟨7,yv⟩,⟨8,zv⟩,⟨0,-xv⟩,⟨0,-yv⟩,⟨0,-zv⟩]
 generalize gK (S.gI E1) e [⟨5,xv⟩,⟨7,yv⟩,⟨8,zv⟩,⟨0,-xv⟩,⟨0,-yv⟩,⟨0,-zv⟩]=r at *
 obtain⟨S1,f⟩:=r;dsimp only at *
 have K1:=K0.trans k1;obtain⟨E2,rfl⟩:=K1.ex;by_cases h0:f=0
 rotate_left
 ·rw[if_pos h0]
  have f2:1≤f∧f≤20:=by unfold kY at e1;omega
  exact cw _ (ev1 { vars:=KK,facts:=Z0,bT:=[Qf,KW,Jw,(92,KR,(.aZ [Wg,.v 9]))] } [e,item,loc,p0,p1,p2,xv,yv,zv,f] [.I S.aB,.I S.aD,.I S.done,.I xq,.I xp,.I yq,.I yp,.I zq,.I zp] (sT S [aO L,aO M,bN E1,bN E2]) .nil) Y1 Ur (kc ha (kc hs (kc hu (kc hp kn))))
 subst h0;rw[if_neg (by simp)]
 have ht:=wK K1.ok (K1.ix X) (r:=[0,0,0,0,0,xv,0,0,yv,zv,0]) rfl
 obtain⟨k2,e2,-⟩:=xC K1.ok (K1.ix X) (r:=[0,0,0,0,0,xv,0,0,yv,zv,0]) rfl
 generalize jR (S.gI E2) e item [0,0,0,0,0,xv,0,0,yv,zv,0]=r at *
 obtain⟨S2,f⟩:=r;dsimp only at *
 have K2:=K1.trans k2;obtain⟨E3,rfl⟩:=K2.ex;by_cases h0:f=0
 rotate_left
 ·rw[if_pos h0]
  have f2:1≤f∧f≤20:=by unfold kY at e2;omega
  exact cw _ (ev1 { vars:=KK,facts:=Z0,bT:=[Qf,KW,Jw,KC,(124,Jv,(.aZ [Wh,.v 9]))] } [e,item,loc,p0,p1,p2,xv,yv,zv,f] [.I S.aB,.I S.aD,.I S.done,.I xq,.I xp,.I yq,.I yp,.I zq,.I zp] (sT S [aO L,aO M,bN E1,bN E2,bN E3]) .nil) Y1 Ur (kc ha (kc hs (kc hu (kc hp (kc ht kn)))))
 subst h0;rw[if_neg (by simp)]
 have hc:=My (xq:=xq) (xv:=xv) (xp:=xp) (K2.gn G) (K2.ix X) l0 l1 a3.1 a3.2
 obtain⟨c,hcd⟩:∃c,pR (S.gI E3) e item loc ⟨xq,xv,xp⟩={ S.gI E3 with aU:=c }:=by
  unfold pR;split
  ·exact⟨S.aU,rfl⟩
  ·exact⟨_,rfl⟩
 rw[hcd]at hc;dsimp only at hc ⊢
 rw[hcd];exact cw _ (ev1 { vars:=[(0,3),(0,4),(0,1),(0,288230376151711744),(0,288230376151711744),(0,288230376151711744),(0,288230376151711744),(0,288230376151711744),(0,288230376151711744)],facts:=Z0,bT:=[Qf,KW,Jw,KC,(124,Jv,(.aZ [Wh,.i 0])),(125,[Wh,.v 0,.v 1,.v 2,(.agg [.o 3,.v 6,.o 4])],JB)] } [e,item,loc,p0,p1,p2,xv,yv,zv] [.I S.aB,.I S.aD,.I S.done,.I xq,.I xp,.I yq,.I yp,.I zq,.I zp] (sT S [aO L,aO M,bN E1,bN E2,bN E3,gD c]) .nil) Y1 JB (kc ha (kc hs (kc hu (kc hp (kc ht (kc hc kn))))))
end
namespace MK
abbrev mF (e lines i:AV):List AV:=fr 99 [(1,e),(2,.ptr 10 0 0 0),(4,.ptr 10 1 0 0),(5,.i 0),(6,.ptr 10 2 0 0),(7,lines),(8,i)]
abbrev oL (n:Nat):AV:=.own 44 2 9 0 n
abbrev mB (S:bH) (e:Int) (x:eC) (dn:List Int):List Mc.bY:=[.cells 31 10 [[.i S.aB,.i S.aD,.lit 1 (aA S.weights),.lit 1 (dM S.methods),.lit 1 (dM S.iC),.lit 8 (bN S.aH),.lit 8 (kW S.bX),.lit 9 (gD S.aU),.lit 6 (gY S.aM),.i S.done]],
 .cells 31 10 ZB,
 .cells 31 10 [[.i S.aB,.i S.aD,.lit 1 (aA S.weights),.lit 1 (dM S.methods),.lit 1 (dM S.iC),.own 76 8 3 0 S.aH.length,.lit 8 (kW S.bX),.lit 9 (gD S.aU),.lit 6 (gY S.aM),.i S.done]],
 .cells 76 8 ((bN S.aH).set e.toNat [.i x.now,.c (.bool x.closed),.own 161 4 4 0 (2*(S.weights.length:Int)).toNat,.own 3 1 5 0 17,.own 140 11 6 0 S.weights.length,.own 3 1 7 0 S.weights.length,.own 3 1 8 0 S.weights.length,.lit 8 (bV x.ahead)]),
 .cells 161 4 (bL x.bE),.cells 3 1 (aA x.dC),.cells 140 11 (bM x.bF),.cells 3 1 (aA x.aW),.cells 3 1 (aA dn)]
abbrev lB (l:List cD):Mc.bY:=.cells 44 2 (bR l)
noncomputable def body:Code:=(Tryz.f63).body.getD .skip
abbrev agw (c:Code) (r:Option (RT Out)):Prop:=AK { vars:=WE,facts:=Vh,lens:=JH,kT:=Ql } c (U5++List.replicate 97 .undef) [] [some 0,some 1,some 10,some 4,some 5,some 6,some 7,some 8,some 9,none] (mF (.v 1) (.own 44 2 9 0 0) (.i 0)) [JN,QH,Jp,KD,UV,U6,UQ,UZ,(.sc 3 1 11 [] [] [([2],1)]),(.cells 44 2 [])] r
noncomputable def E9:Option (RT Out):=Nm { vars:=WE,facts:=Vh,lens:=JH,kT:=Ql } body (U5++List.replicate 97 .undef:List AV).length (U5++List.replicate 97 .undef) [] 0
theorem aiF:agw body E9:=⟨rfl,by decide +kernel,by decide +kernel⟩
abbrev RA (c:Code):Prop:=fL { vars:=[(0,4),(0,3),(1,5),(0,10),(0,4),(-1152921504606846976,-1)],facts:=Z1,lens:=Ja,kT:=[Qw,(10,[([4],1)],[.v 5])] } c (mF (.v 1) VC (.v 4)) Kb 0 [some 0,some 1,some 2,some 3,some 4,some 5,some 6,some 7,some 8,some 9] (mF (.v 1) VC Wi) Kb
theorem ag8:RA (aF E9):=⟨_,rfl,by decide +kernel,by decide +kernel⟩
abbrev Ln (c:Code):Prop:=fL { vars:=[(0,4),(0,3),(1,5),(0,10),(0,4),(0,288230376151711744),(0,288230376151711744),(0,288230376151711744)],facts:=Z1,lens:=Ja,kT:=[Qw,(10,[([4],1)],[.v 5]),(13,[([4],1)],[.v 7])],bT:=[(52,[Wu,.v 1,.v 4],(.agg [.o 5,.o 6,.o 7])),(126,[.o 6,.o 5,.v 5],(.v 6))] } c (mF (.v 1) VC (.v 4)) Kb 0 [some 0,some 1,some 2,some 3,some 4,some 5,some 6,some 7,some 8,some 12] (mF (.v 1) (.cE 44 2 9 [([],2),([3],1)]) Wi) [JN,QH,Jp,KD,UV,U6,UQ,UZ,(.sc 3 1 13 [([([4],1)],[.v 6])] [] [([2],1)]),(.sc 44 2 14 [] [[.i 10,(.e [([6],1),([7],-1)])],[.i 11,(.e [([6],-1),([7],1)])]] [([],2),([3],1)])]
theorem aeB:Ln (aF E9):=⟨_,rfl,by decide +kernel,by decide +kernel⟩
abbrev ack (c:Code):Prop:=fL { vars:=[(0,4),(0,3),(1,5),(0,10)],facts:=Vh,lens:=Ja,kT:=Ql } c (mF (.v 1) VC (.v 2)) Kb 2 [some 0,some 1,some 2,some 3,some 4,some 5,some 6,some 7,some 8,some 9] (mF (.v 1) VC (.v 2)) Kb
theorem aiE:ack (aF E9):=⟨_,rfl,by decide +kernel,by decide +kernel⟩
abbrev TO (o:Option (RT Out)):Prop:=rT { vars:=[(0,4),(0,3),(1,5),(0,10)],facts:=Vh,lens:=Ja,kT:=Ql,bT:=[(92,Jj,Ub)] } Tryz.f63 o 0 (mF (.v 1) VC (.v 2)) Kb (Ub)
theorem aeC:TO E9:=⟨_,rfl,by decide +kernel,by decide +kernel,by kernel_rfl⟩
abbrev NG (o:Option (RT Out)):Prop:=rT { vars:=[(0,4),(0,3),(1,5),(0,10),(1,20)],facts:=Vh,lens:=Ja,kT:=Ql,bT:=[(92,Jj,(.aZ [(sN (.q 8 15) (.o 2)),.v 4]))] } Tryz.f63 o 0 (mF (.v 1) VC (.v 2)) Kb ((.aZ [Wu,.v 4]))
theorem abA:NG E9:=⟨_,rfl,by decide +kernel,by decide +kernel,by kernel_rfl⟩
noncomputable abbrev fC:Func:=Tryz.f63
section
variable {S:bH} {e:Int} {A:Nat→Prop} {w0:World} {a0:Act} {R:AV}
theorem loop (oA:Option (RT Out)) (rn:RA (aF oA)) (ry:Ln (aF oA)) (rx:ack (aF oA)) (G:Gn S) (X:Ix S e 0) {x:eC} (hx:x=S.bU e)
  {mm:Nat→St} {w:World} {aa:Act} (pr:@eU dI dN A w0 a0 mm w aa (mF (.i e) (oL 0) (.i 0)) (eZ (mB S e x (nD S e 0)++[lB (nN S e 0)])))
  (kk:∀mm w aa,@eU dI dN A w0 a0 mm w aa (mF (.i e) (oL (nN S e S.weights.length).length) (.i (S.weights.length:Int))) (eZ (mB S e x (nD S e S.weights.length)++[lB (nN S e S.weights.length)]))→KS Tryz.prog (oK oA) (Fin Tryz.prog fC A w0 a0 R) (AX.exit 0).to aa w) :
  (Code.loop (aF oA)).wpIn (fw none) 9 Tryz.prog (KS Tryz.prog (oK oA) (Fin Tryz.prog fC A w0 a0 R)) aa w:=by
 have h:=G.toStOk;have hn:=h.hn;have hw:=h.hw;have:=X.e0;have:=X.e1;have:=X.i1
 have m58:M58=288230376151711744:=rfl
 have E:=h.Hh X;have hat:=h.at_ X;have hat:S.aH[e.toNat]?=some ⟨⟨x.now,x.closed,x.bE,x.dC,x.bF,x.aW,x.down⟩,x.ahead⟩:=by rw[hx];exact hat
 have pl:=E.pl;have bl:=E.bl;have rl:=E.rl;have prl:=E.pr;have dl:=E.dl;have prb:=E.prb;have db:=E.db
 rw[←hx]at pl bl rl prl dl prb db;have hdn:∀j,(nD S e j).length=S.weights.length:=fun j=>by rw[Bw,←hx];exact dl
 have hln:=N7 S e;refine eA (fun n a' w=>∃(j:Nat),n=S.weights.length-j∧j≤S.weights.length∧∃mm,@eU dI dN A w0 a0 mm w a' (mF (.i e) (oL (nN S e j).length) (.i (j:Int))) (eZ (mB S e x (nD S e j)++[lB (nN S e j)]))) ?_ (n:=S.weights.length) ⟨0,rfl,Nat.zero_le _,_,pr⟩
 rintro n aa w ⟨j,rfl,hj,mm,pr⟩
 have hdj:=hdn j;have hlj:=hln j;rcases(by omega:j=S.weights.length∨j<S.weights.length)with rfl|hlt
 ·generalize nD S e S.weights.length=dn at *
  generalize nN S e S.weights.length=ls at *;obtain⟨m,hm⟩:∃m:Nat,ls.length=m:=⟨_,rfl⟩
  rw[hm]at pr hlj kk;refine rx.go (ev1 _ [(S.aH.length:Int),e,(S.weights.length:Int),(m:Int)] [.I S.aB,.I S.aD,.I S.done,.I x.now,.bool x.closed] (sT S [bL x.bE,aA x.dC,bM x.bF,aA x.aW,aA x.down,bV x.ahead,aA dn,bR ls]) (.d (aE hat) .nil)) (xK kn) pr ?_
  exact kk
 ·have hp:x.aW[(j:Int).toNat]?=some (x.aW.getD j 0):=getD_some (by omega)
  have hpb:=prb _ (fR (d:=0) (k:=j) (l:=x.aW) (by omega))
  have ho:(nD S e j)[(j:Int).toNat]?=some (S.down e j):=by
   rw[←adh S e j];exact getD_some (by omega)
  have hob:0≤S.down e j∧S.down e j≤288230376151711744:=by
   unfold bH.down;rw[←hx];exact db _ (fR (by omega))
  have hprice:S.Fs e j=x.aW.getD j 0:=by unfold bH.Fs;rw[hx]
  have nx:∀mm w a,@eU dI dN A w0 a0 mm w a (mF (.i e) (oL (nN S e (j+1)).length) (.i (1+(j:Int)))) (eZ (mB S e x (nD S e (j+1))++[lB (nN S e (j+1))]))→∃n',n'<S.weights.length-j∧∃(j':Nat),n'=S.weights.length-j'∧j'≤S.weights.length∧∃mm,@eU dI dN A w0 a0 mm w a (mF (.i e) (oL (nN S e j').length) (.i (j':Int))) (eZ (mB S e x (nD S e j')++[lB (nN S e j')])):=by
   intro mm w a pr;rw[show(1+(j:Int))=((j+1:Nat):Int)by omega]at pr
   exact⟨_,by omega,j+1,rfl,by omega,mm,pr⟩
  simp only[nN,nD,hprice]at nx;have Xj:Ix S e (j:Int):=⟨X.e0,X.e1,by omega,by omega⟩
  have hW:=O8 h Xj;have hT:∀p,iM p→Ck 126 [.i (dQ S e (j:Int)).1.v,.i (dQ S e (j:Int)).1.q,.i p] (.i (uO (dQ S e (j:Int)).1.v (dQ S e (j:Int)).1.q p)):=fun p hp=>by
   have w1:=IY [vs ((S.bU e).cQ (2*(j:Int))).bK,vs ((S.bU e).cQ (2*(j:Int)+1)).bK]
   have w2:=IY [qs ((S.bU e).cQ (2*(j:Int))).bK,qs ((S.bU e).cQ (2*(j:Int)+1)).bK]
   unfold rV at w1 w2;exact Mz (by unfold dQ;exact⟨by dsimp only;omega,by dsimp only;omega⟩) (by unfold dQ;exact⟨by dsimp only;omega,by dsimp only;omega⟩) hp
  have htb:=IT S e j;have hti:P5 S e j=uO (dQ S e (j:Int)).1.v (dQ S e (j:Int)).1.q (x.aW.getD j 0):=by unfold P5;rw[hprice]
  rw[hti]at htb nx;generalize x.aW.getD j 0=p at *;have hT:=hT p ⟨by omega,by omega⟩
  generalize dQ S e (j:Int)=W at *
  obtain⟨⟨wq,wv,wp⟩,wb⟩:=W
  dsimp only at hW hT htb nx
  generalize uO wv wq p=d at *;generalize S.down e j=o at *;generalize nD S e j=dn at *;generalize nN S e j=ls at *;obtain⟨m,hm⟩:∃m:Nat,ls.length=m:=⟨_,rfl⟩
  rw[hm]at pr hlj;by_cases h0:0≤p
  ·rw[if_pos h0,if_pos h0]at nx
   have al:(ls++([⟨10,d-o⟩,⟨11,-d+o⟩]:List cD)).length=m+2:=by simp[hm]
   have m2:(2+(m:Int)).toNat=m+2:=by omega
   have hneg:-(d-o)=-d+o:=by omega
   rw[hneg,al]at nx;refine ry.go (ev1 _ [(S.aH.length:Int),e,(S.weights.length:Int),(m:Int),(j:Int),p,d,o] [.I S.aB,.I S.aD,.I S.done,.I x.now,.bool x.closed,.I wq,.I wv,.I wp] (sT S [bL x.bE,aA x.dC,bM x.bF,aA x.aW,aA x.down,bV x.ahead,aA dn,bR ls]) (.d (aE hat) (.d (aI hp) (.d (aI ho) .nil)))) (xK (kc hW (kc hT kn))) pr (fd:=mF (.i e) (oL (2+(m:Int)).toNat) (.i (1+(j:Int)))) (bd:=(mB S e x []).take 8++[.cells 3 1 ((aA dn).set (j:Int).toNat [.i d]),.cells 44 2 (bR ls++[[.i 10,.i (d-o)],[.i 11,.i (-d+o)]])]) ?_
   intro mm w a pr;rw[m2]at pr;refine nx mm w a ?_
   change @eU dI dN A w0 a0 mm w a _ (eZ ((mB S e x []).take 8++[.cells 3 1 (aA (dn.set j d)),.cells 44 2 (bR (ls++([⟨10,d-o⟩,⟨11,-d+o⟩]:List cD)))]))
   rw[show aA (dn.set j d)=(aA dn).set (j:Int).toNat [.i d]by simp[aA,List.map_set],show bR (ls++([⟨10,d-o⟩,⟨11,-d+o⟩]:List cD))=bR ls++[[.i 10,.i (d-o)],[.i 11,.i (-d+o)]]by simp[bR];exact⟨rfl,rfl⟩]
   exact pr
  ·rw[if_neg h0,if_neg h0,List.append_nil,hm]at nx
   refine rn.go (ev1 _ [(S.aH.length:Int),e,(S.weights.length:Int),(m:Int),(j:Int),p] [.I S.aB,.I S.aD,.I S.done,.I x.now,.bool x.closed] (sT S [bL x.bE,aA x.dC,bM x.bF,aA x.aW,aA x.down,bV x.ahead,aA dn,bR ls]) (.d (aE hat) (.d (aI hp) .nil))) (xK kn) pr (fd:=mF (.i e) (oL m) (.i (1+(j:Int)))) (bd:=mB S e x dn++[lB ls]) ?_
   exact nx
theorem walk (oA:Option (RT Out)) (rA:agw body oA) (rn:RA (aF oA)) (ry:Ln (aF oA)) (rx:ack (aF oA)) (ro:TO oA) (re:NG oA) (G:Gn S) (X:Ix S e 0) :
  Ck 63 [S.av,.i e] (.aZ [(pI S e).1.av,.i (pI S e).2]):=by
 have h:=G.toStOk;have hn:=h.hn;have hw:=h.hw;have:=X.e0;have:=X.e1;have:=X.i1
 have E:=h.Hh X;have hat:=h.at_ X;have K:=Xq h X (Bw S e S.weights.length) (TY E.db _)
 have hI:=So (afu (S:=S) (e:=e) E.db S.weights.length)
 have hln:=N7 S e S.weights.length;have hq:=mE K.ok (K.ix X) (l:=nN S e S.weights.length) hI (by omega)
 obtain⟨k1,e1,-⟩:=nB K.ok (K.ix X) (nN S e S.weights.length)
 have hdl:(nD S e S.weights.length).length=S.weights.length:=by rw[Bw];exact E.dl
 refine CK.jJ Tryz.func63 (c:=body) (by kernel_rfl) (EE.out) (GQ.out) fun A w0 a0=>?_
 generalize hR:AV.aZ [(pI S e).1.av,.i (pI S e).2]=R
 unfold pI at hR;obtain⟨x,hx⟩:∃x,x=S.bU e:=⟨_,rfl⟩
 have hat:S.aH[e.toNat]?=some ⟨⟨x.now,x.closed,x.bE,x.dC,x.bF,x.aW,x.down⟩,x.ahead⟩:=by rw[hx];exact hat
 have pl:=E.pl;have bl:=E.bl;have rl:=E.rl;have prl:=E.pr;have dl:=E.dl
 rw[←hx]at pl bl rl prl dl;intro mm w aa pr;rw[Tryz.ntmps63]at pr;refine rA.go (ev1 _ [(S.aH.length:Int),e,(S.weights.length:Int)] [.I S.aB,.I S.aD,.I S.done,.I x.now,.bool x.closed] (sT S [bL x.bE,aA x.dC,bM x.bF,aA x.aW,aA x.down,bV x.ahead]) (.d (aE hat) .nil)) (xK kn) pr (fd:=mF (.i e) (oL 0) (.i 0)) (bd:=mB S e x x.down++[lB []]) ?_
 intro mm w aa pr;have pr:@eU dI dN A w0 a0 mm w aa (mF (.i e) (oL 0) (.i 0)) (eZ (mB S e x (nD S e 0)++[lB (nN S e 0)])):=by unfold nD nN;rw[←hx];exact pr
 refine loop oA rn ry rx G X hx pr ?_
 intro mm w aa pr;have e0:(S.bP e ((S.bU e).yM (nD S e S.weights.length))).av=S.setRow e [.i x.now,.c (.bool x.closed),.lit 4 (bL x.bE),.lit 1 (aA x.dC),.lit 11 (bM x.bF),.lit 1 (aA x.aW),.lit 1 (aA (nD S e S.weights.length)),.lit 8 (bV x.ahead)]:=by
  rw[bH.qB,←hx];rfl
 rw[e0]at hq;obtain⟨E2,hE2⟩:=(K.trans k1).ex
 generalize S.bP e ((S.bU e).yM (nD S e S.weights.length))=S0 at *
 generalize nD S e S.weights.length=dn at *;generalize nN S e S.weights.length=ls at *;obtain⟨m,hm⟩:∃m:Nat,ls.length=m:=⟨_,rfl⟩
 rw[hm]at pr;generalize gK S0 e ls=r at *;obtain⟨S1,f⟩:=r;dsimp only at *
 subst hE2;by_cases h0:f=0
 ·subst h0
  rw[if_neg (by simp)]at hR
  subst hR;exact ro.go (ev1 _ [(S.aH.length:Int),e,(S.weights.length:Int),(m:Int)] [.I S.aB,.I S.aD,.I S.done,.I x.now,.bool x.closed] (sT S [bL x.bE,aA x.dC,bM x.bF,aA x.aW,aA x.down,bV x.ahead,aA dn,bR ls,bN E2]) (.d (aE hat) .nil)) (xK (kc hq kn)) pr
 ·rw[if_pos h0]at hR
  subst hR;have f2:1≤f∧f≤20:=by unfold kY at e1;omega
  exact re.go (ev1 _ [(S.aH.length:Int),e,(S.weights.length:Int),(m:Int),f] [.I S.aB,.I S.aD,.I S.done,.I x.now,.bool x.closed] (sT S [bL x.bE,aA x.dC,bM x.bF,aA x.aW,aA x.down,bV x.ahead,aA dn,bR ls,bN E2]) (.d (aE hat) .nil)) (xK (kc hq kn)) pr
end
end MK
theorem SQ {S:bH} {e:Int} (G:Gn S) (X:Ix S e 0):Ck 63 [S.av,.i e] (.aZ [(pI S e).1.av,.i (pI S e).2]) :=
 MK.walk MK.E9 MK.aiF MK.ag8 MK.aeB MK.aiE MK.aeC MK.abA G X
end
section
open Mc
set_option maxRecDepth 1000000
def bH.es (S:bH) (E:List eC) (c:List AP):bH:={ S with aH:=E,aU:=c }
theorem Sv.es {S T:bH} (h:Sv S T):T=S.es T.aH T.aU:=by
 obtain⟨-,-,-,h1,h2,h3,h4,h5,h6,h7,h8⟩:=h;cases T;cases S;simp only[bH.es]at *
 subst h1 h2 h3 h4 h5 h6 h7 h8;rfl
namespace CL
abbrev O5 (e i:AV):List AV:=fr 99 [(1,e),(2,.ptr 10 0 0 0),(4,.ptr 10 1 0 0),(5,.i 0),(6,.ptr 10 2 0 0),(7,i)]
abbrev GV (e i k:AV):List AV:=fr 99 [(1,e),(2,.ptr 10 0 0 0),(4,.ptr 10 1 0 0),(5,.i 0),(6,.ptr 10 2 0 0),(7,i),(8,k)]
abbrev sB (S:bH):Mc.bY:=.cells 31 10 [[.i S.aB,.i S.aD,.lit 1 (aA S.weights),.lit 1 (dM S.methods),.lit 1 (dM S.iC),.lit 8 (bN S.aH),.lit 8 (kW S.bX),.lit 9 (gD S.aU),.lit 6 (gY S.aM),.i S.done]]
abbrev cB (S T:bH):List Mc.bY:=[sB S,.cells 31 10 ZB,sB T]
noncomputable def body:Code:=(Tryz.f30).body.getD .skip
abbrev agI (c:Code) (r:Option (RT Out)):Prop:=AK { vars:=WE,facts:=Vh,lens:=UW,kT:=Jx } c (U5++List.replicate 97 .undef) [] [some 0,some 1,some 2] (O5 (.v 1) (.i 0)) [JN,QH,JN] r
noncomputable def Fc:Option (RT Out):=Nm { vars:=WE,facts:=Vh,lens:=UW,kT:=Jx } body (U5++List.replicate 97 .undef:List AV).length (U5++List.replicate 97 .undef) [] 0
theorem ajm:agI body Fc:=⟨rfl,by decide +kernel,by decide +kernel⟩
abbrev agF (c:Code):Prop:=aiv { vars:=WE,facts:=Vh,lens:=UW,kT:=[(0,[([1],1)],[.o 3,WP,.q 4 7,.q 1 8,.q 11 9,.q 1 10,.q 1 11,.q 8 12])] } Tryz.f30 c (U5++List.replicate 97 .undef) [] ((.aZ [Wu,.i 7]))
theorem ajj:agF body:=⟨_,rfl,by decide +kernel,by decide +kernel,by kernel_rfl⟩
abbrev agH (c:Code) (r:Option (RT Out)):Prop:=AK { vars:=Vr,facts:=Z2,lens:=UW } c (O5 (.v 1) (.v 3)) Ks [some 0,some 1,some 2] (GV (.v 1) (.v 3) (.i 0)) Ks r
noncomputable def Dw:Option (RT Out):=Nm { vars:=Vr,facts:=Z2,lens:=UW } (aF Fc) (O5 (.v 1) (.v 3):List AV).length (O5 (.v 1) (.v 3)) Ks 3
theorem ajl:agH (aF Fc) Dw:=⟨rfl,by decide +kernel,by decide +kernel⟩
abbrev RR (c:Code):Prop:=fL { vars:=[(0,4),(0,3),(1,5),(0,4),(0,1)],facts:=Z2,lens:=Zk,kT:=Yu,bT:=[(62,Jz,(.aZ [Qg,.i 0]))] } c (GV (.v 1) (.v 3) (.v 4)) Ks 0 [some 0,some 1,some 2] (GV (.v 1) (.v 3) Wi) [JN,QH,(.cells 31 10 [QL])]
theorem ahF:RR (aF Dw):=⟨_,rfl,by decide +kernel,by decide +kernel⟩
abbrev LI (c:Code):Prop:=agn { vars:=[(0,4),(0,3),(1,5),(0,4),(0,1),(1,20)],facts:=Z2,lens:=Zk,kT:=Yu,bT:=[(62,Jz,(.aZ [Qg,.v 5]))] } Tryz.f30 c (GV (.v 1) (.v 3) (.v 4)) Ks ((.aZ [Wu,.v 5]))
theorem aeP:LI (aF Dw):=⟨_,rfl,by decide +kernel,by decide +kernel,by kernel_rfl⟩
abbrev RU (c:Code):Prop:=fL { vars:=[(0,4),(0,3),(1,5),(0,4),(1,2)],facts:=Z2,lens:=Zk,kT:=Yv } c (GV (.v 1) (.v 3) (.i 0)) Ks 5 [some 0,some 1,some 2] (GV (.v 1) (.v 3) (.i 0)) Ks
theorem ahG:RU (aF Dw):=⟨_,rfl,by decide +kernel,by decide +kernel⟩
abbrev RV (c:Code):Prop:=fL { vars:=[(0,4),(0,3),(1,5),(0,4),(4,4)],facts:=Z2,lens:=Zk,kT:=Yv } c (GV (.v 1) (.v 3) (.i 0)) Ks 5 [some 0,some 1,some 2] (GV (.v 1) (.v 3) (.i 0)) Ks
theorem ahH:RV (aF Dw):=⟨_,rfl,by decide +kernel,by decide +kernel⟩
abbrev LH (c:Code):Prop:=fL { vars:=Vr,facts:=Z2,lens:=UW } c (GV (.v 1) (.v 3) (.i 2)) Ks 5 [some 0,some 1,some 2] (GV (.v 1) (.v 3) (.i 2)) Ks
theorem aeO:LH (aF Dw):=⟨_,rfl,by decide +kernel,by decide +kernel⟩
abbrev RW (o:Option (RT Out)):Prop:=PH { vars:=Vr,facts:=Z2,lens:=UW } o 3 (GV (.v 1) (.v 3) (.o 3)) Ks 0 [some 0,some 1,some 2] (O5 (.v 1) (.e WX)) Ks
theorem ahI:RW Dw:=⟨_,rfl,by decide +kernel,by decide +kernel⟩
abbrev agG (c:Code):Prop:=fL { vars:=WE,facts:=Vh,lens:=UW } c (O5 (.v 1) (.v 2)) Ks 3 [some 0,some 1,some 2] (O5 (.v 1) (.v 2)) Ks
theorem ajk:agG (aF Fc):=⟨_,rfl,by decide +kernel,by decide +kernel⟩
abbrev NN (o:Option (RT Out)):Prop:=rT { vars:=[(0,4),(0,3),(1,5),(1,20)],facts:=Vh,lens:=UW,bT:=[(63,JU,(.aZ [Qr,.v 3]))] } Tryz.f30 o 1 (O5 (.v 1) (.v 2)) Ks ((.aZ [Wu,.v 3]))
theorem abB:NN Fc:=⟨_,rfl,by decide +kernel,by decide +kernel,by kernel_rfl⟩
abbrev TP (o:Option (RT Out)):Prop:=rT { vars:=WE,facts:=Vh,lens:=[(0,[([0],1)]),(1,[([2],1)]),(9,[([0],1)]),(15,[([2],2)]),(16,[([],17)]),(17,[([2],1)]),(18,[([2],1)]),(19,[([2],1)])],kT:=[(0,[([1],1)],JX),(9,[([1],1)],[.o 4,.o 5,.q 4 15,.q 1 16,.q 11 17,.q 1 18,.q 1 19,.q 8 20])],bT:=[(63,JU,(.aZ [Qr,.i 0]))] } Tryz.f30 o 1 (O5 (.v 1) (.v 2)) Ks ((.aZ [(.agg [.o 0,.o 1,.q 1 1,.q 1 2,.q 1 3,(.seq 8 9 [([([1],1)],[.o 4,WP,.q 4 15,.q 1 16,.q 11 17,.q 1 18,.q 1 19,(.lit 8 [JX])])] []),.q 8 4,.q 9 8,.q 6 6,.o 2]),.i 0]))
theorem aeQ:TP Fc:=⟨_,rfl,by decide +kernel,by decide +kernel,by kernel_rfl⟩
noncomputable abbrev fC:Func:=Tryz.f30
section
variable {S:bH} {e:Int} {A:Nat→Prop} {w0:World} {a0:Act} {R:AV}
theorem inner (oI:Option (RT Out)) (ro:RR (aF oI)) (re:LI (aF oI)) (rl:RU (aF oI)) (rh:RV (aF oI)) (rt:LH (aF oI)) (rI:RW oI)
  (G:Gn S) {T:bH} (V:Sv S T) (he:0≤e∧e<S.aH.length) {j:Nat} (hj:j<S.weights.length) {Φ:jA} (hΦ:∀a w,Fin Tryz.prog fC A w0 a0 R .ret a w→Φ .ret a w)
  {mm:Nat→St} {w:World} {aa:Act} (pr:@eU dI dN A w0 a0 mm w aa (GV (.i e) (.i (j:Int)) (.i 0)) (eZ (cB S T)))
  (hbad:∀f,S.fJ e (j:Int)=3→(jX T e (j:Int)).2=f→f≠0→R=.aZ [S.av,.i f])
  (kk:∀U,Sv S U→(S.fJ e (j:Int)=3→jX T e (j:Int)=(U,0))→(S.fJ e (j:Int)≠3→U=T)→∀mm w aa,@eU dI dN A w0 a0 mm w aa (O5 (.i e) (.i (1+(j:Int)))) (eZ (cB S U))→Φ .normal aa w) :
  (Code.loop (aF oI)).wpIn (fw none) 9 Tryz.prog (KS Tryz.prog (oK oI) Φ) aa w:=by
 have h:=G.toStOk;have hn:=h.hn;have hw:=h.hw
 have X:Ix S e (j:Int):=⟨he.1,he.2,by omega,by omega⟩
 have hmb:=h.mb' X;have hel:e.toNat<S.methods.length:=by rw[h.GR];omega
 have hms:S.methods[e.toNat]?=some (S.methods.getD e.toNat []):=getD_some hel
 have AO:=h.AO _ (fR (d:=[]) hel)
 have hm:(S.methods.getD e.toNat [])[(j:Int).toNat]?=some (S.fJ e (j:Int)):=getD_some (by omega)
 have GR:=h.GR;obtain⟨ms,hmse⟩:∃ms,ms=S.methods.getD e.toNat []:=⟨_,rfl⟩
 rw[←hmse]at hms AO hm;refine eA (fun n a' w=>∃(k:Nat) (U:bH),n=2-k∧k≤2∧Sv S U∧(S.fJ e (j:Int)≠3→k=0)∧(k=0→U=T)∧(k=1→iJ T e (j:Int) 0=(U,0))∧(k=2→jX T e (j:Int)=(U,0))∧∃mm,@eU dI dN A w0 a0 mm w a' (GV (.i e) (.i (j:Int)) (.i (k:Int))) (eZ (cB S U))) ?_ (n:=2) ⟨0,T,rfl,by omega,V,fun _=>rfl,fun _=>rfl,fun h=>(by cases h),fun h=>(by cases h),_,pr⟩
 clear pr;rintro n aa w ⟨k,U,rfl,hk,VU,k0,k1,k2,k3,mm,pr⟩
 have hes:=VU.es;have hle:U.aH.length=S.aH.length:=VU.le
 have hmS:=VU.fJ e (j:Int)
 by_cases hm3:S.fJ e (j:Int)=3
 ·rcases(by omega:k=2∨k<2)with rfl|hk2
  ·have fin:=kk U VU (fun _=>k3 rfl) (fun h=>absurd hm3 h)
   generalize U.aH=E1 at *;generalize U.aU=c1 at *;subst hes;refine rt.go (ev1 _ [(S.aH.length:Int),e,(S.weights.length:Int),(j:Int)] [.I S.aB,.I S.aD,.I S.done] (sT S [bN E1,gD c1]) .nil) (xK kn) pr (fd:=GV (.i e) (.i (j:Int)) (.i 2)) (bd:=cB S (S.es E1 c1)) ?_
   intro mm w aa pr;obtain⟨k,hk0⟩:∃k:Int,k=2:=⟨_,rfl⟩
   have pr:@eU dI dN A w0 a0 mm w aa (GV (.i e) (.i (j:Int)) (.i k)) (eZ (cB S (S.es E1 c1))):=by rw[hk0];exact pr
   refine rI.go (ev1 _ [(S.aH.length:Int),e,(S.weights.length:Int),(j:Int)] [.I S.aB,.I S.aD,.I S.done,.I k] (sT S [bN E1,gD c1]) .nil) (xK kn) pr (fd:=O5 (.i e) (.i (1+(j:Int)))) (bd:=cB S (S.es E1 c1)) ?_
   exact fin
  ·have XU:=VU.ix X
   have h0:=Mx VU.gn XU (loc:=(k:Int)) (by omega) (by omega) (hmS.trans hm3)
   obtain⟨v1,e1,z1⟩:=Cu VU.gn XU (loc:=(k:Int)) (by omega) (by omega) (hmS.trans hm3)
   have st:∀W f,iJ U e (j:Int) (k:Int)=(W,f)→(f≠0→(jX T e (j:Int)).2=f)∧(f=0→(k=0→iJ T e (j:Int) 0=(W,0))∧(k=1→jX T e (j:Int)=(W,0))):=by
    intro W f hW;rcases(by omega:k=0∨k=1)with rfl|rfl
    ·have:=k1 rfl
     subst this;have hW:iJ U e (j:Int) 0=(W,f):=hW
     refine⟨fun hf=>?_,fun hf=>⟨fun _=>by rw[hW,hf],fun h=>(by cases h)⟩⟩
     unfold jX;rw[hW];dsimp only
     rw[if_pos hf]
    ·have q:=k2 rfl
     have hW:iJ U e (j:Int) 1=(W,f):=hW
     refine⟨fun hf=>?_,fun hf=>⟨fun h=>(by cases h),fun _=>?_⟩⟩
     ·unfold jX
      rw[q];dsimp only
      rw[if_neg (by simp),hW]
      dsimp only
      rw[if_pos hf]
     ·unfold jX
      rw[q];dsimp only
      rw[if_neg (by simp),hW]
      dsimp only
      rw[if_neg (by simp[hf])]
   generalize iJ U e (j:Int) (k:Int)=r at *
   obtain⟨W,f⟩:=r;obtain⟨s1,s2⟩:=st W f rfl;dsimp only at *
   have VW:=VU.trans v1;have hes2:=VW.es;generalize W.aH=E2 at *;generalize W.aU=c2 at *;generalize U.aH=E1 at *;generalize U.aU=c1 at *;subst hes;subst hes2;rw[hm3]at hm;by_cases hf:f=0
   ·subst hf
    refine ro.go (ev1 _ [(S.aH.length:Int),e,(S.weights.length:Int),(j:Int),k] [.I S.aB,.I S.aD,.I S.done] (sT S [bN E1,gD c1,aA ms,bN E2,gD c2]) (.d (aS hms) (.d (aI hm) .nil))) (xK (kc h0 kn)) pr (fd:=GV (.i e) (.i (j:Int)) (.i (1+(k:Int)))) (bd:=cB S (S.es E2 c2)) ?_
    intro mm w aa pr;rw[show(1+(k:Int))=((k+1:Nat):Int)by omega]at pr
    exact⟨_,by omega,k+1,S.es E2 c2,rfl,by omega,VW,fun h=>absurd hm3 h,fun h=>(by omega),fun h=>(s2 rfl).1 (by omega),fun h=>(s2 rfl).2 (by omega),mm,pr⟩
   ·rw[hbad f hm3 (s1 hf) hf]at hΦ
    have f2:1≤f∧f≤20:=by unfold kY at e1;omega
    exact re.go (ev1 _ [(S.aH.length:Int),e,(S.weights.length:Int),(j:Int),k,f] [.I S.aB,.I S.aD,.I S.done] (sT S [bN E1,gD c1,aA ms,bN E2,gD c2]) (.d (aS hms) (.d (aI hm) .nil))) (xK (kc h0 kn)) pr fun a w h=>Dl (hΦ a w h) _
 ·obtain rfl:k=0:=k0 hm3
  obtain rfl:U=T:=k1 rfl
  have fin:=kk U VU (fun h=>absurd h hm3) (fun _=>rfl)
  generalize U.aH=E1 at *;generalize U.aU=c1 at *;subst hes;generalize S.fJ e (j:Int)=m at *
  have fin:∀mm w aa,@eU dI dN A w0 a0 mm w aa (GV (.i e) (.i (j:Int)) (.i 0)) (eZ (cB S (S.es E1 c1)))→KS Tryz.prog (oK oI) Φ (AX.exit 3).to aa w:=by
   intro mm w aa pr;obtain⟨k,hk0⟩:∃k:Int,k=0:=⟨_,rfl⟩
   have pr:@eU dI dN A w0 a0 mm w aa (GV (.i e) (.i (j:Int)) (.i k)) (eZ (cB S (S.es E1 c1))):=by rw[hk0];exact pr
   refine rI.go (ev1 _ [(S.aH.length:Int),e,(S.weights.length:Int),(j:Int)] [.I S.aB,.I S.aD,.I S.done,.I k] (sT S [bN E1,gD c1]) .nil) (xK kn) pr (fd:=O5 (.i e) (.i (1+(j:Int)))) (bd:=cB S (S.es E1 c1)) ?_
   exact fin
  rcases(by omega:(1≤m∧m≤2)∨m=4)with h1|h1
  ·refine rl.go (ev1 _ [(S.aH.length:Int),e,(S.weights.length:Int),(j:Int),m] [.I S.aB,.I S.aD,.I S.done] (sT S [bN E1,gD c1,aA ms]) (.d (aS hms) (.d (aI hm) .nil))) (xK kn) pr (fd:=GV (.i e) (.i (j:Int)) (.i 0)) (bd:=cB S (S.es E1 c1)) ?_
   exact fin
  ·refine rh.go (ev1 _ [(S.aH.length:Int),e,(S.weights.length:Int),(j:Int),m] [.I S.aB,.I S.aD,.I S.done] (sT S [bN E1,gD c1,aA ms]) (.d (aS hms) (.d (aI hm) .nil))) (xK kn) pr (fd:=GV (.i e) (.i (j:Int)) (.i 0)) (bd:=cB S (S.es E1 c1)) ?_
   exact fin
theorem walk (oA oI:Option (RT Out)) (rA:agI body oA) (rc:agF body) (rS:agH (aF oA) oI) (ro:RR (aF oI)) (re:LI (aF oI)) (rl:RU (aF oI)) (rh:RV (aF oI)) (rt:LH (aF oI)) (rI:RW oI) (rx:agG (aF oA)) (rxe:NN oA) (rxo:TP oA)
  (G:Gn S) (hw1:1≤S.weights.length) (X:Ix S e 0) :
  Ck 30 [S.av,.i e] (.aZ [(iR S e).1.av,.i (iR S e).2]):=by
 have h:=G.toStOk;have hn:=h.hn;have hw:=h.hw;have he0:=X.e0;have he1:=X.e1
 have hat0:=h.at_ X;obtain⟨x,hx⟩:∃x,x=S.bU e:=⟨_,rfl⟩
 have hat:S.aH[e.toNat]?=some ⟨⟨x.now,x.closed,x.bE,x.dC,x.bF,x.aW,x.down⟩,x.ahead⟩:=by rw[hx];exact hat0
 have al:=G.al x (by rw[hx];exact List.mem_of_getElem? hat0)
 refine CK.jJ Tryz.func30 (c:=body) (by kernel_rfl) (EE.out) (GQ.out) fun A w0 a0=>?_
 generalize hR:AV.aZ [(iR S e).1.av,.i (iR S e).2]=R
 have hL:∀r:bH×Int,iR S e=r→R=.aZ [r.1.av,.i r.2]:=fun r hr=>by rw[←hR,hr]
 clear hR;intro mm w aa pr;rw[Tryz.ntmps30]at pr;by_cases hc:x.closed=true
 ·rw[hc]at hat
  rw[hL (S,7) (by unfold iR;rw[←hx,if_pos hc])]
  exact rc.go (ev1 _ [(S.aH.length:Int),e,(S.weights.length:Int)] [.I S.aB,.I S.aD,.I S.done,.I x.now] (sT S [bL x.bE,aA x.dC,bM x.bF,aA x.aW,aA x.down,bV x.ahead]) (.d (aE hat) .nil)) (xK kn) pr
 have hc':x.closed=false:=by simpa using hc
 have hah:x.ahead=[]:=by
  have h1:=al.1;rw[show x.sh.2.1=x.closed from rfl,hc']at h1
  exact List.length_eq_zero_iff.1 h1
 rw[hc',hah]at hat;have hL:∀r:bH×Int,(match jC e S.weights.length 0 S with
  |(T,f)=>if f≠0 then(S,f)else match pI T e with|(U,f)=>if f≠0 then(S,f)else(U.bP e ((U.bU e).shut x.toEntC),0))=r→R=.aZ [r.1.av,.i r.2]:=fun r hr=>hL r (by unfold iR;rw[←hx,if_neg hc];exact hr)
 refine rA.go (ev1 _ [(S.aH.length:Int),e,(S.weights.length:Int)] [.I S.aB,.I S.aD,.I S.done,.I x.now] (sT S [bL x.bE,aA x.dC,bM x.bF,aA x.aW,aA x.down]) (.d (aE hat) .nil)) (xK kn) pr (fd:=O5 (.i e) (.i 0)) (bd:=cB S S) ?_
 intro mm w aa pr;refine eA (fun n a' w=>∃(j:Nat) (T:bH),n=S.weights.length-j∧j≤S.weights.length∧Sv S T∧jC e S.weights.length 0 S=jC e (S.weights.length-j) j T∧∃mm,@eU dI dN A w0 a0 mm w a' (O5 (.i e) (.i (j:Int))) (eZ (cB S T))) ?_ (n:=S.weights.length) ⟨0,S,rfl,Nat.zero_le _,.refl G,rfl,_,pr⟩
 rintro n aa w ⟨j,T,rfl,hj,V,hA,mm,pr⟩
 have hes:=V.es;rcases(by omega:j=S.weights.length∨j<S.weights.length)with rfl|hlt
 ·rw[Nat.sub_self]at hA
  have hA:jC e S.weights.length 0 S=(T,0):=hA
  rw[hA]at hL;dsimp only at hL
  rw[if_neg (by simp)]at hL
  have XT:=V.ix X;have hM:=SQ V.gn XT;obtain⟨k1,e1⟩:=T5 V.gn XT;have Eok:=(k1.gn V.gn).toStOk.Hh (k1.ix XT)
  have haty0:=(k1.gn V.gn).toStOk.at_ (k1.ix XT)
  generalize pI T e=r at *;obtain⟨U,f⟩:=r;dsimp only at *
  obtain⟨E2,rfl⟩:=k1.ex;have hle2:E2.length=S.aH.length:=by have:=k1.len;have:=V.le;exact k1.len.trans V.le
  generalize T.aH=E1 at *;generalize T.aU=c1 at *;subst hes;obtain⟨y,hy⟩:∃y,y=((S.es E1 c1).gI E2).bU e:=⟨_,rfl⟩
  rw[←hy]at Eok haty0 hL;have haty:E2[e.toNat]?=some ⟨⟨y.now,y.closed,y.bE,y.dC,y.bF,y.aW,y.down⟩,y.ahead⟩:=haty0
  have pl:y.bE.length=2*S.weights.length:=Eok.pl
  have bl:=Eok.bl;have rl':y.bF.length=S.weights.length:=Eok.rl
  have prl:y.aW.length=S.weights.length:=Eok.pr
  have dl:y.down.length=S.weights.length:=Eok.dl
  refine rx.go (ev1 _ [(S.aH.length:Int),e,(S.weights.length:Int)] [.I S.aB,.I S.aD,.I S.done] (sT S [bN E1,gD c1]) .nil) (xK kn) pr (fd:=O5 (.i e) (.i (S.weights.length:Int))) (bd:=cB S (S.es E1 c1)) ?_
  intro mm w aa pr;by_cases h0:f=0
  ·subst h0
   rw[if_neg (by simp)]at hL
   rw[hL _ rfl];have hav:(((S.es E1 c1).gI E2).bP e (y.shut x.toEntC)).av=((S.es E1 c1).gI E2).setRow e [.i y.now,.c (.bool true),.lit 4 (bL y.bE),.lit 1 (aA y.dC),.lit 11 (bM y.bF),.lit 1 (aA y.aW),.lit 1 (aA y.down),.lit 8 [[.i x.now,.c (.bool false),.lit 4 (bL x.bE),.lit 1 (aA x.dC),.lit 11 (bM x.bF),.lit 1 (aA x.aW),.lit 1 (aA x.down),.lit 8 []]]]:=by
    rw[bH.qB,←hc'];rfl
   dsimp only
   rw[hav];exact rxo.go (ev1 _ [(S.aH.length:Int),e,(S.weights.length:Int)] [.I S.aB,.I S.aD,.I S.done,.I x.now,.I y.now,.bool y.closed] (sT S [bN E1,gD c1,bN E2,bL x.bE,aA x.dC,bM x.bF,aA x.aW,aA x.down,bL y.bE,aA y.dC,bM y.bF,aA y.aW,aA y.down,bV y.ahead]) (.d (aE hat) (.d (aE haty) .nil))) (xK (kc hM kn)) pr
  ·rw[if_pos h0]at hL
   rw[hL _ rfl];have f2:1≤f∧f≤20:=by unfold kY at e1;omega
   exact rxe.go (ev1 _ [(S.aH.length:Int),e,(S.weights.length:Int),f] [.I S.aB,.I S.aD,.I S.done] (sT S [bN E1,gD c1,bN E2]) .nil) (xK (kc hM kn)) pr
 ·have hA2:jC e (S.weights.length-j) j T=if T.fJ e (j:Int)=3 then(match jX T e (j:Int)with|(U,f)=>if f≠0 then(T,f)else jC e (S.weights.length-(j+1)) (j+1) U)else jC e (S.weights.length-(j+1)) (j+1) T:=by
   obtain⟨k,hk⟩:∃k,S.weights.length-j=k+1:=⟨S.weights.length-j-1,by omega⟩
   rw[hk,show S.weights.length-(j+1)=k by omega]
   rfl
  rw[hA2,V.fJ]at hA;have V0:=V;have nx:∀U,Sv S U→jC e S.weights.length 0 S=jC e (S.weights.length-(j+1)) (j+1) U→∀mm w aa,@eU dI dN A w0 a0 mm w aa (O5 (.i e) (.i (1+(j:Int)))) (eZ (cB S U))→∃n',n'<S.weights.length-j∧∃(j':Nat) (T':bH),n'=S.weights.length-j'∧j'≤S.weights.length∧Sv S T'∧jC e S.weights.length 0 S=jC e (S.weights.length-j') j' T'∧∃mm,@eU dI dN A w0 a0 mm w aa (O5 (.i e) (.i (j':Int))) (eZ (cB S T')):=by
   intro U VU hU mm w aa pr;rw[show(1+(j:Int))=((j+1:Nat):Int)by omega]at pr
   exact⟨_,by omega,j+1,U,rfl,by omega,VU,hU,mm,pr⟩
  have hpr:∀Φ:jA,(∀mm w aa,@eU dI dN A w0 a0 mm w aa (GV (.i e) (.i (j:Int)) (.i 0)) (eZ (cB S T))→(Code.loop (aF oI)).wpIn (fw none) 9 Tryz.prog (KS Tryz.prog (oK oI) Φ) aa w)→(aF oA).wpIn (fw none) 9 Tryz.prog Φ aa w:=by
   intro Φ kk;generalize T.aH=E1 at *;generalize T.aU=c1 at *;subst hes;refine rS.go (ev1 _ [(S.aH.length:Int),e,(S.weights.length:Int),(j:Int)] [.I S.aB,.I S.aD,.I S.done] (sT S [bN E1,gD c1]) .nil) (xK kn) pr (fd:=GV (.i e) (.i (j:Int)) (.i 0)) (bd:=cB S (S.es E1 c1)) ?_
   exact kk
  refine hpr _ ?_
  intro mm w aa pr;refine inner (R:=R) oI ro re rl rh rt rI G V ⟨he0,he1⟩ hlt ?_ pr ?_ ?_
  ·intro a w h
   exact Dl h _
  ·intro f hm hf hf0
   refine hL (S,f) ?_
   rw[hA,if_pos hm];generalize jX T e (j:Int)=r at *
   obtain⟨U,g⟩:=r;dsimp only at hf ⊢
   subst hf;rw[if_pos hf0];dsimp only
   rw[if_pos hf0]
  ·intro U VU h3 hn3 mm w aa pr
   refine nx U VU ?_ mm w aa pr
   rw[hA];by_cases hm:S.fJ e (j:Int)=3
   ·rw[if_pos hm,h3 hm]
    dsimp only
    rw[if_neg (by simp)]
   ·rw[if_neg hm,hn3 hm]
end
end CL
theorem O7 {S:bH} {e:Int} (G:Gn S) (hw1:1≤S.weights.length) (X:Ix S e 0):Ck 30 [S.av,.i e] (.aZ [(iR S e).1.av,.i (iR S e).2]) :=
 CL.walk CL.Fc CL.Dw CL.ajm CL.ajj CL.ajl CL.ahF CL.aeP CL.ahG CL.ahH CL.aeO CL.ahI CL.ajk CL.abB CL.aeQ G hw1 X
end
section
open Mc
abbrev QB (q:Int):Prop:=1≤q∧q≤1073741824
abbrev AB (a:Int):Prop:=0≤a∧a≤1073741824
abbrev LB (l:Int):Prop:=0≤l∧l≤1
abbrev RB (r:Int):Prop:=0≤r∧r≤39
abbrev EB (n:Nat) (e:Int):Prop:=0≤e∧e<(n:Int)
structure Stp (S T:bH):Prop where
 gn:Gn T
 le:T.aH.length=S.aH.length
 wt:T.weights=S.weights
 pe:T.aD=S.aD
 en:T.aB=S.aB
 me:T.methods=S.methods
 dn:T.done≤S.done+1
theorem Stp.refl {S:bH} (G:Gn S):Stp S S:=⟨G,rfl,rfl,rfl,rfl,rfl,by omega⟩
theorem yG.stp {S:bH} {r:bH×Int} (G:Gn S) (h:yG S r):Stp S (lI S r).1:=by
 obtain⟨g,e,no,le,wt,pe,en,me,dn⟩:=h;obtain⟨T,f⟩:=r;dsimp only at *
 unfold lI;split
 ·refine⟨⟨⟨g.hn,g.hw,g.GR,g.DB,g.AO,g.uF,g.mb,g.cb,g.bU,g.ahead⟩,g.rcl,g.Tu,g.GY,g.rcb,g.Tv,g.trb,?_,g.al,g.pb⟩,le,wt,pe,en,me,?_⟩
  ·show 0≤1+T.done
   have:=g.d0;omega
  ·show 1+T.done≤_
   omega
 ·exact .refl G
theorem yG.dT {S:bH} {r:bH×Int} (G:Gn S) (hd:S.done≤1000000) (h:yG S r):0≤r.1.done∧r.1.done≤1000000:=by
 have:=G.d0;rw[h.dn];omega
theorem BX (b:List Int) (l:List cD) {k:Nat} (hk:k<17):(Gz b l).getD k 0=b.getD k 0+eO l k:=by
 unfold Gz;rw[List.getD,List.getElem?_map,List.getElem?_range hk];rfl
theorem Pe {k:FuncId} {xs:List AV} (h:CK Tryz.prog k xs WP) (w:World) (vs:Array Value) (hl:vs.size=xs.length) (hv:∀(i:Nat) (x:AV),xs[i]?=some x→@dG dI dN (fun _=>False) w x (vs.getD i Go.undef)):Calls Tryz.prog k vs w fun e w'=>e=.returned (.bool true)∧Below w.heap.size w w':=by
 refine(h.ok (fun _=>False) w vs (fun _ h=>h.elim) (fun t h=>absurd h List.not_mem_nil) hl hv).mono ?_
 rintro e w' ⟨v,rfl,h1,h2⟩
 cases h1;exact⟨rfl,h2⟩
theorem ab7 {w:World} {a:Option Addr} {n cap:Nat} {z:List Int} (h:Row w 1 a n cap z):@dG dI dN (fun _=>False) w (.lit 1 (aA z)) (.slice a n cap):=by
 obtain⟨h1,h2,h3,h4,h5⟩:=h;have e:n=z.length:=by omega
 subst e;rw[FW];have hl:(z.map fun v=>[v]).length=z.length:=by simp
 rw[←hl]at h2 ⊢;refine vW (by intro r hr;obtain⟨x,-,rfl⟩:=List.mem_map.1 hr;rfl) h2 h3 ?_
 rw[hl,Ew];rcases h5 with h5|⟨b,off,h5,h6,h7⟩
 ·exact .inl h5
 ·exact .inr ⟨b,off,h5,fun h=>h,h6,fun i hi=>h7 i (by omega)⟩
set_option maxRecDepth 100000
namespace L3
def en (b r:List Int) (P:List bB):eC:=⟨⟨1,false,[⟨P,0,0,0⟩,⟨[],0,0,0⟩],b,[r],[-1],[0]⟩,[]⟩
def st (b r:Nat→List Int) (P:Nat→List bB) (rc:List yF) (tr:List wX) (d:Int):bH:=⟨3,1,[1],[[2],[2],[2]],[[0],[0],[0]],[en (b 0) (r 0) (P 0),en (b 1) (r 1) (P 1),en (b 2) (r 2) (P 2)],rc,[],tr,d⟩
def up {α:Type} (f:Nat→α) (e:Nat) (v:α):Nat→α:=fun j=>if j=e then v else f j
structure PO (K:Int) (b r:Nat→List Int):Prop where
 bl:∀j,(b j).length=17
 bb:∀j (a:Nat),a<17→-K≤(b j).getD a 0∧(b j).getD a 0≤K
 rl:∀j,(r j).length=11
 rb:∀j,∀v∈r j,-K≤v∧v≤K
section
variable {b r:Nat→List Int} {P:Nat→List bB} {rc:List yF} {tr:List wX} {d K:Int} {e:Nat}
theorem bU (he:e<3):(st b r P rc tr d).bU (e:Int)=en (b e) (r e) (P e):=by
 rcases(by omega:e=0∨e=1∨e=2)with rfl|rfl|rfl<;>rfl
theorem set (he:e<3) (b' r':List Int) (P':List bB):(st b r P rc tr d).bP (e:Int) (en b' r' P')=st (up b e b') (up r e r') (up P e P') rc tr d:=by
 rcases(by omega:e=0∨e=1∨e=2)with rfl|rfl|rfl<;>rfl
theorem sD {α:Type} (f:Nat→α) (e:Nat):up f e (f e)=f:=by
 funext j;unfold up;split
 ·rename_i h;rw[h]
 ·rfl
theorem akb (he:e<3) (b':List Int):(st b r P rc tr d).bP (e:Int) (((st b r P rc tr d).bU (e:Int)).xD b')=st (up b e b') r P rc tr d:=by
 rw[bU he,show(en (b e) (r e) (P e)).xD b'=en b' (r e) (P e)from rfl,set he,sD,sD]
theorem fJ (he:e<3):(st b r P rc tr d).fJ (e:Int) 0=2:=by
 rcases(by omega:e=0∨e=1∨e=2)with rfl|rfl|rfl<;>rfl
theorem cost (he:e<3):(st b r P rc tr d).cost (e:Int) 0=0:=by
 rcases(by omega:e=0∨e=1∨e=2)with rfl|rfl|rfl<;>rfl
theorem cQ (he:e<3):((st b r P rc tr d).bU (e:Int)).cQ (2*0+0)=⟨P e,0,0,0⟩:=by rw[bU he];rfl
structure Vo (l:List cD):Prop where
 ok:∀x∈l,0≤x.a∧x.a<17∧-10000≤x.n∧x.n≤10000
 len:l.length≤4
 sum:(gH l).sum=0
theorem vbd:∀(l:List cD),(∀x∈l,0≤x.a∧x.a<17∧-10000≤x.n∧x.n≤10000)→∀a,-(10000*(l.length:Int))≤eO l a∧eO l a≤10000*(l.length:Int)
 |[],_,a=>by simp[eO]
 |x::l,h,a=>by
  have ih:=vbd l (fun y hy=>h y (List.mem_cons_of_mem _ hy)) a
  have hx:=h x List.mem_cons_self;rw[fF,List.length_cons];split<;>omega
theorem post {l:List cD} (he:e<3) (B:PO K b r) (hK:K≤1000000000) (V:Vo l):gK (st b r P rc tr d) (e:Int) l=(st (up b e (Gz (b e) l)) r P rc tr d,0)∧PO (K+40000) (up b e (Gz (b e) l)) r:=by
 have hE:=bU (b:=b) (r:=r) (P:=P) (rc:=rc) (tr:=tr) (d:=d) he
 have sm:Small l:=⟨fun x hx=>by have:=V.ok x hx;omega,by have:=V.len;omega⟩
 have hb:((st b r P rc tr d).bU (e:Int)).dC=b e:=by rw[hE];rfl
 refine⟨?_,?_⟩
 ·have:=B.bb e
  unfold gK;rw[xL sm];simp only
  rw[if_neg (by simp),hb,Fx (B.bl e) (fun a ha=>by have:=B.bb e a ha;omega) sm V.sum]
  simp only[ne_eq,not_true_eq_false,if_false];rw[akb he]
 ·have hv:=vbd l V.ok
  have h4:=V.len;refine⟨?_,?_,B.rl,fun j v hv=>by have:=B.rb j v hv;omega⟩
  ·intro j;unfold up;split
   ·simp[Gz]
   ·exact B.bl j
  ·intro j a ha
   unfold up;split
   ·rw[BX _ _ ha]
    have:=B.bb e a ha
    have:=hv (a:Int)
    omega
   ·have:=B.bb j a ha;omega
theorem abw {q:List Int} (he:e<3) (B:PO K b r) (hK:K≤1000000000) (hl:q.length=11) (hq:∀v∈q,-10000≤v∧v≤10000):∃r',jR (st b r P rc tr d) (e:Int) 0 q=(st b r' P rc tr d,0)∧PO (K+40000) b r':=by
 have hE:=bU (b:=b) (r:=r) (P:=P) (rc:=rc) (tr:=tr) (d:=d) he
 have hr:((st b r P rc tr d).bU (e:Int)).aah 0=r e:=by rw[hE];rfl
 have go:∀(x y:List Int),x.length=y.length→(∀v∈x,-K≤v∧v≤K)→(∀v∈y,-10000≤v∧v≤10000)→BY x y=some (List.zipWith (·+·) x y)∧(∀v∈List.zipWith (·+·) x y,-(K+40000)≤v∧v≤K+40000):=by
  intro x;induction x with
  |nil=>intro y hl _ _;cases y with|nil=>exact⟨rfl,by simp⟩|cons _ _=>simp at hl
  |cons u x ih =>
   intro y hl hx hy;cases y with
   |nil=>simp at hl
   |cons w y =>
    have hu:=hx u List.mem_cons_self;have hw:=hy w List.mem_cons_self;obtain⟨i1,i2⟩:=ih y (by simpa using hl) (fun v hv=>hx v (List.mem_cons_of_mem _ hv)) (fun v hv=>hy v (List.mem_cons_of_mem _ hv))
    have ok:eY u w=true:=nY.2 ⟨dW.2 ⟨by omega,by omega⟩,dW.2 ⟨by omega,by omega⟩,dW.2 ⟨by omega,by omega⟩⟩
    refine⟨?_,?_⟩
    ·simp only[BY,lL,mI,ok,if_true,List.zipWith_cons_cons]
     rw[i1];rfl
    ·intro v hv
     rw[List.zipWith_cons_cons]at hv;rcases List.mem_cons.1 hv with rfl|hv
     ·omega
     ·exact i2 v hv
 obtain⟨g1,g2⟩:=go (r e) q (by rw[B.rl e,hl]) (B.rb e) hq
 refine⟨up r e (List.zipWith (·+·) (r e) q),?_,?_⟩
 ·unfold jR
  rw[hr,g1];simp only
  rw[hE,show(en (b e) (r e) (P e)).sL 0 (List.zipWith (·+·) (r e) q)=en (b e) (List.zipWith (·+·) (r e) q) (P e)from rfl,set he,sD,sD]
 ·refine⟨B.bl,fun j a ha=>by have:=B.bb j a ha;omega,?_,?_⟩
  ·intro j;unfold up;split
   ·simp[B.rl e,hl]
   ·exact B.rl j
  ·intro j v hv
   unfold up at hv;split at hv
   ·exact g2 v hv
   ·have:=B.rb j v hv;omega
theorem ajL {n v s:Int} (he:e<3) (hP:P e=[⟨n,v,s⟩]) (hL:LR [⟨n,v,s⟩]) (hn:1≤n):eL (st b r P rc tr d) (e:Int) 0 0 3 n=(st b r (up P e []) rc tr d,⟨n,v,s⟩,false,0):=by
 have ho:bZ 2 0 [⟨n,v,s⟩] ⟨0,0,0⟩ 3 n=([],⟨0,0,0⟩,⟨n,v,s⟩,false,0):=by
  unfold bZ;rw[if_neg (by omega),if_neg (by omega),if_neg (by omega)]
  unfold fG;rw[if_neg (by omega),if_neg (by omega)]
  unfold dZ;rw[if_neg (by omega),hL.xA.1,if_neg (by simp[qs])]
  simp only[kG];rw[if_neg (by omega),if_neg (by omega)]
  simp[kG,jS,bB.zero]
 unfold eL;rw[fJ he,cost he,cQ he];simp only[dA.pn,hP];rw[ho];simp only[ne_eq,not_true_eq_false,if_false];rw[bU he,show(en (b e) (r e) (P e)).eK (2*0+0) ⟨[],0,0,0⟩=en (b e) (r e) []from rfl,set he,sD,sD]
theorem agX {q v s:Int} (he:e<3) (hP:P e=[]) (hL:LR [⟨q,v,s⟩]) (hq:1≤q) (hv:0≤v) (hb:q≤10000∧v≤10000∧-10000≤s∧s≤10000):fK (st b r P rc tr d) (e:Int) 0 0 ⟨q,v,s⟩=(st b r (up P e [⟨q,v,s⟩]) rc tr d,v,0,0):=by
 have hi:dR 2 0 [] ⟨q,v,s⟩=([⟨q,v,s⟩],0,0):=by
  have h1:Ay [] ⟨q,v,s⟩=([⟨q,v,s⟩],0):=by
   unfold Ay;rw[if_neg (by simp only;omega),if_neg (by simp)]
   simp only[List.nil_append];rw[hL.right];rfl
  unfold dR;rw[if_neg (by omega),if_pos rfl]
  unfold Az;rw[h1];simp only[if_true];rw[hL.xA.1];simp[qs,vs,ps]
 have hs:(st b r P rc tr d).bP (e:Int) (((st b r P rc tr d).bU (e:Int)).eK (2*0+0) ⟨[⟨q,v,s⟩],0,0,0⟩)=st b r (up P e [⟨q,v,s⟩]) rc tr d:=by
  rw[bU he,show(en (b e) (r e) (P e)).eK (2*0+0) ⟨[⟨q,v,s⟩],0,0,0⟩=en (b e) (r e) [⟨q,v,s⟩]from rfl,set he,sD,sD]
 have hE:=bU (b:=b) (r:=r) (P:=up P e [⟨q,v,s⟩]) (rc:=rc) (tr:=tr) (d:=d) he
 have hu:up P e [⟨q,v,s⟩] e=[⟨q,v,s⟩]:=by simp[up]
 rw[hu]at hE;have two:∀x:Int,-10000≤x∧x≤10000→cY [x,0]=0:=fun x hx=>(by
  have:=jN [x,0] 0 (by simp[eB];omega)
  unfold cY;rw[this];rfl)
 have hw:(dQ (st b r (up P e [⟨q,v,s⟩]) rc tr d) (e:Int) 0).2=true:=by
  unfold dQ;rw[hE];show decide (cY [qs [⟨q,v,s⟩],qs []]=0∧cY [vs [⟨q,v,s⟩],vs []]=0∧cY [ps [⟨q,v,s⟩],ps []]=0)=true
  simp only[qs,vs,ps,List.map_cons,List.map_nil,List.sum_cons,List.sum_nil,Int.add_zero];rw[two q (by omega),two v (by omega),two s (by omega)]
  simp
 have hst:A0 (st b r (up P e [⟨q,v,s⟩]) rc tr d) (e:Int) 0=true:=by
  unfold A0;rw[hE];show decide (cY (sw [⟨q,v,s⟩]++sw [])=0)=true
  have:cY (sw [⟨q,v,s⟩]++sw [])=0:=by
   have:=jN (sw [⟨q,v,s⟩]++sw []) 0 (by simp[sw,eB];omega)
   unfold cY;rw[this];rfl
  rw[this];simp
 unfold fK;rw[fJ he,cost he,cQ he];simp only[hP];rw[hi];simp only[ne_eq,not_true_eq_false,if_false];rw[hs,hw,hst];simp
end
end L3
end
section
open Mc
set_option maxRecDepth 100000
namespace L3
def Tt (b:Nat→List Int) (k:Nat):Int:=(b 0).getD k 0+(b 1).getD k 0+(b 2).getD k 0
theorem XJ {b:Nat→List Int} {e k:Nat} (he:e<3) (hk:k<17) (l:List cD):Tt (up b e (Gz (b e) l)) k=Tt b k+eO l (k:Int):=by
 unfold Tt up;rcases(by omega:e=0∨e=1∨e=2)with rfl|rfl|rfl
 ·simp only[if_true];rw[BX _ _ hk];simp;omega
 ·simp only[if_true];rw[BX _ _ hk];simp;omega
 ·simp only[if_true];rw[BX _ _ hk];simp;omega
theorem Vo.mk3 {a b c:Int} {x y z:Int} (ha:0≤a∧a<17) (hb:0≤b∧b<17) (hc:0≤c∧c<17) (hx:-10000≤x∧x≤10000) (hy:-10000≤y∧y≤10000) (hz:-10000≤z∧z≤10000) (hs:x+y+z=0):Vo [⟨a,x⟩,⟨b,y⟩,⟨c,z⟩]:=by
 refine⟨?_,by simp,by simp[gH];omega⟩
 intro u hu;simp only[List.mem_cons,List.not_mem_nil,or_false]at hu;rcases hu with rfl|rfl|rfl<;>(simp only;omega)
theorem Vo.mk2 {a b:Int} {x y:Int} (ha:0≤a∧a<17) (hb:0≤b∧b<17) (hx:-10000≤x∧x≤10000) (hy:-10000≤y∧y≤10000) (hs:x+y=0):Vo [⟨a,x⟩,⟨b,y⟩]:=by
 refine⟨?_,by simp,by simp[gH];omega⟩
 intro u hu;simp only[List.mem_cons,List.not_mem_nil,or_false]at hu;rcases hu with rfl|rfl<;>(simp only;omega)
theorem Vo.mk4 {a b c f:Int} {x y z w:Int} (ha:0≤a∧a<17) (hb:0≤b∧b<17) (hc:0≤c∧c<17) (hf:0≤f∧f<17) (hx:-10000≤x∧x≤10000) (hy:-10000≤y∧y≤10000) (hz:-10000≤z∧z≤10000) (hw:-10000≤w∧w≤10000) (hs:x+y+z+w=0):Vo [⟨a,x⟩,⟨b,y⟩,⟨c,z⟩,⟨f,w⟩]:=by
 refine⟨?_,by simp,by simp[gH];omega⟩
 intro u hu;simp only[List.mem_cons,List.not_mem_nil,or_false]at hu;rcases hu with rfl|rfl|rfl|rfl<;>(simp only;omega)
theorem SH {p:Int→Prop} {x:Int} (h0:p 0) (hx:p x) (k:Nat):∀v∈(List.replicate 11 (0:Int)).set k x,p v:=by
 intro v hv;rcases List.mem_or_eq_of_mem_set hv with h|rfl
 ·rw[(List.mem_replicate.1 h).2];exact h0
 ·exact hx
section
variable {b r:Nat→List Int} {P:Nat→List bB} {rc:List yF} {tr:List wX} {d K:Int}
theorem RZ {e:Nat} (he:e<3):((st b r P rc tr d).bU (e:Int)).closed=false:=by rw[bU he];rfl
theorem sM {n p:Int} (B:PO K b r) (hK:0≤K∧K≤900000000) (hP:P 0=[]) (hr:rc.length<40) (hn:1≤n∧n≤10000) (hp:0≤p∧p≤10000) :
  ∃b' r',qN (st b r P rc tr d) 0 0 0 n p=(st b' r' (up P 0 [⟨n,p,0⟩]) (rc++[⟨0,0,0,n,p,n,p,0⟩]) tr d,0)∧PO (K+80000) b' r'∧∀k,k<17→Tt b' k=Tt b k+eO [⟨0,p⟩,⟨6,0⟩,⟨1,-p⟩] (k:Int):=by
 have hL:LR [⟨n,p,0⟩]:=LR.one (dK.2 ⟨by simp only;omega,by simp only;omega,by simp only;omega,by simp only;omega,by simp only;omega,by simp only;omega⟩)
 have h1:=agX (b:=b) (r:=r) (rc:=rc) (tr:=tr) (d:=d) (e:=0) (by omega) hP hL hn.1 hp.1 (by omega)
 obtain⟨h2,B2⟩:=post (P:=up P 0 [⟨n,p,0⟩]) (rc:=rc) (tr:=tr) (d:=d) (e:=0) (by omega) B (by omega) (l:=[⟨0,p⟩,⟨6,0⟩,⟨1,-p⟩]) (Vo.mk3 (by omega) (by omega) (by omega) (by omega) (by omega) (by omega) (by omega))
 obtain⟨r',h3,B3⟩:=abw (P:=up P 0 [⟨n,p,0⟩]) (rc:=rc) (tr:=tr) (d:=d) (e:=0) (q:=[0,p,0,0,0,0,0,0,0,0,0]) (by omega) B2 (by omega) rfl (SH (p:=fun v=>-10000≤v∧v≤10000) (by omega) (by omega) 1)
 refine⟨_,r',?_,by rw[show K+80000=K+40000+40000 by omega];exact B3,fun k hk=>XJ (by omega) hk _⟩
 have ho:((st b r P rc tr d).bU 0).closed=false:=RZ (e:=0) (by omega)
 unfold qN;rw[ho,if_neg (by simp),if_neg (by show ¬ rc.length=40;omega),show fK (st b r P rc tr d) 0 0 0 ⟨n,p,0⟩=_ from h1]
 simp only[ne_eq,not_true_eq_false,if_false];rw[show gK (st b r (up P 0 [⟨n,p,0⟩]) rc tr d) 0 [⟨0,p⟩,⟨6,0⟩,⟨1,-p⟩]=_ from h2]
 simp only[not_true_eq_false,if_false];rw[show jR _ 0 0 [0,p,0,0,0,0,0,0,0,0,0]=_ from h3]
 simp only[not_true_eq_false,if_false];rfl
theorem I5 {e e':Nat} {n v s a:Int} (he:e<3) (he':e'<3) (B:PO K b r) (hK:0≤K∧K≤900000000) (hP:P e=[⟨n,v,s⟩]) (ht:tr.length<40) (hn:1≤n∧n≤10000) (hv:0≤v∧v≤10000) (ha:0≤a∧a≤10000) (hs:-10000≤s∧s≤10000) :
  ∃b' r',E6 (st b r P rc tr d) (e:Int) 0 0 (e':Int) n a=(st b' r' (up P e []) rc (tr++[⟨e,e',0,n,a,a-v+s⟩]) d,0)∧PO (K+120000) b' r'∧∀k,k<17→Tt b' k=Tt b k+eO [⟨13,a⟩,⟨15,-a⟩,⟨16,v⟩,⟨0,-v⟩] (k:Int)+eO [⟨12,a⟩,⟨14,-a⟩] (k:Int):=by
 have hL:LR [⟨n,v,s⟩]:=LR.one (dK.2 ⟨by simp only;omega,by simp only;omega,by simp only;omega,by simp only;omega,by simp only;omega,by simp only;omega⟩)
 have h1:=ajL (b:=b) (r:=r) (rc:=rc) (tr:=tr) (d:=d) he hP hL hn.1
 obtain⟨h2,B2⟩:=post (P:=up P e []) (rc:=rc) (tr:=tr) (d:=d) he B (by omega) (l:=[⟨13,a⟩,⟨15,-a⟩,⟨16,v⟩,⟨0,-v⟩]) (Vo.mk4 (by omega) (by omega) (by omega) (by omega) (by omega) (by omega) (by omega) (by omega) (by omega))
 obtain⟨h3,B3⟩:=post (P:=up P e []) (rc:=rc) (tr:=tr) (d:=d) he' B2 (by omega) (l:=[⟨12,a⟩,⟨14,-a⟩]) (Vo.mk2 (by omega) (by omega) (by omega) (by omega) (by omega))
 obtain⟨r',h4,B4⟩:=abw (P:=up P e []) (rc:=rc) (tr:=tr) (d:=d) (q:=[0,0,0,0,0,0,v,0,0,0,0]) he B3 (by omega) rfl (SH (p:=fun v=>-10000≤v∧v≤10000) (by omega) (by omega) 6)
 refine⟨_,r',?_,by rw[show K+120000=K+40000+40000+40000 by omega];exact B4,fun k hk=>by rw[XJ he' hk,XJ he hk]⟩
 unfold E6;rw[RZ he,RZ he',if_neg (by simp),if_neg (by simp),if_neg (by show ¬ tr.length=40;omega),h1]
 simp only[ne_eq,not_true_eq_false,if_false];rw[h2];simp only[not_true_eq_false,if_false];rw[h3];simp only[not_true_eq_false,if_false];rw[h4];simp only[not_true_eq_false,if_false];rw[if_pos (by omega)]
 rfl
theorem nX {e ref:Nat} {src tq tv tp q v s:Int} (he:e<3) (B:PO K b r) (hK:0≤K∧K≤900000000) (hP:P e=[]) (ht:tr[ref]?=some ⟨src,(e:Int),0,tq,tv,tp⟩) (hq:1≤q∧q≤tq∧tq≤10000) (hv:v=cV tv q tq) (hs:s=cV tp q tq) (vb:0≤v∧v≤10000) (sb:-10000≤s∧s≤10000) :
  ∃b' r',wN (st b r P rc tr d) 0 q (ref:Int)=(st b' r' (up P e [⟨q,v,s⟩]) rc (tr.set ref ⟨src,e,0,-q+tq,tv-v,tp-s⟩) d,0)∧PO (K+80000) b' r'∧∀k,k<17→Tt b' k=Tt b k+eO [⟨0,v⟩,⟨6,0⟩,⟨12,-v⟩] (k:Int):=by
 have hL:LR [⟨q,v,s⟩]:=LR.one (dK.2 ⟨by simp only;omega,by simp only;omega,by simp only;omega,by simp only;omega,by simp only;omega,by simp only;omega⟩)
 have h1:=agX (b:=b) (r:=r) (rc:=rc) (tr:=tr) (d:=d) he hP hL hq.1 vb.1 (by omega)
 obtain⟨h2,B2⟩:=post (P:=up P e [⟨q,v,s⟩]) (rc:=rc) (tr:=tr) (d:=d) he B (by omega) (l:=[⟨0,v⟩,⟨6,0⟩,⟨12,-v⟩]) (Vo.mk3 (by omega) (by omega) (by omega) (by omega) (by omega) (by omega) (by omega))
 obtain⟨r',h3,B3⟩:=abw (P:=up P e [⟨q,v,s⟩]) (rc:=rc) (tr:=tr) (d:=d) (q:=[0,0,0,v,0,0,0,0,0,0,0]) he B2 (by omega) rfl (SH (p:=fun v=>-10000≤v∧v≤10000) (by omega) (by omega) 3)
 refine⟨_,r',?_,by rw[show K+80000=K+40000+40000 by omega];exact B3,fun k hk=>XJ he hk _⟩
 unfold wN;rw[show(st b r P rc tr d).aM[(ref:Int).toNat]?=some ⟨src,(e:Int),0,tq,tv,tp⟩by rw[Int.toNat_natCast];exact ht]
 simp only
 rw[RZ he,if_neg (by simp),if_neg (by omega),←hv,←hs]
 unfold MH;rw[h1];simp only[ne_eq,not_true_eq_false,if_false];rw[h2];simp only[not_true_eq_false,if_false];rw[h3];simp only[not_true_eq_false,if_false];rfl
end
end L3
end
section
open Mc
set_option maxRecDepth 1000000
structure vB where
 (q v p d:Int)
def vB.row (x:vB):List AV:=[.i x.q,.i x.v,.i x.p,.i x.d]
def iZ (l:List vB):List (List AV):=l.map vB.row
theorem afT (l:List vB):pG (iZ l):=by
 intro r hr x hx;obtain⟨g,-,rfl⟩:=List.mem_map.1 hr;simp only[vB.row,List.mem_cons,List.not_mem_nil,or_false]at hx;rcases hx with rfl|rfl|rfl|rfl<;>exact .c _
instance (l:List vB):lE (iZ l):=⟨afT l⟩
theorem Ad {ρ:Nat→Int} {p:Poly} {l:List eC} {now:Int} {closed:Bool} {bE:List dA} {dC:List Int} {bF:List (List Int)} {aW down:List Int} {ahead:List EntC} (h:l[(PS ρ p).toNat]?=some ⟨⟨now,closed,bE,dC,bF,aW,down⟩,ahead⟩):(bN l)[(bJ ρ p).toNat]?=some [.i now,.c (.bool closed),.lit 4 (bL bE),.lit 1 (aA dC),.lit 11 (bM bF),.lit 1 (aA aW),.lit 1 (aA down),.lit 8 (bV ahead)]:=tT (uG ρ p).symm (adM h)
def wL (S:bH) (item:Int) (j:Nat):List bB:=(List.range j).map fun(e:Nat)=>(dQ S (e:Int) item).1
def tL (S:bH) (item:Int) (j:Nat):List wX:=(S.aM.take j).filter fun t=>t.item==item
def Sw (S:bH) (item:Int):List Int:=(wL S item S.aH.length).map (·.q)++(tL S item S.aM.length).map (·.lS)
def Su (S:bH) (item:Int):List Int:=(wL S item S.aH.length).map (·.v)++(tL S item S.aM.length).map (·.value)
def Sx (S:bH) (item:Int):List Int:=(wL S item S.aH.length).map (·.p)++(tL S item S.aM.length).map (·.cN)
def GS (S:bH) (item:Int):List Int:=S.aH.map fun x=>x.down.getD item.toNat 0
def Cf (S:bH) (a:Int):List Int:=S.aH.map fun x=>x.dC.getD a.toNat 0
theorem SG {S:bH} (G:Gn S) (hn:S.aH.length=2∨S.aH.length=3):(∃x0 x1,S.aH=[x0,x1])∨∃x0 x1 x2,S.aH=[x0,x1,x2]:=by
 match h:S.aH,hn with
 |[x0,x1],_=>exact .inl ⟨x0,x1,rfl⟩
 |[x0,x1,x2],_=>exact .inr ⟨x0,x1,x2,rfl⟩
 |[],hn=>simp at hn
 |[_],hn=>simp at hn
 |_::_::_::_::_,hn=>simp at hn
theorem aew (S:bH) (item:Int) (j:Nat):wL S item (j+1)=wL S item j++[(dQ S (j:Int) item).1]:=by simp[wL,List.range_succ]
theorem aeR {S:bH} {item:Int} {j:Nat} {g:wX} (h:S.aM[j]?=some g):tL S item (j+1)=tL S item j++(if g.item=item then[g]else[]):=by
 unfold tL;rw[List.take_add_one,h,List.filter_append];by_cases hi:g.item=item<;>simp[hi]
theorem jZ (l:List Int) (x:Int):aA l++[[.i x]]=aA (l++[x]):=by simp[aA]
namespace GO
abbrev oF (a b c l n i:AV):List AV:=fr 113 [(2,.ptr 10 0 0 0),(3,.ptr 1 1 0 0),(4,.ptr 4 2 0 0),(5,.i 0),(6,a),(7,b),(8,c),(21,l),(22,n),(23,i)]
abbrev LZ (a b c l n i:AV):List AV:=fr 113 [(2,.ptr 10 0 0 0),(3,.ptr 1 1 0 0),(4,.ptr 4 2 0 0),(5,.i 0),(6,a),(7,b),(8,c),(47,l),(48,n),(49,i)]
abbrev Ib (d i:AV):List AV:=fr 113 [(4,.ptr 4 5 0 0),(5,.i 0),(13,.ptr 4 0 0 0),(14,d),(15,.i 0),(91,.own 128 2 4 0 3),(92,.i 3),(93,i)]
abbrev sR (S:bH):Mc.bY:=.cells 31 10 [[.i S.aB,.i S.aD,.lit 1 (aA S.weights),.lit 1 (dM S.methods),.lit 1 (dM S.iC),.lit 8 (bN S.aH),.lit 8 (kW S.bX),.lit 9 (gD S.aU),.lit 6 (gY S.aM),.i S.done]]
abbrev oB (S:bH) (item:Int) (q v p:List (List AV)):List Mc.bY:=[sR S,.cells 3 1 [[.i item]],.cells 46 4 VV,.cells 3 1 q,.cells 3 1 v,.cells 3 1 p]
abbrev oB3 (g:List AV) (k:Nat) (q v p:List Int):List Mc.bY:=[.cells 46 4 [g],.cells 3 1 (aA q),.cells 3 1 (aA v),.cells 3 1 (aA p),.cells 128 2 [[.ptr 4 0 0 0,.own 3 1 1 0 k],[.ptr 4 0 0 1,.own 3 1 2 0 k],[.ptr 4 0 0 2,.own 3 1 3 0 k]],.cells 46 4 VV]
abbrev fA (S:bH) (k j:Nat):List AV:=oF (.own 3 1 3 0 k) (.own 3 1 4 0 k) (.own 3 1 5 0 k) (.lit 8 (bN S.aH)) (.i (S.aH.length:Int)) (.i (j:Int))
abbrev fT (S:bH) (k j:Nat):List AV:=LZ (.own 3 1 3 0 k) (.own 3 1 4 0 k) (.own 3 1 5 0 k) (.lit 6 (gY S.aM)) (.i (S.aM.length:Int)) (.i (j:Int))
noncomputable def body:Code:=(Tryz.f34).body.getD .skip
abbrev agy (c:Code) (r:Option (RT Out)):Prop:=AK { vars:=Vi,facts:=Vj,lens:=YE } c (U3++List.replicate 111 .undef) [] [some 0,some 1,some 2,none,none,none] (oF (.own 3 1 3 0 0) (.own 3 1 4 0 0) (.own 3 1 5 0 0) (.q 8 0) (.v 2) (.i 0)) [JN,Wj,Y2,W5,W5,W5] r
noncomputable def HE:Option (RT Out):=Nm { vars:=Vi,facts:=Vj,lens:=YE } body (U3++List.replicate 111 .undef:List AV).length (U3++List.replicate 111 .undef) [] 0
theorem aiS:agy body HE:=⟨rfl,by decide +kernel,by decide +kernel⟩
abbrev acs (c:Code):Prop:=fL { vars:=[(0,4),(1,5),(0,4),(0,40),(0,3)],facts:=[VD,([([2],1),([4],-1)],1,4)],lens:=JK,bT:=[(69,[Wu,.v 4,.v 0],VL)] } c (oF VX VY VZ (.q 8 0) (.v 2) (.v 4)) Kt 0 [some 0,some 1,some 2,some 8,some 10,some 12] (oF (.cE 3 1 3 WW) (.cE 3 1 4 WW) (.cE 3 1 5 WW) (.q 8 0) (.v 2) Wi) [JN,Wj,Y2,(.sc 3 1 7 [] [[.o 3]] WW),(.sc 3 1 8 [] [[.o 4]] WW),(.sc 3 1 9 [] [[.o 5]] WW)]
theorem aiR:acs (aF HE):=⟨_,rfl,by decide +kernel,by decide +kernel⟩
abbrev acr (c:Code):Prop:=fL { vars:=Vi,facts:=Vj,lens:=JL } c (oF VQ VR V2 (.q 8 0) (.v 2) (.v 2)) Ku 2 [some 0,some 1,some 2,some 3,some 4,some 5] (oF VQ VR V2 (.q 8 0) (.v 2) (.v 2)) Ku
theorem aiQ:acr (aF HE):=⟨_,rfl,by decide +kernel,by decide +kernel⟩
abbrev RJ (o:Option (RT Out)) (r:Option (RT Out)):Prop:=yE { vars:=Vi,facts:=Vj,lens:=JL } o 0 (oF VQ VR V2 (.q 8 0) (.v 2) (.v 2)) Ku [some 0,some 1,some 2,some 3,some 4,some 5] (LZ VQ VR V2 (.q 6 6) (.v 3) (.i 0)) Ku r
noncomputable def uB:Option (RT Out):=rsA { vars:=Vi,facts:=Vj,lens:=JL } HE 0 (oF VQ VR V2 (.q 8 0) (.v 2) (.v 2):List AV).length (oF VQ VR V2 (.q 8 0) (.v 2) (.v 2)) Ku 6
theorem ahl:RJ HE uB:=⟨rfl,by decide +kernel,by decide +kernel⟩
abbrev RI (c:Code):Prop:=fL { vars:=Yp,facts:=[VD,Vs,([([0],-1),([6],1)],0,0)],lens:=JK,kT:=Yj } c (LZ VX VY VZ (.q 6 6) (.v 3) (.v 5)) Kt 0 [some 0,some 1,some 2,some 8,some 10,some 12] (LZ (.cE 3 1 3 WW) (.cE 3 1 4 WW) (.cE 3 1 5 WW) (.q 6 6) (.v 3) Wk) [JN,Wj,Y2,(.sc 3 1 7 [] [[.o 5]] WW),(.sc 3 1 8 [] [[.o 6]] WW),(.sc 3 1 9 [] [[.o 7]] WW)]
theorem ahk:RI (aF uB):=⟨_,rfl,by decide +kernel,by decide +kernel⟩
abbrev Lt (c:Code):Prop:=fL { vars:=Yp,facts:=[VD,Vs,([([0],-1),([6],1)],-9,-1)],lens:=JK,kT:=Yj } c (LZ VX VY VZ (.q 6 6) (.v 3) (.v 5)) Kt 0 [some 0,some 1,some 2,some 3,some 4,some 5] (LZ VX VY VZ (.q 6 6) (.v 3) Wk) Kt
theorem aeI:Lt (aF uB):=⟨_,rfl,by decide +kernel,by decide +kernel⟩
abbrev Lu (c:Code):Prop:=fL { vars:=Yp,facts:=[VD,Vs,([([0],-1),([6],1)],1,9)],lens:=JK,kT:=Yj } c (LZ VX VY VZ (.q 6 6) (.v 3) (.v 5)) Kt 0 [some 0,some 1,some 2,some 3,some 4,some 5] (LZ VX VY VZ (.q 6 6) (.v 3) Wk) Kt
theorem aeJ:Lu (aF uB):=⟨_,rfl,by decide +kernel,by decide +kernel⟩
abbrev RH (c:Code):Prop:=fL { vars:=[(0,4),(1,5),(0,4),(0,40),(0,44)],facts:=Vj,lens:=JK } c (LZ VX VY VZ (.q 6 6) (.v 3) (.v 3)) Kt 4 [some 0,some 1,some 2,some 3,some 4,some 5] (LZ VX VY VZ (.q 6 6) (.v 3) (.v 3)) Kt
theorem ahj:RH (aF uB):=⟨_,rfl,by decide +kernel,by decide +kernel⟩
abbrev Lw (o:Option (RT Out)) (r:Option (RT Out)):Prop:=yE { vars:=Ux,facts:=Vj,lens:=Jd,kT:=[(0,[],Ze),Wl,Qm,Wm],bT:=ZR } o 2 (LZ VX VY VZ (.q 6 6) (.v 3) (.v 3)) Kt [some 6,some 3,some 4,some 5,some 15,some 2] (Ib (.o 9) (.i 0)) [(.cells 46 4 [[.i 0,.i 0,.i 0,.o 9]]),U7,U8,U9,KT,Y2] r
noncomputable def vS:Option (RT Out):=rsA { vars:=Ux,facts:=Vj,lens:=Jd,kT:=[(0,[],Ze),Wl,Qm,Wm],bT:=ZR } uB 2 (LZ VX VY VZ (.q 6 6) (.v 3) (.v 3):List AV).length (LZ VX VY VZ (.q 6 6) (.v 3) (.v 3)) Kt 6
theorem aeL:Lw uB vS:=⟨rfl,by decide +kernel,by decide +kernel⟩
abbrev Lv (o:Option (RT Out)) (r:Option (RT Out)):Prop:=yE { vars:=Uy,facts:=Vj,lens:=KY,kT:=[(0,[],Ze),Wl,Qm,Wm,Qh,(26,[([0],1)],[.o 11])],bT:=Zc } o 2 (LZ VX VY VZ (.q 6 6) (.v 3) (.v 3)) Kt [some 6,some 3,some 4,some 5,some 19,some 2] (Ib (.o 12) (.i 0)) [(.cells 46 4 [[.i 0,.i 0,.i 0,.o 12]]),U7,U8,U9,KT,Y2] r
noncomputable def vR:Option (RT Out):=rsA { vars:=Uy,facts:=Vj,lens:=KY,kT:=[(0,[],Ze),Wl,Qm,Wm,Qh,(26,[([0],1)],[.o 11])],bT:=Zc } uB 2 (LZ VX VY VZ (.q 6 6) (.v 3) (.v 3):List AV).length (LZ VX VY VZ (.q 6 6) (.v 3) (.v 3)) Kt 6
theorem aeK:Lv uB vR:=⟨rfl,by decide +kernel,by decide +kernel⟩
abbrev NM (c:Code):Prop:=fL { vars:=[(0,44)],lens:=YF,bT:=[(72,[.q 1 0],(.aZ [.o 1,.i 0]))] } c (Ib (.o 0) (.i 0)) [(.cells 46 4 [[.i 0,.i 0,.i 0,.o 0]]),Va,Vb,Vc,KU,Y2] 0 [some 0,some 1,some 2,some 3,some 4,some 5] (Ib (.o 0) (.i 1)) Kf
theorem aiV:NM (aF vR):=⟨_,rfl,by decide +kernel,by decide +kernel⟩
abbrev NL (c:Code):Prop:=fL { vars:=[(0,44)],lens:=YF,bT:=[(72,[.q 1 1],(.aZ [.o 2,.i 0]))] } c (Ib (.o 0) (.i 1)) Kf 0 [some 0,some 1,some 2,some 3,some 4,some 5] (Ib (.o 0) (.i 2)) Kg
theorem aiU:NL (aF vR):=⟨_,rfl,by decide +kernel,by decide +kernel⟩
abbrev NK (c:Code):Prop:=fL { vars:=[(0,44)],lens:=YF,bT:=[(72,[.q 1 2],(.aZ [.o 3,.i 0]))] } c (Ib (.o 0) (.i 2)) Kg 0 [some 0,some 1,some 2,some 3,some 4,some 5] (Ib (.o 0) (.i 3)) Kh
theorem aiT:NK (aF vR):=⟨_,rfl,by decide +kernel,by decide +kernel⟩
abbrev FE (c:Code):Prop:=fL { vars:=[(0,44)],lens:=YF } c (Ib (.o 0) (.i 3)) Kh 6 [some 0,some 1,some 2,some 3,some 4,some 5] (Ib (.o 0) (.i 3)) Kh
theorem ahi:FE (aF vR):=⟨_,rfl,by decide +kernel,by decide +kernel⟩
abbrev NJ (o:Option (RT Out)):Prop:=rT { vars:=[(0,44)],lens:=YF } Tryz.f34 o 4 (Ib (.o 0) (.i 3)) Kh ((.aZ [(.agg [.o 1,.o 2,.o 3,.o 0]),.i 0]))
theorem aiP:NJ vR:=⟨_,rfl,by decide +kernel,by decide +kernel,by kernel_rfl⟩
theorem aho:NM (aF vS):=⟨_,rfl,by decide +kernel,by decide +kernel⟩
theorem ahn:NL (aF vS):=⟨_,rfl,by decide +kernel,by decide +kernel⟩
theorem ahm:NK (aF vS):=⟨_,rfl,by decide +kernel,by decide +kernel⟩
theorem aeH:FE (aF vS):=⟨_,rfl,by decide +kernel,by decide +kernel⟩
theorem ahh:NJ vS:=⟨_,rfl,by decide +kernel,by decide +kernel,by kernel_rfl⟩
end GO
set_option maxRecDepth 1000000
namespace GF
abbrev cFn:AV:=.c (.func (.func 74) #[] #[])
abbrev gtF (l p n i:AV):List AV:=fr 28 [(1,.fn (.func 74) [] []),(4,.i 0),(5,.i 0),(6,p),(9,l),(10,n),(11,i)]
abbrev gtC (l p n i:AV):List AV:=fr 28 [(1,cFn),(4,.i 0),(5,.i 0),(6,p),(9,l),(10,n),(11,i)]
noncomputable def body:Code:=(Tryz.f73).body.getD .skip
abbrev agC (c:Code) (r:Option (RT Out)):Prop:=AK { vars:=[(0,40)],lens:=W2 } c ([.q 6 0,(.fn (.func 74) [] [])]++List.replicate 26 .undef) [] [none] (gtF (.q 6 0) (.own 3 1 0 0 0) (.v 0) (.i 0)) [W5] r
noncomputable def Nl:Option (RT Out):=Nm { vars:=[(0,40)],lens:=W2 } body ([.q 6 0,(.fn (.func 74) [] [])]++List.replicate 26 .undef:List AV).length ([.q 6 0,(.fn (.func 74) [] [])]++List.replicate 26 .undef) [] 0
theorem ai6:agC body Nl:=⟨rfl,by decide +kernel,by decide +kernel⟩
abbrev agB (c:Code):Prop:=fL { vars:=[(0,40),(0,39)],facts:=[Vn],lens:=UR,kT:=[(0,[([1],1)],[.o 0,.o 1,.o 2,.o 3,.o 4,.o 5])] } c (gtF (.q 6 0) (.cE 3 1 0 [([1],1)]) (.v 0) (.v 1)) [(.sc 3 1 1 [] [] [([1],1)])] 0 [some 4] (gtF (.q 6 0) (.cE 3 1 0 [([],1),([1],1)]) (.v 0) Wd) [(.sc 3 1 1 [] [[.o 5]] [([],1),([1],1)])]
theorem ai5:agB (aF Nl):=⟨_,rfl,by decide +kernel,by decide +kernel⟩
abbrev agA (c:Code):Prop:=fL { vars:=[(0,40)],lens:=[(0,[([0],1)]),(1,[([0],1)])] } c (gtF (.q 6 0) V3 (.v 0) (.v 0)) UX 2 [some 0] (gtF (.q 6 0) V3 (.v 0) (.v 0)) UX
theorem ai4:agA (aF Nl):=⟨_,rfl,by decide +kernel,by decide +kernel⟩
abbrev RM (o:Option (RT Out)):Prop:=rT { vars:=[(0,40)],lens:=[(0,[([0],1)]),(1,[([0],1)])],bT:=[(72,[.q 1 1],(.aZ [.o 0,.o 1]))] } Tryz.f73 o 0 (gtF (.q 6 0) V3 (.v 0) (.v 0)) UX ((.aZ [.o 0,.o 1]))
theorem ahu:RM Nl:=⟨_,rfl,by decide +kernel,by decide +kernel,by kernel_rfl⟩
theorem fin {o:Option (RT Out)} (rr:RM o) {l:List wX} {ps:List Int} {sv se:Int} (hl:l.length≤40) (hlp:ps.length=l.length) {A:Nat→Prop} {w0:World} {a0:Act} {mm:Nat→St} {w:World} {a:Act} (cS:Ck 72 [.lit 1 (aA ps)] (.aZ [.i sv,.i se]))
  (pr:@eU dI dN A w0 a0 mm w a (gtC (.lit 6 (gY l)) (.own 3 1 0 0 l.length) (.i (l.length:Int)) (.i (l.length:Int))) (eZ [.cells 3 1 (aA ps)])):KS Tryz.prog (oK o) (Fin Tryz.prog Tryz.f73 A w0 a0 (.aZ [.i sv,.i se])) (AX.exit 0).to a w :=
 rr.go (ev1 _ [(l.length:Int)] [.I sv,.I se] [gY l,aA ps] .nil) (xK (kc cS kn)) pr
theorem walk (oA:Option (RT Out)) (rA:agC body oA) (rR:agB (aF oA)) (rX:agA (aF oA)) (rr:RM oA) {l:List wX} (hl:l.length≤40) (hI:eN (l.map (·.cN))) :
  Ck 73 [.lit 6 (gY l),cFn] (.aZ [.i (cU (l.map (·.cN))),.i (cY (l.map (·.cN)))]):=by
 refine CK.jJ Tryz.func73 (c:=body) (by kernel_rfl) (EE.out) (GQ.out) fun A w0 a0=>?_
 intro mm w a pr;rw[Tryz.ntmps73]at pr;refine rA.go (ev1 _ [(l.length:Int)] [] [gY l] .nil) (xK kn) pr (fd:=gtC (.lit 6 (gY l)) (.own 3 1 0 0 0) (.i (l.length:Int)) (.i 0)) (bd:=[.cells 3 1 []]) ?_
 intro mm w a pr;refine eA (fun n a w=>∃(j:Nat) (ps:List Int),n=l.length-j∧j≤l.length∧ps=(l.take j).map (·.cN)∧∃mm,@eU dI dN A w0 a0 mm w a (gtC (.lit 6 (gY l)) (.own 3 1 0 0 j) (.i (l.length:Int)) (.i (j:Int))) (eZ [.cells 3 1 (aA ps)])) ?_ (n:=l.length) ⟨0,[],rfl,Nat.zero_le _,rfl,_,pr⟩
 rintro n a w ⟨j,ps,rfl,hj,hps,mm,pr⟩
 have hlp:ps.length=j:=by rw[hps];simp;omega
 rcases(by omega:j=l.length∨j<l.length)with rfl|hlt
 ·rw[List.take_length]at hps
  rw[←hps]at hI ⊢;have cS:=rJ ps hI;clear hps hI;generalize cU ps=sv at *;generalize cY ps=se at *;refine rX.go (ev1 _ [(l.length:Int)] [] [gY l,aA ps] .nil) (xK kn) pr ?_
  intro mm w a pr;exact fin rr hl hlp cS pr
 ·obtain⟨g,hg0⟩:∃g,l[j]?=some g:=⟨_,List.getElem?_eq_getElem hlt⟩
  have hg:l[(j:Int).toNat]?=some ⟨g.src,g.dst,g.item,g.lS,g.value,g.cN⟩:=by simpa using hg0
  refine rR.go (ev1 _ [(l.length:Int),(j:Int)] [.I g.src,.I g.dst,.I g.item,.I g.lS,.I g.value,.I g.cN] [gY l,aA ps] (.d (aT hg) .nil)) (xK kn) pr (fd:=gtC (.lit 6 (gY l)) (.own 3 1 0 0 (1+(j:Int)).toNat) (.i (l.length:Int)) (.i (1+(j:Int)))) (bd:=[.cells 3 1 (aA ps++[[.i g.cN]])]) ?_
  intro mm w a pr;rw[show(1+(j:Int))=((j+1:Nat):Int)by omega,Int.toNat_natCast,jZ]at pr
  exact⟨_,by omega,j+1,_,rfl,by omega,by rw[List.take_add_one,hg0,hps];simp,mm,pr⟩
end GF
theorem aic {l:List wX} (hl:l.length≤40) (hI:eN (l.map (·.cN))):Ck 73 [.lit 6 (gY l),GF.cFn] (.aZ [.i (cU (l.map (·.cN))),.i (cY (l.map (·.cN)))]) :=
 GF.walk GF.Nl GF.ai6 GF.ai5 GF.ai4 GF.ahu hl hI
theorem Xu {S:bH} {a:Int} (G:Gn S) (hn:S.aH.length=2∨S.aH.length=3) (ha:0≤a∧a≤16) (e0:cY (Cf S a)=0):Ck 36 [S.av,.i a] (.aZ [.i (cU (Cf S a)),.i 0]):=by
 have dat:∀{x:eC} {e:Nat},S.aH[e]?=some x→x.dC.length=17∧x.dC[a.toNat]?=some (x.dC.getD a.toNat 0):=fun{x e} hx=>by
  have h1:=(G.bU e x hx).bl
  exact⟨h1,getD_some (by rw[h1];omega)⟩
 have iB:eN (Cf S a):=by
  intro v hv;obtain⟨x,hx,rfl⟩:=List.mem_map.1 hv;obtain⟨e,he⟩:=List.mem_iff_getElem?.1 hx
  have:=(G.bU e x he).bb _ (List.mem_of_getElem? (dat he).2)
  exact⟨by omega,by omega⟩
 have cS:=rJ _ iB;rw[e0]at cS;generalize cU (Cf S a)=d at *
 rcases SG G hn with⟨x0,x1,hE⟩|⟨x0,x1,x2,hE⟩
 ·have h0:S.aH[0]?=some x0:=by rw[hE];rfl
  have h1:S.aH[1]?=some x1:=by rw[hE];rfl
  have hl:S.aH.length=2:=by rw[hE];rfl
  obtain⟨l0,hd0⟩:=dat h0;obtain⟨l1,hd1⟩:=dat h1;have hD:Cf S a=[x0.dC.getD a.toNat 0,x1.dC.getD a.toNat 0]:=by unfold Cf;rw[hE];rfl
  rw[hD]at cS;generalize x0.dC.getD a.toNat 0=d0 at *;generalize x1.dC.getD a.toNat 0=d1 at *;exact cw _ (ev1 { vars:=[(0,16),(2,2)],lens:=[(0,[([1],1)]),(8,[([],17)]),(14,[([],17)])],kT:=[(0,[],Zj),(8,[([0],1)],[.o 5]),Qn,(14,[([0],1)],[.o 8])],bT:=ZR } [a,(S.aH.length:Int)] [.I S.aB,.I S.aD,.I S.done,.I x0.now,.bool x0.closed,.I d0,.I x1.now,.bool x1.closed,.I d1,.I d] (sT S [bL x0.bE,aA x0.dC,bM x0.bF,aA x0.aW,aA x0.down,bV x0.ahead,bL x1.bE,aA x1.dC,bM x1.bF,aA x1.aW,aA x1.down,bV x1.ahead]) (.d (Ad h0) (.d (aI hd0) (.d (Ad h1) (.d (aI hd1) .nil))))) U3 WJ (kc cS kn)
 ·have h0:S.aH[0]?=some x0:=by rw[hE];rfl
  have h1:S.aH[1]?=some x1:=by rw[hE];rfl
  have h2:S.aH[2]?=some x2:=by rw[hE];rfl
  have hl:S.aH.length=3:=by rw[hE];rfl
  obtain⟨l0,hd0⟩:=dat h0;obtain⟨l1,hd1⟩:=dat h1;obtain⟨l2,hd2⟩:=dat h2;have hD:Cf S a=[x0.dC.getD a.toNat 0,x1.dC.getD a.toNat 0,x2.dC.getD a.toNat 0]:=by unfold Cf;rw[hE];rfl
  rw[hD]at cS;generalize x0.dC.getD a.toNat 0=d0 at *;generalize x1.dC.getD a.toNat 0=d1 at *;generalize x2.dC.getD a.toNat 0=d2 at *;exact cw _ (ev1 { vars:=[(0,16),(3,3)],lens:=[(0,[([1],1)]),(8,[([],17)]),(14,[([],17)]),(20,[([],17)])],kT:=[(0,[],Zj),(8,[([0],1)],[.o 5]),Qn,(14,[([0],1)],[.o 8]),(0,[([],2)],[.o 9,.o 10,.q 4 19,.q 1 20,.q 11 21,.q 1 22,.q 1 23,.q 8 24]),(20,[([0],1)],[.o 11])],bT:=Zc } [a,(S.aH.length:Int)] [.I S.aB,.I S.aD,.I S.done,.I x0.now,.bool x0.closed,.I d0,.I x1.now,.bool x1.closed,.I d1,.I x2.now,.bool x2.closed,.I d2,.I d] (sT S [bL x0.bE,aA x0.dC,bM x0.bF,aA x0.aW,aA x0.down,bV x0.ahead,bL x1.bE,aA x1.dC,bM x1.bF,aA x1.aW,aA x1.down,bV x1.ahead,bL x2.bE,aA x2.dC,bM x2.bF,aA x2.aW,aA x2.down,bV x2.ahead]) (.d (Ad h0) (.d (aI hd0) (.d (Ad h1) (.d (aI hd1) (.d (Ad h2) (.d (aI hd2) .nil))))))) U3 (.aZ [.o 12,.i 0]) (kc cS kn)
theorem aaW {S:bH} (G:Gn S) (hn:S.aH.length=2∨S.aH.length=3) (hc:∀x∈S.aH,x.closed=true) :
  (Ck 33 [S.av] (.i 0)∧∀x∈S.aH,∀y∈S.aH,x.now=y.now)∨(Ck 33 [S.av] (.i 9)∧∃x∈S.aH,∃y∈S.aH,x.now≠y.now):=by
 have dat:∀{x:eC} {e:Nat},S.aH[e]?=some x→(1≤x.now∧x.now≤12)∧S.aH[e]?=some ⟨⟨x.now,true,x.bE,x.dC,x.bF,x.aW,x.down⟩,x.ahead⟩:=fun{x e} hx=>by
  have h1:=(G.bU e x hx).now
  have h2:=hc x (List.mem_of_getElem? hx)
  refine⟨h1,?_⟩
  rw[hx,←h2]
 rcases SG G hn with⟨x0,x1,hE⟩|⟨x0,x1,x2,hE⟩
 ·obtain⟨b0,h0⟩:=dat (x:=x0) (e:=0) (by rw[hE];rfl)
  obtain⟨b1,h1⟩:=dat (x:=x1) (e:=1) (by rw[hE];rfl)
  have hl:S.aH.length=2:=by rw[hE];rfl
  rcases(by omega:x1.now=x0.now∨x1.now<x0.now∨x0.now<x1.now)with h|h|h
  ·refine .inl ⟨?_,?_⟩
   ·exact cw _ (ev1 { vars:=Wn,facts:=[VE],lens:=W8,kT:=[(0,[],Qz),JI] } [x0.now,x1.now,(S.aH.length:Int)] [.I S.aB,.I S.aD,.I S.done] (sT S [bL x0.bE,aA x0.dC,bM x0.bF,aA x0.aW,aA x0.down,bV x0.ahead,bL x1.bE,aA x1.dC,bM x1.bF,aA x1.aW,aA x1.down,bV x1.ahead]) (.d (Ad h0) (.d (Ad h1) .nil))) V9 (.i 0) kn
   ·rw[hE];intro x hx y hy
    simp only[List.mem_cons,List.not_mem_nil,or_false]at hx hy;rcases hx with rfl|rfl<;>rcases hy with rfl|rfl<;>omega
  ·exact .inr ⟨cw _ (ev1 { vars:=Wn,facts:=[(WM,-20,-1)],lens:=W8,kT:=[(0,[],Qz),JI] } [x0.now,x1.now,(S.aH.length:Int)] [.I S.aB,.I S.aD,.I S.done] (sT S [bL x0.bE,aA x0.dC,bM x0.bF,aA x0.aW,aA x0.down,bV x0.ahead,bL x1.bE,aA x1.dC,bM x1.bF,aA x1.aW,aA x1.down,bV x1.ahead]) (.d (Ad h0) (.d (Ad h1) .nil))) V9 (.i 9) kn,x0,by rw[hE];simp,x1,by rw[hE];simp,by omega⟩
  ·exact .inr ⟨cw _ (ev1 { vars:=Wn,facts:=[(WM,1,20)],lens:=W8,kT:=[(0,[],Qz),JI] } [x0.now,x1.now,(S.aH.length:Int)] [.I S.aB,.I S.aD,.I S.done] (sT S [bL x0.bE,aA x0.dC,bM x0.bF,aA x0.aW,aA x0.down,bV x0.ahead,bL x1.bE,aA x1.dC,bM x1.bF,aA x1.aW,aA x1.down,bV x1.ahead]) (.d (Ad h0) (.d (Ad h1) .nil))) V9 (.i 9) kn,x0,by rw[hE];simp,x1,by rw[hE];simp,by omega⟩
 ·obtain⟨b0,h0⟩:=dat (x:=x0) (e:=0) (by rw[hE];rfl)
  obtain⟨b1,h1⟩:=dat (x:=x1) (e:=1) (by rw[hE];rfl)
  obtain⟨b2,h2⟩:=dat (x:=x2) (e:=2) (by rw[hE];rfl)
  have hl:S.aH.length=3:=by rw[hE];rfl
  rcases(by omega:x1.now<x0.now∨x0.now<x1.now∨x1.now=x0.now∧(x2.now=x0.now∨x2.now<x0.now∨x0.now<x2.now))with h|h|⟨h,g|g|g⟩
  ·exact .inr ⟨cw _ (ev1 { vars:=U0,facts:=[(WM,-20,-1)],lens:=W9,kT:=[(0,[],Qz),JI,JJ] } [x0.now,x1.now,x2.now,(S.aH.length:Int)] [.I S.aB,.I S.aD,.I S.done] (sT S [bL x0.bE,aA x0.dC,bM x0.bF,aA x0.aW,aA x0.down,bV x0.ahead,bL x1.bE,aA x1.dC,bM x1.bF,aA x1.aW,aA x1.down,bV x1.ahead,bL x2.bE,aA x2.dC,bM x2.bF,aA x2.aW,aA x2.down,bV x2.ahead]) (.d (Ad h0) (.d (Ad h1) (.d (Ad h2) .nil)))) V9 (.i 9) kn,x0,by rw[hE];simp,x1,by rw[hE];simp,by omega⟩
  ·exact .inr ⟨cw _ (ev1 { vars:=U0,facts:=[(WM,1,20)],lens:=W9,kT:=[(0,[],Qz),JI,JJ] } [x0.now,x1.now,x2.now,(S.aH.length:Int)] [.I S.aB,.I S.aD,.I S.done] (sT S [bL x0.bE,aA x0.dC,bM x0.bF,aA x0.aW,aA x0.down,bV x0.ahead,bL x1.bE,aA x1.dC,bM x1.bF,aA x1.aW,aA x1.down,bV x1.ahead,bL x2.bE,aA x2.dC,bM x2.bF,aA x2.aW,aA x2.down,bV x2.ahead]) (.d (Ad h0) (.d (Ad h1) (.d (Ad h2) .nil)))) V9 (.i 9) kn,x0,by rw[hE];simp,x1,by rw[hE];simp,by omega⟩
  ·refine .inl ⟨?_,?_⟩
   ·exact cw _ (ev1 { vars:=U0,facts:=[VE,([([0],-1),([2],1)],0,0)],lens:=W9,kT:=[(0,[],Qz),JI,JJ] } [x0.now,x1.now,x2.now,(S.aH.length:Int)] [.I S.aB,.I S.aD,.I S.done] (sT S [bL x0.bE,aA x0.dC,bM x0.bF,aA x0.aW,aA x0.down,bV x0.ahead,bL x1.bE,aA x1.dC,bM x1.bF,aA x1.aW,aA x1.down,bV x1.ahead,bL x2.bE,aA x2.dC,bM x2.bF,aA x2.aW,aA x2.down,bV x2.ahead]) (.d (Ad h0) (.d (Ad h1) (.d (Ad h2) .nil)))) V9 (.i 0) kn
   ·rw[hE];intro x hx y hy
    simp only[List.mem_cons,List.not_mem_nil,or_false]at hx hy;rcases hx with rfl|rfl|rfl<;>rcases hy with rfl|rfl|rfl<;>omega
  ·exact .inr ⟨cw _ (ev1 { vars:=U0,facts:=[VE,([([0],-1),([2],1)],-20,-1)],lens:=W9,kT:=[(0,[],Qz),JI,JJ] } [x0.now,x1.now,x2.now,(S.aH.length:Int)] [.I S.aB,.I S.aD,.I S.done] (sT S [bL x0.bE,aA x0.dC,bM x0.bF,aA x0.aW,aA x0.down,bV x0.ahead,bL x1.bE,aA x1.dC,bM x1.bF,aA x1.aW,aA x1.down,bV x1.ahead,bL x2.bE,aA x2.dC,bM x2.bF,aA x2.aW,aA x2.down,bV x2.ahead]) (.d (Ad h0) (.d (Ad h1) (.d (Ad h2) .nil)))) V9 (.i 9) kn,x0,by rw[hE];simp,x2,by rw[hE];simp,by omega⟩
  ·exact .inr ⟨cw _ (ev1 { vars:=U0,facts:=[VE,([([0],-1),([2],1)],1,20)],lens:=W9,kT:=[(0,[],Qz),JI,JJ] } [x0.now,x1.now,x2.now,(S.aH.length:Int)] [.I S.aB,.I S.aD,.I S.done] (sT S [bL x0.bE,aA x0.dC,bM x0.bF,aA x0.aW,aA x0.down,bV x0.ahead,bL x1.bE,aA x1.dC,bM x1.bF,aA x1.aW,aA x1.down,bV x1.ahead,bL x2.bE,aA x2.dC,bM x2.bF,aA x2.aW,aA x2.down,bV x2.ahead]) (.d (Ad h0) (.d (Ad h1) (.d (Ad h2) .nil)))) V9 (.i 9) kn,x0,by rw[hE];simp,x2,by rw[hE];simp,by omega⟩
set_option maxRecDepth 1000000
def ppR (S:bH) (e:Int) (i:Nat):List Int:=(List.range i).map fun(k:Nat)=>(dQ S e (k:Int)).1.p
def TJ (S:bH) (j:Nat):List Int:=(List.range j).flatMap fun(e:Nat)=>ppR S (e:Int) S.weights.length
theorem Nz (S:bH) (j:Nat):TJ S (j+1)=TJ S j++ppR S (j:Int) S.weights.length:=by simp[TJ,List.range_succ,List.flatMap_append]
theorem acd (S:bH) (e:Int) (i:Nat):ppR S e (i+1)=ppR S e i++[(dQ S e (i:Int)).1.p]:=by simp[ppR,List.range_succ]
theorem TH (S:bH) (e:Int) (i:Nat):(ppR S e i).length=i:=by simp[ppR]
theorem TI (S:bH) (j:Nat):(TJ S j).length=j*S.weights.length:=by
 induction j with
 |zero=>simp[TJ]
 |succ j ih=>rw[Nz,List.length_append,ih,TH,Nat.succ_mul]
theorem P9 {l:List Int} (h:eB l≤288230376151711744):cU l=l.sum∧cY l=0:=by
 have:=jN l 0 (by simp;exact h)
 rw[Int.zero_add]at this;unfold cU cY;rw[this];simp
namespace GL
abbrev aR:Mc.bY:=.cells 3 1 Uz
abbrev lF (l i:AV):List AV:=fr 105 [(1,.ptr 10 0 0 0),(2,.emp),(3,.i 0),(4,l),(16,.own 3 1 1 0 4),(17,.i 4),(18,i)]
abbrev lF2 (p l n i:AV):List AV:=fr 105 [(1,.ptr 10 0 0 0),(2,.emp),(3,.i 0),(4,.own 44 2 1 0 4),(9,p),(40,l),(41,n),(42,i)]
abbrev lF3 (p l n i w nw j:AV):List AV:=fr 105 [(1,.ptr 10 0 0 0),(2,.emp),(3,.i 0),(4,.own 44 2 1 0 4),(9,p),(10,i),(40,l),(41,n),(42,i),(47,w),(48,nw),(49,j)]
abbrev l4 (b0 b1 b2 b3:Int):List (List AV):=[[.i 14,.i (-b0)],[.i 13,.i (-b1)],[.i 15,.i (-b2)],[.i 16,.i (-b3)]]
abbrev lB (S:bH) (L:List (List AV)):List Mc.bY:=[GO.sR S,aR,.cells 44 2 L]
abbrev lB2 (S:bH) (b0 b1 b2 b3:Int) (p:List (List AV)):List Mc.bY:=[GO.sR S,.cells 44 2 (l4 b0 b1 b2 b3),.cells 3 1 p]
abbrev fE (S:bH) (k j:Nat):List AV:=lF2 (.own 3 1 2 0 k) (.lit 8 (bN S.aH)) (.i (S.aH.length:Int)) (.i (j:Int))
abbrev fI (S:bH) (k j i:Nat):List AV:=lF3 (.own 3 1 2 0 k) (.lit 8 (bN S.aH)) (.i (S.aH.length:Int)) (.i (j:Int)) (.lit 1 (aA S.weights)) (.i (S.weights.length:Int)) (.i (i:Int))
noncomputable def body:Code:=(Tryz.f35).body.getD .skip
abbrev agz (c:Code) (r:Option (RT Out)):Prop:=AK { vars:=KJ,lens:=YG } c (V9++List.replicate 104 .undef) [] [some 0,some 1,none] (lF WS (.i 0)) KQ r
noncomputable def zV:Option (RT Out):=Nm { vars:=KJ,lens:=YG } body (V9++List.replicate 104 .undef:List AV).length (V9++List.replicate 104 .undef) [] 0
theorem aiZ:agz body zV:=⟨by unfold zV;rfl,by decide +kernel,by decide +kernel⟩
abbrev acA (c:Code):Prop:=fL { vars:=KJ,lens:=YG,bT:=[(36,[Wu,.i 14],(.aZ [.v 3,.i 0]))] } c (lF WS (.i 0)) KQ 0 [some 0,some 1,some 4] (lF (.own 44 2 2 0 1) (.i 1)) KG
theorem ai3:acA (aF zV):=⟨_,rfl,by decide +kernel,by decide +kernel⟩
abbrev acz (c:Code):Prop:=fL { vars:=KJ,lens:=YG,bT:=[(36,[Wu,.i 13],(.aZ [.v 4,.i 0]))] } c (lF (.own 44 2 2 0 1) (.i 1)) KG 0 [some 0,some 1,some 4] (lF (.own 44 2 2 0 2) (.i 2)) KB
theorem ai2:acz (aF zV):=⟨_,rfl,by decide +kernel,by decide +kernel⟩
abbrev acy (c:Code):Prop:=fL { vars:=KJ,lens:=YG,bT:=[(36,[Wu,.i 15],(.aZ [.v 5,.i 0]))] } c (lF (.own 44 2 2 0 2) (.i 2)) KB 0 [some 0,some 1,some 4] (lF (.own 44 2 2 0 3) (.i 3)) Kw
theorem ai1:acy (aF zV):=⟨_,rfl,by decide +kernel,by decide +kernel⟩
abbrev acx (c:Code):Prop:=fL { vars:=KJ,lens:=YG,bT:=[(36,[Wu,.i 16],(.aZ [.v 6,.i 0]))] } c (lF (.own 44 2 2 0 3) (.i 3)) Kw 0 [some 0,some 1,some 4] (lF WU (.i 4)) Kr
theorem ai0:acx (aF zV):=⟨_,rfl,by decide +kernel,by decide +kernel⟩
abbrev acv (c:Code):Prop:=fL { vars:=KJ,lens:=YG } c (lF WU (.i 4)) Kr 2 [some 0,some 1,some 2] (lF WU (.i 4)) Kr
theorem aiX:acv (aF zV):=⟨_,rfl,by decide +kernel,by decide +kernel⟩
abbrev RL (o:Option (RT Out)) (r:Option (RT Out)):Prop:=yE { vars:=KJ,lens:=YG } o 0 (lF WU (.i 4)) Kr [some 0,some 2,none] (lF2 (.own 3 1 2 0 0) (.q 8 0) (.v 1) (.i 0)) [JN,Jk,W5] r
noncomputable def Ai:Option (RT Out):=rsA { vars:=KJ,lens:=YG } zV 0 (lF WU (.i 4):List AV).length (lF WU (.i 4)) Kr 3
theorem aht:RL zV Ai:=⟨by unfold Ai;rfl,by decide +kernel,by decide +kernel⟩
abbrev acw (c:Code) (r:Option (RT Out)):Prop:=AK { vars:=KE,facts:=Vk,lens:=Zl } c (lF2 V6 (.q 8 0) (.v 1) (.v 8)) Kv [some 0,some 1,some 2] (lF3 V6 (.q 8 0) (.v 1) (.v 8) (.q 1 1) (.v 0) (.i 0)) Kv r
noncomputable def HF:Option (RT Out):=Nm { vars:=KE,facts:=Vk,lens:=Zl } (aF Ai) (lF2 V6 (.q 8 0) (.v 1) (.v 8):List AV).length (lF2 V6 (.q 8 0) (.v 1) (.v 8)) Kv 3
theorem aiY:acw (aF Ai) HF:=⟨by unfold HF;rfl,by decide +kernel,by decide +kernel⟩
abbrev Lz (c:Code):Prop:=fL { vars:=[(1,5),(0,4),(0,40),(-1125899906842624,1125899906842624),(-1125899906842624,1125899906842624),(-1125899906842624,1125899906842624),(-1125899906842624,1125899906842624),(0,20),(0,3),(0,4)],facts:=[([([1],1),([8],-1)],1,4),([([0],1),([9],-1)],1,5)],lens:=Zl,bT:=[(69,[Wu,.v 8,.v 9],(.agg [.o 4,.o 5,.o 3]))] } c (lF3 V6 (.q 8 0) (.v 1) (.v 8) (.q 1 1) (.v 0) (.v 9)) Kv 0 [some 0,some 1,some 4] (lF3 (.cE 3 1 2 [([],1),([7],1)]) (.q 8 0) (.v 1) (.v 8) (.q 1 1) (.v 0) (.e [([],1),([9],1)])) [JN,Jk,(.sc 3 1 7 [] [[.o 3]] [([],1),([7],1)])]
theorem ahs:Lz (aF HF):=⟨_,rfl,by decide +kernel,by decide +kernel⟩
abbrev Lx (c:Code):Prop:=fL { vars:=KE,facts:=Vk,lens:=Zl } c (lF3 V6 (.q 8 0) (.v 1) (.v 8) (.q 1 1) (.v 0) (.v 0)) Kv 6 [some 0,some 1,some 2] (lF3 V6 (.q 8 0) (.v 1) (.v 8) (.q 1 1) (.v 0) (.v 0)) Kv
theorem ahq:Lx (aF HF):=⟨_,rfl,by decide +kernel,by decide +kernel⟩
abbrev Ly (o:Option (RT Out)):Prop:=PH { vars:=KE,facts:=Vk,lens:=Zl } o 4 (lF3 V6 (.q 8 0) (.v 1) (.v 8) (.q 1 1) (.v 0) (.v 0)) Kv 0 [some 0,some 1,some 2] (lF2 V6 (.q 8 0) (.v 1) (.e [([],1),([8],1)])) Kv
theorem ahr:Ly HF:=⟨_,rfl,by decide +kernel,by decide +kernel⟩
abbrev RK (c:Code):Prop:=fL { vars:=[(1,5),(0,4),(0,40),(-1125899906842624,1125899906842624),(-1125899906842624,1125899906842624),(-1125899906842624,1125899906842624),(-1125899906842624,1125899906842624),(0,20)],lens:=Zl } c (lF2 V6 (.q 8 0) (.v 1) (.v 1)) Kv 4 [some 0,some 1,some 2] (lF2 V6 (.q 8 0) (.v 1) (.v 1)) Kv
theorem ahp:RK (aF Ai):=⟨_,rfl,by decide +kernel,by decide +kernel⟩
abbrev acu (o:Option (RT Out)):Prop:=rT { vars:=[(1,5),(0,4),(0,40),(-1125899906842624,1125899906842624),(-1125899906842624,1125899906842624),(-1125899906842624,1125899906842624),(-1125899906842624,1125899906842624),(0,20),wZ,wZ,wZ],lens:=Zl,bT:=[(72,[.q 1 7],(.aZ [.v 8,.i 0])),(73,[.q 6 6,(.c (.func (.func 74) #[] #[]))],(.aZ [.v 9,.i 0])),(72,[(.lit 1 [[(.e [([3],-1)])],[(.e [([4],-1)])],[W4],[W7],[(.e [([8],-1)])],[(.e [([9],-1)])]])],(.aZ [.v 10,.i 0])),(77,[(.lit 2 [V4,V5,VP,[.i 16,W7],[.i 0,(.e [([8],-1)])],[.i 12,(.e [([9],-1)])],[.i 5,(.e [([10],-1)])]])],WB)] } Tryz.f35 o 2 (lF2 V6 (.q 8 0) (.v 1) (.v 1)) Kv (WB)
theorem aiW:acu Ai:=⟨_,rfl,by decide +kernel,by decide +kernel,by kernel_rfl⟩
end GL
set_option maxRecDepth 1000000
namespace GL
section
variable {S:bH} {A:Nat→Prop} {w0:World} {a0:Act} {b0 b1 b2 b3:Int}
abbrev Bd (b:Int):Prop:=-140737488355328≤b∧b≤140737488355328
theorem four {o o2:Option (RT Out)} (r0:acA (aF o)) (r1:acz (aF o)) (r2:acy (aF o)) (r3:acx (aF o)) (rX:acv (aF o)) (rA2:RL o o2) (G:Gn S) (hw1:1≤S.weights.length) (h0:Bd b0) (h1:Bd b1) (h2:Bd b2) (h3:Bd b3)
  (cB0:Ck 36 [S.av,.i 14] (.aZ [.i b0,.i 0])) (cB1:Ck 36 [S.av,.i 13] (.aZ [.i b1,.i 0])) (Hk:Ck 36 [S.av,.i 15] (.aZ [.i b2,.i 0])) (cB3:Ck 36 [S.av,.i 16] (.aZ [.i b3,.i 0])) {Φ:jA}
  (kk:∀mm w a,@eU dI dN A w0 a0 mm w a (fE S 0 0) (eZ (lB2 S b0 b1 b2 b3 []))→(Code.loop (aF o2)).wpIn (fw none) 9 Tryz.prog (KS Tryz.prog (oK o2) Φ) a w)
  (mm:Nat→St) (w:World) (a:Act) (pr:@eU dI dN A w0 a0 mm w a (lF WS (.i 0)) (eZ (lB S []))):(Code.loop (aF o)).wpIn (fw none) 9 Tryz.prog (KS Tryz.prog (oK o) Φ) a w:=by
 have hw:=G.hw;have hne:=G.hn;have htl:=G.GY;refine eA (fun n a w=>∃(j:Nat) (L:List (List AV)),n=4-j∧(j=0∧L=[]∨j=1∧L=(l4 b0 b1 b2 b3).take 1∨j=2∧L=(l4 b0 b1 b2 b3).take 2∨j=3∧L=(l4 b0 b1 b2 b3).take 3∨j=4∧L=l4 b0 b1 b2 b3)∧∃mm,@eU dI dN A w0 a0 mm w a (lF (.own 44 2 2 0 j) (.i (j:Int))) (eZ (lB S L))) ?_ (n:=4) ⟨0,_,rfl,.inl ⟨rfl,rfl⟩,_,pr⟩
 rintro n a w ⟨j,L,rfl,hj,mm,pr⟩
 rcases hj with⟨rfl,rfl⟩|⟨rfl,rfl⟩|⟨rfl,rfl⟩|⟨rfl,rfl⟩|⟨rfl,rfl⟩
 ·refine r0.go (ev1 _ [(S.weights.length:Int),(S.aH.length:Int),(S.aM.length:Int),b0,b1,b2,b3] [.I S.aB,.I S.aD,.I S.done] (sT S []) .nil) (xK (kc cB0 kn)) pr (fd:=lF (.own 44 2 2 0 1) (.i 1)) (bd:=lB S [[.i 14,.i (-b0)]]) ?_
  exact fun mm w a pr=>⟨_,by omega,1,_,rfl,.inr (.inl ⟨rfl,rfl⟩),mm,pr⟩
 ·refine r1.go (ev1 _ [(S.weights.length:Int),(S.aH.length:Int),(S.aM.length:Int),b0,b1,b2,b3] [.I S.aB,.I S.aD,.I S.done] (sT S []) .nil) (xK (kc cB1 kn)) pr (fd:=lF (.own 44 2 2 0 2) (.i 2)) (bd:=lB S [[.i 14,.i (-b0)],[.i 13,.i (-b1)]]) ?_
  exact fun mm w a pr=>⟨_,by omega,2,_,rfl,.inr (.inr (.inl ⟨rfl,rfl⟩)),mm,pr⟩
 ·refine r2.go (ev1 _ [(S.weights.length:Int),(S.aH.length:Int),(S.aM.length:Int),b0,b1,b2,b3] [.I S.aB,.I S.aD,.I S.done] (sT S []) .nil) (xK (kc Hk kn)) pr (fd:=lF (.own 44 2 2 0 3) (.i 3)) (bd:=lB S [[.i 14,.i (-b0)],[.i 13,.i (-b1)],[.i 15,.i (-b2)]]) ?_
  exact fun mm w a pr=>⟨_,by omega,3,_,rfl,.inr (.inr (.inr (.inl ⟨rfl,rfl⟩))),mm,pr⟩
 ·refine r3.go (ev1 _ [(S.weights.length:Int),(S.aH.length:Int),(S.aM.length:Int),b0,b1,b2,b3] [.I S.aB,.I S.aD,.I S.done] (sT S []) .nil) (xK (kc cB3 kn)) pr (fd:=lF WU (.i 4)) (bd:=lB S (l4 b0 b1 b2 b3)) ?_
  exact fun mm w a pr=>⟨_,by omega,4,_,rfl,.inr (.inr (.inr (.inr ⟨rfl,rfl⟩))),mm,pr⟩
 ·refine rX.go (ev1 _ [(S.weights.length:Int),(S.aH.length:Int),(S.aM.length:Int),b0,b1,b2,b3] [.I S.aB,.I S.aD,.I S.done] (sT S []) .nil) (xK kn) pr ?_
  intro mm w a pr;exact rA2.go (ev1 _ [(S.weights.length:Int),(S.aH.length:Int),(S.aM.length:Int),b0,b1,b2,b3] [.I S.aB,.I S.aD,.I S.done] (sT S []) .nil) (xK kn) pr (fd:=fE S 0 0) (bd:=lB2 S b0 b1 b2 b3 []) kk
theorem items {o:Option (RT Out)} (rR:Lz (aF o)) (rZ:Lx (aF o)) (rY:Ly o) (G:Gn S) (hw1:1≤S.weights.length) (h0:Bd b0) (h1:Bd b1) (h2:Bd b2) (h3:Bd b3) {Φ:jA} {j:Nat} (hj:j<S.aH.length) {p0:List Int} {k0:Nat} (hp0:p0.length=k0) (hk0:k0+S.weights.length≤20)
  (kk:∀mm w a,@eU dI dN A w0 a0 mm w a (fE S (k0+S.weights.length) (j+1)) (eZ (lB2 S b0 b1 b2 b3 (aA (p0++ppR S (j:Int) S.weights.length))))→Φ (AX.normal).to a w)
  (mm:Nat→St) (w:World) (a:Act) (pr:@eU dI dN A w0 a0 mm w a (fI S k0 j 0) (eZ (lB2 S b0 b1 b2 b3 (aA p0)))):(Code.loop (aF o)).wpIn (fw none) 9 Tryz.prog (KS Tryz.prog (oK o) Φ) a w:=by
 have hw:=G.hw;have hne:=G.hn;have htl:=G.GY;refine eA (fun n a w=>∃(i k:Nat) (ps:List Int),n=S.weights.length-i∧i≤S.weights.length∧ps=p0++ppR S (j:Int) i∧k=k0+i∧∃mm,@eU dI dN A w0 a0 mm w a (fI S k j i) (eZ (lB2 S b0 b1 b2 b3 (aA ps)))) ?_ (n:=S.weights.length) ⟨0,k0,p0,rfl,Nat.zero_le _,by simp[ppR],rfl,_,pr⟩
 rintro n a w ⟨i,k,ps,rfl,hi,hps,hk,mm,pr⟩
 have hlp:ps.length=k:=by rw[hps,List.length_append,TH];omega
 rcases(by omega:i=S.weights.length∨i<S.weights.length)with hie|hlt
 ·subst hie
  rw[←hps,←hk]at kk;clear hps;refine rZ.go (ev1 _ [(S.weights.length:Int),(S.aH.length:Int),(S.aM.length:Int),b0,b1,b2,b3,(k:Int),(j:Int)] [.I S.aB,.I S.aD,.I S.done] (sT S [aA ps]) .nil) (xK kn) pr ?_
  intro mm w a pr;refine rY.go (ev1 _ [(S.weights.length:Int),(S.aH.length:Int),(S.aM.length:Int),b0,b1,b2,b3,(k:Int),(j:Int)] [.I S.aB,.I S.aD,.I S.done] (sT S [aA ps]) .nil) (xK kn) pr (fd:=lF2 (.own 3 1 2 0 k) (.lit 8 (bN S.aH)) (.i (S.aH.length:Int)) (.i (1+(j:Int)))) (bd:=lB2 S b0 b1 b2 b3 (aA ps)) ?_
  intro mm w a pr;rw[show(1+(j:Int))=((j+1:Nat):Int)by omega]at pr
  exact kk mm w a pr
 ·clear kk
  have cW:=Pd G.toStOk (e:=(j:Int)) (item:=(i:Int)) ⟨by omega,by omega,by omega,by omega⟩
  have hs:=acd S (j:Int) i
  obtain⟨⟨q,v,p⟩,hx⟩:∃x,x=(dQ S (j:Int) (i:Int)).1:=⟨_,rfl⟩
  rw[←hx]at cW hs;refine rR.go (ev1 _ [(S.weights.length:Int),(S.aH.length:Int),(S.aM.length:Int),b0,b1,b2,b3,(k:Int),(j:Int),(i:Int)] [.I S.aB,.I S.aD,.I S.done,.I p,.I q,.I v] (sT S [aA ps]) .nil) (xK (kc cW kn)) pr (fd:=lF3 (.own 3 1 2 0 (1+(k:Int)).toNat) (.lit 8 (bN S.aH)) (.i (S.aH.length:Int)) (.i (j:Int)) (.lit 1 (aA S.weights)) (.i (S.weights.length:Int)) (.i (1+(i:Int)))) (bd:=lB2 S b0 b1 b2 b3 (aA ps++[[.i p]])) ?_
  intro mm w a pr;rw[show(1+(i:Int))=((i+1:Nat):Int)by omega,show(1+(k:Int))=((k+1:Nat):Int)by omega,Int.toNat_natCast,jZ]at pr
  exact⟨_,by omega,i+1,k+1,_,rfl,by omega,by rw[hs,hps,List.append_assoc],by omega,mm,pr⟩
theorem fin {o:Option (RT Out)} (rr:acu o) (G:Gn S) (hw1:1≤S.weights.length) (h0:Bd b0) (h1:Bd b1) (h2:Bd b2) (h3:Bd b3) {ps:List Int} {k:Nat} (hlp:ps.length=k) (hk:k≤20) {here PW rest:Int} (hh:Bd here) (hy:Bd PW) (hr:rest=-b0+(-b1+(-b2+(-b3+(-here+-PW))))) {ml:List cD}
  (cH:Ck 72 [.lit 1 (aA ps)] (.aZ [.i here,.i 0])) (cT:Ck 73 [.lit 6 (gY S.aM),GF.cFn] (.aZ [.i PW,.i 0])) (cR:Ck 72 [.lit 1 (aA [-b0,-b1,-b2,-b3,-here,-PW])] (.aZ [.i rest,.i 0]))
  (cP:Ck 77 [.lit 2 (bR [⟨14,-b0⟩,⟨13,-b1⟩,⟨15,-b2⟩,⟨16,-b3⟩,⟨0,-here⟩,⟨12,-PW⟩,⟨5,-rest⟩])] (.aZ [.lit 2 (bR ml),.i 0]))
  (mm:Nat→St) (w:World) (a:Act) (pr:@eU dI dN A w0 a0 mm w a (fE S k S.aH.length) (eZ (lB2 S b0 b1 b2 b3 (aA ps)))):KS Tryz.prog (oK o) (Fin Tryz.prog Tryz.f35 A w0 a0 (.aZ [.lit 2 (bR ml),.i 0])) (AX.exit 2).to a w:=by
 have hw:=G.hw;have hne:=G.hn;have htl:=G.GY;exact rr.go (ev1 _ [(S.weights.length:Int),(S.aH.length:Int),(S.aM.length:Int),b0,b1,b2,b3,(k:Int),here,PW,rest] [.I S.aB,.I S.aD,.I S.done] (sT S [aA ps,bR ml]) .nil) (xK (kc cH (kc cT (kc cR (kc cP kn))))) pr
theorem aH {o oI:Option (RT Out)} (rI:acw (aF o) oI) (rR:Lz (aF oI)) (rZ:Lx (aF oI)) (rY:Ly oI) (rX:RK (aF o)) (G:Gn S) (hw1:1≤S.weights.length) (h0:Bd b0) (h1:Bd b1) (h2:Bd b2) (h3:Bd b3) {Φ:jA}
  (kk:∀mm w a,@eU dI dN A w0 a0 mm w a (fE S (S.aH.length*S.weights.length) S.aH.length) (eZ (lB2 S b0 b1 b2 b3 (aA (TJ S S.aH.length))))→KS Tryz.prog (oK o) Φ (AX.exit 2).to a w)
  (mm:Nat→St) (w:World) (a:Act) (pr:@eU dI dN A w0 a0 mm w a (fE S 0 0) (eZ (lB2 S b0 b1 b2 b3 []))):(Code.loop (aF o)).wpIn (fw none) 9 Tryz.prog (KS Tryz.prog (oK o) Φ) a w:=by
 have hw:=G.hw;have hne:=G.hn;have htl:=G.GY;refine eA (fun n a w=>∃(j k:Nat) (ps:List Int),n=S.aH.length-j∧j≤S.aH.length∧ps=TJ S j∧k=j*S.weights.length∧∃mm,@eU dI dN A w0 a0 mm w a (fE S k j) (eZ (lB2 S b0 b1 b2 b3 (aA ps)))) ?_ (n:=S.aH.length) ⟨0,0,[],rfl,Nat.zero_le _,rfl,by simp,_,pr⟩
 rintro n a w ⟨j,k,ps,rfl,hj,hps,hk,mm,pr⟩
 have hlp:ps.length=k:=by rw[hps,TI,hk]
 have hk20:k≤4*S.weights.length:=by rw[hk];exact Nat.mul_le_mul_right _ (by omega)
 rcases(by omega:j=S.aH.length∨j<S.aH.length)with hje|hlt
 ·subst hje
  rw[←hps,←hk]at kk;clear hps hk;refine rX.go (ev1 _ [(S.weights.length:Int),(S.aH.length:Int),(S.aM.length:Int),b0,b1,b2,b3,(k:Int)] [.I S.aB,.I S.aD,.I S.done] (sT S [aA ps]) .nil) (xK kn) pr ?_
  exact kk
 ·clear kk
  have hk3:k≤3*S.weights.length:=by rw[hk];exact Nat.mul_le_mul_right _ (by omega)
  have hs:=Nz S j;refine rI.go (ev1 _ [(S.weights.length:Int),(S.aH.length:Int),(S.aM.length:Int),b0,b1,b2,b3,(k:Int),(j:Int)] [.I S.aB,.I S.aD,.I S.done] (sT S [aA ps]) .nil) (xK kn) pr (fd:=fI S k j 0) (bd:=lB2 S b0 b1 b2 b3 (aA ps)) ?_
  refine items rR rZ rY G hw1 h0 h1 h2 h3 hlt hlp (by omega) ?_
  intro mm w a pr;exact⟨_,by omega,j+1,k+S.weights.length,_,rfl,by omega,by rw[hs,hps],by rw[hk,Nat.succ_mul],mm,pr⟩
end
theorem walk (oA oA2 oI:Option (RT Out)) (rA:agz body oA) (r0:acA (aF oA)) (r1:acz (aF oA)) (r2:acy (aF oA)) (r3:acx (aF oA)) (rX:acv (aF oA)) (rA2:RL oA oA2) (rI:acw (aF oA2) oI) (rR:Lz (aF oI)) (rZ:Lx (aF oI)) (rY:Ly oI) (rX2:RK (aF oA2)) (rr:acu oA2)
  {S:bH} (G:Gn S) (hw1:1≤S.weights.length) {b0 b1 b2 b3 here PW rest:Int} (h0:Bd b0) (h1:Bd b1) (h2:Bd b2) (h3:Bd b3) (hh:Bd here) (hy:Bd PW) (hr:rest=-b0+(-b1+(-b2+(-b3+(-here+-PW))))) {ml:List cD}
  (cB0:Ck 36 [S.av,.i 14] (.aZ [.i b0,.i 0])) (cB1:Ck 36 [S.av,.i 13] (.aZ [.i b1,.i 0])) (Hk:Ck 36 [S.av,.i 15] (.aZ [.i b2,.i 0])) (cB3:Ck 36 [S.av,.i 16] (.aZ [.i b3,.i 0]))
  (cH:Ck 72 [.lit 1 (aA (TJ S S.aH.length))] (.aZ [.i here,.i 0])) (cT:Ck 73 [.lit 6 (gY S.aM),GF.cFn] (.aZ [.i PW,.i 0])) (cR:Ck 72 [.lit 1 (aA [-b0,-b1,-b2,-b3,-here,-PW])] (.aZ [.i rest,.i 0]))
  (cP:Ck 77 [.lit 2 (bR [⟨14,-b0⟩,⟨13,-b1⟩,⟨15,-b2⟩,⟨16,-b3⟩,⟨0,-here⟩,⟨12,-PW⟩,⟨5,-rest⟩])] (.aZ [.lit 2 (bR ml),.i 0])) :
  Ck 35 [S.av] (.aZ [.lit 2 (bR ml),.i 0]):=by
 have hw:=G.hw;have hne:=G.hn;have htl:=G.GY;have hlp:=TI S S.aH.length;have h20:S.aH.length*S.weights.length≤4*5:=Nat.mul_le_mul (by omega) (by omega)
 refine CK.jJ Tryz.func35 (c:=body) (by kernel_rfl) (EE.out) (GQ.out) fun A w0 a0=>?_
 intro mm w a pr;rw[Tryz.ntmps35]at pr;refine rA.go (ev1 _ [(S.weights.length:Int),(S.aH.length:Int),(S.aM.length:Int),b0,b1,b2,b3] [.I S.aB,.I S.aD,.I S.done] (sT S []) .nil) (xK kn) pr (fd:=lF WS (.i 0)) (bd:=lB S []) ?_
 refine four r0 r1 r2 r3 rX rA2 G hw1 h0 h1 h2 h3 cB0 cB1 Hk cB3 ?_
 exact aH rI rR rZ rY rX2 G hw1 h0 h1 h2 h3 (fin rr G hw1 h0 h1 h2 h3 hlp (by omega) hh hy hr cH cT cR cP)
end GL
def gL7 (S:bH):List cD :=
 let b:=fun a=>(Cf S a).sum
 let h:=(TJ S S.aH.length).sum
 let w:=(S.aM.map (·.cN)).sum
 [⟨14,-b 14⟩,⟨13,-b 13⟩,⟨15,-b 15⟩,⟨16,-b 16⟩,⟨0,-h⟩,⟨12,-w⟩,⟨5,-(-b 14+(-b 13+(-b 15+(-b 16+(-h+-w)))))⟩]
structure Fw (l:List Int):Prop where
 a:eB l≤140737488355328
theorem Fw.sum {l:List Int} (h:Fw l):cU l=l.sum∧cY l=0∧GL.Bd l.sum∧eN l:=by
 have:=h.a;obtain⟨h1,h2⟩:=P9 (l:=l) (by omega)
 have go:∀l:List Int,-eB l≤l.sum∧l.sum≤eB l∧∀v∈l,-eB l≤v∧v≤eB l:=by
  intro l;induction l with
  |nil=>simp[eB]
  |cons x t ih =>
   have h0:=wQ t;rw[fV,List.sum_cons];refine⟨by omega,by omega,?_⟩
   intro v hv;rcases List.mem_cons.1 hv with rfl|hv
   ·omega
   ·have:=ih.2.2 v hv;omega
 have g:=go l;exact⟨h1,h2,⟨by omega,by omega⟩,fun v hv=>by have:=g.2.2 v hv;exact⟨by omega,by omega⟩⟩
theorem aaX {S:bH} (G:Gn S) (hw1:1≤S.weights.length) (hn:S.aH.length=2∨S.aH.length=3) (fb:∀a,0≤a∧a≤16→Fw (Cf S a)) (fh:Fw (TJ S S.aH.length)) (fy:Fw (S.aM.map (·.cN))) :
  Small (gL7 S)∧Ck 35 [S.av] (.aZ [.lit 2 (bR (dS (gL7 S))),.i 0]):=by
 have dC:∀a,0≤a∧a≤16→Ck 36 [S.av,.i a] (.aZ [.i (Cf S a).sum,.i 0])∧GL.Bd (Cf S a).sum:=fun a ha=>by
  obtain⟨s1,s2,s3,-⟩:=(fb a ha).sum
  have:=Xu G hn ha s2
  rw[s1]at this;exact⟨this,s3⟩
 obtain⟨c0,d0⟩:=dC 14 (by omega)
 obtain⟨c1,d1⟩:=dC 13 (by omega)
 obtain⟨c2,d2⟩:=dC 15 (by omega)
 obtain⟨c3,d3⟩:=dC 16 (by omega)
 obtain⟨u1,u2,u3,u4⟩:=fh.sum;obtain⟨v1,v2,v3,v4⟩:=fy.sum;have cH:=rJ _ u4;have cT:=aic G.GY v4;rw[u1,u2]at cH;rw[v1,v2]at cT;unfold gL7;simp only
 generalize (Cf S 14).sum=b0 at *
 generalize (Cf S 13).sum=b1 at *
 generalize (Cf S 15).sum=b2 at *
 generalize (Cf S 16).sum=b3 at *
 generalize (TJ S S.aH.length).sum=h at *
 generalize (S.aM.map (·.cN)).sum=y at *
 have fz:Fw [-b0,-b1,-b2,-b3,-h,-y]∨True:=.inr trivial
 have az:eB [-b0,-b1,-b2,-b3,-h,-y]≤288230376151711744:=by simp only[fV];simp only[eB,List.map_nil,List.sum_nil];omega
 obtain⟨z1,z2⟩:=P9 az;have hI:eN [-b0,-b1,-b2,-b3,-h,-y]:=by
  intro v hv;simp only[List.mem_cons,List.not_mem_nil,or_false]at hv;rcases hv with rfl|rfl|rfl|rfl|rfl|rfl<;>exact⟨by omega,by omega⟩
 have cR:=rJ _ hI;rw[z1,z2]at cR;simp only[List.sum_cons,List.sum_nil,Int.add_zero]at cR;obtain⟨rest,hr⟩:∃r,r=-b0+(-b1+(-b2+(-b3+(-h+-y)))):=⟨_,rfl⟩
 rw[←hr]at cR ⊢;have sm:Small [⟨14,-b0⟩,⟨13,-b1⟩,⟨15,-b2⟩,⟨16,-b3⟩,⟨0,-h⟩,⟨12,-y⟩,⟨5,-rest⟩]:=by
  refine⟨?_,by simp⟩
  intro x hx;simp only[List.mem_cons,List.not_mem_nil,or_false]at hx;rcases hx with rfl|rfl|rfl|rfl|rfl|rfl|rfl<;>(refine⟨by simp,by simp,?_,?_⟩<;>simp only<;>omega)
 have cP:=ad5 [⟨14,-b0⟩,⟨13,-b1⟩,⟨15,-b2⟩,⟨16,-b3⟩,⟨0,-h⟩,⟨12,-y⟩,⟨5,-rest⟩] (by
  intro v hv;simp only[cZ,List.flatMap_cons,List.flatMap_nil,List.append_nil,List.mem_append,List.mem_cons,List.not_mem_nil,or_false]at hv;rcases hv with(h|h)|(h|h)|(h|h)|(h|h)|(h|h)|(h|h)|(h|h)<;>(subst h;exact⟨by omega,by omega⟩)) (by simp)
 rw[xL sm]at cP;exact⟨sm,GL.walk GL.zV GL.Ai GL.HF GL.aiZ GL.ai3 GL.ai2 GL.ai1 GL.ai0 GL.aiX GL.aht GL.aiY GL.ahs GL.ahq GL.ahr GL.ahp GL.aiW G hw1 d0 d1 d2 d3 u3 v3 hr c0 c1 c2 c3 cH cT cR cP⟩
end
section
open Mc
set_option maxRecDepth 1000000
namespace GO
section
variable {S:bH} {item:Int} {A:Nat→Prop} {w0:World} {a0:Act} {R:AV}
theorem tail {o:Option (RT Out)} (r0:NM (aF o)) (r1:NL (aF o)) (r2:NK (aF o)) (rX3:FE (aF o)) (rr:NJ o) {qs vs ps:List Int} {k:Nat} {q0 v0 p0 dn:Int} (hk:k≤44) (hlq:qs.length=k) (hlv:vs.length=k) (hlp:ps.length=k)
  (cS0:Ck 72 [.lit 1 (aA qs)] (.aZ [.i q0,.i 0])) (cS1:Ck 72 [.lit 1 (aA vs)] (.aZ [.i v0,.i 0])) (cS2:Ck 72 [.lit 1 (aA ps)] (.aZ [.i p0,.i 0]))
  (mm:Nat→St) (w:World) (a:Act) (pr:@eU dI dN A w0 a0 mm w a (Ib (.i dn) (.i 0)) (eZ (oB3 [.i 0,.i 0,.i 0,.i dn] k qs vs ps))) :
  (Code.loop (aF o)).wpIn (fw none) 9 Tryz.prog (KS Tryz.prog (oK o) (Fin Tryz.prog Tryz.f34 A w0 a0 (.aZ [.agg [.i q0,.i v0,.i p0,.i dn],.i 0]))) a w:=by
 refine eA (fun n a w=>∃(j:Nat) (g:List AV),n=3-j∧(j=0∧g=[.i 0,.i 0,.i 0,.i dn]∨j=1∧g=[.i q0,.i 0,.i 0,.i dn]∨j=2∧g=[.i q0,.i v0,.i 0,.i dn]∨j=3∧g=[.i q0,.i v0,.i p0,.i dn])∧∃mm,@eU dI dN A w0 a0 mm w a (Ib (.i dn) (.i (j:Int))) (eZ (oB3 g k qs vs ps))) ?_ (n:=3) ⟨0,_,rfl,.inl ⟨rfl,rfl⟩,_,pr⟩
 rintro n a w ⟨j,g,rfl,hjg,mm,pr⟩
 rcases hjg with⟨rfl,rfl⟩|⟨rfl,rfl⟩|⟨rfl,rfl⟩|⟨rfl,rfl⟩
 ·refine r0.go (ev1 _ [(k:Int)] [.I dn,.I q0,.I v0,.I p0] [aA qs,aA vs,aA ps] .nil) (xK (kc cS0 kn)) pr (fd:=Ib (.i dn) (.i 1)) (bd:=oB3 [.i q0,.i 0,.i 0,.i dn] k qs vs ps) ?_
  exact fun mm w a pr=>⟨_,by omega,1,_,rfl,.inr (.inl ⟨rfl,rfl⟩),mm,pr⟩
 ·refine r1.go (ev1 _ [(k:Int)] [.I dn,.I q0,.I v0,.I p0] [aA qs,aA vs,aA ps] .nil) (xK (kc cS1 kn)) pr (fd:=Ib (.i dn) (.i 2)) (bd:=oB3 [.i q0,.i v0,.i 0,.i dn] k qs vs ps) ?_
  exact fun mm w a pr=>⟨_,by omega,2,_,rfl,.inr (.inr (.inl ⟨rfl,rfl⟩)),mm,pr⟩
 ·refine r2.go (ev1 _ [(k:Int)] [.I dn,.I q0,.I v0,.I p0] [aA qs,aA vs,aA ps] .nil) (xK (kc cS2 kn)) pr (fd:=Ib (.i dn) (.i 3)) (bd:=oB3 [.i q0,.i v0,.i p0,.i dn] k qs vs ps) ?_
  exact fun mm w a pr=>⟨_,by omega,3,_,rfl,.inr (.inr (.inr ⟨rfl,rfl⟩)),mm,pr⟩
 ·refine rX3.go (ev1 _ [(k:Int)] [.I dn,.I q0,.I v0,.I p0] [aA qs,aA vs,aA ps] .nil) (xK kn) pr ?_
  intro mm w a pr;exact rr.go (ev1 _ [(k:Int)] [.I dn,.I q0,.I v0,.I p0] [aA qs,aA vs,aA ps] .nil) (xK kn) pr
theorem trans {o:Option (RT Out)} (rTy:RI (aF o)) (rTlo:Lt (aF o)) (rThi:Lu (aF o)) (rX2:RH (aF o)) (G:Gn S) (hi:0≤item∧item<S.weights.length) {Φ:jA}
  (kk:∀(k:Nat) mm w a,k≤44→(Sw S item).length=k→(Su S item).length=k→(Sx S item).length=k→@eU dI dN A w0 a0 mm w a (fT S k S.aM.length) (eZ (oB S item (aA (Sw S item)) (aA (Su S item)) (aA (Sx S item))))→KS Tryz.prog (oK o) Φ (AX.exit 2).to a w)
  (mm:Nat→St) (w:World) (a:Act) (pr:@eU dI dN A w0 a0 mm w a (fT S S.aH.length 0) (eZ (oB S item (aA ((wL S item S.aH.length).map (·.q))) (aA ((wL S item S.aH.length).map (·.v))) (aA ((wL S item S.aH.length).map (·.p)))))) :
  (Code.loop (aF o)).wpIn (fw none) 9 Tryz.prog (KS Tryz.prog (oK o) Φ) a w:=by
 have hw:=G.hw;have hne:=G.hn;have htl:=G.GY;refine eA (fun n a w=>∃(j k:Nat) (qs vs ps:List Int),n=S.aM.length-j∧j≤S.aM.length∧qs=(wL S item S.aH.length).map (·.q)++(tL S item j).map (·.lS)∧vs=(wL S item S.aH.length).map (·.v)++(tL S item j).map (·.value)∧ps=(wL S item S.aH.length).map (·.p)++(tL S item j).map (·.cN)∧qs.length=k∧vs.length=k∧ps.length=k∧k≤S.aH.length+j∧∃mm,@eU dI dN A w0 a0 mm w a (fT S k j) (eZ (oB S item (aA qs) (aA vs) (aA ps)))) ?_ (n:=S.aM.length) ⟨0,S.aH.length,_,_,_,rfl,Nat.zero_le _,rfl,rfl,rfl,by simp[wL,tL],by simp[wL,tL],by simp[wL,tL],by omega,_,by simpa[tL]using pr⟩
 rintro n a w ⟨j,k,qs,vs,ps,rfl,hj,hqs,hvs,hps,hlq,hlv,hlp,hk,mm,pr⟩
 rcases(by omega:j=S.aM.length∨j<S.aM.length)with hje|hlt
 ·subst hje
  have hqs:qs=Sw S item:=hqs
  have hvs:vs=Su S item:=hvs
  have hps:ps=Sx S item:=hps
  rw[←hqs,←hvs,←hps]at kk;refine rX2.go (ev1 _ [item,(S.weights.length:Int),(S.aH.length:Int),(S.aM.length:Int),(k:Int)] [.I S.aB,.I S.aD,.I S.done] (sT S [aA qs,aA vs,aA ps]) .nil) (xK kn) pr ?_
  intro mm w a pr;exact kk k mm w a (by omega) hlq hlv hlp pr
 ·clear kk
  obtain⟨g,hg0⟩:∃g,S.aM[j]?=some g:=⟨_,List.getElem?_eq_getElem hlt⟩
  have hg:S.aM[(j:Int).toNat]?=some ⟨g.src,g.dst,g.item,g.lS,g.value,g.cN⟩:=by simpa using hg0
  obtain⟨-,-,b3,-⟩:=G.trb g (List.mem_of_getElem? hg0)
  have hs:=aeR (item:=item) hg0
  rcases(by omega:g.item=item∨g.item<item∨item<g.item)with hgi|hgi|hgi
  ·rw[if_pos hgi]at hs
   refine rTy.go (ev1 _ [item,(S.weights.length:Int),(S.aH.length:Int),(S.aM.length:Int),(k:Int),(j:Int),g.item] [.I S.aB,.I S.aD,.I S.done,.I g.src,.I g.dst,.I g.lS,.I g.value,.I g.cN] (sT S [aA qs,aA vs,aA ps]) (.d (aT hg) .nil)) (xK kn) pr (fd:=LZ (.own 3 1 3 0 (1+(k:Int)).toNat) (.own 3 1 4 0 (1+(k:Int)).toNat) (.own 3 1 5 0 (1+(k:Int)).toNat) (.lit 6 (gY S.aM)) (.i (S.aM.length:Int)) (.i (1+(j:Int)))) (bd:=oB S item (aA qs++[[.i g.lS]]) (aA vs++[[.i g.value]]) (aA ps++[[.i g.cN]])) ?_
   intro mm w a pr;rw[show(1+(j:Int))=((j+1:Nat):Int)by omega,show(1+(k:Int))=((k+1:Nat):Int)by omega,Int.toNat_natCast,jZ,jZ,jZ]at pr
   refine⟨_,by omega,j+1,k+1,_,_,_,rfl,by omega,?_,?_,?_,by simp;omega,by simp;omega,by simp;omega,by omega,mm,pr⟩
   ·rw[hs,hqs];simp
   ·rw[hs,hvs];simp
   ·rw[hs,hps];simp
  all_goals rw[if_neg (by omega),List.append_nil]at hs
  ·refine rTlo.go (ev1 _ [item,(S.weights.length:Int),(S.aH.length:Int),(S.aM.length:Int),(k:Int),(j:Int),g.item] [.I S.aB,.I S.aD,.I S.done,.I g.src,.I g.dst,.I g.lS,.I g.value,.I g.cN] (sT S [aA qs,aA vs,aA ps]) (.d (aT hg) .nil)) (xK kn) pr (fd:=LZ (.own 3 1 3 0 k) (.own 3 1 4 0 k) (.own 3 1 5 0 k) (.lit 6 (gY S.aM)) (.i (S.aM.length:Int)) (.i (1+(j:Int)))) (bd:=oB S item (aA qs) (aA vs) (aA ps)) ?_
   intro mm w a pr;rw[show(1+(j:Int))=((j+1:Nat):Int)by omega]at pr
   exact⟨_,by omega,j+1,k,qs,vs,ps,rfl,by omega,by rw[hs];exact hqs,by rw[hs];exact hvs,by rw[hs];exact hps,hlq,hlv,hlp,by omega,mm,pr⟩
  ·refine rThi.go (ev1 _ [item,(S.weights.length:Int),(S.aH.length:Int),(S.aM.length:Int),(k:Int),(j:Int),g.item] [.I S.aB,.I S.aD,.I S.done,.I g.src,.I g.dst,.I g.lS,.I g.value,.I g.cN] (sT S [aA qs,aA vs,aA ps]) (.d (aT hg) .nil)) (xK kn) pr (fd:=LZ (.own 3 1 3 0 k) (.own 3 1 4 0 k) (.own 3 1 5 0 k) (.lit 6 (gY S.aM)) (.i (S.aM.length:Int)) (.i (1+(j:Int)))) (bd:=oB S item (aA qs) (aA vs) (aA ps)) ?_
   intro mm w a pr;rw[show(1+(j:Int))=((j+1:Nat):Int)by omega]at pr
   exact⟨_,by omega,j+1,k,qs,vs,ps,rfl,by omega,by rw[hs];exact hqs,by rw[hs];exact hvs,by rw[hs];exact hps,hlq,hlv,hlp,by omega,mm,pr⟩
theorem IU {oA2 o32 o33:Option (RT Out)} (rA32:Lw oA2 o32) (rA33:Lv oA2 o33) (G:Gn S) (hn:S.aH.length=2∨S.aH.length=3) (hi:0≤item∧item<S.weights.length) (eD:cY (GS S item)=0) (iD:eN (GS S item)) {qs vs ps:List Int} {k:Nat} (hk:k≤44) (hlq:qs.length=k) (hlv:vs.length=k) (hlp:ps.length=k) {Φ:jA}
  (k2:∀mm w a,@eU dI dN A w0 a0 mm w a (Ib (.i (cU (GS S item))) (.i 0)) (eZ (oB3 [.i 0,.i 0,.i 0,.i (cU (GS S item))] k qs vs ps))→(Code.loop (aF o32)).wpIn (fw none) 9 Tryz.prog (KS Tryz.prog (oK o32) Φ) a w)
  (k3:∀mm w a,@eU dI dN A w0 a0 mm w a (Ib (.i (cU (GS S item))) (.i 0)) (eZ (oB3 [.i 0,.i 0,.i 0,.i (cU (GS S item))] k qs vs ps))→(Code.loop (aF o33)).wpIn (fw none) 9 Tryz.prog (KS Tryz.prog (oK o33) Φ) a w)
  (mm:Nat→St) (w:World) (a:Act) (pr:@eU dI dN A w0 a0 mm w a (fT S k S.aM.length) (eZ (oB S item (aA qs) (aA vs) (aA ps)))):KS Tryz.prog (oK oA2) Φ (AX.exit 2).to a w:=by
 have hw:=G.hw;have htl:=G.GY;have cd:=rJ (GS S item) iD
 rw[eD]at cd;generalize cU (GS S item)=dn at *
 have dat:∀{x:eC} {e:Nat},S.aH[e]?=some x→x.down.length=S.weights.length∧x.down[item.toNat]?=some (x.down.getD item.toNat 0):=fun{x e} hx=>by
  have h1:=(G.bU e x hx).dl
  exact⟨h1,getD_some (by rw[h1];omega)⟩
 rcases SG G hn with⟨x0,x1,hE⟩|⟨x0,x1,x2,hE⟩
 ·have h0:S.aH[0]?=some x0:=by rw[hE];rfl
  have h1:S.aH[1]?=some x1:=by rw[hE];rfl
  have hl:S.aH.length=2:=by rw[hE];rfl
  obtain⟨l0,hd0⟩:=dat h0;obtain⟨l1,hd1⟩:=dat h1;have hD:GS S item=[x0.down.getD item.toNat 0,x1.down.getD item.toNat 0]:=by unfold GS;rw[hE];rfl
  rw[hD]at cd;generalize x0.down.getD item.toNat 0=d0 at *;generalize x1.down.getD item.toNat 0=d1 at *;exact rA32.go (ev1 _ [item,(S.weights.length:Int),(S.aH.length:Int),(S.aM.length:Int),(k:Int)] [.I S.aB,.I S.aD,.I S.done,.I x0.now,.bool x0.closed,.I d0,.I x1.now,.bool x1.closed,.I d1,.I dn] (sT S [aA qs,aA vs,aA ps,bL x0.bE,aA x0.dC,bM x0.bF,aA x0.aW,aA x0.down,bV x0.ahead,bL x1.bE,aA x1.dC,bM x1.bF,aA x1.aW,aA x1.down,bV x1.ahead]) (.d (Ad h0) (.d (aI hd0) (.d (Ad h1) (.d (aI hd1) .nil))))) (xK (kc cd kn)) pr (fd:=Ib (.i dn) (.i 0)) (bd:=oB3 [.i 0,.i 0,.i 0,.i dn] k qs vs ps) k2
 ·have h0:S.aH[0]?=some x0:=by rw[hE];rfl
  have h1:S.aH[1]?=some x1:=by rw[hE];rfl
  have h2:S.aH[2]?=some x2:=by rw[hE];rfl
  have hl:S.aH.length=3:=by rw[hE];rfl
  obtain⟨l0,hd0⟩:=dat h0;obtain⟨l1,hd1⟩:=dat h1;obtain⟨l2,hd2⟩:=dat h2;have hD:GS S item=[x0.down.getD item.toNat 0,x1.down.getD item.toNat 0,x2.down.getD item.toNat 0]:=by unfold GS;rw[hE];rfl
  rw[hD]at cd;generalize x0.down.getD item.toNat 0=d0 at *;generalize x1.down.getD item.toNat 0=d1 at *;generalize x2.down.getD item.toNat 0=d2 at *;exact rA33.go (ev1 _ [item,(S.weights.length:Int),(S.aH.length:Int),(S.aM.length:Int),(k:Int)] [.I S.aB,.I S.aD,.I S.done,.I x0.now,.bool x0.closed,.I d0,.I x1.now,.bool x1.closed,.I d1,.I x2.now,.bool x2.closed,.I d2,.I dn] (sT S [aA qs,aA vs,aA ps,bL x0.bE,aA x0.dC,bM x0.bF,aA x0.aW,aA x0.down,bV x0.ahead,bL x1.bE,aA x1.dC,bM x1.bF,aA x1.aW,aA x1.down,bV x1.ahead,bL x2.bE,aA x2.dC,bM x2.bF,aA x2.aW,aA x2.down,bV x2.ahead]) (.d (Ad h0) (.d (aI hd0) (.d (Ad h1) (.d (aI hd1) (.d (Ad h2) (.d (aI hd2) .nil))))))) (xK (kc cd kn)) pr (fd:=Ib (.i dn) (.i 0)) (bd:=oB3 [.i 0,.i 0,.i 0,.i dn] k qs vs ps) k3
theorem aH {o o2:Option (RT Out)} (rR:acs (aF o)) (rX:acr (aF o)) (rA2:RJ o o2) (G:Gn S) (hi:0≤item∧item<S.weights.length) {Φ:jA}
  (kk:∀mm w a,@eU dI dN A w0 a0 mm w a (fT S S.aH.length 0) (eZ (oB S item (aA ((wL S item S.aH.length).map (·.q))) (aA ((wL S item S.aH.length).map (·.v))) (aA ((wL S item S.aH.length).map (·.p)))))→(Code.loop (aF o2)).wpIn (fw none) 9 Tryz.prog (KS Tryz.prog (oK o2) Φ) a w)
  (mm:Nat→St) (w:World) (a:Act) (pr:@eU dI dN A w0 a0 mm w a (fA S 0 0) (eZ (oB S item [] [] []))):(Code.loop (aF o)).wpIn (fw none) 9 Tryz.prog (KS Tryz.prog (oK o) Φ) a w:=by
 have hw:=G.hw;have hne:=G.hn;have htl:=G.GY;refine eA (fun n a w=>∃(j:Nat) (qs vs ps:List Int),n=S.aH.length-j∧j≤S.aH.length∧qs=(wL S item j).map (·.q)∧vs=(wL S item j).map (·.v)∧ps=(wL S item j).map (·.p)∧∃mm,@eU dI dN A w0 a0 mm w a (fA S j j) (eZ (oB S item (aA qs) (aA vs) (aA ps)))) ?_ (n:=S.aH.length) ⟨0,[],[],[],rfl,Nat.zero_le _,rfl,rfl,rfl,_,pr⟩
 rintro n a w ⟨j,qs,vs,ps,rfl,hj,hqs,hvs,hps,mm,pr⟩
 have hlq:qs.length=j:=by rw[hqs];simp[wL]
 have hlv:vs.length=j:=by rw[hvs];simp[wL]
 have hlp:ps.length=j:=by rw[hps];simp[wL]
 rcases(by omega:j=S.aH.length∨j<S.aH.length)with hje|hlt
 ·subst hje
  rw[←hqs,←hvs,←hps]at kk;clear hqs hvs hps;refine rX.go (ev1 _ [item,(S.weights.length:Int),(S.aH.length:Int),(S.aM.length:Int)] [.I S.aB,.I S.aD,.I S.done] (sT S [aA qs,aA vs,aA ps]) .nil) (xK kn) pr ?_
  intro mm w a pr;exact rA2.go (ev1 _ [item,(S.weights.length:Int),(S.aH.length:Int),(S.aM.length:Int)] [.I S.aB,.I S.aD,.I S.done] (sT S [aA qs,aA vs,aA ps]) .nil) (xK kn) pr (fd:=fT S S.aH.length 0) (bd:=oB S item (aA qs) (aA vs) (aA ps)) kk
 ·clear kk
  have cW:=Pd G.toStOk (e:=(j:Int)) (item:=item) ⟨by omega,by omega,hi.1,hi.2⟩
  have hs:=aew S item j;obtain⟨⟨q0,v0,p0⟩,hx⟩:∃x,x=(dQ S (j:Int) item).1:=⟨_,rfl⟩
  rw[←hx]at cW hs;refine rR.go (ev1 _ [item,(S.weights.length:Int),(S.aH.length:Int),(S.aM.length:Int),(j:Int)] [.I S.aB,.I S.aD,.I S.done,.I q0,.I v0,.I p0] (sT S [aA qs,aA vs,aA ps]) .nil) (xK (kc cW kn)) pr (fd:=oF (.own 3 1 3 0 (1+(j:Int)).toNat) (.own 3 1 4 0 (1+(j:Int)).toNat) (.own 3 1 5 0 (1+(j:Int)).toNat) (.lit 8 (bN S.aH)) (.i (S.aH.length:Int)) (.i (1+(j:Int)))) (bd:=oB S item (aA qs++[[.i q0]]) (aA vs++[[.i v0]]) (aA ps++[[.i p0]])) ?_
  intro mm w a pr;rw[show(1+(j:Int))=((j+1:Nat):Int)by omega,Int.toNat_natCast,jZ,jZ,jZ]at pr
  refine⟨_,by omega,j+1,_,_,_,rfl,by omega,?_,?_,?_,mm,pr⟩
  ·rw[hs,hqs];simp
  ·rw[hs,hvs];simp
  ·rw[hs,hps];simp
end
theorem walk (oA oA2 o32 o33:Option (RT Out)) (rA:agy body oA) (rR:acs (aF oA)) (rX:acr (aF oA)) (rA2:RJ oA oA2) (rTy:RI (aF oA2)) (rTlo:Lt (aF oA2)) (rThi:Lu (aF oA2)) (rX2:RH (aF oA2)) (rA32:Lw oA2 o32) (rA33:Lv oA2 o33)
  (r0:NM (aF o33)) (r1:NL (aF o33)) (r2:NK (aF o33)) (rX3:FE (aF o33)) (rr:NJ o33) (s0:NM (aF o32)) (s1:NL (aF o32)) (s2:NK (aF o32)) (sX3:FE (aF o32)) (sr:NJ o32)
  {S:bH} {item:Int} (G:Gn S) (hn:S.aH.length=2∨S.aH.length=3) (hi:0≤item∧item<S.weights.length) (eQ:cY (Sw S item)=0) (eV:cY (Su S item)=0) (eP:cY (Sx S item)=0) (eD:cY (GS S item)=0)
  (iQ:eN (Sw S item)) (iV:eN (Su S item)) (iP:eN (Sx S item)) (iD:eN (GS S item)) :
  Ck 34 [S.av,.i item] (.aZ [.agg [.i (cU (Sw S item)),.i (cU (Su S item)),.i (cU (Sx S item)),.i (cU (GS S item))],.i 0]):=by
 have cS0:=rJ _ iQ;have cS1:=rJ _ iV;have cS2:=rJ _ iP;rw[eQ]at cS0;rw[eV]at cS1;rw[eP]at cS2
 have hw:=G.hw;have hne:=G.hn;have htl:=G.GY;refine CK.jJ Tryz.func34 (c:=body) (by kernel_rfl) (EE.out) (GQ.out) fun A w0 a0=>?_
 intro mm w a pr;rw[Tryz.ntmps34]at pr;refine rA.go (ev1 _ [item,(S.weights.length:Int),(S.aH.length:Int),(S.aM.length:Int)] [.I S.aB,.I S.aD,.I S.done] (sT S []) .nil) (xK kn) pr (fd:=fA S 0 0) (bd:=oB S item [] [] []) ?_
 refine aH rR rX rA2 G hi ?_
 refine trans rTy rTlo rThi rX2 G hi ?_
 intro k mm w a hk hlq hlv hlp pr;exact IU rA32 rA33 G hn hi eD iD hk hlq hlv hlp (tail s0 s1 s2 sX3 sr hk hlq hlv hlp cS0 cS1 cS2) (tail r0 r1 r2 rX3 rr hk hlq hlv hlp cS0 cS1 cS2) mm w a pr
end GO
theorem aib {S:bH} {item:Int} (G:Gn S) (hn:S.aH.length=2∨S.aH.length=3) (hi:0≤item∧item<S.weights.length) (eQ:cY (Sw S item)=0) (eV:cY (Su S item)=0) (eP:cY (Sx S item)=0) (eD:cY (GS S item)=0)
  (iQ:eN (Sw S item)) (iV:eN (Su S item)) (iP:eN (Sx S item)) (iD:eN (GS S item)) :
  Ck 34 [S.av,.i item] (.aZ [.agg [.i (cU (Sw S item)),.i (cU (Su S item)),.i (cU (Sx S item)),.i (cU (GS S item))],.i 0]) :=
 GO.walk GO.HE GO.uB GO.vS GO.vR GO.aiS GO.aiR GO.aiQ GO.ahl GO.ahk GO.aeI GO.aeJ GO.ahj GO.aeL GO.aeK GO.aiV GO.aiU GO.aiT GO.ahi GO.aiP GO.aho GO.ahn GO.ahm GO.aeH GO.ahh G hn hi eQ eV eP eD iQ iV iP iD
end
section
open Mc
set_option maxRecDepth 1000000
namespace GC
abbrev tG:Nat:=38
abbrev cF (n i:AV):List AV:=fr 110 [(1,.ptr 10 0 0 0),(2,.ptr 4 1 0 0),(3,.i 0),(4,.i 0),(5,.ptr 4 2 0 0),(34,.q 1 1),(35,n),(36,i)]
abbrev cC (S:bH) (i:AV):List AV:=fr 110 [(1,.ptr 10 0 0 0),(2,.ptr 4 1 0 0),(3,.i 0),(4,.i 0),(5,.ptr 4 2 0 0),(34,.lit 1 (aA S.weights)),(35,.i (S.weights.length:Int)),(36,i)]
abbrev Pf (l i:AV):List AV:=fr 110 [(1,.ptr 10 0 0 0),(2,.ptr 4 1 0 0),(3,.i 0),(4,.i 0),(5,.ptr 4 2 0 0),(9,l),(67,i)]
abbrev MR (l i n k j:AV):List AV:=fr 110 [(1,.ptr 10 0 0 0),(2,.ptr 4 1 0 0),(3,.i 0),(4,.i 0),(5,.ptr 4 2 0 0),(9,l),(11,i),(12,n),(13,.i 0),(67,i),(80,l),(81,k),(82,j)]
abbrev zG:Mc.bY:=.cells tG 4 [[.i 0,.emp,.emp,.emp]]
abbrev cB (S:bH) (now:Int) (k:Nat) (I:List (List AV)):List Mc.bY:=[GO.sR S,zG,.cells tG 4 [[.i now,.own 46 4 3 0 k,.emp,.emp]],.cells 46 4 I]
abbrev Hk (S:bH) (now:Int) (ml:List cD) (I:List vB) (k:Nat) (b:List (List AV)):List Mc.bY:=[GO.sR S,zG,.cells tG 4 [[.i now,.own 46 4 3 0 S.weights.length,.lit 2 (bR ml),.own 3 1 4 0 k]],.cells 46 4 (iZ I),.cells 3 1 b]
noncomputable def body:Code:=(Tryz.f12).body.getD .skip
abbrev agD (c:Code) (r:Option (RT Out)):Prop:=AK { vars:=[(1,5),(1,4)],lens:=[(1,[([0],1)]),(0,[([1],1)])],kT:=[(0,[],Zj)],bT:=Y6 } c (V9++List.replicate 109 .undef) [] [some 0,some 1,some 2,none] (cF (.v 0) (.i 0)) [JN,Y3,(.cells 38 4 [[.o 3,(.own 46 4 3 0 0),.emp,.emp]]),(.cells 46 4 [])] r
noncomputable def Fa:Option (RT Out):=Nm { vars:=[(1,5),(1,4)],lens:=[(1,[([0],1)]),(0,[([1],1)])],kT:=[(0,[],Zj)],bT:=Y6 } body (V9++List.replicate 109 .undef:List AV).length (V9++List.replicate 109 .undef) [] 0
theorem ajb:agD body Fa:=⟨by unfold Fa;rfl,by decide +kernel,by decide +kernel⟩
abbrev acD (c:Code):Prop:=fL { vars:=[(1,5),(1,4),(0,4)],facts:=[([([0],1),([2],-1)],1,5)],lens:=[(1,[([0],1)]),(0,[([1],1)]),(7,[([2],1)])],bT:=[(34,[Wu,.v 2],(.aZ [(.agg [.o 4,.o 5,.o 6,.o 7]),.i 0]))] } c (cF (.v 0) (.v 2)) [JN,Y3,(.cells 38 4 [[.o 3,(.cE 46 4 3 [([2],1)]),.emp,.emp]]),(.sc 46 4 7 [] [] [([2],1)])] 0 [some 0,some 1,some 2,some 6] (cF (.v 0) (.e WV)) [JN,Y3,(.cells 38 4 [[.o 3,(.cE 46 4 3 WV),.emp,.emp]]),(.sc 46 4 7 [] [[.o 4,.o 5,.o 6,.o 7]] WV)]
theorem ai9:acD (aF Fa):=⟨_,rfl,by decide +kernel,by decide +kernel⟩
abbrev acC (c:Code):Prop:=fL { vars:=[(1,5),(1,4)],lens:=[(1,[([0],1)]),(0,[([1],1)]),(7,[([0],1)])] } c (cF (.v 0) (.v 0)) KA 2 [some 0,some 1,some 2,some 3] (cF (.v 0) (.v 0)) KA
theorem ai8:acC (aF Fa):=⟨_,rfl,by decide +kernel,by decide +kernel⟩
abbrev LG (o:Option (RT Out)) (r:Option (RT Out)):Prop:=yE { vars:=WC,lens:=Zm,bT:=Z8 } o 0 (cF (.v 0) (.v 0)) KA [some 0,some 1,some 2,some 3,none] (Pf (.q 2 8) (.i 0)) [JN,Y3,(.cells 38 4 [[.o 3,VF,.q 2 8,(.own 3 1 4 0 0)]]),U1,W5] r
noncomputable def Aj:Option (RT Out):=rsA { vars:=WC,lens:=Zm,bT:=Z8 } Fa 0 (cF (.v 0) (.v 0):List AV).length (cF (.v 0) (.v 0)) KA 4
theorem ahz:LG Fa Aj:=⟨by unfold Aj;rfl,by decide +kernel,by decide +kernel⟩
abbrev acE (c:Code) (r:Option (RT Out)):Prop:=AK { vars:=UI,lens:=Qx,bT:=ZC } c (Pf (.q 2 8) (.v 3)) Kl [some 0,some 1,some 2,some 3,some 4] (MR (.q 2 8) (.v 3) (.v 4) (.v 2) (.i 0)) Kl r
noncomputable def Du:Option (RT Out):=Nm { vars:=UI,lens:=Qx,bT:=ZC } (aF Aj) (Pf (.q 2 8) (.v 3):List AV).length (Pf (.q 2 8) (.v 3)) Kl 5
theorem aja:acE (aF Aj) Du:=⟨by unfold Du;rfl,by decide +kernel,by decide +kernel⟩
abbrev LA (c:Code):Prop:=fL { vars:=[(1,5),(1,4),(0,12),(0,16),wZ,(0,11),(0,16),wZ],facts:=[Vt,([([3],-1),([6],1)],0,0),([([4],1),([7],1)],-288230376151711744,288230376151711744)],lens:=Qx,kT:=[(8,[([5],1)],[.v 6,.v 7])] } c (MR (.q 2 8) (.v 3) (.v 4) (.v 2) (.v 5)) Kl 0 [some 0,some 1,some 2,some 3,some 4] (MR (.q 2 8) (.v 3) (.e [([4],1),([7],1)]) (.v 2) Wk) Kl
theorem ahw:LA (aF Du):=⟨_,rfl,by decide +kernel,by decide +kernel⟩
abbrev Eh (c:Code):Prop:=fL { vars:=Yw,facts:=[Vt,([([3],-1),([6],1)],-99,-1)],lens:=Qx,kT:=[(8,[([5],1)],[.v 6,.o 4])] } c (MR (.q 2 8) (.v 3) (.v 4) (.v 2) (.v 5)) Kl 0 [some 0,some 1,some 2,some 3,some 4] (MR (.q 2 8) (.v 3) (.v 4) (.v 2) Wk) Kl
theorem aeM:Eh (aF Du):=⟨_,rfl,by decide +kernel,by decide +kernel⟩
abbrev Ei (c:Code):Prop:=fL { vars:=Yw,facts:=[Vt,([([3],-1),([6],1)],1,99)],lens:=Qx,kT:=[(8,[([5],1)],[.v 6,.o 4])] } c (MR (.q 2 8) (.v 3) (.v 4) (.v 2) (.v 5)) Kl 0 [some 0,some 1,some 2,some 3,some 4] (MR (.q 2 8) (.v 3) (.v 4) (.v 2) Wk) Kl
theorem aeN:Ei (aF Du):=⟨_,rfl,by decide +kernel,by decide +kernel⟩
abbrev LC (c:Code):Prop:=fL { vars:=UI,lens:=Qx } c (MR (.q 2 8) (.v 3) (.v 4) (.v 2) (.v 2)) Kl 6 [some 0,some 1,some 2,some 3,some 4] (MR (.q 2 8) (.v 3) (.v 4) (.v 2) (.v 2)) Kl
theorem ahx:LC (aF Du):=⟨_,rfl,by decide +kernel,by decide +kernel⟩
abbrev LF (o:Option (RT Out)):Prop:=PH { vars:=UI,lens:=Qx } o 4 (MR (.q 2 8) (.v 3) (.v 4) (.v 2) (.v 2)) Kl 0 [some 0,some 1,some 2,some 3,some 6] (Pf (.q 2 8) (.e WX)) [JN,Y3,(.cells 38 4 [[.o 3,VF,.q 2 8,(.cE 3 1 4 WX)]]),U1,(.sc 3 1 9 [] [[.v 4]] WX)]
theorem ahy:LF Du:=⟨_,rfl,by decide +kernel,by decide +kernel⟩
abbrev RN (c:Code):Prop:=fL { vars:=WC,lens:=Qy } c (Pf (.q 2 8) (.i 17)) Km 4 [some 0,some 1,some 2,some 3,some 4] (Pf (.q 2 8) (.i 17)) Km
theorem ahv:RN (aF Aj):=⟨_,rfl,by decide +kernel,by decide +kernel⟩
abbrev acB (o:Option (RT Out)):Prop:=rT { vars:=WC,lens:=Qy } Tryz.f12 o 2 (Pf (.q 2 8) (.i 17)) Km ((.aZ [(.agg [.o 3,.q 4 7,.q 2 8,.q 1 9]),.i 0]))
theorem ai7:acB Aj:=⟨_,rfl,by decide +kernel,by decide +kernel,by kernel_rfl⟩
end GC
set_option maxRecDepth 1000000
def D7 (S:bH) (i:Int):vB:=⟨(Sw S i).sum,(Su S i).sum,(Sx S i).sum,(GS S i).sum⟩
def D8 (S:bH) (j:Nat):List vB:=(List.range j).map fun(i:Nat)=>D7 S (i:Int)
theorem qG (l:List vB):(iZ l).length=l.length:=by simp[iZ]
theorem aaI (S:bH) (j:Nat):D8 S (j+1)=D8 S j++[D7 S (j:Int)]:=by simp[D8,List.range_succ]
def gbL (S:bH) (ml:List cD) (j:Nat):List Int:=(List.range j).map fun(a:Nat)=>(Cf S (a:Int)).sum+eO ml (a:Int)
theorem adC (S:bH) (ml:List cD) (j:Nat):gbL S ml (j+1)=gbL S ml j++[(Cf S (j:Int)).sum+eO ml (j:Int)]:=by simp[gbL,List.range_succ]
theorem XR (l:List cD) (x:cD) (a:Int):eO (l++[x]) a=eO l a+(if x.a=a then x.n else 0):=by
 induction l with
 |nil=>simp[fF];simp[eO]
 |cons y t ih=>rw[List.cons_append,fF,fF,ih];omega
theorem MW:∀(l:List cD),(∀x∈l,-18014398509481984≤x.n∧x.n≤18014398509481984)→∀a,-(18014398509481984*(l.length:Int))≤eO l a∧eO l a≤18014398509481984*(l.length:Int)
 |[],_,a=>by simp[eO]
 |x::l,h,a=>by
  have ih:=MW l (fun y hy=>h y (List.mem_cons_of_mem _ hy)) a
  have hx:=h x List.mem_cons_self;rw[fF,List.length_cons];split<;>omega
structure Tc (ml:List cD):Prop where
 len:ml.length≤12
 ok:∀x∈ml,0≤x.a∧x.a≤16∧-18014398509481984≤x.n∧x.n≤18014398509481984
namespace GC
section
variable {S:bH} {A:Nat→Prop} {w0:World} {a0:Act} {now:Int} {ml:List cD}
theorem next {o o2:Option (RT Out)} (rA2:LG o o2) (G:Gn S) (hn:S.aH.length=2∨S.aH.length=3) (hw1:1≤S.weights.length) (M:Tc ml) {its:List vB} (hli:its.length=S.weights.length)
  (cL:Ck 35 [S.av] (.aZ [.lit 2 (bR ml),.i 0])) {Φ:jA} (kk:∀mm w a,@eU dI dN A w0 a0 mm w a (Pf (.lit 2 (bR ml)) (.i 0)) (eZ (Hk S now ml its 0 []))→(Code.loop (aF o2)).wpIn (fw none) 9 Tryz.prog (KS Tryz.prog (oK o2) Φ) a w)
  (mm:Nat→St) (w:World) (a:Act) (pr:@eU dI dN A w0 a0 mm w a (cC S (.i (S.weights.length:Int))) (eZ (cB S now S.weights.length (iZ its)))):KS Tryz.prog (oK o) Φ (AX.exit 0).to a w:=by
 have hw:=G.hw;have hne:=G.hn;have AO:=M.len;have hgl:=qG its;exact rA2.go (ev1 _ [(S.weights.length:Int),(S.aH.length:Int),(ml.length:Int)] [.I S.aB,.I S.aD,.I S.done,.I now] (sT S [iZ its,bR ml]) .nil) (xK (kc cL kn)) pr (fd:=Pf (.lit 2 (bR ml)) (.i 0)) (bd:=Hk S now ml its 0 []) kk
theorem items {o o2:Option (RT Out)} (rI:acD (aF o)) (rX:acC (aF o)) (rA2:LG o o2) (G:Gn S) (hn:S.aH.length=2∨S.aH.length=3) (hw1:1≤S.weights.length) (M:Tc ml)
  (hit:∀i:Int,0≤i∧i<S.weights.length→Ck 34 [S.av,.i i] (.aZ [.agg [.i (D7 S i).q,.i (D7 S i).v,.i (D7 S i).p,.i (D7 S i).d],.i 0]))
  (cL:Ck 35 [S.av] (.aZ [.lit 2 (bR ml),.i 0])) {Φ:jA}
  (kk:∀mm w a,@eU dI dN A w0 a0 mm w a (Pf (.lit 2 (bR ml)) (.i 0)) (eZ (Hk S now ml (D8 S S.weights.length) 0 []))→(Code.loop (aF o2)).wpIn (fw none) 9 Tryz.prog (KS Tryz.prog (oK o2) Φ) a w)
  (mm:Nat→St) (w:World) (a:Act) (pr:@eU dI dN A w0 a0 mm w a (cC S (.i 0)) (eZ (cB S now 0 []))):(Code.loop (aF o)).wpIn (fw none) 9 Tryz.prog (KS Tryz.prog (oK o) Φ) a w:=by
 have hw:=G.hw;have hne:=G.hn;have AO:=M.len;refine eA (fun n a w=>∃(j:Nat) (its:List vB),n=S.weights.length-j∧j≤S.weights.length∧its=D8 S j∧∃mm,@eU dI dN A w0 a0 mm w a (cC S (.i (j:Int))) (eZ (cB S now j (iZ its)))) ?_ (n:=S.weights.length) ⟨0,[],rfl,Nat.zero_le _,rfl,_,pr⟩
 rintro n a w ⟨j,its,rfl,hj,hits,mm,pr⟩
 have hli:its.length=j:=by rw[hits];simp[D8]
 have hgl:=qG its;rcases(by omega:j=S.weights.length∨j<S.weights.length)with hje|hlt
 ·subst hje
  rw[←hits]at kk;clear hits hit;refine rX.go (ev1 _ [(S.weights.length:Int),(S.aH.length:Int)] [.I S.aB,.I S.aD,.I S.done,.I now] (sT S [iZ its]) .nil) (xK kn) pr ?_
  intro mm w a pr;exact next rA2 G hn hw1 M hli cL kk mm w a pr
 ·clear kk cL
  have cO:=hit (j:Int) ⟨by omega,by omega⟩
  have hs:=aaI S j;clear hit;obtain⟨⟨ga,gb,gc,gd⟩,hx⟩:∃x,x=D7 S (j:Int):=⟨_,rfl⟩
  rw[←hx]at cO hs;simp only at cO
  refine rI.go (ev1 _ [(S.weights.length:Int),(S.aH.length:Int),(j:Int)] [.I S.aB,.I S.aD,.I S.done,.I now,.I ga,.I gb,.I gc,.I gd] (sT S [iZ its]) .nil) (xK (kc cO kn)) pr (fd:=cC S (.i (1+(j:Int)))) (bd:=cB S now (1+(j:Int)).toNat (iZ its++[[.i ga,.i gb,.i gc,.i gd]])) ?_
  intro mm w a pr;rw[show(1+(j:Int))=((j+1:Nat):Int)by omega,Int.toNat_natCast,show iZ its++[[.i ga,.i gb,.i gc,.i gd]]=iZ (its++[⟨ga,gb,gc,gd⟩])by simp[iZ,vB.row]]at pr
  exact⟨_,by omega,j+1,_,rfl,by omega,by rw[hs,hits],mm,pr⟩
theorem lines {o:Option (RT Out)} (ry:LA (aF o)) (rlo:Eh (aF o)) (rhi:Ei (aF o)) (rZ:LC (aF o)) (rY:LF o) (G:Gn S) (hn:S.aH.length=2∨S.aH.length=3) (hw1:1≤S.weights.length) (M:Tc ml) {its:List vB} (hli:its.length=S.weights.length) {i:Nat} (hi:i<17) {bs:List Int} (hb:bs.length=i) {b:Int} (hbb:GL.Bd b) {Φ:jA}
  (kk:∀mm w a,@eU dI dN A w0 a0 mm w a (Pf (.lit 2 (bR ml)) (.i ((i+1:Nat):Int))) (eZ (Hk S now ml its (i+1) (aA (bs++[b+eO ml (i:Int)]))))→Φ (AX.normal).to a w)
  (mm:Nat→St) (w:World) (a:Act) (pr:@eU dI dN A w0 a0 mm w a (MR (.lit 2 (bR ml)) (.i (i:Int)) (.i b) (.i (ml.length:Int)) (.i 0)) (eZ (Hk S now ml its i (aA bs)))):(Code.loop (aF o)).wpIn (fw none) 9 Tryz.prog (KS Tryz.prog (oK o) Φ) a w:=by
 have hw:=G.hw;have hne:=G.hn;have AO:=M.len;have hgl:=qG its;refine eA (fun m a w=>∃(j:Nat) (n:Int),m=ml.length-j∧j≤ml.length∧n=b+eO (ml.take j) (i:Int)∧∃mm,@eU dI dN A w0 a0 mm w a (MR (.lit 2 (bR ml)) (.i (i:Int)) (.i n) (.i (ml.length:Int)) (.i (j:Int))) (eZ (Hk S now ml its i (aA bs)))) ?_ (n:=ml.length) ⟨0,b,rfl,Nat.zero_le _,by simp[eO],_,pr⟩
 rintro m a w ⟨j,n,rfl,hj,hnn,mm,pr⟩
 have vb:=MW (ml.take j) (fun x hx=>(M.ok x (List.mem_of_mem_take hx)).2.2) (i:Int)
 have tl:((ml.take j).length:Int)≤12:=by rw[List.length_take];omega
 rcases(by omega:j=ml.length∨j<ml.length)with hje|hlt
 ·subst hje
  rw[List.take_length]at hnn;rw[←hnn]at kk;rw[List.take_length]at vb;have hnb:-288230376151711744≤n∧n≤288230376151711744:=by omega
  clear hnn vb tl;refine rZ.go (ev1 _ [(S.weights.length:Int),(S.aH.length:Int),(ml.length:Int),(i:Int),n] [.I S.aB,.I S.aD,.I S.done,.I now] (sT S [iZ its,bR ml,aA bs]) .nil) (xK kn) pr ?_
  intro mm w a pr;refine rY.go (ev1 _ [(S.weights.length:Int),(S.aH.length:Int),(ml.length:Int),(i:Int),n] [.I S.aB,.I S.aD,.I S.done,.I now] (sT S [iZ its,bR ml,aA bs]) .nil) (xK kn) pr (fd:=Pf (.lit 2 (bR ml)) (.i (1+(i:Int)))) (bd:=Hk S now ml its (1+(i:Int)).toNat (aA bs++[[.i n]])) ?_
  intro mm w a pr;rw[show(1+(i:Int))=((i+1:Nat):Int)by omega,Int.toNat_natCast,jZ]at pr
  exact kk mm w a pr
 ·clear kk
  obtain⟨x,hx0⟩:∃x,ml[j]?=some x:=⟨_,List.getElem?_eq_getElem hlt⟩
  have hx:ml[(j:Int).toNat]?=some x:=by simpa using hx0
  obtain⟨a1,a2,a3,a4⟩:=M.ok x (List.mem_of_getElem? hx0)
  have hs:eO (ml.take (j+1)) (i:Int)=eO (ml.take j) (i:Int)+(if x.a=(i:Int)then x.n else 0):=by rw[List.take_add_one,hx0];exact XR _ _ _
  have hnb:-270215977642229760≤n∧n≤270215977642229760:=by omega
  have nx:∀n',n'=b+eO (ml.take (j+1)) (i:Int)→∀mm w a,@eU dI dN A w0 a0 mm w a (MR (.lit 2 (bR ml)) (.i (i:Int)) (.i n') (.i (ml.length:Int)) (.i (1+(j:Int)))) (eZ (Hk S now ml its i (aA bs)))→∃m',m'<ml.length-j∧∃(j:Nat) (n:Int),m'=ml.length-j∧j≤ml.length∧n=b+eO (ml.take j) (i:Int)∧∃mm,@eU dI dN A w0 a0 mm w a (MR (.lit 2 (bR ml)) (.i (i:Int)) (.i n) (.i (ml.length:Int)) (.i (j:Int))) (eZ (Hk S now ml its i (aA bs))):=by
   intro n' hn' mm w a pr;rw[show(1+(j:Int))=((j+1:Nat):Int)by omega]at pr
   exact⟨_,by omega,j+1,n',rfl,by omega,hn',mm,pr⟩
  clear vb tl;rcases(by omega:x.a=(i:Int)∨x.a<(i:Int)∨(i:Int)<x.a)with hxa|hxa|hxa
  ·rw[if_pos hxa]at hs
   have nx:=nx (n+x.n) (by rw[hs];omega)
   clear hs hnn;exact ry.go (ev1 _ [(S.weights.length:Int),(S.aH.length:Int),(ml.length:Int),(i:Int),n,(j:Int),x.a,x.n] [.I S.aB,.I S.aD,.I S.done,.I now] (sT S [iZ its,bR ml,aA bs]) (.d (aL hx) .nil)) (xK kn) pr (fd:=MR (.lit 2 (bR ml)) (.i (i:Int)) (.i (n+x.n)) (.i (ml.length:Int)) (.i (1+(j:Int)))) (bd:=Hk S now ml its i (aA bs)) nx
  all_goals
   rw[if_neg (by omega),Int.add_zero]at hs
   have nx:=nx n (by rw[hs];omega)
   clear hs hnn
  ·exact rlo.go (ev1 _ [(S.weights.length:Int),(S.aH.length:Int),(ml.length:Int),(i:Int),n,(j:Int),x.a] [.I S.aB,.I S.aD,.I S.done,.I now,.I x.n] (sT S [iZ its,bR ml,aA bs]) (.d (aL hx) .nil)) (xK kn) pr (fd:=MR (.lit 2 (bR ml)) (.i (i:Int)) (.i n) (.i (ml.length:Int)) (.i (1+(j:Int)))) (bd:=Hk S now ml its i (aA bs)) nx
  ·exact rhi.go (ev1 _ [(S.weights.length:Int),(S.aH.length:Int),(ml.length:Int),(i:Int),n,(j:Int),x.a] [.I S.aB,.I S.aD,.I S.done,.I now,.I x.n] (sT S [iZ its,bR ml,aA bs]) (.d (aL hx) .nil)) (xK kn) pr (fd:=MR (.lit 2 (bR ml)) (.i (i:Int)) (.i n) (.i (ml.length:Int)) (.i (1+(j:Int)))) (bd:=Hk S now ml its i (aA bs)) nx
theorem fin {o:Option (RT Out)} (rr:acB o) (G:Gn S) (hn:S.aH.length=2∨S.aH.length=3) (hw1:1≤S.weights.length) (M:Tc ml) {its:List vB} (hli:its.length=S.weights.length) {bs:List Int} (hb:bs.length=17)
  (mm:Nat→St) (w:World) (a:Act) (pr:@eU dI dN A w0 a0 mm w a (Pf (.lit 2 (bR ml)) (.i 17)) (eZ (Hk S now ml its 17 (aA bs)))):KS Tryz.prog (oK o) (Fin Tryz.prog Tryz.f12 A w0 a0 (.aZ [.agg [.i now,.lit 4 (iZ its),.lit 2 (bR ml),.lit 1 (aA bs)],.i 0])) (AX.exit 2).to a w:=by
 have hw:=G.hw;have hne:=G.hn;have AO:=M.len;have hgl:=qG its;exact rr.go (ev1 _ [(S.weights.length:Int),(S.aH.length:Int),(ml.length:Int)] [.I S.aB,.I S.aD,.I S.done,.I now] (sT S [iZ its,bR ml,aA bs]) .nil) (xK kn) pr
theorem aej {o oB:Option (RT Out)} (rB:acE (aF o) oB) (ry:LA (aF oB)) (rlo:Eh (aF oB)) (rhi:Ei (aF oB)) (rZ:LC (aF oB)) (rY:LF oB) (rX:RN (aF o)) (G:Gn S) (hn:S.aH.length=2∨S.aH.length=3) (hw1:1≤S.weights.length) (M:Tc ml) {its:List vB} (hli:its.length=S.weights.length)
  (hba:∀i:Int,0≤i∧i≤16→GL.Bd (Cf S i).sum∧Ck 36 [S.av,.i i] (.aZ [.i (Cf S i).sum,.i 0])) {Φ:jA}
  (kk:∀mm w a,@eU dI dN A w0 a0 mm w a (Pf (.lit 2 (bR ml)) (.i 17)) (eZ (Hk S now ml its 17 (aA (gbL S ml 17))))→KS Tryz.prog (oK o) Φ (AX.exit 2).to a w)
  (mm:Nat→St) (w:World) (a:Act) (pr:@eU dI dN A w0 a0 mm w a (Pf (.lit 2 (bR ml)) (.i 0)) (eZ (Hk S now ml its 0 []))):(Code.loop (aF o)).wpIn (fw none) 9 Tryz.prog (KS Tryz.prog (oK o) Φ) a w:=by
 have hw:=G.hw;have hne:=G.hn;have AO:=M.len;have hgl:=qG its;refine eA (fun n a w=>∃(i:Nat) (bs:List Int),n=17-i∧i≤17∧bs=gbL S ml i∧∃mm,@eU dI dN A w0 a0 mm w a (Pf (.lit 2 (bR ml)) (.i (i:Int))) (eZ (Hk S now ml its i (aA bs)))) ?_ (n:=17) ⟨0,[],rfl,Nat.zero_le _,rfl,_,pr⟩
 rintro m a w ⟨i,bs,rfl,hi,hbs,mm,pr⟩
 have hb:bs.length=i:=by rw[hbs];simp[gbL]
 rcases(by omega:i=17∨i<17)with hie|hlt
 ·subst hie
  rw[←hbs]at kk;clear hbs hba;refine rX.go (ev1 _ [(S.weights.length:Int),(S.aH.length:Int),(ml.length:Int)] [.I S.aB,.I S.aD,.I S.done,.I now] (sT S [iZ its,bR ml,aA bs]) .nil) (xK kn) pr ?_
  exact kk
 ·clear kk
  obtain⟨hbb,cB⟩:=hba (i:Int) ⟨by omega,by omega⟩
  have hs:=adC S ml i;clear hba;obtain⟨n,hn0⟩:∃n,n=(Cf S (i:Int)).sum:=⟨_,rfl⟩
  rw[←hn0]at hbb cB hs;refine rB.go (ev1 _ [(S.weights.length:Int),(S.aH.length:Int),(ml.length:Int),(i:Int),n] [.I S.aB,.I S.aD,.I S.done,.I now] (sT S [iZ its,bR ml,aA bs]) .nil) (xK (kc cB kn)) pr (fd:=MR (.lit 2 (bR ml)) (.i (i:Int)) (.i n) (.i (ml.length:Int)) (.i 0)) (bd:=Hk S now ml its i (aA bs)) ?_
  refine lines ry rlo rhi rZ rY G hn hw1 M hli hlt hb hbb ?_
  intro mm w a pr;exact⟨_,by omega,i+1,_,rfl,by omega,by rw[hs,hbs],mm,pr⟩
end
theorem walk (oA oA2 oB:Option (RT Out)) (rA:agD body oA) (rI:acD (aF oA)) (rX:acC (aF oA)) (rA2:LG oA oA2) (rB:acE (aF oA2) oB) (ry:LA (aF oB)) (rlo:Eh (aF oB)) (rhi:Ei (aF oB)) (rZ:LC (aF oB)) (rY:LF oB) (rX2:RN (aF oA2)) (rr:acB oA2)
  {S:bH} (G:Gn S) (hn:S.aH.length=2∨S.aH.length=3) (hw1:1≤S.weights.length) {ml:List cD} (M:Tc ml) {x:eC} {now:Int} (hx0:S.aH[0]?=some x) (hnow:x.now=now)
  (hr:Ck 33 [S.av] (.i 0)) (hit:∀i:Int,0≤i∧i<S.weights.length→Ck 34 [S.av,.i i] (.aZ [.agg [.i (D7 S i).q,.i (D7 S i).v,.i (D7 S i).p,.i (D7 S i).d],.i 0]))
  (cL:Ck 35 [S.av] (.aZ [.lit 2 (bR ml),.i 0])) (hba:∀i:Int,0≤i∧i≤16→GL.Bd (Cf S i).sum∧Ck 36 [S.av,.i i] (.aZ [.i (Cf S i).sum,.i 0])) :
  Ck 12 [S.av] (.aZ [.agg [.i now,.lit 4 (iZ (D8 S S.weights.length)),.lit 2 (bR ml),.lit 1 (aA (gbL S ml 17))],.i 0]):=by
 have hw:=G.hw;have hne:=G.hn;have hx:S.aH[0]?=some ⟨⟨now,x.closed,x.bE,x.dC,x.bF,x.aW,x.down⟩,x.ahead⟩:=by rw[hx0,←hnow]
 have hgl:(D8 S S.weights.length).length=S.weights.length:=by simp[D8]
 have hbl:(gbL S ml 17).length=17:=by simp[gbL]
 refine CK.jJ Tryz.func12 (c:=body) (by kernel_rfl) (EE.out) (GQ.out) fun A w0 a0=>?_
 intro mm w a pr;rw[Tryz.ntmps12]at pr;refine rA.go (ev1 _ [(S.weights.length:Int),(S.aH.length:Int)] [.I S.aB,.I S.aD,.I S.done,.I now,.bool x.closed] (sT S [bL x.bE,aA x.dC,bM x.bF,aA x.aW,aA x.down,bV x.ahead]) (.d (Ad hx) .nil)) (xK (kc hr kn)) pr (fd:=cC S (.i 0)) (bd:=cB S now 0 []) ?_
 refine items rI rX rA2 G hn hw1 M hit cL ?_
 exact aej rB ry rlo rhi rZ rY rX2 G hn hw1 M hgl hba (fin rr G hn hw1 M hgl hbl)
end GC
structure Sml (S:bH):Prop where
 q:∀i:Int,0≤i∧i<S.weights.length→Fw (Sw S i)∧Fw (Su S i)∧Fw (Sx S i)∧Fw (GS S i)
 b:∀a:Int,0≤a∧a≤16→Fw (Cf S a)
 h:Fw (TJ S S.aH.length)
 y:Fw (S.aM.map (·.cN))
theorem ajA {l:List cD} (h:Small l):Tc (dS l):=by
 have hl:(dS l).length≤l.length:=by
  have e:(dS l).length=((List.range 17).filter fun(a:Nat)=>decide (eO l a≠0)).length:=by
   unfold dS;rw[List.filter_map,List.length_map];congr 1
   apply List.filter_congr
   intro a _;simp[jL,Function.comp]
  rw[e];exact Gh l
 have h12:=h.len;refine⟨by omega,fun x hx=>?_⟩
 obtain⟨p0,p1,p2,p3⟩:=qQ h x hx;have vb:=AS l h.ok x.a;exact⟨p0,by omega,by omega,by omega⟩
theorem aaY {S:bH} (G:Gn S) (hn:S.aH.length=2∨S.aH.length=3) (hw1:1≤S.weights.length) (hc:∀x∈S.aH,x.closed=true) (M:Sml S) (hr:Ck 33 [S.av] (.i 0)) {x:eC} {now:Int} (hx:S.aH[0]?=some x) (hnow:x.now=now) :
  Ck 12 [S.av] (.aZ [.agg [.i now,.lit 4 (iZ (D8 S S.weights.length)),.lit 2 (bR (dS (gL7 S))),.lit 1 (aA (gbL S (dS (gL7 S)) 17))],.i 0]):=by
 obtain⟨sm,cL⟩:=aaX G hw1 hn M.b M.h M.y;refine GC.walk GC.Fa GC.Aj GC.Du GC.ajb GC.ai9 GC.ai8 GC.ahz GC.aja GC.ahw GC.aeM GC.aeN GC.ahx GC.ahy GC.ahv GC.ai7 G hn hw1 (ajA sm) hx hnow hr ?_ cL ?_
 ·intro i hi
  obtain⟨f1,f2,f3,f4⟩:=M.q i hi;obtain⟨a1,a2,-,a4⟩:=f1.sum;obtain⟨b1,b2,-,b4⟩:=f2.sum;obtain⟨c1,c2,-,c4⟩:=f3.sum;obtain⟨d1,d2,-,d4⟩:=f4.sum;have:=aib G hn hi a2 b2 c2 d2 a4 b4 c4 d4
  rw[a1,b1,c1,d1]at this;exact this
 ·intro i hi
  obtain⟨s1,s2,s3,-⟩:=(M.b i hi).sum
  have:=Xu G hn hi s2
  rw[s1]at this;exact⟨s3,this⟩
end
section
open Mc
set_option maxRecDepth 1000000
def OS (w:Nat):eC:=⟨⟨1,false,List.replicate (2*w) ⟨[],0,0,0⟩,List.replicate 17 0,List.replicate w (List.replicate 11 0),List.replicate w (-1),List.replicate w 0⟩,[]⟩
theorem afJ (w:Nat) (ms:List Int):GP w ms (OS w).toEntC:=by
 refine⟨by simp[OS],?_,by simp[OS],?_,by simp[OS],?_,by simp[OS],?_,by simp[OS],?_,by simp[OS]⟩
 ·intro k p hp
  have:=(List.mem_replicate.1 (List.mem_of_getElem? hp)).2
  subst this;exact⟨⟨by simp,fun x h=>absurd h List.not_mem_nil,by decide,by decide,by decide⟩,.inr (by simp),by decide,by decide,by decide,by decide,.inr ⟨rfl,rfl,rfl⟩⟩
 ·intro v hv
  rw[(List.mem_replicate.1 hv).2];exact z58
 ·intro r hr
  rw[(List.mem_replicate.1 hr).2];refine⟨by simp,fun v hv=>?_⟩
  rw[(List.mem_replicate.1 hv).2];exact z58
 ·intro v hv
  rw[(List.mem_replicate.1 hv).2];exact⟨by simp,by simp[M58]⟩
 ·intro v hv
  rw[(List.mem_replicate.1 hv).2];exact⟨by simp,by simp[M58]⟩
set_option maxRecDepth 1000000
namespace NS
namespace O
end O
namespace S
end S
open O S
section
variable {n':Nat} {per:Int} {ws:List Int} {ms cs:List (List Int)}
end
end NS
end
section
open Mc
set_option maxRecDepth 1000000
def iG (os:List (List Int)):List (List AV):=os.map fun o=>o.map AV.i++[.emp]
instance (os:List (List Int)):lE (iG os):=⟨fun r hr x hx=>by
 obtain⟨o,-,rfl⟩:=List.mem_map.1 hr;rcases List.mem_append.1 hx with h|h
 ·obtain⟨v,-,rfl⟩:=List.mem_map.1 h;exact .c _
 ·rw[List.mem_singleton]at h;subst h;exact .emp⟩
theorem aOp {xs:List Int} {i:Nat} {z:List (List Int)} {o0 o1 o2 o3 o4 o5 o6 o7:Int} (h:z[(xs.getD i 0).toNat]?=some [o0,o1,o2,o3,o4,o5,o6,o7]):(iG z)[(bJ (fun k=>xs.getD k 0) [([i],1)]).toNat]?=some [.i o0,.i o1,.i o2,.i o3,.i o4,.i o5,.i o6,.i o7,.emp]:=tT (mA _ _) (by rw[iG,List.getElem?_map,h];rfl)
theorem aG {ρ:Nat→Int} {z:List vB} {q v p d:Int} (h:z[0]?=some ⟨q,v,p,d⟩):(iZ z)[(bJ ρ []).toNat]?=some [.i q,.i v,.i p,.i d]:=tT (x:=0) rfl (by rw[iZ,List.getElem?_map];show(z[0]?).map _=_;rw[h];rfl)
theorem aJ {ρ:Nat→Int} {p:Poly} {z:List Int} {v:Int} (h:z[(PS ρ p).toNat]?=some v):(aA z)[(bJ ρ p).toNat]?=some [.i v]:=tT (uG ρ p).symm (Xg h)
namespace LN
abbrev nF (q p l t e:AV):List AV:=fr 202 [(0,q),(1,p),(2,l),(3,t),(8,.c (.bool false)),(9,.ptr 5 0 0 0),(10,e)]
abbrev Au (q p l t n pd o pr a i:AV):List AV:=fr 202 [(0,q),(1,p),(2,l),(3,t),(8,.c (.bool false)),(9,.ptr 5 0 0 0),(11,n),(12,pd),(13,o),(14,pr),(15,a),(16,i)]
abbrev nF3 (n pd o pr a i:AV):List AV:=fr 202 [(8,.c (.bool false)),(11,n),(12,pd),(13,o),(14,pr),(15,a),(19,.ptr 10 1 0 0),(20,i)]
abbrev mr (k:Nat):List AV:=[.own 3 1 k 0 1]
abbrev mH (j:Nat) (m c:List (List AV)):List Mc.bY:=[.cells 25 5 [[.i 3,.i 1,.own 3 1 1 0 1,.own 22 1 2 0 j,.own 22 1 3 0 j]],.cells 3 1 [[.i 1]],.cells 22 1 m,.cells 22 1 c]
abbrev mV:List Mc.bY:=[.cells 3 1 [[.i 2]],.cells 3 1 [[.i 0]]]
abbrev mb0:List Mc.bY:=mH 0 [] []
abbrev mb1:List Mc.bY:=mH 1 [mr 4] [mr 5]++mV
abbrev mb2:List Mc.bY:=mH 2 [mr 4,mr 6] [mr 5,mr 7]++(mV++mV)
abbrev mb3:List Mc.bY:=mH 3 [mr 4,mr 6,mr 8] [mr 5,mr 7,mr 9]++(mV++(mV++mV))
abbrev oB (R:List (List AV)):List Mc.bY:=mb3++[.cells 50 9 R]
abbrev sB (S:bH) (os:List (List Int)):List Mc.bY:=[.cells 50 9 (iG os),GO.sR S]
noncomputable def body:Code:=(Tryz.f4).body.getD .skip
abbrev agx (c:Code) (r:Option (RT Out)):Prop:=AK { vars:=Vu,lens:=W2 } c (V7++List.replicate 198 .undef) [] [some 1,some 0,none,none] (nF (.o 0) (.o 1) (.q 1 0) (.o 2) (.i 0)) KV r
noncomputable def A6:Option (RT Out):=Nm { vars:=Vu,lens:=W2 } body (V7++List.replicate 198 .undef:List AV).length (V7++List.replicate 198 .undef) [] 0
theorem aiL:agx body A6:=⟨by unfold A6;rfl,by decide +kernel,by decide +kernel⟩
abbrev acq (c:Code):Prop:=fL { vars:=Vu,lens:=W2 } c (nF (.o 0) (.o 1) (.q 1 0) (.o 2) (.i 0)) KV 0 [some 0,some 1,some 6,some 9,some 4,some 7] (nF (.o 0) (.o 1) (.q 1 0) (.o 2) (.i 1)) Ky
theorem aiO:acq (aF A6):=⟨_,rfl,by decide +kernel,by decide +kernel⟩
abbrev acp (c:Code):Prop:=fL { vars:=Vu,lens:=W2 } c (nF (.o 0) (.o 1) (.q 1 0) (.o 2) (.i 1)) Ky 0 [some 0,some 1,some 8,some 11,some 4,some 5,some 6,some 9] (nF (.o 0) (.o 1) (.q 1 0) (.o 2) (.i 2)) Ki
theorem aiN:acp (aF A6):=⟨_,rfl,by decide +kernel,by decide +kernel⟩
abbrev aco (c:Code):Prop:=fL { vars:=Vu,lens:=W2 } c (nF (.o 0) (.o 1) (.q 1 0) (.o 2) (.i 2)) Ki 0 [some 0,some 1,some 10,some 13,some 4,some 5,some 6,some 7,some 8,some 11] (nF (.o 0) (.o 1) (.q 1 0) (.o 2) (.i 3)) Kd
theorem aiM:aco (aF A6):=⟨_,rfl,by decide +kernel,by decide +kernel⟩
abbrev acn (c:Code):Prop:=fL { vars:=Vu,lens:=W2 } c (nF (.o 0) (.o 1) (.q 1 0) (.o 2) (.i 3)) Kd 2 [some 0,some 1,some 2,some 3,some 4,some 5,some 6,some 7,some 8,some 9] (nF (.o 0) (.o 1) (.q 1 0) (.o 2) (.i 3)) Kd
theorem aiK:acn (aF A6):=⟨_,rfl,by decide +kernel,by decide +kernel⟩
abbrev Ls (o:Option (RT Out)) (r:Option (RT Out)):Prop:=yE { vars:=YJ,lens:=W2,bT:=ZD } o 0 (nF (.o 0) (.o 1) (.q 1 0) (.o 2) (.i 3)) Kd [some 0,some 1,some 2,some 3,some 4,some 5,some 6,some 7,some 8,some 9,some 10] (Au (.o 0) (.o 1) (.q 1 0) (.o 2) Wd (.v 2) WN (.v 2) (.i 0) (.i 0)) [JO,Wo,Qs,Qt,Wp,Wq,Wp,Wq,Wp,Wq,(.cells 50 9 [[.i 1,.i 0,.i 0,.i 0,.i 0,Wd,.v 2,.i 0,.emp]])] r
noncomputable def mX:Option (RT Out):=rsA { vars:=YJ,lens:=W2,bT:=ZD } A6 0 (nF (.o 0) (.o 1) (.q 1 0) (.o 2) (.i 3):List AV).length (nF (.o 0) (.o 1) (.q 1 0) (.o 2) (.i 3)) Kd 10
theorem ahg:Ls A6 mX:=⟨by unfold mX;rfl,by decide +kernel,by decide +kernel⟩
abbrev acm (c:Code):Prop:=fL { vars:=[(0,9223372036854775807),(1,50),(0,20),(0,10000),(0,10000),(0,4),(0,299),(0,2),(0,2)],facts:=[(WO,2,9223372036854775807)],defs:=Qi,lens:=UW,kT:=Wa,bT:=[(14,[.o 4,.i 300],(.v 6))] } c (Au (.o 0) (.o 1) (.q 1 0) (.o 2) (.v 1) (.o 3) Vv (.v 3) (.v 4) (.v 5)) Kc 0 [some 0,some 1,some 2,some 3,some 4,some 5,some 6,some 7,some 8,some 9,some 14] (Au (.o 0) (.o 1) (.q 1 0) (.o 2) (.v 1) (.o 3) UF Wb Wc Wk) [JO,Wo,Qs,Qt,Wp,Wq,Wp,Wq,Wp,Wq,(.sc 50 9 1 [] [QW,[.i 13,.i 0,.i 0,.i 0,.i 0,.v 1,.i 0,.v 5,.emp]] WZ)]
theorem aiJ:acm (aF mX):=⟨_,rfl,by decide +kernel,by decide +kernel⟩
abbrev Lq (c:Code):Prop:=fL { vars:=[(0,9223372036854775807),(1,50),(0,20),(0,10000),(0,10000),(5,5),(0,299),(0,2),(0,2),(0,0)],facts:=YA,defs:=Qi,lens:=UW,kT:=Wa,bT:=QJ } c (Au (.o 0) (.o 1) (.q 1 0) (.o 2) (.v 1) (.o 3) Vv (.v 3) (.v 4) (.v 5)) Kc 0 [some 0,some 1,some 2,some 3,some 4,some 5,some 6,some 7,some 8,some 9,some 12] (Au (.o 0) (.o 1) (.q 1 0) (.o 2) (.v 1) (.o 3) (.cE 50 9 10 WV) Wb Wc (.i 6)) [JO,Wo,Qs,Qt,Wp,Wq,Wp,Wq,Wp,Wq,(.sc 50 9 1 [] [QX] WV)]
theorem aeF:Lq (aF mX):=⟨_,rfl,by decide +kernel,by decide +kernel⟩
abbrev Lr (c:Code):Prop:=fL { vars:=[(0,9223372036854775807),(1,50),(0,20),(0,10000),(0,10000),(5,5),(0,299),(0,2),(0,2),(1,50)],facts:=YA,defs:=Qi,lens:=UW,kT:=Wa,bT:=QJ } c (Au (.o 0) (.o 1) (.q 1 0) (.o 2) (.v 1) (.o 3) Vv (.v 3) (.v 4) (.v 5)) Kc 0 [some 0,some 1,some 2,some 3,some 4,some 5,some 6,some 7,some 8,some 9,some 14] (Au (.o 0) (.o 1) (.q 1 0) (.o 2) (.v 1) (.o 3) UF Wb Wc (.i 6)) [JO,Wo,Qs,Qt,Wp,Wq,Wp,Wq,Wp,Wq,(.sc 50 9 1 [] [QX,Yk] WZ)]
theorem aeG:Lr (aF mX):=⟨_,rfl,by decide +kernel,by decide +kernel⟩
abbrev Lo (c:Code):Prop:=fL { vars:=[(0,9223372036854775807),(1,50),(0,20),(0,10000),(0,10000),(0,4),(0,299),(0,2),(0,2),(0,0)],facts:=[(WO,1,1)],defs:=Qi,lens:=UW,kT:=Wa,bT:=QJ } c (Au (.o 0) (.o 1) (.q 1 0) (.o 2) (.v 1) (.o 3) Vv (.v 3) (.v 4) (.v 5)) Kc 0 [some 0,some 1,some 2,some 3,some 4,some 5,some 6,some 7,some 8,some 9,some 12] (Au (.o 0) (.o 1) (.q 1 0) (.o 2) (.v 1) (.o 3) (.cE 50 9 10 WV) Wb Wc Wk) [JO,Wo,Qs,Qt,Wp,Wq,Wp,Wq,Wp,Wq,(.sc 50 9 1 [] [QW] WV)]
theorem aeD:Lo (aF mX):=⟨_,rfl,by decide +kernel,by decide +kernel⟩
abbrev Lp (c:Code):Prop:=fL { vars:=[(0,9223372036854775807),(1,50),(0,20),(0,10000),(0,10000),(0,4),(0,299),(0,2),(0,2),(1,50)],facts:=[(WO,1,1)],defs:=Qi,lens:=UW,kT:=Wa,bT:=QJ } c (Au (.o 0) (.o 1) (.q 1 0) (.o 2) (.v 1) (.o 3) Vv (.v 3) (.v 4) (.v 5)) Kc 0 [some 0,some 1,some 2,some 3,some 4,some 5,some 6,some 7,some 8,some 9,some 14] (Au (.o 0) (.o 1) (.q 1 0) (.o 2) (.v 1) (.o 3) UF Wb Wc Wk) [JO,Wo,Qs,Qt,Wp,Wq,Wp,Wq,Wp,Wq,(.sc 50 9 1 [] [QW,Yk] WZ)]
theorem aeE:Lp (aF mX):=⟨_,rfl,by decide +kernel,by decide +kernel⟩
abbrev RF (c:Code):Prop:=fL { vars:=Zf,lens:=UW } c (Au (.o 0) (.o 1) (.q 1 0) (.o 2) (.v 1) (.o 3) Vv (.v 3) (.v 4) (.v 0)) Kc 4 [some 0,some 1,some 2,some 3,some 4,some 5,some 6,some 7,some 8,some 9,some 10] (Au (.o 0) (.o 1) (.q 1 0) (.o 2) (.v 1) (.o 3) Vv (.v 3) (.v 4) (.v 0)) Kc
theorem ahe:RF (aF mX):=⟨_,rfl,by decide +kernel,by decide +kernel⟩
abbrev RG (c:Code):Prop:=fL { vars:=Zf,facts:=Uc,lens:=UW } c (Au (.o 0) (.o 1) (.q 1 0) (.o 2) (.v 1) (.o 3) Vv (.v 3) (.v 4) (.i 6)) Kc 4 [some 0,some 1,some 2,some 3,some 4,some 5,some 6,some 7,some 8,some 9,some 10] (Au (.o 0) (.o 1) (.q 1 0) (.o 2) (.v 1) (.o 3) Vv (.v 3) (.v 4) (.i 6)) Kc
theorem ahf:RG (aF mX):=⟨_,rfl,by decide +kernel,by decide +kernel⟩
abbrev RD (o:Option (RT Out)) (r:Option (RT Out)):Prop:=yE { vars:=Zf,lens:=UW,bT:=Kk } o 2 (Au (.o 0) (.o 1) (.q 1 0) (.o 2) (.v 1) (.o 3) Vv (.v 3) (.v 4) (.v 0)) Kc [some 10,some 11] (nF3 (.v 1) (.o 3) VG (.v 3) (.v 4) (.i 0)) Jg r
noncomputable def Cx:Option (RT Out):=rsA { vars:=Zf,lens:=UW,bT:=Kk } mX 2 (Au (.o 0) (.o 1) (.q 1 0) (.o 2) (.v 1) (.o 3) Vv (.v 3) (.v 4) (.v 0):List AV).length (Au (.o 0) (.o 1) (.q 1 0) (.o 2) (.v 1) (.o 3) Vv (.v 3) (.v 4) (.v 0)) Kc 11
theorem ahc:RD mX Cx:=⟨by unfold Cx;rfl,by decide +kernel,by decide +kernel⟩
abbrev RE (o:Option (RT Out)) (r:Option (RT Out)):Prop:=yE { vars:=Zf,facts:=Uc,lens:=UW,bT:=Kk } o 2 (Au (.o 0) (.o 1) (.q 1 0) (.o 2) (.v 1) (.o 3) Vv (.v 3) (.v 4) (.i 6)) Kc [some 10,some 11] (nF3 (.v 1) (.o 3) VG (.v 3) (.v 4) (.i 0)) Jg r
noncomputable def Cy:Option (RT Out):=rsA { vars:=Zf,facts:=Uc,lens:=UW,bT:=Kk } mX 2 (Au (.o 0) (.o 1) (.q 1 0) (.o 2) (.v 1) (.o 3) Vv (.v 3) (.v 4) (.i 6):List AV).length (Au (.o 0) (.o 1) (.q 1 0) (.o 2) (.v 1) (.o 3) Vv (.v 3) (.v 4) (.i 6)) Kc 11
theorem ahd:RE mX Cy:=⟨by unfold Cy;rfl,by decide +kernel,by decide +kernel⟩
abbrev NI (c:Code):Prop:=fL { vars:=[(1,50),(0,4999),(0,20),(0,10000),(0,10000),(0,19)],facts:=[([([2],1),([5],-1)],1,20)],lens:=W8,kT:=[(0,[([5],1)],Z9)],bT:=[(16,[Qu,(.agg Z9)],(.aZ [J6,.i 0]))] } c (nF3 (.v 0) (.v 1) VG (.v 3) (.v 4) (.v 5)) Jh 0 [some 0,some 1] (nF3 (.v 0) (.v 1) VG (.v 3) (.v 4) Wk) [(.sc 50 9 0 [] [] [([2],1)]),(.cells 31 10 [QD])]
theorem aiI:NI (aF Cx):=⟨_,rfl,by decide +kernel,by decide +kernel⟩
abbrev NH (c:Code):Prop:=fL { vars:=[(1,50),(0,4999),(0,20),(0,10000),(0,10000)],lens:=W8 } c (nF3 (.v 0) (.v 1) VG (.v 3) (.v 4) (.v 2)) Jh 6 [some 0,some 1] (nF3 (.v 0) (.v 1) VG (.v 3) (.v 4) (.v 2)) Jh
theorem aiH:NH (aF Cx):=⟨_,rfl,by decide +kernel,by decide +kernel⟩
abbrev H6 (o:Option (RT Out)):Prop:=rT { vars:=[(1,50),(0,4999),(0,20),(0,10000),(0,10000),(-1099511627776,1099511627776),(-1099511627776,1099511627776)],facts:=[([([1],-1),([5],1),([6],1)],0,0)],lens:=[(0,[([2],1)]),(15,[([],1)]),(17,[([],17)])],kT:=[(15,[],[.v 0,.v 3,.v 4,.o 7]),(17,[],[.v 5]),(17,[([],12)],[.v 6]),(17,[([],5)],[.i 0])],bT:=[(9,[Qu],J6),(12,[J6],(.aZ [(.agg [.o 6,.q 4 15,.q 2 16,.q 1 17]),.i 0])),(13,[],WP)] } Tryz.f4 o 4 (nF3 (.v 0) (.v 1) VG (.v 3) (.v 4) (.v 2)) Jh (WP)
theorem aiG:H6 Cx:=⟨_,rfl,by decide +kernel,by decide +kernel,by kernel_rfl⟩
theorem ahb:NI (aF Cy):=⟨_,rfl,by decide +kernel,by decide +kernel⟩
theorem aha:NH (aF Cy):=⟨_,rfl,by decide +kernel,by decide +kernel⟩
theorem ag9:H6 Cy:=⟨_,rfl,by decide +kernel,by decide +kernel,by kernel_rfl⟩
end LN
set_option maxRecDepth 1000000
def Tp (i:Nat) (n pr:Int):List Int:=[12,(i:Int)%3,0,0,(1+(i:Int))%3,n,pr,0]
def ail (i:Nat) (q:Int):List Int:=[13,0,0,0,0,q,0,(i:Int)]
def Ou (l i:Nat):Bool:=decide (i=5∨i+1=l)
def xG (l:Nat) (n k pr:Int) (i:Nat):List (List Int):=Tp i n pr::(if Ou l i=true then(if k=0 then[]else[ail i k])else[ail i n])
def oC (p:Int) (z:List Int) (i:Nat):Int:=p+((z.take i).map (·%300)).sum
def MQ (n p k:Int) (z:List Int) (i:Nat):List (List Int):=[1,0,0,0,0,n,p,0]::(List.range i).flatMap fun j=>xG z.length n k (oC p z (j+1)) j
theorem Fu {p:Int} {z:List Int} {i:Nat} {v:Int} (h:z[i]?=some v):oC p z (i+1)=oC p z i+v%300:=by
 unfold oC;rw[List.take_add_one,h];simp only[Option.toList_some,List.map_append,List.map_cons,List.map_nil,List.sum_append,List.sum_cons,List.sum_nil];omega
theorem CA (p:Int) (z:List Int):∀i:Nat,p≤oC p z i∧oC p z i≤p+300*i
 |0=>by simp[oC]
 |i+1=>by
  have ih:=CA p z i;cases h:z[i]? with
  |none =>
   have:oC p z (i+1)=oC p z i:=by unfold oC;rw[List.take_add_one,h];simp
   omega
  |some v =>
   rw[Fu h];have:=Int.emod_nonneg v (show(300:Int)≠0 by decide)
   have:=Int.emod_lt_of_pos v (show(0:Int)<300 by decide)
   omega
theorem NQ (n p k:Int) (z:List Int) (i:Nat):MQ n p k z (i+1)=MQ n p k z i++xG z.length n k (oC p z (i+1)) i:=by
 unfold MQ;rw[List.range_succ,List.flatMap_append];simp
theorem Ri (l:Nat) (n k pr:Int) (i:Nat):(xG l n k pr i).length≤2:=by
 unfold xG;split
 ·split<;>simp
 ·simp
theorem Ek (n p k:Int) (z:List Int):∀i:Nat,(MQ n p k z i).length≤1+2*i
 |0=>by simp[MQ]
 |i+1=>by
  have ih:=Ek n p k z i;have:=Ri z.length n k (oC p z (i+1)) i
  rw[NQ,List.length_append];omega
theorem H7 (n p k:Int) (z:List Int) (i:Nat):∀o∈MQ n p k z i,∃o0 o1 o2 o3 o4 o5 o6 o7,o=[o0,o1,o2,o3,o4,o5,o6,o7]:=by
 intro o ho;unfold MQ at ho;rcases List.mem_cons.1 ho with rfl|ho
 ·exact⟨_,_,_,_,_,_,_,_,rfl⟩
 obtain⟨j,-,ho⟩:=List.mem_flatMap.1 ho;unfold xG at ho;rcases List.mem_cons.1 ho with rfl|ho
 ·exact⟨_,_,_,_,_,_,_,_,rfl⟩
 split at ho
 ·split at ho
  ·exact absurd ho List.not_mem_nil
  ·rw[List.mem_singleton]at ho;subst ho;exact⟨_,_,_,_,_,_,_,_,rfl⟩
 ·rw[List.mem_singleton]at ho;subst ho;exact⟨_,_,_,_,_,_,_,_,rfl⟩
def Rest (F:bH→Prop):bH→List (List Int)→Prop
 |S,[]=>F S
 |S,o::l=>∃T:bH,Ck 16 [S.av,.agg (o.map AV.i++[.emp])] (.aZ [T.av,.i 0])∧Rest F T l
def Good (n p pr asked:Int) (S:bH):Prop:=∃(T:bH) (its:List vB) (ml:List cD) (bs:List Int) (now dn x0 x12:Int),
 Ck 9 [S.av] T.av∧Ck 12 [T.av] (.aZ [.agg [.i now,.lit 4 (iZ its),.lit 2 (bR ml),.lit 1 (aA bs)],.i 0]) ∧
 its=[⟨n,pr,asked,dn⟩]∧bs.length=17∧bs[0]?=some x0∧bs[12]?=some x12∧bs[5]?=some 0∧x0+x12=p∧(-1099511627776≤x0∧x0≤1099511627776)∧(-1099511627776≤x12∧x12≤1099511627776)
namespace LN
section
variable {A:Nat→Prop} {w0:World} {a0:Act} {qq paid part:Int} {z:List Int}
theorem next {o o2:Option (RT Out)} (rA2:Ls o o2) (hz:z.length≤9223372036854775807) {q0 p0:Int} (hq0:0≤q0∧q0≤49) (hp0:0≤p0∧p0≤4999)
  (hq:Ck 14 [.i qq,.i 50] (.i q0)) (hp:Ck 14 [.i paid,.i 5000] (.i p0)) {Φ:jA}
  (kk:∀mm w a,@eU dI dN A w0 a0 mm w a (Au (.i qq) (.i paid) (.lit 1 (aA z)) (.i part) (.i (1+q0)) (.i p0) WN (.i p0) (.i 0) (.i 0)) (eZ (oB (iG [[1,0,0,0,0,1+q0,p0,0]])))→(Code.loop (aF o2)).wpIn (fw none) 9 Tryz.prog (KS Tryz.prog (oK o2) Φ) a w)
  (mm:Nat→St) (w:World) (a:Act) (pr:@eU dI dN A w0 a0 mm w a (nF (.i qq) (.i paid) (.lit 1 (aA z)) (.i part) (.i 3)) (eZ mb3)):KS Tryz.prog (oK o) Φ (AX.exit 0).to a w :=
 rA2.go (ev1 _ [(z.length:Int),q0,p0] [.I qq,.I paid,.I part] [aA z] .nil) (xK (kc hq (kc hp kn))) pr (fd:=Au (.i qq) (.i paid) (.lit 1 (aA z)) (.i part) (.i (1+q0)) (.i p0) WN (.i p0) (.i 0) (.i 0)) (bd:=oB (iG [[1,0,0,0,0,1+q0,p0,0]])) kk
theorem ahV {o o2:Option (RT Out)} (r0:acq (aF o)) (r1:acp (aF o)) (r2:aco (aF o)) (rX:acn (aF o)) (rA2:Ls o o2) (hz:z.length≤9223372036854775807) {q0 p0:Int} (hq0:0≤q0∧q0≤49) (hp0:0≤p0∧p0≤4999)
  (hq:Ck 14 [.i qq,.i 50] (.i q0)) (hp:Ck 14 [.i paid,.i 5000] (.i p0)) {Φ:jA}
  (kk:∀mm w a,@eU dI dN A w0 a0 mm w a (Au (.i qq) (.i paid) (.lit 1 (aA z)) (.i part) (.i (1+q0)) (.i p0) WN (.i p0) (.i 0) (.i 0)) (eZ (oB (iG [[1,0,0,0,0,1+q0,p0,0]])))→(Code.loop (aF o2)).wpIn (fw none) 9 Tryz.prog (KS Tryz.prog (oK o2) Φ) a w)
  (mm:Nat→St) (w:World) (a:Act) (pr:@eU dI dN A w0 a0 mm w a (nF (.i qq) (.i paid) (.lit 1 (aA z)) (.i part) (.i 0)) (eZ mb0)):(Code.loop (aF o)).wpIn (fw none) 9 Tryz.prog (KS Tryz.prog (oK o) Φ) a w:=by
 refine eA (fun n a w=>∃(j:Nat) (b:List Mc.bY),n=3-j∧(j=0∧b=mb0∨j=1∧b=mb1∨j=2∧b=mb2∨j=3∧b=mb3)∧∃mm,@eU dI dN A w0 a0 mm w a (nF (.i qq) (.i paid) (.lit 1 (aA z)) (.i part) (.i (j:Int))) (eZ b)) ?_ (n:=3) ⟨0,_,rfl,.inl ⟨rfl,rfl⟩,_,pr⟩
 rintro n a w ⟨j,b,rfl,hj,mm,pr⟩
 rcases hj with⟨rfl,rfl⟩|⟨rfl,rfl⟩|⟨rfl,rfl⟩|⟨rfl,rfl⟩
 ·refine r0.go (ev1 _ [(z.length:Int)] [.I qq,.I paid,.I part] [aA z] .nil) (xK kn) pr (fd:=nF (.i qq) (.i paid) (.lit 1 (aA z)) (.i part) (.i 1)) (bd:=mb1) ?_
  exact fun mm w a pr=>⟨_,by omega,1,_,rfl,.inr (.inl ⟨rfl,rfl⟩),mm,pr⟩
 ·refine r1.go (ev1 _ [(z.length:Int)] [.I qq,.I paid,.I part] [aA z] .nil) (xK kn) pr (fd:=nF (.i qq) (.i paid) (.lit 1 (aA z)) (.i part) (.i 2)) (bd:=mb2) ?_
  exact fun mm w a pr=>⟨_,by omega,2,_,rfl,.inr (.inr (.inl ⟨rfl,rfl⟩)),mm,pr⟩
 ·refine r2.go (ev1 _ [(z.length:Int)] [.I qq,.I paid,.I part] [aA z] .nil) (xK kn) pr (fd:=nF (.i qq) (.i paid) (.lit 1 (aA z)) (.i part) (.i 3)) (bd:=mb3) ?_
  exact fun mm w a pr=>⟨_,by omega,3,_,rfl,.inr (.inr (.inr ⟨rfl,rfl⟩)),mm,pr⟩
 ·refine rX.go (ev1 _ [(z.length:Int)] [.I qq,.I paid,.I part] [aA z] .nil) (xK kn) pr ?_
  intro mm w a pr;exact next rA2 hz hq0 hp0 hq hp kk mm w a pr
abbrev f2 (qq paid part:Int) (z:List Int) (n p pr asked:Int) (k i:Nat):List AV:=Au (.i qq) (.i paid) (.lit 1 (aA z)) (.i part) (.i n) (.i p) (.own 50 9 10 0 k) (.i pr) (.i asked) (.i (i:Int))
theorem afj (os:List (List Int)) (o:List Int):iG os++[o.map AV.i++[.emp]]=iG (os++[o]):=by simp[iG]
theorem TT (os:List (List Int)) (o o':List Int):iG os++[o.map AV.i++[.emp],o'.map AV.i++[.emp]]=iG (os++[o,o']):=by simp[iG]
def GK (A:Nat→Prop) (w0:World) (a0:Act) (qq paid part:Int) (z:List Int) (n p kk:Int) (m:Nat) (a:Act) (w:World):Prop:=∃(i k:Nat) (os:List (List Int)) (prc asked:Int),m=6-i∧i≤6∧i≤z.length∧os=MQ n p kk z i∧prc=oC p z i∧asked=prc-p∧os.length=k∧∃mm,@eU dI dN A w0 a0 mm w a (f2 qq paid part z n p prc asked k i) (eZ (oB (iG os)))
theorem Bo (os:List (List Int)):(iG os).length=os.length:=by simp[iG]
theorem ops {o:Option (RT Out)} (rF:acm (aF o)) (r5z:Lq (aF o)) (r5k:Lr (aF o)) (rez:Lo (aF o)) (rek:Lp (aF o)) (rXe:RF (aF o)) (rX6:RG (aF o)) (hz:z.length≤9223372036854775807) {n p kk:Int} (hn:1≤n∧n≤50) (hp:0≤p∧p≤4999) (hkb:0≤kk∧kk≤n)
  (hk:Ck 14 [.i part,.i (1+n)] (.i kk)) {Φ:jA}
  (ke:∀(k:Nat) mm w a,(MQ n p kk z z.length).length=k→z.length≤6→@eU dI dN A w0 a0 mm w a (f2 qq paid part z n p (oC p z z.length) (oC p z z.length-p) k z.length) (eZ (oB (iG (MQ n p kk z z.length))))→KS Tryz.prog (oK o) Φ (AX.exit 2).to a w)
  (k6:∀(k:Nat) mm w a,(MQ n p kk z 6).length=k→6<z.length→@eU dI dN A w0 a0 mm w a (f2 qq paid part z n p (oC p z 6) (oC p z 6-p) k 6) (eZ (oB (iG (MQ n p kk z 6))))→KS Tryz.prog (oK o) Φ (AX.exit 2).to a w)
  (mm:Nat→St) (w:World) (a:Act) (pr:@eU dI dN A w0 a0 mm w a (f2 qq paid part z n p p 0 1 0) (eZ (oB (iG [[1,0,0,0,0,n,p,0]])))):(Code.loop (aF o)).wpIn (fw none) 9 Tryz.prog (KS Tryz.prog (oK o) Φ) a w:=by
 refine eA (fun m a w=>GK A w0 a0 qq paid part z n p kk m a w) ?_ (n:=6) ⟨0,1,_,p,0,rfl,by omega,by omega,rfl,by simp[oC],by omega,rfl,_,pr⟩
 rintro m a w ⟨i,k,os,prc,asked,rfl,hi6,hil,hos,hpr,has,hlen,mm,pr⟩
 have hbd:=CA p z i;have hol:=Ek n p kk z i;have hzl:=Bo os;rw[←hos]at hol;rw[←hpr]at hbd;rcases(by omega:i=z.length∨(i=6∧i<z.length)∨(i<6∧i<z.length))with h|⟨h,hlt⟩|⟨h,hlt⟩
 ·subst h
  refine rXe.go (ev1 _ [(z.length:Int),n,(k:Int),prc,asked] [.I qq,.I paid,.I part,.I p] [aA z,iG os] .nil) (xK kn) pr ?_
  intro mm w a pr;subst hos;subst has;subst hpr
  exact ke k mm w a hlen hi6 pr
 ·subst h
  refine rX6.go (ev1 _ [(z.length:Int),n,(k:Int),prc,asked] [.I qq,.I paid,.I part,.I p] [aA z,iG os] .nil) (xK kn) pr ?_
  intro mm w a pr;subst hos;subst has;subst hpr
  exact k6 k mm w a hlen hlt pr
 clear ke k6;obtain⟨v,hv0⟩:∃v,z[i]?=some v:=⟨_,List.getElem?_eq_getElem hlt⟩
 have hv:z[(i:Int).toNat]?=some v:=by simpa using hv0
 have hd:=BU v 300;have hps:=Fu (p:=p) hv0
 have d0:=Int.emod_nonneg v (show(300:Int)≠0 by decide)
 have d1:=Int.emod_lt_of_pos v (show(0:Int)<300 by decide)
 have hoss:=NQ n p kk z i;rw[hps,←hpr,←hos]at hoss;rw[←hpr]at hps;generalize v%300=d at *
 obtain⟨r,hr⟩:∃r,r=(i:Int)%3:=⟨_,rfl⟩
 obtain⟨r2,hr2⟩:∃r,r=(1+(i:Int))%3:=⟨_,rfl⟩
 have rb:0≤r∧r≤2:=by omega
 have r2b:0≤r2∧r2≤2:=by omega
 have hos2:∀os2,os2=MQ n p kk z (i+1)→∀k2,os2.length=k2→∀mm w a,@eU dI dN A w0 a0 mm w a (f2 qq paid part z n p (prc+d) (asked+d) k2 (i+1)) (eZ (oB (iG os2)))→∃m',m'<6-i∧GK A w0 a0 qq paid part z n p kk m' a w:=by
  intro os2 h2 k2 hk2 mm w a pr;exact⟨_,by omega,i+1,k2,os2,_,_,rfl,by omega,by omega,h2,hps.symm,by omega,hk2,mm,pr⟩
 unfold xG Tp ail Ou at hoss;rw[←hr,←hr2]at hoss;clear hos hpr hps hv0;by_cases hl:i=5∨i+1=z.length
 ·rw[if_pos (by simpa using hl)]at hoss
  by_cases hk0:kk=0
  ·rw[if_pos hk0]at hoss
   have two:∀mm w a,@eU dI dN A w0 a0 mm w a (f2 qq paid part z n p (prc+d) (asked+d) (1+(k:Int)).toNat (i+1)) (eZ (oB (iG os++[[.i 12,.i r,.i 0,.i 0,.i r2,.i n,.i (prc+d),.i 0,.emp]])))→∃m',m'<6-i∧GK A w0 a0 qq paid part z n p kk m' a w:=fun mm w a pr=>by
    rw[show(1+(k:Int)).toNat=k+1 by omega,show iG os++[[.i 12,.i r,.i 0,.i 0,.i r2,.i n,.i (prc+d),.i 0,.emp]]=iG (os++[[12,r,0,0,r2,n,prc+d,0]])from afj os [12,r,0,0,r2,n,prc+d,0]]at pr
    exact hos2 _ hoss.symm _ (by simp;omega) mm w a pr
   clear hoss hos2;by_cases h5:i=5
   ·have e6:i+1=6:=by omega
    have hr20:r2=0:=by omega
    rw[e6,hr20]at two;exact r5z.go (ev1 _ [(z.length:Int),n,(k:Int),prc,asked,(i:Int),d,r,r2,kk] [.I qq,.I paid,.I part,.I p,.I v] [aA z,iG os] (.d (aI hv) .nil) (.rem (mY (y:=(i:Int)) (by simp[bJ,lG,Int.add_assoc]) (by simp[bJ,lG,Int.add_assoc]) (oZ _ _) (by omega) hr) (.rem (mY (y:=1+(i:Int)) (by simp[bJ,lG,Int.add_assoc]) (by simp[bJ,lG,Int.add_assoc]) (oZ _ _) (by omega) hr2) (.nil)))) (xK (kc hd (kc hk kn))) pr (fd:=f2 qq paid part z n p (prc+d) (asked+d) (1+(k:Int)).toNat 6) (bd:=oB (iG os++[[.i 12,.i r,.i 0,.i 0,.i 0,.i n,.i (prc+d),.i 0,.emp]])) two
   ·have he:(i:Int)+1=z.length:=by omega
    have two:∀mm w a,@eU dI dN A w0 a0 mm w a (Au (.i qq) (.i paid) (.lit 1 (aA z)) (.i part) (.i n) (.i p) (.own 50 9 10 0 (1+(k:Int)).toNat) (.i (prc+d)) (.i (asked+d)) (.i (1+(i:Int)))) _→_:=fun mm w a pr=>two mm w a (by rw[show(1+(i:Int))=((i+1:Nat):Int)by omega]at pr;exact pr)
    exact rez.go (ev1 _ [(z.length:Int),n,(k:Int),prc,asked,(i:Int),d,r,r2,kk] [.I qq,.I paid,.I part,.I p,.I v] [aA z,iG os] (.d (aI hv) .nil) (.rem (mY (y:=(i:Int)) (by simp[bJ,lG,Int.add_assoc]) (by simp[bJ,lG,Int.add_assoc]) (oZ _ _) (by omega) hr) (.rem (mY (y:=1+(i:Int)) (by simp[bJ,lG,Int.add_assoc]) (by simp[bJ,lG,Int.add_assoc]) (oZ _ _) (by omega) hr2) (.nil)))) (xK (kc hd (kc hk kn))) pr (fd:=Au (.i qq) (.i paid) (.lit 1 (aA z)) (.i part) (.i n) (.i p) (.own 50 9 10 0 (1+(k:Int)).toNat) (.i (prc+d)) (.i (asked+d)) (.i (1+(i:Int)))) (bd:=oB (iG os++[[.i 12,.i r,.i 0,.i 0,.i r2,.i n,.i (prc+d),.i 0,.emp]])) two
  ·rw[if_neg hk0]at hoss
   have two:∀mm w a,@eU dI dN A w0 a0 mm w a (f2 qq paid part z n p (prc+d) (asked+d) (2+(k:Int)).toNat (i+1)) (eZ (oB (iG os++[[.i 12,.i r,.i 0,.i 0,.i r2,.i n,.i (prc+d),.i 0,.emp],[.i 13,.i 0,.i 0,.i 0,.i 0,.i kk,.i 0,.i (i:Int),.emp]])))→∃m',m'<6-i∧GK A w0 a0 qq paid part z n p kk m' a w:=fun mm w a pr=>by
    rw[show(2+(k:Int)).toNat=k+2 by omega,show iG os++[[.i 12,.i r,.i 0,.i 0,.i r2,.i n,.i (prc+d),.i 0,.emp],[.i 13,.i 0,.i 0,.i 0,.i 0,.i kk,.i 0,.i (i:Int),.emp]]=iG (os++[[12,r,0,0,r2,n,prc+d,0],[13,0,0,0,0,kk,0,(i:Int)]])from TT os [12,r,0,0,r2,n,prc+d,0] [13,0,0,0,0,kk,0,(i:Int)]]at pr
    exact hos2 _ hoss.symm _ (by simp;omega) mm w a pr
   clear hoss hos2;by_cases h5:i=5
   ·have e6:i+1=6:=by omega
    have hr20:r2=0:=by omega
    rw[e6,hr20]at two;exact r5k.go (ev1 _ [(z.length:Int),n,(k:Int),prc,asked,(i:Int),d,r,r2,kk] [.I qq,.I paid,.I part,.I p,.I v] [aA z,iG os] (.d (aI hv) .nil) (.rem (mY (y:=(i:Int)) (by simp[bJ,lG,Int.add_assoc]) (by simp[bJ,lG,Int.add_assoc]) (oZ _ _) (by omega) hr) (.rem (mY (y:=1+(i:Int)) (by simp[bJ,lG,Int.add_assoc]) (by simp[bJ,lG,Int.add_assoc]) (oZ _ _) (by omega) hr2) (.nil)))) (xK (kc hd (kc hk kn))) pr (fd:=f2 qq paid part z n p (prc+d) (asked+d) (2+(k:Int)).toNat 6) (bd:=oB (iG os++[[.i 12,.i r,.i 0,.i 0,.i 0,.i n,.i (prc+d),.i 0,.emp],[.i 13,.i 0,.i 0,.i 0,.i 0,.i kk,.i 0,.i (i:Int),.emp]])) two
   ·have he:(i:Int)+1=z.length:=by omega
    have two:∀mm w a,@eU dI dN A w0 a0 mm w a (Au (.i qq) (.i paid) (.lit 1 (aA z)) (.i part) (.i n) (.i p) (.own 50 9 10 0 (2+(k:Int)).toNat) (.i (prc+d)) (.i (asked+d)) (.i (1+(i:Int)))) _→_:=fun mm w a pr=>two mm w a (by rw[show(1+(i:Int))=((i+1:Nat):Int)by omega]at pr;exact pr)
    exact rek.go (ev1 _ [(z.length:Int),n,(k:Int),prc,asked,(i:Int),d,r,r2,kk] [.I qq,.I paid,.I part,.I p,.I v] [aA z,iG os] (.d (aI hv) .nil) (.rem (mY (y:=(i:Int)) (by simp[bJ,lG,Int.add_assoc]) (by simp[bJ,lG,Int.add_assoc]) (oZ _ _) (by omega) hr) (.rem (mY (y:=1+(i:Int)) (by simp[bJ,lG,Int.add_assoc]) (by simp[bJ,lG,Int.add_assoc]) (oZ _ _) (by omega) hr2) (.nil)))) (xK (kc hd (kc hk kn))) pr (fd:=Au (.i qq) (.i paid) (.lit 1 (aA z)) (.i part) (.i n) (.i p) (.own 50 9 10 0 (2+(k:Int)).toNat) (.i (prc+d)) (.i (asked+d)) (.i (1+(i:Int)))) (bd:=oB (iG os++[[.i 12,.i r,.i 0,.i 0,.i r2,.i n,.i (prc+d),.i 0,.emp],[.i 13,.i 0,.i 0,.i 0,.i 0,.i kk,.i 0,.i (i:Int),.emp]])) two
 ·rw[if_neg (by simpa using hl)]at hoss
  have two:∀mm w a,@eU dI dN A w0 a0 mm w a (Au (.i qq) (.i paid) (.lit 1 (aA z)) (.i part) (.i n) (.i p) (.own 50 9 10 0 (2+(k:Int)).toNat) (.i (prc+d)) (.i (asked+d)) (.i (1+(i:Int)))) (eZ (oB (iG os++[[.i 12,.i r,.i 0,.i 0,.i r2,.i n,.i (prc+d),.i 0,.emp],[.i 13,.i 0,.i 0,.i 0,.i 0,.i n,.i 0,.i (i:Int),.emp]])))→∃m',m'<6-i∧GK A w0 a0 qq paid part z n p kk m' a w:=fun mm w a pr=>by
   rw[show(1+(i:Int))=((i+1:Nat):Int)by omega,show(2+(k:Int)).toNat=k+2 by omega,show iG os++[[.i 12,.i r,.i 0,.i 0,.i r2,.i n,.i (prc+d),.i 0,.emp],[.i 13,.i 0,.i 0,.i 0,.i 0,.i n,.i 0,.i (i:Int),.emp]]=iG (os++[[12,r,0,0,r2,n,prc+d,0],[13,0,0,0,0,n,0,(i:Int)]])from TT os [12,r,0,0,r2,n,prc+d,0] [13,0,0,0,0,n,0,(i:Int)]]at pr
   exact hos2 _ hoss.symm _ (by simp;omega) mm w a pr
  clear hoss hos2;exact rF.go (ev1 _ [(z.length:Int),n,(k:Int),prc,asked,(i:Int),d,r,r2] [.I qq,.I paid,.I part,.I p,.I v] [aA z,iG os] (.d (aI hv) .nil) (.rem (mY (y:=(i:Int)) (by simp[bJ,lG,Int.add_assoc]) (by simp[bJ,lG,Int.add_assoc]) (oZ _ _) (by omega) hr) (.rem (mY (y:=1+(i:Int)) (by simp[bJ,lG,Int.add_assoc]) (by simp[bJ,lG,Int.add_assoc]) (oZ _ _) (by omega) hr2) (.nil)))) (xK (kc hd kn)) pr (fd:=Au (.i qq) (.i paid) (.lit 1 (aA z)) (.i part) (.i n) (.i p) (.own 50 9 10 0 (2+(k:Int)).toNat) (.i (prc+d)) (.i (asked+d)) (.i (1+(i:Int)))) (bd:=oB (iG os++[[.i 12,.i r,.i 0,.i 0,.i r2,.i n,.i (prc+d),.i 0,.emp],[.i 13,.i 0,.i 0,.i 0,.i 0,.i n,.i 0,.i (i:Int),.emp]])) two
abbrev f3 (n p pr asked:Int) (k i:Nat):List AV:=nF3 (.i n) (.i p) (.own 50 9 0 0 k) (.i pr) (.i asked) (.i (i:Int))
theorem fin {o:Option (RT Out)} (rr:H6 o) {S:bH} {os:List (List Int)} {n p prc asked:Int} (hn:1≤n∧n≤50) (hp:0≤p∧p≤4999) (hpr:0≤prc∧prc≤10000) (has:0≤asked∧asked≤10000) (hl:os.length≤20) (cA:Ck 13 [] WP) (F:Good n p prc asked S)
  (mm:Nat→St) (w:World) (a:Act) (pre:@eU dI dN A w0 a0 mm w a (f3 n p prc asked os.length os.length) (eZ (sB S os))):KS Tryz.prog (oK o) (Fin Tryz.prog Tryz.f4 A w0 a0 WP) (AX.exit 4).to a w:=by
 obtain⟨T,its,ml,bs,now,dn,x0,x12,cC,cG,hits,hbl,h0,h12,h5,hx,b0,b12⟩:=F;have hgl:=qG its;have hzl:=Bo os;have h1:its.length=1:=by rw[hits];rfl
 have hi:its[0]?=some ⟨n,prc,asked,dn⟩:=by rw[hits];rfl
 exact rr.go (ev1 _ [n,p,(os.length:Int),prc,asked,x0,x12] [.I S.aB,.I S.aD,.I S.done,.I T.aB,.I T.aD,.I T.done,.I now,.I dn] [iG os,bN S.aH,aA S.weights,dM S.methods,dM S.iC,kW S.bX,gD S.aU,gY S.aM,bN T.aH,aA T.weights,dM T.methods,dM T.iC,kW T.bX,gD T.aU,gY T.aM,iZ its,bR ml,aA bs] (.d (aG hi) (.d (aJ h0) (.d (aJ h12) (.d (aJ h5) .nil))))) (xK (kc cC (kc cG (kc cA kn)))) pre
theorem steps {o:Option (RT Out)} (rR:NI (aF o)) (rX:NH (aF o)) (rr:H6 o) {S:bH} {os:List (List Int)} {n p prc asked:Int} (hn:1≤n∧n≤50) (hp:0≤p∧p≤4999) (hpr:0≤prc∧prc≤10000) (has:0≤asked∧asked≤10000) (hl:os.length≤20) (cA:Ck 13 [] WP) (h8:∀o∈os,∃o0 o1 o2 o3 o4 o5 o6 o7,o=[o0,o1,o2,o3,o4,o5,o6,o7]) (R:Rest (Good n p prc asked) S os)
  (mm:Nat→St) (w:World) (a:Act) (pre:@eU dI dN A w0 a0 mm w a (f3 n p prc asked os.length 0) (eZ (sB S os))):(Code.loop (aF o)).wpIn (fw none) 9 Tryz.prog (KS Tryz.prog (oK o) (Fin Tryz.prog Tryz.f4 A w0 a0 WP)) a w:=by
 refine eA (fun m a w=>∃(i:Nat) (S:bH),m=os.length-i∧i≤os.length∧Rest (Good n p prc asked) S (os.drop i)∧∃mm,@eU dI dN A w0 a0 mm w a (f3 n p prc asked os.length i) (eZ (sB S os))) ?_ (n:=os.length) ⟨0,S,rfl,Nat.zero_le _,R,_,pre⟩
 clear R pre;have hzl:=Bo os;rintro m a w ⟨i,S,rfl,hi,R,mm,pre⟩
 rcases(by omega:i=os.length∨i<os.length)with hie|hlt
 ·subst hie
  rw[List.drop_length]at R;refine rX.go (ev1 _ [n,p,(os.length:Int),prc,asked] [.I S.aB,.I S.aD,.I S.done] [iG os,bN S.aH,aA S.weights,dM S.methods,dM S.iC,kW S.bX,gD S.aU,gY S.aM] .nil) (xK kn) pre ?_
  exact fin rr hn hp hpr has hl cA R
 ·obtain⟨oo,ho0⟩:∃oo,os[i]?=some oo:=⟨_,List.getElem?_eq_getElem hlt⟩
  have hd:os.drop i=oo::os.drop (i+1):=by rw[←List.getElem_cons_drop hlt];congr 1;exact Option.some.inj (by rw[←List.getElem?_eq_getElem hlt,ho0])
  obtain⟨o0,o1,o2,o3,o4,o5,o6,o7,rfl⟩:=h8 oo (List.mem_of_getElem? ho0)
  rw[hd]at R;obtain⟨T,cS,R2⟩:=R;have ho:os[(i:Int).toNat]?=some [o0,o1,o2,o3,o4,o5,o6,o7]:=by simpa using ho0
  refine rR.go (ev1 _ [n,p,(os.length:Int),prc,asked,(i:Int)] [.I S.aB,.I S.aD,.I S.done,.I T.aB,.I T.aD,.I T.done,.I o0,.I o1,.I o2,.I o3,.I o4,.I o5,.I o6,.I o7] [iG os,bN S.aH,aA S.weights,dM S.methods,dM S.iC,kW S.bX,gD S.aU,gY S.aM,bN T.aH,aA T.weights,dM T.methods,dM T.iC,kW T.bX,gD T.aU,gY T.aM] (.d (aOp ho) .nil)) (xK (kc cS kn)) pre (fd:=nF3 (.i n) (.i p) (.own 50 9 0 0 os.length) (.i prc) (.i asked) (.i (1+(i:Int)))) (bd:=sB T os) ?_
  intro mm w a pre;rw[show(1+(i:Int))=((i+1:Nat):Int)by omega]at pre
  exact⟨_,by omega,i+1,T,rfl,by omega,R2,mm,pre⟩
end
end LN
end
section
open Mc
inductive O3
 |sM (e item loc q a:Int)
 |I5 (e item loc dst q a:Int)
 |nX (loc q ref:Int)
def O3.av:O3→AV
 | .sM e item loc q a=>uE 1 e item loc 0 q a 0
 | .I5 e item loc dst q a=>uE 12 e item loc dst q a 0
 | .nX loc q ref=>uE 13 0 0 loc 0 q 0 ref
def abn (n w:Nat):O3→Prop
 | .sM e item loc q a=>EB n e∧EB w item∧LB loc∧QB q∧AB a
 | .I5 e item loc dst q a=>EB n e∧EB w item∧LB loc∧EB n dst∧dst≠e∧QB q∧AB a
 | .nX loc q ref=>LB loc∧QB q∧RB ref
def do3 (S:bH):O3→bH×Int
 | .sM e item loc q a=>qN S e item loc q a
 | .I5 e item loc dst q a=>E6 S e item loc dst q a
 | .nX loc q ref=>wN S loc q ref
theorem afR {S:bH} (G:Gn S) (hd:S.done≤1000000) {o:O3} (ok:abn S.aH.length S.weights.length o) :
  Ck 16 [S.av,o.av] (.aZ [(lI S (do3 S o)).1.av,.i (lI S (do3 S o)).2])∧Stp S (lI S (do3 S o)).1:=by
 have hn:=G.hn;have hww:=G.hw
 have fin:∀{r:bH×Int},do3 S o=r→yG S r→((Ck 16 [S.av,o.av] (.aZ [(lI S r).1.av,.i (lI S r).2])))→Ck 16 [S.av,o.av] (.aZ [(lI S (do3 S o)).1.av,.i (lI S (do3 S o)).2])∧Stp S (lI S (do3 S o)).1:=by
  intro r e F c;rw[e];exact⟨c,F.stp G⟩
 cases o with
 |sM e item loc q a =>
  obtain⟨h1,h2,h3,h4,h5⟩:=ok;obtain⟨c,F⟩:=aaT G hd ⟨h1.1,h1.2,h2.1,h2.2⟩ h3 h4 (a:=a) ⟨h5.1,by omega⟩
  exact fin rfl F (d_step1 (ah8 ⟨h1.1,by omega⟩ ⟨h2.1,by omega⟩ h3 h4 h5) c F.err (F.dT G hd))
 |I5 e item loc dst q a =>
  obtain⟨h1,h2,h3,h4,h5,h6,h7⟩:=ok;obtain⟨c,F⟩:=ah7 G hd ⟨h1.1,h1.2,h2.1,h2.2⟩ h3 ⟨h4.1,h4.2,h2.1,h2.2⟩ h6 (a:=a) ⟨h7.1,by omega⟩
  exact fin rfl F (adR (afQ ⟨h1.1,by omega⟩ ⟨h2.1,by omega⟩ h3 ⟨h4.1,by omega⟩ h6 h7 h5) c F.err (F.dT G hd))
 |nX loc q ref =>
  obtain⟨h1,h2,h3⟩:=ok;obtain⟨c,F⟩:=adS G hd h1 h2 h3;exact fin rfl F (adQ (afP h1 h2 h3) c F.err (F.dT G hd))
set_option maxRecDepth 100000
namespace L3
theorem yL {F:bH→Prop} {S T:bH} {o:O3} {row:List Int} {l:List (List Int)} (G:Gn S) (hd:S.done≤1000) (ok:abn S.aH.length S.weights.length o) (hrow:o.av=.agg (row.map AV.i++[.emp])) (h:do3 S o=(T,0))
  (k:Gn { T with done:=1+T.done }→Rest F { T with done:=1+T.done } l):Rest F S (row::l):=by
 obtain⟨c,s⟩:=afR G (by omega) ok
 have e:lI S (do3 S o)=({ T with done:=1+T.done },0):=by unfold lI;rw[h];rfl
 rw[e]at c s;rw[hrow]at c;exact⟨_,c,k s.gn⟩
theorem FD {v n:Int} (hn:1≤n∧n≤10000) (hv:-10000≤v∧v≤10000):cV v n n=v:=by
 unfold cV;have hi:kE v=true:=dW.2 ⟨by omega,by omega⟩
 rw[if_neg (by rw[hi];simp;omega)]
 split
 ·rw[Int.mul_ediv_cancel _ (by omega)];omega
 ·rw[Int.mul_ediv_cancel _ (by omega)]
theorem yQ {v q n:Int} (hq:0≤q∧q≤n) (hn:1≤n∧n≤10000) (hv:0≤v∧v≤10000):0≤cV v q n∧cV v q n≤v:=by
 unfold cV;have hi:kE v=true:=dW.2 ⟨by omega,by omega⟩
 rw[if_neg (by rw[hi];simp;omega),if_neg (by omega)]
 have h1:v*q≤v*n:=Int.mul_le_mul_of_nonneg_left hq.2 hv.1
 have h2:0≤v*q:=Int.mul_nonneg hv.1 hq.1
 refine⟨Int.ediv_nonneg h2 (by omega),?_⟩
 have:=Int.ediv_le_ediv (show 0<n by omega) h1
 rwa[Int.mul_ediv_cancel _ (by omega)]at this
def aj2 (t:wX):Prop:=t.item=0∧t.lS=0∧t.value=0∧t.cN=0
structure Tot (b:Nat→List Int) (x0 x12 asked:Int):Prop where
 t0:Tt b 0=x0
 t12:Tt b 12=x12
 t5:Tt b 5=0
 tm:Tt b 13+Tt b 14=0
 ts:Tt b 15+Tt b 16=-asked
structure Inv (n p pr:Int) (i:Nat) (S:bH) (b r:Nat→List Int) (P:Nat→List bB) (rc:List yF) (tr:List wX) (d:Int):Prop where
 s:S=st b r P rc tr d
 gn:Gn S
 bk:PO (200000*(i+1)) b r
 d1:0≤d∧d≤2*i+1
 tl:tr.length=i
 here:P (i%3)=[⟨n,pr,pr-p⟩]
 none:∀j,j<3→j≠i%3→P j=[]
 tg:∀t∈tr,aj2 t
 xA:Tot b pr 0 (pr-p)
structure agp (n p pr:Int) (S:bH):Prop where
 ex:∃(b r:Nat→List Int) (P:Nat→List bB) (rc:List yF) (tr:List wX) (d:Int) (j:Nat) (q v s x0 x12:Int),S=st b r P rc tr d∧Gn S∧PO 2000000 b r∧tr.length≤6∧j<3∧(∀k,k<3→k≠j→P k=[])∧(P j=[]∧q=0∧v=0∧s=0∨P j=[⟨q,v,s⟩])∧(0≤q∧q≤10000)∧(0≤v∧v≤10000)∧(-10000≤s∧s≤10000) ∧
  Tot b x0 x12 (pr-p)∧x0+x12=pr∧(∀t∈tr,t.item=0∧(0≤t.lS∧t.lS≤10000)∧(-10000≤t.value∧t.value≤10000)∧(-10000≤t.cN∧t.cN≤10000))∧q+(tr.map (·.lS)).sum=n∧v+(tr.map (·.value)).sum=pr∧s+(tr.map (·.cN)).sum=pr-p
theorem ajr {l:List wX} (h:∀t∈l,aj2 t):(l.map (·.lS)).sum=0∧(l.map (·.value)).sum=0∧(l.map (·.cN)).sum=0:=by
 induction l with
 |nil=>simp
 |cons t l ih =>
  obtain⟨-,h1,h2,h3⟩:=h t List.mem_cons_self;obtain⟨i1,i2,i3⟩:=ih fun u hu=>h u (List.mem_cons_of_mem _ hu)
  simp only[List.map_cons,List.sum_cons];omega
section
variable {n p pr pr':Int} {i:Nat} {S:bH} {b r:Nat→List Int} {P:Nat→List bB} {rc:List yF} {tr:List wX} {d:Int} {F:bH→Prop} {l:List (List Int)}
theorem Inv.fin (h:Inv n p pr i S b r P rc tr d) (hi:i≤6) (hn:1≤n∧n≤50) (hp:0≤p∧p≤pr) (hpr:pr≤10000):agp n p pr S:=by
 obtain⟨s0,s1,s2⟩:=ajr h.tg;have tl:=h.tl;refine⟨b,r,P,rc,tr,d,i%3,n,pr,pr-p,pr,0,h.s,h.gn,⟨h.bk.bl,fun j a ha=>by have:=h.bk.bb j a ha;omega,h.bk.rl,fun j v hv=>by have:=h.bk.rb j v hv;omega⟩,by omega,by omega,h.none,.inr h.here,by omega,by omega,by omega,h.xA,by omega,?_,by omega,by omega,by omega⟩
 intro t ht;obtain⟨g0,g1,g2,g3⟩:=h.tg t ht;omega
theorem aeZ (h:Inv n p pr i S b r P rc tr d) (hi:i<6) (hn:1≤n∧n≤50) (hp:0≤p∧p≤pr) (h1:pr≤pr') (h2:pr'≤10000) :
  ∃b' r',do3 S (.I5 ((i%3:Nat):Int) 0 0 (((1+i)%3:Nat):Int) n pr')=(st b' r' (up P (i%3) []) rc (tr++[⟨((i%3:Nat):Int),(((1+i)%3:Nat):Int),0,n,pr',pr'-pr+(pr-p)⟩]) d,0)∧PO (200000*(i+1)+120000) b' r'∧Tot b' 0 pr' (pr'-p):=by
 have tl:=h.tl;obtain⟨b',r',e,B,T⟩:=I5 (rc:=rc) (tr:=tr) (d:=d) (e:=i%3) (e':=(1+i)%3) (a:=pr') (by omega) (by omega) h.bk (by omega) h.here (by omega) (by omega) (by omega) (by omega) (by omega)
 obtain⟨t0,t12,t5,tm,ts⟩:=h.xA;refine⟨b',r',by rw[h.s];exact e,B,?_⟩
 have g:=fun k hk=>T k hk
 have e0:=g 0 (by omega);have e12:=g 12 (by omega);have e5:=g 5 (by omega);have e13:=g 13 (by omega);have e14:=g 14 (by omega);have e15:=g 15 (by omega);have e16:=g 16 (by omega)
 simp[fF]at e0 e12 e5 e13 e14 e15 e16
 simp only[eO,List.filter_nil,List.map_nil,List.sum_nil]at e0 e12 e5 e13 e14 e15 e16;exact⟨by omega,by omega,by omega,by omega,by omega⟩
theorem xU (h:Inv n p pr i S b r P rc tr d):∀j,j<3→up P (i%3) [] j=[]:=by
 intro j hj;unfold up;split
 ·rfl
 ·exact h.none j hj ‹_›
theorem XD {b' r':Nat→List Int} (h:Inv n p pr i S b r P rc tr d) (hi:i<6) (hn:1≤n∧n≤50) (hp:0≤p∧p≤pr) (h1:pr≤pr') (h2:pr'≤10000) (B:PO (200000*(i+1)+120000) b' r') (T:Tot b' 0 pr' (pr'-p)) {q:Int} (hq:1≤q∧q≤n) (d':Int) :
  ∃b2 r2,do3 (st b' r' (up P (i%3) []) rc (tr++[⟨((i%3:Nat):Int),(((1+i)%3:Nat):Int),0,n,pr',pr'-pr+(pr-p)⟩]) d') (.nX 0 q (i:Int))=(st b2 r2 (up (up P (i%3) []) ((1+i)%3) [⟨q,cV pr' q n,cV (pr'-p) q n⟩]) rc (tr++[⟨((i%3:Nat):Int),(((1+i)%3:Nat):Int),0,-q+n,pr'-cV pr' q n,pr'-p-cV (pr'-p) q n⟩]) d',0)∧PO (200000*(i+2)) b2 r2∧Tot b2 (cV pr' q n) (pr'-cV pr' q n) (pr'-p):=by
 have tl:=h.tl;have pv:=yQ (v:=pr') (q:=q) (n:=n) (by omega) (by omega) (by omega)
 have ps':=yQ (v:=pr'-p) (q:=q) (n:=n) (by omega) (by omega) (by omega)
 have ht:(tr++[(⟨((i%3:Nat):Int),(((1+i)%3:Nat):Int),0,n,pr',pr'-pr+(pr-p)⟩:wX)])[i]?=some ⟨((i%3:Nat):Int),(((1+i)%3:Nat):Int),0,n,pr',pr'-p⟩:=by
  rw[List.getElem?_append_right (by omega),tl,Nat.sub_self]
  simp only[List.getElem?_cons_zero,Option.some.injEq,wX.mk.injEq,true_and];omega
 obtain⟨b2,r2,e,B2,T2⟩:=nX (b:=b') (r:=r') (rc:=rc) (d:=d') (q:=q) (e:=(1+i)%3) (by omega) B (by omega) (xU h _ (by omega)) ht (by omega) rfl rfl (by omega) (by omega)
 obtain⟨t0,t12,t5,tm,ts⟩:=T;refine⟨b2,r2,?_,⟨B2.bl,fun j a ha=>by have:=B2.bb j a ha;omega,B2.rl,fun j v hv=>by have:=B2.rb j v hv;omega⟩,?_⟩
 ·rw[show do3 (st b' r' (up P (i%3) []) rc (tr++[⟨((i%3:Nat):Int),(((1+i)%3:Nat):Int),0,n,pr',pr'-pr+(pr-p)⟩]) d') (.nX 0 q (i:Int))=_ from e]
  congr 2
  rw[List.set_append_right _ _ (by omega),tl,Nat.sub_self]
  rfl
 ·have g:=fun k hk=>T2 k hk
  have e0:=g 0 (by omega);have e12:=g 12 (by omega);have e5:=g 5 (by omega);have e13:=g 13 (by omega);have e14:=g 14 (by omega);have e15:=g 15 (by omega);have e16:=g 16 (by omega)
  simp[fF]at e0 e12 e5 e13 e14 e15 e16
  simp only[eO,List.filter_nil,List.map_nil,List.sum_nil]at e0 e12 e5 e13 e14 e15 e16;exact⟨by omega,by omega,by omega,by omega,by omega⟩
end
end L3
end
section
open Mc
set_option maxRecDepth 100000
namespace L3
section
variable {n p:Int} {F:bH→Prop}
theorem abN (i:Nat) (a:Int):(O3.I5 ((i%3:Nat):Int) 0 0 (((1+i)%3:Nat):Int) n a).av=.agg ((Tp i n a).map AV.i++[.emp]):=by
 unfold Tp;have c1:((i%3:Nat):Int)=(i:Int)%3:=by omega
 have c2:(((1+i)%3:Nat):Int)=(1+(i:Int))%3:=by omega
 rw[c1,c2];rfl
theorem ae0 (i:Nat) {a:Int} (hn:1≤n∧n≤50) (ha:0≤a∧a≤10000):abn 3 1 (.I5 ((i%3:Nat):Int) 0 0 (((1+i)%3:Nat):Int) n a):=by
 refine⟨⟨by omega,by omega⟩,⟨by omega,by omega⟩,⟨by omega,by omega⟩,⟨by omega,by omega⟩,by omega,⟨by omega,by omega⟩,⟨by omega,by omega⟩⟩
theorem rounds {z:List Int} {kk:Int} (hn:1≤n∧n≤50) (hp:0≤p∧p≤4999) (hk:0≤kk∧kk≤n) (hF:∀S,agp n p (oC p z (min 6 z.length)) S→F S):∀(m i:Nat) {S:bH} {b r:Nat→List Int} {P:Nat→List bB} {rc:List yF} {tr:List wX} {d:Int},
  Inv n p (oC p z i) i S b r P rc tr d→i+m=min 6 z.length→Rest F S ((List.range' i m).flatMap fun j=>xG z.length n kk (oC p z (j+1)) j)
 |0,i,S,b,r,P,rc,tr,d,h,hm=>by
  have hb:=CA p z i;have e:oC p z (min 6 z.length)=oC p z i:=by rw[←hm];rfl
  rw[e]at hF;exact hF S (h.fin (by omega) hn (by omega) (by omega))
 |m+1,i,S,b,r,P,rc,tr,d,h,hm=>by
  have hi:i<6:=by omega
  have hb:=CA p z i;have hb1:=CA p z (i+1)
  have hstep:oC p z i≤oC p z (i+1):=by
   obtain⟨v,hv⟩:∃v,z[i]?=some v:=⟨_,List.getElem?_eq_getElem (by omega)⟩
   rw[Fu hv];have:=Int.emod_nonneg v (show(300:Int)≠0 by decide)
   omega
  obtain⟨b1,r1,e1,B1,T1⟩:=aeZ h hi hn (by omega) hstep (by omega)
  have hS:=h.s;have g0:=h.gn;have hd:=h.d1;have tl:=h.tl;rw[List.range'_succ,List.flatMap_cons];unfold xG;rw[List.cons_append];refine yL g0 (by rw[hS];show d≤1000;omega) (by rw[hS];exact ae0 i hn (by omega)) (abN i _) e1 ?_
  intro g1;by_cases hl:Ou z.length i=true
  ·rw[if_pos hl]
   have hm0:m=0:=by
    unfold Ou at hl;rw[decide_eq_true_eq]at hl;omega
   subst hm0;have e:oC p z (min 6 z.length)=oC p z (i+1):=by rw[←hm]
   rw[e]at hF;rw[List.range'_zero,List.flatMap_nil,List.append_nil];obtain⟨s0,s1,s2⟩:=ajr h.tg;by_cases hk0:kk=0
   ·rw[if_pos hk0]
    refine hF _ ⟨b1,r1,up P (i%3) [],rc,tr++[⟨((i%3:Nat):Int),(((1+i)%3:Nat):Int),0,n,oC p z (i+1),oC p z (i+1)-oC p z i+(oC p z i-p)⟩],1+d,0,0,0,0,0,_,rfl,g1,⟨B1.bl,fun j a ha=>by have:=B1.bb j a ha;omega,B1.rl,fun j v hv=>by have:=B1.rb j v hv;omega⟩,by simp;omega,by omega,fun k hk _=>xU h k hk,.inl ⟨xU h 0 (by omega),rfl,rfl,rfl⟩,by omega,by omega,by omega,T1,by omega,?_,?_,?_,?_⟩
    ·intro t ht
     rcases List.mem_append.1 ht with ht|ht
     ·obtain⟨q0,q1,q2,q3⟩:=h.tg t ht
      omega
     ·rw[List.mem_singleton]at ht;subst ht
      simp only
      refine⟨trivial,by omega,by omega,by omega⟩
    ·rw[List.map_append,List.sum_append,s0];simp
    ·rw[List.map_append,List.sum_append,s1];simp
    ·rw[List.map_append,List.sum_append,s2];simp;omega
   ·rw[if_neg hk0]
    obtain⟨b2,r2,e2,B2,T2⟩:=XD h hi hn (by omega) hstep (by omega) B1 T1 (q:=kk) (by omega) (1+d)
    have pv:=yQ (v:=oC p z (i+1)) (q:=kk) (n:=n) (by omega) (by omega) (by omega)
    have ps':=yQ (v:=oC p z (i+1)-p) (q:=kk) (n:=n) (by omega) (by omega) (by omega)
    refine yL g1 (show 1+d≤1000 by omega) (show abn 3 1 (.nX 0 kk (i:Int))from⟨⟨by omega,by omega⟩,⟨by omega,by omega⟩,⟨by omega,by omega⟩⟩) rfl e2 ?_
    intro g2;refine hF _ ⟨b2,r2,_,rc,tr++[⟨((i%3:Nat):Int),(((1+i)%3:Nat):Int),0,-kk+n,oC p z (i+1)-cV (oC p z (i+1)) kk n,oC p z (i+1)-p-cV (oC p z (i+1)-p) kk n⟩],1+(1+d),(1+i)%3,kk,cV (oC p z (i+1)) kk n,cV (oC p z (i+1)-p) kk n,_,_,rfl,g2,⟨B2.bl,fun j a ha=>by have:=B2.bb j a ha;omega,B2.rl,fun j v hv=>by have:=B2.rb j v hv;omega⟩,by simp;omega,by omega,?_,.inr (by simp[up]),by omega,by omega,by omega,T2,by omega,?_,?_,?_,?_⟩
    ·intro k hk hne
     unfold up;rw[if_neg hne];exact xU h k hk
    ·intro t ht
     rcases List.mem_append.1 ht with ht|ht
     ·obtain⟨q0,q1,q2,q3⟩:=h.tg t ht
      omega
     ·rw[List.mem_singleton]at ht;subst ht
      simp only
      refine⟨trivial,by omega,by omega,by omega⟩
    ·rw[List.map_append,List.sum_append,s0];simp;omega
    ·rw[List.map_append,List.sum_append,s1];simp;omega
    ·rw[List.map_append,List.sum_append,s2];simp;omega
  ·rw[if_neg hl]
   have hm0:m≠0:=by
    intro h0;apply hl
    unfold Ou;rw[decide_eq_true_eq];omega
   obtain⟨b2,r2,e2,B2,T2⟩:=XD h hi hn (by omega) hstep (by omega) B1 T1 (q:=n) (by omega) (1+d)
   rw[FD (by omega) (by omega),FD (by omega) (by omega)]at e2
   rw[FD (by omega) (by omega)]at T2
   refine yL g1 (show 1+d≤1000 by omega) (show abn 3 1 (.nX 0 n (i:Int))from⟨⟨by omega,by omega⟩,⟨by omega,by omega⟩,⟨by omega,by omega⟩⟩) rfl e2 ?_
   intro g2;refine rounds hn hp hk hF m (i+1) (b:=b2) (r:=r2) (d:=1+(1+d)) (tr:=tr++[⟨((i%3:Nat):Int),(((1+i)%3:Nat):Int),0,-n+n,oC p z (i+1)-oC p z (i+1),oC p z (i+1)-p-(oC p z (i+1)-p)⟩]) ⟨rfl,g2,?_,by omega,by simp;omega,?_,?_,?_,?_⟩ (by omega)
   ·rw[show(200000*(((i+1:Nat):Int)+1))=200000*((i:Int)+2)by omega];exact B2
   ·rw[show(i+1)%3=(1+i)%3 by omega];simp[up]
   ·intro j hj hne
    unfold up;rw[if_neg (by omega)]
    exact xU h j hj
   ·intro t ht
    rcases List.mem_append.1 ht with ht|ht
    ·exact h.tg t ht
    ·rw[List.mem_singleton]at ht;subst ht
     exact⟨rfl,by show -n+n=0;omega,by show _-_=(0:Int);omega,by show _-_=(0:Int);omega⟩
   ·rw[show oC p z (i+1)-oC p z (i+1)=0 by omega]at T2;exact T2
abbrev start:bH:=st (fun _=>List.replicate 17 0) (fun _=>List.replicate 11 0) (fun _=>[]) [] [] 0
theorem abG:Gn start:=by
 have ok:∀x∈start.aH,∀ms:List Int,GP 1 ms x.toEntC∧x.ahead=[]∧aj5 x.sh:=by
  intro x hx ms;have:x=OS 1:=by
   simp only[start,st,List.mem_cons,List.not_mem_nil,or_false]at hx;rcases hx with rfl|rfl|rfl<;>rfl
  subst this;exact⟨afJ 1 ms,rfl,⟨rfl,fun y hy=>absurd hy List.not_mem_nil⟩⟩
 refine{ hn:=by decide,hw:=by decide,GR:=rfl,DB:=rfl,AO:=?_,uF:=?_,mb:=?_,cb:=?_,bU:=?_,ahead:=?_,rcl:=by decide,Tu:=by decide,GY:=by decide,rcb:=?_,Tv:=?_,trb:=?_,d0:=by decide,al:=?_,pb:=?_ }
 ·intro r hr;simp[start,st]at hr;subst hr;rfl
 ·intro r hr;simp[start,st]at hr;subst hr;rfl
 ·intro r hr v hv;simp[start,st]at hr;subst hr;simp at hv;omega
 ·intro r hr v hv;simp[start,st]at hr;subst hr;simp at hv;omega
 ·intro e x hx;exact(ok x (List.mem_of_getElem? hx) _).1
 ·intro x hx e _ y hy;rw[(ok x hx []).2.1]at hy;exact absurd hy List.not_mem_nil
 ·intro x hx;exact absurd hx List.not_mem_nil
 ·intro x hx;exact absurd hx List.not_mem_nil
 ·intro x hx;exact absurd hx List.not_mem_nil
 ·intro x hx;exact(ok x hx []).2.2
 ·intro x hx;exact absurd hx List.not_mem_nil
theorem aee {z:List Int} {kk:Int} (hn:1≤n∧n≤50) (hp:0≤p∧p≤4999) (hk:0≤kk∧kk≤n) (hF:∀S,agp n p (oC p z (min 6 z.length)) S→F S):Rest F start (MQ n p kk z (min 6 z.length)):=by
 have B0:PO 0 (fun _=>List.replicate 17 0) (fun _=>List.replicate 11 0):=by
  refine⟨fun _=>by simp,fun _ a ha=>?_,fun _=>by simp,fun _ v hv=>?_⟩
  ·simp only[List.getD,List.getElem?_replicate,if_pos ha,Option.getD_some];omega
  ·rw[(List.mem_replicate.1 hv).2];omega
 obtain⟨b1,r1,e1,B1,T1⟩:=sM (P:=fun _=>[]) (rc:=[]) (tr:=[]) (d:=0) (n:=n) (p:=p) B0 (by omega) rfl (by simp) (by omega) (by omega)
 unfold MQ;refine yL abG (by decide) (show abn 3 1 (.sM 0 0 0 n p)from⟨⟨by omega,by omega⟩,⟨by omega,by omega⟩,⟨by omega,by omega⟩,⟨by omega,by omega⟩,⟨by omega,by omega⟩⟩) rfl (show do3 start (.sM 0 0 0 n p)=_ from e1) ?_
 intro g1;rw[List.range_eq_range'];have z0:∀k,Tt (fun _=>List.replicate 17 0) k=0:=by
  intro k;unfold Tt;simp only[List.getD,List.getElem?_replicate];split<;>rfl
 refine rounds hn hp hk hF (min 6 z.length) 0 (b:=b1) (r:=r1) (d:=1+0) (tr:=[]) ⟨rfl,g1,⟨B1.bl,fun j a ha=>by have:=B1.bb j a ha;omega,B1.rl,fun j v hv=>by have:=B1.rb j v hv;omega⟩,by omega,rfl,?_,?_,fun t ht=>absurd ht List.not_mem_nil,?_⟩ (by omega)
 ·have:oC p z 0=p:=by simp[oC]
  rw[this,show p-p=0 by omega];rfl
 ·intro j hj hne;unfold up;rw[if_neg hne]
 ·have g:=fun k hk=>T1 k hk
  have e0:=g 0 (by omega);have e12:=g 12 (by omega);have e5:=g 5 (by omega);have e13:=g 13 (by omega);have e14:=g 14 (by omega);have e15:=g 15 (by omega);have e16:=g 16 (by omega)
  rw[z0]at e0 e12 e5 e13 e14 e15 e16;simp[fF]at e0 e12 e5 e13 e14 e15 e16
  simp only[eO,List.filter_nil,List.map_nil,List.sum_nil]at e0 e12 e5 e13 e14 e15 e16;have:oC p z 0=p:=by simp[oC]
  rw[this];exact⟨by omega,by omega,by omega,by omega,by omega⟩
end
end L3
end
section
open Mc
set_option maxRecDepth 1000000
def oE (S:bH):Nat→bH
 |0=>S
 |j+1=>(iR (oE S j) (j:Int)).1
namespace CD
abbrev dF (i:AV):List AV:=fr 18 [(1,.ptr 10 0 0 0),(2,.ptr 10 1 0 0),(3,i)]
abbrev dB (S:bH):List Mc.bY:=[GO.sR S,.cells 31 10 ZB]
noncomputable def body:Code:=(Tryz.f9).body.getD .skip
abbrev agK (c:Code) (r:Option (RT Out)):Prop:=AK { vars:=[(0,4)],lens:=W2 } c (V9++List.replicate 17 .undef) [] [some 0,some 1] (dF (.i 0)) KM r
noncomputable def HG:Option (RT Out):=Nm { vars:=[(0,4)],lens:=W2 } body (V9++List.replicate 17 .undef:List AV).length (V9++List.replicate 17 .undef) [] 0
theorem ajq:agK body HG:=⟨by unfold HG;rfl,by decide +kernel,by decide +kernel⟩
abbrev acO (c:Code):Prop:=fL { vars:=[(0,4),(0,3)],facts:=Vh,lens:=W2,bT:=[(30,U5,(.aZ [(.agg QG),.o 6]))] } c (dF (.v 1)) KM 0 [some 0,some 1] (dF Wd) [(.cells 31 10 [QG]),QH]
theorem ajp:acO (aF HG):=⟨_,rfl,by decide +kernel,by decide +kernel⟩
abbrev agJ (c:Code):Prop:=fL { vars:=[(0,4)],lens:=W2 } c (dF (.v 0)) KM 2 [some 0,some 1] (dF (.v 0)) KM
theorem ajo:agJ (aF HG):=⟨_,rfl,by decide +kernel,by decide +kernel⟩
abbrev acN (o:Option (RT Out)):Prop:=rT { vars:=[(0,4)],lens:=W2 } Tryz.f9 o 0 (dF (.v 0)) KM (Wu)
theorem ajn:acN HG:=⟨_,rfl,by decide +kernel,by decide +kernel,by kernel_rfl⟩
section
variable {A:Nat→Prop} {w0:World} {a0:Act}
theorem fin {o:Option (RT Out)} (rr:acN o) {S:bH} (hne:S.aH.length≤4) (mm:Nat→St) (w:World) (a:Act) (pr:@eU dI dN A w0 a0 mm w a (dF (.i (S.aH.length:Int))) (eZ (dB S))):KS Tryz.prog (oK o) (Fin Tryz.prog Tryz.f9 A w0 a0 S.av) (AX.exit 0).to a w :=
 rr.go (ev1 _ [(S.aH.length:Int)] [.I S.aB,.I S.aD,.I S.done] (sT S []) .nil) (xK kn) pr
theorem round {o:Option (RT Out)} (rR:acO (aF o)) {S T:bH} {f:Int} {j:Nat} (hne:S.aH.length≤4) (hj:j<S.aH.length) (cC:Ck 30 [S.av,.i (j:Int)] (.aZ [T.av,.i f])) {Φ:jA}
  (kk:∀mm w a,@eU dI dN A w0 a0 mm w a (dF (.i (1+(j:Int)))) (eZ (dB T))→Φ (AX.normal).to a w)
  (mm:Nat→St) (w:World) (a:Act) (pr:@eU dI dN A w0 a0 mm w a (dF (.i (j:Int))) (eZ (dB S))):(aF o).wpIn (fw none) 9 Tryz.prog Φ a w :=
 rR.go (ev1 _ [(S.aH.length:Int),(j:Int)] [.I S.aB,.I S.aD,.I S.done,.I T.aB,.I T.aD,.I T.done,.I f] (sT S (sT T [])) .nil) (xK (kc cC kn)) pr (fd:=dF (.i (1+(j:Int)))) (bd:=dB T) kk
end
theorem walk (oA:Option (RT Out)) (rA:agK body oA) (rR:acO (aF oA)) (rX:agJ (aF oA)) (rr:acN oA) {S:bH} (G:Gn S) (hw1:1≤S.weights.length) (hp:S.aD≤12) :
  Ck 9 [S.av] (oE S S.aH.length).av:=by
 have hne:=G.hn;refine CK.jJ Tryz.func9 (c:=body) (by kernel_rfl) (EE.out) (GQ.out) fun A w0 a0=>?_
 intro mm w a pr;rw[Tryz.ntmps9]at pr;refine rA.go (ev1 _ [(S.aH.length:Int)] [.I S.aB,.I S.aD,.I S.done] (sT S []) .nil) (xK kn) pr (fd:=dF (.i 0)) (bd:=dB S) ?_
 intro mm w a pr;refine eA (fun n a w=>∃(j:Nat) (T:bH),n=S.aH.length-j∧j≤S.aH.length∧T=oE S j∧Gn T∧T.aH.length=S.aH.length∧T.weights=S.weights∧∃mm,@eU dI dN A w0 a0 mm w a (dF (.i (j:Int))) (eZ (dB T))) ?_ (n:=S.aH.length) ⟨0,S,rfl,Nat.zero_le _,rfl,G,rfl,rfl,_,pr⟩
 clear pr;rintro n a w ⟨j,T,rfl,hj,hT,GT,hTl,hTw,mm,pr⟩
 have hne:=GT.hn;rcases(by omega:j=S.aH.length∨j<S.aH.length)with hje|hlt
 ·subst hje
  rw[←hT];clear hT;rw[←hTl]at pr;refine rX.go (ev1 _ [(T.aH.length:Int)] [.I T.aB,.I T.aD,.I T.done] (sT T []) .nil) (xK kn) pr ?_
  intro mm w a pr;exact fin rr hne mm w a pr
 ·have X:Ix T (j:Int) 0:=⟨by omega,by omega,by omega,by rw[hTw];omega⟩
  have cC:=O7 GT (by rw[hTw];exact hw1) X
  have F:=Gj GT X;obtain⟨⟨U,f⟩,hU⟩:∃r,r=iR T (j:Int):=⟨_,rfl⟩
  have hTU:U=oE S (j+1):=by show _=(iR (oE S j) (j:Int)).1;rw[←hT,←hU]
  rw[←hU]at cC F;refine round rR hne (by omega) cC ?_ mm w a pr
  intro mm w a pr;rw[show(1+(j:Int))=((j+1:Nat):Int)by omega]at pr
  exact⟨_,by omega,j+1,U,rfl,by omega,hTU,F.1,by have:=F.le;exact this.trans hTl,by have:=F.wt;exact this.trans hTw,mm,pr⟩
end CD
theorem aa1 {S:bH} (G:Gn S) (hw1:1≤S.weights.length) (hp:S.aD≤12):Ck 9 [S.av] (oE S S.aH.length).av:=CD.walk CD.HG CD.ajq CD.ajp CD.ajo CD.ajn G hw1 hp
end
end Go.Proofs.YtnepgggkgnckcaaGreat
