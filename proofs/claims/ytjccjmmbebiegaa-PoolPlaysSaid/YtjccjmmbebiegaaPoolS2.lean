/-
 PoolPlays: more value over layers. No program in sight.
-/
import Derived.Test.YtjccjmmbebiegaaPoolSA
set_option linter.unusedVariables false
set_option linter.unusedSimpArgs false
namespace Go.Proofs.Ytjccjmmbebiegaa
open Go.RowKit
def raiseGo (v all:Int):Int→List Lay→List Lay
 |_,[]=>[]
 |left,[x]=>[⟨x.q,x.v+left,x.p⟩]
 |left,x::y::r=>⟨x.q,x.v+partS v x.q all,x.p⟩::raiseGo v all (left-partS v x.q all) (y::r)
theorem raiseGo_len (v all:Int):∀(l:List Lay) (left:Int),(raiseGo v all left l).length=l.length
 |[],_=>rfl
 |[x],_=>rfl
 |x::y::r,left=>by simp only[raiseGo,List.length_cons];rw[raiseGo_len v all (y::r)];rfl
theorem raiseGo_qs (v all:Int):∀(l:List Lay) (left:Int),qs (raiseGo v all left l)=qs l
 |[],_=>rfl
 |[x],_=>rfl
 |x::y::r,left=>by simp only[raiseGo];rw[qs_cons,raiseGo_qs v all (y::r),qs_cons (l:=y::r)]
theorem raiseGo_aps (v all:Int):∀(l:List Lay) (left:Int),aps (raiseGo v all left l)=aps l
 |[],_=>rfl
 |[x],_=>by simp[raiseGo,aps_cons]
 |x::y::r,left=>by simp only[raiseGo];rw[aps_cons,raiseGo_aps v all (y::r),aps_cons (l:=y::r)]
theorem raiseGo_vs (v all:Int):∀(l:List Lay) (left:Int),l≠[]→vs (raiseGo v all left l)=vs l+left
 |[],_,h=>absurd rfl h
 |[x],left,_=>by simp[raiseGo,vs]
 |x::y::r,left,_=>by
  simp only[raiseGo]
  rw[vs_cons,raiseGo_vs v all (y::r) _ (by simp),vs_cons (l:=y::r)]
  simp only
  omega
theorem part_share {v q all:Int} (hv0:0≤v) (hv1:v≤288230376151711744) (hq0:0≤q) (hq:q≤all) (hall:1≤all):0≤partS v q all∧partS v q all*all≤v*q:=by
 have e:partS v q all=v*q/all:=by
  unfold partS
  rw[if_neg,if_neg (by omega)]
  have:inB v=true:=inB_iff.2 ⟨by omega,by omega⟩
  rw[this];simp;omega
 rw[e]
 exact⟨(part_bd_pos hall hq0 hq hv0).1,Int.ediv_mul_le _ (by omega)⟩
theorem raiseGo_ok {v all:Int} (hv0:0≤v) (hv1:v≤288230376151711744) (hall:1≤all):∀(l:List Lay) (left:Int),(∀x,x∈l→layOk x=true)→qs l≤all→0≤left→v*qs l≤left*all→vs l+left≤288230376151711744→∀x,x∈raiseGo v all left l→layOk x=true
 |[],_,_,_,_,_,_,x,hx=>by cases hx
 |[y],left,hok,hq,h0,hs,hV,x,hx=>by
  have hy:=layOk_iff.1 (hok y (by simp))
  simp only[raiseGo,List.mem_singleton]at hx
  subst hx
  have:vs [y]=y.v:=by simp[vs]
  rw[this]at hV
  exact layOk_iff.2 ⟨by simp only;omega,by simp only;omega,by simp only;omega,by simp only;omega,by simp only;omega,by simp only;omega⟩
 |y::z::r,left,hok,hq,h0,hs,hV,x,hx=>by
  have hy:=layOk_iff.1 (hok y (by simp))
  have hokr:∀x,x∈z::r→layOk x=true:=fun x hx=>hok x (List.mem_cons_of_mem _ hx)
  have hqr:=(qs_pos hokr).1
  have hvr:=(qs_pos hokr).2.1
  rw[qs_cons]at hq hs
  rw[vs_cons]at hV
  obtain⟨p0,p1⟩:=part_share hv0 hv1 (q:=y.q) (by omega) (by omega) hall
  have hdist:v*(y.q+qs (z::r))=v*y.q+v*qs (z::r):=Int.mul_add _ _ _
  have hvq:0≤v*qs (z::r):=Int.mul_nonneg hv0 hqr
  have hle:partS v y.q all≤left:=by
   have:partS v y.q all*all≤left*all:=by omega
   exact Int.le_of_mul_le_mul_right this (by omega)
  simp only[raiseGo]at hx
  rcases List.mem_cons.1 hx with rfl|hx
  ·exact layOk_iff.2 ⟨by simp only;omega,by simp only;omega,by simp only;omega,by simp only;omega,by simp only;omega,by simp only;omega⟩
  ·refine raiseGo_ok hv0 hv1 hall (z::r) (left-partS v y.q all) hokr (by omega) (by omega) ?_ (by omega) x hx
   have:(left-partS v y.q all)*all=left*all-partS v y.q all*all:=Int.sub_mul _ _ _
   omega
theorem raise_LR {v:Int} {l:List Lay} (h:LR l) (hl:l≠[]) (hv0:0≤v) (hV:vs l+v≤288230376151711744):LR (raiseGo v (qs l) v l):=by
 have hvs:=(qs_pos h.ok).2.1
 have hq1:1≤qs l:=by
  cases l with
  |nil=>exact absurd rfl hl
  |cons x r =>
   have:=h.at_ (x:=x) (by simp)
   have:=(qs_pos h.tail.ok).1
   rw[qs_cons];omega
 refine⟨by rw[raiseGo_len];exact h.len,raiseGo_ok hv0 (by omega) hq1 l v h.ok (Int.le_refl _) hv0 (Int.le_refl _) hV,by rw[raiseGo_qs];exact h.q,by rw[raiseGo_vs _ _ _ _ hl];exact hV,by rw[raiseGo_aps];exact h.p⟩
theorem PoolOk.raise_ {m v:Int} {l:List Lay} {d:Pnd} (h:PoolOk m l d) (hl:l≠[]) (hv0:0≤v) (hV:vs l+v≤288230376151711744):PoolOk m (raiseGo v (qs l) v l) d∧vs (raiseGo v (qs l) v l)=vs l+v:=by
 refine⟨⟨raise_LR h.lr hl hv0 hV,?_,h.a0,h.b0,h.c0,by rw[raiseGo_qs];exact h.sum,h.zero⟩,raiseGo_vs _ _ _ _ hl⟩
 rw[raiseGo_len];exact h.one
end Go.Proofs.Ytjccjmmbebiegaa
