/-
 Vouchers of small lines made plain. No program in sight.
-/
import Derived.Test.YtjccjmmbebiegaaVou9
set_option linter.unusedVariables false
set_option linter.unusedSimpArgs false
namespace Go.Proofs.Ytjccjmmbebiegaa
theorem sumGo_small:∀(l:List Int) (n:Int),(∀z,z∈l→-50000≤z∧z≤50000)→-(200000000-50000*(l.length:Int))≤n→n≤200000000-50000*(l.length:Int)→sumGo n l=some (n+l.sum):=by
 intro l
 induction l with
 |nil=>intro n _ _ _;simp[sumGo]
 |cons z l ih =>
  intro n hz h1 h2
  have hz0:=hz z (by simp)
  simp only[List.length_cons]at h1 h2
  have ho:addOk n z=true:=addOk_iff.2 ⟨inB_iff.2 (by omega),inB_iff.2 (by omega),inB_iff.2 (by omega)⟩
  simp only[sumGo,ho,if_true]
  rw[ih (n+z) (fun y hy=>hz y (by simp[hy])) (by omega) (by omega)]
  simp only[List.sum_cons]
  congr 1
  omega
structure SmallV (l:List Lin):Prop where
 len:l.length≤100
 acc:∀x,x∈l→0≤x.a∧x.a<17
 amt:∀x,x∈l→-50000≤x.n∧x.n≤50000
theorem sum_of {l:List Int} (hl:l.length≤100) (h:∀z,z∈l→-50000≤z∧z≤50000):sumV l=l.sum∧sumE l=0:=by
 have:=sumGo_small l 0 h (by omega) (by omega)
 rw[Int.zero_add]at this
 exact sumV_some this
theorem SmallV.app {l m:List Lin} (h:SmallV l) (g:SmallV m) (hl:l.length+m.length≤100):SmallV (l++m) :=
 ⟨by rw[List.length_append];exact hl,fun x hx=>(List.mem_append.1 hx).elim (h.acc x) (g.acc x),fun x hx=>(List.mem_append.1 hx).elim (h.amt x) (g.amt x)⟩
theorem SmallV.I {l:List Lin} (h:SmallV l):AllI (flat2 l):=flat2_of fun x hx=>by
 have a:=h.acc x hx
 have b:=h.amt x hx
 exact⟨⟨by omega,by omega⟩,⟨by omega,by omega⟩⟩
def val (l:List Lin) (a:Int):Int:=(accA l a).sum
theorem SmallV.val {l:List Lin} (h:SmallV l) (a:Int):sumV (accA l a)=val l a∧sumE (accA l a)=0:=by
 refine sum_of ?_ ?_
 ·unfold accA amts
  rw[List.length_map]
  exact Nat.le_trans (List.length_filter_le _ _) h.len
 ·intro z hz
  obtain⟨x,hx,rfl⟩:=List.mem_map.1 hz
  exact h.amt x (List.mem_filter.1 hx).1
def plainV (f:Int→Int):List Lin:=((List.range 17).map fun(a:Nat)=>(⟨(a:Int),f (a:Int)⟩:Lin)).filter (fun x=>!zeroN x)
theorem SmallV.plain {l:List Lin} (h:SmallV l):plainS l=(plainV (Go.Proofs.Ytjccjmmbebiegaa.val l),0):=by
 have h1:l.any badP=false:=by
  rw[List.any_eq_false]
  intro x hx
  have a:=h.acc x hx
  have b:=h.amt x hx
  simp[badP,isAcc_iff.2 a,inB_iff.2 (show -288230376151711744≤x.n∧x.n≤288230376151711744 by omega)]
 have h2:(List.range 17).any (fun(a:Nat)=>decide (sumE (accA l (a:Int))≠0))=false:=by
  rw[List.any_eq_false]
  intro a _
  simp[(h.val a).2]
 simp only[plainS,h1,h2]
 simp only[Bool.false_eq_true,if_false,Prod.mk.injEq,and_true]
 unfold plainV
 congr 1
 refine List.map_congr_left fun a _=>?_
 rw[(h.val a).1]
theorem SmallV.turn {l:List Lin} (h:SmallV l):turnS l=l.map fun x=>⟨x.a,-x.n⟩:=by
 refine List.map_congr_left fun x hx=>?_
 have:=h.amt x hx
 simp only[turn1,inB_iff.2 (show -288230376151711744≤x.n∧x.n≤288230376151711744 by omega),if_true]
theorem SmallV.turned {l:List Lin} (h:SmallV l):SmallV (turnS l):=by
 rw[h.turn]
 refine⟨by rw[List.length_map];exact h.len,fun x hx=>?_,fun x hx=>?_⟩
 ·obtain⟨y,hy,rfl⟩:=List.mem_map.1 hx;exact h.acc y hy
 ·obtain⟨y,hy,rfl⟩:=List.mem_map.1 hx;have:=h.amt y hy;simp only;omega
def debs (l:List Lin):Int:=(amts (l.filter fun x=>!noDeb x)).sum
theorem SmallV.tot {l:List Lin} (h:SmallV l):totL l=(debs l,0):=by
 have h1:l.any badT=false:=by
  rw[List.any_eq_false]
  intro x hx
  have b:=h.amt x hx
  simp[badT,inB_iff.2 (show -288230376151711744≤x.n∧x.n≤288230376151711744 by omega)]
 have h2:=sum_of (l:=amts (l.filter fun x=>!noDeb x)) (by unfold amts;rw[List.length_map];exact Nat.le_trans (List.length_filter_le _ _) h.len) (fun z hz=>by
  obtain⟨x,hx,rfl⟩:=List.mem_map.1 hz
  exact h.amt x (List.mem_filter.1 hx).1)
 unfold totL
 rw[h1,h2.1,h2.2]
 rfl
theorem SmallV.check {l:List Lin} (h:SmallV l) (h0:(amts l).sum=0) (hz:∀x,x∈l→x.n≠0):checkL l=(decide (1≤l.length)&&decide (l.length≤12)):=by
 have h1:l.any badC=false:=by
  rw[List.any_eq_false]
  intro x hx
  have a:=h.acc x hx
  have b:=h.amt x hx
  have c:=hz x hx
  simp[badC,isAcc_iff.2 a,c,inB_iff.2 (show -288230376151711744≤x.n∧x.n≤288230376151711744 by omega)]
 have h2:=sum_of (l:=amts l) (by unfold amts;rw[List.length_map];exact h.len) (fun z hz=>by
  obtain⟨x,hx,rfl⟩:=List.mem_map.1 hz
  exact h.amt x hx)
 unfold checkL
 rw[h1,h2.1,h2.2,h0]
 simp
end Go.Proofs.Ytjccjmmbebiegaa
