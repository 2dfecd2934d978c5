/-
 The document's own plain voucher. Its walk.
-/
import Derived.Test.YtjccjmmbebiegaaVou9
import Derived.Test.YtjccjmmbebiegaaVouS
import Derived.Test.YtjccjmmbebiegaaVouA
set_option linter.unusedVariables false
set_option linter.unusedSimpArgs false
namespace Go.Proofs.Ytjccjmmbebiegaa
open Go.RowKit
theorem getD_set_self {l:List Int} {i:Nat} {v:Int} (h:i<l.length):(l.set i v).getD i 0=v:=by
 rw[List.getD_eq_getElem?_getD,List.getElem?_set_self h];rfl
theorem getD_set_other {l:List Int} {i j:Nat} {v:Int} (h:i≠j):(l.set i v).getD j 0=l.getD j 0:=by
 rw[List.getD_eq_getElem?_getD,List.getElem?_set_ne h,←List.getD_eq_getElem?_getD]
def haveL (P:List Lin):List Int:=(List.range 17).map fun(a:Nat)=>sumV (accA P (a:Int))
theorem haveL_len (P:List Lin):(haveL P).length=17:=by simp[haveL]
theorem haveL_get (P:List Lin) {a:Nat} (h:a<17):(haveL P).getD a 0=sumV (accA P (a:Int)):=by simp[haveL,List.getD_eq_getElem?_getD,h]
def Sound (P:List Lin):Prop:=∀a:Nat,a<17→sumGo 0 (accA P (a:Int))=some ((haveL P).getD a 0)
theorem Sound.nil:Sound []:=fun a h=>by rw[haveL_get _ h];rfl
theorem Sound.more {P:List Lin} {x:Lin} (h:Sound P) (h0:0≤x.a) (h1:x.a<17) (ho:addOk ((haveL P).getD x.a.toNat 0) x.n=true) :
  Sound (P++[x])∧haveL (P++[x])=(haveL P).set x.a.toNat ((haveL P).getD x.a.toNat 0+x.n):=by
 have hN:(x.a.toNat:Int)=x.a:=Int.toNat_of_nonneg h0
 have hg:sumGo 0 (accA (P++[x]) x.a)=some ((haveL P).getD x.a.toNat 0+x.n):=by
  have:=h x.a.toNat (by omega)
  rw[hN]at this
  rw[accA_snoc,if_pos rfl,sumGo_snoc' _ _ _ this,ho]
  rfl
 have key:∀a:Nat,a<17→sumGo 0 (accA (P++[x]) (a:Int))=some (((haveL P).set x.a.toNat ((haveL P).getD x.a.toNat 0+x.n)).getD a 0):=by
  intro a ha
  by_cases e:x.a.toNat=a
  ·subst e
   rw[hN,hg,getD_set_self (by rw[haveL_len];omega)]
  ·rw[accA_snoc,if_neg (by omega),h a ha,getD_set_other e]
 have e:haveL (P++[x])=(haveL P).set x.a.toNat ((haveL P).getD x.a.toNat 0+x.n):=by
  apply List.ext_getElem
  ·rw[haveL_len,List.length_set,haveL_len]
  ·intro i h2 h3
   have hi:i<17:=by rw[haveL_len]at h2;exact h2
   have k:=key i hi
   have g:=haveL_get (P++[x]) hi
   rw[(sumV_some k).1]at g
   rw[List.getD_eq_getElem?_getD,List.getElem?_eq_getElem h2,List.getD_eq_getElem?_getD,List.getElem?_eq_getElem h3]at g
   exact g
 exact⟨fun a ha=>by rw[e];exact key a ha,e⟩
theorem Sound.stop {l:List Lin} {j:Nat} {x:Lin} (h:Sound (l.take j)) (hx:l[j]?=some x) (hb:l.any badP=false) (ho:addOk ((haveL (l.take j)).getD x.a.toNat 0) x.n=false):plainS l=([],2):=by
 obtain⟨h0,h1,-⟩:=good_of hb (List.mem_of_getElem? hx)
 refine plain_big (a:=x.a) hb (Stab.refl l) ⟨h0,h1⟩ ?_
 have hN:(x.a.toNat:Int)=x.a:=Int.toNat_of_nonneg h0
 have hs:=h x.a.toNat (by omega)
 rw[hN]at hs
 have e2:l.take (j+1)=l.take j++[x]:=by rw[List.take_add_one,hx];rfl
 have h3:sumGo 0 (accA (l.take (j+1)) x.a)=none:=by
  rw[e2,accA_snoc,if_pos rfl,sumGo_snoc' _ _ _ hs,ho];rfl
 have h4:accA l x.a=accA (l.take (j+1)) x.a++accA (l.drop (j+1)) x.a:=by
  conv=>lhs;rw[←List.take_append_drop (j+1) l]
  unfold accA amts
  rw[List.filter_append,List.map_append]
 rw[h4,sumGo_append,h3]
 rfl
def lineL (l:List Lin) (k:Nat):List Lin:=((List.range k).map fun(a:Nat)=>(⟨(a:Int),(haveL l).getD a 0⟩:Lin)).filter fun x=>!zeroN x
theorem Sound.plain {l:List Lin} (h:Sound l) (hb:l.any badP=false):plainS l=(lineL l 17,0):=by
 have hE:(List.range 17).any (fun(a:Nat)=>decide (sumE (accA l (a:Int))≠0))=false:=by
  rw[List.any_eq_false]
  intro a ha
  have:=(sumV_some (h a (List.mem_range.1 ha))).2
  simp[this]
 unfold plainS
 rw[hb,hE]
 simp only[Bool.false_eq_true,if_false,Prod.mk.injEq,and_true]
 unfold lineL
 have e:((List.range 17).map fun(a:Nat)=>(⟨(a:Int),sumV (accA l (a:Int))⟩:Lin))=(List.range 17).map fun(a:Nat)=>(⟨(a:Int),(haveL l).getD a 0⟩:Lin):=List.map_congr_left fun a ha=>by
  rw[haveL_get _ (List.mem_range.1 ha)]
 rw[e]
end Go.Proofs.Ytjccjmmbebiegaa
