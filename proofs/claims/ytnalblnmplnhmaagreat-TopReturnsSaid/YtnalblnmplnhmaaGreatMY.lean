/-
 A machine of plain data beside the model: known calls of several numbers; a contract where less is known of an argument. No program in sight.
-/
import Derived.Test.YtnalblnmplnhmaaGreatMX
set_option linter.unusedVariables false
set_option linter.unusedSimpArgs false
namespace Go.Proofs.YtnalblnmplnhmaaGreat.Mc
open Go.RowKit
theorem CK.weakA {P:Program} (b:Bk) (ev:@Ev b) {k:FuncId} {xs ys zs:List AV} {r:AV} (h:CK P k zs r) (ez:ys.map (@den b ev 12)=zs) (hle:eqL (@avLe b 16) xs ys=true) (hn:xs.all (fun x=>namB 12 x&&noUps 12 x)=true):CK P k (xs.map (@den b ev 12)) r:=by
 subst ez
 have hcl:∀x∈xs,Cl (@den b ev 12 x):=fun x hx=>by
  have:=List.all_eq_true.1 hn x hx
  rw[Bool.and_eq_true]at this
  exact @den_cl b ev 12 x this.1
 refine⟨?_,h.res,?_⟩
 ·intro y hy
  obtain⟨x,hx,rfl⟩:=List.mem_map.1 hy
  exact hcl x hx
 ·intro A w vs hA hG hl hv
  obtain⟨e1,e2⟩:=eqL_get hle
  refine h.ok A w vs hA hG (by simpa[e1]using hl) ?_
  intro i y hy
  rw[List.getElem?_map]at hy
  obtain⟨y0,hy0,rfl⟩:=Option.map_eq_some_iff.1 hy
  obtain⟨x,hx,hxy⟩:=e2 i y0 hy0
  have h1:=hv i (@den b ev 12 x) (by rw[List.getElem?_map,hx];rfl)
  have hm:=List.mem_of_getElem? hx
  have hn':=List.all_eq_true.1 hn x hm
  rw[Bool.and_eq_true]at hn'
  have h2:=RdL.cl (b2:=b) (e2:=ev) (hcl x hm) h1
  have h3:=@RdL.to_den b ev A w 12 x _ hn'.2 h2
  have h4:=@avLe_ok b ev A w 16 x y0 _ hxy h3
  have h5:=@RdL.of_den b ev A w 12 y0 _ h4
  exact RdL.cl (b2:=bk0) (e2:=ev0) (h.args _ (List.mem_map.2 ⟨y0,List.mem_of_getElem? hy0,rfl⟩)) h5
end Go.Proofs.YtnalblnmplnhmaaGreat.Mc
