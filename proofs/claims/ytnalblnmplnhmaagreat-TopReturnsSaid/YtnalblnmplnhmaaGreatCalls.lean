/-
 Known calls: the law's Place, the document's MulDiv and Part, at numbers within bounds.
-/
import Derived.Test.YtnalblnmplnhmaaGreatBase
import Derived.Test.YtnalblnmplnhmaaGreatM15
set_option linter.unusedVariables false
set_option linter.unusedSimpArgs false
namespace Go.Proofs.YtnalblnmplnhmaaGreat
open Go.RowKit Mc
theorem place_b (v m:Int) (w:World) (h1:0<m) (h2:m≤1099511627776):Calls Tryz.prog 9 #[.int .i64 v,.int .i64 m] w fun e w'=>e=.returned (.int .i64 (v%m))∧Below w.heap.size w w':=by
 refine(Place_calls v m w h1 (by omega)).mono ?_
 rintro e w' ⟨rfl,rfl⟩
 exact⟨rfl,Below.refl _ _⟩
theorem pmuldiv_b {a b c q r:Int} (w:World) (ha:0≤a) (ha':a≤288230376151711744) (hb:0≤b) (hb':b≤288230376151711744) (hc:1≤c) (hc':c≤288230376151711744) (he:a*b=c*q+r) (hr:0≤r) (hr':r<c) (hq:q≤288230376151711744) :
  Calls Tryz.prog 155 #[.int .i64 a,.int .i64 b,.int .i64 c] w fun e w'=>e=.returned (.tuple #[.int .i64 q,.int .i64 r,.int .i64 0])∧Below w.heap.size w w':=by
 have d:a*b/c=q:=by rw[he,Int.mul_add_ediv_left _ _ (by omega),Int.ediv_eq_zero_of_lt hr hr'];omega
 have d':a*b%c=r:=by rw[he,Int.mul_add_emod_self_left];exact Int.emod_eq_of_lt hr hr'
 have e1:mdQ a b c=q:=by unfold mdQ;rw[if_neg (by omega),if_neg (by omega),d]
 have e2:mdR a b c=r:=by unfold mdR;rw[if_neg (by omega),if_neg (by omega),d']
 have e3:mdE a b c=0:=by unfold mdE;rw[if_neg (by omega),if_neg (by omega)]
 refine(money_MulDiv a b c w ⟨by omega,by omega⟩ ⟨by omega,by omega⟩ ⟨by omega,by omega⟩).mono ?_
 rintro e w' ⟨rfl,hb⟩
 exact⟨by rw[e1,e2,e3],hb⟩
theorem ppart_b {v q n r:Int} (w:World) (hv:0≤v) (hv':v≤288230376151711744) (hq:0≤q) (hq':q≤n) (hn:1≤n) (hn':n≤288230376151711744) (he:v*q/n=r) :
  Calls Tryz.prog 165 #[.int .i64 v,.int .i64 q,.int .i64 n] w fun e w'=>e=.returned (.int .i64 r)∧Below w.heap.size w w':=by
 have hi:inB v=true:=by rw[inB_iff];omega
 have e1:partS v q n=r:=by unfold partS;rw[if_neg (by rw[hi];simp;omega),if_neg (by omega),he]
 refine(money_Part v q n w ⟨by omega,by omega⟩ ⟨by omega,by omega⟩ ⟨by omega,by omega⟩).mono ?_
 rintro e w' ⟨rfl,hb⟩
 exact⟨by rw[e1],hb⟩
end Go.Proofs.YtnalblnmplnhmaaGreat
