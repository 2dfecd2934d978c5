/-
 What strings.ContainsRune says of ASCII texts and letters, what the operations' bounds are: as known calls.
-/
import Derived.Test.YtjccjmmbebiegaaM15
import Derived.Test.YtjccjmmbebiegaaBase
import Derived.Test.YtjccjmmbebiegaaProg
import Derived.Lib.Strings
import Derived.Lib.Slices
import Derived.Lib.Walk
import Derived.RegionTactic
import Derived.Deep.Cut
import Derived.Lib.Bytealg
set_option linter.unusedVariables false
set_option linter.unusedSimpArgs false
namespace Go.Proofs.Ytjccjmmbebiegaa
open Go.RowKit Mc
theorem vals_eq [Bk] [Ev] {A:Nat→Prop} {w:World} {us:Array Value} {vs:List Value} (hl:us.size=(vs.map AV.c).length) (hv:∀(i:Nat) (x:AV),(vs.map AV.c)[i]?=some x→RdL A w x (us.getD i Go.undef)):us=vs.toArray:=by
 apply Array.ext'
 apply List.ext_getElem?
 intro i
 by_cases hi:i<vs.length
 ·have h2:=hv i (.c vs[i]) (by simp[hi])
  cases hx:us.toList[i]? with
  |none=>simp at hx hl;omega
  |some u =>
   have:us.getD i Go.undef=u:=by
    rw[Array.getElem?_toList]at hx
    rw[Array.getD_eq_getD_getElem?,hx];rfl
   rw[this]at h2
   cases h2
   simp[hi]
 ·have h1:us.toList[i]?=none:=by simp at hl ⊢;omega
  rw[h1];simp;omega
theorem kn_c [Bk] [Ev] {k:FuncId} {vs:List Value} {r:Value} (hc:∀w,Calls Try.prog k vs.toArray w fun e w'=>e=.returned r∧Below w.heap.size w w'):KnOk Try.prog k (vs.map .c) (.c r):=by
 intro A w us hA hG hl hv
 have e:=vals_eq hl hv
 subst e
 refine(hc w).mono ?_
 rintro e w' ⟨rfl,hb⟩
 exact⟨_,rfl,.c _,hb⟩
theorem kn_ct [Bk] [Ev] {k:FuncId} {vs rs:List Value} (hc:∀w,Calls Try.prog k vs.toArray w fun e w'=>e=.returned (.tuple rs.toArray)∧Below w.heap.size w w') (_:rs.length≠1):KnOk Try.prog k (vs.map .c) (.tup (rs.map .c)):=by
 intro A w us hA hG hl hv
 have e:=vals_eq hl hv
 subst e
 refine(hc w).mono ?_
 rintro e w' ⟨rfl,hb⟩
 refine⟨_,rfl,.tup _ _ (by simp) fun i y hy=>?_,hb⟩
 rw[List.getElem?_map]at hy
 cases hr:rs[i]? with
 |none=>rw[hr]at hy;cases hy
 |some u =>
  rw[hr]at hy;cases hy
  have:rs.toArray.getD i Go.undef=u:=by simp[Array.getD_eq_getD_getElem?,hr]
  rw[this];exact .c _
end Go.Proofs.Ytjccjmmbebiegaa
