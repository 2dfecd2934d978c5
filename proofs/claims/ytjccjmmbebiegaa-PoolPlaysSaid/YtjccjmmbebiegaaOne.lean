/-
 States of one entity and one item: a voucher posted; a part; a law's contract said of values.
-/
import Derived.Test.YtjccjmmbebiegaaPostLaw
import Derived.Test.YtjccjmmbebiegaaSt3
import Derived.Test.YtjccjmmbebiegaaTlSh
import Derived.Test.YtjccjmmbebiegaaCalls
set_option linter.unusedVariables false
set_option linter.unusedSimpArgs false
namespace Go.Proofs.Ytjccjmmbebiegaa
open Go.RowKit Mc
theorem some_of {b:List Int} {k:Nat} {v:Int} (hk:k<b.length) (h:b.getD k 0=v):b[k]?=some v:=by
 rw[List.getD,List.getElem?_eq_getElem hk]at h
 rw[List.getElem?_eq_getElem hk,←h];rfl
theorem calls_of_ck {k:FuncId} {xs:List AV} (h:CK Try.prog k xs (.c (.bool true))) (w:World) (vs:Array Value) (hl:vs.size=xs.length) (hv:∀(i:Nat) (x:AV),xs[i]?=some x→@RdL bk0 ev0 (fun _=>False) w x (vs.getD i Go.undef)):Calls Try.prog k vs w fun e w'=>e=.returned (.bool true)∧Below w.heap.size w w':=by
 refine(h.ok (fun _=>False) w vs (fun _ h=>h.elim) (fun t h=>absurd h List.not_mem_nil) hl hv).mono ?_
 rintro e w' ⟨v,rfl,h1,h2⟩
 cases h1
 exact⟨rfl,h2⟩
theorem rdl_ints {w:World} {a:Option Addr} {n cap:Nat} {z:List Int} (h:Row w 1 a n cap z):@RdL bk0 ev0 (fun _=>False) w (.lit 1 (intsR z)) (.slice a n cap):=by
 obtain⟨h1,h2,h3,h4,h5⟩:=h
 have e:n=z.length:=by omega
 subst e
 rw[ints_lit]
 have hl:(z.map fun v=>[v]).length=z.length:=by simp
 rw[←hl]at h2 ⊢
 refine rdl_of_row (by intro r hr;obtain⟨x,-,rfl⟩:=List.mem_map.1 hr;rfl) h2 h3 ?_
 rw[hl,flat1_r]
 rcases h5 with h5|⟨b,off,h5,h6,h7⟩
 ·exact .inl h5
 ·exact .inr ⟨b,off,h5,fun h=>h,h6,fun i hi=>h7 i (by omega)⟩
end Go.Proofs.Ytjccjmmbebiegaa
