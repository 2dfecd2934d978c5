/-
 gl.Post: what it answers; its inner function.
 gl.Post, gl.Trial.
-/
import Derived.Test.YtjccjmmbebiegaaVouA
import Derived.RegionTactic
import Derived.Deep.RegionLaw
set_option linter.unusedVariables false
set_option linter.unusedSimpArgs false
namespace Go.Proofs.Ytjccjmmbebiegaa
open Go.RowKit
end Go.Proofs.Ytjccjmmbebiegaa
set_option linter.unusedVariables false
set_option linter.unusedSimpArgs false
namespace Go.Proofs.Ytjccjmmbebiegaa
open Go.RowKit
def HoldI (w:World) (base:Nat) (v:Value) (zs:List Int):Prop :=
 ∃a cap,v=.slice a zs.length cap∧zs.length≤cap∧cap≤maxLen∧(zs.length=0∨∃b off,a=some ⟨b,off,none⟩∧base≤b∧b<w.heap.size∧CellsAt w b off zs∧∀i,w.frozen? ⟨b,i,none⟩=false)
theorem HoldI.row {w:World} {base:Nat} {v:Value} {zs:List Int} (h:HoldI w base v zs) (ha:AllI zs):∃a cap,v=.slice a zs.length cap∧Row w 1 a zs.length cap zs:=by
 obtain⟨a,cap,rfl,h1,h2,h3⟩:=h
 refine⟨a,cap,rfl,by simp,h1,h2,ha,?_⟩
 rcases h3 with h3|⟨b,off,rfl,-,h4,h5,-⟩
 ·exact .inl h3
 ·exact .inr ⟨b,off,rfl,h4,h5⟩
theorem HoldI.mono {w:World} {base base':Nat} {v:Value} {zs:List Int} (h:HoldI w base v zs) (g:base'≤base):HoldI w base' v zs:=by
 obtain⟨a,cap,rfl,h1,h2,h3⟩:=h
 refine⟨a,cap,rfl,h1,h2,?_⟩
 rcases h3 with h3|⟨b,off,rfl,hb,h4⟩
 ·exact .inl h3
 ·exact .inr ⟨b,off,rfl,Nat.le_trans g hb,h4⟩
theorem HoldI.below {w w':World} {base:Nat} {v:Value} {zs:List Int} (h:HoldI w base v zs) (g:Below w.heap.size w w'):HoldI w' base v zs:=by
 obtain⟨a,cap,rfl,h1,h2,h3⟩:=h
 refine⟨a,cap,rfl,h1,h2,?_⟩
 rcases h3 with h3|⟨b,off,rfl,hb,h4,h5,h6⟩
 ·exact .inl h3
 ·exact .inr ⟨b,off,rfl,hb,Nat.lt_of_lt_of_le h4 g.size,h5.below h4 g,fun i=>(g.frozen (p:=⟨b,i,none⟩) h4).trans (h6 i)⟩
abbrev ErrB (f:Int):Prop:=0≤f∧f≤20
end Go.Proofs.Ytjccjmmbebiegaa
