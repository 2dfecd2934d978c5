/-
 The comparison of two lines by account; insertion sort.
 What a stable sort makes: it rises, and what is alike stands as it stood. No program in sight.
 Insertion sort of lines by account. Its walk.
-/
import Derived.Test.YtjccjmmbebiegaaLine
import Derived.Deep.QuietTactic
import Derived.BigQuiet
import Derived.Deep.RegionHeld3
import Derived.Test.YtjccjmmbebiegaaBase
import Derived.IntWalk
import Derived.RegionTactic
import Derived.ChangeAlike
set_option linter.unusedVariables false
set_option linter.unusedSimpArgs false
namespace Go.Proofs.Ytjccjmmbebiegaa
open Go.RowKit
end Go.Proofs.Ytjccjmmbebiegaa
set_option linter.unusedVariables false
set_option linter.unusedSimpArgs false
namespace Go.Proofs.Ytjccjmmbebiegaa
section
variable {α:Type} (key:α→Int)
def Rises (l:List α):Prop:=l.Pairwise fun x y=>key x≤key y
def Stab (l m:List α):Prop:=∀k,m.filter (fun x=>key x==k)=l.filter (fun x=>key x==k)
end
section
variable {α:Type} {key:α→Int}
theorem Stab.refl (l:List α):Stab key l l:=fun _=>rfl
theorem Stab.trans {a b c:List α} (h:Stab key a b) (k:Stab key b c):Stab key a c:=fun i=>(k i).trans (h i)
theorem Stab.app {a b c d:List α} (h:Stab key a b) (k:Stab key c d):Stab key (a++c) (b++d):=fun i=>by rw[List.filter_append,List.filter_append,h i,k i]
theorem Stab.mem {a b:List α} (h:Stab key a b) {x:α}:x∈b↔x∈a:=by
 have:=h (key x)
 constructor
 ·intro hx
  have:x∈b.filter (fun y=>key y==key x):=List.mem_filter.2 ⟨hx,by simp⟩
  rw[h (key x)]at this
  exact(List.mem_filter.1 this).1
 ·intro hx
  have:x∈a.filter (fun y=>key y==key x):=List.mem_filter.2 ⟨hx,by simp⟩
  rw[←h (key x)]at this
  exact(List.mem_filter.1 this).1
theorem Rises.app {a b:List α}:Rises key (a++b)↔Rises key a∧Rises key b∧∀x,x∈a→∀y,y∈b→key x≤key y:=List.pairwise_append
theorem Rises.one (x:α):Rises key [x]:=by simp[Rises]
theorem Rises.nil:Rises key ([]:List α):=List.Pairwise.nil
theorem Rises.last {a:List α} {y:α} (h:Rises key (a++[y])):∀x,x∈a++[y]→key x≤key y:=by
 intro x hx
 rcases List.mem_append.1 hx with hx|hx
 ·exact(Rises.app.1 h).2.2 x hx y (by simp)
 ·simp at hx;subst hx;exact Int.le_refl _
end
section
variable {α:Type} {key:α→Int}
end
section
variable {α:Type}
theorem split_last (l:List α):l=[]∨∃A y,l=A++[y]:=by
 induction l with
 |nil=>exact .inl rfl
 |cons x l ih =>
  right
  rcases ih with rfl|⟨A,y,rfl⟩
  ·exact⟨[],x,rfl⟩
  ·exact⟨x::A,y,rfl⟩
end
end Go.Proofs.Ytjccjmmbebiegaa
set_option linter.unusedVariables false
set_option linter.unusedSimpArgs false
namespace Go.Proofs.Ytjccjmmbebiegaa
open Go.RowKit
end Go.Proofs.Ytjccjmmbebiegaa
