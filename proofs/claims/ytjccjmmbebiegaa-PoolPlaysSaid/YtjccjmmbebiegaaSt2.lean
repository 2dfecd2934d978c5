/-
 What there is: how much of it there may be; a voucher posted. Contracts of vouchers and of the ledger, over closed data.
-/
import Derived.Test.YtjccjmmbebiegaaSt1
import Derived.Test.YtjccjmmbebiegaaGlA
set_option linter.unusedVariables false
set_option linter.unusedSimpArgs false
namespace Go.Proofs.Ytjccjmmbebiegaa
open Go.RowKit Mc
theorem one_arg {vs:Array Value} {x:AV} (h:vs.size=[x].length):vs=#[vs.getD 0 Go.undef]:=by
 have h:vs.size=1:=h
 apply Array.ext
 ·simp[h]
 ·intro i h1 h2
  have:i=0:=by omega
  subst this
  simp[h1]
theorem two_args {vs:Array Value} {x y:AV} (h:vs.size=[x,y].length):vs=#[vs.getD 0 Go.undef,vs.getD 1 Go.undef]:=by
 have h:vs.size=2:=h
 apply Array.ext
 ·simp[h]
 ·intro i h1 h2
  rcases(by omega:i=0∨i=1)with rfl|rfl<;>simp[h]
theorem rdl_tup2 {A:Nat→Prop} {w:World} {x y:AV} {v u:Value} (h:@RdL bk0 ev0 A w x v) (g:@RdL bk0 ev0 A w y u):@RdL bk0 ev0 A w (.tup [x,y]) (.tuple #[v,u]):=by
 refine @RdL.tup bk0 ev0 A w [x,y] #[v,u] rfl ?_
 intro i z hz
 match i,hz with
 |0,hz=>cases hz;exact h
 |1,hz=>cases hz;exact g
theorem rdl_tup3 {A:Nat→Prop} {w:World} {x y z:AV} {v u t:Value} (h:@RdL bk0 ev0 A w x v) (g:@RdL bk0 ev0 A w y u) (k:@RdL bk0 ev0 A w z t):@RdL bk0 ev0 A w (.tup [x,y,z]) (.tuple #[v,u,t]):=by
 refine @RdL.tup bk0 ev0 A w [x,y,z] #[v,u,t] rfl ?_
 intro i z hz
 match i,hz with
 |0,hz=>cases hz;exact h
 |1,hz=>cases hz;exact g
 |2,hz=>cases hz;exact k
theorem rdl_i {A:Nat→Prop} {w:World} {v:Int}:@RdL bk0 ev0 A w (.i v) (.int .i64 v):=@RdL.c bk0 ev0 A w _
theorem rdl_i_inv {A:Nat→Prop} {w:World} {v:Int} {u:Value} (h:@RdL bk0 ev0 A w (.i v) u):u=.int .i64 v:=by cases h;rfl
theorem rdl_lay {A:Nat→Prop} {w:World} (x:Lay):@RdL bk0 ev0 A w x.av x.val:=by
 unfold Lay.av Lay.val
 refine @RdL.agg bk0 ev0 A w _ _ rfl ?_ ?_
 ·intro i y hy
  match i,hy with
  |0,hy=>cases hy;rfl
  |1,hy=>cases hy;rfl
  |2,hy=>cases hy;rfl
 ·intro i y hy
  match i,hy with
  |0,hy=>cases hy;exact rdl_i
  |1,hy=>cases hy;exact rdl_i
  |2,hy=>cases hy;exact rdl_i
theorem rdl_lay_inv {A:Nat→Prop} {w:World} {x:Lay} {v:Value} (h:@RdL bk0 ev0 A w x.av v):v=x.val:=by
 unfold Lay.av at h
 cases h with
 |agg _ vs hl h1 hr =>
  have e0:=rdl_i_inv (hr 0 _ rfl)
  have e1:=rdl_i_inv (hr 1 _ rfl)
  have e2:=rdl_i_inv (hr 2 _ rfl)
  have hl:vs.size=3:=hl
  unfold Lay.val
  congr 1
  apply Array.ext
  ·simp[hl]
  ·intro i h1 h2
   rcases(by omega:i=0∨i=1∨i=2)with rfl|rfl|rfl
   ·simpa[hl]using e0
   ·simpa[hl]using e1
   ·simpa[hl]using e2
theorem cl_lay (x:Lay):Cl x.av:=.agg _ (cl_rowI _)
theorem lays_in {A:Nat→Prop} {w:World} {l:List Lay} {v:Value} (h:@RdL bk0 ev0 A w (.lit 3 (laysR l)) v) (hI:AllI (flat l)):∃a cap,v=.slice a l.length cap∧Row w 3 a l.length cap (flat l):=by
 rw[lays_lit]at h
 obtain⟨a,cap,rfl,R⟩:=row_of_rdl h (by rw[flat_r];exact hI) (by intro r hr;obtain⟨x,-,rfl⟩:=List.mem_map.1 hr;rfl)
 rw[flat_r,List.length_map]at R
 exact⟨a,cap,by rw[List.length_map],R⟩
theorem lays_out {A:Nat→Prop} {w w':World} {l:List Lay} {a:Option Addr} {cap:Nat} (hA:∀b,A b→b<w.heap.size) (hc:l.length≤cap) (hm:cap≤maxLen) (h:l.length=0∨∃b off,a=some ⟨b,off,none⟩∧w.heap.size≤b∧b<w'.heap.size∧CellsAt w' b off (flat l)) :
  @RdL bk0 ev0 A w' (.lit 3 (laysR l)) (.slice a l.length cap):=by
 rw[lays_lit]
 have hl:(l.map Lay.r).length=l.length:=by simp
 rw[←hl]at hc ⊢
 refine rdl_of_row (by intro r hr;obtain⟨x,-,rfl⟩:=List.mem_map.1 hr;rfl) hc hm ?_
 rw[hl,flat_r]
 exact h.imp id fun⟨b,off,h1,h2,h3,h4⟩=>⟨b,off,h1,fun hb=>by have:=hA b hb;omega,h3,h4⟩
end Go.Proofs.Ytjccjmmbebiegaa
