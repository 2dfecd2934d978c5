/-
 What there is: how much of it there may be; a voucher posted. Contracts of vouchers and of the ledger, over closed data.
-/
import Derived.Test.YtnalblnmplnhmaaGreatSt1
import Derived.Test.YtnalblnmplnhmaaGreatGlA
set_option linter.unusedVariables false
set_option linter.unusedSimpArgs false
namespace Go.Proofs.YtnalblnmplnhmaaGreat
open Go.RowKit Mc
theorem one_arg {vs:Array Value} {x:AV} (h:vs.size=[x].length):vs=#[vs.getD 0 Go.undef]:=by
 have h:vs.size=1:=h
 apply Array.ext
 ·simp[h]
 ·intro i h1 h2
  have:i=0:=by omega
  subst this
  simp[h1]
theorem two_args {vs:Array Value} {x y:AV} (h:vs.size=[x,y].length):vs=#[vs.getD 0 Go.undef,vs.getD 1 Go.undef]:=by
 have h:vs.size=2:=h
 apply Array.ext
 ·simp[h]
 ·intro i h1 h2
  rcases(by omega:i=0∨i=1)with rfl|rfl<;>simp[h]
theorem rdl_tup2 {A:Nat→Prop} {w:World} {x y:AV} {v u:Value} (h:@RdL bk0 ev0 A w x v) (g:@RdL bk0 ev0 A w y u):@RdL bk0 ev0 A w (.tup [x,y]) (.tuple #[v,u]):=by
 refine @RdL.tup bk0 ev0 A w [x,y] #[v,u] rfl ?_
 intro i z hz
 match i,hz with
 |0,hz=>cases hz;exact h
 |1,hz=>cases hz;exact g
theorem rdl_tup3 {A:Nat→Prop} {w:World} {x y z:AV} {v u t:Value} (h:@RdL bk0 ev0 A w x v) (g:@RdL bk0 ev0 A w y u) (k:@RdL bk0 ev0 A w z t):@RdL bk0 ev0 A w (.tup [x,y,z]) (.tuple #[v,u,t]):=by
 refine @RdL.tup bk0 ev0 A w [x,y,z] #[v,u,t] rfl ?_
 intro i z hz
 match i,hz with
 |0,hz=>cases hz;exact h
 |1,hz=>cases hz;exact g
 |2,hz=>cases hz;exact k
theorem rdl_i {A:Nat→Prop} {w:World} {v:Int}:@RdL bk0 ev0 A w (.i v) (.int .i64 v):=@RdL.c bk0 ev0 A w _
theorem rdl_i_inv {A:Nat→Prop} {w:World} {v:Int} {u:Value} (h:@RdL bk0 ev0 A w (.i v) u):u=.int .i64 v:=by cases h;rfl
theorem rdl_lay {A:Nat→Prop} {w:World} (x:Lay):@RdL bk0 ev0 A w x.av x.val:=by
 unfold Lay.av Lay.val
 refine @RdL.agg bk0 ev0 A w _ _ rfl ?_ ?_
 ·intro i y hy
  match i,hy with
  |0,hy=>cases hy;rfl
  |1,hy=>cases hy;rfl
  |2,hy=>cases hy;rfl
 ·intro i y hy
  match i,hy with
  |0,hy=>cases hy;exact rdl_i
  |1,hy=>cases hy;exact rdl_i
  |2,hy=>cases hy;exact rdl_i
theorem rdl_lay_inv {A:Nat→Prop} {w:World} {x:Lay} {v:Value} (h:@RdL bk0 ev0 A w x.av v):v=x.val:=by
 unfold Lay.av at h
 cases h with
 |agg _ vs hl h1 hr =>
  have e0:=rdl_i_inv (hr 0 _ rfl)
  have e1:=rdl_i_inv (hr 1 _ rfl)
  have e2:=rdl_i_inv (hr 2 _ rfl)
  have hl:vs.size=3:=hl
  unfold Lay.val
  congr 1
  apply Array.ext
  ·simp[hl]
  ·intro i h1 h2
   rcases(by omega:i=0∨i=1∨i=2)with rfl|rfl|rfl
   ·simpa[hl]using e0
   ·simpa[hl]using e1
   ·simpa[hl]using e2
theorem cl_lay (x:Lay):Cl x.av:=.agg _ (cl_rowI _)
theorem lays_in {A:Nat→Prop} {w:World} {l:List Lay} {v:Value} (h:@RdL bk0 ev0 A w (.lit 3 (laysR l)) v) (hI:AllI (flat l)):∃a cap,v=.slice a l.length cap∧Row w 3 a l.length cap (flat l):=by
 rw[lays_lit]at h
 obtain⟨a,cap,rfl,R⟩:=row_of_rdl h (by rw[flat_r];exact hI) (by intro r hr;obtain⟨x,-,rfl⟩:=List.mem_map.1 hr;rfl)
 rw[flat_r,List.length_map]at R
 exact⟨a,cap,by rw[List.length_map],R⟩
theorem lays_out {A:Nat→Prop} {w w':World} {l:List Lay} {a:Option Addr} {cap:Nat} (hA:∀b,A b→b<w.heap.size) (hc:l.length≤cap) (hm:cap≤maxLen) (h:l.length=0∨∃b off,a=some ⟨b,off,none⟩∧w.heap.size≤b∧b<w'.heap.size∧CellsAt w' b off (flat l)) :
  @RdL bk0 ev0 A w' (.lit 3 (laysR l)) (.slice a l.length cap):=by
 rw[lays_lit]
 have hl:(l.map Lay.r).length=l.length:=by simp
 rw[←hl]at hc ⊢
 refine rdl_of_row (by intro r hr;obtain⟨x,-,rfl⟩:=List.mem_map.1 hr;rfl) hc hm ?_
 rw[hl,flat_r]
 exact h.imp id fun⟨b,off,h1,h2,h3,h4⟩=>⟨b,off,h1,fun hb=>by have:=hA b hb;omega,h3,h4⟩
theorem lins_in {A:Nat→Prop} {w:World} {l:List Lin} {v:Value} (h:@RdL bk0 ev0 A w (.lit 2 (linsR l)) v) (hI:AllI (flat2 l)):∃a cap,v=.slice a l.length cap∧Row w 2 a l.length cap (flat2 l):=by
 rw[lins_lit]at h
 obtain⟨a,cap,rfl,R⟩:=row_of_rdl h (by rw[flat2_r];exact hI) (by intro r hr;obtain⟨x,-,rfl⟩:=List.mem_map.1 hr;rfl)
 rw[flat2_r,List.length_map]at R
 exact⟨a,cap,by rw[List.length_map],R⟩
theorem lins_out {A:Nat→Prop} {w w':World} {l:List Lin} {a:Option Addr} {cap:Nat} (hA:∀b,A b→b<w.heap.size) (hc:l.length≤cap) (hm:cap≤maxLen) (h:l.length=0∨∃b off,a=some ⟨b,off,none⟩∧w.heap.size≤b∧b<w'.heap.size∧CellsAt w' b off (flat2 l)) :
  @RdL bk0 ev0 A w' (.lit 2 (linsR l)) (.slice a l.length cap):=by
 rw[lins_lit]
 have hl:(l.map Lin.r).length=l.length:=by simp
 rw[←hl]at hc ⊢
 refine rdl_of_row (by intro r hr;obtain⟨x,-,rfl⟩:=List.mem_map.1 hr;rfl) hc hm ?_
 rw[hl,flat2_r]
 exact h.imp id fun⟨b,off,h1,h2,h3,h4⟩=>⟨b,off,h1,fun hb=>by have:=hA b hb;omega,h3,h4⟩
theorem ints_in {A:Nat→Prop} {w:World} {l:List Int} {v:Value} (h:@RdL bk0 ev0 A w (.lit 1 (intsR l)) v) (hI:AllI l):∃a cap,v=.slice a l.length cap∧Row w 1 a l.length cap l:=by
 rw[ints_lit]at h
 obtain⟨a,cap,rfl,R⟩:=row_of_rdl h (by rw[flat1_r];exact hI) (by intro r hr;obtain⟨x,-,rfl⟩:=List.mem_map.1 hr;rfl)
 rw[flat1_r,List.length_map]at R
 exact⟨a,cap,by rw[List.length_map],R⟩
theorem ints_out {A:Nat→Prop} {w w':World} {l:List Int} {a:Option Addr} {cap:Nat} (hA:∀b,A b→b<w.heap.size) (hc:l.length≤cap) (hm:cap≤maxLen) (h:l.length=0∨∃b off,a=some ⟨b,off,none⟩∧w.heap.size≤b∧b<w'.heap.size∧CellsAt w' b off l) :
  @RdL bk0 ev0 A w' (.lit 1 (intsR l)) (.slice a l.length cap):=by
 rw[ints_lit]
 have hl:(l.map fun v=>[v]).length=l.length:=by simp
 rw[←hl]at hc ⊢
 refine rdl_of_row (by intro r hr;obtain⟨x,-,rfl⟩:=List.mem_map.1 hr;rfl) hc hm ?_
 rw[hl,flat1_r]
 exact h.imp id fun⟨b,off,h1,h2,h3,h4⟩=>⟨b,off,h1,fun hb=>by have:=hA b hb;omega,h3,h4⟩
theorem ck_Plain (l:List Lin) (hI:AllI (flat2 l)) (h20:l.length≤20):CK Tryz.prog 104 [.lit 2 (linsR l)] (.tup [.lit 2 (linsR (plainS l).1),.i (plainS l).2]):=by
 refine⟨cl_cons (cl_lins _).lit cl_nil,.tup _ (cl_cons (cl_lins _).lit (cl_cons (.c _) cl_nil)),?_⟩
 intro A w vs hA hG hl hv
 have hvs:=one_arg hl
 generalize vs.getD 0 Go.undef=v0 at hvs
 subst hvs
 obtain⟨a,cap,rfl,R⟩:=lins_in (hv 0 _ rfl) hI
 refine(vou_Plain a cap l w R h20).mono ?_
 rintro e w' ⟨v,rfl,⟨a',cap',rfl,k1,k2,k3⟩,hb⟩
 refine⟨_,rfl,rdl_tup2 (lins_out hA k1 k2 ?_) rdl_i,hb⟩
 exact k3.imp id fun⟨b,off,h1,h2,h3,h4,_⟩=>⟨b,off,h1,h2,h3,h4⟩
theorem ck_glPost (bal:List Int) (l:List Lin) (hbal:bal.length=17) (hB:AllI bal) (hI:AllI (flat2 l)) (h20:l.length≤20):CK Tryz.prog 105 [.lit 1 (intsR bal),.lit 2 (linsR l)] (.tup [.lit 1 (intsR (postS bal l).1),.i (postS bal l).2]):=by
 refine⟨cl_cons (cl_ints _).lit (cl_cons (cl_lins _).lit cl_nil),.tup _ (cl_cons (cl_ints _).lit (cl_cons (.c _) cl_nil)),?_⟩
 intro A w vs hA hG hl hv
 have hvs:=two_args hl
 generalize vs.getD 0 Go.undef=v0 at hvs
 generalize vs.getD 1 Go.undef=v1 at hvs
 subst hvs
 obtain⟨a,cap,rfl,R⟩:=ints_in (hv 0 _ rfl) hB
 obtain⟨a2,cap2,rfl,R2⟩:=lins_in (hv 1 _ rfl) hI
 rw[hbal]at R ⊢
 refine(gl_Post a cap bal hbal a2 cap2 l w R R2 h20).mono ?_
 rintro e w' ⟨v,rfl,⟨a',cap',rfl,k1,k2,k3⟩,hb⟩
 refine⟨_,rfl,rdl_tup2 (ints_out hA k1 k2 ?_) rdl_i,hb⟩
 exact k3.imp id fun⟨b,off,h1,h2,h3,h4,_⟩=>⟨b,off,h1,h2,h3,h4⟩
def StD.setEnt (s:StD) (e:Int) (x:EntD):StD:={ s with ents:=s.ents.set e.toNat x }
def EntD.setBal (x:EntD) (b:List Int):EntD:={ x with bal:=b }
theorem setEnt_ents (s:StD) (e:Int) (x:EntD):entsR (s.setEnt e x).ents=(entsR s.ents).set e.toNat x.row:=by simp[StD.setEnt,entsR,List.map_set]
end Go.Proofs.YtnalblnmplnhmaaGreat
