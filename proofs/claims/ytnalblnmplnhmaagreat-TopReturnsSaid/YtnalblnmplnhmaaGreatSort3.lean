/-
 The library's stable sort of twenty lines or fewer, by account.
-/
import Derived.Test.YtnalblnmplnhmaaGreatSortA
set_option linter.unusedVariables false
set_option linter.unusedSimpArgs false
namespace Go.Proofs.YtnalblnmplnhmaaGreat
open Go.RowKit
def Sorted2 (b off c:Nat) (l:List Lin) (w:World) (r:Ending) (w':World):Prop :=
 r=.returned (.tuple #[])∧∃m:List Lin,m.length=l.length∧Rises Lin.a m∧Stab Lin.a l m∧Lay2 w' b off c m∧Keep b w w'
set_option maxRecDepth 20000 in
set_option maxHeartbeats 2000000 in
theorem stable_small (b off c cap:Nat) (l:List Lin) (w:World) (h:Lay2 w b off c l) (hn:l.length≤cap) (hm:cap≤maxLen) (h20:l.length≤20) :
  Calls Tryz.prog 209 #[.slice (some ⟨b,off,none⟩) l.length cap,.int .i64 l.length,byAcc c] w (Sorted2 b off c l w):=by
 unfold byAcc
 obtain⟨n,hN⟩:∃n,l.length=n:=⟨_,rfl⟩
 rw[hN]at hn h20 ⊢
 have hNh:=Lib.hid hN
 clear hN
 go_enter Tryz.func209,Tryz.ntmps209
 by_cases h20':n=20
 ·subst h20'
  go_wp2_with fail
  refine wp_loop_rounds 2 ?_
  rw[rounds_succ]
  go_wp2_with fail
  refine(ins_sort b off c cap 0 20 [] l [] w (by simpa using h) 20 (by simpa using hNh.out) hn hm (by omega) rfl (by simp[hNh.out])).mono ?_
  rintro r w1 ⟨rfl,m,hm1,hm2,hm3,hL,hK⟩
  go_wp2_with fail
  rw[rounds_succ]
  go_wp2_with fail
  refine(ins_sort b off c cap 20 20 ([]++m++[]) [] [] w1 (by simpa using hL) 20 (by simp[hm1,hNh.out]) hn hm (by omega) (by simp[hm1,hNh.out]) rfl).mono ?_
  rintro r w2 ⟨rfl,m2,hm4,-,-,hL2,hK2⟩
  have e2:m2=[]:=List.eq_nil_of_length_eq_zero hm4
  subst e2
  go_wp2_with fail
  refine wp_loop_rounds 1 ?_
  rw[rounds_succ]
  go_wp2_with fail
  exact bodyPost_end (v:=.tuple #[]) (by simp[results,Tryz.results209,go_sem]) rfl ⟨rfl,m,hm1,hm2,hm3,by simpa using hL2,hK.trans hK2⟩
 ·have hlt:n<20:=by omega
  have hge:¬ (20:Int)≤(n:Int):=by omega
  have hge2:¬ (20:Int)<(n:Int):=by omega
  go_wp2_with fail
  refine wp_loop_rounds 1 ?_
  rw[rounds_succ]
  go_wp2_with fail
  refine(ins_sort b off c cap 0 n [] l [] w (by simpa using h) n (by simpa using hNh.out) hn hm (by omega) rfl (by simp[hNh.out])).mono ?_
  rintro r w1 ⟨rfl,m,hm1,hm2,hm3,hL,hK⟩
  go_wp2_with fail
  refine wp_loop_rounds 1 ?_
  rw[rounds_succ]
  go_wp2_with fail
  exact bodyPost_end (v:=.tuple #[]) (by simp[results,Tryz.results209,go_sem]) rfl ⟨rfl,m,hm1,hm2,hm3,by simpa using hL,hK⟩
theorem stable_func (b off c cap:Nat) (l:List Lin) (w:World) (h:Lay2 w b off c l) (hn:l.length≤cap) (hm:cap≤maxLen) (h20:l.length≤20) :
  Calls Tryz.prog 188 #[.slice (some ⟨b,off,none⟩) l.length cap,byAcc c] w (Sorted2 b off c l w):=by
 have hs:=stable_small b off c cap l w h hn hm h20
 unfold byAcc at hs ⊢
 go_enter Tryz.func188,Tryz.ntmps188
 go_wp2_with fail
 refine hs.mono ?_
 rintro r w1 ⟨rfl,hp⟩
 go_wp2_with fail
 exact bodyPost_end (v:=.tuple #[]) (by simp[results,Tryz.results188,go_sem]) rfl ⟨rfl,hp⟩
theorem by_calls (b off cap:Nat) (l:List Lin) (w:World) (hcs:CellsAt w b off (flat2 l)) (hfz:∀i,w.frozen? ⟨b,i,none⟩=false) (hb:b<w.heap.size) (hn:l.length≤cap) (hm:cap≤maxLen) (h20:l.length≤20) :
  Calls Tryz.prog 146 #[.slice (some ⟨b,off,none⟩) l.length cap,.func (.func 147) #[] #[]] w
   fun r w'=>r=.returned (.tuple #[])∧∃m:List Lin,m.length=l.length∧Rises Lin.a m∧Stab Lin.a l m∧CellsAt w' b off (flat2 m)∧Keep b w w':=by
 have hs:=fun(W:World) (h:Lay2 W b off w.heap.size l)=>stable_func b off w.heap.size cap l W h hn hm h20
 unfold byAcc at hs
 go_enter Tryz.func146,Tryz.ntmps146
 go_wp2_with fail
 have hb1:Below w.heap.size w (w.alloc (.cells #[.func (.func 147) #[] #[]] 203)):=(Below.refl _ _).alloc (Nat.le_refl _) _
 refine(hs _ ⟨hcs.below hb hb1,fun i=>(hb1.frozen (p:=⟨b,i,none⟩) hb).trans (hfz i),by simp;omega,by simp,by simp,by omega⟩).mono ?_
 rintro r w1 ⟨rfl,m,hm1,hm2,hm3,hL,hK⟩
 go_wp2_with fail
 exact bodyPost_end (v:=.tuple #[]) (by simp[results,Tryz.results146,go_sem]) rfl ⟨rfl,m,hm1,hm2,hm3,hL.cells,(Keep.of hb1 hb).trans hK⟩
end Go.Proofs.YtnalblnmplnhmaaGreat
