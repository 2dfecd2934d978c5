/-
 The comparison of two lines by account; insertion sort.
 What a stable sort makes: it rises, and what is alike stands as it stood. No program in sight.
 Insertion sort of lines by account. Its walk.
-/
import Derived.Test.YtnalblnmplnhmaaGreatLine
import Derived.Deep.QuietTactic
import Derived.BigQuiet
import Derived.Deep.RegionHeld3
import Derived.Test.YtnalblnmplnhmaaGreatBase
import Derived.IntWalk
import Derived.RegionTactic
import Derived.ChangeAlike
set_option linter.unusedVariables false
set_option linter.unusedSimpArgs false
namespace Go.Proofs.YtnalblnmplnhmaaGreat
open Go.RowKit
def cmpI (x y:Int):Int:=if x<y then -1 else if y<x then 1 else 0
theorem cmpI_neg {x y:Int}:cmpI x y<0↔x<y:=by
 unfold cmpI
 by_cases h:x<y
 ·simp[h]
 ·by_cases h2:y<x<;>simp[h,h2]
theorem isNaN_int (x:Int) (w:World):Calls Tryz.prog 210 #[.int .i64 x] w fun e w'=>e=.returned (.bool false)∧w=w':=by
 go_enter Tryz.func210,Tryz.ntmps210
 go_wp2_with fail
 go_ret
 exact⟨rfl,rfl⟩
theorem cmp_int (x y:Int) (w:World):Calls Tryz.prog 190 #[.int .i64 x,.int .i64 y] w fun e w'=>e=.returned (.int .i64 (cmpI x y))∧w=w':=by
 go_enter Tryz.func190,Tryz.ntmps190
 by_cases h:x<y
 ·go_wp2_with (go_at_call 210;refine(isNaN_int _ _).mono ?_;rintro e w' ⟨rfl,rfl⟩)
  go_ret
  exact⟨ret_int (by simp[cmpI,h]),rfl⟩
 ·by_cases h2:y<x
  ·go_wp2_with (go_at_call 210;refine(isNaN_int _ _).mono ?_;rintro e w' ⟨rfl,rfl⟩)
   go_ret
   exact⟨ret_int (by simp[cmpI,h,h2]),rfl⟩
  ·go_wp2_with (go_at_call 210;refine(isNaN_int _ _).mono ?_;rintro e w' ⟨rfl,rfl⟩)
   go_ret
   exact⟨ret_int (by simp only[cmpI];rw[if_neg (by omega),if_neg (by omega)]),rfl⟩
theorem acc_of (x:Lin) (w:World):Calls Tryz.prog 147 #[x.val] w fun e w'=>e=.returned (.int .i64 x.a)∧Below w.heap.size w w':=by
 unfold Lin.val
 go_enter Tryz.func147,Tryz.ntmps147
 go_wp2_with fail
 go_ret
 exact⟨rfl,by(repeat (first|assumption|exact Below.refl _ _|refine ballc ?_ _|refine bdrew ?_|refine bdrewN ?_ _|refine bset ?_ _ _|refine bsetN ?_ (by omega) _ _|refine bthen ?_ (by assumption)))⟩
set_option maxRecDepth 100000 in
set_option maxHeartbeats 1000000 in
theorem by_cmp (x y:Lin) (c:Nat) (w:World) (hc:w.cell? ⟨c,0,none⟩=some (.func (.func 147) #[] #[])) (hlt:c<w.heap.size) :
  Calls Tryz.prog 189 #[x.val,y.val,.pointer (some ⟨c,0,none⟩)] w fun e w'=>e=.returned (.int .i64 (cmpI x.a y.a))∧Below w.heap.size w w':=by
 unfold Lin.val
 go_enter Tryz.func189,Tryz.ntmps189
 go_wp2_with fail
 have hc1:c<w.heap.size+1:=by omega
 have hc2:c<w.heap.size+1+1:=by omega
 have hcW:((w.alloc (.cells #[.int .i64 x.a,.int .i64 x.n] 131)).alloc (.cells #[.int .i64 y.a,.int .i64 y.n] 131)).drew.cell? ⟨c,0,none⟩=some (.func (.func 147) #[] #[]):=(World.cell?_alloc_lt _ _ _ (by simp;omega)).trans ((World.cell?_alloc_lt _ _ _ hlt).trans hc)
 have hb0:Below w.heap.size w ((w.alloc (.cells #[.int .i64 x.a,.int .i64 x.n] 131)).alloc (.cells #[.int .i64 y.a,.int .i64 y.n] 131)).drew:=(((Below.refl _ _).alloc (Nat.le_refl _) _).alloc (by simp) _).drew
 go_region_held3 (fun w'=>Below w.heap.size w w'∧w.heap.size+1<w'.heap.size∧w'.cell? ⟨c,0,none⟩=some (.func (.func 147) #[] #[])∧w'.cell? ⟨w.heap.size,0,none⟩=some (.int .i64 x.a)∧w'.cell? ⟨w.heap.size,1,none⟩=some (.int .i64 x.n)∧w'.cell? ⟨w.heap.size+1,0,none⟩=some (.int .i64 y.a)∧w'.cell? ⟨w.heap.size+1,1,none⟩=some (.int .i64 y.n))
  (first
   |exact⟨hb0,by simp,hcW,by simp,by simp,by simp,by simp⟩
   |(go_split_ands;refine⟨?_,?_,?_,?_,?_,?_,?_⟩<;>first|assumption|(refine Below.trans ?_ (Below.mono hw2 ?_)<;>first|assumption|omega)|(have:=hw2.size;omega)|(exact(hw2.cell (by simp only;omega)).trans (by assumption))))
  ((first
   |(go_at_call 147;refine(acc_of x _).mono ?_;rintro e w2 ⟨rfl,hw2⟩)
   |(go_at_call 147;refine(acc_of y _).mono ?_;rintro e w2 ⟨rfl,hw2⟩)
   |(go_at_call 190;refine(cmp_int _ _ _).mono ?_;rintro e w2 ⟨rfl,rfl⟩)))
 all_goals
  have hS:=‹Below w.heap.size w _∧_›
  go_wp2_with fail
  go_ret
  exact⟨rfl,hS.1⟩
end Go.Proofs.YtnalblnmplnhmaaGreat
set_option linter.unusedVariables false
set_option linter.unusedSimpArgs false
namespace Go.Proofs.YtnalblnmplnhmaaGreat
section
variable {α:Type} (key:α→Int)
def Rises (l:List α):Prop:=l.Pairwise fun x y=>key x≤key y
def Stab (l m:List α):Prop:=∀k,m.filter (fun x=>key x==k)=l.filter (fun x=>key x==k)
end
section
variable {α:Type} {key:α→Int}
theorem Stab.refl (l:List α):Stab key l l:=fun _=>rfl
theorem Stab.trans {a b c:List α} (h:Stab key a b) (k:Stab key b c):Stab key a c:=fun i=>(k i).trans (h i)
theorem Stab.app {a b c d:List α} (h:Stab key a b) (k:Stab key c d):Stab key (a++c) (b++d):=fun i=>by rw[List.filter_append,List.filter_append,h i,k i]
theorem Stab.swap {a b:List α} (h:∀x,x∈a→∀y,y∈b→key x≠key y):Stab key (a++b) (b++a):=by
 intro k
 rw[List.filter_append,List.filter_append]
 by_cases ha:a.filter (fun x=>key x==k)=[]
 ·rw[ha];simp
 ·obtain⟨x,hx⟩:=List.exists_mem_of_ne_nil _ ha
  rw[List.mem_filter]at hx
  have hb:b.filter (fun x=>key x==k)=[]:=by
   rw[List.filter_eq_nil_iff]
   intro y hy
   have e1:key x=k:=by simpa using hx.2
   have:=h x hx.1 y hy
   simp
   omega
  rw[hb];simp
theorem Stab.mem {a b:List α} (h:Stab key a b) {x:α}:x∈b↔x∈a:=by
 have:=h (key x)
 constructor
 ·intro hx
  have:x∈b.filter (fun y=>key y==key x):=List.mem_filter.2 ⟨hx,by simp⟩
  rw[h (key x)]at this
  exact(List.mem_filter.1 this).1
 ·intro hx
  have:x∈a.filter (fun y=>key y==key x):=List.mem_filter.2 ⟨hx,by simp⟩
  rw[←h (key x)]at this
  exact(List.mem_filter.1 this).1
theorem Rises.app {a b:List α}:Rises key (a++b)↔Rises key a∧Rises key b∧∀x,x∈a→∀y,y∈b→key x≤key y:=List.pairwise_append
theorem Rises.one (x:α):Rises key [x]:=by simp[Rises]
theorem Rises.nil:Rises key ([]:List α):=List.Pairwise.nil
theorem Rises.last {a:List α} {y:α} (h:Rises key (a++[y])):∀x,x∈a++[y]→key x≤key y:=by
 intro x hx
 rcases List.mem_append.1 hx with hx|hx
 ·exact(Rises.app.1 h).2.2 x hx y (by simp)
 ·simp at hx;subst hx;exact Int.le_refl _
theorem ins_step {P1 P2:List α} {x y:α} (h2:∀z,z∈P2→key x<key z) (h:key x<key y):∀z,z∈y::P2→key x<key z:=by
 intro z hz
 rcases List.mem_cons.1 hz with rfl|hz
 ·exact h
 ·exact h2 z hz
theorem ins_done {P1 P2:List α} {x:α} (hr:Rises key (P1++P2)) (h2:∀z,z∈P2→key x<key z) (h1:∀z,z∈P1→key z≤key x) :
  Rises key (P1++x::P2)∧Stab key (P1++P2++[x]) (P1++x::P2):=by
 have a:=Rises.app.1 hr
 constructor
 ·refine Rises.app.2 ⟨a.1,List.pairwise_cons.2 ⟨fun z hz=>Int.le_of_lt (h2 z hz),a.2.1⟩,fun z hz u hu=>?_⟩
  rcases List.mem_cons.1 hu with rfl|hu
  ·exact h1 z hz
  ·exact a.2.2 z hz u hu
 ·have:Stab key (P2++[x]) ([x]++P2):=Stab.swap fun z hz y hy=>by simp at hy;subst hy;have:=h2 z hz;omega
  have:=(Stab.refl (key:=key) P1).app this
  simpa using this
end
section
variable {α:Type} {key:α→Int}
theorem ins_round {seg P P1 P2 R:List α} {k:Nat} {x:α} (hx:seg.drop k=x::R) (hP:P.length=k) (hR:Rises key P) (hS:Stab key (seg.take k) P) (e:P=P1++P2) (h2:∀z,z∈P2→key x<key z) (h1:∀z,z∈P1→key z≤key x) :
  (P1++x::P2).length=k+1∧Rises key (P1++x::P2)∧Stab key (seg.take (k+1)) (P1++x::P2)∧seg.drop (k+1)=R∧k+1≤seg.length:=by
 subst e
 have d:=ins_done hR h2 h1
 have hk:k<seg.length:=by
  rcases Nat.lt_or_ge k seg.length with h|h
  ·exact h
  ·rw[List.drop_eq_nil_of_le h]at hx;cases hx
 have hg:seg[k]=x:=by
  have:=List.drop_eq_getElem_cons hk
  rw[hx]at this
  exact(List.cons.inj this).1.symm
 have hd:seg.drop (k+1)=R:=by
  have:=List.drop_eq_getElem_cons hk
  rw[hx]at this
  exact(List.cons.inj this).2.symm
 refine⟨by simp at hP ⊢;omega,d.1,?_,hd,hk⟩
 rw[List.take_succ_eq_append_getElem hk,hg]
 exact(hS.app (Stab.refl [x])).trans d.2
end
section
variable {α:Type}
theorem swap_next {A B:List α} {x y:α} {j:Nat} (hj:A.length+1=j):((A++y::x::B).set j y).set (j-1) x=A++x::y::B:=by
 subst hj
 simp[List.set_append]
theorem split_last (l:List α):l=[]∨∃A y,l=A++[y]:=by
 induction l with
 |nil=>exact .inl rfl
 |cons x l ih =>
  right
  rcases ih with rfl|⟨A,y,rfl⟩
  ·exact⟨[],x,rfl⟩
  ·exact⟨x::A,y,rfl⟩
theorem get_snd {A B:List α} {x y:α} {j:Nat} (hj:A.length+1=j):(A++y::x::B)[j]?=some x:=by
 subst hj;simp
theorem get_fst {A B:List α} {x y:α} {j:Nat} (hj:A.length+1=j):(A++y::x::B)[j-1]?=some y:=by
 subst hj;simp
end
end Go.Proofs.YtnalblnmplnhmaaGreat
set_option linter.unusedVariables false
set_option linter.unusedSimpArgs false
namespace Go.Proofs.YtnalblnmplnhmaaGreat
open Go.RowKit
def byAcc (c:Nat):Value:=.func (.func 189) #[] #[.pointer (some ⟨c,0,none⟩)]
structure Lay2 (w:World) (b off c:Nat) (l:List Lin):Prop where
 cells:CellsAt w b off (flat2 l)
 fz:∀i,w.frozen? ⟨b,i,none⟩=false
 lt:b<w.heap.size
 ccell:w.cell? ⟨c,0,none⟩=some (.func (.func 147) #[] #[])
 clt:c<w.heap.size
 ne:c≠b
theorem Lay2.drew {w:World} {b off c:Nat} {l:List Lin} (h:Lay2 w b off c l):Lay2 w.drew b off c l:=⟨h.cells,h.fz,h.lt,h.ccell,h.clt,h.ne⟩
theorem Lay2.below {w w':World} {b off c:Nat} {l:List Lin} (h:Lay2 w b off c l) (g:Below w.heap.size w w'):Lay2 w' b off c l :=
 ⟨h.cells.below h.lt g,fun i=>(g.frozen (p:=⟨b,i,none⟩) h.lt).trans (h.fz i),Nat.lt_of_lt_of_le h.lt g.size,(g.cell (p:=⟨c,0,none⟩) h.clt).trans h.ccell,Nat.lt_of_lt_of_le h.clt g.size,h.ne⟩
theorem Lay2.drewN {w:World} {b off c:Nat} {l:List Lin} (h:Lay2 w b off c l) (n:Nat):Lay2 (w.drewN n) b off c l:=h.below (below_drewN (Below.refl _ _) n)
theorem Lay2.set {w:World} {b off c:Nat} {l:List Lin} (h:Lay2 w b off c l) {i:Nat} (hi:i<l.length) (x:Lin):Lay2 (set2 w b (off+i*2) x) b off c (l.set i x):=by
 refine⟨set2_line h.cells hi x,fun j=>by unfold set2;rw[World.frozen?_setCell,World.frozen?_setCell];exact h.fz j,by unfold set2;simpa[World.setCell]using h.lt,?_,by unfold set2;simpa[World.setCell]using h.clt,h.ne⟩
 unfold set2
 have e (u:World) (i:Nat) (v:Value):(u.setCell ⟨b,i,none⟩ v).cell? ⟨c,0,none⟩=u.cell? ⟨c,0,none⟩:=World.cell?_of_block (w:=u) (Below.heap_setCell _ _ _ _ (show c≠b from h.ne))
 rw[e,e]
 exact h.ccell
set_option maxRecDepth 20000 in
set_option maxHeartbeats 2000000 in
theorem ins_sort (b off c cap a e:Nat) (pre seg post:List Lin) (w:World) (h:Lay2 w b off c (pre++seg++post)) (n:Nat) (hN:(pre++seg++post).length=n) (hn:n≤cap) (hm:cap≤maxLen) (hnb:n≤1000000)
  (ha:pre.length=a) (he:a+seg.length=e) :
  Calls Tryz.prog 219 #[.slice (some ⟨b,off,none⟩) n cap,.int .i64 a,.int .i64 e,byAcc c] w
   fun r w'=>r=.returned (.tuple #[])∧∃seg':List Lin,seg'.length=seg.length∧Rises Lin.a seg'∧Stab Lin.a seg seg'∧Lay2 w' b off c (pre++seg'++post)∧Keep b w w':=by
 unfold maxLen at hm
 have hae:e≤n:=by rw[←hN,←he,←ha];simp
 have hNh:=Lib.hid hN
 have hah:=Lib.hid ha
 have heh:=Lib.hid he
 clear hN ha he
 unfold byAcc
 go_enter Tryz.func219,Tryz.ntmps219
 cases seg with
 |nil =>
  have hge:¬ (a:Int)+1<(e:Int):=by have:=heh.out;simp at this;omega
  have hw1:IntKind.i64.wrap ((a:Int)+1)=(a:Int)+1:=IntWalk.i64_in _ (by have:=heh.out;simp at this;omega)
  have hw2:wrap64 ((a:Int)+1)=(a:Int)+1:=by unfold wrap64;have:=heh.out;simp at this;omega
  go_wp2_with fail
  refine wp_loop_rounds 1 ?_
  rw[rounds_succ]
  go_wp2_with fail
  exact bodyPost_end (v:=.tuple #[]) (by simp[results,Tryz.results219,go_sem]) rfl ⟨rfl,[],rfl,Rises.nil,Stab.refl _,h,Keep.refl _ _⟩
 |cons s0 seg0 =>
  have hlt0:a+1≤e:=by have:=heh.out;simp at this;omega
  go_wp2_with fail
  go_loopw [8] (fun i wr=>∃(k K:Nat) (P:List Lin),1≤k∧K≤e∧Hid (a+k=K)∧i=.int .i64 (K:Int)∧Hid (P.length=k)∧Rises Lin.a P∧Stab Lin.a ((s0::seg0).take k) P∧Lay2 wr b off c (pre++P++(s0::seg0).drop k++post)∧Keep b w wr) (fun i _=>e-(intOf i).toNat)
  case atStart =>
   exact⟨1,a+1,[s0],by omega,by omega,rfl,by go_num,rfl,Rises.one _,Stab.refl _,by simpa using h,Keep.refl _ _⟩
  case round =>
   obtain⟨k,K,P,hk1,hk2,hkK,rfl,hP,hR,hS,hL,hK⟩:=hrel
   by_cases hlt:K<e
   ·have hltI:(K:Int)<(e:Int):=by omega
    obtain⟨x,R,hx⟩:∃x R,(s0::seg0).drop k=x::R:=by
     cases hd:(s0::seg0).drop k with
     |nil=>have:=heh.out;have:=hkK.out;rw[List.drop_eq_nil_iff]at hd;omega
     |cons x R=>exact⟨x,R,rfl⟩
    have hxh:=Lib.hid hx
    rw[hx]at hL
    clear hx
    go_wp2_with fail
    go_loopw [9] (fun j wr=>∃(J:Nat) (P1 P2:List Lin),Hid (P=P1++P2)∧(∀z,z∈P2→x.a<z.a)∧j=.int .i64 (J:Int)∧Hid (a+P1.length=J)∧J≤K∧Lay2 wr b off c (pre++P1++x::(P2++R++post))∧Keep b w wr) (fun j _=>(intOf j).toNat)
    case atStart =>
     exact⟨K,P,[],by simp[Hid],by simp,rfl,by rw[Hid,hP.out];exact hkK.out,by omega,by simpa using hL,hK⟩
    case round =>
     obtain⟨J,P1,P2,hP12,h2,rfl,hJ,hle,hL,hK⟩:=hrel
     rcases split_last P1 with rfl|⟨A,y,rfl⟩
     ·obtain rfl:a=J:=hJ.out
      clear hJ
      go_wp2_with fail
      go_quiet (fail)
      go_wp2_with fail
      case' roundEnd =>
       obtain⟨q1,q2,q3,q4,q5⟩:=ins_round (key:=Lin.a) hxh.out hP.out hR hS hP12.out h2 (by simp)
       refine⟨⟨k+1,K+1,[]++x::P2,by omega,by omega,by have:=hkK.out;show _=_;omega,by go_num,q1,q2,q3,?_,?_⟩,?_⟩
       ·rw[q4];have t:=hL.drewN nq;simpa using t
       ·exact hK.drewN _
       ·simp[intOf];omega
     ·obtain⟨m,hm⟩:∃m,a+A.length=m:=⟨_,rfl⟩
      obtain rfl:J=m+1:=by have:=hJ.out;simp at this;omega
      rw[show((m+1:Nat):Int)=(m:Int)+1 from by simp]
      have hmn2:m+1<n:=by omega
      have hL2:Lay2 wr b off c ((pre++A)++y::x::(P2++R++post)):=by simpa using hL
      have hpl:(pre++A).length+1=m+1:=by have:=hah.out;simp;omega
      have ham:(a:Int)≤(m:Int):=by omega
      have hmh:=Lib.hid hm
      clear hm hJ
      have hcx:=hL2.cells.line (get_snd (A:=pre++A) (B:=P2++R++post) (x:=x) (y:=y) hpl)
      have hcy:=hL2.cells.line (get_fst (A:=pre++A) (B:=P2++R++post) (x:=x) (y:=y) hpl)
      rw[Nat.add_sub_cancel]at hcy
      obtain⟨x0,x1⟩:=hcx
      obtain⟨y0,y1⟩:=hcy
      have hd1:decide ((a:Int)<(m:Int)+1)=true:=decide_eq_true (by omega)
      have hd4:IntKind.i64.wrap ((m:Int)+1-1)=(m:Int):=(IntWalk.i64_in _ (by omega)).trans (by omega)
      have hd10:IntKind.i64.wrap (m:Int)=(m:Int):=IntWalk.i64_in _ (by omega)
      have hd5:(0:Int)≤(m:Int)+1:=by omega
      have hd6:(0:Int)≤(m:Int):=by omega
      have hd7:(m:Int)<(n:Int):=by omega
      have hd8:((m:Int)+1).toNat=m+1:=by omega
      have hd9:(m:Int).toNat=m:=by omega
      have hd3:(a:Int)<(m:Int)+1:=by omega
      have hmnI:(m:Int)+1<(n:Int):=by omega
      have c0:=hL2.ccell
      have hclt:=hL2.clt
      go_wp2_with fail
      go_region_held3 (fun w'=>Lay2 w' b off c ((pre++A)++y::x::(P2++R++post))∧Keep b w w'∧c<w'.heap.size∧w'.cell? ⟨c,0,none⟩=some (.func (.func 147) #[] #[])∧w'.cell? ⟨b,off+(m+1)*2,none⟩=some (.int .i64 x.a)∧w'.cell? ⟨b,off+(m+1)*2+1,none⟩=some (.int .i64 x.n)∧w'.cell? ⟨b,off+m*2,none⟩=some (.int .i64 y.a)∧w'.cell? ⟨b,off+m*2+1,none⟩=some (.int .i64 y.n))
       (first
        |exact⟨hL2.drew,hK.drew,hclt,c0,x0,x1,y0,y1⟩
        |(go_split_ands;rename_i s1 s2 s3 s4 s5 s6 s7 s8;exact⟨s1.below hw2,s2.then hw2 h.lt,Nat.lt_of_lt_of_le s3 hw2.size,(hw2.cell s3).trans s4,(hw2.cell s1.lt).trans s5,(hw2.cell s1.lt).trans s6,(hw2.cell s1.lt).trans s7,(hw2.cell s1.lt).trans s8⟩))
       ((first
        |(go_at_call 189;refine(by_cmp x y c _ (by assumption) (by assumption)).mono ?_;rintro e w2 ⟨rfl,hw2⟩)))
      have hS3:=‹Lay2 _ b off c _∧_›
      clear hL hL2 hK x0 x1 y0 y1 c0 hclt
      obtain⟨s1,s2,s3,s4,s5,s6,s7,s8⟩:=hS3
      have hf1:=s1.fz (off+(m+1)*2)
      have hf2:=s1.fz (off+(m+1)*2+1)
      have hf3:=s1.fz (off+m*2)
      have hf4:=s1.fz (off+m*2+1)
      by_cases hcmp:x.a<y.a
      ·have hdc:cmpI x.a y.a<0:=cmpI_neg.2 hcmp
       go_wp2_with fail
       go_region
       all_goals
        go_wp2_with fail
        case' roundEnd =>
         have hl1:m+1<(pre++A++y::x::(P2++R++post)).length:=by simp at hpl ⊢;omega
         have t1:=(s1.set (i:=m+1) hl1 y).set (i:=m) (by rw[List.length_set];omega) x
         have t2:=swap_next (A:=pre++A) (B:=P2++R++post) (x:=x) (y:=y) hpl
         rw[Nat.add_sub_cancel]at t2
         rw[t2]at t1
         have t3:=(s2.set2 (off+(m+1)*2) y).set2 (off+m*2) x
         refine⟨⟨m,A,y::P2,by rw[Hid,hP12.out];simp,ins_step (P1:=A) h2 hcmp,by go_num,hmh.out,by omega,?_,?_⟩,?_⟩
         ·have t4:=t1.drew;unfold set2 at t4;simpa using t4
         ·have t5:=t3.drew;unfold set2 at t5;exact t5
         ·simp[intOf]
      ·have hdc:¬ cmpI x.a y.a<0:=fun h=>hcmp (cmpI_neg.1 h)
       go_wp2_with fail
       case' roundEnd =>
        have h1:∀z,z∈A++[y]→z.a≤x.a:=fun z hz=>by
         have:=Rises.last (key:=Lin.a) (a:=A) (y:=y) ((Rises.app.1 (show Rises Lin.a ((A++[y])++P2)by rw[←hP12.out];exact hR)).1) z hz
         omega
        obtain⟨q1,q2,q3,q4,q5⟩:=ins_round (key:=Lin.a) hxh.out hP.out hR hS hP12.out h2 h1
        refine⟨⟨k+1,K+1,(A++[y])++x::P2,by omega,by omega,by have:=hkK.out;show _=_;omega,by go_num,q1,q2,q3,?_,?_⟩,?_⟩
        ·rw[q4];exact(show Lay2 w2 b off c _ by simpa using s1)
        ·exact s2
        ·simp[intOf];omega
   ·have hke:K=e:=by omega
    have hge:¬ (K:Int)<(e:Int):=by omega
    go_wp2_with fail
    have hdk:(s0::seg0).drop k=[]:=by have:=heh.out;have:=hkK.out;exact List.drop_eq_nil_of_le (by omega)
    have htk:(s0::seg0).take k=s0::seg0:=by have:=heh.out;have:=hkK.out;exact List.take_of_length_le (by omega)
    rw[htk]at hS
    rw[hdk]at hL
    exact bodyPost_end (v:=.tuple #[]) (by simp[results,Tryz.results219,go_sem]) rfl ⟨rfl,P,by have:=heh.out;have:=hP.out;have:=hkK.out;simp at *;omega,hR,hS,by simpa using hL,hK⟩
end Go.Proofs.YtnalblnmplnhmaaGreat
