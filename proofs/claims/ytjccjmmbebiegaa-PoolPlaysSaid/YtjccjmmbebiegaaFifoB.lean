/-
 fifo.Out.
 One layer, piece by piece: the plain law.
-/
import Derived.Test.YtjccjmmbebiegaaFifoH
import Derived.Deep.RegionHeld3
import Derived.Test.YtjccjmmbebiegaaBase
import Derived.IntWalk
import Derived.StillTailTactics
import Derived.WalkLawsBesides
set_option linter.unusedVariables false
set_option linter.unusedSimpArgs false
set_option linter.unnecessarySimpa false
set_option linter.unusedVariables false
set_option linter.unusedSimpArgs false
namespace Go.Proofs.Ytjccjmmbebiegaa
open Go.RowKit
def HoldO (w:World) (r:List Lay×Lay×Int) (e:Ending) (w':World):Prop:=∃v,e=.returned (.tuple #[v,r.2.1.val,.int .i64 r.2.2])∧Hold w' w.heap.size v r.1∧Below w.heap.size w w'
def HoldB (w:World) (lo hi:Nat) (a:Option Addr) (cap:Nat) (l:List Lay):Prop :=
 l.length≤cap∧cap≤maxLen∧(l.length=0∨∃b off,a=some ⟨b,off,none⟩∧lo≤b∧b<hi∧CellsAt w b off (flat l)∧∀i,w.frozen? ⟨b,i,none⟩=false)
theorem HoldB.of_own {w:World} {base lo:Nat} {e:TypeId} {a:Option Addr} {cap:Nat} {l:List Lay} (h:OwnI w base e 3 (.slice a l.length cap) l.length (flat l)) (g:lo≤base):HoldB w lo w.heap.size a cap l:=by
 obtain⟨a',cap',e,h1,h2,h3⟩:=Hold.of_own h g
 cases e
 refine⟨h1,h2,?_⟩
 rcases h3 with h3|⟨b,off,rfl,h3,h4,h5,h6⟩
 ·exact .inl h3
 ·exact .inr ⟨b,off,rfl,h3,h4,h5,h6⟩
theorem HoldB.below {w w':World} {lo hi:Nat} {a:Option Addr} {cap:Nat} {l:List Lay} (h:HoldB w lo hi a cap l) (g:Below hi w w'):HoldB w' lo hi a cap l:=by
 obtain⟨h1,h2,h3⟩:=h
 refine⟨h1,h2,?_⟩
 rcases h3 with h3|⟨b,off,rfl,hb,h4,h5,h6⟩
 ·exact .inl h3
 ·exact .inr ⟨b,off,rfl,hb,h4,fun i hi=>(g.cell (p:=⟨b,off+i,none⟩) h4).trans (h5 i hi),fun i=>(g.frozen (p:=⟨b,i,none⟩) h4).trans (h6 i)⟩
theorem HoldB.hold {w:World} {lo hi:Nat} {a:Option Addr} {cap:Nat} {l:List Lay} (h:HoldB w lo hi a cap l) (g:hi≤w.heap.size):Hold w lo (.slice a l.length cap) l:=by
 obtain⟨h1,h2,h3⟩:=h
 refine⟨a,cap,rfl,h1,h2,?_⟩
 rcases h3 with h3|⟨b,off,rfl,hb,h4,h5,h6⟩
 ·exact .inl h3
 ·exact .inr ⟨b,off,rfl,hb,Nat.lt_of_lt_of_le h4 g,h5,h6⟩
theorem HoldB.hi {w:World} {lo hi hi':Nat} {a:Option Addr} {cap:Nat} {l:List Lay} (h:HoldB w lo hi a cap l) (g:hi≤hi'):HoldB w lo hi' a cap l:=by
 obtain⟨h1,h2,h3⟩:=h
 refine⟨h1,h2,?_⟩
 rcases h3 with h3|⟨b,off,rfl,hb,h4,h5⟩
 ·exact .inl h3
 ·exact .inr ⟨b,off,rfl,hb,Nat.lt_of_lt_of_le h4 g,h5⟩
def lenOf:Value→Nat | .slice _ n _=>n|_=>0
structure Taking (l:List Lay) (q:Int) (m:List Lay) (b:Lay) (r:Int):Prop where
 e:outL l .zero q=outL m b r
 lr:LR m
 r0:0≤r
 r1:r≤qs m
 q0:0≤b.q
 q1:b.q+r≤288230376151711744
 v0:0≤b.v
 v1:b.v+vs m≤288230376151711744
 p1:max b.p (-b.p)+aps m≤288230376151711744
theorem World.cell?_put_far (w:World) {g b:Nat} (h:b≠g) (i j:Nat) (u:Value):(w.setCell ⟨g,i,none⟩ u).cell? ⟨b,j,none⟩=w.cell? ⟨b,j,none⟩:=World.cell?_of_block (w:=w) (Below.heap_setCell _ _ _ _ h)
def set3 (w:World) (b off:Nat) (x:Lay):World:=((w.setCell ⟨b,off,none⟩ (.int .i64 x.q)).setCell ⟨b,off+1,none⟩ (.int .i64 x.v)).setCell ⟨b,off+2,none⟩ (.int .i64 x.p)
theorem set3_cell (w:World) {g b:Nat} (h:b≠g) (off j:Nat) (x:Lay):(set3 w g off x).cell? ⟨b,j,none⟩=w.cell? ⟨b,j,none⟩:=by
 unfold set3;rw[World.cell?_put_far _ h,World.cell?_put_far _ h,World.cell?_put_far _ h]
theorem set3_frozen (w:World) (g off:Nat) (x:Lay) (p:Addr):(set3 w g off x).frozen? p=w.frozen? p:=by
 unfold set3;simp
theorem set3_size (w:World) (g off:Nat) (x:Lay):(set3 w g off x).heap.size=w.heap.size:=by
 unfold set3;simp[World.setCell]
theorem set3_below {w W:World} {B g:Nat} (h:Below B w W) (hg:B≤g) (off:Nat) (x:Lay):Below B w (set3 W g off x):=((h.setCell (p:=⟨g,off,none⟩) hg _).setCell (p:=⟨g,off+1,none⟩) hg _).setCell (p:=⟨g,off+2,none⟩) hg _
theorem set3_at {w:World} {b off:Nat} {u0 u1 u2:Value} (x:Lay) (c0:w.cell? ⟨b,off,none⟩=some u0) (c1:w.cell? ⟨b,off+1,none⟩=some u1) (c2:w.cell? ⟨b,off+2,none⟩=some u2) :
  (set3 w b off x).cell? ⟨b,off,none⟩=some (.int .i64 x.q)∧(set3 w b off x).cell? ⟨b,off+1,none⟩=some (.int .i64 x.v)∧(set3 w b off x).cell? ⟨b,off+2,none⟩=some (.int .i64 x.p):=by
 unfold set3
 simp[go_sem,c0,c1,c2]
theorem set3_out {w:World} {b off j:Nat} (x:Lay) (h:j<off∨off+2<j):(set3 w b off x).cell? ⟨b,j,none⟩=w.cell? ⟨b,j,none⟩:=by
 unfold set3
 rw[World.cell?_setCell_other,World.cell?_setCell_other,World.cell?_setCell_other]
 ·intro e;injection e;omega
 ·intro e;injection e;omega
 ·intro e;injection e;omega
theorem Cell3.sets {w:World} {b g off:Nat} {x y z:Int} (h:Cell3 w b x y z) (hne:b≠g) (u:Lay):Cell3 (set3 w g off u) b x y z :=
 ⟨(set3_cell w hne _ _ _).trans h.c0,(set3_cell w hne _ _ _).trans h.c1,(set3_cell w hne _ _ _).trans h.c2,(set3_frozen _ _ _ _ _).trans h.f0,(set3_frozen _ _ _ _ _).trans h.f1,(set3_frozen _ _ _ _ _).trans h.f2⟩
theorem Cell3.put {w:World} {b:Nat} {x y z:Int} (h:Cell3 w b x y z) (u:Lay):Cell3 (set3 w b 0 u) b u.q u.v u.p:=by
 obtain⟨a,b,c⟩:=set3_at u h.c0 (show w.cell? ⟨b,0+1,none⟩=_ from h.c1) (show w.cell? ⟨b,0+2,none⟩=_ from h.c2)
 exact⟨a,b,c,(set3_frozen _ _ _ _ _).trans h.f0,(set3_frozen _ _ _ _ _).trans h.f1,(set3_frozen _ _ _ _ _).trans h.f2⟩
theorem Cell3.drew {w:World} {b:Nat} {x y z:Int} (h:Cell3 w b x y z):Cell3 w.drew b x y z:=⟨h.c0,h.c1,h.c2,h.f0,h.f1,h.f2⟩
theorem HoldB.sets {w:World} {lo hi:Nat} {a:Option Addr} {cap:Nat} {l:List Lay} (h:HoldB w lo hi a cap l) {g:Nat} (hg:g<lo∨hi≤g) (off:Nat) (u:Lay):HoldB (set3 w g off u) lo hi a cap l:=by
 obtain⟨h1,h2,h3⟩:=h
 refine⟨h1,h2,?_⟩
 rcases h3 with h3|⟨b,o,rfl,hb,h4,h5,h6⟩
 ·exact .inl h3
 ·exact .inr ⟨b,o,rfl,hb,h4,fun i hi=>(set3_cell w (by omega) _ _ _).trans (h5 i hi),fun i=>(set3_frozen _ _ _ _ _).trans (h6 i)⟩
theorem HoldB.drew {w:World} {lo hi:Nat} {a:Option Addr} {cap:Nat} {l:List Lay} (h:HoldB w lo hi a cap l):HoldB w.drew lo hi a cap l:=h
theorem HoldB.put {w:World} {lo hi b off cap:Nat} {x:Lay} {l:List Lay} (h:HoldB w lo hi (some ⟨b,off,none⟩) cap (x::l)) (u:Lay):HoldB (set3 w b off u) lo hi (some ⟨b,off,none⟩) cap (u::l):=by
 obtain⟨h1,h2,h3⟩:=h
 refine⟨h1,h2,?_⟩
 rcases h3 with h3|⟨b',o',e,hb,h4,h5,h6⟩
 ·cases h3
 ·cases e
  obtain⟨c0,c1,c2⟩:=h5.head
  obtain⟨s0,s1,s2⟩:=set3_at u c0 c1 c2
  refine .inr ⟨_,_,rfl,hb,h4,CellsAt.cons s0 s1 s2 fun i hi=>?_,fun i=>(set3_frozen _ _ _ _ _).trans (h6 i)⟩
  rw[set3_out u (.inr (by omega))]
  exact h5.tail i hi
theorem HoldB.tail {w:World} {lo hi b off cap:Nat} {x:Lay} {l:List Lay} (h:HoldB w lo hi (some ⟨b,off,none⟩) cap (x::l)):HoldB w lo hi (some ⟨b,off+3,none⟩) l.length l:=by
 obtain⟨h1,h2,h3⟩:=h
 refine⟨Nat.le_refl _,by simp only[List.length_cons]at h1;omega,?_⟩
 rcases h3 with h3|⟨b',o',e,hb,h4,h5,h6⟩
 ·cases h3
 ·cases e
  exact .inr ⟨_,_,rfl,hb,h4,h5.tail,h6⟩
theorem HoldB.none {w:World} {lo hi:Nat} {a:Option Addr}:HoldB w lo hi a 0 []:=⟨Nat.le_refl _,by unfold maxLen;omega,.inl rfl⟩
theorem Taking.cut {l:List Lay} {q k:Int} {x b:Lay} {t:List Lay} (h:Taking l q (x::t) b k) (h0:1≤k) (h1:k<x.q):Taking l q (minusL x (cutL x k)::t) (plusL b (cutL x k)) (k-(cutL x k).q):=by
 have hx:=h.lr.ok x (by simp)
 have c:=cut_ok hx h0 h1
 have cp:=cut_p hx (q:=k) (by omega) (by omega)
 have cb:=cut_bd hx (q:=k) (by omega) (by omega)
 have hl:=outL_LR (x::t) b k h.lr
 have hs:=outL_sum (x::t) b k h.lr (by omega) h.r1
 have eo:outL (x::t) b k=(minusL x (cutL x k)::t,plusL b (cutL x k)):=by rw[outL,if_neg (by omega),if_pos h1]
 rw[eo]at hl hs
 have e0:k-(cutL x k).q=0:=by simp only[cutL];omega
 have e:=h.e
 rw[eo]at e
 obtain⟨g1,g2,g3,g4,g5,g6,g7,g8,g9⟩:=h
 simp only at hl hs
 rw[vs_cons]at g8
 rw[aps_cons]at g9
 rw[e0]
 refine⟨by rw[e,outL_done (Int.le_refl 0)],hl.1,Int.le_refl 0,?_,?_,?_,?_,?_,?_⟩
 ·have:=qs_pos hl.1.ok;omega
 ·simp only[plusL,cutL];omega
 ·simp only[plusL,cutL];omega
 ·have:=cb.v0;simp only[plusL,cutL];omega
 ·rw[vs_cons];simp only[plusL,cutL,minusL];omega
 ·rw[aps_cons];simp only[plusL,cutL,minusL]
  have cp2:=cut_p2 hx (q:=k) (by omega) (by omega)
  omega
theorem Taking.whole {l:List Lay} {q k:Int} {x b:Lay} {t:List Lay} (h:Taking l q (x::t) b k) (h0:1≤k) (h1:¬ k<x.q):Taking l q t (plusL b x) (k-x.q):=by
 have hx:=layOk_iff.1 (h.lr.ok x (by simp))
 have eo:outL (x::t) b k=outL t (plusL b x) (k-x.q):=by rw[outL,if_neg (by omega),if_neg h1]
 obtain⟨g1,g2,g3,g4,g5,g6,g7,g8,g9⟩:=h
 rw[eo]at g1
 rw[qs_cons]at g4
 rw[vs_cons]at g8
 rw[aps_cons]at g9
 refine⟨g1,g2.tail,by omega,by omega,?_,?_,?_,?_,?_⟩<;>simp only[plusL]<;>omega
theorem Taking.start {l:List Lay} {q:Int} (h:LR l) (h0:1≤q) (h1:q≤qs l):Taking l q l .zero q:=by
 have:=h.q;have:=h.v;have:=h.p
 refine⟨rfl,h,by omega,h1,?_,?_,?_,?_,?_⟩<;>simp[Lay.zero]<;>omega
set_option maxRecDepth 20000 in
set_option maxHeartbeats 3000000 in
theorem fifo_Out (a:Option Addr) (cap:Nat) (l:List Lay) (w:World) (h:Row w 3 a l.length cap (flat l)) (hL:LR l) (q:Int) (hq:I64 q) :
  Calls Try.prog 70 #[.slice a l.length cap,.int .i64 q] w (HoldO w (outS l q)):=by
 have h0:=h
 obtain⟨hl,hcap,hmax,hall,hat⟩:=h
 obtain⟨hq0,hq1⟩:=hq
 unfold maxLen at hmax
 have hlen:=hL.len
 by_cases q1:q<1
 ·have e:outS l q=(l,.zero,1):=by simp[outS,q1]
  rw[e]
  go_enter Try.func70,Try.ntmps70
  try simp only[List.append_eq,List.cons_append,List.nil_append]
  go_wp2_with (first|(go_at_call 58;refine(Clone_Layer a l.length cap (flat l) _ (h0.below (by(repeat (first|assumption|exact Below.refl _ _|refine ballc ?_ _|refine bdrew ?_|refine bdrewN ?_ _|refine bset ?_ _ _|refine bsetN ?_ (by omega) _ _|refine bthen ?_ (by assumption))))) (by omega)).mono ?_;rintro e w1 ⟨⟨v1,rfl,hown⟩,hw1⟩;obtain⟨⟨r0,r1,r2,z0,z1,z2⟩,hlw,hlw1,hlw2,hlw3⟩:=res3 hw1))
  exact bodyPost_ret (v:=.tuple #[v1,Lay.zero.val,.int .i64 1]) (by simp[results,Try.results70,go_sem,hlw,hlw1,r0,r1,r2,z0,z1,z2]) rfl ⟨_,rfl,(Hold.of_own hown (by simp)).set3 _ _ _,by(repeat (first|assumption|exact Below.refl _ _|refine ballc ?_ _|refine bdrew ?_|refine bdrewN ?_ _|refine bset ?_ _ _|refine bsetN ?_ (by omega) _ _|refine bthen ?_ (by assumption)))⟩
 by_cases q2:qs l<q
 ·have e:outS l q=(l,.zero,5):=outS_short hL (by omega) q2
  rw[e]
  have hs:¬ q≤qs l:=by omega
  have hsd:decide (q≤qs l)=false:=by simp[hs]
  have hq:=Lib.hid hsd
  clear hsd hs
  go_enter Try.func70,Try.ntmps70
  try simp only[List.append_eq,List.cons_append,List.nil_append]
  go_wp2_with (first|(go_at_call 58;refine(Clone_Layer a l.length cap (flat l) _ (h0.below (by(repeat (first|assumption|exact Below.refl _ _|refine ballc ?_ _|refine bdrew ?_|refine bdrewN ?_ _|refine bset ?_ _ _|refine bsetN ?_ (by omega) _ _|refine bthen ?_ (by assumption))))) (by omega)).mono ?_;rintro e w1 ⟨⟨v1,rfl,hown⟩,hw1⟩;obtain⟨⟨r0,r1,r2,z0,z1,z2⟩,hlw,hlw1,hlw2,hlw3⟩:=res3 hw1;obtain⟨a1,c1,rfl,R1⟩:=hown.row hall)|(go_at_call 75;refine(fifo_has a1 c1 l _ R1 (List.all_eq_true.2 hL.ok) (qs l) hL.sums.1 q (by omega) hq1).mono ?_;rw[hq.out];rintro e w2 ⟨rfl,hw2⟩;obtain⟨⟨s0,s1,s2,t0,t1,t2⟩,hl2,hl3,hl4,hl5⟩:=Cell3.next ⟨r0,r1,r2,z0,z1,z2⟩ hlw hw2))
  exact bodyPost_ret (v:=.tuple #[.slice a1 l.length c1,Lay.zero.val,.int .i64 5]) (by simp[results,Try.results70,go_sem,hl2,hl3,s0,s1,s2,t0,t1,t2]) rfl ⟨_,rfl,((Hold.of_own hown (by simp)).below hw2).set3 _ _ _,by(repeat (first|assumption|exact Below.refl _ _|refine ballc ?_ _|refine bdrew ?_|refine bdrewN ?_ _|refine bset ?_ _ _|refine bsetN ?_ (by omega) _ _|refine bthen ?_ (by assumption)))⟩
 have hsd:decide (q≤qs l)=true:=by simp;omega
 have hqd:=Lib.hid hsd
 clear hsd
 rw[outS_ok hL (by omega) (by omega)]
 go_enter Try.func70,Try.ntmps70
 try simp only[List.append_eq,List.cons_append,List.nil_append]
 go_wp2_with (first|(go_at_call 58;refine(Clone_Layer a l.length cap (flat l) _ (h0.below (by(repeat (first|assumption|exact Below.refl _ _|refine ballc ?_ _|refine bdrew ?_|refine bdrewN ?_ _|refine bset ?_ _ _|refine bsetN ?_ (by omega) _ _|refine bthen ?_ (by assumption))))) (by omega)).mono ?_;rintro e w1 ⟨⟨v1,rfl,hown⟩,hw1⟩;obtain⟨⟨r0,r1,r2,z0,z1,z2⟩,hlw,hlw1,hlw2,hlw3⟩:=res3 hw1;obtain⟨a1,c1,rfl,R1⟩:=hown.row hall)|(go_at_call 75;refine(fifo_has a1 c1 l _ R1 (List.all_eq_true.2 hL.ok) (qs l) hL.sums.1 q (by omega) hq1).mono ?_;rw[hqd.out];rintro e w2 ⟨rfl,hw2⟩;obtain⟨⟨s0,s1,s2,t0,t1,t2⟩,hl2,hl3,hl4,hl5⟩:=Cell3.next ⟨r0,r1,r2,z0,z1,z2⟩ hlw hw2))
 have hb0:=(HoldB.of_own (lo:=w.heap.size+1) hown (by simp)).below hw2
 have hbel0:Below w.heap.size w w2:=by(repeat (first|assumption|exact Below.refl _ _|refine ballc ?_ _|refine bdrew ?_|refine bdrewN ?_ _|refine bset ?_ _ _|refine bsetN ?_ (by omega) _ _|refine bthen ?_ (by assumption)))
 have hsz2:w1.heap.size≤w2.heap.size:=hw2.size
 have hT:=Taking.start hL (show 1≤q by omega) (show q≤qs l by omega)
 have hqd:=Lib.hid True.intro
 clear hown R1 hw1 hw2 h0 hat hl hall hlw hlw1 hlw2 hlw3 r0 r1 r2 z0 z1 z2 hl3 hl4 hl5 hqd
 go_loopw [0,1] (fun v r wr=>∃(a:Option Addr) (cap:Nat) (m:List Lay) (b:Lay) (k:Int),v=.slice a m.length cap∧r=.int .i64 k∧HoldB wr (w.heap.size+1) w2.heap.size a cap m∧Cell3 wr w.heap.size 0 0 0∧Cell3 wr w2.heap.size b.q b.v b.p∧w2.heap.size+1≤wr.heap.size∧Below w.heap.size w wr∧Taking l q m b k) (fun _ r _=>(intOf r).toNat)
 case atStart=>exact⟨a1,c1,l,.zero,q,rfl,rfl,(hb0.hi hsz2).below ((Below.refl _ _).alloc (Nat.le_refl _) _),⟨by go_simp,by go_simp,by go_simp,by go_simp,by go_simp,by go_simp⟩,⟨by go_simp,by go_simp,by go_simp,by simp,by simp,by simp⟩,by simp,by(repeat (first|assumption|exact Below.refl _ _|refine ballc ?_ _|refine bdrew ?_|refine bdrewN ?_ _|refine bset ?_ _ _|refine bsetN ?_ (by omega) _ _|refine bthen ?_ (by assumption))),hT⟩
 case round =>
  obtain⟨a2,c2,m,b,k,rfl,rfl,⟨hm1,hm2,hm3⟩,⟨r0,r1,r2,z0,z1,z2⟩,⟨y0,y1,y2,x0,x1,x2⟩,hs2,hbel,hst⟩:=hrel
  unfold maxLen at hm2
  have hl0:w.heap.size<wr.heap.size:=by omega
  have hl1:w2.heap.size<wr.heap.size:=by omega
  have hne:w.heap.size≠w2.heap.size:=by omega
  by_cases hx:m.length=0∨k≤0
  ·have he:((outL l .zero q).1,(outL l .zero q).2,(0:Int))=(m,b,0):=by
    rw[hst.e]
    rcases hx with hx|hx
    ·rw[List.eq_nil_of_length_eq_zero hx];rfl
    ·rw[outL_done hx]
   have hB:HoldB wr (w.heap.size+1) w2.heap.size a2 c2 m:=⟨hm1,hm2,hm3⟩
   clear hst hm3
   have he:=Lib.hid he
   have hx2:¬ (0:Int)<(m.length:Int)∨(0:Int)<(m.length:Int)∧¬ 0<k:=by omega
   clear hx
   rcases hx2 with hx|⟨hx,hx3⟩
   all_goals
    go_wp2_with fail
    go_region_held3 (fun w'=>w'.cell? ⟨w2.heap.size,0,none⟩=some (.int .i64 b.q)∧w'.cell? ⟨w2.heap.size,1,none⟩=some (.int .i64 b.v)∧w'.cell? ⟨w2.heap.size,2,none⟩=some (.int .i64 b.p)) (go_keep) (fail)
    go_wp2
    have hres:=(hB.hold (by omega)).set3 (.int .i64 b.q) (.int .i64 b.v) (.int .i64 b.p)
    have hbelF:Below w.heap.size w (((wr.setCell ⟨w.heap.size,0,none⟩ (.int .i64 b.q)).setCell ⟨w.heap.size,1,none⟩ (.int .i64 b.v)).setCell ⟨w.heap.size,2,none⟩ (.int .i64 b.p)).drew:=bdrew (bset (bset (bset hbel 0 _) 1 _) 2 _)
    exact bodyPost_ret (v:=.tuple #[.slice a2 m.length c2,b.val,.int .i64 0]) (by simp[results,Try.results70,go_sem,hl0,r0,r1,r2,z0,z1,z2]) rfl (by rw[he.out];exact⟨_,rfl,hres.below (by(repeat (first|assumption|exact Below.refl _ _|refine ballc ?_ _|refine bdrew ?_|refine bdrewN ?_ _|refine bset ?_ _ _|refine bsetN ?_ (by omega) _ _|refine bthen ?_ (by assumption)))),hbelF⟩)
  cases m with
  |nil=>simp at hx
  |cons x t =>
   obtain⟨g,off,rfl,hg1,hg2,hc,hf⟩:∃g off,a2=some ⟨g,off,none⟩∧w.heap.size+1≤g∧g<w2.heap.size∧CellsAt wr g off (flat (x::t))∧∀i,wr.frozen? ⟨g,i,none⟩=false:=by
    rcases hm3 with hm3|hm3
    ·simp at hm3
    ·exact hm3
   obtain⟨c0,c1',c2'⟩:=hc.head
   have hk:1≤k:=by omega
   have hlen2:(0:Int)<(t.length:Int)+1:=by omega
   have hpos:0<t.length+1:=by omega
   clear hm3 hx
   have hlr:=hst.lr
   obtain⟨k1,k2,k3,k4,k5,k6⟩:=hlr.at_ (x:=x) (by simp)
   have hm1:t.length+1≤c2:=hm1
   have hI1:(t.length:Int)+1≤(c2:Int):=by omega
   have hI2:(0:Int)≤(t.length:Int)+1:=by omega
   have hI3:(1:Int)≤(t.length:Int)+1:=by omega
   clear s0 s1 s2 t0 t1 t2 hb0 hbel0 hT hcap hmax hqd hlen hL
   simp only[List.length_cons]
   by_cases hcut:k<x.q
   ·go_wp2_with fail
    obtain⟨V,hV⟩:∃V,V=wr.alloc (.cells #[.int .i64 x.q,.int .i64 x.v,.int .i64 x.p] 32):=⟨_,rfl⟩
    have hB:Below wr.heap.size wr V:=by rw[hV];exact(Below.refl _ wr).alloc (Nat.le_refl _) _
    have hVs:V.heap.size=wr.heap.size+1:=by rw[hV];simp
    have hX:Cell3 V wr.heap.size x.q x.v x.p:=by rw[hV];exact⟨by simp,by simp,by simp,by simp,by simp,by simp⟩
    have hR:Cell3 V w.heap.size 0 0 0:=(Cell3.next ⟨r0,r1,r2,z0,z1,z2⟩ hl0 hB).1
    have hO:Cell3 V w2.heap.size b.q b.v b.p:=(Cell3.next ⟨y0,y1,y2,x0,x1,x2⟩ hl1 hB).1
    have hHB:HoldB V (w.heap.size+1) w2.heap.size (some ⟨g,off,none⟩) c2 (x::t):=HoldB.below ⟨hm1,hm2,.inr ⟨g,off,rfl,hg1,hg2,hc,hf⟩⟩ (hB.mono (by omega))
    have hbelV:Below w.heap.size w V:=hbel.trans (hB.mono (by omega))
    rw[←hV]
    clear hV hB r0 r1 r2 z0 z1 z2 y0 y1 y2 x0 x1 x2 hc hf c0 c1' c2' hbel
    have hx:=hlr.ok x (by simp)
    have cb:=cut_bd hx (q:=k) (by omega) (by omega)
    have hT:=hst.cut hk hcut
    have i1:I64 x.v:=⟨by omega,by omega⟩
    have i2:I64 k:=⟨by omega,by omega⟩
    have i3:I64 x.q:=⟨by omega,by omega⟩
    have i4:I64 x.p:=⟨by omega,by omega⟩
    obtain⟨d0,d1,d2,f0,f1,f2⟩:=id hX
    have hVl:wr.heap.size<V.heap.size:=by omega
    have hTh:=Lib.hid hT
    clear hT
    refine wp_region_det' 2 [some 35,some 36,some 37,some 38,some 39,some 40,some 41,some 42,some 43,some 44,some 45,some 46,some 47,some 48,none] [14] [(0,0),(0,0),(0,0),(0,0),(0,0),(0,0),(0,0),(0,0),(0,0),(0,0),(0,0),(0,0),(0,0),(0,0),(0,0)] (pick [fun w'=>Below V.heap.size V w',fun w'=>∃w1,Below V.heap.size V w1∧w'=set3 w1 wr.heap.size 0 (cutL x k)]) [.int .i64 (k),.pointer (some ⟨wr.heap.size,1,none⟩),.int .i64 (x.v),.int .i64 (k),.pointer (some ⟨wr.heap.size,0,none⟩),.int .i64 (x.q),.int .i64 (partS x.v k x.q),.pointer (some ⟨wr.heap.size,2,none⟩),.int .i64 (x.p),.int .i64 (k),.pointer (some ⟨wr.heap.size,0,none⟩),.int .i64 (x.q),.int .i64 (partS x.p k x.q),.agg #[.int .i64 (k),.int .i64 (partS x.v k x.q),.int .i64 (partS x.p k x.q)],undef] (by kernel_rfl) (by kernel_rfl) (by kernel_rfl) rfl (by kernel_rfl) (by kernel_rfl) (by kernel_rfl) (by rfl) ((Below.refl _ V).drew) ?steps ?fin
    case steps =>
     intro ρ hin hout hconst hfun
     have r1:ρ (.tmp 1)=.int .i64 (k):=hout 1 rfl
     have r8:ρ (.tmp 8)=.pointer (some ⟨wr.heap.size,0,none⟩):=hout 8 rfl
     have r36:ρ (.tmp 36)=.pointer (some ⟨wr.heap.size,1,none⟩):=hin 1 36 rfl
     have r39:ρ (.tmp 39)=.pointer (some ⟨wr.heap.size,0,none⟩):=hin 4 39 rfl
     have r37:ρ (.tmp 37)=.int .i64 (x.v):=hin 2 37 rfl
     have r38:ρ (.tmp 38)=.int .i64 (k):=hin 3 38 rfl
     have r40:ρ (.tmp 40)=.int .i64 (x.q):=hin 5 40 rfl
     have r42:ρ (.tmp 42)=.pointer (some ⟨wr.heap.size,2,none⟩):=hin 7 42 rfl
     have r45:ρ (.tmp 45)=.pointer (some ⟨wr.heap.size,0,none⟩):=hin 10 45 rfl
     have r43:ρ (.tmp 43)=.int .i64 (x.p):=hin 8 43 rfl
     have r44:ρ (.tmp 44)=.int .i64 (k):=hin 9 44 rfl
     have r46:ρ (.tmp 46)=.int .i64 (x.q):=hin 11 46 rfl
     have r35:ρ (.tmp 35)=.int .i64 (k):=hin 0 35 rfl
     have r41:ρ (.tmp 41)=.int .i64 (partS x.v k x.q):=hin 6 41 rfl
     have r47:ρ (.tmp 47)=.int .i64 (partS x.p k x.q):=hin 12 47 rfl
     have r48:ρ (.tmp 48)=.agg #[.int .i64 (k),.int .i64 (partS x.v k x.q),.int .i64 (partS x.p k x.q)]:=hin 13 48 rfl
     clear hin hout
     refine DetSteps.pure (by decide) (fun ww=>Step.value (by simp[execOp,r1])) ?_
     refine DetSteps.pure (by decide) (fun ww=>Step.value (by simp[execOp,go_sem,r8])) ?_
     refine DetSteps.load (by decide) (fun s ww h1 h2 hw=>by rcases(by omega:s=0)with rfl<;>(simp only[pick,List.getD_cons_zero,List.getD_cons_succ]at hw;have d0':=(hw.cell hVl).trans d0;have d1':=(hw.cell hVl).trans d1;have d2':=(hw.cell hVl).trans d2;exact Step.value (by simp[execOp,go_sem,r36,d0',d1',d2']))) ?_
     refine DetSteps.pure (by decide) (fun ww=>Step.value (by simp[execOp,r1])) ?_
     refine DetSteps.pure (by decide) (fun ww=>Step.value (by simp[execOp,go_sem,r8])) ?_
     refine DetSteps.load (by decide) (fun s ww h1 h2 hw=>by rcases(by omega:s=0)with rfl<;>(simp only[pick,List.getD_cons_zero,List.getD_cons_succ]at hw;have d0':=(hw.cell hVl).trans d0;have d1':=(hw.cell hVl).trans d1;have d2':=(hw.cell hVl).trans d2;exact Step.value (by simp[execOp,go_sem,r39,d0',d1',d2']))) ?_
     refine DetSteps.call (by decide) (fun s ww h1 h2 hw=>by rcases(by omega:s=0)with rfl<;>(simp only[pick,List.getD_cons_zero,List.getD_cons_succ]at hw ⊢;exact StepP.call (w1:=ww) (by simp[execOp,go_sem,r37,r38,r40,hfun]) ((money_Part x.v k x.q ww i1 i2 i3).mono fun e w3 h3=>⟨h3.1,bthen hw h3.2⟩))) ?_
     refine DetSteps.pure (by decide) (fun ww=>Step.value (by simp[execOp,go_sem,r8])) ?_
     refine DetSteps.load (by decide) (fun s ww h1 h2 hw=>by rcases(by omega:s=0)with rfl<;>(simp only[pick,List.getD_cons_zero,List.getD_cons_succ]at hw;have d0':=(hw.cell hVl).trans d0;have d1':=(hw.cell hVl).trans d1;have d2':=(hw.cell hVl).trans d2;exact Step.value (by simp[execOp,go_sem,r42,d0',d1',d2']))) ?_
     refine DetSteps.pure (by decide) (fun ww=>Step.value (by simp[execOp,r1])) ?_
     refine DetSteps.pure (by decide) (fun ww=>Step.value (by simp[execOp,go_sem,r8])) ?_
     refine DetSteps.load (by decide) (fun s ww h1 h2 hw=>by rcases(by omega:s=0)with rfl<;>(simp only[pick,List.getD_cons_zero,List.getD_cons_succ]at hw;have d0':=(hw.cell hVl).trans d0;have d1':=(hw.cell hVl).trans d1;have d2':=(hw.cell hVl).trans d2;exact Step.value (by simp[execOp,go_sem,r45,d0',d1',d2']))) ?_
     refine DetSteps.call (by decide) (fun s ww h1 h2 hw=>by rcases(by omega:s=0)with rfl<;>(simp only[pick,List.getD_cons_zero,List.getD_cons_succ]at hw ⊢;exact StepP.call (w1:=ww) (by simp[execOp,go_sem,r43,r44,r46,hfun]) ((money_Part x.p k x.q ww i4 i2 i3).mono fun e w3 h3=>⟨h3.1,bthen hw h3.2⟩))) ?_
     refine DetSteps.pure (by decide) (fun ww=>Step.value (by simp[execOp,go_sem,r35,r41,r47])) ?_
     refine DetSteps.store (by decide) (fun ww hw=>by simp only[pick,List.getD_cons_zero,List.getD_cons_succ]at hw ⊢;have d0':=(hw.cell hVl).trans d0;have d1':=(hw.cell hVl).trans d1;have d2':=(hw.cell hVl).trans d2;have f0':=(hw.frozen hVl).trans f0;have f1':=(hw.frozen hVl).trans f1;have f2':=(hw.frozen hVl).trans f2;exact Step.pred (w':=set3 ww wr.heap.size 0 (cutL x k)) (Step.skip rfl (by simp[execOp,go_sem,set3,cutL,r8,r48,d0',d1',d2',f0',f1',f2'])) ⟨ww,hw,rfl⟩) ?_
     exact True.intro
    case fin =>
     intro wf hw
     simp only[pick,List.getD_cons_zero,List.getD_cons_succ,List.length_cons,List.length_nil]at hw
     simp only[puts,Act.put,List.getD_cons_zero,List.getD_cons_succ,List.setIfInBounds_toArray,List.set_cons_succ,List.set_cons_zero,List.length_cons,List.length_nil]
     obtain⟨wx,hwx,rfl⟩:=hw
     have hO2:=((Cell3.next hO (by omega) hwx).1).sets (g:=wr.heap.size) (off:=0) (by omega) (cutL x k)
     have hR2:=((Cell3.next hR (by omega) hwx).1).sets (g:=wr.heap.size) (off:=0) (by omega) (cutL x k)
     have hX2:Cell3 (set3 wx wr.heap.size 0 (cutL x k)) wr.heap.size k (partS x.v k x.q) (partS x.p k x.q):=((Cell3.next hX hVl hwx).1).put (cutL x k)
     have hHB2:=(hHB.below (hwx.mono (by omega))).sets (g:=wr.heap.size) (.inr (by omega)) 0 (cutL x k)
     have hbel2:Below w.heap.size w (set3 wx wr.heap.size 0 (cutL x k)):=set3_below (bthen hbelV (hwx.mono (by omega))) (by omega) _ _
     have hVs2:wr.heap.size+1≤(set3 wx wr.heap.size 0 (cutL x k)).heap.size:=by rw[set3_size];have:=hwx.size;omega
     generalize set3 wx wr.heap.size 0 (cutL x k)=V1 at *
     clear hX hO hR hHB hbelV hVs hVl d0 d1 d2 f0 f1 f2 hwx
     go_wp2_with fail
     obtain⟨d0,d1,d2,f0,f1,f2⟩:=id hX2
     obtain⟨g',o',eg,hgl,hgh,hcc,hff⟩:=hHB2.2.2.resolve_left (by simp)
     cases eg
     obtain⟨c0,c1',c2'⟩:=hcc.head
     have g0:=hff off;have g1:=hff (off+1);have g2:=hff (off+2)
     have cp2:=cut_p2 hx (q:=k) (by omega) (by omega)
     have cv0:=cb.v0;have cv1:=cb.v1;have cd0:=cb.d0;have cd1:=cb.d1
     have hng:g≠wr.heap.size:=by omega
     have e0:IntKind.i64.wrap (x.q-k)=x.q-k:=IntWalk.i64_in _ (by omega)
     have e1:IntKind.i64.wrap (x.v-partS x.v k x.q)=x.v-partS x.v k x.q:=IntWalk.i64_in _ (by omega)
     have e2:IntKind.i64.wrap (x.p-partS x.p k x.q)=x.p-partS x.p k x.q:=IntWalk.i64_in _ (by omega)
     refine wp_region_det' 2 [some 49,some 50,some 51,some 52,some 53,some 54,some 55,some 56,some 57,some 58,some 59,some 60,some 61,some 62,some 63,some 64,some 65,some 66,some 67,some 68,some 69,some 70,some 71,some 72,some 73,some 74,none,some 75,some 76,none,some 77,some 78,none] [26,29,32] [(0,0),(0,1),(0,2),(0,0),(0,0),(0,0),(0,0),(0,0),(0,0),(0,0),(0,1),(0,1),(0,0),(0,0),(0,1),(0,1),(0,1),(0,2),(0,2),(0,0),(0,0),(0,2),(0,2),(0,2),(0,0),(0,0),(0,0),(1,1),(1,1),(1,1),(2,2),(2,2),(2,2)] (pick [fun w'=>w'=V1.drew,fun w'=>w'=(V1.drew.setCell ⟨g,off,none⟩ (.int .i64 (x.q-k))),fun w'=>w'=((V1.drew.setCell ⟨g,off,none⟩ (.int .i64 (x.q-k))).setCell ⟨g,off+1,none⟩ (.int .i64 (x.v-(partS x.v k x.q)))),fun w'=>w'=(((V1.drew.setCell ⟨g,off,none⟩ (.int .i64 (x.q-k))).setCell ⟨g,off+1,none⟩ (.int .i64 (x.v-(partS x.v k x.q)))).setCell ⟨g,off+2,none⟩ (.int .i64 (x.p-(partS x.p k x.q))))]) [.slice (some ⟨g,off,none⟩) (t.length+1) c2,.slice (some ⟨g,off,none⟩) (t.length+1) c2,.slice (some ⟨g,off,none⟩) (t.length+1) c2,.slice (some ⟨g,off,none⟩) (t.length+1) c2,.pointer (some ⟨g,off,none⟩),.pointer (some ⟨g,off,none⟩),.int .i64 (x.q),.pointer (some ⟨wr.heap.size,0,none⟩),.int .i64 (k),.int .i64 (x.q-k),.slice (some ⟨g,off,none⟩) (t.length+1) c2,.pointer (some ⟨g,off,none⟩),.pointer (some ⟨g,off+1,none⟩),.int .i64 (x.v),.pointer (some ⟨wr.heap.size,1,none⟩),.int .i64 (partS x.v k x.q),.int .i64 (x.v-(partS x.v k x.q)),.slice (some ⟨g,off,none⟩) (t.length+1) c2,.pointer (some ⟨g,off,none⟩),.pointer (some ⟨g,off+2,none⟩),.int .i64 (x.p),.pointer (some ⟨wr.heap.size,2,none⟩),.int .i64 (partS x.p k x.q),.int .i64 (x.p-(partS x.p k x.q)),.pointer (some ⟨g,off,none⟩),.pointer (some ⟨g,off,none⟩),undef,.pointer (some ⟨g,off,none⟩),.pointer (some ⟨g,off+1,none⟩),undef,.pointer (some ⟨g,off,none⟩),.pointer (some ⟨g,off+2,none⟩),undef] (by kernel_rfl) (by kernel_rfl) (by kernel_rfl) rfl (by kernel_rfl) (by kernel_rfl) (by kernel_rfl) (by rfl) rfl ?steps ?fin
     case steps =>
      intro ρ hin hout hconst hfun
      have r0:ρ (.tmp 0)=.slice (some ⟨g,off,none⟩) (t.length+1) c2:=hout 0 rfl
      have r52:ρ (.tmp 52)=.slice (some ⟨g,off,none⟩) (t.length+1) c2:=hin 3 52 rfl
      have r53:ρ (.tmp 53)=.pointer (some ⟨g,off,none⟩):=hin 4 53 rfl
      have r54:ρ (.tmp 54)=.pointer (some ⟨g,off,none⟩):=hin 5 54 rfl
      have r8:ρ (.tmp 8)=.pointer (some ⟨wr.heap.size,0,none⟩):=hout 8 rfl
      have r56:ρ (.tmp 56)=.pointer (some ⟨wr.heap.size,0,none⟩):=hin 7 56 rfl
      have r55:ρ (.tmp 55)=.int .i64 (x.q):=hin 6 55 rfl
      have r57:ρ (.tmp 57)=.int .i64 (k):=hin 8 57 rfl
      have r59:ρ (.tmp 59)=.slice (some ⟨g,off,none⟩) (t.length+1) c2:=hin 10 59 rfl
      have r60:ρ (.tmp 60)=.pointer (some ⟨g,off,none⟩):=hin 11 60 rfl
      have r61:ρ (.tmp 61)=.pointer (some ⟨g,off+1,none⟩):=hin 12 61 rfl
      have r63:ρ (.tmp 63)=.pointer (some ⟨wr.heap.size,1,none⟩):=hin 14 63 rfl
      have r62:ρ (.tmp 62)=.int .i64 (x.v):=hin 13 62 rfl
      have r64:ρ (.tmp 64)=.int .i64 (partS x.v k x.q):=hin 15 64 rfl
      have r66:ρ (.tmp 66)=.slice (some ⟨g,off,none⟩) (t.length+1) c2:=hin 17 66 rfl
      have r67:ρ (.tmp 67)=.pointer (some ⟨g,off,none⟩):=hin 18 67 rfl
      have r68:ρ (.tmp 68)=.pointer (some ⟨g,off+2,none⟩):=hin 19 68 rfl
      have r70:ρ (.tmp 70)=.pointer (some ⟨wr.heap.size,2,none⟩):=hin 21 70 rfl
      have r69:ρ (.tmp 69)=.int .i64 (x.p):=hin 20 69 rfl
      have r71:ρ (.tmp 71)=.int .i64 (partS x.p k x.q):=hin 22 71 rfl
      have r49:ρ (.tmp 49)=.slice (some ⟨g,off,none⟩) (t.length+1) c2:=hin 0 49 rfl
      have r73:ρ (.tmp 73)=.pointer (some ⟨g,off,none⟩):=hin 24 73 rfl
      have r74:ρ (.tmp 74)=.pointer (some ⟨g,off,none⟩):=hin 25 74 rfl
      have r58:ρ (.tmp 58)=.int .i64 (x.q-k):=hin 9 58 rfl
      have r50:ρ (.tmp 50)=.slice (some ⟨g,off,none⟩) (t.length+1) c2:=hin 1 50 rfl
      have r75:ρ (.tmp 75)=.pointer (some ⟨g,off,none⟩):=hin 27 75 rfl
      have r76:ρ (.tmp 76)=.pointer (some ⟨g,off+1,none⟩):=hin 28 76 rfl
      have r65:ρ (.tmp 65)=.int .i64 (x.v-(partS x.v k x.q)):=hin 16 65 rfl
      have r51:ρ (.tmp 51)=.slice (some ⟨g,off,none⟩) (t.length+1) c2:=hin 2 51 rfl
      have r77:ρ (.tmp 77)=.pointer (some ⟨g,off,none⟩):=hin 30 77 rfl
      have r78:ρ (.tmp 78)=.pointer (some ⟨g,off+2,none⟩):=hin 31 78 rfl
      have r72:ρ (.tmp 72)=.int .i64 (x.p-(partS x.p k x.q)):=hin 23 72 rfl
      clear hin hout
      refine DetSteps.pure (by decide) (fun ww=>Step.value (by simp[execOp,r0])) ?_
      refine DetSteps.pure (by decide) (fun ww=>Step.value (by simp[execOp,r0])) ?_
      refine DetSteps.pure (by decide) (fun ww=>Step.value (by simp[execOp,r0])) ?_
      refine DetSteps.pure (by decide) (fun ww=>Step.value (by simp[execOp,r0])) ?_
      refine DetSteps.pure (by decide) (fun ww=>Step.value (by simp[execOp,go_sem,hconst,r52,d0,d1,d2,c0,c1',c2',g0,g1,g2,hng,hng.symm,e0,e1,e2,hI2,hI3,hlen2])) ?_
      refine DetSteps.pure (by decide) (fun ww=>Step.value (by simp[execOp,go_sem,r53])) ?_
      refine DetSteps.load (by decide) (fun s ww h1 h2 hw=>by rcases(by omega:s=0)with rfl<;>(simp only[pick,List.getD_cons_zero,List.getD_cons_succ]at hw;subst hw;exact Step.value (by simp[execOp,go_sem,r54,d0,d1,d2,c0,c1',c2',g0,g1,g2,hng,hng.symm,e0,e1,e2,hI2,hI3,hlen2]))) ?_
      refine DetSteps.pure (by decide) (fun ww=>Step.value (by simp[execOp,go_sem,r8])) ?_
      refine DetSteps.load (by decide) (fun s ww h1 h2 hw=>by rcases(by omega:s=0)with rfl<;>(simp only[pick,List.getD_cons_zero,List.getD_cons_succ]at hw;subst hw;exact Step.value (by simp[execOp,go_sem,r56,d0,d1,d2,c0,c1',c2',g0,g1,g2,hng,hng.symm,e0,e1,e2,hI2,hI3,hlen2]))) ?_
      refine DetSteps.pure (by decide) (fun ww=>Step.value (by simp[execOp,go_sem,r55,r57,d0,d1,d2,c0,c1',c2',g0,g1,g2,hng,hng.symm,e0,e1,e2,hI2,hI3,hlen2])) ?_
      refine DetSteps.pure (by decide) (fun ww=>Step.value (by simp[execOp,r0])) ?_
      refine DetSteps.pure (by decide) (fun ww=>Step.value (by simp[execOp,go_sem,hconst,r59,d0,d1,d2,c0,c1',c2',g0,g1,g2,hng,hng.symm,e0,e1,e2,hI2,hI3,hlen2])) ?_
      refine DetSteps.pure (by decide) (fun ww=>Step.value (by simp[execOp,go_sem,r60])) ?_
      refine DetSteps.load (by decide) (fun s ww h1 h2 hw=>by rcases(by omega:s=0)with rfl<;>(simp only[pick,List.getD_cons_zero,List.getD_cons_succ]at hw;subst hw;exact Step.value (by simp[execOp,go_sem,r61,d0,d1,d2,c0,c1',c2',g0,g1,g2,hng,hng.symm,e0,e1,e2,hI2,hI3,hlen2]))) ?_
      refine DetSteps.pure (by decide) (fun ww=>Step.value (by simp[execOp,go_sem,r8])) ?_
      refine DetSteps.load (by decide) (fun s ww h1 h2 hw=>by rcases(by omega:s=0∨s=1)with rfl|rfl<;>(simp only[pick,List.getD_cons_zero,List.getD_cons_succ]at hw;subst hw;exact Step.value (by simp[execOp,go_sem,r63,d0,d1,d2,c0,c1',c2',g0,g1,g2,hng,hng.symm,e0,e1,e2,hI2,hI3,hlen2]))) ?_
      refine DetSteps.pure (by decide) (fun ww=>Step.value (by simp[execOp,go_sem,r62,r64,d0,d1,d2,c0,c1',c2',g0,g1,g2,hng,hng.symm,e0,e1,e2,hI2,hI3,hlen2])) ?_
      refine DetSteps.pure (by decide) (fun ww=>Step.value (by simp[execOp,r0])) ?_
      refine DetSteps.pure (by decide) (fun ww=>Step.value (by simp[execOp,go_sem,hconst,r66,d0,d1,d2,c0,c1',c2',g0,g1,g2,hng,hng.symm,e0,e1,e2,hI2,hI3,hlen2])) ?_
      refine DetSteps.pure (by decide) (fun ww=>Step.value (by simp[execOp,go_sem,r67])) ?_
      refine DetSteps.load (by decide) (fun s ww h1 h2 hw=>by rcases(by omega:s=0)with rfl<;>(simp only[pick,List.getD_cons_zero,List.getD_cons_succ]at hw;subst hw;exact Step.value (by simp[execOp,go_sem,r68,d0,d1,d2,c0,c1',c2',g0,g1,g2,hng,hng.symm,e0,e1,e2,hI2,hI3,hlen2]))) ?_
      refine DetSteps.pure (by decide) (fun ww=>Step.value (by simp[execOp,go_sem,r8])) ?_
      refine DetSteps.load (by decide) (fun s ww h1 h2 hw=>by rcases(by omega:s=0∨s=1∨s=2)with rfl|rfl|rfl<;>(simp only[pick,List.getD_cons_zero,List.getD_cons_succ]at hw;subst hw;exact Step.value (by simp[execOp,go_sem,r70,d0,d1,d2,c0,c1',c2',g0,g1,g2,hng,hng.symm,e0,e1,e2,hI2,hI3,hlen2]))) ?_
      refine DetSteps.pure (by decide) (fun ww=>Step.value (by simp[execOp,go_sem,r69,r71,d0,d1,d2,c0,c1',c2',g0,g1,g2,hng,hng.symm,e0,e1,e2,hI2,hI3,hlen2])) ?_
      refine DetSteps.pure (by decide) (fun ww=>Step.value (by simp[execOp,go_sem,hconst,r49,d0,d1,d2,c0,c1',c2',g0,g1,g2,hng,hng.symm,e0,e1,e2,hI2,hI3,hlen2])) ?_
      refine DetSteps.pure (by decide) (fun ww=>Step.value (by simp[execOp,go_sem,r73])) ?_
      refine DetSteps.store (by decide) (fun ww hw=>by simp only[pick,List.getD_cons_zero,List.getD_cons_succ]at hw ⊢;subst hw;exact Step.pred (Step.skip rfl (by simp[execOp,go_sem,r74,r58,d0,d1,d2,c0,c1',c2',g0,g1,g2,hng,hng.symm,e0,e1,e2,hI2,hI3,hlen2]<;>rfl)) rfl) ?_
      refine DetSteps.pure (by decide) (fun ww=>Step.value (by simp[execOp,go_sem,hconst,r50,d0,d1,d2,c0,c1',c2',g0,g1,g2,hng,hng.symm,e0,e1,e2,hI2,hI3,hlen2])) ?_
      refine DetSteps.pure (by decide) (fun ww=>Step.value (by simp[execOp,go_sem,r75])) ?_
      refine DetSteps.store (by decide) (fun ww hw=>by simp only[pick,List.getD_cons_zero,List.getD_cons_succ]at hw ⊢;subst hw;exact Step.pred (Step.skip rfl (by simp[execOp,go_sem,r76,r65,d0,d1,d2,c0,c1',c2',g0,g1,g2,hng,hng.symm,e0,e1,e2,hI2,hI3,hlen2]<;>rfl)) rfl) ?_
      refine DetSteps.pure (by decide) (fun ww=>Step.value (by simp[execOp,go_sem,hconst,r51,d0,d1,d2,c0,c1',c2',g0,g1,g2,hng,hng.symm,e0,e1,e2,hI2,hI3,hlen2])) ?_
      refine DetSteps.pure (by decide) (fun ww=>Step.value (by simp[execOp,go_sem,r77])) ?_
      refine DetSteps.store (by decide) (fun ww hw=>by simp only[pick,List.getD_cons_zero,List.getD_cons_succ]at hw ⊢;subst hw;exact Step.pred (Step.skip rfl (by simp[execOp,go_sem,r78,r72,d0,d1,d2,c0,c1',c2',g0,g1,g2,hng,hng.symm,e0,e1,e2,hI2,hI3,hlen2]<;>rfl)) rfl) ?_
      exact True.intro
     case fin =>
      intro wf hw
      simp only[pick,List.getD_cons_zero,List.getD_cons_succ,List.length_cons,List.length_nil]at hw
      subst hw
      simp only[puts,Act.put,List.getD_cons_zero,List.getD_cons_succ,List.setIfInBounds_toArray,List.set_cons_succ,List.set_cons_zero,List.length_cons,List.length_nil]
      change Exit.then _ _ .normal _ (set3 V1.drew g off (minusL x (cutL x k)))
      have hX:=hX2.drew.sets (g:=g) (off:=off) hng.symm (minusL x (cutL x k))
      have hO:=hO2.drew.sets (g:=g) (off:=off) (by omega) (minusL x (cutL x k))
      have hR:=hR2.drew.sets (g:=g) (off:=off) (by omega) (minusL x (cutL x k))
      have hHB:=hHB2.drew.put (minusL x (cutL x k))
      have hbelV:Below w.heap.size w (set3 V1.drew g off (minusL x (cutL x k))):=set3_below hbel2.drew (by omega) _ _
      have hVs:wr.heap.size+1≤(set3 V1.drew g off (minusL x (cutL x k))).heap.size:=by rw[set3_size];exact hVs2
      generalize set3 V1.drew g off (minusL x (cutL x k))=V at *
      have hyq0:1≤(cutL x k).q:=hk
      change Cell3 V wr.heap.size (cutL x k).q (cutL x k).v (cutL x k).p at hX
      clear hX2 hO2 hR2 hHB2 hbel2 hVs2 d0 d1 d2 f0 f1 f2 c0 c1' c2' g0 g1 g2 e0 e1 e2 hcc hff cv0 cv1 cd0 cd1 cp2
      generalize cutL x k=y at *
      go_wp2_with fail
      have hT:=hTh.out
      have bq:=hT.q0;have bq1:=hT.q1;have bv:=hT.v0;have bv1:=hT.v1;have bp1:=hT.p1;have br:=hT.r0;have hyq:=hyq0
      have bas:=aps_nonneg (minusL x y::t)
      have bvs:=(qs_pos hT.lr.ok).2.1
      simp only[plusL]at bq bq1 bv bv1 bp1
      have e0:IntKind.i64.wrap (b.q+y.q)=b.q+y.q:=IntWalk.i64_in _ (by omega)
      have e1:IntKind.i64.wrap (b.v+y.v)=b.v+y.v:=IntWalk.i64_in _ (by omega)
      have e2:IntKind.i64.wrap (b.p+y.p)=b.p+y.p:=IntWalk.i64_in _ (by omega)
      have hne2:wr.heap.size≠w2.heap.size:=by omega
      obtain⟨d0,d1,d2,f0,f1,f2⟩:=id hX
      obtain⟨y0,y1,y2,x0,x1,x2⟩:=id hO
      refine wp_region_det' 2 [some 85,some 86,some 87,some 88,some 89,some 90,some 91,some 92,some 93,some 94,some 95,some 96,some 97,some 98,some 99,some 100,none,some 101,none,some 102,none] [16,18,20] [(0,0),(0,0),(0,0),(0,0),(0,0),(0,0),(0,0),(0,1),(0,1),(0,1),(0,0),(0,0),(0,2),(0,2),(0,2),(0,0),(0,0),(1,1),(1,1),(2,2),(2,2)] (pick [fun w'=>w'=V.drew,fun w'=>w'=(V.drew.setCell ⟨w2.heap.size,0,none⟩ (.int .i64 (b.q+y.q))),fun w'=>w'=((V.drew.setCell ⟨w2.heap.size,0,none⟩ (.int .i64 (b.q+y.q))).setCell ⟨w2.heap.size,1,none⟩ (.int .i64 (b.v+y.v))),fun w'=>w'=(((V.drew.setCell ⟨w2.heap.size,0,none⟩ (.int .i64 (b.q+y.q))).setCell ⟨w2.heap.size,1,none⟩ (.int .i64 (b.v+y.v))).setCell ⟨w2.heap.size,2,none⟩ (.int .i64 (b.p+y.p)))]) [.pointer (some ⟨w2.heap.size,0,none⟩),.int .i64 (b.q),.pointer (some ⟨wr.heap.size,0,none⟩),.int .i64 (y.q),.int .i64 (b.q+y.q),.pointer (some ⟨w2.heap.size,1,none⟩),.int .i64 (b.v),.pointer (some ⟨wr.heap.size,1,none⟩),.int .i64 (y.v),.int .i64 (b.v+y.v),.pointer (some ⟨w2.heap.size,2,none⟩),.int .i64 (b.p),.pointer (some ⟨wr.heap.size,2,none⟩),.int .i64 (y.p),.int .i64 (b.p+y.p),.pointer (some ⟨w2.heap.size,0,none⟩),undef,.pointer (some ⟨w2.heap.size,1,none⟩),undef,.pointer (some ⟨w2.heap.size,2,none⟩),undef] (by kernel_rfl) (by kernel_rfl) (by kernel_rfl) rfl (by kernel_rfl) (by kernel_rfl) (by kernel_rfl) (by rfl) rfl ?steps ?fin
      case steps =>
       intro ρ hin hout hconst hfun
       have r7:ρ (.tmp 7)=.pointer (some ⟨w2.heap.size,0,none⟩):=hout 7 rfl
       have r85:ρ (.tmp 85)=.pointer (some ⟨w2.heap.size,0,none⟩):=hin 0 85 rfl
       have r8:ρ (.tmp 8)=.pointer (some ⟨wr.heap.size,0,none⟩):=hout 8 rfl
       have r87:ρ (.tmp 87)=.pointer (some ⟨wr.heap.size,0,none⟩):=hin 2 87 rfl
       have r86:ρ (.tmp 86)=.int .i64 (b.q):=hin 1 86 rfl
       have r88:ρ (.tmp 88)=.int .i64 (y.q):=hin 3 88 rfl
       have r90:ρ (.tmp 90)=.pointer (some ⟨w2.heap.size,1,none⟩):=hin 5 90 rfl
       have r92:ρ (.tmp 92)=.pointer (some ⟨wr.heap.size,1,none⟩):=hin 7 92 rfl
       have r91:ρ (.tmp 91)=.int .i64 (b.v):=hin 6 91 rfl
       have r93:ρ (.tmp 93)=.int .i64 (y.v):=hin 8 93 rfl
       have r95:ρ (.tmp 95)=.pointer (some ⟨w2.heap.size,2,none⟩):=hin 10 95 rfl
       have r97:ρ (.tmp 97)=.pointer (some ⟨wr.heap.size,2,none⟩):=hin 12 97 rfl
       have r96:ρ (.tmp 96)=.int .i64 (b.p):=hin 11 96 rfl
       have r98:ρ (.tmp 98)=.int .i64 (y.p):=hin 13 98 rfl
       have r100:ρ (.tmp 100)=.pointer (some ⟨w2.heap.size,0,none⟩):=hin 15 100 rfl
       have r89:ρ (.tmp 89)=.int .i64 (b.q+y.q):=hin 4 89 rfl
       have r101:ρ (.tmp 101)=.pointer (some ⟨w2.heap.size,1,none⟩):=hin 17 101 rfl
       have r94:ρ (.tmp 94)=.int .i64 (b.v+y.v):=hin 9 94 rfl
       have r102:ρ (.tmp 102)=.pointer (some ⟨w2.heap.size,2,none⟩):=hin 19 102 rfl
       have r99:ρ (.tmp 99)=.int .i64 (b.p+y.p):=hin 14 99 rfl
       clear hin hout
       refine DetSteps.pure (by decide) (fun ww=>Step.value (by simp[execOp,go_sem,r7])) ?_
       refine DetSteps.load (by decide) (fun s ww h1 h2 hw=>by rcases(by omega:s=0)with rfl<;>(simp only[pick,List.getD_cons_zero,List.getD_cons_succ]at hw;subst hw;exact Step.value (by simp[execOp,go_sem,r85,d0,d1,d2,y0,y1,y2,x0,x1,x2,hne,hne.symm,e0,e1,e2]))) ?_
       refine DetSteps.pure (by decide) (fun ww=>Step.value (by simp[execOp,go_sem,r8])) ?_
       refine DetSteps.load (by decide) (fun s ww h1 h2 hw=>by rcases(by omega:s=0)with rfl<;>(simp only[pick,List.getD_cons_zero,List.getD_cons_succ]at hw;subst hw;exact Step.value (by simp[execOp,go_sem,r87,d0,d1,d2,y0,y1,y2,x0,x1,x2,hne,hne.symm,e0,e1,e2]))) ?_
       refine DetSteps.pure (by decide) (fun ww=>Step.value (by simp[execOp,go_sem,r86,r88,d0,d1,d2,y0,y1,y2,x0,x1,x2,hne,hne.symm,e0,e1,e2])) ?_
       refine DetSteps.pure (by decide) (fun ww=>Step.value (by simp[execOp,go_sem,r7])) ?_
       refine DetSteps.load (by decide) (fun s ww h1 h2 hw=>by rcases(by omega:s=0)with rfl<;>(simp only[pick,List.getD_cons_zero,List.getD_cons_succ]at hw;subst hw;exact Step.value (by simp[execOp,go_sem,r90,d0,d1,d2,y0,y1,y2,x0,x1,x2,hne,hne.symm,e0,e1,e2]))) ?_
       refine DetSteps.pure (by decide) (fun ww=>Step.value (by simp[execOp,go_sem,r8])) ?_
       refine DetSteps.load (by decide) (fun s ww h1 h2 hw=>by rcases(by omega:s=0∨s=1)with rfl|rfl<;>(simp only[pick,List.getD_cons_zero,List.getD_cons_succ]at hw;subst hw;exact Step.value (by simp[execOp,go_sem,r92,d0,d1,d2,y0,y1,y2,x0,x1,x2,hne,hne.symm,e0,e1,e2]))) ?_
       refine DetSteps.pure (by decide) (fun ww=>Step.value (by simp[execOp,go_sem,r91,r93,d0,d1,d2,y0,y1,y2,x0,x1,x2,hne,hne.symm,e0,e1,e2])) ?_
       refine DetSteps.pure (by decide) (fun ww=>Step.value (by simp[execOp,go_sem,r7])) ?_
       refine DetSteps.load (by decide) (fun s ww h1 h2 hw=>by rcases(by omega:s=0)with rfl<;>(simp only[pick,List.getD_cons_zero,List.getD_cons_succ]at hw;subst hw;exact Step.value (by simp[execOp,go_sem,r95,d0,d1,d2,y0,y1,y2,x0,x1,x2,hne,hne.symm,e0,e1,e2]))) ?_
       refine DetSteps.pure (by decide) (fun ww=>Step.value (by simp[execOp,go_sem,r8])) ?_
       refine DetSteps.load (by decide) (fun s ww h1 h2 hw=>by rcases(by omega:s=0∨s=1∨s=2)with rfl|rfl|rfl<;>(simp only[pick,List.getD_cons_zero,List.getD_cons_succ]at hw;subst hw;exact Step.value (by simp[execOp,go_sem,r97,d0,d1,d2,y0,y1,y2,x0,x1,x2,hne,hne.symm,e0,e1,e2]))) ?_
       refine DetSteps.pure (by decide) (fun ww=>Step.value (by simp[execOp,go_sem,r96,r98,d0,d1,d2,y0,y1,y2,x0,x1,x2,hne,hne.symm,e0,e1,e2])) ?_
       refine DetSteps.pure (by decide) (fun ww=>Step.value (by simp[execOp,go_sem,r7])) ?_
       refine DetSteps.store (by decide) (fun ww hw=>by simp only[pick,List.getD_cons_zero,List.getD_cons_succ]at hw ⊢;subst hw;exact Step.pred (Step.skip rfl (by simp[execOp,go_sem,r100,r89,d0,d1,d2,y0,y1,y2,x0,x1,x2,hne,hne.symm,e0,e1,e2]<;>rfl)) rfl) ?_
       refine DetSteps.pure (by decide) (fun ww=>Step.value (by simp[execOp,go_sem,r7])) ?_
       refine DetSteps.store (by decide) (fun ww hw=>by simp only[pick,List.getD_cons_zero,List.getD_cons_succ]at hw ⊢;subst hw;exact Step.pred (Step.skip rfl (by simp[execOp,go_sem,r101,r94,d0,d1,d2,y0,y1,y2,x0,x1,x2,hne,hne.symm,e0,e1,e2]<;>rfl)) rfl) ?_
       refine DetSteps.pure (by decide) (fun ww=>Step.value (by simp[execOp,go_sem,r7])) ?_
       refine DetSteps.store (by decide) (fun ww hw=>by simp only[pick,List.getD_cons_zero,List.getD_cons_succ]at hw ⊢;subst hw;exact Step.pred (Step.skip rfl (by simp[execOp,go_sem,r102,r99,d0,d1,d2,y0,y1,y2,x0,x1,x2,hne,hne.symm,e0,e1,e2]<;>rfl)) rfl) ?_
       exact True.intro
      case fin =>
       intro wf hw
       simp only[pick,List.getD_cons_zero,List.getD_cons_succ,List.length_cons,List.length_nil]at hw
       subst hw
       simp only[puts,Act.put,List.getD_cons_zero,List.getD_cons_succ,List.setIfInBounds_toArray,List.set_cons_succ,List.set_cons_zero,List.length_cons,List.length_nil]
       have hX2:Cell3 (set3 V.drew w2.heap.size 0 ⟨b.q+y.q,b.v+y.v,b.p+y.p⟩) wr.heap.size y.q y.v y.p:=hX.drew.sets hne2 _
       have hO2:Cell3 (set3 V.drew w2.heap.size 0 ⟨b.q+y.q,b.v+y.v,b.p+y.p⟩) w2.heap.size (b.q+y.q) (b.v+y.v) (b.p+y.p):=hO.drew.put _
       have hR2:Cell3 (set3 V.drew w2.heap.size 0 ⟨b.q+y.q,b.v+y.v,b.p+y.p⟩) w.heap.size 0 0 0:=hR.drew.sets hne _
       have hHB2:=hHB.drew.sets (g:=w2.heap.size) (.inr (Nat.le_refl _)) 0 ⟨b.q+y.q,b.v+y.v,b.p+y.p⟩
       have hs2':w2.heap.size+1≤(set3 V.drew w2.heap.size 0 ⟨b.q+y.q,b.v+y.v,b.p+y.p⟩).heap.size:=by rw[set3_size];show _≤V.heap.size;omega
       have hbel2:Below w.heap.size w (set3 V.drew w2.heap.size 0 ⟨b.q+y.q,b.v+y.v,b.p+y.p⟩):=set3_below hbelV.drew (by omega) _ _
       change Exit.then _ _ .normal _ (set3 V.drew w2.heap.size 0 ⟨b.q+y.q,b.v+y.v,b.p+y.p⟩)
       generalize set3 V.drew w2.heap.size 0 ⟨b.q+y.q,b.v+y.v,b.p+y.p⟩=V2 at *
       clear d0 d1 d2 f0 f1 f2 y0 y1 y2 x0 x1 x2 hX hO hR hHB hbelV e0 e1 e2
       obtain⟨d0,d1,d2,f0,f1,f2⟩:=id hX2
       have hT:=Lib.hid hT
       go_wp2_with fail
       case' roundEnd =>
        refine⟨⟨_,_,(minusL x y::t),plusL b y,k-y.q,rfl,rfl,hHB2,hR2,hO2,hs2',hbel2,hT.out⟩,?_⟩
        simp[intOf]
        omega
   ·have hT:=hst.whole hk hcut
    by_cases ht:t.length=0
    ·go_wp2_with fail
     obtain⟨V,hV⟩:∃V,V=wr.alloc (.cells #[.int .i64 x.q,.int .i64 x.v,.int .i64 x.p] 32):=⟨_,rfl⟩
     have hB:Below wr.heap.size wr V:=by rw[hV];exact(Below.refl _ wr).alloc (Nat.le_refl _) _
     have hVs:V.heap.size=wr.heap.size+1:=by rw[hV];simp
     have hX:Cell3 V wr.heap.size x.q x.v x.p:=by rw[hV];exact⟨by simp,by simp,by simp,by simp,by simp,by simp⟩
     have hR:Cell3 V w.heap.size 0 0 0:=(Cell3.next ⟨r0,r1,r2,z0,z1,z2⟩ hl0 hB).1
     have hO:Cell3 V w2.heap.size b.q b.v b.p:=(Cell3.next ⟨y0,y1,y2,x0,x1,x2⟩ hl1 hB).1
     have hHB:HoldB V (w.heap.size+1) w2.heap.size (some ⟨g,off,none⟩) c2 (x::t):=HoldB.below ⟨hm1,hm2,.inr ⟨g,off,rfl,hg1,hg2,hc,hf⟩⟩ (hB.mono (by omega))
     have hbelV:Below w.heap.size w V:=hbel.trans (hB.mono (by omega))
     rw[←hV]
     clear hV hB r0 r1 r2 z0 z1 z2 y0 y1 y2 x0 x1 x2 hc hf c0 c1' c2' hbel
     have ht0:t=[]:=List.eq_nil_of_length_eq_zero ht
     subst ht0
     have hyq0:1≤x.q:=k1
     have hHB:HoldB V (w.heap.size+1) w2.heap.size (some ⟨g,off,none⟩) 0 []:=HoldB.none
     have bq:=hT.q0;have bq1:=hT.q1;have bv:=hT.v0;have bv1:=hT.v1;have bp1:=hT.p1;have br:=hT.r0;have hyq:=hyq0
     have bas:=aps_nonneg []
     have bvs:=(qs_pos hT.lr.ok).2.1
     simp only[plusL]at bq bq1 bv bv1 bp1
     have e0:IntKind.i64.wrap (b.q+x.q)=b.q+x.q:=IntWalk.i64_in _ (by omega)
     have e1:IntKind.i64.wrap (b.v+x.v)=b.v+x.v:=IntWalk.i64_in _ (by omega)
     have e2:IntKind.i64.wrap (b.p+x.p)=b.p+x.p:=IntWalk.i64_in _ (by omega)
     have hne2:wr.heap.size≠w2.heap.size:=by omega
     obtain⟨d0,d1,d2,f0,f1,f2⟩:=id hX
     obtain⟨y0,y1,y2,x0,x1,x2⟩:=id hO
     refine wp_region_det' 2 [some 85,some 86,some 87,some 88,some 89,some 90,some 91,some 92,some 93,some 94,some 95,some 96,some 97,some 98,some 99,some 100,none,some 101,none,some 102,none] [16,18,20] [(0,0),(0,0),(0,0),(0,0),(0,0),(0,0),(0,0),(0,1),(0,1),(0,1),(0,0),(0,0),(0,2),(0,2),(0,2),(0,0),(0,0),(1,1),(1,1),(2,2),(2,2)] (pick [fun w'=>w'=V.drew,fun w'=>w'=(V.drew.setCell ⟨w2.heap.size,0,none⟩ (.int .i64 (b.q+x.q))),fun w'=>w'=((V.drew.setCell ⟨w2.heap.size,0,none⟩ (.int .i64 (b.q+x.q))).setCell ⟨w2.heap.size,1,none⟩ (.int .i64 (b.v+x.v))),fun w'=>w'=(((V.drew.setCell ⟨w2.heap.size,0,none⟩ (.int .i64 (b.q+x.q))).setCell ⟨w2.heap.size,1,none⟩ (.int .i64 (b.v+x.v))).setCell ⟨w2.heap.size,2,none⟩ (.int .i64 (b.p+x.p)))]) [.pointer (some ⟨w2.heap.size,0,none⟩),.int .i64 (b.q),.pointer (some ⟨wr.heap.size,0,none⟩),.int .i64 (x.q),.int .i64 (b.q+x.q),.pointer (some ⟨w2.heap.size,1,none⟩),.int .i64 (b.v),.pointer (some ⟨wr.heap.size,1,none⟩),.int .i64 (x.v),.int .i64 (b.v+x.v),.pointer (some ⟨w2.heap.size,2,none⟩),.int .i64 (b.p),.pointer (some ⟨wr.heap.size,2,none⟩),.int .i64 (x.p),.int .i64 (b.p+x.p),.pointer (some ⟨w2.heap.size,0,none⟩),undef,.pointer (some ⟨w2.heap.size,1,none⟩),undef,.pointer (some ⟨w2.heap.size,2,none⟩),undef] (by kernel_rfl) (by kernel_rfl) (by kernel_rfl) rfl (by kernel_rfl) (by kernel_rfl) (by kernel_rfl) (by rfl) rfl ?steps ?fin
     case steps =>
      intro ρ hin hout hconst hfun
      have r7:ρ (.tmp 7)=.pointer (some ⟨w2.heap.size,0,none⟩):=hout 7 rfl
      have r85:ρ (.tmp 85)=.pointer (some ⟨w2.heap.size,0,none⟩):=hin 0 85 rfl
      have r8:ρ (.tmp 8)=.pointer (some ⟨wr.heap.size,0,none⟩):=hout 8 rfl
      have r87:ρ (.tmp 87)=.pointer (some ⟨wr.heap.size,0,none⟩):=hin 2 87 rfl
      have r86:ρ (.tmp 86)=.int .i64 (b.q):=hin 1 86 rfl
      have r88:ρ (.tmp 88)=.int .i64 (x.q):=hin 3 88 rfl
      have r90:ρ (.tmp 90)=.pointer (some ⟨w2.heap.size,1,none⟩):=hin 5 90 rfl
      have r92:ρ (.tmp 92)=.pointer (some ⟨wr.heap.size,1,none⟩):=hin 7 92 rfl
      have r91:ρ (.tmp 91)=.int .i64 (b.v):=hin 6 91 rfl
      have r93:ρ (.tmp 93)=.int .i64 (x.v):=hin 8 93 rfl
      have r95:ρ (.tmp 95)=.pointer (some ⟨w2.heap.size,2,none⟩):=hin 10 95 rfl
      have r97:ρ (.tmp 97)=.pointer (some ⟨wr.heap.size,2,none⟩):=hin 12 97 rfl
      have r96:ρ (.tmp 96)=.int .i64 (b.p):=hin 11 96 rfl
      have r98:ρ (.tmp 98)=.int .i64 (x.p):=hin 13 98 rfl
      have r100:ρ (.tmp 100)=.pointer (some ⟨w2.heap.size,0,none⟩):=hin 15 100 rfl
      have r89:ρ (.tmp 89)=.int .i64 (b.q+x.q):=hin 4 89 rfl
      have r101:ρ (.tmp 101)=.pointer (some ⟨w2.heap.size,1,none⟩):=hin 17 101 rfl
      have r94:ρ (.tmp 94)=.int .i64 (b.v+x.v):=hin 9 94 rfl
      have r102:ρ (.tmp 102)=.pointer (some ⟨w2.heap.size,2,none⟩):=hin 19 102 rfl
      have r99:ρ (.tmp 99)=.int .i64 (b.p+x.p):=hin 14 99 rfl
      clear hin hout
      refine DetSteps.pure (by decide) (fun ww=>Step.value (by simp[execOp,go_sem,r7])) ?_
      refine DetSteps.load (by decide) (fun s ww h1 h2 hw=>by rcases(by omega:s=0)with rfl<;>(simp only[pick,List.getD_cons_zero,List.getD_cons_succ]at hw;subst hw;exact Step.value (by simp[execOp,go_sem,r85,d0,d1,d2,y0,y1,y2,x0,x1,x2,hne,hne.symm,e0,e1,e2]))) ?_
      refine DetSteps.pure (by decide) (fun ww=>Step.value (by simp[execOp,go_sem,r8])) ?_
      refine DetSteps.load (by decide) (fun s ww h1 h2 hw=>by rcases(by omega:s=0)with rfl<;>(simp only[pick,List.getD_cons_zero,List.getD_cons_succ]at hw;subst hw;exact Step.value (by simp[execOp,go_sem,r87,d0,d1,d2,y0,y1,y2,x0,x1,x2,hne,hne.symm,e0,e1,e2]))) ?_
      refine DetSteps.pure (by decide) (fun ww=>Step.value (by simp[execOp,go_sem,r86,r88,d0,d1,d2,y0,y1,y2,x0,x1,x2,hne,hne.symm,e0,e1,e2])) ?_
      refine DetSteps.pure (by decide) (fun ww=>Step.value (by simp[execOp,go_sem,r7])) ?_
      refine DetSteps.load (by decide) (fun s ww h1 h2 hw=>by rcases(by omega:s=0)with rfl<;>(simp only[pick,List.getD_cons_zero,List.getD_cons_succ]at hw;subst hw;exact Step.value (by simp[execOp,go_sem,r90,d0,d1,d2,y0,y1,y2,x0,x1,x2,hne,hne.symm,e0,e1,e2]))) ?_
      refine DetSteps.pure (by decide) (fun ww=>Step.value (by simp[execOp,go_sem,r8])) ?_
      refine DetSteps.load (by decide) (fun s ww h1 h2 hw=>by rcases(by omega:s=0∨s=1)with rfl|rfl<;>(simp only[pick,List.getD_cons_zero,List.getD_cons_succ]at hw;subst hw;exact Step.value (by simp[execOp,go_sem,r92,d0,d1,d2,y0,y1,y2,x0,x1,x2,hne,hne.symm,e0,e1,e2]))) ?_
      refine DetSteps.pure (by decide) (fun ww=>Step.value (by simp[execOp,go_sem,r91,r93,d0,d1,d2,y0,y1,y2,x0,x1,x2,hne,hne.symm,e0,e1,e2])) ?_
      refine DetSteps.pure (by decide) (fun ww=>Step.value (by simp[execOp,go_sem,r7])) ?_
      refine DetSteps.load (by decide) (fun s ww h1 h2 hw=>by rcases(by omega:s=0)with rfl<;>(simp only[pick,List.getD_cons_zero,List.getD_cons_succ]at hw;subst hw;exact Step.value (by simp[execOp,go_sem,r95,d0,d1,d2,y0,y1,y2,x0,x1,x2,hne,hne.symm,e0,e1,e2]))) ?_
      refine DetSteps.pure (by decide) (fun ww=>Step.value (by simp[execOp,go_sem,r8])) ?_
      refine DetSteps.load (by decide) (fun s ww h1 h2 hw=>by rcases(by omega:s=0∨s=1∨s=2)with rfl|rfl|rfl<;>(simp only[pick,List.getD_cons_zero,List.getD_cons_succ]at hw;subst hw;exact Step.value (by simp[execOp,go_sem,r97,d0,d1,d2,y0,y1,y2,x0,x1,x2,hne,hne.symm,e0,e1,e2]))) ?_
      refine DetSteps.pure (by decide) (fun ww=>Step.value (by simp[execOp,go_sem,r96,r98,d0,d1,d2,y0,y1,y2,x0,x1,x2,hne,hne.symm,e0,e1,e2])) ?_
      refine DetSteps.pure (by decide) (fun ww=>Step.value (by simp[execOp,go_sem,r7])) ?_
      refine DetSteps.store (by decide) (fun ww hw=>by simp only[pick,List.getD_cons_zero,List.getD_cons_succ]at hw ⊢;subst hw;exact Step.pred (Step.skip rfl (by simp[execOp,go_sem,r100,r89,d0,d1,d2,y0,y1,y2,x0,x1,x2,hne,hne.symm,e0,e1,e2]<;>rfl)) rfl) ?_
      refine DetSteps.pure (by decide) (fun ww=>Step.value (by simp[execOp,go_sem,r7])) ?_
      refine DetSteps.store (by decide) (fun ww hw=>by simp only[pick,List.getD_cons_zero,List.getD_cons_succ]at hw ⊢;subst hw;exact Step.pred (Step.skip rfl (by simp[execOp,go_sem,r101,r94,d0,d1,d2,y0,y1,y2,x0,x1,x2,hne,hne.symm,e0,e1,e2]<;>rfl)) rfl) ?_
      refine DetSteps.pure (by decide) (fun ww=>Step.value (by simp[execOp,go_sem,r7])) ?_
      refine DetSteps.store (by decide) (fun ww hw=>by simp only[pick,List.getD_cons_zero,List.getD_cons_succ]at hw ⊢;subst hw;exact Step.pred (Step.skip rfl (by simp[execOp,go_sem,r102,r99,d0,d1,d2,y0,y1,y2,x0,x1,x2,hne,hne.symm,e0,e1,e2]<;>rfl)) rfl) ?_
      exact True.intro
     case fin =>
      intro wf hw
      simp only[pick,List.getD_cons_zero,List.getD_cons_succ,List.length_cons,List.length_nil]at hw
      subst hw
      simp only[puts,Act.put,List.getD_cons_zero,List.getD_cons_succ,List.setIfInBounds_toArray,List.set_cons_succ,List.set_cons_zero,List.length_cons,List.length_nil]
      have hX2:Cell3 (set3 V.drew w2.heap.size 0 ⟨b.q+x.q,b.v+x.v,b.p+x.p⟩) wr.heap.size x.q x.v x.p:=hX.drew.sets hne2 _
      have hO2:Cell3 (set3 V.drew w2.heap.size 0 ⟨b.q+x.q,b.v+x.v,b.p+x.p⟩) w2.heap.size (b.q+x.q) (b.v+x.v) (b.p+x.p):=hO.drew.put _
      have hR2:Cell3 (set3 V.drew w2.heap.size 0 ⟨b.q+x.q,b.v+x.v,b.p+x.p⟩) w.heap.size 0 0 0:=hR.drew.sets hne _
      have hHB2:=hHB.drew.sets (g:=w2.heap.size) (.inr (Nat.le_refl _)) 0 ⟨b.q+x.q,b.v+x.v,b.p+x.p⟩
      have hs2':w2.heap.size+1≤(set3 V.drew w2.heap.size 0 ⟨b.q+x.q,b.v+x.v,b.p+x.p⟩).heap.size:=by rw[set3_size];show _≤V.heap.size;omega
      have hbel2:Below w.heap.size w (set3 V.drew w2.heap.size 0 ⟨b.q+x.q,b.v+x.v,b.p+x.p⟩):=set3_below hbelV.drew (by omega) _ _
      change Exit.then _ _ .normal _ (set3 V.drew w2.heap.size 0 ⟨b.q+x.q,b.v+x.v,b.p+x.p⟩)
      generalize set3 V.drew w2.heap.size 0 ⟨b.q+x.q,b.v+x.v,b.p+x.p⟩=V2 at *
      clear d0 d1 d2 f0 f1 f2 y0 y1 y2 x0 x1 x2 hX hO hR hHB hbelV e0 e1 e2
      obtain⟨d0,d1,d2,f0,f1,f2⟩:=id hX2
      have hT:=Lib.hid hT
      go_wp2_with fail
      case' roundEnd =>
       refine⟨⟨_,_,[],plusL b x,k-x.q,rfl,rfl,hHB2,hR2,hO2,hs2',hbel2,hT.out⟩,?_⟩
       simp[intOf]
       omega
    ·go_wp2_with fail
     obtain⟨V,hV⟩:∃V,V=wr.alloc (.cells #[.int .i64 x.q,.int .i64 x.v,.int .i64 x.p] 32):=⟨_,rfl⟩
     have hB:Below wr.heap.size wr V:=by rw[hV];exact(Below.refl _ wr).alloc (Nat.le_refl _) _
     have hVs:V.heap.size=wr.heap.size+1:=by rw[hV];simp
     have hX:Cell3 V wr.heap.size x.q x.v x.p:=by rw[hV];exact⟨by simp,by simp,by simp,by simp,by simp,by simp⟩
     have hR:Cell3 V w.heap.size 0 0 0:=(Cell3.next ⟨r0,r1,r2,z0,z1,z2⟩ hl0 hB).1
     have hO:Cell3 V w2.heap.size b.q b.v b.p:=(Cell3.next ⟨y0,y1,y2,x0,x1,x2⟩ hl1 hB).1
     have hHB:HoldB V (w.heap.size+1) w2.heap.size (some ⟨g,off,none⟩) c2 (x::t):=HoldB.below ⟨hm1,hm2,.inr ⟨g,off,rfl,hg1,hg2,hc,hf⟩⟩ (hB.mono (by omega))
     have hbelV:Below w.heap.size w V:=hbel.trans (hB.mono (by omega))
     rw[←hV]
     clear hV hB r0 r1 r2 z0 z1 z2 y0 y1 y2 x0 x1 x2 hc hf c0 c1' c2' hbel
     have hyq0:1≤x.q:=k1
     have hHB:=hHB.tail
     have bq:=hT.q0;have bq1:=hT.q1;have bv:=hT.v0;have bv1:=hT.v1;have bp1:=hT.p1;have br:=hT.r0;have hyq:=hyq0
     have bas:=aps_nonneg t
     have bvs:=(qs_pos hT.lr.ok).2.1
     simp only[plusL]at bq bq1 bv bv1 bp1
     have e0:IntKind.i64.wrap (b.q+x.q)=b.q+x.q:=IntWalk.i64_in _ (by omega)
     have e1:IntKind.i64.wrap (b.v+x.v)=b.v+x.v:=IntWalk.i64_in _ (by omega)
     have e2:IntKind.i64.wrap (b.p+x.p)=b.p+x.p:=IntWalk.i64_in _ (by omega)
     have hne2:wr.heap.size≠w2.heap.size:=by omega
     obtain⟨d0,d1,d2,f0,f1,f2⟩:=id hX
     obtain⟨y0,y1,y2,x0,x1,x2⟩:=id hO
     refine wp_region_det' 2 [some 85,some 86,some 87,some 88,some 89,some 90,some 91,some 92,some 93,some 94,some 95,some 96,some 97,some 98,some 99,some 100,none,some 101,none,some 102,none] [16,18,20] [(0,0),(0,0),(0,0),(0,0),(0,0),(0,0),(0,0),(0,1),(0,1),(0,1),(0,0),(0,0),(0,2),(0,2),(0,2),(0,0),(0,0),(1,1),(1,1),(2,2),(2,2)] (pick [fun w'=>w'=V.drew,fun w'=>w'=(V.drew.setCell ⟨w2.heap.size,0,none⟩ (.int .i64 (b.q+x.q))),fun w'=>w'=((V.drew.setCell ⟨w2.heap.size,0,none⟩ (.int .i64 (b.q+x.q))).setCell ⟨w2.heap.size,1,none⟩ (.int .i64 (b.v+x.v))),fun w'=>w'=(((V.drew.setCell ⟨w2.heap.size,0,none⟩ (.int .i64 (b.q+x.q))).setCell ⟨w2.heap.size,1,none⟩ (.int .i64 (b.v+x.v))).setCell ⟨w2.heap.size,2,none⟩ (.int .i64 (b.p+x.p)))]) [.pointer (some ⟨w2.heap.size,0,none⟩),.int .i64 (b.q),.pointer (some ⟨wr.heap.size,0,none⟩),.int .i64 (x.q),.int .i64 (b.q+x.q),.pointer (some ⟨w2.heap.size,1,none⟩),.int .i64 (b.v),.pointer (some ⟨wr.heap.size,1,none⟩),.int .i64 (x.v),.int .i64 (b.v+x.v),.pointer (some ⟨w2.heap.size,2,none⟩),.int .i64 (b.p),.pointer (some ⟨wr.heap.size,2,none⟩),.int .i64 (x.p),.int .i64 (b.p+x.p),.pointer (some ⟨w2.heap.size,0,none⟩),undef,.pointer (some ⟨w2.heap.size,1,none⟩),undef,.pointer (some ⟨w2.heap.size,2,none⟩),undef] (by kernel_rfl) (by kernel_rfl) (by kernel_rfl) rfl (by kernel_rfl) (by kernel_rfl) (by kernel_rfl) (by rfl) rfl ?steps ?fin
     case steps =>
      intro ρ hin hout hconst hfun
      have r7:ρ (.tmp 7)=.pointer (some ⟨w2.heap.size,0,none⟩):=hout 7 rfl
      have r85:ρ (.tmp 85)=.pointer (some ⟨w2.heap.size,0,none⟩):=hin 0 85 rfl
      have r8:ρ (.tmp 8)=.pointer (some ⟨wr.heap.size,0,none⟩):=hout 8 rfl
      have r87:ρ (.tmp 87)=.pointer (some ⟨wr.heap.size,0,none⟩):=hin 2 87 rfl
      have r86:ρ (.tmp 86)=.int .i64 (b.q):=hin 1 86 rfl
      have r88:ρ (.tmp 88)=.int .i64 (x.q):=hin 3 88 rfl
      have r90:ρ (.tmp 90)=.pointer (some ⟨w2.heap.size,1,none⟩):=hin 5 90 rfl
      have r92:ρ (.tmp 92)=.pointer (some ⟨wr.heap.size,1,none⟩):=hin 7 92 rfl
      have r91:ρ (.tmp 91)=.int .i64 (b.v):=hin 6 91 rfl
      have r93:ρ (.tmp 93)=.int .i64 (x.v):=hin 8 93 rfl
      have r95:ρ (.tmp 95)=.pointer (some ⟨w2.heap.size,2,none⟩):=hin 10 95 rfl
      have r97:ρ (.tmp 97)=.pointer (some ⟨wr.heap.size,2,none⟩):=hin 12 97 rfl
      have r96:ρ (.tmp 96)=.int .i64 (b.p):=hin 11 96 rfl
      have r98:ρ (.tmp 98)=.int .i64 (x.p):=hin 13 98 rfl
      have r100:ρ (.tmp 100)=.pointer (some ⟨w2.heap.size,0,none⟩):=hin 15 100 rfl
      have r89:ρ (.tmp 89)=.int .i64 (b.q+x.q):=hin 4 89 rfl
      have r101:ρ (.tmp 101)=.pointer (some ⟨w2.heap.size,1,none⟩):=hin 17 101 rfl
      have r94:ρ (.tmp 94)=.int .i64 (b.v+x.v):=hin 9 94 rfl
      have r102:ρ (.tmp 102)=.pointer (some ⟨w2.heap.size,2,none⟩):=hin 19 102 rfl
      have r99:ρ (.tmp 99)=.int .i64 (b.p+x.p):=hin 14 99 rfl
      clear hin hout
      refine DetSteps.pure (by decide) (fun ww=>Step.value (by simp[execOp,go_sem,r7])) ?_
      refine DetSteps.load (by decide) (fun s ww h1 h2 hw=>by rcases(by omega:s=0)with rfl<;>(simp only[pick,List.getD_cons_zero,List.getD_cons_succ]at hw;subst hw;exact Step.value (by simp[execOp,go_sem,r85,d0,d1,d2,y0,y1,y2,x0,x1,x2,hne,hne.symm,e0,e1,e2]))) ?_
      refine DetSteps.pure (by decide) (fun ww=>Step.value (by simp[execOp,go_sem,r8])) ?_
      refine DetSteps.load (by decide) (fun s ww h1 h2 hw=>by rcases(by omega:s=0)with rfl<;>(simp only[pick,List.getD_cons_zero,List.getD_cons_succ]at hw;subst hw;exact Step.value (by simp[execOp,go_sem,r87,d0,d1,d2,y0,y1,y2,x0,x1,x2,hne,hne.symm,e0,e1,e2]))) ?_
      refine DetSteps.pure (by decide) (fun ww=>Step.value (by simp[execOp,go_sem,r86,r88,d0,d1,d2,y0,y1,y2,x0,x1,x2,hne,hne.symm,e0,e1,e2])) ?_
      refine DetSteps.pure (by decide) (fun ww=>Step.value (by simp[execOp,go_sem,r7])) ?_
      refine DetSteps.load (by decide) (fun s ww h1 h2 hw=>by rcases(by omega:s=0)with rfl<;>(simp only[pick,List.getD_cons_zero,List.getD_cons_succ]at hw;subst hw;exact Step.value (by simp[execOp,go_sem,r90,d0,d1,d2,y0,y1,y2,x0,x1,x2,hne,hne.symm,e0,e1,e2]))) ?_
      refine DetSteps.pure (by decide) (fun ww=>Step.value (by simp[execOp,go_sem,r8])) ?_
      refine DetSteps.load (by decide) (fun s ww h1 h2 hw=>by rcases(by omega:s=0∨s=1)with rfl|rfl<;>(simp only[pick,List.getD_cons_zero,List.getD_cons_succ]at hw;subst hw;exact Step.value (by simp[execOp,go_sem,r92,d0,d1,d2,y0,y1,y2,x0,x1,x2,hne,hne.symm,e0,e1,e2]))) ?_
      refine DetSteps.pure (by decide) (fun ww=>Step.value (by simp[execOp,go_sem,r91,r93,d0,d1,d2,y0,y1,y2,x0,x1,x2,hne,hne.symm,e0,e1,e2])) ?_
      refine DetSteps.pure (by decide) (fun ww=>Step.value (by simp[execOp,go_sem,r7])) ?_
      refine DetSteps.load (by decide) (fun s ww h1 h2 hw=>by rcases(by omega:s=0)with rfl<;>(simp only[pick,List.getD_cons_zero,List.getD_cons_succ]at hw;subst hw;exact Step.value (by simp[execOp,go_sem,r95,d0,d1,d2,y0,y1,y2,x0,x1,x2,hne,hne.symm,e0,e1,e2]))) ?_
      refine DetSteps.pure (by decide) (fun ww=>Step.value (by simp[execOp,go_sem,r8])) ?_
      refine DetSteps.load (by decide) (fun s ww h1 h2 hw=>by rcases(by omega:s=0∨s=1∨s=2)with rfl|rfl|rfl<;>(simp only[pick,List.getD_cons_zero,List.getD_cons_succ]at hw;subst hw;exact Step.value (by simp[execOp,go_sem,r97,d0,d1,d2,y0,y1,y2,x0,x1,x2,hne,hne.symm,e0,e1,e2]))) ?_
      refine DetSteps.pure (by decide) (fun ww=>Step.value (by simp[execOp,go_sem,r96,r98,d0,d1,d2,y0,y1,y2,x0,x1,x2,hne,hne.symm,e0,e1,e2])) ?_
      refine DetSteps.pure (by decide) (fun ww=>Step.value (by simp[execOp,go_sem,r7])) ?_
      refine DetSteps.store (by decide) (fun ww hw=>by simp only[pick,List.getD_cons_zero,List.getD_cons_succ]at hw ⊢;subst hw;exact Step.pred (Step.skip rfl (by simp[execOp,go_sem,r100,r89,d0,d1,d2,y0,y1,y2,x0,x1,x2,hne,hne.symm,e0,e1,e2]<;>rfl)) rfl) ?_
      refine DetSteps.pure (by decide) (fun ww=>Step.value (by simp[execOp,go_sem,r7])) ?_
      refine DetSteps.store (by decide) (fun ww hw=>by simp only[pick,List.getD_cons_zero,List.getD_cons_succ]at hw ⊢;subst hw;exact Step.pred (Step.skip rfl (by simp[execOp,go_sem,r101,r94,d0,d1,d2,y0,y1,y2,x0,x1,x2,hne,hne.symm,e0,e1,e2]<;>rfl)) rfl) ?_
      refine DetSteps.pure (by decide) (fun ww=>Step.value (by simp[execOp,go_sem,r7])) ?_
      refine DetSteps.store (by decide) (fun ww hw=>by simp only[pick,List.getD_cons_zero,List.getD_cons_succ]at hw ⊢;subst hw;exact Step.pred (Step.skip rfl (by simp[execOp,go_sem,r102,r99,d0,d1,d2,y0,y1,y2,x0,x1,x2,hne,hne.symm,e0,e1,e2]<;>rfl)) rfl) ?_
      exact True.intro
     case fin =>
      intro wf hw
      simp only[pick,List.getD_cons_zero,List.getD_cons_succ,List.length_cons,List.length_nil]at hw
      subst hw
      simp only[puts,Act.put,List.getD_cons_zero,List.getD_cons_succ,List.setIfInBounds_toArray,List.set_cons_succ,List.set_cons_zero,List.length_cons,List.length_nil]
      have hX2:Cell3 (set3 V.drew w2.heap.size 0 ⟨b.q+x.q,b.v+x.v,b.p+x.p⟩) wr.heap.size x.q x.v x.p:=hX.drew.sets hne2 _
      have hO2:Cell3 (set3 V.drew w2.heap.size 0 ⟨b.q+x.q,b.v+x.v,b.p+x.p⟩) w2.heap.size (b.q+x.q) (b.v+x.v) (b.p+x.p):=hO.drew.put _
      have hR2:Cell3 (set3 V.drew w2.heap.size 0 ⟨b.q+x.q,b.v+x.v,b.p+x.p⟩) w.heap.size 0 0 0:=hR.drew.sets hne _
      have hHB2:=hHB.drew.sets (g:=w2.heap.size) (.inr (Nat.le_refl _)) 0 ⟨b.q+x.q,b.v+x.v,b.p+x.p⟩
      have hs2':w2.heap.size+1≤(set3 V.drew w2.heap.size 0 ⟨b.q+x.q,b.v+x.v,b.p+x.p⟩).heap.size:=by rw[set3_size];show _≤V.heap.size;omega
      have hbel2:Below w.heap.size w (set3 V.drew w2.heap.size 0 ⟨b.q+x.q,b.v+x.v,b.p+x.p⟩):=set3_below hbelV.drew (by omega) _ _
      change Exit.then _ _ .normal _ (set3 V.drew w2.heap.size 0 ⟨b.q+x.q,b.v+x.v,b.p+x.p⟩)
      generalize set3 V.drew w2.heap.size 0 ⟨b.q+x.q,b.v+x.v,b.p+x.p⟩=V2 at *
      clear d0 d1 d2 f0 f1 f2 y0 y1 y2 x0 x1 x2 hX hO hR hHB hbelV e0 e1 e2
      obtain⟨d0,d1,d2,f0,f1,f2⟩:=id hX2
      have hT:=Lib.hid hT
      go_wp2_with fail
      case' roundEnd =>
       refine⟨⟨_,_,t,plusL b x,k-x.q,rfl,rfl,hHB2,hR2,hO2,hs2',hbel2,hT.out⟩,?_⟩
       simp[intOf]
       omega
end Go.Proofs.Ytjccjmmbebiegaa
set_option linter.unusedVariables false
set_option linter.unusedSimpArgs false
namespace Go.Proofs.Ytjccjmmbebiegaa
open Go.RowKit
def OneSt (n k w r:Int) (i:Nat) (l:List Lay) (a b:Int):Prop :=
 ((i:Int)<n∧∃u z:Int,l=[⟨n-i,u,z⟩]∧(n-i)*k≤u∧u≤(n-i)*k+(n-i)∧0≤u∧u≤w∧-1000≤z∧z≤1000∧a=w-u∧b=r-z)∨((i:Int)=n∧l=[]∧a=w∧b=r)
structure OneNext (n k w r:Int) (i:Nat) (l:List Lay) (a b:Int):Prop where
 e:(outS l 1).2.2=0
 q:(outS l 1).2.1.q=1
 v0:k≤(outS l 1).2.1.v
 v1:(outS l 1).2.1.v≤k+1
 st:OneSt n k w r (i+1) (outS l 1).1 (a+(outS l 1).2.1.v) (b+(outS l 1).2.1.p)
 p0:-1000≤(outS l 1).2.1.p
 p1:(outS l 1).2.1.p≤1000
end Go.Proofs.Ytjccjmmbebiegaa
