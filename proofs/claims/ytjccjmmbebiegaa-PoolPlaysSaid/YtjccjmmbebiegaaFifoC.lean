/-
 The document's example of the fifo chapter; one layer, piece by piece: the walks.
 As many layers as may be, and one more: the walk.
 The document's Out.
 The document's In.
 Layers come, quantities go: as the document says. The walk.
-/
import Derived.Test.YtjccjmmbebiegaaFifoB
import Derived.Deep.QuietTactic
import Derived.BigQuiet
import Derived.IntWalk
import Derived.Deep.RegionHeld3
import Derived.StillTailTactics
set_option linter.unusedVariables false
set_option linter.unusedSimpArgs false
set_option linter.unnecessarySimpa false
set_option linter.unusedVariables false
set_option linter.unusedSimpArgs false
namespace Go.Proofs.Ytjccjmmbebiegaa
open Go.RowKit
end Go.Proofs.Ytjccjmmbebiegaa
set_option linter.unusedVariables false
set_option linter.unusedSimpArgs false
namespace Go.Proofs.Ytjccjmmbebiegaa
open Go.RowKit
end Go.Proofs.Ytjccjmmbebiegaa
set_option linter.unusedVariables false
set_option linter.unusedSimpArgs false
namespace Go.Proofs.Ytjccjmmbebiegaa
open Go.RowKit
def OutSt (l:List Lay) (q:Int) (j:Nat) (b:Lay) (mm:List Lay):Prop :=
 (b.q<q∧mm=[]∧outL l .zero q=outL (l.drop j) b (q-b.q)∧sumGo 0 ((l.map (·.q)).take j)=some b.q∧sumGo 0 ((l.map (·.v)).take j)=some b.v∧sumGo 0 ((l.map (·.p)).take j)=some b.p) ∨
 (b.q=q∧outL l .zero q=(mm++l.drop j,b))
theorem OutSt.bd {l:List Lay} {q:Int} {j:Nat} {b:Lay} {mm:List Lay} (h:OutSt l q j b mm):b.q≤q:=by
 rcases h with h|h
 ·omega
 ·omega
theorem OutSt.start {l:List Lay} {q:Int} (h:1≤q):OutSt l q 0 .zero []:=by
 refine .inl ⟨by simp[Lay.zero];omega,rfl,by simp[Lay.zero],rfl,rfl,rfl⟩
def Where (w:World) (a:Option Addr) (v:Value):Prop:=∀ad n c,v=.slice (some ad) n c→some ad=a∨w.heap.size≤ad.block
theorem Where.same (w:World) (a:Option Addr) (n c:Nat):Where w a (.slice a n c):=fun ad n' c' h=>by cases h;exact .inl rfl
theorem Where.own {w w':World} {a:Option Addr} {base:Nat} {e:TypeId} {k:Nat} {v:Value} {n:Nat} {zs:List Int} (h:OwnI w' base e k v n zs) (hb:w.heap.size≤base):Where w a v:=fun ad n' c hv=>by
 subst hv
 exact .inr (Nat.le_trans hb (World.ownsRow.lt h ad.block rfl).1)
theorem ref_PartQ (v q n:Int) (w:World) (hv:I64 v) (hq:I64 q) (hn:I64 n):Calls Try.prog 52 #[.int .i64 v,.int .i64 q,.int .i64 n] w fun e w'=>e=.returned (.int .i64 (partS v q n))∧w'=w :=
 (ref_Part v q n w hv hq hn).mono fun _ _ h=>⟨h.1,h.2.symm⟩
theorem drop_lay {l:List Lay} {j:Nat} {x:Lay} (hx:l[j]?=some x):l.drop j=x::l.drop (j+1):=by
 have hj:j<l.length:=by
  rcases Nat.lt_or_ge j l.length with h|h
  ·exact h
  ·rw[List.getElem?_eq_none h]at hx;cases hx
 rw[List.drop_eq_getElem_cons hj]
 rw[List.getElem?_eq_getElem hj]at hx
 rw[Option.some.inj hx]
theorem lay_all {l mm:List Lay} {j:Nat} {x:Lay} (hm:AllI (flat mm)) (hl:AllI (flat l)) (hx:l[j]?=some x):AllI (flat mm++[x.q,x.v,x.p]):=by
 intro z hz
 rcases List.mem_append.1 hz with h|h
 ·exact hm z h
 ·exact hl z (List.mem_flatMap.2 ⟨x,List.mem_of_getElem? hx,h⟩)
set_option maxHeartbeats 1000000 in
set_option maxRecDepth 20000 in
theorem ref_Out9 (a:Option Addr) (cap:Nat) (l:List Lay) (w:World) (h:Row w 3 a l.length cap (flat l)) (hok:rightL l=true) (q:Int) (hq:I64 q) :
  Calls Try.prog 44 #[.slice a l.length cap,.int .i64 q] w fun e w'=>∃v,e=.returned (.tuple #[v,(outS l q).2.1.val,.int .i64 (outS l q).2.2])∧LayRow w' v (outS l q).1∧Below w.heap.size w w'∧Where w a v:=by
 have h0:=h
 obtain⟨hl,hcap,hmax,hall,hat⟩:=h
 obtain⟨hq0,hq1⟩:=hq
 unfold maxLen at hmax
 go_enter Try.func44,Try.ntmps44
 try simp only[List.append_eq,List.cons_append,List.nil_append]
 by_cases q1:q<1
 ·go_wp2_with (first|(go_at_call 11;refine(ref_Total9 a cap l _ (h0.below (by(repeat (first|assumption|exact Below.refl _ _|refine ballc ?_ _|refine bdrew ?_|refine bdrewN ?_ _|refine bset ?_ _ _|refine bsetN ?_ (by omega) _ _|refine bthen ?_ (by assumption)))))).mono ?_;rintro e w' ⟨rfl,hw1⟩;obtain⟨⟨r0,r1,r2,z0,z1,z2⟩,hlw,hlw1,hlw2,hlw3⟩:=res3 hw1))
  have e:outS l q=(l,.zero,1):=by simp[outS,q1]
  rw[e]
  refine bodyPost_ret (v:=.tuple #[.slice a l.length cap,Lay.zero.val,.int .i64 1]) (by simp[results,Try.results44,go_sem,hlw,hlw1,r0,r1,r2,z0,z1,z2]) rfl ⟨_,rfl,⟨a,cap,rfl,h0.below (by(repeat (first|assumption|exact Below.refl _ _|refine ballc ?_ _|refine bdrew ?_|refine bdrewN ?_ _|refine bset ?_ _ _|refine bsetN ?_ (by omega) _ _|refine bthen ?_ (by assumption))))⟩,by(repeat (first|assumption|exact Below.refl _ _|refine ballc ?_ _|refine bdrew ?_|refine bdrewN ?_ _|refine bset ?_ _ _|refine bsetN ?_ (by omega) _ _|refine bthen ?_ (by assumption))),Where.same _ _ _ _⟩
 by_cases q2:(tot l).q<q
 ·go_wp2_with (first|(go_at_call 11;refine(ref_Total9 a cap l _ (h0.below (by(repeat (first|assumption|exact Below.refl _ _|refine ballc ?_ _|refine bdrew ?_|refine bdrewN ?_ _|refine bset ?_ _ _|refine bsetN ?_ (by omega) _ _|refine bthen ?_ (by assumption)))))).mono ?_;rintro e w' ⟨rfl,hw1⟩;obtain⟨⟨r0,r1,r2,z0,z1,z2⟩,hlw,hlw1,hlw2,hlw3⟩:=res3 hw1))
  have e:outS l q=(l,.zero,5):=by simp[outS,q1,q2]
  rw[e]
  refine bodyPost_ret (v:=.tuple #[.slice a l.length cap,Lay.zero.val,.int .i64 5]) (by simp[results,Try.results44,go_sem,hlw,hlw1,r0,r1,r2,z0,z1,z2]) rfl ⟨_,rfl,⟨a,cap,rfl,h0.below (by(repeat (first|assumption|exact Below.refl _ _|refine ballc ?_ _|refine bdrew ?_|refine bdrewN ?_ _|refine bset ?_ _ _|refine bsetN ?_ (by omega) _ _|refine bthen ?_ (by assumption))))⟩,by(repeat (first|assumption|exact Below.refl _ _|refine ballc ?_ _|refine bdrew ?_|refine bdrewN ?_ _|refine bset ?_ _ _|refine bsetN ?_ (by omega) _ _|refine bthen ?_ (by assumption))),Where.same _ _ _ _⟩
 go_wp2_with (first|(go_at_call 11;refine(ref_Total9 a cap l _ (h0.below (by(repeat (first|assumption|exact Below.refl _ _|refine ballc ?_ _|refine bdrew ?_|refine bdrewN ?_ _|refine bset ?_ _ _|refine bsetN ?_ (by omega) _ _|refine bthen ?_ (by assumption)))))).mono ?_;rintro e w1 ⟨rfl,hw1⟩;obtain⟨⟨r0,r1,r2,z0,z1,z2⟩,hlw,hlw1,hlw2,hlw3⟩:=res3 hw1))
 go_loopw [10,11] (fun m i wr=>∃(j:Nat) (b:Lay) (mm:List Lay),j≤l.length∧i=.int .i64 j∧OwnI wr (w1.heap.size+2) 32 3 m mm.length (flat mm)∧AllI (flat mm)∧mm.length≤j ∧
  Cell3 wr w.heap.size 0 0 0∧Cell3 wr (w1.heap.size+1) b.q b.v b.p∧w1.heap.size+2≤wr.heap.size∧Below w.heap.size w wr∧0≤b.q∧OutSt l q j b mm∧(mm=[]→m=.slice none 0 0)) (fun _ i _=>l.length-(intOf i).toNat)
 case atStart=>exact⟨0,.zero,[],by omega,rfl,OwnI.nil _ _ _ _,(fun z hz=>by simp[flat]at hz),by simp,⟨by go_simp,by go_simp,by go_simp,by go_simp,by go_simp,by go_simp⟩,⟨by go_simp,by go_simp,by go_simp,by simp,by simp,by simp⟩,by simp,by(repeat (first|assumption|exact Below.refl _ _|refine ballc ?_ _|refine bdrew ?_|refine bdrewN ?_ _|refine bset ?_ _ _|refine bsetN ?_ (by omega) _ _|refine bthen ?_ (by assumption))),by simp[Lay.zero],OutSt.start (by omega),fun _=>rfl⟩
 case round =>
  obtain⟨j,g,mm,hj,rfl,hown,hmm,hml,⟨r0,r1,r2,z0,z1,z2⟩,⟨y0,y1,y2,x0,x1,x2⟩,hs2,hbel,hg0,hst,hnil⟩:=hrel
  have hsz:=hbel.size
  by_cases hlt:j<l.length
  ·obtain⟨b,off,rfl,hb,hc⟩:∃b off,a=some ⟨b,off,none⟩∧b<w.heap.size∧CellsAt w b off (flat l):=by
    rcases hat with h0|h0
    ·omega
    ·exact h0
   obtain⟨x,hx⟩:∃x,l[j]?=some x:=⟨l[j],by simp[hlt]⟩
   obtain⟨c0,c1,c2⟩:=lay_cells hc hx hb hbel
   have hlt':(j:Int)<(l.length:Int):=by omega
   have hj0:(0:Int)≤(j:Int):=by omega
   have hx:=Lib.hid hx
   clear hc hat
   have n0:=World.new_ne wr _ c0
   have n1:=World.new_ne wr _ c1
   have n2:=World.new_ne wr _ c2
   have n3:=World.new_ne wr _ y0
   have hgq:IntKind.i64.wrap (q-g.q)=q-g.q:=IntWalk.i64_in _ (by have:=hst.bd;omega)
   go_wp2_with fail
   go_region_held3 (fun w'=>w'.cell? ⟨b,off+j*3,none⟩=some (.int .i64 x.q)∧w'.cell? ⟨b,off+j*3+1,none⟩=some (.int .i64 x.v)∧w'.cell? ⟨b,off+j*3+2,none⟩=some (.int .i64 x.p)∧w'.cell? ⟨w1.heap.size+1,0,none⟩=some (.int .i64 g.q)) (go_keep) (fail)
   clear n0 n1 n2 n3 hgq c0 c1 c2
   have hs0:w.heap.size<wr.heap.size:=by omega
   have hs1:w1.heap.size+1<wr.heap.size:=by omega
   have hs1b:w1.heap.size<wr.heap.size:=by omega
   have hs0b:w.heap.size<wr.heap.size+1:=by omega
   obtain⟨W,hW⟩:∃W,W=(wr.alloc (.cells #[.int .i64 x.q,.int .i64 x.v,.int .i64 x.p] 32)).drew:=⟨_,rfl⟩
   have hWs:W.heap.size=wr.heap.size+1:=by rw[hW];simp
   have c0:W.cell? ⟨wr.heap.size,0,none⟩=some (.int .i64 x.q):=by rw[hW];simp
   have c1:W.cell? ⟨wr.heap.size,1,none⟩=some (.int .i64 x.v):=by rw[hW];simp
   have c2:W.cell? ⟨wr.heap.size,2,none⟩=some (.int .i64 x.p):=by rw[hW];simp
   have hB:Below wr.heap.size wr W:=by rw[hW];exact((Below.refl _ wr).alloc (Nat.le_refl _) _).drew
   replace r0:=(hB.cell hs0).trans r0
   replace r1:=(hB.cell hs0).trans r1
   replace r2:=(hB.cell hs0).trans r2
   replace z0:=(hB.frozen hs0).trans z0
   replace z1:=(hB.frozen hs0).trans z1
   replace z2:=(hB.frozen hs0).trans z2
   replace y0:=(hB.cell hs1).trans y0
   replace y1:=(hB.cell hs1).trans y1
   replace y2:=(hB.cell hs1).trans y2
   replace x0:=(hB.frozen hs1).trans x0
   replace x1:=(hB.frozen hs1).trans x1
   replace x2:=(hB.frozen hs1).trans x2
   have hown:=OwnI.below hown hB
   have hbel:Below w.heap.size w W:=hbel.trans (hB.mono hsz)
   rw[←hW]
   clear hB hW
   rcases hst with⟨a1,rfl,a3,a4,a5,a6⟩|⟨b1,b2⟩
   ·have hz:¬ (q-g.q≤0):=by omega
    obtain rfl:=hnil rfl
    clear hnil
    obtain⟨g1,g2,g3,g4,g5,g6,g7,g8,g9,g10,g11,g12⟩:=heads hok hx.out a4 a5 a6
    obtain⟨k1,k2,k3,k4,k5,k6⟩:=layOk_iff.1 (all_at (rightL_iff.1 hok).2.1 hx.out)
    have a3:=Lib.hid a3
    have a4:=Lib.hid a4
    have a5:=Lib.hid a5
    have a6:=Lib.hid a6
    by_cases hcut:q-g.q<x.q
    ·have cb:=cut_bd (all_at (rightL_iff.1 hok).2.1 hx.out) (q:=q-g.q) (by omega) (by omega)
     have i1:I64 x.v:=⟨by omega,by omega⟩
     have i2:I64 (q-g.q):=⟨by omega,by omega⟩
     have i3:I64 x.q:=⟨by omega,by omega⟩
     have i4:I64 x.p:=⟨by omega,by omega⟩
     have a3:=Lib.hid a3
     go_wp2_with fail
     obtain⟨V,hV⟩:∃V,V=W.alloc (.cells #[.int .i64 x.q,.int .i64 x.v,.int .i64 x.p] 32):=⟨_,rfl⟩
     have hB:Below W.heap.size W V:=by rw[hV];exact(Below.refl _ W).alloc (Nat.le_refl _) _
     have hVs:V.heap.size=wr.heap.size+2:=by rw[hV];simp[hWs]
     have f0:V.frozen? ⟨wr.heap.size+1,0,none⟩=false:=by rw[hV,←hWs];simp
     have f1:V.frozen? ⟨wr.heap.size+1,1,none⟩=false:=by rw[hV,←hWs];simp
     have f2:V.frozen? ⟨wr.heap.size+1,2,none⟩=false:=by rw[hV,←hWs];simp
     have d0:V.cell? ⟨wr.heap.size+1,0,none⟩=some (.int .i64 x.q):=by rw[hV,←hWs];simp
     have d1:V.cell? ⟨wr.heap.size+1,1,none⟩=some (.int .i64 x.v):=by rw[hV,←hWs];simp
     have d2:V.cell? ⟨wr.heap.size+1,2,none⟩=some (.int .i64 x.p):=by rw[hV,←hWs];simp
     have hlt0:w.heap.size<W.heap.size:=by omega
     have hlt1:w1.heap.size+1<W.heap.size:=by omega
     have hltx:wr.heap.size<W.heap.size:=by omega
     replace c0:=(hB.cell hltx).trans c0
     replace c1:=(hB.cell hltx).trans c1
     replace c2:=(hB.cell hltx).trans c2
     replace r0:=(hB.cell hlt0).trans r0
     replace r1:=(hB.cell hlt0).trans r1
     replace r2:=(hB.cell hlt0).trans r2
     replace z0:=(hB.frozen hlt0).trans z0
     replace z1:=(hB.frozen hlt0).trans z1
     replace z2:=(hB.frozen hlt0).trans z2
     replace y0:=(hB.cell hlt1).trans y0
     replace y1:=(hB.cell hlt1).trans y1
     replace y2:=(hB.cell hlt1).trans y2
     replace x0:=(hB.frozen hlt1).trans x0
     replace x1:=(hB.frozen hlt1).trans x1
     replace x2:=(hB.frozen hlt1).trans x2
     replace hown:=OwnI.below hown hB
     replace hbel:Below w.heap.size w V:=hbel.trans (hB.mono (by omega))
     rw[←hV]
     clear hB hV
     refine wp_region_det' 2 [some 57,some 58,some 59,some 60,some 61,some 62,some 63,some 64,some 65,some 66,some 67,some 68,some 69,some 70,none] [14] [(0,0),(0,0),(0,0),(0,0),(0,0),(0,0),(0,0),(0,0),(0,0),(0,0),(0,0),(0,0),(0,0),(0,0),(0,0)] (pick [fun w'=>w'=V.drew,fun w'=>w'=(((V.drew.setCell ⟨(wr.heap.size+1),0,none⟩ (.int .i64 (q-g.q))).setCell ⟨(wr.heap.size+1),1,none⟩ (.int .i64 (partS x.v (q-g.q) x.q))).setCell ⟨(wr.heap.size+1),2,none⟩ (.int .i64 (partS x.p (q-g.q) x.q)))]) [.int .i64 (q-g.q),.pointer (some ⟨wr.heap.size,1,none⟩),.int .i64 (x.v),.int .i64 (q-g.q),.pointer (some ⟨wr.heap.size,0,none⟩),.int .i64 (x.q),.int .i64 (partS x.v (q-g.q) x.q),.pointer (some ⟨wr.heap.size,2,none⟩),.int .i64 (x.p),.int .i64 (q-g.q),.pointer (some ⟨wr.heap.size,0,none⟩),.int .i64 (x.q),.int .i64 (partS x.p (q-g.q) x.q),.agg #[.int .i64 (q-g.q),.int .i64 (partS x.v (q-g.q) x.q),.int .i64 (partS x.p (q-g.q) x.q)],undef] (by kernel_rfl) (by kernel_rfl) (by kernel_rfl) rfl (by kernel_rfl) (by kernel_rfl) (by kernel_rfl) (by rfl) rfl ?steps ?fin
     case steps =>
      intro ρ hin hout hconst hfun
      have r13:ρ (.tmp 13)=.int .i64 (q-g.q):=hout 13 rfl
      have r12:ρ (.tmp 12)=.pointer (some ⟨wr.heap.size,0,none⟩):=hout 12 rfl
      have r58:ρ (.tmp 58)=.pointer (some ⟨wr.heap.size,1,none⟩):=hin 1 58 rfl
      have r61:ρ (.tmp 61)=.pointer (some ⟨wr.heap.size,0,none⟩):=hin 4 61 rfl
      have r59:ρ (.tmp 59)=.int .i64 (x.v):=hin 2 59 rfl
      have r60:ρ (.tmp 60)=.int .i64 (q-g.q):=hin 3 60 rfl
      have r62:ρ (.tmp 62)=.int .i64 (x.q):=hin 5 62 rfl
      have r64:ρ (.tmp 64)=.pointer (some ⟨wr.heap.size,2,none⟩):=hin 7 64 rfl
      have r67:ρ (.tmp 67)=.pointer (some ⟨wr.heap.size,0,none⟩):=hin 10 67 rfl
      have r65:ρ (.tmp 65)=.int .i64 (x.p):=hin 8 65 rfl
      have r66:ρ (.tmp 66)=.int .i64 (q-g.q):=hin 9 66 rfl
      have r68:ρ (.tmp 68)=.int .i64 (x.q):=hin 11 68 rfl
      have r57:ρ (.tmp 57)=.int .i64 (q-g.q):=hin 0 57 rfl
      have r63:ρ (.tmp 63)=.int .i64 (partS x.v (q-g.q) x.q):=hin 6 63 rfl
      have r69:ρ (.tmp 69)=.int .i64 (partS x.p (q-g.q) x.q):=hin 12 69 rfl
      have r14:ρ (.tmp 14)=.pointer (some ⟨(wr.heap.size+1),0,none⟩):=hout 14 rfl
      have r70:ρ (.tmp 70)=.agg #[.int .i64 (q-g.q),.int .i64 (partS x.v (q-g.q) x.q),.int .i64 (partS x.p (q-g.q) x.q)]:=hin 13 70 rfl
      clear hin hout
      refine DetSteps.pure (by decide) (fun ww=>Step.value (by simp[execOp,r13])) ?_
      refine DetSteps.pure (by decide) (fun ww=>Step.value (by simp[execOp,go_sem,r12])) ?_
      refine DetSteps.load (by decide) (fun s ww h1 h2 hw=>by rcases(by omega:s=0)with rfl<;>(simp only[pick,List.getD_cons_zero,List.getD_cons_succ]at hw;subst hw;exact Step.value (by simp[execOp,go_sem,r58,c0,c1,c2,d0,d1,d2,f0,f1,f2]))) ?_
      refine DetSteps.pure (by decide) (fun ww=>Step.value (by simp[execOp,r13])) ?_
      refine DetSteps.pure (by decide) (fun ww=>Step.value (by simp[execOp,go_sem,r12])) ?_
      refine DetSteps.load (by decide) (fun s ww h1 h2 hw=>by rcases(by omega:s=0)with rfl<;>(simp only[pick,List.getD_cons_zero,List.getD_cons_succ]at hw;subst hw;exact Step.value (by simp[execOp,go_sem,r61,c0,c1,c2,d0,d1,d2,f0,f1,f2]))) ?_
      refine DetSteps.call (by decide) (fun s ww h1 h2 hw=>by rcases(by omega:s=0)with rfl<;>(simp only[pick,List.getD_cons_zero,List.getD_cons_succ]at hw ⊢;exact StepP.call (w1:=ww) (by simp[execOp,go_sem,r59,r60,r62,hfun]) ((ref_PartQ x.v (q-g.q) x.q ww i1 i2 i3).mono fun e w3 h3=>⟨h3.1,h3.2.trans hw⟩))) ?_
      refine DetSteps.pure (by decide) (fun ww=>Step.value (by simp[execOp,go_sem,r12])) ?_
      refine DetSteps.load (by decide) (fun s ww h1 h2 hw=>by rcases(by omega:s=0)with rfl<;>(simp only[pick,List.getD_cons_zero,List.getD_cons_succ]at hw;subst hw;exact Step.value (by simp[execOp,go_sem,r64,c0,c1,c2,d0,d1,d2,f0,f1,f2]))) ?_
      refine DetSteps.pure (by decide) (fun ww=>Step.value (by simp[execOp,r13])) ?_
      refine DetSteps.pure (by decide) (fun ww=>Step.value (by simp[execOp,go_sem,r12])) ?_
      refine DetSteps.load (by decide) (fun s ww h1 h2 hw=>by rcases(by omega:s=0)with rfl<;>(simp only[pick,List.getD_cons_zero,List.getD_cons_succ]at hw;subst hw;exact Step.value (by simp[execOp,go_sem,r67,c0,c1,c2,d0,d1,d2,f0,f1,f2]))) ?_
      refine DetSteps.call (by decide) (fun s ww h1 h2 hw=>by rcases(by omega:s=0)with rfl<;>(simp only[pick,List.getD_cons_zero,List.getD_cons_succ]at hw ⊢;exact StepP.call (w1:=ww) (by simp[execOp,go_sem,r65,r66,r68,hfun]) ((ref_PartQ x.p (q-g.q) x.q ww i4 i2 i3).mono fun e w3 h3=>⟨h3.1,h3.2.trans hw⟩))) ?_
      refine DetSteps.pure (by decide) (fun ww=>Step.value (by simp[execOp,go_sem,r57,r63,r69])) ?_
      refine DetSteps.store (by decide) (fun ww hw=>by simp only[pick,List.getD_cons_zero,List.getD_cons_succ]at hw ⊢;subst hw;exact Step.pred (Step.skip rfl (by simp[execOp,go_sem,r14,r70,c0,c1,c2,d0,d1,d2,f0,f1,f2]<;>rfl)) rfl) ?_
      exact True.intro
     case fin =>
      intro wf hw
      simp only[pick,List.getD_cons_zero,List.getD_cons_succ,List.length_cons,List.length_nil]at hw
      subst hw
      simp only[puts,Act.put,List.getD_cons_zero,List.getD_cons_succ,List.setIfInBounds_toArray,List.set_cons_succ,List.set_cons_zero,List.length_cons,List.length_nil]
      change Exit.then _ _ .normal _ (set3 V.drew (wr.heap.size+1) 0 (cutL x (q-g.q)))
      have hne1:wr.heap.size≠wr.heap.size+1:=by omega
      have hC:=Cell3.sets (Cell3.drew ⟨y0,y1,y2,x0,x1,x2⟩) (g:=wr.heap.size+1) (off:=0) (by omega) (cutL x (q-g.q))
      have hR:=Cell3.sets (Cell3.drew ⟨r0,r1,r2,z0,z1,z2⟩) (g:=wr.heap.size+1) (off:=0) (by omega) (cutL x (q-g.q))
      have hY:=Cell3.put (Cell3.drew ⟨d0,d1,d2,f0,f1,f2⟩) (cutL x (q-g.q))
      have hX0:=(set3_cell V.drew hne1 0 0 (cutL x (q-g.q))).trans c0
      have hX1:=(set3_cell V.drew hne1 0 1 (cutL x (q-g.q))).trans c1
      have hX2:=(set3_cell V.drew hne1 0 2 (cutL x (q-g.q))).trans c2
      have hbelU:Below w.heap.size w (set3 V.drew (wr.heap.size+1) 0 (cutL x (q-g.q))):=set3_below hbel.drew (by omega) _ _
      have hUs:(set3 V.drew (wr.heap.size+1) 0 (cutL x (q-g.q))).heap.size=wr.heap.size+2:=by rw[set3_size];exact hVs
      generalize set3 V.drew (wr.heap.size+1) 0 (cutL x (q-g.q))=U at *
      clear c0 c1 c2 d0 d1 d2 f0 f1 f2 y0 y1 y2 x0 x1 x2 r0 r1 r2 z0 z1 z2 hown hbel hVs
      obtain⟨d0,d1,d2,-,-,-⟩:=id hY
      simp only[cutL]at d0 d1 d2
      obtain⟨y0,y1,y2,x0,x1,x2⟩:=id hC
      have cv0:=cb.v0;have cv1:=cb.v1;have cp0:=cb.p0;have cp1:=cb.p1;have cd0:=cb.d0;have cd1:=cb.d1
      go_wp2_with (at_builtin;refine wpList_push _ rfl _ _ 23 rfl (wr.heap.size+2) 32 3 elem_Layer _ 0 [] rfl (OwnI.nil _ _ _ _) _ 0 1 [x.q-(q-g.q),x.v-partS x.v (q-g.q) x.q,x.p-partS x.p (q-g.q) x.q] rfl rfl (lit3 (by simp[hUs])) (by omega) (by simp[hUs]) ?_)
      intro m' w2 hown' hb1
      have hU2:Below U.heap.size U w2:=((Below.refl _ U).alloc (Nat.le_refl _) _).trans (hb1.mono (by omega))
      have hw2s:wr.heap.size+2<w2.heap.size+1:=by have:=hU2.size;omega
      obtain⟨r0,r1,r2,z0,z1,z2⟩:=(Cell3.next hR (by omega) hU2).1
      obtain⟨d0,d1,d2,-,-,-⟩:=(Cell3.next hY (by omega) hU2).1
      simp only[cutL]at d0 d1 d2
      have hC2:=(Cell3.next hC (by omega) hU2).1
      have hbel2:Below w.heap.size w w2:=bthen hbelU hU2
      have hcq:0≤q-g.q:=by omega
      have hcq2:q-g.q≤x.q:=by omega
      have hxo:=hx.out
      have hall':AllI (flat [minusL x (cutL x (q-g.q))]):=flat_ok fun y hy=>by
       rw[List.mem_singleton.1 hy]
       exact(cut_ok (all_at (rightL_iff.1 hok).2.1 hxo) (by omega) hcut).1
      have hst':OutSt l q (j+1) (plusL g (cutL x (q-g.q))) [minusL x (cutL x (q-g.q))]:=by
       have a3:=a3.out.out
       rw[drop_lay hxo,outL,if_neg (by omega),if_pos hcut]at a3
       exact .inr ⟨by simp only[plusL,cutL];omega,by rw[a3];rfl⟩
      have hst':=Lib.hid hst'
      have hown3:OwnI w2 (w1.heap.size+2) 32 3 m' [minusL x (cutL x (q-g.q))].length (flat [minusL x (cutL x (q-g.q))]):=OwnI.mono hown' (by omega)
      have hlt1:w1.heap.size+1<w2.heap.size:=by omega
      clear hown' hb1 hC hR hY hU2 hbelU hUs y0 y1 y2 x0 x1 x2 hX0 hX1 hX2 hxo
      obtain⟨y0,y1,y2,x0,x1,x2⟩:=hC2
      simp only[cutL]at hall' hst' hown3
      generalize partS x.v (q-g.q) x.q=pv at *
      generalize partS x.p (q-g.q) x.q=pp at *
      go_wp2_with fail
      case' roundEnd =>
       refine⟨⟨j+1,⟨g.q+(q-g.q),g.v+pv,g.p+pp⟩,[minusL x ⟨q-g.q,pv,pp⟩],hlt,by simp,?_,hall',by simp,⟨by go_simp,by go_simp,by go_simp,by go_simp,by go_simp,by go_simp⟩,⟨by go_simp,by go_simp,by go_simp,by go_simp,by go_simp,by go_simp⟩,by simp;omega,by(repeat (first|assumption|exact Below.refl _ _|refine ballc ?_ _|refine bdrew ?_|refine bdrewN ?_ _|refine bset ?_ _ _|refine bsetN ?_ (by omega) _ _|refine bthen ?_ (by assumption))),by simp only;omega,hst'.out,fun h=>by simp at h⟩,?_⟩
       ·exact((hown3.set (b:=w1.heap.size+1) (by omega) _ _).set (b:=w1.heap.size+1) (by omega) _ _).set (b:=w1.heap.size+1) (by omega) _ _
       ·simp[intOf]
        omega
    ·go_wp2_with fail
     case' roundEnd =>
      have hxo:=hx.out
      obtain⟨sq,sv,sp,e1,e2,e3,-⟩:=right_sums hok
      have hst':OutSt l q (j+1) (plusL g x) []:=by
       have a3:=a3.out
       rw[drop_lay hxo,outL,if_neg (by omega),if_neg hcut,show q-g.q-x.q=q-(plusL g x).q from by simp[plusL];omega]at a3
       rcases Int.lt_or_le (plusL g x).q q with h|h
       ·exact .inl ⟨h,rfl,a3,next_some e1 hxo a4.out,next_some e2 hxo a5.out,next_some e3 hxo a6.out⟩
       ·have hqq:(plusL g x).q=q:=by simp only[plusL]at h ⊢;omega
        rw[outL_done (r:=l.drop (j+1)) (a:=plusL g x) (q:=q-(plusL g x).q) (by omega)]at a3
        exact .inr ⟨hqq,by rw[a3];rfl⟩
      refine⟨⟨j+1,plusL g x,[],hlt,by simp,?_,hmm,by simp,⟨by go_simp,by go_simp,by go_simp,by go_simp,by go_simp,by go_simp⟩,⟨by simp only[plusL];go_simp,by simp only[plusL];go_simp,by simp only[plusL];go_simp,by go_simp,by go_simp,by go_simp⟩,by simp;omega,by(repeat (first|assumption|exact Below.refl _ _|refine ballc ?_ _|refine bdrew ?_|refine bdrewN ?_ _|refine bset ?_ _ _|refine bsetN ?_ (by omega) _ _|refine bthen ?_ (by assumption))),by simp only[plusL];omega,hst',fun _=>rfl⟩,?_⟩
      ·exact(((hown.set (by omega) _ _).set (by omega) _ _).set (by omega) _ _).alloc _
      ·simp[intOf]
       omega
   ·have hz:q-g.q≤0:=by omega
    have b2:=Lib.hid b2
    go_wp2_with (at_builtin;refine wpList_push _ rfl _ _ 23 rfl (w1.heap.size+2) 32 3 elem_Layer u10 mm.length (flat mm) rfl (hown.alloc _) _ 0 1 [x.q,x.v,x.p] rfl rfl (lit3 (by simp[hWs])) ?c1 ?c2 ?_)
    case c1=>have:=(rightL_iff.1 hok).1;omega
    case c2=>simp[hWs];omega
    ·intro m' w2 hown' hb1
     have b2:=b2.out
     have hx:=hx.out
     have e1:flat mm++[x.q,x.v,x.p]=flat (mm++[x]):=by simp[flat]
     have e2:mm.length+1=(mm++[x]).length:=by simp
     rw[e1,e2]at hown'
     have hall':AllI (flat (mm++[x])):=by rw[←e1];exact lay_all hmm hall hx
     have hst':OutSt l q (j+1) g (mm++[x]):=.inr ⟨b1,by rw[b2,drop_lay hx];simp⟩
     have hC0:Cell3 w2 w.heap.size 0 0 0:=Cell3.behind ⟨r0,r1,r2,z0,z1,z2⟩ (by omega) (by omega) hb1
     have hC1:Cell3 w2 (w1.heap.size+1) g.q g.v g.p:=Cell3.behind ⟨y0,y1,y2,x0,x1,x2⟩ (by omega) (by omega) hb1
     have hsz2:=hb1.size
     have hbel':Below w.heap.size w w2:=(hbel.alloc (by omega) _).trans (hb1.mono (by omega))
     simp only[World.size_alloc]at hsz2
     clear b2 hx hown hb1 e1 e2 r0 r1 r2 z0 z1 z2 y0 y1 y2 x0 x1 x2 c0 c1 c2 hbel
     have hst':=Lib.hid hst'
     go_wp2
     go_roundw
     case rel=>exact⟨j+1,g,mm++[x],hlt,by go_num,hown',hall',by simp;omega,hC0,hC1,by omega,hbel',hg0,hst'.out,fun h=>by simp at h⟩
     case measure=>simp[intOf];omega
  ·have ej:j=l.length:=by omega
   subst ej
   have hge:¬ ((l.length:Int)<(l.length:Int)):=by omega
   have hB:outL l .zero q=(mm,g):=by
    rcases hst with⟨a1,rfl,a3,a4,a5,a6⟩|⟨b1,b2⟩
    ·exfalso
     obtain⟨sq,sv,sp,e1,e2,e3,e4⟩:=right_sums hok
     rw[List.take_of_length_le (by simp),e1]at a4
     rw[e4]at q2
     have:=Option.some.inj a4
     simp only at q2
     omega
    ·rw[b2,List.drop_length,List.append_nil]
   obtain⟨m0,mc,rfl,hrow⟩:=hown.row hmm
   have hwh:Where w a (.slice m0 mm.length mc):=Where.own hown (by omega)
   have ho:outS l q=(mm,g,0):=by
    simp only[outS,if_neg (show ¬ q<1 by omega),if_neg (show ¬ (tot l).q<q by omega),hB]
   clear hst hB hat
   have hs0:w.heap.size<wr.heap.size:=by omega
   have hs1:w1.heap.size+1<wr.heap.size:=by omega
   have hne:w.heap.size≠w1.heap.size+1:=by omega
   go_wp2_with fail
   go_region_held3 (fun w'=>w'.cell? ⟨w1.heap.size+1,0,none⟩=some (.int .i64 g.q)∧w'.cell? ⟨w1.heap.size+1,1,none⟩=some (.int .i64 g.v)∧w'.cell? ⟨w1.heap.size+1,2,none⟩=some (.int .i64 g.p)) (go_keep) (fail)
   go_wp2
   have hres:=((((hown.set (b:=w.heap.size) (by omega) 0 (.int .i64 g.q)).set (b:=w.heap.size) (by omega) 1 (.int .i64 g.v)).set (b:=w.heap.size) (by omega) 2 (.int .i64 g.p)).drew).row hmm
   have hbelF:Below w.heap.size w (((wr.setCell ⟨w.heap.size,0,none⟩ (.int .i64 g.q)).setCell ⟨w.heap.size,1,none⟩ (.int .i64 g.v)).setCell ⟨w.heap.size,2,none⟩ (.int .i64 g.p)).drew:=bdrew (bset (bset (bset hbel 0 _) 1 _) 2 _)
   exact bodyPost_ret (v:=.tuple #[.slice m0 mm.length mc,g.val,.int .i64 0]) (by simp[results,Try.results44,go_sem,hs0,r0,r1,r2,z0,z1,z2]) rfl ⟨_,by rw[ho],by rw[ho];exact hres,hbelF,hwh⟩
end Go.Proofs.Ytjccjmmbebiegaa
set_option linter.unusedVariables false
set_option linter.unusedSimpArgs false
namespace Go.Proofs.Ytjccjmmbebiegaa
open Go.RowKit
end Go.Proofs.Ytjccjmmbebiegaa
set_option linter.unusedVariables false
set_option linter.unusedSimpArgs false
namespace Go.Proofs.Ytjccjmmbebiegaa
open Go.RowKit
end Go.Proofs.Ytjccjmmbebiegaa
