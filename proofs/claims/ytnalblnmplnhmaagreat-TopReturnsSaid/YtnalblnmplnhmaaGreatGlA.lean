/-
 gl.Post: what it answers; its inner function.
 gl.Post, gl.Trial.
-/
import Derived.Test.YtnalblnmplnhmaaGreatVouA
import Derived.RegionTactic
import Derived.Deep.RegionLaw
set_option linter.unusedVariables false
set_option linter.unusedSimpArgs false
namespace Go.Proofs.YtnalblnmplnhmaaGreat
open Go.RowKit
def addAll:List Int→List Lin→Option (List Int)
 |bal,[]=>some bal
 |bal,x::m=>if addOk (bal.getD x.a.toNat 0) x.n then addAll (bal.set x.a.toNat (bal.getD x.a.toNat 0+x.n)) m else none
theorem addAll_len:∀(m:List Lin) (bal next:List Int),addAll bal m=some next→next.length=bal.length
 |[],bal,next,h=>by simp[addAll]at h;rw[h]
 |x::m,bal,next,h=>by
  simp only[addAll]at h
  split at h
  ·have:=addAll_len m _ _ h
   simpa using this
  ·cases h
theorem addAll_snoc:∀(m:List Lin) (bal:List Int) (x:Lin),addAll bal (m++[x])=(addAll bal m).bind fun next=>if addOk (next.getD x.a.toNat 0) x.n then some (next.set x.a.toNat (next.getD x.a.toNat 0+x.n))else none
 |[],bal,x=>by simp[addAll]
 |y::m,bal,x=>by
  simp only[List.cons_append,addAll]
  split
  ·exact addAll_snoc m _ x
  ·rfl
theorem addAll_append:∀(m k:List Lin) (bal:List Int),addAll bal (m++k)=(addAll bal m).bind fun next=>addAll next k
 |[],k,bal=>by simp[addAll]
 |y::m,k,bal=>by
  simp only[List.cons_append,addAll]
  split
  ·exact addAll_append m k _
  ·rfl
theorem addAll_stop {m:List Lin} {j:Nat} {bal next:List Int} {x:Lin} (h:addAll bal (m.take j)=some next) (hx:m[j]?=some x) (ho:addOk (next.getD x.a.toNat 0) x.n=false):addAll bal m=none:=by
 have e:m.take (j+1)=m.take j++[x]:=by rw[List.take_add_one,hx];rfl
 conv=>lhs;rw[←List.take_append_drop (j+1) m]
 rw[addAll_append,e,addAll_snoc,h]
 simp only[Option.bind_some]
 rw[if_neg (by rw[ho];simp)]
 rfl
def postE (bal:List Int) (l:List Lin):Int:=if(plainS l).2≠0∨(0<(plainS l).1.length∧checkL (plainS l).1=false)then 10 else match addAll bal (plainS l).1 with|some _=>0|none=>2
def postN (bal:List Int) (l:List Lin):List Int:=(addAll bal (plainS l).1).getD bal
set_option maxRecDepth 20000 in
set_option maxHeartbeats 4000000 in
theorem post_fn (b off cap c:Nat) (bal:List Int) (hbal:bal.length=17) (hcap:17≤cap) (hmax:cap≤maxLen) (a:Option Addr) (lcap:Nat) (l:List Lin) (w:World) (hC:CellsAt w b off bal) (hfz:∀i,w.frozen? ⟨b,i,none⟩=false) (hb:b<w.heap.size)
  (hc:w.cell? ⟨c,0,none⟩=some (.slice a l.length lcap)) (hcl:c<w.heap.size) (hR:Row w 2 a l.length lcap (flat2 l)) (h20:l.length≤20) (hI:AllI bal) :
  Calls Tryz.prog 151 #[.slice (some ⟨b,off,none⟩) 17 cap,.pointer (some ⟨c,0,none⟩)] w fun e w'=>e=.returned (.int .i64 (postE bal l))∧(postE bal l=0→CellsAt w' b off (postN bal l))∧Keep b w w':=by
 have hPall:=plain_all l
 have hPI:=plain_I l
 have hPl:=vou_Plain a lcap l
 generalize hE:postE bal l=E
 generalize hN:postN bal l=N
 have hEh:=Lib.hid hE
 have hNh:=Lib.hid hN
 clear hE hN
 obtain⟨m,e',hP⟩:∃m e',plainS l=(m,e'):=⟨_,_,rfl⟩
 rw[hP]at hPall hPI hPl
 have hPh:=Lib.hid hP
 clear hP
 unfold maxLen at hmax
 go_enter Tryz.func151,Tryz.ntmps151
 go_wp2_with fail
 refine(hPl w hR h20).mono ?_
 rintro e w1 ⟨v1,rfl,hh,hw1⟩
 obtain⟨a1,c1,rfl,R1⟩:=id (hh.row hPI)
 clear hPl hc
 by_cases he:e'=0
 ·subst he
  by_cases hm0:m.length=0
  ·obtain rfl:m=[]:=List.eq_nil_of_length_eq_zero hm0
   have hr:E=0:=by rw[←hEh.out,postE,hPh.out];simp[addAll]
   have hn:N=bal:=by rw[←hNh.out,postN,hPh.out];simp[addAll]
   subst hr
   subst hn
   clear hh hm0
   go_wp2_with fail
   refine wp_loop_rounds 1 ?_
   rw[rounds_succ]
   go_wp2_with fail
   go_ret
   first|exact⟨rfl,hC.below hb hw1,Keep.of hw1 hb⟩|exact⟨rfl,fun _=>hC.below hb hw1,Keep.of hw1 hb⟩
  ·obtain⟨g,off1,rfl,hg,hgl,hgc⟩:∃g off1,a1=some ⟨g,off1,none⟩∧w.heap.size≤g∧g<w1.heap.size∧CellsAt w1 g off1 (flat2 m):=by
    obtain⟨a',c',e,-,-,h3⟩:=hh
    cases e
    rcases h3 with h3|⟨g,off1,rfl,h4,h5,h6,-⟩
    ·exact absurd h3 hm0
    ·exact⟨g,off1,rfl,h4,h5,h6⟩
   have hm1:(0:Int)<(m.length:Int):=by omega
   cases hck:checkL m
   ·have hr:E=10:=by rw[←hEh.out,postE,hPh.out,if_pos (.inr ⟨by simp only;omega,hck⟩)]
    subst hr
    clear hm0
    go_wp2_with fail
    refine(vou_Check (some ⟨g,off1,none⟩) c1 m _ R1).mono ?_
    rw[hck]
    rintro e w2 ⟨rfl,hw2⟩
    go_wp2_with fail
    go_ret
    exact⟨rfl,by simp,(Keep.of hw1 hb).then hw2 hb⟩
   ·have hE2:E=match addAll bal m with|some _=>0|none=>2:=by
     rw[←hEh.out,postE,hPh.out,if_neg (by simp[hck])]
    have hN2:N=(addAll bal m).getD bal:=by rw[←hNh.out,postN,hPh.out]
    have hE2h:=Lib.hid hE2
    have hN2h:=Lib.hid hN2
    clear hE2 hN2 hEh hNh hm0
    go_wp2_with fail
    refine(vou_Check (some ⟨g,off1,none⟩) c1 m _ R1).mono ?_
    rw[hck]
    rintro e w2 ⟨rfl,hw2⟩
    have hgc2:=hgc.below hgl hw2
    have hK2:Keep b w w2:=(Keep.of hw1 hb).then hw2 hb
    have hC2:CellsAt w2 b off bal:=(hC.below hb hw1).below (Nat.lt_of_lt_of_le hb hw1.size) hw2
    have hg2:g<w2.heap.size:=Nat.lt_of_lt_of_le hgl hw2.size
    have hb2:b<w2.heap.size:=Nat.lt_of_lt_of_le hb hK2.size
    have hgb:g≠b:=by omega
    have hPh2:=Lib.hid hPall
    have hmlen:m.length≤9223372036854775807:=by have h1:=R1.le;have h2:=R1.max;unfold maxLen at h2;omega
    clear hgc hw1 hw2 hh R1 hPall hck hC
    go_wp2_with fail
    go_loopw [27] (fun i wr=>∃(j:Nat) (next:List Int),j≤m.length∧i=.int .i64 j∧Hid (addAll bal (m.take j)=some next)∧CellsAt wr b off next∧AllI next∧Keep b w2 wr) (fun i _=>m.length-(intOf i).toNat)
    case atStart=>exact⟨0,bal,by omega,rfl,rfl,hC2,hI,Keep.refl _ _⟩
    case round =>
     obtain⟨j,next,hj,rfl,hA,hCn,hIn,hK⟩:=hrel
     have hbr:b<wr.heap.size:=Nat.lt_of_lt_of_le hb2 hK.size
     have hnl:next.length=17:=by rw[addAll_len _ _ _ hA.out,hbal]
     by_cases hlt:j<m.length
     ·have hltI:(j:Int)<(m.length:Int):=by omega
      obtain⟨⟨xa,xn⟩,hx⟩:∃x,m[j]?=some x:=⟨m[j],by simp[hlt]⟩
      obtain⟨y0,y1⟩:=hgc2.line hx
      have x0:=(hK.cell (c:=g) (i:=off1+j*2) hg2 hgb).trans y0
      have x1:=(hK.cell (c:=g) (i:=off1+j*2+1) hg2 hgb).trans y1
      have hxg:=hPh2.out _ (List.mem_of_getElem? hx)
      simp only at hxg x0 x1
      obtain⟨ka,rfl⟩:∃ka:Nat,xa=(ka:Int):=⟨xa.toNat,by omega⟩
      have hka:ka<17:=by omega
      have hkaI:(ka:Int)<17:=by omega
      have hka0:(0:Int)≤(ka:Int):=by omega
      have hcell:=hCn ka (by omega)
      have hv:=hIn.at_ ka
      have hfr:wr.frozen? ⟨b,off+ka,none⟩=false:=(hK.froz _).trans ((hK2.froz _).trans (hfz _))
      obtain⟨v,hvv⟩:∃v,next.getD ka 0=v:=⟨_,rfl⟩
      rw[hvv]at hcell hv
      have hxh:=Lib.hid hx
      have hvh:=Lib.hid hvv
      have hnlh:=Lib.hid hnl
      clear hx y0 y1 hvv hxg hnl
      cases hok:addOk v xn
      ·have hS:=addAll_stop hA.out hxh.out (by show addOk (next.getD ((ka:Int)).toNat 0) xn=false;rw[Int.toNat_natCast,hvh.out];exact hok)
       have hr:E=2:=by rw[hE2h.out,hS]
       subst hr
       go_wp2_with fail
       go_region_law (first|(go_simp;go_at_call 95;refine(add_no hok _).mono ?_;rintro e w' ⟨rfl,rfl⟩))
       all_goals
        go_wp2_with fail
        go_ret
        refine⟨rfl,by simp,?_⟩
        exact hK2.trans (((hK.set (off+ka) (.int .i64 0)).then (ballc (Below.refl _ _) _) hb2).drew)
      ·have hbd:=addOk_bd hok
       have hA2:Hid (addAll bal (m.take (j+1))=some (next.set ka (v+xn))):=by
        rw[Hid,List.take_add_one,hxh.out]
        simp only[Option.toList_some]
        rw[addAll_snoc,hA.out]
        simp only[Option.bind_some]
        show(if addOk (next.getD ((ka:Int)).toNat 0) xn=true then some (next.set ((ka:Int)).toNat (next.getD ((ka:Int)).toNat 0+xn))else none)=_
        rw[Int.toNat_natCast,hvh.out,if_pos hok]
       have hI2:AllI (next.set ka (v+xn)):=fun z hz=>by
        rcases List.mem_or_eq_of_mem_set hz with h|rfl
        ·exact hIn z h
        ·exact⟨by omega,by omega⟩
       have hWK:=((hK.set (off+ka) (.int .i64 (v+xn))).then (ballc (Below.refl _ _) (.cells #[.int .i64 (ka:Int),.int .i64 xn] 131)) hb2).drew
       have hC3:=(CellsAt.put hCn (j:=ka) (by rw[hnlh.out];omega) (v+xn)).below (by simpa[World.setCell]using hbr) (ballc (Below.refl _ _) (.cells #[.int .i64 (ka:Int),.int .i64 xn] 131))
       have hI2h:=Lib.hid hI2
       clear hI2
       go_wp2_with fail
       go_region_law (first|(go_simp;go_at_call 95;refine(add_ok hok _).mono ?_;rintro e w' ⟨rfl,rfl⟩))
       all_goals
        go_wp2_with fail
        case' roundEnd =>
         refine⟨⟨j+1,next.set ka (v+xn),by omega,by go_num,hA2,hC3,hI2h.out,hWK⟩,?_⟩
         simp[intOf]
         omega
     ·have ej:j=m.length:=by omega
      subst ej
      have hge:¬ (m.length:Int)<(m.length:Int):=by omega
      have hA1:=hA.out
      rw[List.take_length]at hA1
      have hr:E=0:=by rw[hE2h.out,hA1]
      have hn:N=next:=by rw[hN2h.out,hA1];rfl
      subst hr
      subst hn
      clear hA1
      go_wp2_with fail
      go_ret
      first|exact⟨rfl,hCn,hK2.trans hK⟩|exact⟨rfl,fun _=>hCn,hK2.trans hK⟩
 ·have hr:E=10:=by rw[←hEh.out,postE,hPh.out,if_pos (.inl he)]
  subst hr
  go_wp2_with fail
  go_ret
  exact⟨rfl,by simp,Keep.of hw1 hb⟩
end Go.Proofs.YtnalblnmplnhmaaGreat
set_option linter.unusedVariables false
set_option linter.unusedSimpArgs false
namespace Go.Proofs.YtnalblnmplnhmaaGreat
open Go.RowKit
def HoldI (w:World) (base:Nat) (v:Value) (zs:List Int):Prop :=
 ∃a cap,v=.slice a zs.length cap∧zs.length≤cap∧cap≤maxLen∧(zs.length=0∨∃b off,a=some ⟨b,off,none⟩∧base≤b∧b<w.heap.size∧CellsAt w b off zs∧∀i,w.frozen? ⟨b,i,none⟩=false)
theorem HoldI.row {w:World} {base:Nat} {v:Value} {zs:List Int} (h:HoldI w base v zs) (ha:AllI zs):∃a cap,v=.slice a zs.length cap∧Row w 1 a zs.length cap zs:=by
 obtain⟨a,cap,rfl,h1,h2,h3⟩:=h
 refine⟨a,cap,rfl,by simp,h1,h2,ha,?_⟩
 rcases h3 with h3|⟨b,off,rfl,-,h4,h5,-⟩
 ·exact .inl h3
 ·exact .inr ⟨b,off,rfl,h4,h5⟩
theorem HoldI.mono {w:World} {base base':Nat} {v:Value} {zs:List Int} (h:HoldI w base v zs) (g:base'≤base):HoldI w base' v zs:=by
 obtain⟨a,cap,rfl,h1,h2,h3⟩:=h
 refine⟨a,cap,rfl,h1,h2,?_⟩
 rcases h3 with h3|⟨b,off,rfl,hb,h4⟩
 ·exact .inl h3
 ·exact .inr ⟨b,off,rfl,Nat.le_trans g hb,h4⟩
theorem HoldI.below {w w':World} {base:Nat} {v:Value} {zs:List Int} (h:HoldI w base v zs) (g:Below w.heap.size w w'):HoldI w' base v zs:=by
 obtain⟨a,cap,rfl,h1,h2,h3⟩:=h
 refine⟨a,cap,rfl,h1,h2,?_⟩
 rcases h3 with h3|⟨b,off,rfl,hb,h4,h5,h6⟩
 ·exact .inl h3
 ·exact .inr ⟨b,off,rfl,hb,Nat.lt_of_lt_of_le h4 g.size,h5.below h4 g,fun i=>(g.frozen (p:=⟨b,i,none⟩) h4).trans (h6 i)⟩
theorem OwnI.fullI {w:World} {base n:Nat} {e:TypeId} {v:Value} {zs:List Int} (h:OwnI w base e 1 v n zs) (h0:0<n) :
  ∃g cap,v=.slice (some ⟨g,0,none⟩) n cap∧base≤g∧g<w.heap.size∧n≤cap∧cap≤maxLen∧CellsAt w g 0 zs∧∀i,w.frozen? ⟨g,i,none⟩=false:=by
 have hl:=h.len
 obtain⟨h1,h2⟩:=id h
 rcases h2 with⟨rfl,hn⟩|⟨b,cap,cur,rfl,hb,hh,hn,hc,hs,ht⟩
 ·omega
 ·refine⟨b,cap,rfl,hb,(Array.getElem?_eq_some_iff.1 hh).1,hn,hc,?_,fun i=>World.ownsRow.frozenAt h i⟩
  intro i hi
  have c:=World.ownsRow.cellAt (w:=w) (base:=base) (e:=e) (size:=1) (g:=b) (n:=n) (cap:=cap) (xs:=ints zs) h i (by omega)
  rw[Nat.zero_add,c,ints_get,List.getElem?_eq_getElem hi,List.getD_eq_getElem?_getD,List.getElem?_eq_getElem hi]
  rfl
def postS (bal:List Int) (l:List Lin):List Int×Int:=if postE bal l=0 then(postN bal l,0)else(bal,postE bal l)
theorem postN_len (bal:List Int) (l:List Lin):(postN bal l).length=bal.length:=by
 unfold postN
 cases h:addAll bal (plainS l).1 with
 |none=>rfl
 |some next=>exact addAll_len _ _ _ h
def HoldX (w:World) (r:List Int×Int) (e:Ending) (w':World):Prop:=∃v,e=.returned (.tuple #[v,.int .i64 r.2])∧HoldI w' w.heap.size v r.1∧Below w.heap.size w w'
set_option maxRecDepth 20000 in
set_option maxHeartbeats 2000000 in
theorem gl_kept (a:Option Addr) (cap:Nat) (bal:List Int) (hbal:bal.length=17) (c:Nat) (a2:Option Addr) (lcap:Nat) (l:List Lin) (w:World) (hR:Row w 1 a 17 cap bal)
  (hc:w.cell? ⟨c,0,none⟩=some (.slice a2 l.length lcap)) (hcl:c<w.heap.size) (hL:Row w 2 a2 l.length lcap (flat2 l)) (h20:l.length≤20) :
  Calls Tryz.prog 150 #[.slice a 17 cap,.func (.func 151) #[] #[.pointer (some ⟨c,0,none⟩)]] w (HoldX w (postS bal l)):=by
 have hI:=hR.all
 generalize hr:postS bal l=r
 have hrh:=Lib.hid hr
 clear hr
 have hP:=fun(b c2:Nat)=>post_fn b 0 c2 c bal hbal
 go_enter Tryz.func150,Tryz.ntmps150
 go_wp2_with fail
 refine(Clone_Int a 17 cap bal _ hR (by omega)).mono ?_
 rintro e w1 ⟨⟨v1,rfl,O1⟩,hw1⟩
 obtain⟨b,c2,rfl,hbB,hb,hnc,hcm,hcs,hfz⟩:=O1.fullI (by omega)
 have hp:=hP b c2 hnc hcm a2 lcap l w1 hcs hfz hb ((hw1.cell (p:=⟨c,0,none⟩) hcl).trans hc) (Nat.lt_of_lt_of_le hcl hw1.size) (hL.below hw1) h20 hI
 obtain⟨E,hE⟩:∃E,postE bal l=E:=⟨_,rfl⟩
 rw[hE]at hp
 have hEh:=Lib.hid hE
 clear hE hP O1 hc
 go_wp2_with fail
 refine hp.mono ?_
 rintro e w2 ⟨rfl,hN,hK⟩
 have hbel2:Below w.heap.size w w2:=hw1.trans (hK.below hw1.size hbB)
 by_cases he:E=0
 ·subst he
  have hr:r=(postN bal l,0):=by rw[←hrh.out,postS,if_pos hEh.out]
  subst hr
  have hlen:=postN_len bal l
  have hN2:=hN rfl
  clear hrh hN hp
  go_wp2_with fail
  go_ret2
  exact⟨_,rfl,⟨_,c2,by rw[hlen,hbal];rfl,by rw[hlen,hbal];exact hnc,hcm,.inr ⟨b,0,rfl,hbB,Nat.lt_of_lt_of_le hb hK.size,hN2,fun i=>(hK.froz i).trans (hfz i)⟩⟩,hbel2⟩
 ·have hr:r=(bal,E):=by rw[←hrh.out,postS,if_neg (by rw[hEh.out];exact he),hEh.out]
  subst hr
  have hR2:=hR.below hbel2
  clear hrh hN hp hcs hfz hw1
  go_wp2_with fail
  refine(Clone_Int a 17 cap bal _ hR2 (by omega)).mono ?_
  rintro e w3 ⟨⟨v3,rfl,O3⟩,hw3⟩
  obtain⟨b3,c3,rfl,hbB3,hb3,hnc3,hcm3,hcs3,hfz3⟩:=O3.fullI (by omega)
  have hbel3:Below w.heap.size w w3:=hbel2.trans (hw3.mono hbel2.size)
  clear O3 hw3
  go_wp2_with fail
  go_ret2
  exact⟨_,rfl,⟨_,c3,by rw[hbal];rfl,by rw[hbal];exact hnc3,hcm3,.inr ⟨b3,0,rfl,Nat.le_trans hbel2.size hbB3,hb3,hcs3,hfz3⟩⟩,hbel3⟩
set_option maxHeartbeats 1000000 in
theorem gl_Post (a:Option Addr) (cap:Nat) (bal:List Int) (hbal:bal.length=17) (a2:Option Addr) (lcap:Nat) (l:List Lin) (w:World) (hR:Row w 1 a 17 cap bal) (hL:Row w 2 a2 l.length lcap (flat2 l)) (h20:l.length≤20) :
  Calls Tryz.prog 105 #[.slice a 17 cap,.slice a2 l.length lcap] w (HoldX w (postS bal l)):=by
 have hk:=fun(W:World) (c:Nat)=>gl_kept a cap bal hbal c a2 lcap l W
 generalize postS bal l=r at *
 go_enter Tryz.func105,Tryz.ntmps105
 go_wp2_with fail
 have hb0:Below w.heap.size w (w.alloc (.cells #[.slice a2 l.length lcap] 132)):=(Below.refl _ _).alloc (Nat.le_refl _) _
 refine(hk _ w.heap.size (hR.below hb0) (by simp) (by simp) (hL.below hb0) h20).mono ?_
 rintro e w1 ⟨v,rfl,hh,hw1⟩
 go_wp2_with fail
 go_ret2
 exact⟨v,rfl,hh.mono (by simp),by(repeat (first|assumption|exact Below.refl _ _|refine ballc ?_ _|refine bdrew ?_|refine bdrewN ?_ _|refine bset ?_ _ _|refine bsetN ?_ (by omega) _ _|refine bthen ?_ (by assumption)))⟩
end Go.Proofs.YtnalblnmplnhmaaGreat
