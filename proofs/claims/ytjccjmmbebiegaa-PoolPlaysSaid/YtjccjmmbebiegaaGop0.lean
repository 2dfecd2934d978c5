/-
 The stock's functions that turn a state: what every one of them keeps. No program in sight.
-/
import Derived.Test.YtjccjmmbebiegaaGst2
set_option linter.unusedVariables false
set_option linter.unusedSimpArgs false
namespace Go.Proofs.Ytjccjmmbebiegaa
open Go.RowKit Mc
structure Kin (S S1:StD):Prop where
 eq:S1=S.withEnts S1.ents
 len:S1.ents.length=S.ents.length
 ok:StOk S1
theorem Kin.refl {S:StD} (h:StOk S):Kin S S:=⟨rfl,rfl,h⟩
theorem Kin.trans {S S1 S2:StD} (h:Kin S S1) (g:Kin S1 S2):Kin S S2:=⟨by rw[g.eq,h.eq];rfl,g.len.trans h.len,g.ok⟩
theorem Kin.ix {S S1:StD} (h:Kin S S1) {e item:Int} (x:Ix S e item):Ix S1 e item:=⟨x.e0,by rw[h.len];exact x.e1,x.i0,by rw[h.eq];exact x.i1⟩
section
variable {S:StD} {e item:Int}
theorem poolOutS_val {m c:Int} {l:List Lay} {d:Pnd} {kind q:Int} (hp:PoolOk m l d) (hm:1≤m∧m≤4) (hk:0≤kind∧kind≤3):-288230376151711744≤(poolOutS m c l d kind q).2.2.1.v∧(poolOutS m c l d kind q).2.2.1.v≤288230376151711744:=by
 obtain⟨k1,k2⟩:=hp.out_ (c:=c) (kind:=kind) (q:=q) hm hk (l':=(poolOutS m c l d kind q).1) (d':=(poolOutS m c l d kind q).2.1) (y:=(poolOutS m c l d kind q).2.2.1) (wt:=(poolOutS m c l d kind q).2.2.2.1) (e':=(poolOutS m c l d kind q).2.2.2.2) rfl
 have h1:=hp.lr.v
 have h2:=(qs_pos hp.lr.ok).2.1
 have h3:=k1.lr.v
 have h4:=(qs_pos k1.lr.ok).2.1
 omega
theorem poolOutS_I {m c:Int} {l:List Lay} {d:Pnd} {kind q:Int} (hl:LR l):(0≤(poolOutS m c l d kind q).2.2.1.q∧(poolOutS m c l d kind q).2.2.1.q≤288230376151711744)∧-576460752303423488≤(poolOutS m c l d kind q).2.2.1.p∧(poolOutS m c l d kind q).2.2.1.p≤576460752303423488:=by
 have k:=outS_I hl (q:=q)
 unfold poolOutS
 split
 ·simp[Lay.zero]
 ·split
  ·simp[Lay.zero]
  ·split
   ·simp[Lay.zero]
   ·simp only[methOut]
    split
    ·unfold outP
     split
     ·simp[Lay.zero]
     ·split
      ·simp[Lay.zero]
      ·exact k
    ·split
     ·unfold outC
      split
      ·simp[Lay.zero]
      ·split
       ·rename_i y e hS;rw[hS]at k;exact k
       ·rename_i z t y e hS
        rw[hS]at k
        split
        ·exact k
        ·exact k
     ·exact k
end
end Go.Proofs.Ytjccjmmbebiegaa
