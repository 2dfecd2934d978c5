/-
 The stock's functions that turn a state: what they answer, in plain data; their contracts, over closed data. (Printed by wip/mk_gst2.py.)
-/
import Derived.Test.YtjccjmmbebiegaaGst1
set_option linter.unusedVariables false
set_option linter.unusedSimpArgs false
namespace Go.Proofs.Ytjccjmmbebiegaa
open Go.RowKit Mc
theorem inS_err {l:List Lay} {x:Lay}:ErrB (inS l x).2:=by
 unfold inS
 split
 ·exact⟨by simp,by simp⟩
 ·split
  ·exact⟨by simp,by simp⟩
  ·split<;>exact⟨by simp,by simp⟩
theorem inM_err {l:List Lay} {x:Lay}:ErrB (inM l x).2:=by
 unfold inM
 split
 ·exact⟨by simp,by simp⟩
 ·exact inS_err
theorem inC_err {l:List Lay} {x:Lay} {c:Int}:ErrB (inC l x c).2.2:=by
 unfold inC
 split
 ·exact⟨by simp,by simp⟩
 ·split
  ·exact⟨by simp,by simp⟩
  ·split
   ·exact⟨by simp,by simp⟩
   ·exact inM_err
theorem poolInS_err {m c:Int} {l:List Lay} {x:Lay}:ErrB (poolInS m c l x).2.2:=by
 unfold poolInS
 split
 ·exact inS_err
 ·split
  ·exact inM_err
  ·split
   ·exact inM_err
   ·split
    ·exact inC_err
    ·exact⟨by simp,by simp⟩
theorem outS_err {l:List Lay} {q:Int}:ErrB (outS l q).2.2:=by
 unfold outS
 split
 ·exact⟨by simp,by simp⟩
 ·split<;>exact⟨by simp,by simp⟩
theorem outP_err {l:List Lay} {d:Pnd} {q:Int}:ErrB (outP l d q).2.2:=by
 unfold outP
 split
 ·exact⟨by simp,by simp⟩
 ·split
  ·exact⟨by simp,by simp⟩
  ·exact outS_err
theorem outC_err {l:List Lay} {q c:Int}:ErrB (outC l q c).2.2:=by
 have h:=@outS_err l q
 unfold outC
 split
 ·exact⟨by simp,by simp⟩
 ·split
  ·rename_i y e hS;rw[hS]at h;exact h
  ·rename_i z t y e hS
   rw[hS]at h
   split
   ·exact h
   ·exact⟨by simp,by simp⟩
theorem waitS_err {l:List Lay} {d:Pnd} {k q:Int}:ErrB (waitS l d k q).2:=by
 unfold waitS
 split
 ·exact⟨by simp,by simp⟩
 ·split<;>exact⟨by simp,by simp⟩
theorem poolOutS_err {m c:Int} {l:List Lay} {d:Pnd} {kind q:Int}:ErrB (poolOutS m c l d kind q).2.2.2.2:=by
 unfold poolOutS
 split
 ·exact⟨by simp,by simp⟩
 ·split
  ·exact⟨by simp,by simp⟩
  ·split
   ·exact waitS_err
   ·simp only[methOut]
    split
    ·exact outP_err
    ·split
     ·exact outC_err
     ·exact outS_err
theorem inS_lay {l:List Lay} {x:Lay} (h:(inS l x).2=0):1≤x.q∧x.q≤288230376151711744∧0≤x.v∧x.v≤288230376151711744∧-288230376151711744≤x.p∧x.p≤288230376151711744:=by
 unfold inS at h
 split at h
 ·cases h
 ·split at h
  ·cases h
  ·split at h
   ·rename_i hr
    exact(LR.of hr).at_ (x:=x) (by simp)
   ·cases h
theorem inM_lay {l:List Lay} {x:Lay} (h:(inM l x).2=0):1≤x.q∧x.q≤288230376151711744∧0≤x.v∧x.v≤288230376151711744∧-288230376151711744≤x.p∧x.p≤288230376151711744:=by
 unfold inM at h
 split at h
 ·exact inS_lay ‹_›
 ·exact absurd h ‹_›
theorem poolInS_bd {m c:Int} {l l':List Lay} {x:Lay} {up:Int} (h:poolInS m c l x=(l',up,0)):0≤x.v∧x.v≤288230376151711744∧-288230376151711744≤up∧up≤288230376151711744∧0≤x.v-up∧x.v-up≤288230376151711744∧1≤x.q:=by
 unfold poolInS at h
 split at h
 ·have:=inS_lay (l:=l) (x:=x) (congrArg (fun r=>r.2.2) h)
  have hu:up=0:=(congrArg (fun r=>r.2.1) h).symm
  omega
 ·split at h
  ·have:=inM_lay (l:=l) (x:=x) (congrArg (fun r=>r.2.2) h)
   have hu:up=0:=(congrArg (fun r=>r.2.1) h).symm
   omega
  ·split at h
   ·have:=inM_lay (l:=l) (x:=x) (congrArg (fun r=>r.2.2) h)
    have hu:up=0:=(congrArg (fun r=>r.2.1) h).symm
    omega
   ·split at h
    ·unfold inC at h
     split at h
     ·exact absurd (congrArg (fun r=>r.2.2) h) (by simp)
     ·split at h
      ·exact absurd (congrArg (fun r=>r.2.2) h) (by simp)
      ·split at h
       ·rename_i h1 h2 h3
        have:=inM_lay h3
        simp only at this
        have hu:up=x.v-ofV c x.q:=(congrArg (fun r=>r.2.1) h).symm
        omega
       ·rename_i h3
        exact absurd (congrArg (fun r=>r.2.2) h) h3
    ·exact absurd (congrArg (fun r=>r.2.2) h) (by simp)
section
variable {S:StD} {e item:Int}
end
end Go.Proofs.Ytjccjmmbebiegaa
