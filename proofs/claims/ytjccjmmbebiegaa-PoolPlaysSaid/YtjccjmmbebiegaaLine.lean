/-
 Lines of vouchers as they are read; what is kept but for one block.
-/
import Derived.Test.YtjccjmmbebiegaaBase
import Derived.LoopN
set_option linter.unusedVariables false
set_option linter.unusedSimpArgs false
namespace Go.Proofs.Ytjccjmmbebiegaa
open Go.RowKit
structure Lin where
 a:Int
 n:Int
def Lin.val (x:Lin):Value:=.agg #[.int .i64 x.a,.int .i64 x.n]
def Lin.zero:Lin:=⟨0,0⟩
def flat2 (l:List Lin):List Int:=l.flatMap fun x=>[x.a,x.n]
theorem flat2_len (l:List Lin):(flat2 l).length=l.length*2:=by
 induction l with
 |nil=>rfl
 |cons x l ih=>simp only[flat2,List.flatMap_cons,List.length_append,List.length_cons,List.length_nil]at ih ⊢;omega
theorem flat2_get (l:List Lin):∀(i:Nat) (x:Lin),l[i]?=some x→(flat2 l).getD (i*2) 0=x.a∧(flat2 l).getD (i*2+1) 0=x.n:=by
 induction l with
 |nil=>intro i x h;simp at h
 |cons y l ih =>
  intro i x h
  cases i with
  |zero=>simp at h;subst h;exact⟨rfl,rfl⟩
  |succ i =>
   have:=ih i x (by simpa using h)
   have e:∀k,(flat2 (y::l)).getD ((i+1)*2+k) 0=(flat2 l).getD (i*2+k) 0:=by
    intro k
    show([y.a,y.n]++flat2 l).getD ((i+1)*2+k) 0=_
    rw[List.getD_eq_getElem?_getD,List.getElem?_append_right (by simp;omega),←List.getD_eq_getElem?_getD]
    congr 1
    simp
    omega
   have e0:=e 0;have e1:=e 1
   simp only[Nat.add_zero]at e0
   rw[e0,e1]
   exact this
theorem flat2_all {l:List Lin} (h:AllI (flat2 l)) {x:Lin} (hx:x∈l):I64 x.a∧I64 x.n :=
 ⟨h _ (List.mem_flatMap.2 ⟨x,hx,by simp⟩),h _ (List.mem_flatMap.2 ⟨x,hx,by simp⟩)⟩
theorem flat2_of {l:List Lin} (h:∀x,x∈l→I64 x.a∧I64 x.n):AllI (flat2 l):=by
 intro z hz
 obtain⟨x,hx,hz⟩:=List.mem_flatMap.1 hz
 simp at hz
 rcases hz with rfl|rfl
 ·exact(h x hx).1
 ·exact(h x hx).2
structure Keep (b:Nat) (w w':World):Prop where
 os:w'.os=w.os
 tape:w'.tape=w.tape
 output:w'.output=w.output
 size:w.heap.size≤w'.heap.size
 block:∀k,k<w.heap.size→k≠b→w'.heap[k]?=w.heap[k]?
 froz:∀i,w'.frozen? ⟨b,i,none⟩=w.frozen? ⟨b,i,none⟩
theorem Keep.refl (b:Nat) (w:World):Keep b w w:=⟨rfl,rfl,rfl,Nat.le_refl _,fun _ _ _=>rfl,fun _=>rfl⟩
theorem Keep.trans {b:Nat} {u v w:World} (h:Keep b u v) (k:Keep b v w):Keep b u w :=
 ⟨k.os.trans h.os,k.tape.trans h.tape,k.output.trans h.output,Nat.le_trans h.size k.size,fun i hi hn=>(k.block i (Nat.lt_of_lt_of_le hi h.size) hn).trans (h.block i hi hn),fun i=>(k.froz i).trans (h.froz i)⟩
theorem Keep.of {b:Nat} {w w':World} (h:Below w.heap.size w w') (hb:b<w.heap.size):Keep b w w' :=
 ⟨h.os,h.tape,h.output,h.size,fun i hi _=>h.block i hi,fun i=>h.frozen (p:=⟨b,i,none⟩) hb⟩
theorem Keep.then {b:Nat} {u v w:World} (h:Keep b u v) (k:Below v.heap.size v w) (hb:b<u.heap.size):Keep b u w:=h.trans (Keep.of k (Nat.lt_of_lt_of_le hb h.size))
theorem Keep.drew {b:Nat} {u v:World} (h:Keep b u v):Keep b u v.drew:=⟨h.os,h.tape,h.output,h.size,h.block,h.froz⟩
theorem Keep.drewN {b:Nat} {u v:World} (h:Keep b u v) (n:Nat):Keep b u (v.drewN n):=by
 have:=below_drewN (Below.refl v.heap.size v) n
 exact⟨this.os.trans h.os,this.tape.trans h.tape,this.output.trans h.output,Nat.le_trans h.size this.size,fun i hi hn=>(this.block i (Nat.lt_of_lt_of_le hi h.size)).trans (h.block i hi hn),fun i=>(by simpa using h.froz i)⟩
theorem Keep.set {b:Nat} {u v:World} (h:Keep b u v) (i:Nat) (x:Value):Keep b u (v.setCell ⟨b,i,none⟩ x) :=
 ⟨h.os,h.tape,h.output,by simpa[World.setCell]using h.size,fun k hk hn=>(Below.heap_setCell _ _ _ _ hn).trans (h.block k hk hn),fun j=>by rw[World.frozen?_setCell];exact h.froz j⟩
theorem Keep.below {b B:Nat} {w w':World} (h:Keep b w w') (hB:B≤w.heap.size) (hb:B≤b):Below B w w' :=
 ⟨h.os,h.tape,h.output,h.size,fun k hk=>h.block k (Nat.lt_of_lt_of_le hk hB) (by omega)⟩
theorem Keep.cell {b:Nat} {w w':World} (h:Keep b w w') {c i:Nat} (hc:c<w.heap.size) (hn:c≠b):w'.cell? ⟨c,i,none⟩=w.cell? ⟨c,i,none⟩:=World.cell?_of_block (w:=w) (h.block c hc hn)
theorem CellsAt.line {w:World} {b off:Nat} {l:List Lin} {j:Nat} {x:Lin} (hc:CellsAt w b off (flat2 l)) (hx:l[j]?=some x) :
  w.cell? ⟨b,off+j*2,none⟩=some (.int .i64 x.a)∧w.cell? ⟨b,off+j*2+1,none⟩=some (.int .i64 x.n):=by
 have hg:=flat2_get l j x hx
 have hfl:=flat2_len l
 have hj:j<l.length:=by
  rcases Nat.lt_or_ge j l.length with h|h
  ·exact h
  ·rw[List.getElem?_eq_none h]at hx;cases hx
 exact⟨by rw[hc (j*2) (by omega),hg.1],by rw[Nat.add_assoc,hc (j*2+1) (by omega),hg.2]⟩
theorem CellsAt.of_lines {w:World} {b off:Nat} {l:List Lin} (h:∀j x,l[j]?=some x→w.cell? ⟨b,off+j*2,none⟩=some (.int .i64 x.a)∧w.cell? ⟨b,off+j*2+1,none⟩=some (.int .i64 x.n)):CellsAt w b off (flat2 l):=by
 intro i hi
 have hfl:=flat2_len l
 have hj:i/2<l.length:=by omega
 have hx:l[i/2]?=some l[i/2]:=by simp[hj]
 have hg:=flat2_get l (i/2) _ hx
 have hc:=h (i/2) _ hx
 by_cases e:i%2=0
 ·have ei:i=i/2*2:=by omega
  rw[show off+i=off+i/2*2 by omega,hc.1,←hg.1,←ei]
 ·have ei:i=i/2*2+1:=by omega
  rw[show off+i=off+i/2*2+1 by omega,hc.2,←hg.2,←ei]
end Go.Proofs.Ytjccjmmbebiegaa
