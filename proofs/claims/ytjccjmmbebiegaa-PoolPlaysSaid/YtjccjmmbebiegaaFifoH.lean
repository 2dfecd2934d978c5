/-
 A slice of layers that the call itself has made; fifo.In.
-/
import Derived.Test.YtjccjmmbebiegaaFifoA
import Derived.Deep.RegionHeld3
import Derived.Test.YtjccjmmbebiegaaBase
import Derived.IntWalk
import Derived.StillTailTactics
import Derived.WalkLawsBesides
set_option linter.unusedVariables false
set_option linter.unusedSimpArgs false
set_option linter.unnecessarySimpa false
set_option linter.unusedVariables false
set_option linter.unusedSimpArgs false
namespace Go.Proofs.Ytjccjmmbebiegaa
open Go.RowKit
def inM (l:List Lay) (x:Lay):List Lay×Int:=if(inS l x).2=0 then([tot (inS l x).1],0)else(l,(inS l x).2)
theorem inS_no {l:List Lay} {x:Lay} (h:(inS l x).2≠0):(inS l x).1=l:=by
 unfold inS at h ⊢
 split
 ·rfl
 ·split
  ·rfl
  ·split
   ·rename_i h1 h2 h3;rw[if_neg h1,if_neg h2,if_pos h3]at h;exact absurd rfl h
   ·rfl
theorem inS_yes {l:List Lay} {x:Lay} (h:(inS l x).2=0):(inS l x).1=l++[x]∧LR (l++[x]):=by
 unfold inS at h ⊢
 split
 ·rename_i h1;rw[if_pos h1]at h;cases h
 ·split
  ·rename_i h1 h2;rw[if_neg h1,if_pos h2]at h;cases h
  ·split
   ·rename_i h1 h2 h3;exact⟨rfl,LR.of h3⟩
   ·rename_i h1 h2 h3;rw[if_neg h1,if_neg h2,if_neg h3]at h;cases h
theorem tot_LR {l:List Lay} (h:LR l) (h0:l≠[]):LR [tot l]:=by
 rw[h.tot.1]
 have a:=qs_pos h.ok
 have b:=ps_le l
 have:=h.q;have:=h.v;have:=h.p
 have:1≤l.length:=List.length_pos_iff.2 h0
 exact LR.one (layOk_iff.2 ⟨by simp only;omega,by simp only;omega,by simp only;omega,by simp only;omega,by simp only;omega,by simp only;omega⟩)
theorem inM_LR {l:List Lay} {x:Lay} (h:LR l):LR (inM l x).1:=by
 unfold inM
 split
 ·rename_i h1
  obtain⟨e,h2⟩:=inS_yes h1
  rw[e]
  exact tot_LR h2 (by simp)
 ·exact h
theorem outS_len {l:List Lay} {q:Int}:(outS l q).1.length≤l.length:=by
 have k:∀(l:List Lay) (a:Lay) (q:Int),(outL l a q).1.length≤l.length:=by
  intro l
  induction l with
  |nil=>intro a q;simp[outL]
  |cons x r ih =>
   intro a q
   simp only[outL]
   split
   ·exact Nat.le_refl _
   ·split
    ·simp
    ·have:=ih (plusL a x) (q-x.q);simp only[List.length_cons];omega
 unfold outS
 split
 ·exact Nat.le_refl _
 ·split
  ·exact Nat.le_refl _
  ·exact k _ _ _
theorem outL_one {x:Lay} {k:Int} (h1:1≤k) (h2:k<x.q):outL [x] .zero k=([minusL x (cutL x k)],cutL x k):=by
 rw[outL,if_neg (by omega),if_pos h2]
 simp[plusL,Lay.zero,cutL]
theorem outL_whole {x:Lay} {k:Int} (h1:1≤k) (h2:x.q=k):outL [x] .zero k=([],x):=by
 rw[outL,if_neg (by omega),if_neg (by omega)]
 simp[plusL,Lay.zero,outL]
structure Mix (n m p r k:Int):Prop where
 lo:k*p≤(n*p+m*r)*k/(n+m)
 hi:(n*p+m*r)*k/(n+m)≤k*r
 left:(n+m-k)*p≤n*p+m*r-(n*p+m*r)*k/(n+m)
end Go.Proofs.Ytjccjmmbebiegaa
set_option linter.unusedVariables false
set_option linter.unusedSimpArgs false
namespace Go.Proofs.Ytjccjmmbebiegaa
open Go.RowKit
def LayRow (w:World) (v:Value) (l:List Lay):Prop:=∃a cap,v=.slice a l.length cap∧Row w 3 a l.length cap (flat l)
theorem LayRow.below {w w':World} {v:Value} {l:List Lay} (h:LayRow w v l) (g:Below w.heap.size w w'):LayRow w' v l:=by
 obtain⟨a,c,e,r⟩:=h;exact⟨a,c,e,r.below g⟩
def Hold (w:World) (base:Nat) (v:Value) (l:List Lay):Prop :=
 ∃a cap,v=.slice a l.length cap∧l.length≤cap∧cap≤maxLen∧(l.length=0∨∃b off,a=some ⟨b,off,none⟩∧base≤b∧b<w.heap.size∧CellsAt w b off (flat l)∧∀i,w.frozen? ⟨b,i,none⟩=false)
theorem Hold.row {w:World} {base:Nat} {v:Value} {l:List Lay} (h:Hold w base v l) (ha:AllI (flat l)):LayRow w v l:=by
 obtain⟨a,cap,rfl,h1,h2,h3⟩:=h
 refine⟨a,cap,rfl,flat_len l,h1,h2,ha,?_⟩
 rcases h3 with h3|⟨b,off,rfl,-,h4,h5,-⟩
 ·exact .inl h3
 ·exact .inr ⟨b,off,rfl,h4,h5⟩
theorem Hold.below {w w':World} {base:Nat} {v:Value} {l:List Lay} (h:Hold w base v l) (g:Below w.heap.size w w'):Hold w' base v l:=by
 obtain⟨a,cap,rfl,h1,h2,h3⟩:=h
 refine⟨a,cap,rfl,h1,h2,?_⟩
 rcases h3 with h3|⟨b,off,rfl,hb,h4,h5,h6⟩
 ·exact .inl h3
 ·exact .inr ⟨b,off,rfl,hb,Nat.lt_of_lt_of_le h4 g.size,h5.below h4 g,fun i=>(g.frozen (p:=⟨b,i,none⟩) h4).trans (h6 i)⟩
theorem Hold.mono {w:World} {base base':Nat} {v:Value} {l:List Lay} (h:Hold w base v l) (g:base'≤base):Hold w base' v l:=by
 obtain⟨a,cap,rfl,h1,h2,h3⟩:=h
 refine⟨a,cap,rfl,h1,h2,?_⟩
 rcases h3 with h3|⟨b,off,rfl,hb,h4⟩
 ·exact .inl h3
 ·exact .inr ⟨b,off,rfl,Nat.le_trans g hb,h4⟩
theorem Hold.of_own {w:World} {base base':Nat} {e:TypeId} {v:Value} {n:Nat} {l:List Lay} (h:OwnI w base e 3 v n (flat l)) (g:base'≤base):Hold w base' v l:=by
 have hl:=h.len
 rw[flat_len]at hl
 obtain rfl:n=l.length:=by omega
 obtain⟨h1,h2⟩:=id h
 rcases h2 with⟨rfl,h0⟩|⟨b,cap,cur,rfl,hb,hh,hn,hc,hs,ht⟩
 ·exact⟨none,0,by rw[h0],by omega,by unfold maxLen;omega,.inl h0⟩
 ·refine⟨_,cap,rfl,hn,hc,.inr ⟨b,0,rfl,by omega,(Array.getElem?_eq_some_iff.1 hh).1,?_,?_⟩⟩
  ·intro i hi
   have c:=World.ownsRow.cellAt (w:=w) (base:=base) (e:=e) (size:=3) (g:=b) (n:=l.length) (cap:=cap) (xs:=ints (flat l)) ⟨h1,.inr ⟨b,cap,cur,rfl,hb,hh,hn,hc,hs,ht⟩⟩ i (by rw[flat_len]at hi;omega)
   rw[Nat.zero_add,c,ints_get,List.getElem?_eq_getElem hi,List.getD_eq_getElem?_getD,List.getElem?_eq_getElem hi]
   rfl
  ·intro i
   unfold World.frozen?
   simp only[hh]
   simp
theorem Hold.nil {w:World} {base:Nat} {a:Option Addr} {cap:Nat} (h:cap≤maxLen):Hold w base (.slice a 0 cap) []:=⟨a,cap,rfl,by simp,h,.inl rfl⟩
theorem Hold.set {w:World} {base:Nat} {v:Value} {l:List Lay} (h:Hold w base v l) {b:Nat} (hb:b<base) (i:Nat) (u:Value):Hold (w.setCell ⟨b,i,none⟩ u) base v l:=by
 obtain⟨a,cap,rfl,h1,h2,h3⟩:=h
 refine⟨a,cap,rfl,h1,h2,?_⟩
 rcases h3 with h3|⟨g,off,rfl,hg,h4,h5,h6⟩
 ·exact .inl h3
 ·refine .inr ⟨g,off,rfl,hg,by simpa[World.setCell]using h4,fun j hj=>?_,fun j=>by simpa using h6 j⟩
  exact(World.cell?_of_block (w:=w) (Below.heap_setCell _ _ _ _ (show g≠b by omega))).trans (h5 j hj)
theorem OwnI.mono {w:World} {base base':Nat} {e:TypeId} {k:Nat} {v:Value} {n:Nat} {zs:List Int} (h:OwnI w base e k v n zs) (g:base'≤base):OwnI w base' e k v n zs:=by
 obtain⟨h1,h2⟩:=h
 refine⟨h1,?_⟩
 rcases h2 with h2|⟨b,cap,cur,hv,hb,r⟩
 ·exact .inl h2
 ·exact .inr ⟨b,cap,cur,hv,Nat.le_trans g hb,r⟩
theorem step_push {P:Program} {w:World} {ops:Array Oper} {o:Oper} {a:Act} {K:Act→World→Prop} {Q:Exit→Act→World→Prop} {F:Prop} (hgd:o.guard=none) (s x:Operand) (t:TypeId)
  (ho:o.op=.call { callee:=.builtin .append,args:=#[s,x],argTypes:=#[t,t] })
  (base:Nat) (e:TypeId) (size:Nat) (E:Elem P t e size)
  (v:Value) (n:Nat) (zs:List Int) (hs:a.eval s=v) (hown:OwnI w base e size v n zs)
  (b off c:Nat) (ns:List Int) (hx:a.eval x=.slice (some ⟨b,off,none⟩) 1 c) (hl:ns.length=size) (hc:CellsAt w b off ns)
  (hn:(n+1)*(size*8)≤140737488355328) (hbase:base≤w.heap.size)
  (h:∀v' w',OwnI w' base e size v' (n+1) (zs++ns)→Below base w w'→K (a.put o.dst v') w') :
  if Region.wanted o (yielded ops a.tmps)=true then Oper.wp P o a w K Q else F:=by
 have hw:Region.wanted o (yielded ops a.tmps)=true:=by simp[Region.wanted,hgd]
 rw[if_pos hw]
 obtain⟨ht,⟨i,z,hi,hz,hsize,hby,hzs⟩,hp⟩:=E
 have h8:n+1≤(n+1)*(size*8):=Nat.le_mul_of_pos_right _ (by omega)
 refine wp_append_own w s x t ho base e i z size (size*8) ht hi hz hsize hby hzs hp v n (ints zs) hs hown ⟨b,off,none⟩ 1 c (ints ns) hx (by rw[ints_length];omega) ?_ ?_ (by unfold maxLen;omega) hn hbase ?_
 ·intro j u hj
  rw[ints_get]at hj
  have hlt:j<ns.length:=by
   rcases Nat.lt_or_ge j ns.length with h|h
   ·exact h
   ·rw[List.getElem?_eq_none h]at hj;cases hj
  have:=hc j hlt
  rw[List.getElem?_eq_getElem hlt]at hj
  rw[List.getD_eq_getElem?_getD,List.getElem?_eq_getElem hlt]at this
  simp only[Option.map_some,Option.some.injEq]at hj
  subst hj
  by_cases h0:j=0
  ·subst h0;simpa[Addr.add]using this
  ·simpa[Addr.add,h0]using this
 ·intro u hu
  simp only[ints,List.mem_map]at hu
  obtain⟨y,-,rfl⟩:=hu
  rfl
 ·intro v' w' hown' hg _
  refine h v' w' ?_ ?_
  ·rw[OwnI,ints_append];exact hown'
  ·have hlt:=World.ownsRow.lt hown
   exact(Below.refl base w).grown hg hbase fun k hk=>(hlt k hk).1
theorem flat_cons (x:Lay) (l:List Lay):flat (x::l)=x.q::x.v::x.p::flat l:=rfl
theorem CellsAt.tail {w:World} {b off:Nat} {x:Lay} {l:List Lay} (h:CellsAt w b off (flat (x::l))):CellsAt w b (off+3) (flat l):=by
 intro i hi
 have:=h (3+i) (by simp only[flat_cons,List.length_cons];omega)
 rw[show off+(3+i)=off+3+i by omega]at this
 rw[this,flat_cons]
 simp[List.getD_eq_getElem?_getD,show 3+i=i+1+1+1 by omega]
theorem CellsAt.head {w:World} {b off:Nat} {x:Lay} {l:List Lay} (h:CellsAt w b off (flat (x::l))):w.cell? ⟨b,off,none⟩=some (.int .i64 x.q)∧w.cell? ⟨b,off+1,none⟩=some (.int .i64 x.v)∧w.cell? ⟨b,off+2,none⟩=some (.int .i64 x.p) :=
 ⟨h 0 (by simp[flat_cons]),h 1 (by simp[flat_cons]),h 2 (by simp[flat_cons])⟩
theorem CellsAt.cons {w:World} {b off:Nat} {x:Lay} {l:List Lay} (h0:w.cell? ⟨b,off,none⟩=some (.int .i64 x.q)) (h1:w.cell? ⟨b,off+1,none⟩=some (.int .i64 x.v)) (h2:w.cell? ⟨b,off+2,none⟩=some (.int .i64 x.p)) (h:CellsAt w b (off+3) (flat l)):CellsAt w b off (flat (x::l)):=by
 intro i hi
 match i with
 |0=>exact h0
 |1=>exact h1
 |2=>exact h2
 |i+3 =>
  have:=h i (by simp only[flat_cons,List.length_cons]at hi;omega)
  rw[show off+(i+3)=off+3+i by omega,this]
  rfl
theorem AllI.snoc {l:List Lay} {x:Lay} (h:AllI (flat l)) (hx:AllI [x.q,x.v,x.p]):AllI (flat (l++[x])):=by
 have e1:flat (l++[x])=flat l++[x.q,x.v,x.p]:=by simp[flat]
 rw[e1]
 intro z hz
 rcases List.mem_append.1 hz with h'|h'
 ·exact h z h'
 ·exact hx z h'
theorem res3 {w w':World} {x y z:Int} {t:Nat} (h:Below (w.alloc (.cells #[.int .i64 x,.int .i64 y,.int .i64 z] t)).heap.size (w.alloc (.cells #[.int .i64 x,.int .i64 y,.int .i64 z] t)) w') :
  Cell3 w' w.heap.size x y z∧w.heap.size<w'.heap.size∧w.heap.size<w'.heap.size+1∧w.heap.size<w'.heap.size+1+1∧w.heap.size<w'.heap.size+1+1+1:=by
 have hs:=h.size
 simp only[World.size_alloc]at hs
 exact⟨⟨(h.cell (by simp)).trans (by simp),(h.cell (by simp)).trans (by simp),(h.cell (by simp)).trans (by simp),(h.frozen (by simp)).trans (by simp),(h.frozen (by simp)).trans (by simp),(h.frozen (by simp)).trans (by simp)⟩,by omega,by omega,by omega,by omega⟩
theorem lit3 {w:World} {x y z:Int} {t n:Nat} (hn:n=w.heap.size):CellsAt (w.alloc (.cells #[.int .i64 x,.int .i64 y,.int .i64 z] t)) n 0 [x,y,z]:=by
 subst hn;exact CellsAt.new w [x,y,z] t
theorem Cell3.behind {w w':World} {o:Obj} {b B:Nat} {x y z:Int} (h:Cell3 w b x y z) (hb:b<w.heap.size) (hB:b<B) (g:Below B (w.alloc o) w'):Cell3 w' b x y z:=by
 have k:∀i,(w.alloc o).cell? ⟨b,i,none⟩=w.cell? ⟨b,i,none⟩:=fun i=>World.cell?_alloc_lt _ _ _ hb
 have kf:∀i,(w.alloc o).frozen? ⟨b,i,none⟩=w.frozen? ⟨b,i,none⟩:=fun i=>World.frozen?_alloc_old _ _ _ (Nat.ne_of_lt hb)
 exact⟨(g.cell hB).trans ((k 0).trans h.c0),(g.cell hB).trans ((k 1).trans h.c1),(g.cell hB).trans ((k 2).trans h.c2),(g.frozen hB).trans ((kf 0).trans h.f0),(g.frozen hB).trans ((kf 1).trans h.f1),(g.frozen hB).trans ((kf 2).trans h.f2)⟩
theorem Cell3.next {w w':World} {b:Nat} {x y z:Int} (h:Cell3 w b x y z) (hb:b<w.heap.size) (g:Below w.heap.size w w') :
  Cell3 w' b x y z∧b<w'.heap.size∧b<w'.heap.size+1∧b<w'.heap.size+1+1∧b<w'.heap.size+1+1+1:=by
 have hs:=g.size
 exact⟨⟨(g.cell hb).trans h.c0,(g.cell hb).trans h.c1,(g.cell hb).trans h.c2,(g.frozen hb).trans h.f0,(g.frozen hb).trans h.f1,(g.frozen hb).trans h.f2⟩,by omega,by omega,by omega,by omega⟩
theorem Hold.set3 {w:World} {b:Nat} {v:Value} {l:List Lay} (h:Hold w (b+1) v l) (x y z:Value):Hold (((w.setCell ⟨b,0,none⟩ x).setCell ⟨b,1,none⟩ y).setCell ⟨b,2,none⟩ z) b v l :=
 (((h.set (Nat.lt_succ_self _) 0 x).set (Nat.lt_succ_self _) 1 y).set (Nat.lt_succ_self _) 2 z).mono (Nat.le_succ _)
end Go.Proofs.Ytjccjmmbebiegaa
set_option linter.unusedVariables false
set_option linter.unusedSimpArgs false
namespace Go.Proofs.Ytjccjmmbebiegaa
open Go.RowKit
theorem OwnI.same {w:World} {base:Nat} {e:TypeId} {k:Nat} {v:Value} {n m:Nat} {zs ys:List Int} (h:OwnI w base e k v n zs) (hn:n=m) (hz:zs=ys):OwnI w base e k v m ys:=by
 subst hn;subst hz;exact h
def HoldE (w:World) (r:List Lay×Int) (e:Ending) (w':World):Prop:=∃v,e=.returned (.tuple #[v,.int .i64 r.2])∧Hold w' w.heap.size v r.1∧Below w.heap.size w w'
set_option maxRecDepth 20000 in
set_option maxHeartbeats 1000000 in
theorem fifo_In (a:Option Addr) (cap:Nat) (l:List Lay) (x:Lay) (w:World) (h:Row w 3 a l.length cap (flat l)) (hn:l.length≤900) (hx:AllI [x.q,x.v,x.p]) :
  Calls Try.prog 69 #[.slice a l.length cap,x.val] w (HoldE w (inS l x)):=by
 have h0:=h
 obtain⟨hl,hcap,hmax,hall,hat⟩:=h
 unfold maxLen at hmax
 unfold Lay.val
 go_enter Try.func69,Try.ntmps69
 try simp only[List.append_eq,List.cons_append,List.nil_append]
 by_cases q1:x.q<1∨x.v<0
 ·have e:inS l x=(l,1):=by rw[inS,if_pos q1]
  rw[e]
  have hq:x.q<1∨¬ x.q<1∧x.v<0:=by omega
  clear q1
  rcases hq with hq|⟨hq,hv⟩
  all_goals
   go_wp2_with (first|(go_at_call 58;refine(Clone_Layer a l.length cap (flat l) _ (h0.below (by(repeat (first|assumption|exact Below.refl _ _|refine ballc ?_ _|refine bdrew ?_|refine bdrewN ?_ _|refine bset ?_ _ _|refine bsetN ?_ (by omega) _ _|refine bthen ?_ (by assumption))))) (by omega)).mono ?_;rintro e w1 ⟨⟨v1,rfl,hown⟩,hw1⟩;obtain⟨⟨r0,r1,r2,z0,z1,z2⟩,hlw,hlw1,hlw2,hlw3⟩:=res3 hw1;obtain⟨a1,c1,rfl,R1⟩:=hown.row hall))
   go_ret2
   exact⟨_,rfl,Hold.of_own hown (by simp),by(repeat (first|assumption|exact Below.refl _ _|refine ballc ?_ _|refine bdrew ?_|refine bdrewN ?_ _|refine bset ?_ _ _|refine bsetN ?_ (by omega) _ _|refine bthen ?_ (by assumption)))⟩
 have hq:¬ x.q<1:=by omega
 have hv:¬ x.v<0:=by omega
 by_cases n1:30≤l.length
 ·have e:inS l x=(l,6):=by rw[inS,if_neg q1,if_pos n1]
  rw[e]
  have n2:(30:Int)≤(l.length:Int):=by omega
  clear q1
  go_wp2_with (first|(go_at_call 58;refine(Clone_Layer a l.length cap (flat l) _ (h0.below (by(repeat (first|assumption|exact Below.refl _ _|refine ballc ?_ _|refine bdrew ?_|refine bdrewN ?_ _|refine bset ?_ _ _|refine bsetN ?_ (by omega) _ _|refine bthen ?_ (by assumption))))) (by omega)).mono ?_;rintro e w1 ⟨⟨v1,rfl,hown⟩,hw1⟩;obtain⟨⟨r0,r1,r2,z0,z1,z2⟩,hlw,hlw1,hlw2,hlw3⟩:=res3 hw1;obtain⟨a1,c1,rfl,R1⟩:=hown.row hall))
  go_ret2
  exact⟨_,rfl,Hold.of_own hown (by simp),by(repeat (first|assumption|exact Below.refl _ _|refine ballc ?_ _|refine bdrew ?_|refine bdrewN ?_ _|refine bset ?_ _ _|refine bsetN ?_ (by omega) _ _|refine bthen ?_ (by assumption)))⟩
 have n2:¬ (30:Int)≤(l.length:Int):=by omega
 have e:inS l x=if rightL (l++[x])then(l++[x],0)else(l,2):=by rw[inS,if_neg q1,if_neg n1]
 rw[e]
 clear q1 e
 have hmA:AllI (flat (l++[x])):=AllI.snoc hall hx
 have hml:=Lib.hid (show l.length+1=(l++[x]).length by simp)
 have hmf:=Lib.hid (show flat l++[x.q,x.v,x.p]=flat (l++[x])by simp[flat])
 have hL:(l++[x]).length≤1000:=by simp;omega
 generalize l++[x]=m at *
 cases hr:rightL m
 all_goals
  simp only[Bool.false_eq_true,if_false,if_true]
  go_wp2_with fail
  go_at_call 58;refine(Clone_Layer a l.length cap (flat l) _ (h0.below (by(repeat (first|assumption|exact Below.refl _ _|refine ballc ?_ _|refine bdrew ?_|refine bdrewN ?_ _|refine bset ?_ _ _|refine bsetN ?_ (by omega) _ _|refine bthen ?_ (by assumption))))) (by omega)).mono ?_;rintro e w1 ⟨⟨v1,rfl,hown⟩,hw1⟩;obtain⟨⟨r0,r1,r2,z0,z1,z2⟩,hlw,hlw1,hlw2,hlw3⟩:=res3 hw1;obtain⟨a1,c1,rfl,R1⟩:=hown.row hall
  go_wp2_with fail
  have hws:w.heap.size+1≤w1.heap.size:=hlw
  go_region_held3 (fun w'=>w'.cell? ⟨w.heap.size,0,none⟩=some (.int .i64 x.q)∧w'.cell? ⟨w.heap.size,1,none⟩=some (.int .i64 x.v)∧w'.cell? ⟨w.heap.size,2,none⟩=some (.int .i64 x.p))
   (first|go_keep|exact⟨(hb3.cell hlw).trans (by go_keep),(hb3.cell hlw).trans (by go_keep),(hb3.cell hlw).trans (by go_keep)⟩|(go_split_ands;exact⟨(hw2.cell (by simp;omega)).trans (by assumption),(hw2.cell (by simp;omega)).trans (by assumption),(hw2.cell (by simp;omega)).trans (by assumption)⟩))
   ((first
    |(go_at_call 58;refine(Clone_Layer a1 l.length c1 (flat l) _ (R1.below (by(repeat (first|assumption|exact Below.refl _ _|refine ballc ?_ _|refine bdrew ?_|refine bdrewN ?_ _|refine bset ?_ _ _|refine bsetN ?_ (by omega) _ _|refine bthen ?_ (by assumption))))) (by omega)).mono ?_;rintro e w2 ⟨⟨v2,rfl,hown2⟩,hw2⟩;have hz2:w1.heap.size≤w2.heap.size:=(by have:=hw2.size;simp at this;omega))
    |(refine step_push (by rfl) _ _ 23 (by rfl) w1.heap.size 32 3 elem_Layer v2 l.length (flat l) (by rfl) ((by first|exact OwnI.mono hown2 (by simp)|exact OwnI.mono (hown2.alloc _) (by simp)|exact hown2|exact hown2.alloc _)) _ 0 1 [x.q,x.v,x.p] (by rfl) rfl (by first|exact lit3 rfl|exact CellsAt.below (w:=(w1.alloc (.cells #[.int .i64 x.q,.int .i64 x.v,.int .i64 x.p] 32)).drew) (lit3 (w:=w1) (t:=32) rfl) (by simp) hw2) (by omega) (by first|exact hz2|exact Nat.le_trans hz2 (by simp)) ?_;intro v3 w3 hown3 hb3)))
  all_goals
   have hbel:Below w.heap.size w w3:=by refine Below.trans ?_ (hb3.mono (by omega));(repeat (first|assumption|exact Below.refl _ _|refine ballc ?_ _|refine bdrew ?_|refine bdrewN ?_ _|refine bset ?_ _ _|refine bsetN ?_ (by omega) _ _|refine bthen ?_ (by assumption)))
   have hold:=(Hold.of_own (base':=w.heap.size) hown (by simp)).below (show Below w1.heap.size w1 w3 by refine Below.trans ?_ hb3;(repeat (first|assumption|exact Below.refl _ _|refine ballc ?_ _|refine bdrew ?_|refine bdrewN ?_ _|refine bset ?_ _ _|refine bsetN ?_ (by omega) _ _|refine bthen ?_ (by assumption))))
   have hown4:=OwnI.same hown3 hml.out hmf.out
   clear hown3 hown2 hb3 hw2
   obtain⟨a3,c3,rfl,R3⟩:=hown4.row hmA
   go_wp2_with (first|(go_at_call 37;refine(fifo_Right a3 c3 m _ R3 hL).mono ?_;rintro e w4 ⟨rfl,hw4⟩))
   try go_ret2
   first
    |exact⟨_,rfl,hold.below hw4,by(repeat (first|assumption|exact Below.refl _ _|refine ballc ?_ _|refine bdrew ?_|refine bdrewN ?_ _|refine bset ?_ _ _|refine bsetN ?_ (by omega) _ _|refine bthen ?_ (by assumption)))⟩
    |exact⟨_,rfl,(Hold.of_own hown4 (by omega)).below hw4,by(repeat (first|assumption|exact Below.refl _ _|refine ballc ?_ _|refine bdrew ?_|refine bdrewN ?_ _|refine bset ?_ _ _|refine bsetN ?_ (by omega) _ _|refine bthen ?_ (by assumption)))⟩
end Go.Proofs.Ytjccjmmbebiegaa
