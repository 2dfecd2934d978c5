/-
 Vouchers: the questions asked of a line; the first line of which one is true; lines without those of which it is.
 Vouchers: the amounts together; lines without those of which something holds.
 The library's DeleteFunc at lines.
 A voucher, a line for each account: what comes of adding up lines that rise by account. No program in sight.
 voucher.Plain. Its walk.
 voucher.Check, voucher.Total; the document's example.
 Vouchers: the document's example; so many lines, amounts at the limit. The walks.
 VoucherLimits. Its walk.
-/
import Derived.Test.YtjccjmmbebiegaaSortA
import Derived.Lib.SliceRun
set_option linter.unusedVariables false
set_option linter.unusedSimpArgs false
namespace Go.Proofs.Ytjccjmmbebiegaa
open Go.RowKit
def isAcc (a:Int):Bool:=decide (0≤a)&&decide (a<17)
theorem isAcc_iff {a:Int}:isAcc a=true↔0≤a∧a<17:=by simp[isAcc]
structure Pred (F:FuncId) (p:Lin→Bool):Prop where
 ent:∀(args:Array Value) (W:World),(callFunc F args).run Try.prog W=.ok (.enter F args) W
 ask:∀(x:Lin) (W:World),Calls Try.prog F #[x.val] W fun e w'=>e=.returned (.bool (p x))∧Below W.heap.size W w'
def badP (x:Lin):Bool:=!(isAcc x.a)||!(inB x.n)
def badC (x:Lin):Bool:=!(isAcc x.a)||decide (x.n=0)||!(inB x.n)
def zeroN (x:Lin):Bool:=decide (x.n=0)
def badT (x:Lin):Bool:=!(inB x.n)
def noDeb (x:Lin):Bool:=decide (x.n≤0)
end Go.Proofs.Ytjccjmmbebiegaa
set_option linter.unusedVariables false
set_option linter.unusedSimpArgs false
namespace Go.Proofs.Ytjccjmmbebiegaa
open Go.RowKit
theorem lit1 {w:World} {y:Int} {t n:Nat} (hn:n=w.heap.size):CellsAt (w.alloc (.cells #[.int .i64 y] t)) n 0 [y]:=by
 subst hn;exact CellsAt.new w [y] t
def amts (l:List Lin):List Int:=l.map (·.n)
theorem Keep.setCells {b:Nat} {u:World}:∀(vs:List Value) (o:Nat) (w:World),Keep b u w→Keep b u (w.setCells b o vs)
 |[],_,_,h=>h
 |v::r,o,w,h=>Keep.setCells r (o+1) _ (h.set o v)
theorem CellsAt.clear {w:World} {b off k:Nat} {zs:List Int} {vs:List Value} (h:CellsAt w b off zs) (hk:zs.length≤k):CellsAt (w.setCells b (off+k) vs) b off zs:=by
 intro i hi
 rw[World.cell?_setCells_out b vs (off+k) w ⟨b,off+i,none⟩ (fun _ _=>.inl (by simp only;omega))]
 exact h i hi
end Go.Proofs.Ytjccjmmbebiegaa
set_option linter.unusedVariables false
set_option linter.unusedSimpArgs false
namespace Go.Proofs.Ytjccjmmbebiegaa
open Go.RowKit
end Go.Proofs.Ytjccjmmbebiegaa
set_option linter.unusedVariables false
set_option linter.unusedSimpArgs false
namespace Go.Proofs.Ytjccjmmbebiegaa
def accA (l:List Lin) (a:Int):List Int:=amts (l.filter fun x=>x.a==a)
def plainS (l:List Lin):List Lin×Int :=
 if l.any badP then([],1)else if(List.range 17).any (fun(a:Nat)=>decide (sumE (accA l (a:Int))≠0))then([],2)else
  (((List.range 17).map fun(a:Nat)=>(⟨(a:Int),sumV (accA l (a:Int))⟩:Lin)).filter (fun x=>!zeroN x),0)
def Strict (l:List Lin):Prop:=l.Pairwise fun x y=>x.a<y.a
structure Added (P out:List Lin):Prop where
 strict:Strict out
 acc:∀a,(∃y,y∈out∧y.a=a)↔∃x,x∈P∧x.a=a
 sum:∀y,y∈out→sumGo 0 (accA P y.a)=some y.n
 rise:Rises Lin.a P
theorem Added.nil:Added [] []:=⟨List.Pairwise.nil,by simp,by simp,Rises.nil⟩
theorem accA_snoc (P:List Lin) (x:Lin) (a:Int):accA (P++[x]) a=if x.a=a then accA P a++[x.n]else accA P a:=by
 unfold accA amts
 by_cases h:x.a=a
 ·simp[List.filter_append,h]
 ·simp[List.filter_append,h]
theorem sumGo_snoc' (l:List Int) (z n:Int) (h:sumGo 0 l=some n):sumGo 0 (l++[z])=if addOk n z then some (n+z)else none:=by
 rw[sumGo_snoc,h];rfl
theorem Added.more {P out:List Lin} {x:Lin} (h:Added P out) (hr:Rises Lin.a (P++[x])) (hx:inB x.n=true) (hne:∀A y,out=A++[y]→y.a≠x.a):Added (P++[x]) (out++[x]):=by
 have hle:∀y,y∈out→y.a<x.a:=by
  intro y hy
  have hle':∀y,y∈out→y.a≤x.a:=fun y hy=>by
   obtain⟨z,hz,e⟩:=(h.acc y.a).1 ⟨y,hy,rfl⟩
   have:=(Rises.app.1 hr).2.2 z hz x (by simp)
   omega
  rcases split_last out with rfl|⟨A,y',rfl⟩
  ·simp at hy
  ·have h1:=hne A y' rfl
   have h2:=hle' y' (by simp)
   rcases List.mem_append.1 hy with hy|hy
   ·have:=(List.pairwise_append.1 h.strict).2.2 y hy y' (by simp)
    omega
   ·simp at hy;subst hy;omega
 have hno:accA P x.a=[]:=by
  unfold accA amts
  rw[List.map_eq_nil_iff,List.filter_eq_nil_iff]
  intro z hz
  simp
  intro e
  obtain⟨y,hy,ey⟩:=(h.acc z.a).2 ⟨z,hz,rfl⟩
  have:=hle y hy
  omega
 refine⟨List.pairwise_append.2 ⟨h.strict,by simp,fun y hy z hz=>by simp at hz;subst hz;exact hle y hy⟩,fun a=>?_,fun y hy=>?_,hr⟩
 ·constructor
  ·rintro⟨y,hy,rfl⟩
   rcases List.mem_append.1 hy with hy|hy
   ·obtain⟨z,hz,e⟩:=(h.acc y.a).1 ⟨y,hy,rfl⟩
    exact⟨z,by simp[hz],e⟩
   ·exact⟨y,by simp at hy;simp[hy],rfl⟩
  ·rintro⟨z,hz,rfl⟩
   rcases List.mem_append.1 hz with hz|hz
   ·obtain⟨y,hy,e⟩:=(h.acc z.a).2 ⟨z,hz,rfl⟩
    exact⟨y,by simp[hy],e⟩
   ·exact⟨z,by simp at hz;simp[hz],rfl⟩
 ·rw[accA_snoc]
  rcases List.mem_append.1 hy with hy|hy
  ·have:=hle y hy
   rw[if_neg (by omega)]
   exact h.sum y hy
  ·simp at hy
   subst hy
   rw[if_pos rfl,hno]
   have:addOk 0 y.n=true:=addOk_iff.2 ⟨by decide +kernel,hx,by rw[Int.zero_add];exact hx⟩
   simp[sumGo,this]
theorem Added.same {P A:List Lin} {x y:Lin} (h:Added P (A++[y])) (hr:Rises Lin.a (P++[x])) (e:y.a=x.a) (ho:addOk y.n x.n=true):Added (P++[x]) (A++[⟨y.a,y.n+x.n⟩]):=by
 have hs:=List.pairwise_append.1 h.strict
 refine⟨List.pairwise_append.2 ⟨hs.1,by simp,fun z hz u hu=>by simp at hu;subst hu;exact hs.2.2 z hz y (by simp)⟩,fun a=>?_,fun z hz=>?_,hr⟩
 ·have:=h.acc a
  constructor
  ·rintro⟨z,hz,rfl⟩
   have:∃u,u∈P∧u.a=z.a:=this.1 (by
    rcases List.mem_append.1 hz with hz|hz
    ·exact⟨z,by simp[hz],rfl⟩
    ·simp at hz;exact⟨y,by simp,by rw[hz]⟩)
   obtain⟨u,hu,eu⟩:=this
   exact⟨u,by simp[hu],eu⟩
  ·rintro⟨z,hz,rfl⟩
   have h2:∃u,u∈A++[y]∧u.a=z.a:=by
    rcases List.mem_append.1 hz with hz|hz
    ·exact this.2 ⟨z,hz,rfl⟩
    ·simp at hz;exact⟨y,by simp,by rw[hz,e]⟩
   obtain⟨u,hu,eu⟩:=h2
   rcases List.mem_append.1 hu with hu|hu
   ·exact⟨u,by simp[hu],eu⟩
   ·simp at hu;subst hu;exact⟨⟨u.a,u.n+x.n⟩,by simp,eu⟩
 ·rw[accA_snoc]
  rcases List.mem_append.1 hz with hz|hz
  ·have:=hs.2.2 z hz y (by simp)
   rw[if_neg (by omega)]
   exact h.sum z (by simp[hz])
  ·simp at hz
   subst hz
   rw[if_pos e.symm]
   rw[sumGo_snoc' _ _ _ (h.sum y (by simp)),ho]
   rfl
theorem Added.stop {P A m:List Lin} {x y:Lin} {k:Nat} (h:Added P (A++[y])) (e:y.a=x.a) (ho:addOk y.n x.n=false) (hP:P=m.take k) (hx:m[k]?=some x):sumGo 0 (accA m y.a)=none:=by
 have h1:sumGo 0 (accA (P++[x]) y.a)=none:=by
  rw[accA_snoc,if_pos e.symm,sumGo_snoc' _ _ _ (h.sum y (by simp)),ho]
  rfl
 have h2:accA m y.a=accA (P++[x]) y.a++accA (m.drop (k+1)) y.a:=by
  have e2:m.take (k+1)=P++[x]:=by rw[List.take_add_one,hx,hP];rfl
  conv=>lhs;rw[←List.take_append_drop (k+1) m,e2]
  unfold accA amts
  rw[List.filter_append,List.map_append]
 rw[h2,sumGo_append,h1]
 rfl
theorem accA_stab {l m:List Lin} (h:Stab Lin.a l m) (a:Int):accA m a=accA l a:=by
 unfold accA
 rw[h a]
theorem sumE_none {l:List Int} (h:sumGo 0 l=none):sumE l=2:=by simp[sumE,h]
theorem sumV_some {l:List Int} {n:Int} (h:sumGo 0 l=some n):sumV l=n∧sumE l=0:=by simp[sumV,sumE,h]
theorem good_of {l:List Lin} (h:l.any badP=false) {x:Lin} (hx:x∈l):0≤x.a∧x.a<17∧inB x.n=true:=by
 have:=List.any_eq_false.1 h x hx
 simp[badP]at this
 exact⟨(isAcc_iff.1 this.1).1,(isAcc_iff.1 this.1).2,this.2⟩
theorem plain_big {l m:List Lin} {a:Int} (h:l.any badP=false) (hs:Stab Lin.a l m) (ha:0≤a∧a<17) (hn:sumGo 0 (accA m a)=none):plainS l=([],2):=by
 have:(List.range 17).any (fun(a:Nat)=>decide (sumE (accA l (a:Int))≠0))=true:=by
  refine List.any_eq_true.2 ⟨a.toNat,List.mem_range.2 (by omega),?_⟩
  rw[Int.toNat_of_nonneg ha.1,←accA_stab hs,sumE_none hn]
  decide
 simp only[plainS,h,this]
 simp
end Go.Proofs.Ytjccjmmbebiegaa
set_option linter.unusedVariables false
set_option linter.unusedSimpArgs false
namespace Go.Proofs.Ytjccjmmbebiegaa
open Go.RowKit
def Hold2 (w:World) (base:Nat) (v:Value) (l:List Lin):Prop :=
 ∃a cap,v=.slice a l.length cap∧l.length≤cap∧cap≤maxLen∧(l.length=0∨∃b off,a=some ⟨b,off,none⟩∧base≤b∧b<w.heap.size∧CellsAt w b off (flat2 l)∧∀i,w.frozen? ⟨b,i,none⟩=false)
theorem Hold2.row {w:World} {base:Nat} {v:Value} {l:List Lin} (h:Hold2 w base v l) (ha:AllI (flat2 l)):∃a cap,v=.slice a l.length cap∧Row w 2 a l.length cap (flat2 l):=by
 obtain⟨a,cap,rfl,h1,h2,h3⟩:=h
 refine⟨a,cap,rfl,flat2_len l,h1,h2,ha,?_⟩
 rcases h3 with h3|⟨b,off,rfl,-,h4,h5,-⟩
 ·exact .inl h3
 ·exact .inr ⟨b,off,rfl,h4,h5⟩
theorem Hold2.below {w w':World} {base:Nat} {v:Value} {l:List Lin} (h:Hold2 w base v l) (g:Below w.heap.size w w'):Hold2 w' base v l:=by
 obtain⟨a,cap,rfl,h1,h2,h3⟩:=h
 refine⟨a,cap,rfl,h1,h2,?_⟩
 rcases h3 with h3|⟨b,off,rfl,hb,h4,h5,h6⟩
 ·exact .inl h3
 ·exact .inr ⟨b,off,rfl,hb,Nat.lt_of_lt_of_le h4 g.size,h5.below h4 g,fun i=>(g.frozen (p:=⟨b,i,none⟩) h4).trans (h6 i)⟩
theorem Hold2.mono {w:World} {base base':Nat} {v:Value} {l:List Lin} (h:Hold2 w base v l) (g:base'≤base):Hold2 w base' v l:=by
 obtain⟨a,cap,rfl,h1,h2,h3⟩:=h
 refine⟨a,cap,rfl,h1,h2,?_⟩
 rcases h3 with h3|⟨b,off,rfl,hb,h4⟩
 ·exact .inl h3
 ·exact .inr ⟨b,off,rfl,Nat.le_trans g hb,h4⟩
theorem Hold2.nil {w:World} {base:Nat} {a:Option Addr} {cap:Nat} (h:cap≤maxLen):Hold2 w base (.slice a 0 cap) []:=⟨a,cap,rfl,by simp,h,.inl rfl⟩
theorem OwnI.stored {w:World} {base n g cap:Nat} {e:TypeId} {k:Nat} {zs:List Int} (h:OwnI w base e k (.slice (some ⟨g,0,none⟩) n cap) n zs) (j:Nat) (z:Int) :
  OwnI (w.setCell ⟨g,j,none⟩ (.int .i64 z)) base e k (.slice (some ⟨g,0,none⟩) n cap) n (zs.set j z):=by
 have:=(World.ownsRow.stored h j (.int .i64 z)).1
 unfold OwnI
 rw[show ints (zs.set j z)=(ints zs).set j (.int .i64 z)by simp[ints,List.map_set]]
 exact this
section
variable (a:Option Addr) (cap:Nat) (w:World)
end
section
variable {P:Program} {f:FuncId} {args:Array Value} {w:World} {v:Value}
end
end Go.Proofs.Ytjccjmmbebiegaa
set_option linter.unusedVariables false
set_option linter.unusedSimpArgs false
namespace Go.Proofs.Ytjccjmmbebiegaa
open Go.RowKit
def checkL (l:List Lin):Bool:=decide (1≤l.length)&&decide (l.length≤12)&&!(l.any badC)&&decide (sumV (amts l)=0)&&decide (sumE (amts l)=0)
def totL (l:List Lin):Int×Int:=if l.any badT then(0,2)else(sumV (amts (l.filter fun x=>!noDeb x)),sumE (amts (l.filter fun x=>!noDeb x)))
end Go.Proofs.Ytjccjmmbebiegaa
set_option linter.unusedVariables false
set_option linter.unusedSimpArgs false
namespace Go.Proofs.Ytjccjmmbebiegaa
open Go.RowKit
theorem Row.cut {w:World} {a:Option Addr} {n cap k:Nat} {l:List Lin} (h:Row w 2 a n cap (flat2 l)) (hn:l.length=n) (hk:k≤n):Row w 2 a k cap (flat2 (l.take k)):=by
 refine⟨by rw[flat2_len,List.length_take];omega,by have:=h.le;omega,h.max,flat2_of fun x hx=>flat2_all h.all (List.mem_of_mem_take hx),?_⟩
 by_cases h0:k=0
 ·exact .inl h0
 ·rcases h.at_ with h1|⟨b,off,e,hb,hc⟩
  ·omega
  ·refine .inr ⟨b,off,e,hb,CellsAt.of_lines fun j x hx=>hc.line ?_⟩
   have hj:j<k:=by
    rcases Nat.lt_or_ge j k with h|h
    ·exact h
    ·rw[List.getElem?_eq_none (by rw[List.length_take];omega)]at hx;cases hx
   rwa[List.getElem?_take_of_lt hj]at hx
end Go.Proofs.Ytjccjmmbebiegaa
set_option linter.unusedVariables false
set_option linter.unusedSimpArgs false
namespace Go.Proofs.Ytjccjmmbebiegaa
open Go.RowKit
theorem CellsAt.put {w:World} {b off:Nat} {zs:List Int} (h:CellsAt w b off zs) {j:Nat} (hj:j<zs.length) (z:Int):CellsAt (w.setCell ⟨b,off+j,none⟩ (.int .i64 z)) b off (zs.set j z):=by
 intro i hi
 rw[List.length_set]at hi
 have k:=h i hi
 by_cases e:i=j
 ·subst e
  rw[World.cell?_setCell_same _ _ _ k,List.getD_eq_getElem?_getD,List.getElem?_set_self hi]
  rfl
 ·rw[World.cell?_setCell_other _ _ _ _ (by intro e2;injection e2;omega),k,List.getD_eq_getElem?_getD,List.getD_eq_getElem?_getD,List.getElem?_set_ne (fun e2=>e e2.symm)]
theorem OwnI.lit (w:World) (zs:List Int) (n k:Nat) (e:TypeId) (hl:zs.length=n*k) (hm:n≤4611686018427387904):OwnI (w.alloc (.cells (zs.map (Value.int .i64)).toArray e)) w.heap.size e k (.slice (some ⟨w.heap.size,0,none⟩) n n) n zs:=by
 have:=World.ownsRow_lit (base:=w.heap.size) (e:=e) (size:=k) w (zs.map (Value.int .i64)).toArray n (Nat.le_refl _) (by unfold maxLen;omega) (by simpa using hl)
 exact this
end Go.Proofs.Ytjccjmmbebiegaa
