/-
 Texts joined and made small by wip/small.sh.
-/
import Derived.Test.YtnepgggkgnckcaaGreatJ3
import Derived.WalkKit
import Derived.Test.YtnepgggkgnckcaaGreatProg
import Derived.Lib.BitFns
import Derived.Lib.ItoaNum
import Derived.Lib.Small
import Derived.Lib.Strings
import Derived.Lib.Slices
import Derived.Lib.Walk
import Derived.WalkSpells
import Derived.WalkLawsBesides
import Derived.Deep.QuietTactic
import Derived.BigQuiet
import Derived.Lib.Hide
import Derived.WalkSmall
import Derived.Lib.SliceRun
import Derived.Orders
import Derived.Deep.AppendLies
import Derived.Below
import Derived.LoopN
import Derived.IntWalk
import Derived.Deep.RegionHeld3
import Derived.RegionTactic
import Derived.ChangeAlike
import Derived.Deep.RegionLaw
import Derived.StillTailTactics
import Derived.Deep.Cut
import Derived.Lib.Bytealg
set_option linter.unusedVariables false
set_option linter.unusedSimpArgs false
namespace Go.Proofs.YtnepgggkgnckcaaGreat
open Go.RowKit
section
set_option linter.unnecessarySimpa false
def mD (v:Int):Bool:=decide (-288230376151711744≤v)&&decide (v≤288230376151711744)
theorem eP {v:Int}:mD v=true↔-288230376151711744≤v∧v≤288230376151711744:=by simp[mD]
structure jY (v:Int):Prop where
 lo:-9223372036854775808≤v
 hi:v≤9223372036854775807
theorem XO {v:Int} (h:(Lit.int .i64 v).wf=true):jY v:=by
 simp[Lit.wf,IntKind.min,IntKind.max,IntKind.signed,IntKind.bits]at h
 exact⟨by omega,by omega⟩
def fM (a b:Int):Bool:=mD a&&mD b&&mD (wrap64 (a+b))
theorem pX {a b:Int}:fM a b=true↔mD a=true∧mD b=true∧mD (a+b)=true:=by
 simp only[fM,Bool.and_eq_true,eP];unfold wrap64;omega
def mW (a b:Int):Int:=if fM a b then a+b else 0
def mK (a b:Int):Int:=if fM a b then 0 else 2
def bY (n:Int):List Int→Option Int
 |[]=>some n
 |z::zs=>if fM n z then bY (n+z) zs else none
def dU (l:List Int):Int:=(bY 0 l).getD 0
def eI (l:List Int):Int:=if(bY 0 l).isSome then 0 else 2
theorem ae5 {a b n m:Int} (h0:0≤a) (h1:a≤n) (h2:0≤b) (h3:b≤m):0≤a*b∧a*b≤n*m :=
 ⟨Int.mul_nonneg h0 h2,Int.mul_le_mul h1 h3 h2 (by omega)⟩
theorem acA (xh xl yh yl:Int):(xh*4294967296+xl)*(yh*4294967296+yl)=xh*yh*18446744073709551616+(xh*yl+xl*yh)*4294967296+xl*yl:=by
 rw[Int.add_mul,Int.mul_add,Int.mul_add];have e1:xh*4294967296*(yh*4294967296)=xh*yh*18446744073709551616:=by
  rw[Int.mul_assoc,Int.mul_comm 4294967296 (yh*4294967296),Int.mul_assoc,←Int.mul_assoc xh yh];rfl
 have e2:xh*4294967296*yl=xh*yl*4294967296:=by
  rw[Int.mul_assoc,Int.mul_comm 4294967296 yl,←Int.mul_assoc]
 have e3:xl*(yh*4294967296)=xl*yh*4294967296:=by rw[←Int.mul_assoc]
 rw[e1,e2,e3,Int.add_mul];omega
structure aap (x y l0 l1 l2 l3:Int):Prop where
 e:x*y=l3*18446744073709551616+(l1+l2)*4294967296+l0
 b0:0≤l0∧l0≤18446744065119617025
 b1:0≤l1∧l1≤18446744065119617025
 b2:0≤l2∧l2≤18446744065119617025
 b3:0≤l3∧l3≤18446744065119617025
theorem akp (x y:Int) (hx:0≤x) (hx':x<18446744073709551616) (hy:0≤y) (hy':y<18446744073709551616) :
  aap x y (x%4294967296*(y%4294967296)) (x/4294967296*(y%4294967296)) (x%4294967296*(y/4294967296)) (x/4294967296*(y/4294967296)):=by
 have b (a c:Int) (h0:0≤a) (h1:a≤4294967295) (h2:0≤c) (h3:c≤4294967295):0≤a*c∧a*c≤18446744065119617025:=ae5 h0 h1 h2 h3
 refine⟨?_,b _ _ (by omega) (by omega) (by omega) (by omega),b _ _ (by omega) (by omega) (by omega) (by omega),b _ _ (by omega) (by omega) (by omega) (by omega),b _ _ (by omega) (by omega) (by omega) (by omega)⟩
 rw[←acA];congr 1<;>omega
def u64 (v:Int):Int:=v%18446744073709551616
def jB (a b:Int):Int:=u64 a*u64 b/18446744073709551616
def jA (a b:Int):Int:=u64 a*u64 b%18446744073709551616
theorem CQ (v:Int):0≤u64 v∧u64 v<18446744073709551616:=by unfold u64;omega
theorem PM {v:Int} (h:0≤v) (h':v<18446744073709551616):u64 v=v:=by unfold u64;omega
theorem CN (a b:Int):0≤jB a b∧jB a b<18446744073709551616:=by
 have h:=ae5 (CQ a).1 (show u64 a≤18446744073709551615 by have:=(CQ a).2;omega) (CQ b).1 (show u64 b≤18446744073709551615 by have:=(CQ b).2;omega)
 unfold jB;omega
theorem xG (a b:Int):0≤jA a b∧jA a b<18446744073709551616:=by unfold jA;omega
theorem ado (a b:Int):jB a b*18446744073709551616+jA a b=u64 a*u64 b:=by unfold jB jA;omega
theorem PL {x y l0 l1 l2 l3:Int} (h:aap x y l0 l1 l2 l3) :
  l3+l1/4294967296+l2/4294967296+(l0/4294967296+l1%4294967296+l2%4294967296)/4294967296=x*y/18446744073709551616:=by
 obtain⟨e,b0,b1,b2,b3⟩:=h;generalize x*y=t at *
 omega
theorem PK {x y l0 l1 l2 l3:Int} (h:aap x y l0 l1 l2 l3) :
  (l0/4294967296+l1%4294967296+l2%4294967296)*4294967296%18446744073709551616+l0%4294967296=x*y%18446744073709551616:=by
 obtain⟨e,b0,b1,b2,b3⟩:=h;generalize x*y=t at *
 omega
def ER (a b c:Int):Int:=if a<0∨b<0∨c<1 then 1 else if a*b/c > 288230376151711744 then 2 else 0
def zY (a b c:Int):Int:=if a<0∨b<0∨c<1 then 0 else if a*b/c > 288230376151711744 then 0 else a*b/c
def PE (a b c:Int):Int:=if a<0∨b<0∨c<1 then 0 else if a*b/c > 288230376151711744 then 0 else a*b%c
def cA (v q n:Int):Int :=
 if n<1∨q<0∨q > n∨mD v=false then 0 else if v<0 then -(-v*q/n)else v*q/n
theorem tX {a b:Bool} (h:a=b):Ending.returned (.bool a)=.returned (.bool b):=by rw[h]
theorem aaK {k:IntKind} {a b:Int} (h:a=b):Ending.returned (.int k a)=.returned (.int k b):=by rw[h]
theorem zK {k j:IntKind} {a b c d:Int} (h1:a=c) (h2:b=d):Ending.returned (.tuple #[.int k a,.int j b])=.returned (.tuple #[.int k c,.int j d]):=by rw[h1,h2]
theorem aaL {k j i:IntKind} {a b c d e f:Int} (h1:a=c) (h2:b=d) (h3:e=f):Ending.returned (.tuple #[.int k a,.int j b,.int i e])=.returned (.tuple #[.int k c,.int j d,.int i f]):=by rw[h1,h2,h3]
set_option maxHeartbeats 400000 in
theorem qG (v:Int) (w:World) :
  Calls Tryz.prog 144 #[.int .i64 v] w fun e w'=>e=.returned (.bool (mD v))∧w=w':=by
 go_enter Tryz.func144,Tryz.ntmps144
 go_wp2
 all_goals (go_ret;exact⟨tX (by simp[mD];try omega),rfl⟩)
theorem tmod_neg (v n:Int) (hn:0<n) (hn':n≤9223372036854775807) (h:v.tmod n<0):wrap64 (v.tmod n+n)=v%n:=by
 have h1:=Int.tmod_def v n;have h2:-n<v.tmod n:=Int.lt_tmod_of_pos v hn
 have h3:(v.tmod n+n)%n=v%n:=by
  rw[Int.add_emod_right,h1,Int.sub_mul_emod_self_left]
 rw[←h3,Int.emod_eq_of_lt (by omega) (by omega)]
 unfold wrap64;omega
theorem adr (v n:Int) (hn:0<n) (h:0≤v.tmod n):v.tmod n=v%n:=by
 have h1:=Int.tmod_def v n;have h2:v.tmod n<n:=Int.tmod_lt_of_pos v hn
 have h3:(v.tmod n)%n=v%n:=by
  rw[h1,Int.sub_mul_emod_self_left]
 rw[←h3,Int.emod_eq_of_lt h (by omega)]
set_option maxHeartbeats 400000 in
theorem Tv (v n:Int) (w:World) (hn:0<n) (hn':n≤9223372036854775807) :
  Calls Tryz.prog 14 #[.int .i64 v,.int .i64 n] w fun e w'=>e=.returned (.int .i64 (v%n))∧w=w':=by
 go_enter Tryz.func14,Tryz.ntmps14
 go_wp2
 ·go_ret;exact⟨aaK (tmod_neg v n hn hn' ‹_›),by first|rfl|trivial⟩
 ·go_ret;exact⟨aaK (adr v n hn ‹_›),by first|rfl|trivial⟩
theorem agj {a b:Int} (h1:mD a=true) (h2:mD b=true) (h:(!mD (wrap64 (a+b)))=false):wrap64 (a+b)=mW a b∧(0:Int)=mK a b:=by
 have h':mD (wrap64 (a+b))=true:=by simpa using h
 have:fM a b=true:=by simp[fM,h1,h2,h']
 simp only[mW,mK,this,if_true];rw[eP]at h1 h2;refine⟨?_,trivial⟩
 unfold wrap64;omega
theorem PA {a b:Int} (h:mD a=false∨mD b=false∨mD (wrap64 (a+b))=false):(0:Int)=mW a b∧(2:Int)=mK a b:=by
 have:fM a b=false:=by
  rcases h with h|h|h<;>simp[fM,h]
 simp[mW,mK,this]
set_option maxHeartbeats 400000 in
theorem xN (a b:Int) (w:World) :
  Calls Tryz.prog 83 #[.int .i64 a,.int .i64 b] w fun e w'=>e=.returned (.tuple #[.int .i64 (mW a b),.int .i64 (mK a b)])∧w=w':=by
 go_enter Tryz.func83,Tryz.ntmps83
 go_wp2_with (go_at_call 144;refine(qG _ _).mono ?_;rintro e w' ⟨rfl,rfl⟩)
 ·go_ret2;have h:=@PA a b (.inr (.inr (by simpa using ‹(!mD (wrap64 (a+b)))=true›)));exact⟨zK h.1 h.2,by first|rfl|trivial⟩
 ·go_ret2;have h:=agj ‹mD a=true› ‹mD b=true› ‹_›;exact⟨zK h.1 h.2,by first|rfl|trivial⟩
 ·go_ret2;have h:=@PA a b (.inr (.inl (by simpa using ‹¬mD b=true›)));exact⟨zK h.1 h.2,by first|rfl|trivial⟩
 ·go_ret2;have h:=@PA a b (.inl (by simpa using ‹¬mD a=true›));exact⟨zK h.1 h.2,by first|rfl|trivial⟩
theorem wrap_small {x:Int} (h:0≤x) (h':x<18446744073709551616):IntKind.u64.wrap x=x:=by rw[IntKind.wrap_u64];omega
theorem qW (x:Int) (h:0≤x) (h':x<18446744073709551616):bits BinOp.and IntKind.u64 x 4294967295=x%4294967296:=by
 have e:=bits_and_u64_nat x.toNat 4294967295 (by omega) (by omega)
 rw[show(4294967295:Nat)=2 ^ 32-1 from rfl,Nat.and_two_pow_sub_one_eq_mod]at e
 rw[Int.toNat_of_nonneg h]at e;refine e.trans ?_
 omega
theorem Xq (x y:Int) (h:0≤x) (h':x<18446744073709551616) (hd:x%4294967296=0) (hy:0≤y) (hy':y<4294967296):bits BinOp.or IntKind.u64 x y=x+y:=by
 have e:=bits_or_u64_nat x.toNat y.toNat (by omega) (by omega)
 rw[Int.toNat_of_nonneg h,Int.toNat_of_nonneg hy]at e;refine e.trans ?_
 obtain⟨k,hk⟩:∃k:Nat,x.toNat=2 ^ 32*k:=⟨x.toNat/4294967296,by omega⟩
 rw[hk,←Nat.two_pow_add_eq_or_of_lt (by omega)]
 omega
set_option maxHeartbeats 400000 in
theorem wD (a b:Int) (w:World) :
  Calls Tryz.prog 182 #[.int .i64 a,.int .i64 b] w fun e w'=>e=.returned (.tuple #[.int .u64 (jB a b),.int .u64 (jA a b)])∧w=w':=by
 go_enter Tryz.func182,Tryz.ntmps182
 go_wp2
 go_ret2
 have hx:=CQ a;have hy:=CQ b;have H:=akp (u64 a) (u64 b) hx.1 hx.2 hy.1 hy.2
 have e1:=PL H;have e2:=PK H;refine⟨zK ?_ ?_,by first|rfl|trivial⟩
 all_goals
  rw[show IntKind.u64.wrap a=u64 a from IntKind.wrap_u64 a,show IntKind.u64.wrap b=u64 b from IntKind.wrap_u64 b]
  rw[qW (u64 a) hx.1 hx.2,qW (u64 b) hy.1 hy.2];first|unfold jB;rw[←e1]|unfold jA;rw[←e2]
  clear e1 e2;obtain⟨-,b0,b1,b2,b3⟩:=H;generalize u64 a%4294967296*(u64 b%4294967296)=l0 at *
  generalize u64 a/4294967296*(u64 b%4294967296)=l1 at *
  generalize u64 a%4294967296*(u64 b/4294967296)=l2 at *
  generalize u64 a/4294967296*(u64 b/4294967296)=l3 at *
  simp only[wrap_small b0.1 (by omega),wrap_small b1.1 (by omega),wrap_small b2.1 (by omega),wrap_small b3.1 (by omega),qW l0 b0.1 (by omega),qW l1 b1.1 (by omega),qW l2 b2.1 (by omega)]
 ·rw[wrap_small (x:=l0/4294967296+l2%4294967296) (by omega) (by omega),wrap_small (x:=l0/4294967296+l2%4294967296+l1%4294967296) (by omega) (by omega)]
  rw[wrap_small (x:=l3+l2/4294967296) (by omega) (by omega)]
  rw[wrap_small (x:=l3+l2/4294967296+l1/4294967296) (by omega) (by omega)]
  rw[wrap_small (by omega) (by omega)]
  omega
 ·rw[wrap_small (x:=l0/4294967296+l2%4294967296) (by omega) (by omega),wrap_small (x:=l0/4294967296+l2%4294967296+l1%4294967296) (by omega) (by omega)]
  rw[IntKind.wrap_u64,Xq _ _ (by omega) (by omega) (by omega) (by omega) (by omega)]
  omega
structure Est (u d Y q r:Int):Prop where
 y:9223372036854775808≤Y∧Y<18446744073709551616
 ub:0≤u∧u<Y
 db:0≤d∧d<4294967296
 e:q*(Y/4294967296)+r=u
 qb:0≤q∧q≤4294967297
 rb:0≤r∧r<4294967296
 big:u*4294967296+d<(q+1)*Y
structure amL (u d Y q:Int):Prop where
 le:q*Y≤u*4294967296+d
 lt:u*4294967296+d<q*Y+Y
 b:0≤q∧q<4294967296
theorem amq {H y P:Int} (hP:0<P):H*P/(y*P)=H/y∧H*P%(y*P)=H%y*P:=by
 constructor
 ·exact Int.mul_ediv_mul_of_pos_left H y hP
 ·rw[Int.mul_comm H P,Int.mul_comm y P,Int.mul_emod_mul_of_pos H y hP,Int.mul_comm]
theorem ajf {a b c:World} (h:Below a.heap.size a b) (k:Below b.heap.size b c):Below a.heap.size a c:=h.trans (k.mono h.size)
theorem ame {a b:World} (h:Below a.heap.size a b) (o:Obj):Below a.heap.size a (b.alloc o):=h.alloc h.size o
theorem ajg {a b:World} (h:Below a.heap.size a b):Below a.heap.size a b.drew:=h.drew
theorem LU {a b:World} (h:Below a.heap.size a b) (n:Nat):Below a.heap.size a (b.drewN n):=below_drewN h n
def bJ (w:World) (b off:Nat) (zs:List Int):Prop:=∀i,i<zs.length→w.cell? ⟨b,off+i,none⟩=some (.int .i64 (zs.getD i 0))
def eH (zs:List Int):Prop:=∀z,z∈zs→jY z
structure Row (w:World) (k:Nat) (a:Option Addr) (n cap:Nat) (zs:List Int):Prop where
 len:zs.length=n*k
 le:n≤cap
 max:cap≤maxLen
 all:eH zs
 at_:n=0∨∃b off,a=some ⟨b,off,none⟩∧b<w.heap.size∧bJ w b off zs
theorem bJ.below {w w':World} {b off:Nat} {zs:List Int} (h:bJ w b off zs) (hb:b<w.heap.size) (g:Below w.heap.size w w'):bJ w' b off zs :=
 fun i hi=>by rw[g.cell (p:=⟨b,off+i,none⟩) hb];exact h i hi
theorem Row.below {w w':World} {k:Nat} {a:Option Addr} {n cap:Nat} {zs:List Int} (h:Row w k a n cap zs) (g:Below w.heap.size w w'):Row w' k a n cap zs:=by
 refine⟨h.len,h.le,h.max,h.all,?_⟩
 rcases h.at_ with h0|⟨b,off,e,hb,hc⟩
 ·exact .inl h0
 ·exact .inr ⟨b,off,e,Nat.lt_of_lt_of_le hb g.size,hc.below hb g⟩
theorem eH.at_ {zs:List Int} (h:eH zs) (i:Nat):jY (zs.getD i 0):=by
 rw[List.getD_eq_getElem?_getD];cases hi:zs[i]? with
 |none=>exact⟨by simp,by simp⟩
 |some z=>exact h z (List.mem_of_getElem? hi)
theorem Row.nil (w:World) (k:Nat):Row w k none 0 0 []:=⟨by simp,by omega,by omega,fun z hz=>by simp at hz,.inl rfl⟩
theorem bJ.new (w:World) (zs:List Int) (t:TypeId):bJ (w.alloc (.cells (zs.map (Value.int .i64)).toArray t)) w.heap.size 0 zs:=by
 intro i hi;rw[Nat.zero_add,World.cell?_alloc_new];simp[hi,List.getD_eq_getElem?_getD]
theorem Row.new (w:World) (k n:Nat) (zs:List Int) (t:TypeId) (hl:zs.length=n*k) (hm:n≤4611686018427387904) (ha:eH zs) :
  Row (w.alloc (.cells (zs.map (Value.int .i64)).toArray t)) k (some ⟨w.heap.size,0,none⟩) n n zs :=
 ⟨hl,Nat.le_refl _,by unfold maxLen;omega,ha,.inr ⟨_,_,rfl,by simp,bJ.new w zs t⟩⟩
theorem Row.FP {w:World} {a:Option Addr} {n cap:Nat} {zs:List Int}
  (h:(a=none∧n=0∧cap=0∧zs=[])∨∃x,a=some x∧n≤cap∧cap≤maxLen∧zs.length=cap∧(∀i,i<zs.length→w.cell? (x.add i)=some (.int .i64 (zs.getD i 0)))∧∀z∈zs,(Lit.int .i64 z).wf=true) :
  Row w 1 a n cap (zs.take n):=by
 rcases h with⟨rfl,rfl,rfl,rfl⟩|⟨x,rfl,hle,hm,hz,hc,hwf⟩
 ·exact Row.nil w 1
 ·refine⟨by simp;omega,hle,hm,fun z hzz=>XO (hwf z (List.mem_of_mem_take hzz)),?_⟩
  by_cases h0:n=0
  ·exact .inl h0
  ·refine .inr ?_
   obtain⟨b,off,spot⟩:=x;have c0:=hc 0 (by omega)
   have hs:spot=none:=by simpa[Addr.add]using World.cell?_spot c0
   subst hs;refine⟨b,off,rfl,?_,?_⟩
   ·have:=World.block_lt_of_cell? _ _ c0
    simpa[Addr.add]using this
   ·intro i hi
    simp at hi
    have ci:=hc i (by omega)
    rw[List.getD_eq_getElem?_getD,List.getElem?_take_of_lt (by omega),←List.getD_eq_getElem?_getD]
    by_cases i0:i=0
    ·subst i0;simpa[Addr.add]using ci
    ·simpa[Addr.add,i0]using ci
theorem Im (l:List Int):∀n z,bY n (l++[z])=(bY n l).bind fun m=>if fM m z then some (m+z)else none:=by
 induction l with
 |nil=>intro n z;simp[bY]
 |cons y l ih =>
  intro n z;simp only[List.cons_append,bY];by_cases h:fM n y=true
  ·simp only[h,if_true];exact ih _ _
  ·simp[h]
theorem CT {l:List Int} {k:Nat} (h:k<l.length):l.take (k+1)=l.take k++[l.getD k 0]:=by
 rw[List.take_succ_eq_append_getElem h,List.getD_eq_getElem?_getD,List.getElem?_eq_getElem h];rfl
theorem zE {l:List Int} {k:Nat} {n:Int} (h:k<l.length) (e:bY 0 (l.take k)=some n):bY 0 (l.take (k+1))=if fM n (l.getD k 0)then some (n+l.getD k 0)else none:=by
 rw[CT h,Im,e];rfl
theorem uM (l m:List Int):∀n,bY n (l++m)=(bY n l).bind fun x=>bY x m:=by
 induction l with
 |nil=>intro n;rfl
 |cons y l ih =>
  intro n;simp only[List.cons_append,bY];by_cases h:fM n y=true
  ·simp only[h,if_true];exact ih _
  ·simp[h]
theorem uL {l:List Int} {k:Nat} (e:bY 0 (l.take k)=none):bY 0 l=none:=by
 conv=>lhs;rw[←List.take_append_drop k l]
 rw[uM,e];rfl
theorem xE {a b:Int} (h:fM a b=true):-288230376151711744≤a+b∧a+b≤288230376151711744:=eP.1 (pX.1 h).2.2
theorem Cw {a b:Int} (h:fM a b=true):mW a b=a+b∧mK a b=0:=by simp[mW,mK,h]
theorem oM {a b:Int} (h:fM a b=false):mW a b=0∧mK a b=2:=by simp[mW,mK,h]
theorem PJ {a b:Int} (ha:0≤a) (ha':a≤9223372036854775807) (hb:0≤b) (hb':b≤9223372036854775807):jB a b*18446744073709551616+jA a b=a*b:=by
 rw[ado,PM ha (by omega),PM hb (by omega)]
theorem aki {a b c:Int} (h:a<0∨b<0∨c<1):zY a b c=0∧PE a b c=0∧ER a b c=1:=by simp[zY,PE,ER,h]
theorem ae8 {a b c:Int} (h:¬ (a<0∨b<0∨c<1)) (g:288230376151711744<a*b/c):zY a b c=0∧PE a b c=0∧ER a b c=2:=by simp[zY,PE,ER,h,g]
theorem ai3 {a b c:Int} (h:¬ (a<0∨b<0∨c<1)) (g:¬ 288230376151711744<a*b/c):zY a b c=a*b/c∧PE a b c=a*b%c∧ER a b c=0:=by simp[zY,PE,ER,h,g]
theorem ahA {a b c:Int} (hc:0<c) (e:jB a b*18446744073709551616+jA a b=a*b) (g:c≤jB a b):288230376151711744<a*b/c:=by
 have l:=(xG a b).1
 have h1:c*18446744073709551616≤a*b:=by omega
 have:=Int.le_ediv_of_mul_le hc (show 18446744073709551616*c≤a*b by omega)
 omega
structure Dv (N c q r:Int):Prop where
 e:q*c+r=N
 r:0≤r∧r<c
 q:0≤q∧q<18446744073709551616
theorem afE {a b c:Int} (e:jB a b*18446744073709551616+jA a b=a*b) (g:jB a b<c) (h:0≤jB a b∧jB a b<18446744073709551616) (l:0≤jA a b∧jA a b<18446744073709551616) :
  Dv (a*b/2 ^ 64) c 0 (jB a b):=by
 have p:(2:Int) ^ 64=18446744073709551616:=rfl
 refine⟨?_,by omega,by omega⟩
 rw[p,←e];omega
theorem akt {T c q r:Int} (D:Dv (T/2 ^ 0) c q r):T/c=q∧T%c=r:=by
 obtain⟨e,hr,-⟩:=D;rw[show T/2 ^ 0=T by simp]at e
 rw[←e,Int.mul_comm];constructor
 ·rw[Int.mul_add_ediv_left _ _ (by omega),Int.ediv_eq_zero_of_lt hr.1 hr.2];omega
 ·rw[Int.mul_add_emod_self_left,Int.emod_eq_of_lt hr.1 hr.2]
theorem aeL (x:Int) (h:0≤x) (h':x<9223372036854775808) (b:Int) (hb:b=0∨b=1):bits BinOp.or IntKind.u64 (x*2) b=x*2+b:=by
 have e:=bits_or_u64_nat (x*2).toNat b.toNat (by omega) (by omega)
 rw[Int.toNat_of_nonneg (by omega),Int.toNat_of_nonneg (by omega)]at e
 refine e.trans ?_
 rw[show(x*2).toNat=2 ^ 1*x.toNat by omega,←Nat.two_pow_add_eq_or_of_lt (by omega)]
 omega
theorem ahR {T c q r hi lo:Int} {j:Nat} (D:Dv (T/2 ^ (j+1)) c q r) (e:hi*18446744073709551616+lo=T) (h0:0≤T) (g:hi<c) (hl:0≤lo∧lo<18446744073709551616) (hj:j≤63) (hc:c≤9223372036854775807) :
  (c≤bits BinOp.or IntKind.u64 (r*2) (bits BinOp.and IntKind.u64 (lo/2 ^ j) 1) →
   Dv (T/2 ^ j) c (bits BinOp.or IntKind.u64 (IntKind.u64.wrap (q*2)) 1) (IntKind.u64.wrap (bits BinOp.or IntKind.u64 (r*2) (bits BinOp.and IntKind.u64 (lo/2 ^ j) 1)-c))) ∧
  (bits BinOp.or IntKind.u64 (r*2) (bits BinOp.and IntKind.u64 (lo/2 ^ j) 1)<c →
   Dv (T/2 ^ j) c (IntKind.u64.wrap (q*2)) (bits BinOp.or IntKind.u64 (r*2) (bits BinOp.and IntKind.u64 (lo/2 ^ j) 1))):=by
 obtain⟨D1,D2,D3⟩:=D;have pj:(0:Int)<2 ^ j:=Int.pow_pos (by omega)
 have pj1:(0:Int)<2 ^ (j+1):=Int.pow_pos (by omega)
 have pq:(2:Int) ^ j*2 ^ (63-j)=9223372036854775808:=by rw[←Int.pow_add,show j+(63-j)=63 by omega];rfl
 have q63:q<9223372036854775808:=by
  rcases Int.lt_or_le q 9223372036854775808 with h|h
  ·exact h
  ·exfalso
   have m:=Int.mul_le_mul_of_nonneg_right h (show 0≤c by omega)
   have n:=Int.mul_ediv_add_emod T (2 ^ (j+1))
   have n0:=Int.emod_nonneg T (show(2:Int) ^ (j+1)≠0 by omega)
   have pm:(2:Int) ^ (j+1)=2 ^ j*2:=by rw[Int.pow_succ]
   have k:=Int.mul_le_mul_of_nonneg_right (show(2:Int)≤2 ^ (j+1)by omega) (show 0≤T/2 ^ (j+1)by omega)
   omega
 have lo0:0≤lo/2 ^ j:=Int.ediv_nonneg hl.1 (by omega)
 have lo1:lo/2 ^ j≤lo:=Int.ediv_le_self _ hl.1
 have bit:bits BinOp.and IntKind.u64 (lo/2 ^ j) 1=lo/2 ^ j%2:=and_one_u64 _ lo0 (by omega)
 have N:T/2 ^ j=2*(T/2 ^ (j+1))+lo/2 ^ j%2:=by
  have a1:T/2 ^ (j+1)=T/2 ^ j/2:=by rw[Int.pow_succ,Int.ediv_ediv_of_nonneg (by omega)]
  have a2:T/2 ^ j%2=lo/2 ^ j%2:=by
   rw[←e,show hi*18446744073709551616+lo=lo+2 ^ j*(2 ^ (63-j)*2*hi)by
    rw[←Int.mul_assoc,←Int.mul_assoc,pq];omega]
   rw[Int.add_mul_ediv_left _ _ (by omega)]
   rw[show(2:Int) ^ (63-j)*2*hi=2*(2 ^ (63-j)*hi)by rw[Int.mul_comm _ 2,Int.mul_assoc]]
   rw[Int.add_mul_emod_self_left]
  rw[a1,←a2];omega
 rw[bit,aeL r D2.1 (by omega) _ (by omega),wrap_small (x:=q*2) (by omega) (by omega),aeL q D3.1 q63 1 (.inr rfl),N,←D1]
 have hm1:(q*2+1)*c=q*c*2+c:=by rw[Int.add_mul,Int.one_mul,Int.mul_assoc,Int.mul_comm 2 c,←Int.mul_assoc]
 have hm2:q*2*c=q*c*2:=by rw[Int.mul_assoc,Int.mul_comm 2 c,←Int.mul_assoc]
 constructor
 ·intro h
  rw[wrap_small (by omega) (by omega)]
  refine⟨?_,by omega,by omega⟩
  rw[hm1];omega
 ·intro h
  refine⟨?_,by omega,by omega⟩
  rw[hm2];omega
set_option maxHeartbeats 400000 in
theorem qF (a b c:Int) (w:World) (ha:jY a) (hb:jY b) (hc:jY c) :
  Calls Tryz.prog 148 #[.int .i64 a,.int .i64 b,.int .i64 c] w fun e w'=>e=.returned (.tuple #[.int .i64 (zY a b c),.int .i64 (PE a b c),.int .i64 (ER a b c)])∧w=w':=by
 obtain⟨ha,ha'⟩:=ha;obtain⟨hb,hb'⟩:=hb;obtain⟨hc,hc'⟩:=hc
 by_cases hn:a<0∨b<0∨c<1
 ·have m:=aki hn
  rw[m.1,m.2.1,m.2.2];clear m;by_cases h1:a<0
  ·clear hn
   go_enter Tryz.func148,Tryz.ntmps148
   go_wp2
   go_ret3
   exact⟨rfl,by first|rfl|trivial⟩
  ·by_cases h2:b<0
   ·clear hn
    go_enter Tryz.func148,Tryz.ntmps148
    go_wp2
    go_ret3
    exact⟨rfl,by first|rfl|trivial⟩
   ·have h3:c<1:=by omega
    clear hn;go_enter Tryz.func148,Tryz.ntmps148
    go_wp2
    go_ret3
    exact⟨rfl,by first|rfl|trivial⟩
 ·have a0:0≤a:=by omega
  have b0:0≤b:=by omega
  have c0:1≤c:=by omega
  have e:=PJ a0 ha' b0 hb';have p0:=Int.mul_nonneg a0 b0;have hb1:=CN a b;have hb2:=xG a b;by_cases g:c≤jB a b
  ·have m:=ae8 hn (ahA (by omega) e g)
   rw[m.1,m.2.1,m.2.2];clear m hn e;go_enter Tryz.func148,Tryz.ntmps148
   go_wp2_with (go_at_call 182;refine(wD _ _ _).mono ?_;rintro e w' ⟨rfl,rfl⟩)
   go_ret3
   exact⟨rfl,by first|rfl|trivial⟩
  ·have E:=Lib.hid e
   clear e;go_enter Tryz.func148,Tryz.ntmps148
   go_wp2_with (go_at_call 182;refine(wD _ _ _).mono ?_;rintro e w' ⟨rfl,rfl⟩)
   go_loop [12,13,14] (fun r q i=>∃(k:Nat) (x y:Int),k≤64∧i=.int .i64 ((k:Int)-1)∧r=.int .u64 x∧q=.int .u64 y∧Dv (a*b/2 ^ k) c y x) (fun _ _ i=>(intOf i+1).toNat)
   case atStart=>exact⟨64,_,_,by omega,rfl,rfl,rfl,afE E.out (by omega) hb1 hb2⟩
   case round =>
    obtain⟨k,r,q,hk,rfl,rfl,rfl,D⟩:=hrel;match k with
    |0 =>
     have X:=akt D;obtain⟨D1,D2,D3⟩:=D;have D1:=Lib.hid D1;have X:=Lib.hid X;go_wp2
     ·go_ret3
      have m:=ae8 hn (by rw[X.out.1];assumption)
      exact⟨aaL m.1.symm m.2.1.symm m.2.2.symm,by first|rfl|trivial⟩
     ·go_ret3
      have m:=ai3 hn (by rw[X.out.1];omega)
      exact⟨aaL (by rw[m.1,X.out.1]) (by rw[m.2.1,X.out.2]) m.2.2.symm,by first|rfl|trivial⟩
    |j+1 =>
     have ej:(((j+1:Nat):Int)-1)=(j:Int):=by omega
     rw[ej];clear ej;have X:=ahR D E.out p0 g hb2 (by omega) hc'
     have X:=Lib.hid X;obtain⟨D1,D2,D3⟩:=D;have D1:=Lib.hid D1;go_wp2
     ·refine⟨⟨j,_,_,by omega,rfl,rfl,rfl,?_⟩,by simp[intOf];try omega⟩
      exact X.out.1 (by assumption)
     ·refine⟨⟨j,_,_,by omega,rfl,rfl,rfl,?_⟩,by simp[intOf];try omega⟩
      exact X.out.2 (by assumption)
theorem Ni {v q n:Int} (hv:0≤v) (hv':v≤288230376151711744) (hq:0≤q) (hqn:q≤n) (hn:1≤n) :
  zY v q n=v*q/n∧0≤v*q/n∧v*q/n≤v:=by
 have h0:=Int.mul_nonneg hv hq;have h1:v*q/n≤v:=by
  apply Int.ediv_le_of_le_mul (by omega)
  exact Int.mul_le_mul_of_nonneg_left hqn hv
 have h2:=Int.ediv_nonneg h0 (show 0≤n by omega)
 exact⟨(ai3 (by omega) (by omega)).1,h2,h1⟩
theorem acr {v q n:Int} (h:n<1∨q<0∨q > n∨mD v=false):cA v q n=0:=by simp only[cA,if_pos h]
theorem Ry {v q n:Int} (h:¬ (n<1∨q<0∨q > n∨mD v=false)) (hv:v<0):cA v q n=-(-v*q/n):=by simp only[cA,if_neg h,if_pos hv]
theorem Rx {v q n:Int} (h:¬ (n<1∨q<0∨q > n∨mD v=false)) (hv:¬ v<0):cA v q n=v*q/n:=by simp only[cA,if_neg h,if_neg hv]
set_option maxHeartbeats 800000 in
theorem Ri (v q n:Int) (w:World) (hv:jY v) (hq:jY q) (hn:jY n) :
  Calls Tryz.prog 149 #[.int .i64 v,.int .i64 q,.int .i64 n] w fun e w'=>e=.returned (.int .i64 (cA v q n))∧w=w':=by
 by_cases h:n<1∨q<0∨q > n∨mD v=false
 ·rw[acr h]
  by_cases h1:n<1
  ·clear h
   go_enter Tryz.func149,Tryz.ntmps149
   go_wp2_with (go_at_call 144;refine(qG _ _).mono ?_;rintro e w' ⟨rfl,rfl⟩)
   go_ret
   exact⟨rfl,by first|rfl|trivial⟩
  ·by_cases h2:q<0
   ·clear h
    go_enter Tryz.func149,Tryz.ntmps149
    go_wp2_with (go_at_call 144;refine(qG _ _).mono ?_;rintro e w' ⟨rfl,rfl⟩)
    go_ret
    exact⟨rfl,by first|rfl|trivial⟩
   ·by_cases h3:n<q
    ·clear h
     go_enter Tryz.func149,Tryz.ntmps149
     go_wp2_with (go_at_call 144;refine(qG _ _).mono ?_;rintro e w' ⟨rfl,rfl⟩)
     go_ret
     exact⟨rfl,by first|rfl|trivial⟩
    ·have h4:mD v=false:=by rcases h with h|h|h|h<;>first|exact h|omega
     clear h;go_enter Tryz.func149,Tryz.ntmps149
     go_wp2_with (go_at_call 144;refine(qG _ _).mono ?_;rintro e w' ⟨rfl,rfl⟩)
     go_ret
     exact⟨rfl,by first|rfl|trivial⟩
 ·have h1:¬ n<1:=by omega
  have h2:¬ q<0:=by omega
  have h3:¬ n<q:=by omega
  have h4:mD v=true:=by cases g:mD v with|true=>rfl|false=>exact absurd (Or.inr (Or.inr (Or.inr g))) h
  have b:=eP.1 h4;by_cases hneg:v<0
  ·rw[Ry h hneg]
   have P:=Ni (show 0≤-v by omega) (show -v≤288230376151711744 by omega) (show 0≤q by omega) (show q≤n by omega) (by omega)
   obtain⟨P1,P2,P3⟩:=P;have P1:=Lib.hid P1;clear h;have hv1:=hv.lo;have hv2:=hv.hi
   go_enter Tryz.func149,Tryz.ntmps149
   go_wp2_with (first|(go_at_call 144;refine(qG _ _).mono ?_;rintro e w' ⟨rfl,rfl⟩)|(go_at_call 148;refine(qF _ _ _ _ ⟨by omega,by omega⟩ hq hn).mono ?_;rw[P1.out];rintro e w' ⟨rfl,rfl⟩))
   go_ret
   exact⟨rfl,by first|rfl|trivial⟩
  ·rw[Rx h hneg]
   have P:=Ni (show 0≤v by omega) b.2 (show 0≤q by omega) (show q≤n by omega) (by omega)
   obtain⟨P1,P2,P3⟩:=P;have P1:=Lib.hid P1;clear h;go_enter Tryz.func149,Tryz.ntmps149
   go_wp2_with (first|(go_at_call 144;refine(qG _ _).mono ?_;rintro e w' ⟨rfl,rfl⟩)|(go_at_call 148;refine(qF _ _ _ _ hv hq hn).mono ?_;rw[P1.out];rintro e w' ⟨rfl,rfl⟩))
   go_ret
   exact⟨rfl,by first|rfl|trivial⟩
theorem adA {zs:List Int} {k:Nat} {m:Int} (h:k<zs.length) (H:bY 0 (zs.take k)=some m) (e:fM m (zs.getD k 0)=false):dU zs=0∧eI zs=2:=by
 have t:=zE h H;rw[e]at t;have:=uL t
 simp[dU,eI,this]
theorem adB {zs:List Int} {m:Int} (H:bY 0 (zs.take zs.length)=some m):dU zs=m∧eI zs=0:=by
 rw[List.take_length]at H;simp[dU,eI,H]
set_option maxHeartbeats 800000 in
theorem Oj (a:Option Addr) (n cap:Nat) (zs:List Int) (w:World) (h:Row w 1 a n cap zs) :
  Calls Tryz.prog 81 #[.slice a n cap] w fun e w'=>e=.returned (.tuple #[.int .i64 (dU zs),.int .i64 (eI zs)])∧w=w':=by
 obtain⟨hl,hcap,hmax,hall,hat⟩:=h;unfold maxLen at hmax;have hl:zs.length=n:=by omega
 obtain rfl:zs.length=n:=hl
 clear hl;go_enter Tryz.func81,Tryz.ntmps81
 go_wp2
 go_loop [4,5] (fun s i=>∃(k:Nat) (m:Int),k≤zs.length∧i=.int .i64 k∧s=.int .i64 m∧Hid (bY 0 (zs.take k)=some m)) (fun _ i=>zs.length-(intOf i).toNat)
 case atStart=>exact⟨0,0,by omega,rfl,rfl,rfl⟩
 case round =>
  obtain⟨k,m,hk,rfl,rfl,H⟩:=hrel;by_cases hlt:k<zs.length
  ·obtain⟨b,off,rfl,hb,hc⟩:∃b off,a=some ⟨b,off,none⟩∧b<w.heap.size∧bJ w b off zs:=by
    rcases hat with h0|h0
    ·omega
    ·exact h0
   have hcell:=hc k hlt;have hz:=hall.at_ k;have hlt':(k:Int)<(zs.length:Int):=by omega
   clear hc hat;generalize hgz:zs.getD k 0=z at *
   have Hgz:=Lib.hid hgz;clear hgz;by_cases hok:fM m z=true
   ·have hv:=Cw hok
    have hbd:=xE hok;have hv:=Lib.hid hv;go_wp2_with (go_at_call 83;refine(xN _ _ _).mono ?_;rw[hv.out.1,hv.out.2];rintro e w' ⟨rfl,rfl⟩)
    go_round
    case rel =>
     refine⟨k+1,_,by omega,by go_num,rfl,?_⟩
     have t:=zE hlt H.out;rw[Hgz.out,hok]at t;exact t
    case measure=>simp[intOf];omega
   ·have hok:fM m z=false:=by simpa using hok
    have hv:=oM hok;have hv:=Lib.hid hv;have S:=adA hlt H.out (by rw[Hgz.out];exact hok)
    go_wp2_with (go_at_call 83;refine(xN _ _ _).mono ?_;rw[hv.out.1,hv.out.2];rintro e w' ⟨rfl,rfl⟩)
    go_ret2
    first|exact⟨zK S.1.symm S.2.symm,by first|rfl|trivial⟩|exact⟨rfl,by first|rfl|trivial⟩
  ·obtain rfl:k=zs.length:=by omega
   have S:=adB H.out;have hlt':¬ (zs.length:Int)<(zs.length:Int):=by omega
   go_wp2
   go_ret2
   first|exact⟨zK S.1.symm S.2.symm,by first|rfl|trivial⟩|exact⟨rfl,by first|rfl|trivial⟩
def ints (zs:List Int):List Value:=zs.map (Value.int .i64)
theorem ET (l m:List Int):ints (l++m)=ints l++ints m:=List.map_append
theorem wU (l:List Int):(ints l).length=l.length:=List.length_map ..
theorem uB (l:List Int) (i:Nat):(ints l)[i]?=(l[i]?).map (Value.int .i64):=List.getElem?_map ..
structure agp (P:Program) (t e:TypeId) (size:Nat):Prop where
 slice:P.underlying t=some (.slice e)
 info:∃(i:TypeInfo) (z:Value),P.info? e=some i∧i.zero=some z∧i.size=size∧i.bytes=size*8∧z.cells.size=size
 pos:0<size
def dK (w:World) (base:Nat) (e:TypeId) (k:Nat) (v:Value) (n:Nat) (zs:List Int):Prop:=w.ownsRow base e k v n (ints zs)
theorem dK.nil (w:World) (base:Nat) (e:TypeId) (k:Nat):dK w base e k (.slice none 0 0) 0 []:=World.ownsRow_nil _ _ _ _
theorem dK.alloc {w:World} {base:Nat} {e:TypeId} {k:Nat} {v:Value} {n:Nat} {zs:List Int} (h:dK w base e k v n zs) (o:Obj):dK (w.alloc o) base e k v n zs:=World.ownsRow.alloc h o
theorem dK.drew {w:World} {base:Nat} {e:TypeId} {k:Nat} {v:Value} {n:Nat} {zs:List Int} (h:dK w base e k v n zs):dK w.drew base e k v n zs:=h
theorem dK.below {w w':World} {base:Nat} {e:TypeId} {k:Nat} {v:Value} {n:Nat} {zs:List Int} (h:dK w base e k v n zs) (g:Below w.heap.size w w'):dK w' base e k v n zs:=by
 obtain⟨h1,h2⟩:=h;refine⟨h1,?_⟩
 rcases h2 with h2|⟨b,cap,cur,hv,hb,hh,r⟩
 ·exact .inl h2
 ·refine .inr ⟨b,cap,cur,hv,hb,?_,r⟩
  have:b<w.heap.size:=by
   rcases Nat.lt_or_ge b w.heap.size with h|h
   ·exact h
   ·rw[Array.getElem?_eq_none h]at hh;cases hh
  rw[g.block b this];exact hh
theorem dK.len {w:World} {base:Nat} {e:TypeId} {k:Nat} {v:Value} {n:Nat} {zs:List Int} (h:dK w base e k v n zs):zs.length=n*k:=by
 have:=h.1;rwa[wU]at this
theorem dK.row {w:World} {base:Nat} {e:TypeId} {k:Nat} {v:Value} {n:Nat} {zs:List Int} (h:dK w base e k v n zs) (ha:eH zs) :
  ∃a cap,v=.slice a n cap∧Row w k a n cap zs:=by
 have hl:=h.len;obtain⟨h1,h2⟩:=h;rcases h2 with⟨rfl,rfl⟩|⟨b,cap,cur,rfl,hb,hh,hn,hc,hs,ht⟩
 ·exact⟨_,_,rfl,hl,Nat.le_refl _,by omega,ha,.inl rfl⟩
 ·refine⟨_,_,rfl,hl,hn,hc,ha,.inr ⟨b,0,rfl,?_,?_⟩⟩
  ·rcases Nat.lt_or_ge b w.heap.size with h|h
   ·exact h
   ·rw[Array.getElem?_eq_none h]at hh;cases hh
  ·intro i hi
   have c:=World.ownsRow.cellAt (w:=w) (base:=base) (e:=e) (size:=k) (g:=b) (n:=n) (cap:=cap) (xs:=ints zs) ⟨h1,.inr ⟨b,cap,cur,rfl,hb,hh,hn,hc,hs,ht⟩⟩ i (by omega)
   rw[Nat.zero_add,c,uB,List.getElem?_eq_getElem hi,List.getD_eq_getElem?_getD,List.getElem?_eq_getElem hi];rfl
theorem Row.cells {w:World} {k:Nat} {ad:Addr} {n cap:Nat} {zs:List Int} (h:Row w k (some ad) n cap zs):∀j u,(ints zs)[j]?=some u→w.cell? (ad.add j)=some u:=by
 intro j u hj;rw[uB]at hj;have hlt:j<zs.length:=by
  rcases Nat.lt_or_ge j zs.length with h|h
  ·exact h
  ·rw[List.getElem?_eq_none h]at hj;cases hj
 rcases h.at_ with h0|⟨b,off,e,hb,hc⟩
 ·have:=h.len
  rw[h0]at this;omega
 ·cases e
  have:=hc j hlt
  rw[List.getElem?_eq_getElem hlt]at hj;rw[List.getD_eq_getElem?_getD,List.getElem?_eq_getElem hlt]at this;simp only[Option.map_some,Option.some.injEq]at hj;subst hj;by_cases h0:j=0
  ·subst h0;simpa[Addr.add]using this
  ·simpa[Addr.add,h0]using this
theorem dK.empty (w:World) (base:Nat) (e:TypeId) (k:Nat) (h:base≤w.heap.size):dK (w.alloc (.cells #[] e)) base e k (.slice (some ⟨w.heap.size,0,none⟩) 0 0) 0 [] :=
 World.ownsRow_lit w #[] 0 h (by unfold maxLen;omega) (by simp)
section
variable {P:Program}
theorem rQ (w:World) {ops:Array Oper} {rest:List Oper} {o:Oper} {a:Act} {Q:Exit→Act→World→Prop} (hgd:o.guard=none) (s x:Operand) (t:TypeId)
  (ho:o.op=.call { callee:=.builtin .append,args:=#[s,x],argTypes:=#[t,t] })
  (base:Nat) (e:TypeId) (size:Nat) (E:agp P t e size)
  (v:Value) (n:Nat) (zs:List Int) (hs:a.eval s=v) (hown:dK w base e size v n zs)
  (b off c:Nat) (ns:List Int) (hx:a.eval x=.slice (some ⟨b,off,none⟩) 1 c) (hl:ns.length=size) (hc:bJ w b off ns)
  (hn:(n+1)*(size*8)≤140737488355328) (hbase:base≤w.heap.size)
  (h:∀v' w',dK w' base e size v' (n+1) (zs++ns)→Below base w w'→wpList P ops Q rest (a.put o.dst v') w'):wpList P ops Q (o::rest) a w:=by
 obtain⟨ht,⟨i,z,hi,hz,hsize,hby,hzs⟩,hp⟩:=E
 have h8:n+1≤(n+1)*(size*8):=Nat.le_mul_of_pos_right _ (by omega)
 refine wpList_append_own w hgd s x t ho base e i z size (size*8) ht hi hz hsize hby hzs hp v n (ints zs) hs hown ⟨b,off,none⟩ 1 c (ints ns) hx (by rw[wU];omega) ?_ ?_ (by unfold maxLen;omega) hn hbase ?_
 ·intro j u hj
  rw[uB]at hj;have hlt:j<ns.length:=by
   rcases Nat.lt_or_ge j ns.length with h|h
   ·exact h
   ·rw[List.getElem?_eq_none h]at hj;cases hj
  have:=hc j hlt
  rw[List.getElem?_eq_getElem hlt]at hj;rw[List.getD_eq_getElem?_getD,List.getElem?_eq_getElem hlt]at this;simp only[Option.map_some,Option.some.injEq]at hj;subst hj;by_cases h0:j=0
  ·subst h0;simpa[Addr.add]using this
  ·simpa[Addr.add,h0]using this
 ·intro u hu
  simp only[ints,List.mem_map]at hu;obtain⟨y,-,rfl⟩:=hu;rfl
 ·intro v' w' hown' hg _
  refine h v' w' ?_ ?_
  ·rw[dK,ET];exact hown'
  ·have hlt:=World.ownsRow.lt hown
   exact(Below.refl base w).grown hg hbase fun k hk=>(hlt k hk).1
end
end
section
theorem Lx:agp Tryz.prog 158 101 3:=by
 refine⟨by kernel_rfl,?_,by decide⟩
 obtain⟨i,h1,h2,h3,h4⟩:=info_parts (P:=Tryz.prog) (e:=101) (z:=.agg #[.int .i64 0,.int .i64 0,.int .i64 0]) (size:=3) (bytes:=24) (by kernel_rfl)
 exact⟨i,_,h1,h2,h3,h4,rfl⟩
theorem acP:agp Tryz.prog 36 44 2:=by
 refine⟨by kernel_rfl,?_,by decide⟩
 obtain⟨i,h1,h2,h3,h4⟩:=info_parts (P:=Tryz.prog) (e:=44) (z:=.agg #[.int .i64 0,.int .i64 0]) (size:=2) (bytes:=16) (by kernel_rfl)
 exact⟨i,_,h1,h2,h3,h4,rfl⟩
theorem Ly:agp Tryz.prog 22 3 1:=by
 refine⟨by kernel_rfl,?_,by decide⟩
 obtain⟨i,h1,h2,h3,h4⟩:=info_parts (P:=Tryz.prog) (e:=3) (z:=.int .i64 0) (size:=1) (bytes:=8) (by kernel_rfl)
 exact⟨i,_,h1,h2,h3,h4,rfl⟩
section
variable {P:Program} {Q:Exit→Act→World→Prop}
def upd (u:Nat→Value) (i:Nat) (v:Value):Nat→Value:=fun j=>if j=i then v else u j
theorem adq (u:Nat→Value) (i:Nat) (v:Value):upd u i v i=v:=by simp[upd]
theorem CP (u:Nat→Value) {i j:Nat} (v:Value) (h:j≠i):upd u i v j=u j:=by simp[upd,h]
def vK (ops:Array Oper) (i:Nat):List Nat:=((ops[i]?).map fun o=>(o.after.toList.filter (Region.binds .any)).map (·.on)).getD []
def AS (ops:Array Oper):Bool:=(List.range ops.size).all fun i=>((ops[i]?).map fun o=>o.guard.isNone).getD false&&(vK ops i).all (fun j=>decide (j<i))
theorem acB {ops:Array Oper} {i:Nat} {o:Oper} (ho:ops[i]?=some o) {e:Edge} (he:e∈o.after) (hb:Region.binds .any e=true):e.on∈vK ops i:=by
 simp only[vK,ho,Option.map_some,Option.getD_some,List.mem_map,List.mem_filter];exact⟨e,⟨by simpa using he,hb⟩,rfl⟩
def lL (ops:Array Oper):Nat→Nat→List Nat
 |0,_=>[]
 |n+1,i=>vK ops i++(vK ops i).flatMap (lL ops n)
theorem zU {ops:Array Oper} {listed:Array Bool} (down:∀i,listed.getD i false=true→∀j,j∈vK ops i→listed.getD j false=true) :
  ∀n i,listed.getD i false=true→∀j,j∈lL ops n i→listed.getD j false=true:=by
 intro n;induction n with
 |zero=>intro i _ j hj;simp[lL]at hj
 |succ n ih =>
  intro i hi j hj;simp only[lL,List.mem_append,List.mem_flatMap]at hj;rcases hj with hj|⟨k,hk,hj⟩
  ·exact down i hi j hj
  ·exact ih k (down i hi k hk) j hj
theorem Fa {ops:Array Oper} {listed:Array Bool} (down:∀i,listed.getD i false=true→∀j,j∈vK ops i→listed.getD j false=true) {i:Nat} (hp:∀j,j∈vK ops i→listed.getD j false=true) :
  ∀n,∀j,j∈lL ops n i→listed.getD j false=true:=by
 intro n;cases n with
 |zero=>intro j hj;simp[lL]at hj
 |succ n =>
  intro j hj;simp only[lL,List.mem_append,List.mem_flatMap]at hj;rcases hj with hj|⟨k,hk,hj⟩
  ·exact hp j hj
  ·exact zU down n k (hp k hk) j hj
structure Mid (ops:Array Oper) (fr:(Nat→Value)→Act) (u0:Nat→Value) (Φ:Nat→(Nat→Value)→World→Prop) (S:(Nat→Bool)→World→Prop) (listed:Array Bool) (a:Act) (w:World):Prop where
 size:listed.size=ops.size
 down:∀i,listed.getD i false=true→∀j,j∈vK ops i→listed.getD j false=true
 u:∃u:Nat→Value,a=fr u∧(∀i,listed.getD i false=true→Φ i u w)∧(∀i,i<ops.size→listed.getD i false=false→u i=u0 i)
 s:S (fun i=>listed.getD i false) w
theorem A0 {l:Array Bool} {i j:Nat} (hi:i<l.size):(l.setIfInBounds i true).getD j false=if i=j then true else l.getD j false:=by
 by_cases h:i=j
 ·subst h;simp[hi]
 ·simp[Array.getElem?_setIfInBounds_ne h,h]
theorem count_set {l:Array Bool} {i:Nat} (hi:i<l.size) (hf:l.getD i true=false):(l.setIfInBounds i true).toList.count false+1=l.toList.count false:=by
 rw[Array.toList_setIfInBounds];have hi':i<l.toList.length:=by simpa using hi
 have e:l.toList[i]=false:=by
  have:l[i]=false:=by simpa[hi]using hf
  simpa using this
 have h2:∀(m:List Bool) (i:Nat) (h:i<m.length),m[i]=false→(m.set i true).count false+1=m.count false:=by
  intro m;induction m with
  |nil=>intro i h;simp at h
  |cons b m ih =>
   intro i h hb;cases i with
   |zero=>simp at hb;subst hb;simp
   |succ i =>
    have:=ih i (by simpa using h) (by simpa using hb)
    simp only[List.set_cons_succ,List.count_cons];omega
 exact h2 _ _ hi' e
def amK (D:Nat) (P:Program) (ops:Array Oper) (fr:(Nat→Value)→Act) (u0:Nat→Value) (Φ:Nat→(Nat→Value)→World→Prop) (S:(Nat→Bool)→World→Prop) (Q:Exit→Act→World→Prop) (i:Nat):Prop :=
 ∀o,ops[i]?=some o→∀(u:Nat→Value) (w:World) (L:Nat→Bool),S L w→L i=false→(∀j∈lL ops D i,L j=true)→(∀j∈lL ops D i,Φ j u w)→(∀j,j<ops.size→i∈lL ops D j→u j=u0 j)→u i=u0 i →
  ∀K:Act→World→Prop,(∀v w',Φ i (upd u i v) w'→S (fun k=>if k=i then true else L k) w'→(∀j x,j≠i→Φ j x w→Φ j x w')→K ((fr u).put o.dst v) w')→o.wp P (fr u) w K Q
theorem Na {ops:Array Oper} {listed:Array Bool} {i:Nat} (h:i∈Region.ready .any ops listed) :
  i<ops.size∧listed.getD i true=false∧∀o,ops[i]?=some o→∀e∈o.after,Region.binds .any e=true→listed.getD e.on false=true:=by
 obtain⟨h1,o,ho,h2⟩:=mem_ready.1 h;have hi:i<ops.size:=by
  rcases Nat.lt_or_ge i ops.size with g|g
  ·exact g
  ·rw[Array.getElem?_eq_none g]at ho;cases ho
 refine⟨hi,h1,fun o' ho' e he hb=>?_⟩
 rw[ho]at ho';cases ho';exact h2 e he hb
theorem wpAny_all (D:Nat) {ops:Array Oper} {fr:(Nat→Value)→Act} {u0:Nat→Value} {Φ:Nat→(Nat→Value)→World→Prop} {S:(Nat→Bool)→World→Prop}
  (hw:AS ops=true)
  (hput:∀i o u v,ops[i]?=some o→(fr u).put o.dst v=fr (upd u i v))
  (hdep:∀j u u' w,(∀k,k=j∨k∈lL ops D j→u k=u' k)→Φ j u w→Φ j u' w)
  (duty:∀i,i<ops.size→amK D P ops fr u0 Φ S Q i)
  (fin:∀u w L,S L w→(∀i,i<ops.size→L i=true)→(∀i,i<ops.size→Φ i u w)→Q .normal (fr u) w) :
  ∀(fuel:Nat) (listed:Array Bool) (a:Act) (w:World),listed.toList.count false≤fuel→Mid ops fr u0 Φ S listed a w→wpAny P .any ops Q fuel listed a w:=by
 have hwell:∀i,i<ops.size→(∀o,ops[i]?=some o→o.guard=none)∧∀j∈vK ops i,j<i:=by
  intro i hi;have h:=List.all_eq_true.1 hw i (List.mem_range.2 hi)
  simp only[Bool.and_eq_true]at h;refine⟨fun o ho=>?_,fun j hj=>by simpa using List.all_eq_true.1 h.2 j hj⟩
  have h1:=h.1;rw[ho]at h1;simpa using h1
 have done:∀listed a w,Region.ready .any ops listed=[]→Mid ops fr u0 Φ S listed a w→Q .normal a w:=by
  intro listed a w hr hm;have all:∀n i,i<n→i<ops.size→listed.getD i false=true:=by
   intro n;induction n with
   |zero=>intro i h;omega
   |succ n ih =>
    intro i hin hi;cases hl:listed.getD i false with
    |true=>rfl
    |false =>
     exfalso
     have hmem:i∈Region.ready .any ops listed:=by
      refine mem_ready.2 ⟨?_,ops[i],by simp[hi],fun e he hb=>?_⟩
      ·have:i<listed.size:=by rw[hm.size];exact hi
       simp[this]at hl ⊢
       exact hl
      ·have hp:=acB (ops:=ops) (i:=i) (by simp[hi]) he hb
       exact ih e.on (by have:=(hwell i hi).2 _ hp;omega) (by have:=(hwell i hi).2 _ hp;omega)
     rw[hr]at hmem;cases hmem
  obtain⟨u,rfl,hu,-⟩:=hm.u;exact fin u w _ hm.s (fun i hi=>all (i+1) i (by omega) hi) fun i hi=>hu i (all (i+1) i (by omega) hi)
 intro fuel;induction fuel with
 |zero =>
  intro listed a w hc hm;have hr:Region.ready .any ops listed=[]:=by
   cases hr:Region.ready .any ops listed with
   |nil=>rfl
   |cons i r =>
    exfalso
    have hi:=Na (ops:=ops) (listed:=listed) (i:=i) (by rw[hr];exact List.mem_cons_self)
    have:=count_set (l:=listed) (i:=i) (by rw[hm.size];exact hi.1) hi.2.1
    omega
  exact⟨hr,done listed a w hr hm⟩
 |succ fuel ih =>
  intro listed a w hc hm;refine⟨fun hr=>done listed a w hr hm,fun i hi=>?_⟩
  obtain⟨hlt,hf,hpre⟩:=Na hi;have hls:i<listed.size:=by rw[hm.size];exact hlt
  have hff:listed.getD i false=false:=by simp[hls]at hf ⊢;exact hf
  have ho:ops[i]?=some ops[i]:=by simp[hlt]
  obtain⟨u,rfl,hu,hn⟩:=hm.u;have hpre':∀j∈vK ops i,listed.getD j false=true:=by
   intro j hj;simp only[vK,ho,Option.map_some,Option.getD_some,List.mem_map,List.mem_filter]at hj;obtain⟨e,⟨he,hb⟩,rfl⟩:=hj
   exact hpre _ ho e (by simpa using he) hb
  unfold wpOp;simp only[ho];have hg:=(hwell i hlt).1 _ ho
  have hwant:Region.wanted ops[i] (yielded ops (fr u).tmps)=true:=by simp[Region.wanted,hg]
  rw[if_pos hwant];refine .inl ?_
  refine duty i hlt _ ho u w _ hm.s hff (fun j hj=>Fa hm.down hpre' D j hj) (fun j hj=>hu j (Fa hm.down hpre' D j hj)) (fun j hj hij=>?_) (hn i hlt hff) _ ?_
  ·refine hn j hj ?_
   cases hl:listed.getD j false with
   |false=>rfl
   |true=>exact absurd (zU hm.down D j hl i hij) (by rw[hff];simp)
  ·intro v w' hΦ hS hst
   refine ih _ _ _ ?_ ⟨?_,?_,⟨upd u i v,hput i _ u v ho,?_,?_⟩,?_⟩
   ·have:=count_set hls hf
    omega
   ·simpa using hm.size
   ·intro k hk j hj
    rw[A0 hls]at hk ⊢;by_cases hij:i=j
    ·simp[hij]
    ·rw[if_neg hij]
     by_cases hik:i=k
     ·subst hik;exact hpre' j hj
     ·rw[if_neg hik]at hk;exact hm.down k hk j hj
   ·intro k hk
    rw[A0 hls]at hk;by_cases hik:k=i
    ·subst hik;exact hΦ
    ·rw[if_neg (fun e=>hik e.symm)]at hk
     refine hst k _ hik (hdep k u _ w (fun m hm'=>(CP u v ?_).symm) (hu k hk))
     rintro rfl
     rcases hm' with hm'|hm'
     ·exact hik hm'.symm
     ·have:=zU hm.down D k hk _ hm'
      rw[hff]at this;cases this
   ·intro k hk hkf
    rw[A0 hls]at hkf;by_cases hik:k=i
    ·subst hik;simp at hkf
    ·rw[if_neg (fun e=>hik e.symm)]at hkf
     simp only[upd,if_neg hik];exact hn k hk hkf
   ·have e:(fun k=>(listed.setIfInBounds i true).getD k false)=(fun k=>if k=i then true else listed.getD k false):=by
     funext k
     rw[A0 hls];by_cases hk:i=k
     ·simp[hk]
     ·rw[if_neg hk,if_neg (fun e=>hk e.symm)]
    rw[e];exact hS
def kQ (a:Act):List (Option Tmp)→Nat→(Nat→Value)→Act
 |[],_,_=>a
 |d::ds,k,u=>kQ (a.put d (u k)) ds (k+1) u
theorem ad6 (a:Act) (d:Tmp) (v v':Value):(a.put (some d) v).put (some d) v'=a.put (some d) v':=by
 simp[Act.put]
def kL:List (Option Tmp)→Bool
 |[]=>true
 |d::ds=>(d.isNone||!ds.contains d)&&kL ds
theorem Ol (ds:List (Option Tmp)):∀(a:Act) (k:Nat) (u:Nat→Value) (d:Option Tmp) (v:Value),(d=none∨d ∉ ds)→kQ (a.put d v) ds k u=(kQ a ds k u).put d v:=by
 induction ds with
 |nil=>intro a k u d v _;rfl
 |cons x ds ih =>
  intro a k u d v h;simp only[kQ];have hx:(a.put d v).put x (u k)=(a.put x (u k)).put d v:=by
   rcases h with rfl|h
   ·rfl
   ·exact Act.put_comm a v (u k) (fun y hy e=>h (by rw[hy,←e];exact List.mem_cons_self))
  rw[hx];exact ih _ _ _ _ _ (h.imp id fun h m=>h (List.mem_cons_of_mem _ m))
theorem ad4 (ds:List (Option Tmp)) (hd:kL ds=true):∀(a:Act) (k:Nat) (u:Nat→Value) (i:Nat) (d:Option Tmp) (v:Value),ds[i]?=some d→(kQ a ds k u).put d v=kQ a ds k (upd u (k+i) v):=by
 have far:∀(ds:List (Option Tmp)) (a:Act) (k:Nat) (u:Nat→Value) (i:Nat) (v:Value),i<k→kQ a ds k (upd u i v)=kQ a ds k u:=by
  intro ds;induction ds with
  |nil=>intro a k u i v _;rfl
  |cons x ds ih =>
   intro a k u i v h;simp only[kQ];rw[CP u v (by omega),ih _ _ _ _ _ (by omega)]
 induction ds with
 |nil=>intro a k u i d v h;simp at h
 |cons x ds ih =>
  intro a k u i d v h;simp only[kL,Bool.and_eq_true]at hd;cases i with
  |zero =>
   simp only[List.getElem?_cons_zero,Option.some.injEq]at h;subst h;simp only[kQ,Nat.add_zero];rw[adq,far _ _ _ _ _ _ (by omega)]
   have hx:x=none∨x ∉ ds:=by
    have:=hd.1;cases x with
    |none=>exact .inl rfl
    |some y=>right;simpa using this
   rw[←Ol ds _ _ _ _ _ hx];congr 1
   cases x with
   |none=>rfl
   |some y=>exact ad6 _ _ _ _
  |succ i =>
   simp only[List.getElem?_cons_succ]at h;simp only[kQ];rw[ih hd.2 _ _ _ _ _ _ h,CP u v (by omega),show k+1+i=k+(i+1)by omega]
def zF (a:Act) (ds:List (Option Tmp)) (k:Nat):Value:=match ds[k]? with|some (some d)=>a.tmps.getD d undef|_=>undef
theorem ad5 (a:Act) (d:Tmp):a.put (some d) (a.tmps.getD d undef)=a:=by
 obtain⟨t,df⟩:=a;simp only[Act.put,Act.mk.injEq,and_true];rcases Nat.lt_or_ge d t.size with h|h
 ·apply Array.ext
  ·simp
  ·intro i h1 h2
   rw[Array.getElem_setIfInBounds (by simpa using h1)]
   split
   ·rename_i e;subst e;simp
   ·rfl
 ·exact Array.setIfInBounds_eq_of_size_le h
theorem ack (a:Act):∀(ds:List (Option Tmp)) (k:Nat) (u:Nat→Value),(∀i d,ds[i]?=some (some d)→u (k+i)=a.tmps.getD d undef)→kQ a ds k u=a:=by
 intro ds;induction ds with
 |nil=>intro k u _;rfl
 |cons x ds ih =>
  intro k u h;simp only[kQ];have hx:a.put x (u k)=a:=by
   cases x with
   |none=>rfl
   |some d=>rw[show u k=a.tmps.getD d undef from h 0 d rfl];exact ad5 a d
  rw[hx];exact ih (k+1) u fun i d hi=>by rw[show k+1+i=k+(i+1)by omega];exact h (i+1) d hi
theorem Rn (a:Act) (ds:List (Option Tmp)):kQ a ds 0 (zF a ds)=a:=by
 refine ack a ds 0 _ fun i d hi=>?_
 simp only[Nat.zero_add,zF,hi]
theorem CZ (ds:List (Option Tmp)):∀(a:Act) (k:Nat) (u:Nat→Value),(kQ a ds k u).tmps.size=a.tmps.size:=by
 induction ds with
 |nil=>intro a k u;rfl
 |cons x ds ih =>
  intro a k u;simp only[kQ];rw[ih];cases x<;>simp[Act.put]
theorem nU (ds:List (Option Tmp)):∀(a:Act) (k:Nat) (u:Nat→Value) (t:Nat),ds.contains (some t)=false→(kQ a ds k u).eval (.tmp t)=a.eval (.tmp t):=by
 induction ds with
 |nil=>intro a k u t _;rfl
 |cons x ds ih =>
  intro a k u t h;simp only[List.contains_cons,Bool.or_eq_false_iff]at h;simp only[kQ];rw[ih _ _ _ _ h.2];refine Act.eval_put fun d hd e=>?_
  cases e;subst hd;simp at h
theorem uU (ds:List (Option Tmp)):∀(a:Act) (k:Nat) (u:Nat→Value) (i:Nat) (t:Nat),kL ds=true→ds[i]?=some (some t)→t<a.tmps.size→(kQ a ds k u).eval (.tmp t)=u (k+i):=by
 induction ds with
 |nil=>intro a k u i t _ h;simp at h
 |cons x ds ih =>
  intro a k u i t hd h ht;simp only[kL,Bool.and_eq_true]at hd;simp only[kQ];cases i with
  |zero =>
   simp only[List.getElem?_cons_zero,Option.some.injEq]at h;subst h;rw[nU _ _ _ _ _ (by simpa using hd.1)]
   simp[Act.put,Act.eval,ht]
  |succ i =>
   rw[ih _ _ _ i t hd.2 (by simpa using h) (by cases x<;>simpa[Act.put]using ht)]
   congr 1
   omega
def agq (D:Nat) (P:Program) (ops:Array Oper) (fr:(Nat→Value)→Act) (u0:Nat→Value) (Φ:Nat→(Nat→Value)→World→Prop) (S:(Nat→Bool)→World→Prop) (Q:Exit→Act→World→Prop) (i:Nat) (o:Oper):Prop :=
 ∀(u:Nat→Value) (w:World) (L:Nat→Bool),S L w→L i=false→(∀j∈lL ops D i,L j=true)→(∀j∈lL ops D i,Φ j u w)→(∀j,j<ops.size→i∈lL ops D j→u j=u0 j) →
  ∀K:Act→World→Prop,(∀v w',Φ i (upd u i v) w'→S (fun k=>if k=i then true else L k) w'→(∀j x,j≠i→Φ j x w→Φ j x w')→K ((fr u).put o.dst v) w')→o.wp P (fr u) w K Q
def PB (D:Nat) (P:Program) (ops:Array Oper) (fr:(Nat→Value)→Act) (u0:Nat→Value) (Φ:Nat→(Nat→Value)→World→Prop) (S:(Nat→Bool)→World→Prop) (Q:Exit→Act→World→Prop):List Oper→Nat→Prop
 |[],_=>True
 |o::r,k=>agq D P ops fr u0 Φ S Q k o∧PB D P ops fr u0 Φ S Q r (k+1)
theorem acQ {D:Nat} {ops:Array Oper} {fr:(Nat→Value)→Act} {u0:Nat→Value} {Φ:Nat→(Nat→Value)→World→Prop} {S:(Nat→Bool)→World→Prop} :
  ∀(l:List Oper) (k i:Nat) (o:Oper),PB D P ops fr u0 Φ S Q l k→l[i]?=some o→agq D P ops fr u0 Φ S Q (k+i) o:=by
 intro l;induction l with
 |nil=>intro k i o _ h;simp at h
 |cons x l ih =>
  intro k i o hd h;cases i with
  |zero=>simp only[List.getElem?_cons_zero,Option.some.injEq]at h;subst h;exact hd.1
  |succ i =>
   have:=ih (k+1) i o hd.2 (by simpa using h)
   rw[show k+(i+1)=k+1+i by omega];exact this
theorem Mn (D:Nat) {id:Nat} {l:List Oper} {a:Act} {w:World} (ds:List (Option Tmp)) (Φ:Nat→(Nat→Value)→World→Prop) (S:(Nat→Bool)→World→Prop)
  (hm:P.follows .mixedOrders=true) (hw:AS l.toArray=true) (hds:l.map (·.dst)=ds) (hd:kL ds=true) (hs:S (fun _=>false) w.drew)
  (hdep:∀j u u' w,(∀k,k=j∨k∈lL l.toArray D j→u k=u' k)→Φ j u w→Φ j u' w)
  (duty:PB D P l.toArray (kQ a ds 0) (zF a ds) Φ S Q l 0)
  (fin:∀u w L,S L w→(∀i,i<l.length→L i=true)→(∀i,i<l.length→Φ i u w)→Q .normal (kQ a ds 0 u) w):(Code.region id l.toArray true).wp P Q a w:=by
 subst hds;refine wp_region_any hm ?_
 refine wpAny_all D (fr:=kQ a (l.map (·.dst)) 0) (u0:=zF a (l.map (·.dst))) (Φ:=Φ) (S:=S) hw ?_ hdep (fun i hi o ho u w L hS hL hA h1 h2 _ K hK=>by
   have:=acQ l 0 i o duty (by simpa using ho)
   rw[Nat.zero_add]at this;exact this u w L hS hL hA h1 h2 K hK) (fun u w L hS hA h=>fin u w L hS (fun i hi=>hA i (by simpa using hi)) fun i hi=>h i (by simpa using hi)) _ _ _ _ ?_ ?_
 ·intro i o u v ho
  have:=ad4 (l.map (·.dst)) hd a 0 u i o.dst v (by rw[List.getElem?_map];rw[List.getElem?_toArray]at ho;rw[ho];rfl)
  rwa[Nat.zero_add]at this
 ·simp
 ·refine⟨by simp,?_,⟨zF a (l.map (·.dst)),(Rn _ _).symm,?_,fun _ _ _=>rfl⟩,?_⟩
  ·intro i hi
   exfalso
   rw[Array.getD_eq_getD_getElem?,Array.getElem?_replicate]at hi;split at hi<;>simp at hi
  ·intro i hi
   exfalso
   rw[Array.getD_eq_getD_getElem?,Array.getElem?_replicate]at hi;split at hi<;>simp at hi
  ·have e:(fun i=>(Array.replicate l.toArray.size false).getD i false)=(fun _=>false):=by
    funext i
    rw[Array.getD_eq_getD_getElem?,Array.getElem?_replicate];split<;>rfl
   rw[e];exact hs
end
end
section
def vR (a b:Value):Prop:=a.ownBlock=none∨a.ownBlock≠b.ownBlock
theorem dK.kept {w w':World} {B:Nat} {e:TypeId} {k:Nat} {v:Value} {n:Nat} {zs:List Int} {r:Option Nat} (h:dK w B e k v n zs) (g:w.grownBy w' r) (hne:v.ownBlock=none∨v.ownBlock≠r):dK w' B e k v n zs:=World.ownsRow.kept h g hne
def Lit (w:World) (H0:Nat) (v:Value) (x:Int):Prop:=∃L,v=.slice (some ⟨L,0,none⟩) 1 1∧H0≤L∧L<w.heap.size∧bJ w L 0 [x]
def ak3 (w:World) (B e n H0:Nat) (a:Value) (zs:List Int) (v:Value):Prop:=dK w B e 1 v n zs∧∃g,v.ownBlock=some g∧(a.ownBlock=some g∨H0≤g)∧g<w.heap.size
theorem Lit.kept {w w':World} {H0:Nat} {v:Value} {x:Int} {r:Option Nat} (h:Lit w H0 v x) (g:w.grownBy w' r) (hr:∀k,r=some k→k<H0):Lit w' H0 v x:=by
 obtain⟨L,e,h1,h2,h3⟩:=h;refine⟨L,e,h1,Nat.lt_of_lt_of_le h2 g.size,fun i hi=>?_⟩
 rw[World.cell?_of_block (g.block L h2 (fun e=>by have:=hr L e.symm;omega))]
 exact h3 i hi
theorem ak3.kept {w w':World} {B e n H0:Nat} {a:Value} {zs:List Int} {v:Value} {r:Option Nat} (h:ak3 w B e n H0 a zs v) (g:w.grownBy w' r) (hr:∀k,r=some k→k<H0) (hne:a.ownBlock=none∨a.ownBlock≠r):ak3 w' B e n H0 a zs v:=by
 obtain⟨h1,k,h2,h3,h4⟩:=h;refine⟨h1.kept g ?_,k,h2,h3,Nat.lt_of_lt_of_le h4 g.size⟩
 right
 rw[h2];intro e;rcases h3 with h3|h3
 ·rcases hne with hne|hne
  ·rw[hne]at h3;cases h3
  ·rw[h3]at hne;exact hne e
 ·have:=hr k e.symm;omega
structure ags (B e H0 X o0 o1 o2 j:Nat) (a b c:Value) (A Bs C:List Int) (x y z:Int) (B0:Nat) (W1:World) (L:Nat→Bool) (w:World):Prop where
 h0:H0≤w.heap.size
 cx:w.cell? ⟨X,o0,none⟩=some (.int .i64 x)
 cy:w.cell? ⟨X,o1,none⟩=some (.int .i64 y)
 cz:w.cell? ⟨X,o2,none⟩=some (.int .i64 z)
 bel:Below B0 W1 w
 a:L 4=false→dK w B e 1 a j A
 b:L 9=false→dK w B e 1 b j Bs
 c:L 14=false→dK w B e 1 c j C
structure Touch (H0:Nat) (a b c:Value) (i:Nat) (r:Option Nat):Prop where
 lt:∀k,r=some k→k<H0
 a:i≠4→a.ownBlock=none∨a.ownBlock≠r
 b:i≠9→b.ownBlock=none∨b.ownBlock≠r
 c:i≠14→c.ownBlock=none∨c.ownBlock≠r
theorem ags.kept {B e H0 X o0 o1 o2 j:Nat} {a b c:Value} {A Bs C:List Int} {x y z:Int} {B0:Nat} {W1:World} {L:Nat→Bool} {w w':World} {i:Nat} {r:Option Nat}
  (h:ags B e H0 X o0 o1 o2 j a b c A Bs C x y z B0 W1 L w) (g:w.grownBy w' r) (t:Touch H0 a b c i r) (hX:∀k,r=some k→k≠X∧B0≤k) (hXs:X<H0) (hB0:B0≤H0) :
  ags B e H0 X o0 o1 o2 j a b c A Bs C x y z B0 W1 (fun k=>if k=i then true else L k) w':=by
 have cell:∀k,w'.cell? ⟨X,k,none⟩=w.cell? ⟨X,k,none⟩:=fun k =>
  World.cell?_of_block (g.block X (by have:=h.h0;omega) (fun e=>(hX X e.symm).1 rfl))
 refine⟨Nat.le_trans h.h0 g.size,by rw[cell];exact h.cx,by rw[cell];exact h.cy,by rw[cell];exact h.cz,?_,fun hl=>?_,fun hl=>?_,fun hl=>?_⟩
 ·exact h.bel.grown g (Nat.le_trans hB0 h.h0) (fun k hk=>(hX k hk).2)
 ·by_cases hi:4=i
  ·simp[hi]at hl
  ·rw[if_neg hi]at hl;exact(h.a hl).kept g (t.a (Ne.symm hi))
 ·by_cases hi:9=i
  ·simp[hi]at hl
  ·rw[if_neg hi]at hl;exact(h.b hl).kept g (t.b (Ne.symm hi))
 ·by_cases hi:14=i
  ·simp[hi]at hl
  ·rw[if_neg hi]at hl;exact(h.c hl).kept g (t.c (Ne.symm hi))
structure amM (B H0 X:Nat) (a b c:Value):Prop where
 ra:∀k,a.ownBlock=some k→B≤k∧k<X
 rb:∀k,b.ownBlock=some k→B≤k∧k<X
 rc:∀k,c.ownBlock=some k→B≤k∧k<X
 x:X<H0
 ab:vR a b
 ac:vR a c
 bc:vR b c
 ba:vR b a
 ca:vR c a
 cb:vR c b
section
variable {P:Program} {Q:Exit→Act→World→Prop}
def Step (P:Program) (o:Oper) (ρ:Operand→Value) (w:World) (v:Value) (w':World):Prop :=
 ∀a:Act,execOp a.eval o=execOp ρ o→∀(K:Act→World→Prop) (Q:Exit→Act→World→Prop),K (a.put o.dst v) w'→o.wp P a w K Q
theorem Step.value {o:Oper} {ρ:Operand→Value} {w w':World} {v:Value} (h:(execOp ρ o).run P w=.ok (.value v) w'):Step P o ρ w v w':=by
 intro a e K Q hK;unfold Oper.wp;rw[e,h];exact hK
theorem Step.skip {o:Oper} {ρ:Operand→Value} {w w':World} {v:Value} (hd:o.dst=none) (h:(execOp ρ o).run P w=.ok .skip w'):Step P o ρ w v w':=by
 intro a e K Q hK;unfold Oper.wp;rw[e,h];rw[hd]at hK;show K (a.put o.dst undef) w'
 rw[hd];exact hK
theorem Step.call {o:Oper} {ρ:Operand→Value} {w w1 w':World} {v:Value} {f:FuncId} {args:Array Value} (h:(execOp ρ o).run P w=.ok (.enter f args) w1) (c:Calls P f args w1 fun e w2=>e=.returned v∧w2=w'):Step P o ρ w v w':=by
 intro a e K Q hK;unfold Oper.wp;rw[e,h];exact Calls.mono c fun e w2 ⟨h1,h2⟩=>by subst h1;subst h2;exact hK
def CD (P:Program) (o:Oper) (ρ:Operand→Value) (w:World) (v:Value) (B:World→Prop):Prop :=
 ∀a:Act,execOp a.eval o=execOp ρ o→∀(K:Act→World→Prop) (Q:Exit→Act→World→Prop),(∀w',B w'→K (a.put o.dst v) w')→o.wp P a w K Q
theorem Step.pred {o:Oper} {ρ:Operand→Value} {w w':World} {v:Value} {B:World→Prop} (h:Step P o ρ w v w') (hB:B w'):CD P o ρ w v B :=
 fun a e K Q hK=>h a e K Q (hK w' hB)
theorem CD.call {o:Oper} {ρ:Operand→Value} {w w1:World} {v:Value} {B:World→Prop} {f:FuncId} {args:Array Value} (h:(execOp ρ o).run P w=.ok (.enter f args) w1) (c:Calls P f args w1 fun e w2=>e=.returned v∧B w2):CD P o ρ w v B:=by
 intro a e K Q hK;unfold Oper.wp;rw[e,h];exact Calls.mono c fun e w2 ⟨h1,h2⟩=>by subst h1;exact hK w2 h2
def afU (D:Nat) (ops:Array Oper) (ds:List (Option Tmp)):Bool :=
 (List.range ops.size).all fun i=>((ops[i]?).map fun o=>o.op.operands.toList.all fun x =>
  match x with
  | .tmp t=>!ds.contains (some t)||(lL ops D i).any fun k=>decide (ds[k]?=some (some t))
  |_=>true).getD false
def ajl (D:Nat) (ops:Array Oper) (stores:List Nat) (win:List (Nat×Nat)):Bool :=
 decide (stores.Nodup)&&stores.all (fun s=>decide (s<ops.size))&&(List.range ops.size).all fun i=>match win[i]? with
  |some (lo,hi)=>(stores.take lo).all (fun s=>(lL ops D i).contains s)&&(stores.drop hi).all (fun s=>s==i||(lL ops D s).contains i)&&decide (lo≤stores.length)
  |none=>false
def lZ (stores:List Nat) (L:Nat→Bool):Nat:=(stores.filter L).length
theorem adG (stores:List Nat) (L:Nat→Bool):∀lo,lo≤stores.length→(∀s∈stores.take lo,L s=true)→lo≤lZ stores L:=by
 unfold lZ;induction stores with
 |nil=>intro lo h _;simpa using h
 |cons s r ih =>
  intro lo h hl;cases lo with
  |zero=>omega
  |succ lo =>
   have h1:=hl s (by simp)
   have:=ih lo (by simpa using h) fun t ht=>hl t (by simp[ht])
   simp only[List.filter_cons,h1,if_true,List.length_cons];omega
theorem PW (stores:List Nat) (L:Nat→Bool):∀hi,(∀s∈stores.drop hi,L s=false)→lZ stores L≤hi:=by
 intro hi h;unfold lZ;conv=>lhs;rw[←List.take_append_drop hi stores]
 rw[List.filter_append,List.length_append];have e:(stores.drop hi).filter L=[]:=List.filter_eq_nil_iff.2 fun s hs=>by rw[h s hs];simp
 rw[e];have:=List.length_filter_le L (stores.take hi)
 have:=List.length_take_le hi stores
 simp
 omega
theorem ab2 (stores:List Nat) (L:Nat→Bool) (h:∀s∈stores,L s=true):lZ stores L=stores.length:=by
 unfold lZ;rw[List.filter_eq_self.2 h]
theorem MQ (stores:List Nat) (L:Nat→Bool) (i:Nat) (h:i ∉ stores):lZ stores (fun k=>if k=i then true else L k)=lZ stores L:=by
 unfold lZ;congr 1
 refine List.filter_congr fun s hs=>?_
 rw[if_neg (fun(e:s=i)=>h (by rw[←e];exact hs))]
theorem adF (stores:List Nat) (L:Nat→Bool) (i:Nat) (hn:stores.Nodup) (h:i∈stores) (hf:L i=false):lZ stores (fun k=>if k=i then true else L k)=lZ stores L+1:=by
 induction stores with
 |nil=>cases h
 |cons s r ih =>
  have hn':=List.nodup_cons.1 hn;unfold lZ at ih ⊢;by_cases e:s=i
  ·subst e
   have:=MQ r L s hn'.1
   unfold lZ at this;simp only[List.filter_cons,hf,if_true,List.length_cons,this,Bool.false_eq_true,if_false]
  ·have hm:i∈r:=by
    rcases List.mem_cons.1 h with h|h
    ·exact absurd h.symm e
    ·exact h
   have:=ih hn'.2 hm
   simp only[List.filter_cons,if_neg e];split
   ·simp only[List.length_cons,this]
   ·exact this
def cU (P:Program) (W:Nat→World→Prop) (stores:List Nat) (ρ:Operand→Value):List Oper→List Value→List (Nat×Nat)→Nat→Prop
 |[],_,_,_=>True
 |o::l,vs,ws,i=>(∀s w,(ws.headD (0,0)).1≤s→s≤(ws.headD (0,0)).2→W s w→CD P o ρ w (vs.headD undef) (W (if stores.contains i then s+1 else s)))∧cU P W stores ρ l vs.tail ws.tail (i+1)
theorem aku {W:Nat→World→Prop} {stores:List Nat} {ρ:Operand→Value}:∀(l:List Oper) (vs:List Value) (ws:List (Nat×Nat)) (k i:Nat) (o:Oper) (lo hi:Nat),cU P W stores ρ l vs ws k→l[i]?=some o→ws[i]?=some (lo,hi) →
  ∀s w,lo≤s→s≤hi→W s w→CD P o ρ w (vs.getD i undef) (W (if stores.contains (k+i)then s+1 else s)):=by
 intro l;induction l with
 |nil=>intro vs ws k i o lo hi _ h;simp at h
 |cons x l ih =>
  intro vs ws k i o lo hi hd h hw s w h1 h2 hW;cases i with
  |zero =>
   simp only[List.getElem?_cons_zero,Option.some.injEq]at h;subst h;cases ws with
   |nil=>simp at hw
   |cons y ws =>
    simp only[List.getElem?_cons_zero,Option.some.injEq]at hw;subst hw;have:=hd.1 s w h1 h2 hW
    cases vs<;>simpa using this
  |succ i =>
   cases ws with
   |nil=>simp at hw
   |cons y ws =>
    have:=ih vs.tail ws (k+1) i o lo hi hd.2 (by simpa using h) (by simpa using hw) s w h1 h2 hW
    rw[show k+(i+1)=k+1+i by omega]
    cases vs<;>simpa using this
theorem T7 (ds:List (Option Tmp)):∀(a:Act) (k:Nat) (u u':Nat→Value),(∀i,i<ds.length→u (k+i)=u' (k+i))→kQ a ds k u=kQ a ds k u':=by
 induction ds with
 |nil=>intro a k u u' _;rfl
 |cons x ds ih =>
  intro a k u u' h;simp only[kQ];have h0:=h 0 (by simp)
  rw[Nat.add_zero]at h0;rw[h0];exact ih _ _ _ _ fun i hi=>by rw[show k+1+i=k+(i+1)by omega];exact h (i+1) (by simpa using hi)
theorem afz (a b:Act) (t:Tmp) (hs:a.tmps.size=b.tmps.size) (ht:¬ t<a.tmps.size):a.eval (.tmp t)=b.eval (.tmp t):=by
 simp[Act.eval,ht,hs▸ht]
theorem Mm (D:Nat) {id:Nat} {l:List Oper} {a:Act} {w:World} (ds:List (Option Tmp)) (stores:List Nat) (win:List (Nat×Nat)) (W:Nat→World→Prop) (oD:List Value)
  (hm:P.follows .mixedOrders=true) (hw:AS l.toArray=true) (hsel:Region.noSelect l.toArray=true) (hds:l.map (·.dst)=ds) (hd:kL ds=true) (hc:afU D l.toArray ds=true) (hwin:ajl D l.toArray stores win=true)
  (h0:W 0 w.drew) (steps:cU P W stores (kQ a ds 0 fun k=>oD.getD k undef).eval l oD win 0)
  (fin:∀w',W stores.length w'→Q .normal (kQ a ds 0 fun k=>oD.getD k undef) w'):(Code.region id l.toArray true).wp P Q a w:=by
 simp only[ajl,Bool.and_eq_true,decide_eq_true_eq]at hwin;obtain⟨⟨hnd,hin⟩,hwin⟩:=hwin
 refine Mn D ds (fun i u _=>u i=oD.getD i undef) (fun L w'=>(∀i,L i=true→∀j∈lL l.toArray D i,L j=true)∧W (lZ stores L) w') hm hw hds hd ?_ (fun j u u' w hu h=>by rw[←hu j (.inl rfl)];exact h) ?_ ?_
 ·refine⟨fun i h=>(by cases h),?_⟩
  rw[show lZ stores (fun _=>false)=0 from Nat.le_zero.1 (PW stores _ 0 fun s _=>rfl)]
  exact h0
 ·have key:∀(i:Nat) (o:Oper),l[i]?=some o→agq D P l.toArray (kQ a ds 0) (zF a ds) (fun i u _=>u i=oD.getD i undef) (fun L w'=>(∀i,L i=true→∀j∈lL l.toArray D i,L j=true)∧W (lZ stores L) w') Q i o:=by
   intro i o ho u w' L hS hL hanc hpre hpost K hK;obtain⟨hdown,hWs⟩:=hS;have hi:i<l.length:=by
    rcases Nat.lt_or_ge i l.length with h|h
    ·exact h
    ·rw[List.getElem?_eq_none h]at ho;cases ho
   have hwi:=List.all_eq_true.1 hwin i (List.mem_range.2 (by simpa using hi))
   cases hw2:win[i]? with
   |none=>rw[hw2]at hwi;simp at hwi
   |some y =>
    obtain⟨lo,hi'⟩:=y;rw[hw2]at hwi;simp only[Bool.and_eq_true,decide_eq_true_eq]at hwi;obtain⟨⟨hlo,hhi⟩,hle⟩:=hwi
    have s1:lo≤lZ stores L:=adG stores L lo hle fun s hs=>hanc s (by simpa using List.all_eq_true.1 hlo s hs)
    have s2:lZ stores L≤hi':=PW stores L hi' fun s hs=>by
     have:=List.all_eq_true.1 hhi s hs
     simp only[Bool.or_eq_true,beq_iff_eq]at this;rcases this with rfl|h
     ·exact hL
     ·cases hLs:L s with
      |false=>rfl
      |true=>have:=hdown s hLs i (by simpa using h);rw[hL]at this;cases this
    have st:=aku l oD win 0 i o lo hi' steps ho hw2 _ w' s1 s2 hWs;rw[Nat.zero_add]at st;refine st (kQ a ds 0 u) ?_ K Q ?_
    ·refine execOp_congr o ?_ ?_
     ·intro cs b e
      have:=hsel;simp only[Region.noSelect]at this;have hm:=Array.all_eq_true'.1 this o (by simpa using List.mem_of_getElem? ho)
      rw[e]at hm;simp at hm
     ·intro x hx
      cases x with
      |tmp t =>
       by_cases ht:t<a.tmps.size
       ·have nP:=List.all_eq_true.1 hc i (List.mem_range.2 (by simpa using hi))
        rw[show l.toArray[i]?=some o by simpa using ho]at nP
        simp only[Option.map_some,Option.getD_some]at nP;have:=List.all_eq_true.1 nP (.tmp t) (by simpa using hx)
        simp only[Bool.or_eq_true,Bool.not_eq_true']at this;rcases this with h|h
        ·rw[nU _ _ _ _ _ h,nU _ _ _ _ _ h]
        ·obtain⟨k,hk,hk2⟩:=List.any_eq_true.1 h
         have hk2:=of_decide_eq_true hk2;rw[uU _ _ _ _ k t hd hk2 ht,uU _ _ _ _ k t hd hk2 ht];simpa using hpre k hk
       ·exact afz _ _ _ (by rw[CZ,CZ]) (by rw[CZ];exact ht)
      |_=>rfl
    ·intro w2 hW2
     refine hK _ _ (by simp[upd]) ⟨?_,?_⟩ (fun j x _ h=>h)
     ·intro k hk j hj
      by_cases hki:k=i
      ·subst hki
       by_cases hjk:j=k
       ·simp[hjk]
       ·simp only[if_neg hjk];exact hanc j hj
      ·simp only[if_neg hki]at hk
       by_cases hji:j=i
       ·simp[hji]
       ·simp only[if_neg hji];exact hdown k hk j hj
     ·by_cases hin:i∈stores
      ·rw[adF stores L i hnd hin hL];rwa[if_pos (by simpa using hin)]at hW2
      ·rw[MQ stores L i hin];rwa[if_neg (by simpa using hin)]at hW2
  have all:∀(r:List Oper) (k:Nat),(∀i o,r[i]?=some o→l[k+i]?=some o)→PB D P l.toArray (kQ a ds 0) (zF a ds) (fun i u _=>u i=oD.getD i undef) (fun L w'=>(∀i,L i=true→∀j∈lL l.toArray D i,L j=true)∧W (lZ stores L) w') Q r k:=by
   intro r;induction r with
   |nil=>intro k _;trivial
   |cons x r ih =>
    intro k h;exact⟨key k x (by have:=h 0 x rfl;simpa using this),ih (k+1) fun i o hi=>by rw[show k+1+i=k+(i+1)by omega];exact h (i+1) o (by simpa using hi)⟩
  exact all l 0 fun i o h=>by rw[Nat.zero_add];exact h
 ·intro u w' L hS hA hΦ
  have hlen:ds.length=l.length:=by rw[←hds];simp
  have e:kQ a ds 0 u=kQ a ds 0 fun k=>oD.getD k undef:=T7 ds a 0 _ _ fun i hi=>by rw[Nat.zero_add];exact hΦ i (by omega)
  have es:lZ stores L=stores.length:=ab2 stores L fun s hs=>by
   refine hA s ?_
   have:=List.all_eq_true.1 hin s hs
   simpa using this
  rw[e];exact fin w' (es▸hS.2)
theorem Ia (D:Nat) {id:Nat} {l:List Oper} {a:Act} {w:World} (ds:List (Option Tmp)) (stores:List Nat) (win:List (Nat×Nat)) (W:Nat→World→Prop) (oD:List Value)
  (hm:P.follows .mixedOrders=true) (hw:AS l.toArray=true) (hsel:Region.noSelect l.toArray=true) (hds:l.map (·.dst)=ds) (hd:kL ds=true) (hc:afU D l.toArray ds=true) (hwin:ajl D l.toArray stores win=true)
  (hsz:(ds.all fun d=>match d with|some t=>decide (t<a.tmps.size)|none=>true)=true)
  (h0:W 0 w.drew)
  (steps:∀ρ:Operand→Value,(∀k t,ds[k]?=some (some t)→ρ (.tmp t)=oD.getD k undef)→(∀t,ds.contains (some t)=false→ρ (.tmp t)=a.eval (.tmp t))→(∀v,ρ (.const v)=v)→(∀f,ρ (.func f)=.func (.func f) #[] #[])→cU P W stores ρ l oD win 0)
  (fin:∀w',W stores.length w'→Q .normal (kQ a ds 0 fun k=>oD.getD k undef) w'):(Code.region id l.toArray true).wp P Q a w:=by
 refine Mm D ds stores win W oD hm hw hsel hds hd hc hwin h0 (steps _ ?_ ?_ ?_ ?_) fin
 ·intro k t h
  have ht:=List.all_eq_true.1 hsz (some t) (List.mem_of_getElem? h)
  simp only[decide_eq_true_eq]at ht;have:=uU ds a 0 (fun k=>oD.getD k undef) k t hd h ht
  rwa[Nat.zero_add]at this
 ·intro t h
  exact nU _ _ _ _ _ h
 ·intro v;rfl
 ·intro f;rfl
theorem cU.pure {W:Nat→World→Prop} {stores:List Nat} {ρ:Operand→Value} {o:Oper} {l:List Oper} {v:Value} {vs:List Value} {lh:Nat×Nat} {ws:List (Nat×Nat)} {i:Nat} (hs:stores.contains i=false)
  (h:∀w,Step P o ρ w v w) (t:cU P W stores ρ l vs ws (i+1)):cU P W stores ρ (o::l) (v::vs) (lh::ws) i:=by
 refine⟨fun s w _ _ hW=>?_,t⟩
 rw[hs];exact(h w).pred hW
theorem cU.load {W:Nat→World→Prop} {stores:List Nat} {ρ:Operand→Value} {o:Oper} {l:List Oper} {v:Value} {vs:List Value} {lo hi:Nat} {ws:List (Nat×Nat)} {i:Nat} (hs:stores.contains i=false)
  (h:∀s w,lo≤s→s≤hi→W s w→Step P o ρ w v w) (t:cU P W stores ρ l vs ws (i+1)):cU P W stores ρ (o::l) (v::vs) ((lo,hi)::ws) i:=by
 refine⟨fun s w h1 h2 hW=>?_,t⟩
 rw[hs];exact(h s w h1 h2 hW).pred hW
theorem cU.call {W:Nat→World→Prop} {stores:List Nat} {ρ:Operand→Value} {o:Oper} {l:List Oper} {v:Value} {vs:List Value} {lo hi:Nat} {ws:List (Nat×Nat)} {i:Nat} (hs:stores.contains i=false)
  (h:∀s w,lo≤s→s≤hi→W s w→CD P o ρ w v (W s)) (t:cU P W stores ρ l vs ws (i+1)):cU P W stores ρ (o::l) (v::vs) ((lo,hi)::ws) i:=by
 refine⟨fun s w h1 h2 hW=>?_,t⟩
 rw[hs];exact h s w h1 h2 hW
theorem cU.store {W:Nat→World→Prop} {stores:List Nat} {ρ:Operand→Value} {o:Oper} {l:List Oper} {v:Value} {vs:List Value} {n:Nat} {ws:List (Nat×Nat)} {i:Nat} (hs:stores.contains i=true)
  (h:∀w,W n w→CD P o ρ w v (W (n+1))) (t:cU P W stores ρ l vs ws (i+1)):cU P W stores ρ (o::l) (v::vs) ((n,n)::ws) i:=by
 refine⟨fun s w h1 h2 hW=>?_,t⟩
 have:s=n:=Nat.le_antisymm h2 h1
 subst this;rw[hs];exact h w hW
def pick (l:List (World→Prop)) (s:Nat):World→Prop:=l.getD s fun _=>False
end
end
section
structure Ty (U:World) where
 w:World
 h:Below U.heap.size U w
instance (U:World):Nonempty (Ty U):=⟨⟨U,Below.refl _ _⟩⟩
theorem Ty.cell {U:World} (x:Ty U) (b o:Nat) (hb:b<U.heap.size):x.w.cell? ⟨b,o,none⟩=U.cell? ⟨b,o,none⟩:=x.h.cell (p:=⟨b,o,none⟩) hb
theorem Calls.grow {P:Program} {U:World} {x:Ty U} {f:FuncId} {args:Array Value} {v:Value} (h:Below U.heap.size U x.w→Calls P f args x.w fun e w'=>e=.returned v∧Below x.w.heap.size x.w w'):Calls P f args x.w fun e w''=>e=.returned v∧∃y:Ty U,w''=y.w :=
 (h x.h).mono fun e w' ⟨h1,h2⟩=>⟨h1,⟨w',x.h.trans (h2.mono x.h.size)⟩,rfl⟩
set_option linter.unnecessarySimpa false
theorem cH {a b:World} (h:Below a.heap.size a b) (k:Nat) (v:Value):Below a.heap.size a (b.setCell ⟨a.heap.size,k,none⟩ v):=h.setCell (Nat.le_refl _) v
theorem amd {a b:World} {n:Nat} (h:Below a.heap.size a b) (hn:a.heap.size≤n) (k:Nat) (v:Value):Below a.heap.size a (b.setCell ⟨n,k,none⟩ v):=h.setCell hn v
theorem blw {P:Prop} (h:P:=by(repeat (first|assumption|exact Below.refl _ _|refine ame ?_ _|refine ajg ?_|refine LU ?_ _|refine cH ?_ _ _|refine amd ?_ (by omega) _ _|refine ajf ?_ (by assumption)))):P:=h
structure bF where
 q:Int
 v:Int
 p:Int
def bF.val (x:bF):Value:=.agg #[.int .i64 x.q,.int .i64 x.v,.int .i64 x.p]
def bF.zero:bF:=⟨0,0,0⟩
def flat (l:List bF):List Int:=l.flatMap fun x=>[x.q,x.v,x.p]
theorem Ss (l:List bF):(flat l).length=l.length*3:=by
 induction l with
 |nil=>rfl
 |cons x l ih=>simp only[flat,List.flatMap_cons,List.length_append,List.length_cons,List.length_nil]at ih ⊢;omega
theorem flat_get (l:List bF):∀(i:Nat) (x:bF),l[i]?=some x→(flat l).getD (i*3) 0=x.q∧(flat l).getD (i*3+1) 0=x.v∧(flat l).getD (i*3+2) 0=x.p:=by
 induction l with
 |nil=>intro i x h;simp at h
 |cons y l ih =>
  intro i x h;cases i with
  |zero=>simp at h;subst h;exact⟨rfl,rfl,rfl⟩
  |succ i =>
   have:=ih i x (by simpa using h)
   have e:∀k,(flat (y::l)).getD ((i+1)*3+k) 0=(flat l).getD (i*3+k) 0:=by
    intro k;show([y.q,y.v,y.p]++flat l).getD ((i+1)*3+k) 0=_
    rw[List.getD_eq_getElem?_getD,List.getElem?_append_right (by simp;omega),←List.getD_eq_getElem?_getD]
    congr 1
    simp
    omega
   have e0:=e 0;have e1:=e 1;have e2:=e 2
   simp only[Nat.add_zero]at e0;rw[e0,e1,e2];exact this
theorem afx {l:List bF} (h:eH (flat l)):eH (l.map (·.q))∧eH (l.map (·.v))∧eH (l.map (·.p)):=by
 have H:∀x,x∈l→jY x.q∧jY x.v∧jY x.p:=fun x hx =>
  ⟨h _ (List.mem_flatMap.2 ⟨x,hx,by simp⟩),h _ (List.mem_flatMap.2 ⟨x,hx,by simp⟩),h _ (List.mem_flatMap.2 ⟨x,hx,by simp⟩)⟩
 refine⟨fun z hz=>?_,fun z hz=>?_,fun z hz=>?_⟩ <;>
  (obtain⟨x,hx,rfl⟩:=List.mem_map.1 hz;first|exact(H x hx).1|exact(H x hx).2.1|exact(H x hx).2.2)
def nC (l:List bF):Bool:=decide (eI (l.map (·.q))=0)&&decide (eI (l.map (·.v))=0)&&decide (eI (l.map (·.p))=0)
def vV (l:List bF):bF:=if nC l then⟨dU (l.map (·.q)),dU (l.map (·.v)),dU (l.map (·.p))⟩else .zero
def Mo (l:List bF):Int:=if nC l then 0 else 2
theorem TG {l:List bF} (h:nC l=false):vV l=.zero∧Mo l=2:=by simp[vV,Mo,h]
theorem FE {l:List bF} (h:nC l=true):vV l=⟨dU (l.map (·.q)),dU (l.map (·.v)),dU (l.map (·.p))⟩∧Mo l=0:=by simp[vV,Mo,h]
structure amP (w:World) (B:Nat) (j:Nat) (l:List bF) (a b c:Value):Prop where
 q:dK w B 3 1 a j ((l.take j).map (·.q))
 v:dK w B 3 1 b j ((l.take j).map (·.v))
 p:dK w B 3 1 c j ((l.take j).map (·.p))
 ab:vR a b
 ac:vR a c
 bc:vR b c
 ba:vR b a
 ca:vR c a
 cb:vR c b
def jE (x:bF):Bool:=decide (1≤x.q)&&decide (x.q≤288230376151711744)&&decide (0≤x.v)&&decide (x.v≤288230376151711744)&&decide (-288230376151711744≤x.p)&&decide (x.p≤288230376151711744)
theorem xV {w wr:World} {b off:Nat} {l:List bF} {j:Nat} {x:bF} (hc:bJ w b off (flat l)) (hx:l[j]?=some x) (hb:b<w.heap.size) (hbel:Below w.heap.size w wr) :
  wr.cell? ⟨b,off+j*3,none⟩=some (.int .i64 x.q)∧wr.cell? ⟨b,off+j*3+1,none⟩=some (.int .i64 x.v)∧wr.cell? ⟨b,off+j*3+2,none⟩=some (.int .i64 x.p):=by
 have hg:=flat_get l j x hx;have hfl:=Ss l;have hj:j<l.length:=by
  rcases Nat.lt_or_ge j l.length with h|h
  ·exact h
  ·rw[List.getElem?_eq_none h]at hx;cases hx
 have hcw:∀i,i<(flat l).length→wr.cell? ⟨b,off+i,none⟩=some (.int .i64 ((flat l).getD i 0)):=fun i hi=>by
  rw[hbel.cell (by show b<_;omega)];exact hc i hi
 refine⟨by rw[hcw (j*3) (by omega),hg.1],by rw[Nat.add_assoc,hcw (j*3+1) (by omega),hg.2.1],by rw[Nat.add_assoc,hcw (j*3+2) (by omega),hg.2.2]⟩
theorem agf {l:List bF} {j:Nat} {x:bF} {f:bF→Bool} (hx:l[j]?=some x):(l.take (j+1)).all f=((l.take j).all f&&f x):=by
 rw[List.take_add_one,hx];simp
theorem cT {x:bF}:jE x=true↔1≤x.q∧x.q≤288230376151711744∧0≤x.v∧x.v≤288230376151711744∧-288230376151711744≤x.p∧x.p≤288230376151711744:=by
 simp[jE,and_assoc]
def iV (x:bF):Int:=max x.p (-x.p)
theorem Pz {l:List bF} {j:Nat} {x:bF} {f:bF→Bool} (h:l.all f=true) (hx:l[j]?=some x):f x=true:=List.all_eq_true.1 h x (List.mem_of_getElem? hx)
@[go_sem] theorem bF.amw (x:bF):x.val=.agg #[.int .i64 x.q,.int .i64 x.v,.int .i64 x.p]:=rfl
@[go_sem] theorem bF.amu:bF.zero.q=0:=rfl
@[go_sem] theorem bF.ams:bF.zero.v=0:=rfl
@[go_sem] theorem bF.amv:bF.zero.p=0:=rfl
theorem al2 {w:World} {y:Int} {t n:Nat} (hn:n=w.heap.size):bJ (w.alloc (.cells #[.int .i64 y] t)) n 0 [y]:=by
 subst hn;exact bJ.new w [y] t
def gT (l:List bF):Bool:=decide (l.length≤30)&&l.all jE&&nC l&&decide (eI (l.map iV)=0)
structure gR (w:World) (b:Nat) (x y z:Int):Prop where
 c0:w.cell? ⟨b,0,none⟩=some (.int .i64 x)
 c1:w.cell? ⟨b,1,none⟩=some (.int .i64 y)
 c2:w.cell? ⟨b,2,none⟩=some (.int .i64 z)
 f0:w.frozen? ⟨b,0,none⟩=false
 f1:w.frozen? ⟨b,1,none⟩=false
 f2:w.frozen? ⟨b,2,none⟩=false
theorem Aw (a b:Int) (w:World):Calls Tryz.prog 83 #[.int .i64 a,.int .i64 b] w fun e w'=>e=.returned (.tuple #[.int .i64 (mW a b),.int .i64 (mK a b)])∧w'=w :=
 (xN a b w).mono fun _ _ h=>⟨h.1,h.2.symm⟩
theorem Pq {zs:List Int} {k:Nat} (e:bY 0 (zs.take k)=none):eI zs=2:=by simp[eI,uL e]
theorem amh {l:List bF} {k:Nat} (e:bY 0 ((l.map (·.q)).take k)=none):nC l=false:=by simp[nC,Pq e]
theorem amg {l:List bF} {k:Nat} (e:bY 0 ((l.map (·.v)).take k)=none):nC l=false:=by simp[nC,Pq e]
theorem amf {l:List bF} {k:Nat} (e:bY 0 ((l.map (·.p)).take k)=none):nC l=false:=by simp[nC,Pq e]
theorem nE {l:List bF} {j:Nat} {x:bF} {f:bF→Int} {n:Int} (hx:l[j]?=some x) (e:bY 0 ((l.map f).take j)=some n) :
  bY 0 ((l.map f).take (j+1))=if fM n (f x)then some (n+f x)else none:=by
 have hj:j<(l.map f).length:=by
  rcases Nat.lt_or_ge j l.length with h|h
  ·simpa using h
  ·rw[List.getElem?_eq_none h]at hx;cases hx
 rw[zE hj e];have:(l.map f).getD j 0=f x:=by rw[List.getD_eq_getElem?_getD,List.getElem?_map,hx];rfl
 rw[this]
set_option maxHeartbeats 1000000 in
theorem qE (a:Option Addr) (cap:Nat) (l:List bF) (w:World) (h:Row w 3 a l.length cap (flat l)) :
  Calls Tryz.prog 198 #[.slice a l.length cap] w fun e w'=>e=.returned (.tuple #[(vV l).val,.int .i64 (Mo l)])∧Below w.heap.size w w':=by
 obtain⟨hl,hcap,hmax,hall,hat⟩:=h;unfold maxLen at hmax;go_enter Tryz.func198,Tryz.ntmps198
 obtain⟨hq,hv,hp⟩:=afx hall;go_wp2
 go_loopw [5] (fun i wr=>∃(j:Nat) (q v p:Int),j≤l.length∧i=.int .i64 j∧bY 0 ((l.map (·.q)).take j)=some q∧bY 0 ((l.map (·.v)).take j)=some v∧bY 0 ((l.map (·.p)).take j)=some p ∧
  gR wr w.heap.size 0 0 0∧gR wr (w.heap.size+1) q v p∧w.heap.size+2≤wr.heap.size∧Below w.heap.size w wr) (fun i _=>l.length-(intOf i).toNat)
 case atStart=>exact⟨0,0,0,0,by omega,rfl,rfl,rfl,rfl,⟨by simp,by simp,by simp,by simp,by simp,by simp⟩,⟨by simp,by simp,by simp,by simp,by simp,by simp⟩,by simp,blw⟩
 case round =>
  obtain⟨j,q,v,p,hj,rfl,s1,s2,s3,⟨r0,r1,r2,z0,z1,z2⟩,⟨y0,y1,y2,x0,x1,x2⟩,hs2,hbel⟩:=hrel
  have hsz:=hbel.size;by_cases hlt:j<l.length
  ·obtain⟨b,off,rfl,hb,hc⟩:∃b off,a=some ⟨b,off,none⟩∧b<w.heap.size∧bJ w b off (flat l):=by
    rcases hat with h0|h0
    ·omega
    ·exact h0
   obtain⟨x,hx⟩:∃x,l[j]?=some x:=⟨l[j],by simp[hlt]⟩
   obtain⟨c0,c1,c2⟩:=xV hc hx hb hbel;have hlt':(j:Int)<(l.length:Int):=by omega
   have t1:=nE (f:=(·.q)) hx s1
   have t2:=nE (f:=(·.v)) hx s2
   have t3:=nE (f:=(·.p)) hx s3
   have hx:=Lib.hid hx;clear hc hat s1 s2 s3;have t1:=Lib.hid t1;have t2:=Lib.hid t2;have t3:=Lib.hid t3;go_wp2_with fail
   go_quiet ((go_at_call 83;refine Calls.quiet_of_same (Aw _ _ _)))
   change (wr.drewN nq).cell? _=_ at y0 y1 y2 r0 r1 r2 c0 c1 c2
   change (wr.drewN nq).frozen? _=_ at x0 x1 x2 z0 z1 z2
   change _≤(wr.drewN nq).heap.size at hs2 hsz
   replace hbel:=LU hbel nq
   generalize wr.drewN nq=wr at *;go_wp2_with fail
   go_quiet ((go_at_call 83;refine Calls.quiet_of_same (Aw _ _ _)))
   change (wr.drewN nq).cell? _=_ at y0 y1 y2 r0 r1 r2 c0 c1 c2
   change (wr.drewN nq).frozen? _=_ at x0 x1 x2 z0 z1 z2
   change _≤(wr.drewN nq).heap.size at hs2 hsz
   replace hbel:=LU hbel nq
   generalize wr.drewN nq=wr at *;go_wp2_with fail
   go_quiet ((go_at_call 83;refine Calls.quiet_of_same (Aw _ _ _)))
   change (wr.drewN nq).cell? _=_ at y0 y1 y2 r0 r1 r2 c0 c1 c2
   change (wr.drewN nq).frozen? _=_ at x0 x1 x2 z0 z1 z2
   change _≤(wr.drewN nq).heap.size at hs2 hsz
   replace hbel:=LU hbel nq
   generalize wr.drewN nq=wr at *;cases k1:fM q x.q
   ·have k5:=oM k1
    go_wp2_with fail
    have ht:=TG (l:=l) (amh (by have:=t1.out;rw[this,k1];rfl))
    exact bodyPost_ret (v:=.tuple #[bF.zero.val,.int .i64 2]) (by simp[results,Tryz.results198,go_sem,r0,r1,r2,z0,z1,z2]) rfl ⟨by rw[ht.1,ht.2],blw⟩
   have m1:=Cw k1;cases k2:fM v x.v
   ·have k5:=oM k2
    go_wp2_with fail
    have ht:=TG (l:=l) (amg (by have:=t2.out;rw[this,k2];rfl))
    exact bodyPost_ret (v:=.tuple #[bF.zero.val,.int .i64 2]) (by simp[results,Tryz.results198,go_sem,r0,r1,r2,z0,z1,z2]) rfl ⟨by rw[ht.1,ht.2],blw⟩
   have m2:=Cw k2;cases k3:fM p x.p
   ·have k5:=oM k3
    go_wp2_with fail
    have ht:=TG (l:=l) (amf (by have:=t3.out;rw[this,k3];rfl))
    exact bodyPost_ret (v:=.tuple #[bF.zero.val,.int .i64 2]) (by simp[results,Tryz.results198,go_sem,r0,r1,r2,z0,z1,z2]) rfl ⟨by rw[ht.1,ht.2],blw⟩
   have m3:=Cw k3;go_wp2_with fail
   case' roundEnd =>
    have t1:=t1.out;have t2:=t2.out;have t3:=t3.out
    rw[k1]at t1;rw[k2]at t2;rw[k3]at t3
    refine⟨⟨j+1,q+x.q,v+x.v,p+x.p,hlt,by simp,t1,t2,t3,⟨by go_simp,by go_simp,by go_simp,by simp[z0],by simp[z1],by simp[z2]⟩,⟨by go_simp,by go_simp,by go_simp,by simp[x0],by simp[x1],by simp[x2]⟩,by simp;omega,blw⟩,?_⟩
    simp[intOf]
    omega
  ·have ej:j=l.length:=by omega
   subst ej;have hge:¬ ((l.length:Int)<(l.length:Int)):=by omega
   have e1:bY 0 (l.map (·.q))=some q:=by rw[←s1,List.take_of_length_le (by simp)]
   have e2:bY 0 (l.map (·.v))=some v:=by rw[←s2,List.take_of_length_le (by simp)]
   have e3:bY 0 (l.map (·.p))=some p:=by rw[←s3,List.take_of_length_le (by simp)]
   have ht:=FE (l:=l) (by simp[nC,eI,e1,e2,e3])
   have ht2:vV l=⟨q,v,p⟩:=by rw[ht.1];simp[dU,e1,e2,e3]
   have hte:=ht.2;clear s1 s2 s3 e1 e2 e3 ht;go_wp2_with fail
   exact bodyPost_ret (v:=.tuple #[.agg #[.int .i64 q,.int .i64 v,.int .i64 p],.int .i64 0]) (by simp[results,Tryz.results198,go_sem,r0,r1,r2,z0,z1,z2]) rfl ⟨by first|rfl|(rw[ht2,hte];rfl),blw⟩
set_option maxHeartbeats 1000000 in
theorem M7 (a:Option Addr) (cap:Nat) (l:List bF) (w:World) (h:Row w 3 a l.length cap (flat l)) (hok:l.all jE=true) :
  Calls Tryz.prog 197 #[.slice a l.length cap] w fun e w'=>e=.returned (.tuple #[.int .i64 (dU (l.map iV)),.int .i64 (eI (l.map iV))])∧Below w.heap.size w w':=by
 obtain⟨hl,hcap,hmax,hall,hat⟩:=h;unfold maxLen at hmax;go_enter Tryz.func197,Tryz.ntmps197
 go_wp2
 go_loopw [4,5] (fun n i wr=>∃(j:Nat) (q:Int),j≤l.length∧i=.int .i64 j∧n=.int .i64 q∧bY 0 ((l.map iV).take j)=some q∧Below w.heap.size w wr) (fun _ i _=>l.length-(intOf i).toNat)
 case atStart=>exact⟨0,0,by omega,rfl,rfl,rfl,blw⟩
 case round =>
  obtain⟨j,q,hj,rfl,rfl,s1,hbel⟩:=hrel;have hsz:=hbel.size;by_cases hlt:j<l.length
  ·obtain⟨b,off,rfl,hb,hc⟩:∃b off,a=some ⟨b,off,none⟩∧b<w.heap.size∧bJ w b off (flat l):=by
    rcases hat with h0|h0
    ·omega
    ·exact h0
   obtain⟨x,hx⟩:∃x,l[j]?=some x:=⟨l[j],by simp[hlt]⟩
   obtain⟨c0,c1,c2⟩:=xV hc hx hb hbel;have hlt':(j:Int)<(l.length:Int):=by omega
   have t1:=nE (f:=iV) hx s1
   obtain⟨-,-,-,-,kp1,kp2⟩:=cT.1 (Pz hok hx)
   have wr1:IntKind.i64.wrap (-x.p)=-x.p:=IntWalk.i64_in _ (by omega)
   have hx:=Lib.hid hx;clear hc hat s1 hok;have t1:=Lib.hid t1;go_wp2_with fail
   go_quiet ((go_at_call 83;refine Calls.quiet_of_same (Aw _ (iV x) _)))
   change (wr.drewN nq).cell? _=_ at c0 c1 c2
   change _≤(wr.drewN nq).heap.size at hsz
   replace hbel:=LU hbel nq
   generalize wr.drewN nq=wr at *;clear wr1;have kp3:¬ x.p < -288230376151711744:=by omega
   cases k1:fM q (iV x)
   ·have k5:=oM k1
    go_wp2_with fail
    have hb:eI (l.map iV)=2:=Pq (by have:=t1.out;rw[this,k1];rfl)
    have hb2:dU (l.map iV)=0:=by
     have:bY 0 (l.map iV)=none:=uL (by have:=t1.out;rw[this,k1];rfl)
     simp[dU,this]
    go_ret2
    exact⟨by rw[hb,hb2];rfl,blw⟩
   ·have m1:=Cw k1
    go_wp2_with fail
    case' roundEnd =>
     have t1:=t1.out;rw[k1]at t1;refine⟨⟨j+1,q+iV x,hlt,by simp,by rw[m1.1],t1,blw⟩,?_⟩
     simp[intOf]
     omega
  ·have ej:j=l.length:=by omega
   subst ej;have hge:¬ ((l.length:Int)<(l.length:Int)):=by omega
   have e1:bY 0 (l.map iV)=some q:=by rw[←s1,List.take_of_length_le (by simp)]
   have e2:dU (l.map iV)=q:=by simp[dU,e1]
   have e3:eI (l.map iV)=0:=by simp[eI,e1]
   clear s1 e1;go_wp2_with fail
   go_ret2
   exact⟨by first|rfl|rw[e2,e3],blw⟩
theorem adU {l:List bF} {j:Nat} {x:bF} (hx:l[j]?=some x) (h:jE x=false):gT l=false:=by
 have:l.all jE=false:=List.all_eq_false.2 ⟨x,List.mem_of_getElem? hx,by simp[h]⟩
 simp[gT,this]
theorem kO {l:List bF}:gT l=true↔(l.length:Int)≤30∧l.all jE=true∧Mo l=0∧eI (l.map iV)=0:=by
 have k:nC l=decide (Mo l=0):=by unfold Mo;split<;>simp_all
 have k2:(l.length≤30)↔(l.length:Int)≤30:=by omega
 simp only[gT,k,Bool.and_eq_true,decide_eq_true_eq,k2,and_assoc]
set_option maxHeartbeats 1000000 in
theorem T5 (a:Option Addr) (cap:Nat) (l:List bF) (w:World) (h:Row w 3 a l.length cap (flat l)) (hn:l.length≤1000) :
  Calls Tryz.prog 199 #[.slice a l.length cap] w fun e w'=>e=.returned (.bool (gT l))∧Below w.heap.size w w':=by
 have h0:=h;obtain⟨hl,hcap,hmax,hall,hat⟩:=h;unfold maxLen at hmax;go_enter Tryz.func199,Tryz.ntmps199
 try simp only[List.append_eq,List.cons_append,List.nil_append]
 go_wp2
 go_loopw [3] (fun i wr=>∃(j:Nat),j≤l.length∧i=.int .i64 j∧(l.take j).all jE=true∧Below w.heap.size w wr) (fun i _=>l.length-(intOf i).toNat)
 case atStart=>exact⟨0,by omega,rfl,rfl,blw⟩
 case round =>
  obtain⟨j,hj,rfl,T,hbel⟩:=hrel;have hsz:=hbel.size;by_cases hlt:j<l.length
  ·obtain⟨b,off,rfl,hb,hc⟩:∃b off,a=some ⟨b,off,none⟩∧b<w.heap.size∧bJ w b off (flat l):=by
    rcases hat with h0|h0
    ·omega
    ·exact h0
   obtain⟨x,hx⟩:∃x,l[j]?=some x:=⟨l[j],by simp[hlt]⟩
   obtain⟨c0,c1,c2⟩:=xV hc hx hb hbel;have hlt':(j:Int)<(l.length:Int):=by omega
   have hx:=Lib.hid hx;clear hc hat;go_wp2_with (first|(go_at_call 144;refine(qG _ _).mono ?_;rintro e w' ⟨rfl,rfl⟩))
   case' roundEnd =>
    have hno:jE x=true:=by
     rw[cT];simp_all [mD]
     try omega
    have hx:l[j]?=some x:=hx
    refine⟨⟨j+1,hlt,by simp,by rw[agf hx,T,hno];rfl,blw⟩,?_⟩
    simp[intOf]
    omega
   all_goals
    have hno:jE x=false:=by
     cases hh:jE x
     ·rfl
     ·exfalso
      rw[cT]at hh;simp_all [mD]
      try omega
    have hx:l[j]?=some x:=hx
    go_ret
    exact⟨tX (by rw[adU hx hno]),blw⟩
  ·have ej:j=l.length:=by omega
   subst ej;have hge:¬ ((l.length:Int)<(l.length:Int)):=by omega
   rw[List.take_length]at T;have hs:=fun w h=>M7 a cap l w h T
   go_wp2_with (first|(go_at_call 198;refine(qE a cap l _ (h0.below blw)).mono ?_;rintro e w' ⟨rfl,hw1⟩)|(go_at_call 197;refine(hs _ (h0.below blw)).mono ?_;rintro e w' ⟨rfl,hw2⟩))
   all_goals (go_ret;refine⟨tX ?_,blw⟩;rw[Bool.eq_iff_iff,kO];simp_all<;>omega)
deriving instance DecidableEq for bF
theorem oN {l:List Int} {s:Int} (k:Nat) (e:bY 0 l=some s):∃t,bY 0 (l.take k)=some t:=by
 cases h:bY 0 (l.take k)with
 |none=>rw[uL h]at e;cases e
 |some t=>exact⟨t,rfl⟩
theorem xI (l:List Int):∀(n s:Int),bY n l=some s→s=n+l.sum:=by
 induction l with
 |nil=>intro n s h;simp[bY]at h;simp[h]
 |cons z l ih =>
  intro n s h;simp only[bY]at h;split at h
  ·have:=ih _ _ h
   rw[this,List.sum_cons];omega
  ·cases h
def iS (x:bF) (q:Int):bF:=⟨q,cA x.v q x.q,cA x.p q x.q⟩
def jT (x y:bF):bF:=⟨x.q-y.q,x.v-y.v,x.p-y.p⟩
def fX (x y:bF):bF:=⟨x.q+y.q,x.v+y.v,x.p+y.p⟩
def iW:List bF→bF→Int→List bF×bF
 |[],a,_=>([],a)
 |x::r,a,q=>if q≤0 then(x::r,a)else if q<x.q then(jT x (iS x q)::r,fX a (iS x q))else iW r (fX a x) (q-x.q)
theorem Nl {r:List bF} {a:bF} {q:Int} (h:q≤0):iW r a q=(r,a):=by
 cases r<;>simp[iW,h]
theorem wL {v q n:Int} (hn:1≤n) (hq:0≤q) (hqn:q≤n) (hv:0≤v):0≤v*q/n∧v*q/n≤v:=by
 refine⟨Int.ediv_nonneg (Int.mul_nonneg hv hq) (by omega),Int.ediv_le_of_le_mul (by omega) (Int.mul_le_mul_of_nonneg_left hqn hv)⟩
theorem xP {v q n:Int} (hn:1≤n) (hq:0≤q) (hqn:q≤n) (hv:mD v=true):(0≤v→0≤cA v q n∧cA v q n≤v)∧(v<0→v≤cA v q n∧cA v q n≤0):=by
 have h:¬ (n<1∨q<0∨q > n∨mD v=false):=by rw[hv];simp;omega
 refine⟨fun h0=>?_,fun h0=>?_⟩
 ·rw[Rx h (by omega)]
  exact wL hn hq hqn h0
 ·rw[Ry h h0]
  have:=wL (v:=-v) hn hq hqn (by omega)
  omega
structure amn (x:bF) (q:Int):Prop where
 v0:0≤cA x.v q x.q
 v1:cA x.v q x.q≤x.v
 p0:-288230376151711744≤cA x.p q x.q
 p1:cA x.p q x.q≤288230376151711744
 d0:-288230376151711744≤x.p-cA x.p q x.q
 d1:x.p-cA x.p q x.q≤288230376151711744
theorem Pe {x:bF} {q:Int} (h:jE x=true) (h0:0≤q) (h1:q≤x.q):amn x q:=by
 obtain⟨k1,k2,k3,k4,k5,k6⟩:=cT.1 h;have a:=xP (v:=x.v) k1 h0 h1 (eP.2 ⟨by omega,by omega⟩)
 have b:=xP (v:=x.p) k1 h0 h1 (eP.2 ⟨by omega,by omega⟩)
 have a1:=a.1 k3;refine⟨by omega,by omega,?_,?_,?_,?_⟩ <;>
  (by_cases hp:0≤x.p
   ·have:=b.1 hp;omega
   ·have:=b.2 (by omega);omega)
def dJ (l:List bF) (q:Int):List bF×bF×Int :=
 if q<1 then(l,.zero,1)else if(vV l).q<q then(l,.zero,5)else((iW l .zero q).1,(iW l .zero q).2,0)
theorem uC {l:List bF} {f:bF→Int} {s t:Int} {j:Nat} (hs:bY 0 (l.map f)=some s) (ht:bY 0 ((l.map f).take j)=some t) (hf:∀x,x∈l→-288230376151711744≤f x∧f x≤288230376151711744) :
  -288230376151711744≤t∧t≤288230376151711744:=by
 cases j with
 |zero=>simp[bY]at ht;subst ht;omega
 |succ j =>
  rcases Nat.lt_or_ge j l.length with h|h
  ·obtain⟨x,hx⟩:∃x,l[j]?=some x:=⟨l[j],by simp[h]⟩
   obtain⟨u,hu⟩:=oN j hs;have a:=nE (f:=f) hx hu
   rw[ht]at a;split at a
   ·rename_i k
    have:=xE k
    cases a;exact this
   ·cases a
  ·have e:(l.map f).take (j+1)=l.map f:=List.take_of_length_le (by simp;omega)
   cases hl:l with
   |nil=>subst hl;simp[bY]at ht;subst ht;omega
   |cons y r =>
    have hlen:(l.map f).length=l.length:=by simp
    have hpos:0<l.length:=by rw[hl];simp
    obtain⟨x,hx⟩:∃x,l[l.length-1]?=some x:=⟨l[l.length-1]'(by omega),by simp[show l.length-1<l.length by omega]⟩
    obtain⟨u,hu⟩:=oN (l.length-1) hs
    have a:=nE (f:=f) hx hu
    have e2:(l.map f).take (l.length-1+1)=l.map f:=List.take_of_length_le (by simp;omega)
    rw[e2,←e,ht]at a;split at a
    ·rename_i k
     have:=xE k
     cases a;exact this
    ·cases a
theorem pT {l:List bF} {f:bF→Int} {s t:Int} {j:Nat} {x:bF} (hs:bY 0 (l.map f)=some s) (hx:l[j]?=some x) (ht:bY 0 ((l.map f).take j)=some t) :
  bY 0 ((l.map f).take (j+1))=some (t+f x):=by
 have a:=nE hx ht;obtain⟨u,hu⟩:=oN (j+1) hs
 rw[hu]at a;split at a
 ·cases a;exact hu
 ·cases a
theorem uS {l:List bF} (h:gT l=true):∃sq sv sp,bY 0 (l.map (·.q))=some sq∧bY 0 (l.map (·.v))=some sv∧bY 0 (l.map (·.p))=some sp∧vV l=⟨sq,sv,sp⟩:=by
 have hT:nC l=true:=by
  simp only[gT,Bool.and_eq_true]at h;exact h.1.2
 have ht:=(FE hT).1
 simp only[nC,Bool.and_eq_true,decide_eq_true_eq]at hT;have FJ:∀zs,eI zs=0→∃s,bY 0 zs=some s∧dU zs=s:=fun zs hz=>by
  unfold eI at hz;cases e:bY 0 zs with
  |none=>rw[e]at hz;simp at hz
  |some s=>exact⟨s,rfl,by simp[dU,e]⟩
 obtain⟨s1,e1,f1⟩:=FJ _ hT.1.1;obtain⟨s2,e2,f2⟩:=FJ _ hT.1.2;obtain⟨s3,e3,f3⟩:=FJ _ hT.2;exact⟨s1,s2,s3,e1,e2,e3,by rw[ht,f1,f2,f3]⟩
theorem akk {l:List bF} (h:gT l=true):(∀x,x∈l→-288230376151711744≤x.q∧x.q≤288230376151711744)∧(∀x,x∈l→-288230376151711744≤x.v∧x.v≤288230376151711744)∧(∀x,x∈l→-288230376151711744≤x.p∧x.p≤288230376151711744):=by
 have hok:=(kO.1 h).2.1
 have H:∀x,x∈l→_:=fun x hx=>cT.1 (List.all_eq_true.1 hok x hx)
 exact⟨fun x hx=>by have:=H x hx;omega,fun x hx=>by have:=H x hx;omega,fun x hx=>by have:=H x hx;omega⟩
structure amm (a x:bF):Prop where
 q0:-288230376151711744≤a.q
 q1:a.q≤288230376151711744
 v0:-288230376151711744≤a.v
 v1:a.v≤288230376151711744
 p0:-288230376151711744≤a.p
 p1:a.p≤288230376151711744
 q2:-288230376151711744≤a.q+x.q
 q3:a.q+x.q≤288230376151711744
 v2:-288230376151711744≤a.v+x.v
 v3:a.v+x.v≤288230376151711744
 p2:-288230376151711744≤a.p+x.p
 p3:a.p+x.p≤288230376151711744
theorem ai7 {l:List bF} {j:Nat} {a x:bF} (h:gT l=true) (hx:l[j]?=some x) (h1:bY 0 ((l.map (·.q)).take j)=some a.q) (h2:bY 0 ((l.map (·.v)).take j)=some a.v) (h3:bY 0 ((l.map (·.p)).take j)=some a.p):amm a x:=by
 obtain⟨sq,sv,sp,e1,e2,e3,-⟩:=uS h;obtain⟨b1,b2,b3⟩:=akk h;have k1:=uC e1 h1 b1;have k2:=uC e2 h2 b2;have k3:=uC e3 h3 b3;have m1:=uC e1 (pT e1 hx h1) b1
 have m2:=uC e2 (pT e2 hx h2) b2
 have m3:=uC e3 (pT e3 hx h3) b3
 exact⟨k1.1,k1.2,k2.1,k2.2,k3.1,k3.2,m1.1,m1.2,m2.1,m2.2,m3.1,m3.2⟩
theorem dK.set {w:World} {base:Nat} {e:TypeId} {k:Nat} {v:Value} {n:Nat} {zs:List Int} (h:dK w base e k v n zs) {b:Nat} (hb:b<base) (i:Nat) (u:Value):dK (w.setCell ⟨b,i,none⟩ u) base e k v n zs:=by
 refine h.kept (r:=some b) ⟨rfl,rfl,rfl,by simp[World.setCell],fun j _ hne=>Below.heap_setCell _ _ _ _ (fun e=>hne (by rw[e]))⟩ ?_
 cases ho:v.ownBlock with
 |none=>exact .inl rfl
 |some g =>
  right
  have:=World.ownsRow.lt h g ho
  intro e;cases e;omega
def kY (l:List Int):Int:=(l.map fun z=>max z (-z)).sum
theorem qX (z:Int) (l:List Int):kY (z::l)=max z (-z)+kY l:=by simp[kY]
theorem Cy (l:List Int):0≤kY l:=by
 induction l with
 |nil=>simp[kY]
 |cons z l ih=>rw[qX];omega
theorem ED {l:List Int} (h:∀z,z∈l→0≤z):kY l=l.sum:=by
 induction l with
 |nil=>rfl
 |cons z l ih =>
  rw[qX,List.sum_cons,ih fun y hy=>h y (by simp[hy])]
  have:=h z (by simp)
  omega
theorem NZ (l:List Int):-kY l≤l.sum∧l.sum≤kY l:=by
 induction l with
 |nil=>simp[kY]
 |cons z l ih=>rw[qX,List.sum_cons];omega
theorem tU (l:List Int):∀n:Int,max n (-n)+kY l≤288230376151711744→bY n l=some (n+l.sum):=by
 induction l with
 |nil=>intro n _;simp[bY]
 |cons z l ih =>
  intro n h;rw[qX]at h;have:=Cy l
  have hok:fM n z=true:=pX.2 ⟨eP.2 ⟨by omega,by omega⟩,eP.2 ⟨by omega,by omega⟩,eP.2 ⟨by omega,by omega⟩⟩
  simp only[bY,hok,if_true];rw[ih _ (by omega),List.sum_cons]
  congr 1
  omega
theorem Io (l:List Int):∀n s:Int,mD n=true→bY n l=some s→mD s=true:=by
 induction l with
 |nil=>intro n s hn h;simp[bY]at h;subst h;exact hn
 |cons z l ih =>
  intro n s hn h;simp only[bY]at h;split at h
  ·rename_i k;exact ih _ _ (pX.1 k).2.2 h
  ·cases h
theorem abY {l:List Int} (h:eI l=0):bY 0 l=some l.sum∧mD l.sum=true:=by
 unfold eI at h;cases e:bY 0 l with
 |none=>rw[e]at h;simp at h
 |some s =>
  have a:=xI _ _ _ e;have b:=Io l 0 s (by decide +kernel) e
  have:s=l.sum:=by omega
  subst this;exact⟨rfl,b⟩
theorem PT {l:List Int} (h:kY l≤288230376151711744):eI l=0∧dU l=l.sum:=by
 have:=tU l 0 (by simpa using h)
 simp[eI,dU,this]
def qs (l:List bF):Int:=(l.map (·.q)).sum
def vs (l:List bF):Int:=(l.map (·.v)).sum
def ps (l:List bF):Int:=(l.map (·.p)).sum
def F8 (l:List bF):Int:=kY (l.map (·.p))
theorem fV (x:bF) (l:List bF):qs (x::l)=x.q+qs l:=by simp[qs]
theorem jP (x:bF) (l:List bF):vs (x::l)=x.v+vs l:=by simp[vs]
theorem Om (x:bF) (l:List bF):ps (x::l)=x.p+ps l:=by simp[ps]
theorem mV (x:bF) (l:List bF):F8 (x::l)=max x.p (-x.p)+F8 l:=by simp[F8,qX]
theorem aai (l:List bF):0≤F8 l:=Cy _
theorem Az (l:List bF):-F8 l≤ps l∧ps l≤F8 l:=NZ _
structure LR (l:List bF):Prop where
 len:l.length≤30
 ok:∀x,x∈l→jE x=true
 q:qs l≤288230376151711744
 v:vs l≤288230376151711744
 p:F8 l≤288230376151711744
theorem LR.at_ {l:List bF} (h:LR l) {x:bF} (hx:x∈l):1≤x.q∧x.q≤288230376151711744∧0≤x.v∧x.v≤288230376151711744∧-288230376151711744≤x.p∧x.p≤288230376151711744:=cT.1 (h.ok x hx)
theorem LR.tail {x:bF} {l:List bF} (h:LR (x::l)):LR l:=by
 obtain⟨a,b,c,d,e⟩:=h;have:=cT.1 (b x (by simp))
 rw[fV]at c;rw[jP]at d;rw[mV]at e
 simp only[List.length_cons]at a;exact⟨by omega,fun y hy=>b y (by simp[hy]),by omega,by omega,by omega⟩
theorem gW {l:List bF} (h:∀x,x∈l→jE x=true):0≤qs l∧0≤vs l∧(l.length:Int)≤qs l:=by
 induction l with
 |nil=>simp[qs,vs]
 |cons x l ih =>
  have:=cT.1 (h x (by simp))
  have:=ih fun y hy=>h y (by simp[hy])
  rw[fV,jP,List.length_cons];omega
theorem LR.TJ {l:List bF} (h:LR l):bY 0 (l.map (·.q))=some (qs l)∧bY 0 (l.map (·.v))=some (vs l)∧bY 0 (l.map (·.p))=some (ps l)∧bY 0 (l.map iV)=some (F8 l):=by
 have e1:kY (l.map (·.q))=qs l:=ED fun z hz=>by obtain⟨x,hx,rfl⟩:=List.mem_map.1 hz;have:=h.at_ hx;omega
 have e2:kY (l.map (·.v))=vs l:=ED fun z hz=>by obtain⟨x,hx,rfl⟩:=List.mem_map.1 hz;have:=h.at_ hx;omega
 have e3:(l.map iV).sum=F8 l:=by simp only[F8,kY,List.map_map];rfl
 have e4:kY (l.map iV)=F8 l:=by rw[ED,e3];intro z hz;obtain⟨x,hx,rfl⟩:=List.mem_map.1 hz;unfold iV;omega
 have hq:=h.q;have hv:=h.v;have hp:=h.p
 have f1:=tU (l.map (·.q)) 0 (by omega)
 have f2:=tU (l.map (·.v)) 0 (by omega)
 have f3:=tU (l.map (·.p)) 0 (by unfold F8 at hp;omega)
 have f4:=tU (l.map iV) 0 (by omega)
 rw[e3]at f4;simp only[Int.zero_add]at f1 f2 f3 f4;exact⟨f1,f2,f3,f4⟩
theorem LR.vV {l:List bF} (h:LR l):vV l=⟨qs l,vs l,ps l⟩∧Mo l=0:=by
 obtain⟨a,b,c,-⟩:=h.TJ;have ht:nC l=true:=by simp[nC,eI,a,b,c]
 rw[(FE ht).1,(FE ht).2];simp[dU,a,b,c]
theorem LR.right {l:List bF} (h:LR l):gT l=true:=by
 obtain⟨-,-,-,d⟩:=h.TJ;have hl:=h.len;exact kO.2 ⟨by omega,List.all_eq_true.2 h.ok,h.vV.2,by simp[eI,d]⟩
theorem LR.of {l:List bF} (h:gT l=true):LR l:=by
 obtain⟨a,b,c,d⟩:=kO.1 h;obtain⟨sq,sv,sp,e1,e2,e3,e4⟩:=uS h;have k1:=eP.1 (Io _ 0 _ (by decide +kernel) e1)
 have k2:=eP.1 (Io _ 0 _ (by decide +kernel) e2)
 have m1:=xI _ _ _ e1;have m2:=xI _ _ _ e2;have m3:=(abY d).2
 have m4:(l.map iV).sum=F8 l:=by simp only[F8,kY,List.map_map];rfl
 rw[m4]at m3;have m3:=eP.1 m3;exact⟨by omega,List.all_eq_true.1 b,by unfold qs;omega,by unfold vs;omega,by omega⟩
theorem LR.nil:LR []:=⟨by simp,fun x hx=>by simp at hx,by simp[qs],by simp[vs],by simp[F8,kY]⟩
theorem LR.one {x:bF} (h:jE x=true):LR [x]:=by
 have k:=cT.1 h;refine⟨by simp,fun y hy=>?_,by simp[qs];omega,by simp[vs];omega,by simp[F8,kY];omega⟩
 rw[List.mem_singleton.1 hy];exact h
theorem afO {x:bF} {q:Int} (h:jE x=true) (h0:0≤q) (h1:q≤x.q) :
  max (x.p-cA x.p q x.q) (-(x.p-cA x.p q x.q))≤max x.p (-x.p)∧max (cA x.p q x.q) (-cA x.p q x.q)≤max x.p (-x.p):=by
 obtain⟨k1,k2,k3,k4,k5,k6⟩:=cT.1 h;have b:=xP (v:=x.p) k1 h0 h1 (eP.2 ⟨by omega,by omega⟩)
 by_cases hp:0≤x.p
 ·have:=b.1 hp;omega
 ·have:=b.2 (by omega);omega
theorem akK {x:bF} {q:Int} (h:jE x=true) (h0:0≤q) (h1:q≤x.q) :
  max (x.p-cA x.p q x.q) (-(x.p-cA x.p q x.q))+max (cA x.p q x.q) (-cA x.p q x.q)=max x.p (-x.p):=by
 obtain⟨k1,k2,k3,k4,k5,k6⟩:=cT.1 h;have b:=xP (v:=x.p) k1 h0 h1 (eP.2 ⟨by omega,by omega⟩)
 by_cases hp:0≤x.p
 ·have:=b.1 hp;omega
 ·have:=b.2 (by omega);omega
theorem XW {x:bF} {q:Int} (h:jE x=true) (h0:1≤q) (h1:q<x.q):jE (jT x (iS x q))=true∧jE (iS x q)=true:=by
 obtain⟨k1,k2,k3,k4,k5,k6⟩:=cT.1 h;have b:=Pe h (q:=q) (by omega) (by omega)
 have:=b.v0;have:=b.v1;have:=b.p0;have:=b.p1;have:=b.d0;have:=b.d1
 simp only[cT,jT,iS];omega
theorem OD (l:List bF):∀(a:bF) (q:Int),LR l→LR (iW l a q).1∧qs (iW l a q).1≤qs l∧vs (iW l a q).1≤vs l∧F8 (iW l a q).1≤F8 l:=by
 induction l with
 |nil=>intro a q h;exact⟨h,Int.le_refl _,Int.le_refl _,Int.le_refl _⟩
 |cons x r ih =>
  intro a q h;simp only[iW];have hx:=h.ok x (by simp)
  have hk:=cT.1 hx;split
  ·exact⟨h,Int.le_refl _,Int.le_refl _,Int.le_refl _⟩
  ·split
   ·have c:=XW hx (q:=q) (by omega) (by omega)
    have cp:=afO hx (q:=q) (by omega) (by omega)
    have cb:=Pe hx (q:=q) (by omega) (by omega)
    have e1:qs (jT x (iS x q)::r)=qs (x::r)-q:=by rw[fV,fV];simp only[jT,iS];omega
    have e2:vs (jT x (iS x q)::r)=vs (x::r)-cA x.v q x.q:=by rw[jP,jP];simp only[jT,iS];omega
    have e3:F8 (jT x (iS x q)::r)≤F8 (x::r):=by rw[mV,mV];simp only[jT,iS];omega
    have:=cb.v0;have hq:=h.q;have hv:=h.v;have hp:=h.p
    dsimp only
    exact⟨⟨h.len,fun y hy=>by rcases List.mem_cons.1 hy with rfl|hy;exact c.1;exact h.ok y (by simp[hy]),by omega,by omega,by omega⟩,by omega,by omega,e3⟩
   ·obtain⟨i1,i2,i3,i4⟩:=ih (fX a x) (q-x.q) h.tail
    rw[fV,jP,mV];exact⟨i1,by omega,by omega,by omega⟩
theorem wN (l:List bF):∀(a:bF) (q:Int),LR l→0≤q→q≤qs l →
  (iW l a q).2.q=a.q+q∧qs (iW l a q).1=qs l-q∧(iW l a q).2.v+vs (iW l a q).1=a.v+vs l∧(iW l a q).2.p+ps (iW l a q).1=a.p+ps l:=by
 induction l with
 |nil=>intro a q h h0 h1;simp[qs]at h1;simp only[iW,qs,vs,ps];simp;omega
 |cons x r ih =>
  intro a q h h0 h1;simp only[iW];have hx:=h.ok x (by simp)
  have hk:=cT.1 hx;split
  ·dsimp only;exact⟨by omega,by omega,rfl,rfl⟩
  ·split
   ·dsimp only
    rw[fV,jP,Om,fV,jP,Om];dsimp only[fX,jT,iS]
    exact⟨by omega,by omega,by omega,by omega⟩
   ·rw[fV]at h1
    obtain⟨i1,i2,i3,i4⟩:=ih (fX a x) (q-x.q) h.tail (by omega) (by omega)
    rw[fV,jP,Om,i1,i2,i3,i4];simp only[fX];exact⟨by omega,by omega,by omega,by omega⟩
theorem FN {l:List bF} {q:Int} (h:LR l) (h0:1≤q) (h1:q≤qs l):dJ l q=((iW l .zero q).1,(iW l .zero q).2,0):=by
 rw[dJ,if_neg (by omega),if_neg (by rw[h.vV.1];simp only;omega)]
theorem zN {l:List bF} {q:Int} (h:LR l) (h0:1≤q) (h1:qs l<q):dJ l q=(l,.zero,5):=by
 rw[dJ,if_neg (by omega),if_pos (by rw[h.vV.1];simp only;omega)]
theorem pI {l:List bF} {q:Int} (h:LR l):LR (dJ l q).1:=by
 unfold dJ;split
 ·exact h
 ·split
  ·exact h
  ·exact(OD l _ _ h).1
def AY (l:List bF) (x:bF):List bF×Int :=
 if x.q<1∨x.v<0 then(l,1)else if 30≤l.length then(l,6)else if gT (l++[x])then(l++[x],0)else(l,2)
theorem afq {l:List bF} {x:bF} (h:LR l):LR (AY l x).1:=by
 unfold AY;split
 ·exact h
 ·split
  ·exact h
  ·split
   ·exact LR.of (by assumption)
   ·exact h
theorem acj (l m:List bF):qs (l++m)=qs l+qs m:=by simp[qs]
theorem abS (l m:List bF):vs (l++m)=vs l+vs m:=by simp[vs]
theorem abn {l:List bF} (h:∀x,x∈l→jE x=true):eH (flat l):=by
 intro z hz;obtain⟨x,hx,hz⟩:=List.mem_flatMap.1 hz;have:=cT.1 (h x hx)
 simp at hz
 exact⟨by rcases hz with rfl|rfl|rfl<;>omega,by rcases hz with rfl|rfl|rfl<;>omega⟩
structure dO where
 a:Int
 n:Int
def dO.val (x:dO):Value:=.agg #[.int .i64 x.a,.int .i64 x.n]
def dO.zero:dO:=⟨0,0⟩
def eF (l:List dO):List Int:=l.flatMap fun x=>[x.a,x.n]
theorem xZ (l:List dO):(eF l).length=l.length*2:=by
 induction l with
 |nil=>rfl
 |cons x l ih=>simp only[eF,List.flatMap_cons,List.length_append,List.length_cons,List.length_nil]at ih ⊢;omega
theorem Nx (l:List dO):∀(i:Nat) (x:dO),l[i]?=some x→(eF l).getD (i*2) 0=x.a∧(eF l).getD (i*2+1) 0=x.n:=by
 induction l with
 |nil=>intro i x h;simp at h
 |cons y l ih =>
  intro i x h;cases i with
  |zero=>simp at h;subst h;exact⟨rfl,rfl⟩
  |succ i =>
   have:=ih i x (by simpa using h)
   have e:∀k,(eF (y::l)).getD ((i+1)*2+k) 0=(eF l).getD (i*2+k) 0:=by
    intro k;show([y.a,y.n]++eF l).getD ((i+1)*2+k) 0=_
    rw[List.getD_eq_getElem?_getD,List.getElem?_append_right (by simp;omega),←List.getD_eq_getElem?_getD]
    congr 1
    simp
    omega
   have e0:=e 0;have e1:=e 1
   simp only[Nat.add_zero]at e0;rw[e0,e1];exact this
theorem Ny {l:List dO} (h:eH (eF l)) {x:dO} (hx:x∈l):jY x.a∧jY x.n :=
 ⟨h _ (List.mem_flatMap.2 ⟨x,hx,by simp⟩),h _ (List.mem_flatMap.2 ⟨x,hx,by simp⟩)⟩
theorem A5 {l:List dO} (h:∀x,x∈l→jY x.a∧jY x.n):eH (eF l):=by
 intro z hz;obtain⟨x,hx,hz⟩:=List.mem_flatMap.1 hz;simp at hz
 rcases hz with rfl|rfl
 ·exact(h x hx).1
 ·exact(h x hx).2
structure lO (b:Nat) (w w':World):Prop where
 os:w'.os=w.os
 tape:w'.tape=w.tape
 output:w'.output=w.output
 size:w.heap.size≤w'.heap.size
 block:∀k,k<w.heap.size→k≠b→w'.heap[k]?=w.heap[k]?
 afw:∀i,w'.frozen? ⟨b,i,none⟩=w.frozen? ⟨b,i,none⟩
theorem lO.refl (b:Nat) (w:World):lO b w w:=⟨rfl,rfl,rfl,Nat.le_refl _,fun _ _ _=>rfl,fun _=>rfl⟩
theorem lO.trans {b:Nat} {u v w:World} (h:lO b u v) (k:lO b v w):lO b u w :=
 ⟨k.os.trans h.os,k.tape.trans h.tape,k.output.trans h.output,Nat.le_trans h.size k.size,fun i hi hn=>(k.block i (Nat.lt_of_lt_of_le hi h.size) hn).trans (h.block i hi hn),fun i=>(k.afw i).trans (h.afw i)⟩
theorem lO.of {b:Nat} {w w':World} (h:Below w.heap.size w w') (hb:b<w.heap.size):lO b w w' :=
 ⟨h.os,h.tape,h.output,h.size,fun i hi _=>h.block i hi,fun i=>h.frozen (p:=⟨b,i,none⟩) hb⟩
theorem lO.then {b:Nat} {u v w:World} (h:lO b u v) (k:Below v.heap.size v w) (hb:b<u.heap.size):lO b u w:=h.trans (lO.of k (Nat.lt_of_lt_of_le hb h.size))
theorem lO.drew {b:Nat} {u v:World} (h:lO b u v):lO b u v.drew:=⟨h.os,h.tape,h.output,h.size,h.block,h.afw⟩
theorem lO.drewN {b:Nat} {u v:World} (h:lO b u v) (n:Nat):lO b u (v.drewN n):=by
 have:=below_drewN (Below.refl v.heap.size v) n
 exact⟨this.os.trans h.os,this.tape.trans h.tape,this.output.trans h.output,Nat.le_trans h.size this.size,fun i hi hn=>(this.block i (Nat.lt_of_lt_of_le hi h.size)).trans (h.block i hi hn),fun i=>(by simpa using h.afw i)⟩
theorem lO.set {b:Nat} {u v:World} (h:lO b u v) (i:Nat) (x:Value):lO b u (v.setCell ⟨b,i,none⟩ x) :=
 ⟨h.os,h.tape,h.output,by simpa[World.setCell]using h.size,fun k hk hn=>(Below.heap_setCell _ _ _ _ hn).trans (h.block k hk hn),fun j=>by rw[World.frozen?_setCell];exact h.afw j⟩
theorem lO.below {b B:Nat} {w w':World} (h:lO b w w') (hB:B≤w.heap.size) (hb:B≤b):Below B w w' :=
 ⟨h.os,h.tape,h.output,h.size,fun k hk=>h.block k (Nat.lt_of_lt_of_le hk hB) (by omega)⟩
theorem lO.cell {b:Nat} {w w':World} (h:lO b w w') {c i:Nat} (hc:c<w.heap.size) (hn:c≠b):w'.cell? ⟨c,i,none⟩=w.cell? ⟨c,i,none⟩:=World.cell?_of_block (w:=w) (h.block c hc hn)
theorem bJ.line {w:World} {b off:Nat} {l:List dO} {j:Nat} {x:dO} (hc:bJ w b off (eF l)) (hx:l[j]?=some x) :
  w.cell? ⟨b,off+j*2,none⟩=some (.int .i64 x.a)∧w.cell? ⟨b,off+j*2+1,none⟩=some (.int .i64 x.n):=by
 have hg:=Nx l j x hx;have hfl:=xZ l;have hj:j<l.length:=by
  rcases Nat.lt_or_ge j l.length with h|h
  ·exact h
  ·rw[List.getElem?_eq_none h]at hx;cases hx
 exact⟨by rw[hc (j*2) (by omega),hg.1],by rw[Nat.add_assoc,hc (j*2+1) (by omega),hg.2]⟩
theorem bJ.RM {w:World} {b off:Nat} {l:List dO} (h:∀j x,l[j]?=some x→w.cell? ⟨b,off+j*2,none⟩=some (.int .i64 x.a)∧w.cell? ⟨b,off+j*2+1,none⟩=some (.int .i64 x.n)):bJ w b off (eF l):=by
 intro i hi;have hfl:=xZ l;have hj:i/2<l.length:=by omega
 have hx:l[i/2]?=some l[i/2]:=by simp[hj]
 have hg:=Nx l (i/2) _ hx
 have hc:=h (i/2) _ hx
 by_cases e:i%2=0
 ·have ei:i=i/2*2:=by omega
  rw[show off+i=off+i/2*2 by omega,hc.1,←hg.1,←ei]
 ·have ei:i=i/2*2+1:=by omega
  rw[show off+i=off+i/2*2+1 by omega,hc.2,←hg.2,←ei]
def Mr (w:World) (b off:Nat) (x:dO):World:=(w.setCell ⟨b,off,none⟩ (.int .i64 x.a)).setCell ⟨b,off+1,none⟩ (.int .i64 x.n)
theorem ab8 {w:World} {b off:Nat} {l:List dO} (hc:bJ w b off (eF l)) {i:Nat} (hi:i<l.length) (x:dO):bJ (Mr w b (off+i*2) x) b off (eF (l.set i x)):=by
 refine bJ.RM fun j y hy=>?_
 have h0:=(hc.line (j:=i) (x:=l[i]) (by simp[hi]))
 by_cases e:i=j
 ·subst e
  rw[List.getElem?_set_self (by omega)]at hy
  cases hy;unfold Mr;refine⟨?_,?_⟩
  ·rw[World.cell?_setCell_other _ _ _ _ (by intro e2;injection e2;omega),World.cell?_setCell_same _ _ _ h0.1]
  ·rw[World.cell?_setCell_same _ _ _ (by rw[World.cell?_setCell_other _ _ _ _ (by intro e2;injection e2;omega)];exact h0.2)]
 ·rw[List.getElem?_set_ne e]at hy
  have:=hc.line hy
  unfold Mr;refine⟨?_,?_⟩
  ·rw[World.cell?_setCell_other _ _ _ _ (by intro e2;injection e2;omega),World.cell?_setCell_other _ _ _ _ (by intro e2;injection e2;omega)];exact this.1
  ·rw[World.cell?_setCell_other _ _ _ _ (by intro e2;injection e2;omega),World.cell?_setCell_other _ _ _ _ (by intro e2;injection e2;omega)];exact this.2
theorem lO.Mr {b:Nat} {u v:World} (h:lO b u v) (i:Nat) (x:dO):lO b u (Go.Proofs.YtnepgggkgnckcaaGreat.Mr v b i x):=(h.set _ _).set _ _
end
section
open Mc
structure yJ where
 (aU item loc eT value rC bZ back:Int)
structure pZ where
 (aU item loc eT back cost dV period:Int)
 waits:Bool
structure PG where
 (src dst item eT value dV:Int)
structure dF where
 bH:List bF
 (p0 p1 p2:Int)
structure EntC where
 now:Int
 closed:Bool
 bM:List dF
 eJ:List Int
 aF:List (List Int)
 bD:List Int
 down:List Int
structure dR extends EntC where
 ahead:List EntC
structure bL where
 (aB aD:Int)
 weights:List Int
 methods:List (List Int)
 cP:List (List Int)
 bG:List dR
 aH:List yJ
 aM:List pZ
 bK:List PG
 done:Int
def iC (l:List Int):List AV:=l.map AV.i
def Eh (k:Nat) (l:List (List Int)):AV:=.lit k (l.map iC)
def bF.r (x:bF):List Int:=[x.q,x.v,x.p]
def dO.r (x:dO):List Int:=[x.a,x.n]
def yJ.r (x:yJ):List Int:=[x.aU,x.item,x.loc,x.eT,x.value,x.rC,x.bZ,x.back]
def PG.r (x:PG):List Int:=[x.src,x.dst,x.item,x.eT,x.value,x.dV]
def pZ.row (x:pZ):List AV:=[.i x.aU,.i x.item,.i x.loc,.i x.eT,.i x.back,.i x.cost,.i x.dV,.i x.period,.c (.bool x.waits)]
def aA (l:List Int):List (List AV):=l.map fun v=>[.i v]
def aG (l:List bF):List (List AV):=l.map fun x=>iC x.r
def dQ (l:List dO):List (List AV):=l.map fun x=>iC x.r
def gH (l:List yJ):List (List AV):=l.map fun x=>iC x.r
def gG (l:List PG):List (List AV):=l.map fun x=>iC x.r
def cR (l:List pZ):List (List AV):=l.map pZ.row
def bQ (l:List (List Int)):List (List AV):=l.map iC
def aO (l:List (List Int)):List (List AV):=l.map fun x=>[.lit 1 (aA x)]
def dF.row (p:dF):List AV:=[.lit 3 (aG p.bH),.i p.p0,.i p.p1,.i p.p2]
def bU (l:List dF):List (List AV):=l.map dF.row
def EntC.row (x:EntC) (ahead:List (List AV)):List AV:=[.i x.now,.c (.bool x.closed),.lit 4 (bU x.bM),.lit 1 (aA x.eJ),.lit 11 (bQ x.aF),.lit 1 (aA x.bD),.lit 1 (aA x.down),.lit 8 ahead]
def cN (l:List EntC):List (List AV):=l.map fun x=>x.row []
def dR.row (x:dR):List AV:=x.toEntC.row (cN x.ahead)
def aN (l:List dR):List (List AV):=l.map dR.row
def bL.av (s:bL):AV:=.agg [.i s.aB,.i s.aD,.lit 1 (aA s.weights),.lit 1 (aO s.methods),.lit 1 (aO s.cP),.lit 8 (aN s.bG),.lit 8 (gH s.aH),.lit 9 (cR s.aM),.lit 6 (gG s.bK),.i s.done]
def bF.av (x:bF):AV:=.agg (iC x.r)
def dF.av (p:dF):AV:=.agg p.row
def nB (l:List (List AV)):Prop:=∀r∈l,∀x∈r,Cl x
theorem nB.lit {sz:Nat} {l:List (List AV)} (h:nB l):Cl (.lit sz l):=.lit sz l h
theorem nB.nil:nB []:=fun r h=>absurd h List.not_mem_nil
theorem vD (l:List Int):∀x∈iC l,Cl x:=by
 intro x hx;obtain⟨v,-,rfl⟩:=List.mem_map.1 hx;exact .c _
theorem nB.map {α:Type} {f:α→List AV} (h:∀a x,x∈f a→Cl x) (l:List α):nB (l.map f):=by
 intro r hr x hx;obtain⟨a,-,rfl⟩:=List.mem_map.1 hr;exact h a x hx
theorem gJ (l:List Int):nB (aA l):=nB.map (fun v x hx=>by rw[List.mem_singleton]at hx;subst hx;exact .c _) l
theorem sK (l:List bF):nB (aG l):=nB.map (fun v x hx=>vD _ x hx) l
theorem F5 (l:List dO):nB (dQ l):=nB.map (fun v x hx=>vD _ x hx) l
theorem Ph (l:List yJ):nB (gH l):=nB.map (fun v x hx=>vD _ x hx) l
theorem Pf (l:List PG):nB (gG l):=nB.map (fun v x hx=>vD _ x hx) l
theorem LJ (l:List (List Int)):nB (bQ l):=nB.map (fun v x hx=>vD _ x hx) l
theorem Pg (l:List pZ):nB (cR l):=nB.map (fun v x hx=>by simp only[pZ.row,List.mem_cons,List.not_mem_nil,or_false]at hx;rcases hx with rfl|rfl|rfl|rfl|rfl|rfl|rfl|rfl|rfl<;>exact .c _) l
theorem jG (l:List (List Int)):nB (aO l):=nB.map (fun v x hx=>by rw[List.mem_singleton]at hx;subst hx;exact(gJ v).lit) l
theorem zS (p:dF):∀x∈p.row,Cl x:=by
 intro x hx;simp only[dF.row,List.mem_cons,List.not_mem_nil,or_false]at hx;rcases hx with rfl|rfl|rfl|rfl
 ·exact(sK _).lit
 all_goals exact .c _
theorem LK (l:List dF):nB (bU l):=nB.map (fun v x hx=>zS v x hx) l
theorem NF (e:EntC) {ah:List (List AV)} (ha:nB ah):∀x∈e.row ah,Cl x:=by
 intro x hx;simp only[EntC.row,List.mem_cons,List.not_mem_nil,or_false]at hx;rcases hx with rfl|rfl|rfl|rfl|rfl|rfl|rfl|rfl
 ·exact .c _
 ·exact .c _
 ·exact(LK _).lit
 ·exact(gJ _).lit
 ·exact(LJ _).lit
 ·exact(gJ _).lit
 ·exact(gJ _).lit
 ·exact ha.lit
theorem SH (l:List EntC):nB (cN l):=nB.map (fun v x hx=>NF v nB.nil x hx) l
theorem F6 (l:List dR):nB (aN l):=nB.map (fun v x hx=>NF _ (SH _) x hx) l
theorem al9 (s:bL):Cl s.av:=by
 refine .agg _ fun x hx=>?_
 simp only[List.mem_cons,List.not_mem_nil,or_false]at hx;rcases hx with rfl|rfl|rfl|rfl|rfl|rfl|rfl|rfl|rfl|rfl
 ·exact .c _
 ·exact .c _
 ·exact(gJ _).lit
 ·exact(jG _).lit
 ·exact(jG _).lit
 ·exact(F6 _).lit
 ·exact(Ph _).lit
 ·exact(Pg _).lit
 ·exact(Pf _).lit
 ·exact .c _
theorem aX {x:AV} {l:List AV} (h:Cl x) (hl:∀y∈l,Cl y):∀y∈x::l,Cl y:=by
 intro y hy;rcases List.mem_cons.1 hy with rfl|hy
 ·exact h
 ·exact hl y hy
theorem eR:∀y∈([]:List AV),Cl y:=fun y h=>absurd h List.not_mem_nil
theorem SJ {r:List AV} {l:List (List AV)} (h:∀x∈r,Cl x) (hl:nB l):nB (r::l):=by
 intro y hy;rcases List.mem_cons.1 hy with rfl|hy
 ·exact h
 ·exact hl y hy
theorem X4 {a b:List (List AV)} (h:nB a) (g:nB b):nB (a++b):=by
 intro y hy;rcases List.mem_append.1 hy with hy|hy
 ·exact h y hy
 ·exact g y hy
theorem abx {a:List (List AV)} {i:Nat} {r:List AV} (h:nB a) (g:∀x∈r,Cl x):nB (a.set i r):=by
 intro y hy;rcases List.mem_or_eq_of_mem_set hy with hy|rfl
 ·exact h y hy
 ·exact g
theorem wX {k:Nat}:∀(l:List (List Int)),(∀r∈l,r.length=k)→l.flatten.length=l.length*k
 |[],_=>by simp
 |r::l,h=>by
  rw[List.flatten_cons,List.length_append,wX l (fun r hr=>h r (List.mem_cons_of_mem _ hr)),h r List.mem_cons_self,List.length_cons,Nat.succ_mul]
  omega
theorem wY {k:Nat}:∀(l:List (List Int)),(∀r∈l,r.length=k)→∀(i j:Nat) (r:List Int),l[i]?=some r→j<k→l.flatten.getD (i*k+j) 0=r.getD j 0
 |[],_,i,j,r,h,_=>by simp at h
 |x::l,hl,0,j,r,h,hj=>by
  simp only[List.getElem?_cons_zero,Option.some.injEq]at h;subst h;have:=hl x List.mem_cons_self
  rw[List.flatten_cons,List.getD,List.getElem?_append_left (by omega)]
  simp[List.getD]
 |x::l,hl,i+1,j,r,h,hj=>by
  have h1:=hl x List.mem_cons_self;have ih:=wY l (fun r hr=>hl r (List.mem_cons_of_mem _ hr)) i j r (by simpa using h) hj
  rw[List.flatten_cons,List.getD,List.getElem?_append_right (by rw[Nat.succ_mul];omega),←ih,List.getD]
  congr 2
  rw[Nat.succ_mul];omega
theorem zI {A:Nat→Prop} {w:World} {k:Nat} {l:List (List Int)} {v:Value} (h:@cO dI dN A w (Eh k l) v) (hI:eH l.flatten) (hk:∀r∈l,r.length=k):∃a cap,v=.slice a l.length cap∧Row w k a l.length cap l.flatten:=by
 have hlen:l.flatten.length=l.length*k:=wX l hk
 generalize hy:Eh k l=y at h
 cases h with
 |lit s es b off cap vs hA hb hc hsz h1 hv hr =>
  unfold Eh at hy;cases hy;have hl:(l.map iC).length=l.length:=by simp
  rw[hl]at hc ⊢;refine⟨_,cap,rfl,⟨hlen,hc.1,hc.2,hI,.inr ⟨b,off,rfl,hb,?_⟩⟩⟩
  intro i hi;have hi':i<l.length*k:=by rw[←hlen];exact hi
  have k0:0<k:=by
   rcases Nat.eq_zero_or_pos k with h|h
   ·rw[h]at hi';simp at hi'
   ·exact h
  have hq:i/k<l.length:=(Nat.div_lt_iff_lt_mul k0).2 hi'
  have hm:i%k<k:=Nat.mod_lt _ k0
  have PF:(l[i/k]).length=k:=hk _ (List.getElem_mem hq)
  have e3:i/k*k+i%k=i:=by rw[Nat.mul_comm];exact Nat.div_add_mod i k
  have ha:fD (l.map iC) (i/k) (i%k)=some (AV.i ((l[i/k]).getD (i%k) 0)):=by
   unfold fD iC;rw[List.getElem?_map,List.getElem?_eq_getElem hq];have hlt:i%k<(l[i/k]).length:=by omega
   simp only[Option.map_some,Option.bind_some,List.getElem?_map,List.getD,List.getElem?_eq_getElem hlt,Option.getD_some]
  have e1:=hv _ _ _ ha;have e2:=hr _ _ _ ha;rw[e3]at e1;rw[e1];have e4:=wY l hk (i/k) (i%k) _ (List.getElem?_eq_getElem hq) hm
  rw[e3]at e4;rw[e4];generalize vs (i/k) (i%k)=u at e2
  cases e2;rfl
 |lJ s a cap hm =>
  unfold Eh at hy;injection hy with e1 e2
  rw[List.map_eq_nil_iff]at e2;subst e2;exact⟨a,cap,rfl,⟨hlen,Nat.zero_le _,hm,hI,.inl rfl⟩⟩
 |_=>unfold Eh at hy;cases hy
theorem uT {A:Nat→Prop} {w:World} {k:Nat} {l:List (List Int)} {a:Option Addr} {cap:Nat} (hk:∀r∈l,r.length=k) (hc:l.length≤cap) (hm:cap≤maxLen)
  (h:l.length=0∨∃b off,a=some ⟨b,off,none⟩∧¬ A b∧b<w.heap.size∧bJ w b off l.flatten):@cO dI dN A w (Eh k l) (.slice a l.length cap):=by
 rcases h with h|⟨b,off,rfl,hA,hb,hC⟩
 ·have:l=[]:=List.length_eq_zero_iff.1 h
  subst this;exact @cO.lJ dI dN A w k a cap hm
 ·have hl:(l.map iC).length=l.length:=by simp
  unfold Eh;rw[←hl]at hc ⊢;have key:∀(i j:Nat) (x:AV),fD (l.map iC) i j=some x→i<l.length∧j<k∧x=AV.i (l.flatten.getD (i*k+j) 0):=by
   intro i j x hx;unfold fD iC at hx;rw[List.getElem?_map]at hx;cases hr:l[i]? with
   |none=>rw[hr]at hx;cases hx
   |some r =>
    rw[hr]at hx;simp only[Option.map_some,Option.bind_some,List.getElem?_map]at hx;obtain⟨z,hz,rfl⟩:=Option.map_eq_some_iff.1 hx;have hrk:=hk r (List.mem_of_getElem? hr)
    have hj:j<k:=by rw[←hrk];exact(List.getElem?_eq_some_iff.1 hz).1
    refine⟨(List.getElem?_eq_some_iff.1 hr).1,hj,?_⟩
    rw[wY l hk i j r hr hj,List.getD,hz];rfl
  refine @cO.lit dI dN A w k _ b off cap (fun i j=>.int .i64 (l.flatten.getD (i*k+j) 0)) hA hb ⟨hc,hm⟩ ?_ ?_ ?_ ?_
  ·intro e he
   obtain⟨r,hr,rfl⟩:=List.mem_map.1 he;unfold iC;rw[List.length_map];exact hk r hr
  ·intro i j x hx
   obtain⟨-,-,rfl⟩:=key i j x hx;rfl
  ·intro i j x hx
   obtain⟨h1,h2,-⟩:=key i j x hx;refine hC _ ?_
   rw[wX l hk];have:(i+1)*k≤l.length*k:=Nat.mul_le_mul_right _ h1
   rw[Nat.succ_mul]at this;omega
  ·intro i j x hx
   obtain⟨-,-,rfl⟩:=key i j x hx;exact @cO.c dI dN A w _
theorem XQ (l:List bF):(l.map bF.r).flatten=flat l:=by
 induction l with
 |nil=>rfl
 |cons x l ih=>simp only[List.map_cons,List.flatten_cons,ih,flat,List.flatMap_cons];rfl
theorem O6 (l:List dO):(l.map dO.r).flatten=eF l:=by
 induction l with
 |nil=>rfl
 |cons x l ih=>simp only[List.map_cons,List.flatten_cons,ih,eF,List.flatMap_cons];rfl
theorem FX (l:List Int):(l.map fun v=>[v]).flatten=l:=by
 induction l with
 |nil=>rfl
 |cons x l ih=>simp only[List.map_cons,List.flatten_cons,ih];rfl
theorem Sf (l:List bF):AV.lit 3 (aG l)=Eh 3 (l.map bF.r):=by unfold aG Eh;rw[List.map_map];rfl
theorem Sa (l:List dO):AV.lit 2 (dQ l)=Eh 2 (l.map dO.r):=by unfold dQ Eh;rw[List.map_map];rfl
theorem Lo (l:List Int):AV.lit 1 (aA l)=Eh 1 (l.map fun v=>[v]):=by unfold aA Eh;rw[List.map_map];rfl
end
section
section
variable {α:Type} (key:α→Int)
def iI (l:List α):Prop:=l.Pairwise fun x y=>key x≤key y
def pO (l m:List α):Prop:=∀k,m.filter (fun x=>key x==k)=l.filter (fun x=>key x==k)
end
section
variable {α:Type} {key:α→Int}
theorem pO.refl (l:List α):pO key l l:=fun _=>rfl
theorem pO.trans {a b c:List α} (h:pO key a b) (k:pO key b c):pO key a c:=fun i=>(k i).trans (h i)
theorem pO.app {a b c d:List α} (h:pO key a b) (k:pO key c d):pO key (a++c) (b++d):=fun i=>by rw[List.filter_append,List.filter_append,h i,k i]
theorem pO.mem {a b:List α} (h:pO key a b) {x:α}:x∈b↔x∈a:=by
 have:=h (key x)
 constructor
 ·intro hx
  have:x∈b.filter (fun y=>key y==key x):=List.mem_filter.2 ⟨hx,by simp⟩
  rw[h (key x)]at this;exact(List.mem_filter.1 this).1
 ·intro hx
  have:x∈a.filter (fun y=>key y==key x):=List.mem_filter.2 ⟨hx,by simp⟩
  rw[←h (key x)]at this;exact(List.mem_filter.1 this).1
theorem iI.app {a b:List α}:iI key (a++b)↔iI key a∧iI key b∧∀x,x∈a→∀y,y∈b→key x≤key y:=List.pairwise_append
theorem iI.one (x:α):iI key [x]:=by simp[iI]
theorem iI.nil:iI key ([]:List α):=List.Pairwise.nil
theorem iI.last {a:List α} {y:α} (h:iI key (a++[y])):∀x,x∈a++[y]→key x≤key y:=by
 intro x hx;rcases List.mem_append.1 hx with hx|hx
 ·exact(iI.app.1 h).2.2 x hx y (by simp)
 ·simp at hx;subst hx;exact Int.le_refl _
end
section
variable {α:Type} {key:α→Int}
end
section
variable {α:Type}
theorem TO (l:List α):l=[]∨∃A y,l=A++[y]:=by
 induction l with
 |nil=>exact .inl rfl
 |cons x l ih =>
  right
  rcases ih with rfl|⟨A,y,rfl⟩
  ·exact⟨[],x,rfl⟩
  ·exact⟨x::A,y,rfl⟩
end
end
section
structure FB (w:World) (b off c:Nat) (l:List dO):Prop where
 cells:bJ w b off (eF l)
 fz:∀i,w.frozen? ⟨b,i,none⟩=false
 lt:b<w.heap.size
 af4:w.cell? ⟨c,0,none⟩=some (.func (.func 136) #[] #[])
 clt:c<w.heap.size
 ne:c≠b
theorem FB.drew {w:World} {b off c:Nat} {l:List dO} (h:FB w b off c l):FB w.drew b off c l:=⟨h.cells,h.fz,h.lt,h.af4,h.clt,h.ne⟩
theorem FB.below {w w':World} {b off c:Nat} {l:List dO} (h:FB w b off c l) (g:Below w.heap.size w w'):FB w' b off c l :=
 ⟨h.cells.below h.lt g,fun i=>(g.frozen (p:=⟨b,i,none⟩) h.lt).trans (h.fz i),Nat.lt_of_lt_of_le h.lt g.size,(g.cell (p:=⟨c,0,none⟩) h.clt).trans h.af4,Nat.lt_of_lt_of_le h.clt g.size,h.ne⟩
theorem FB.drewN {w:World} {b off c:Nat} {l:List dO} (h:FB w b off c l) (n:Nat):FB (w.drewN n) b off c l:=h.below (below_drewN (Below.refl _ _) n)
theorem FB.set {w:World} {b off c:Nat} {l:List dO} (h:FB w b off c l) {i:Nat} (hi:i<l.length) (x:dO):FB (Mr w b (off+i*2) x) b off c (l.set i x):=by
 refine⟨ab8 h.cells hi x,fun j=>by unfold Mr;rw[World.frozen?_setCell,World.frozen?_setCell];exact h.fz j,by unfold Mr;simpa[World.setCell]using h.lt,?_,by unfold Mr;simpa[World.setCell]using h.clt,h.ne⟩
 unfold Mr;have e (u:World) (i:Nat) (v:Value):(u.setCell ⟨b,i,none⟩ v).cell? ⟨c,0,none⟩=u.cell? ⟨c,0,none⟩:=World.cell?_of_block (w:=u) (Below.heap_setCell _ _ _ _ (show c≠b from h.ne))
 rw[e,e];exact h.af4
def ES (a:Int):Bool:=decide (0≤a)&&decide (a<17)
theorem xW {a:Int}:ES a=true↔0≤a∧a<17:=by simp[ES]
structure Pred (F:FuncId) (p:dO→Bool):Prop where
 aJ:∀(args:Array Value) (W:World),(callFunc F args).run Tryz.prog W=.ok (.enter F args) W
 ask:∀(x:dO) (W:World),Calls Tryz.prog F #[x.val] W fun e w'=>e=.returned (.bool (p x))∧Below W.heap.size W w'
def rL (x:dO):Bool:=!(ES x.a)||!(mD x.n)
def MH (x:dO):Bool:=!(ES x.a)||decide (x.n=0)||!(mD x.n)
def EF (x:dO):Bool:=decide (x.n=0)
def akN (x:dO):Bool:=!(mD x.n)
def aa6 (x:dO):Bool:=decide (x.n≤0)
theorem amD {w:World} {x:dO} {t n:Nat} (hn:n=w.heap.size):bJ (w.alloc (.cells #[.int .i64 x.a,.int .i64 x.n] t)) n 0 [x.a,x.n]:=by
 subst hn;exact bJ.new w [x.a,x.n] t
def nT (l:List dO):List Int:=l.map (·.n)
theorem lO.setCells {b:Nat} {u:World}:∀(vs:List Value) (o:Nat) (w:World),lO b u w→lO b u (w.setCells b o vs)
 |[],_,_,h=>h
 |v::r,o,w,h=>lO.setCells r (o+1) _ (h.set o v)
theorem bJ.clear {w:World} {b off k:Nat} {zs:List Int} {vs:List Value} (h:bJ w b off zs) (hk:zs.length≤k):bJ (w.setCells b (off+k) vs) b off zs:=by
 intro i hi;rw[World.cell?_setCells_out b vs (off+k) w ⟨b,off+i,none⟩ (fun _ _=>.inl (by simp only;omega))]
 exact h i hi
def kE (l:List dO) (a:Int):List Int:=nT (l.filter fun x=>x.a==a)
def cY (l:List dO):List dO×Int :=
 if l.any rL then([],1)else if(List.range 17).any (fun(a:Nat)=>decide (eI (kE l (a:Int))≠0))then([],2)else
  (((List.range 17).map fun(a:Nat)=>(⟨(a:Int),dU (kE l (a:Int))⟩:dO)).filter (fun x=>!EF x),0)
def akZ (l:List dO):Prop:=l.Pairwise fun x y=>x.a<y.a
structure zC (P out:List dO):Prop where
 strict:akZ out
 acc:∀a,(∃y,y∈out∧y.a=a)↔∃x,x∈P∧x.a=a
 sum:∀y,y∈out→bY 0 (kE P y.a)=some y.n
 amA:iI dO.a P
theorem zC.nil:zC [] []:=⟨List.Pairwise.nil,by simp,by simp,iI.nil⟩
theorem pY (P:List dO) (x:dO) (a:Int):kE (P++[x]) a=if x.a=a then kE P a++[x.n]else kE P a:=by
 unfold kE nT;by_cases h:x.a=a
 ·simp[List.filter_append,h]
 ·simp[List.filter_append,h]
theorem rT (l:List Int) (z n:Int) (h:bY 0 l=some n):bY 0 (l++[z])=if fM n z then some (n+z)else none:=by
 rw[Im,h];rfl
theorem zC.more {P out:List dO} {x:dO} (h:zC P out) (hr:iI dO.a (P++[x])) (hx:mD x.n=true) (hne:∀A y,out=A++[y]→y.a≠x.a):zC (P++[x]) (out++[x]):=by
 have hle:∀y,y∈out→y.a<x.a:=by
  intro y hy;have hle':∀y,y∈out→y.a≤x.a:=fun y hy=>by
   obtain⟨z,hz,e⟩:=(h.acc y.a).1 ⟨y,hy,rfl⟩
   have:=(iI.app.1 hr).2.2 z hz x (by simp)
   omega
  rcases TO out with rfl|⟨A,y',rfl⟩
  ·simp at hy
  ·have h1:=hne A y' rfl
   have h2:=hle' y' (by simp)
   rcases List.mem_append.1 hy with hy|hy
   ·have:=(List.pairwise_append.1 h.strict).2.2 y hy y' (by simp)
    omega
   ·simp at hy;subst hy;omega
 have hno:kE P x.a=[]:=by
  unfold kE nT;rw[List.map_eq_nil_iff,List.filter_eq_nil_iff];intro z hz;simp
  intro e;obtain⟨y,hy,ey⟩:=(h.acc z.a).2 ⟨z,hz,rfl⟩
  have:=hle y hy
  omega
 refine⟨List.pairwise_append.2 ⟨h.strict,by simp,fun y hy z hz=>by simp at hz;subst hz;exact hle y hy⟩,fun a=>?_,fun y hy=>?_,hr⟩
 ·constructor
  ·rintro⟨y,hy,rfl⟩
   rcases List.mem_append.1 hy with hy|hy
   ·obtain⟨z,hz,e⟩:=(h.acc y.a).1 ⟨y,hy,rfl⟩
    exact⟨z,by simp[hz],e⟩
   ·exact⟨y,by simp at hy;simp[hy],rfl⟩
  ·rintro⟨z,hz,rfl⟩
   rcases List.mem_append.1 hz with hz|hz
   ·obtain⟨y,hy,e⟩:=(h.acc z.a).2 ⟨z,hz,rfl⟩
    exact⟨y,by simp[hy],e⟩
   ·exact⟨z,by simp at hz;simp[hz],rfl⟩
 ·rw[pY]
  rcases List.mem_append.1 hy with hy|hy
  ·have:=hle y hy
   rw[if_neg (by omega)]
   exact h.sum y hy
  ·simp at hy
   subst hy;rw[if_pos rfl,hno];have:fM 0 y.n=true:=pX.2 ⟨by decide +kernel,hx,by rw[Int.zero_add];exact hx⟩
   simp[bY,this]
theorem zC.same {P A:List dO} {x y:dO} (h:zC P (A++[y])) (hr:iI dO.a (P++[x])) (e:y.a=x.a) (ho:fM y.n x.n=true):zC (P++[x]) (A++[⟨y.a,y.n+x.n⟩]):=by
 have hs:=List.pairwise_append.1 h.strict;refine⟨List.pairwise_append.2 ⟨hs.1,by simp,fun z hz u hu=>by simp at hu;subst hu;exact hs.2.2 z hz y (by simp)⟩,fun a=>?_,fun z hz=>?_,hr⟩
 ·have:=h.acc a
  constructor
  ·rintro⟨z,hz,rfl⟩
   have:∃u,u∈P∧u.a=z.a:=this.1 (by
    rcases List.mem_append.1 hz with hz|hz
    ·exact⟨z,by simp[hz],rfl⟩
    ·simp at hz;exact⟨y,by simp,by rw[hz]⟩)
   obtain⟨u,hu,eu⟩:=this;exact⟨u,by simp[hu],eu⟩
  ·rintro⟨z,hz,rfl⟩
   have h2:∃u,u∈A++[y]∧u.a=z.a:=by
    rcases List.mem_append.1 hz with hz|hz
    ·exact this.2 ⟨z,hz,rfl⟩
    ·simp at hz;exact⟨y,by simp,by rw[hz,e]⟩
   obtain⟨u,hu,eu⟩:=h2;rcases List.mem_append.1 hu with hu|hu
   ·exact⟨u,by simp[hu],eu⟩
   ·simp at hu;subst hu;exact⟨⟨u.a,u.n+x.n⟩,by simp,eu⟩
 ·rw[pY]
  rcases List.mem_append.1 hz with hz|hz
  ·have:=hs.2.2 z hz y (by simp)
   rw[if_neg (by omega)]
   exact h.sum z (by simp[hz])
  ·simp at hz
   subst hz;rw[if_pos e.symm];rw[rT _ _ _ (h.sum y (by simp)),ho]
   rfl
theorem zC.stop {P A m:List dO} {x y:dO} {k:Nat} (h:zC P (A++[y])) (e:y.a=x.a) (ho:fM y.n x.n=false) (hP:P=m.take k) (hx:m[k]?=some x):bY 0 (kE m y.a)=none:=by
 have h1:bY 0 (kE (P++[x]) y.a)=none:=by
  rw[pY,if_pos e.symm,rT _ _ _ (h.sum y (by simp)),ho]
  rfl
 have h2:kE m y.a=kE (P++[x]) y.a++kE (m.drop (k+1)) y.a:=by
  have e2:m.take (k+1)=P++[x]:=by rw[List.take_add_one,hx,hP];rfl
  conv=>lhs;rw[←List.take_append_drop (k+1) m,e2]
  unfold kE nT;rw[List.filter_append,List.map_append]
 rw[h2,uM,h1];rfl
theorem PS (l:List Int):∀n s:Int,mD n=true→bY n l=some s→mD s=true:=by
 induction l with
 |nil=>intro n s hn h;simp[bY]at h;subst h;exact hn
 |cons z l ih =>
  intro n s hn h;simp only[bY]at h;split at h
  ·rename_i k;exact ih _ _ (pX.1 k).2.2 h
  ·cases h
theorem adb {l m:List dO} (h:pO dO.a l m) (a:Int):kE m a=kE l a:=by
 unfold kE;rw[h a]
theorem abZ {l:List Int} (h:bY 0 l=none):eI l=2:=by simp[eI,h]
theorem CU {l:List Int} {n:Int} (h:bY 0 l=some n):dU l=n∧eI l=0:=by simp[dU,eI,h]
theorem acq {l:List dO} (h:l.any rL=true):cY l=([],1):=by simp[cY,h]
theorem abj {l:List dO} (h:l.any rL=false) {x:dO} (hx:x∈l):0≤x.a∧x.a<17∧mD x.n=true:=by
 have:=List.any_eq_false.1 h x hx
 simp[rL]at this
 exact⟨(xW.1 this.1).1,(xW.1 this.1).2,this.2⟩
theorem acp {l m:List dO} {a:Int} (h:l.any rL=false) (hs:pO dO.a l m) (ha:0≤a∧a<17) (hn:bY 0 (kE m a)=none):cY l=([],2):=by
 have:(List.range 17).any (fun(a:Nat)=>decide (eI (kE l (a:Int))≠0))=true:=by
  refine List.any_eq_true.2 ⟨a.toNat,List.mem_range.2 (by omega),?_⟩
  rw[Int.toNat_of_nonneg ha.1,←adb hs,abZ hn];decide
 simp only[cY,h,this];simp
def zA (w:World) (base:Nat) (v:Value) (l:List dO):Prop :=
 ∃a cap,v=.slice a l.length cap∧l.length≤cap∧cap≤maxLen∧(l.length=0∨∃b off,a=some ⟨b,off,none⟩∧base≤b∧b<w.heap.size∧bJ w b off (eF l)∧∀i,w.frozen? ⟨b,i,none⟩=false)
theorem zA.row {w:World} {base:Nat} {v:Value} {l:List dO} (h:zA w base v l) (ha:eH (eF l)):∃a cap,v=.slice a l.length cap∧Row w 2 a l.length cap (eF l):=by
 obtain⟨a,cap,rfl,h1,h2,h3⟩:=h;refine⟨a,cap,rfl,xZ l,h1,h2,ha,?_⟩
 rcases h3 with h3|⟨b,off,rfl,-,h4,h5,-⟩
 ·exact .inl h3
 ·exact .inr ⟨b,off,rfl,h4,h5⟩
theorem zA.below {w w':World} {base:Nat} {v:Value} {l:List dO} (h:zA w base v l) (g:Below w.heap.size w w'):zA w' base v l:=by
 obtain⟨a,cap,rfl,h1,h2,h3⟩:=h;refine⟨a,cap,rfl,h1,h2,?_⟩
 rcases h3 with h3|⟨b,off,rfl,hb,h4,h5,h6⟩
 ·exact .inl h3
 ·exact .inr ⟨b,off,rfl,hb,Nat.lt_of_lt_of_le h4 g.size,h5.below h4 g,fun i=>(g.frozen (p:=⟨b,i,none⟩) h4).trans (h6 i)⟩
theorem zA.mono {w:World} {base base':Nat} {v:Value} {l:List dO} (h:zA w base v l) (g:base'≤base):zA w base' v l:=by
 obtain⟨a,cap,rfl,h1,h2,h3⟩:=h;refine⟨a,cap,rfl,h1,h2,?_⟩
 rcases h3 with h3|⟨b,off,rfl,hb,h4⟩
 ·exact .inl h3
 ·exact .inr ⟨b,off,rfl,Nat.le_trans g hb,h4⟩
theorem zA.nil {w:World} {base:Nat} {a:Option Addr} {cap:Nat} (h:cap≤maxLen):zA w base (.slice a 0 cap) []:=⟨a,cap,rfl,by simp,h,.inl rfl⟩
theorem dK.full {w:World} {base n:Nat} {e:TypeId} {v:Value} {l:List dO} (h:dK w base e 2 v n (eF l)) (h0:0<n) :
  ∃g cap,v=.slice (some ⟨g,0,none⟩) n cap∧base≤g∧g<w.heap.size∧n≤cap∧cap≤maxLen∧bJ w g 0 (eF l)∧∀i,w.frozen? ⟨g,i,none⟩=false:=by
 have hl:=h.len;obtain⟨h1,h2⟩:=id h;rcases h2 with⟨rfl,hn⟩|⟨b,cap,cur,rfl,hb,hh,hn,hc,hs,ht⟩
 ·omega
 ·refine⟨b,cap,rfl,hb,(Array.getElem?_eq_some_iff.1 hh).1,hn,hc,?_,fun i=>World.ownsRow.frozenAt h i⟩
  intro i hi;have c:=World.ownsRow.cellAt (w:=w) (base:=base) (e:=e) (size:=2) (g:=b) (n:=n) (cap:=cap) (xs:=ints (eF l)) h i (by omega)
  rw[Nat.zero_add,c,uB,List.getElem?_eq_getElem hi,List.getD_eq_getElem?_getD,List.getElem?_eq_getElem hi];rfl
theorem dK.stored {w:World} {base n g cap:Nat} {e:TypeId} {k:Nat} {zs:List Int} (h:dK w base e k (.slice (some ⟨g,0,none⟩) n cap) n zs) (j:Nat) (z:Int) :
  dK (w.setCell ⟨g,j,none⟩ (.int .i64 z)) base e k (.slice (some ⟨g,0,none⟩) n cap) n (zs.set j z):=by
 have:=(World.ownsRow.stored h j (.int .i64 z)).1
 unfold dK;rw[show ints (zs.set j z)=(ints zs).set j (.int .i64 z)by simp[ints,List.map_set]]
 exact this
theorem XR (l:List dO) (x:dO):eF (l++[x])=eF l++[x.a,x.n]:=by simp[eF]
section
variable (a:Option Addr) (cap:Nat) (w:World)
end
section
variable {P:Program} {f:FuncId} {args:Array Value} {w:World} {v:Value}
theorem wI {a n:Nat} (h:Calls P f args (w.drewN (a+n)) fun e w'=>e=.returned v∧w.drewN (a+n)=w') :
  Calls P f args (w.drewN (a+n)) fun e w''=>e=.returned v∧∃m,w''=w.drewN (a+m):=h.mono fun _ _ ⟨he,hm⟩=>⟨he,n,hm.symm⟩
theorem IP {n:Nat} (h:Calls P f args (w.drewN n) fun e w'=>e=.returned v∧w.drewN n=w'):Calls P f args (w.drewN n) fun e w''=>e=.returned v∧∃m,w''=w.drewN m:=h.mono fun _ _ ⟨he,hm⟩=>⟨he,n,hm.symm⟩
end
end
section
def nS (l:List dO):Bool:=decide (1≤l.length)&&decide (l.length≤12)&&!(l.any MH)&&decide (dU (nT l)=0)&&decide (eI (nT l)=0)
def ak8 (l:List dO):Int×Int:=if l.any akN then(0,2)else(dU (nT (l.filter fun x=>!aa6 x)),eI (nT (l.filter fun x=>!aa6 x)))
theorem N4 (l:List Int):-288230376151711744≤dU l∧dU l≤288230376151711744:=by
 unfold dU;cases h:bY 0 l with
 |none=>exact⟨by simp,by simp⟩
 |some s=>exact eP.1 (PS l 0 s (by decide +kernel) h)
theorem Nf (l:List dO):∀x,x∈(cY l).1→0≤x.a∧x.a<17∧-288230376151711744≤x.n∧x.n≤288230376151711744:=by
 intro x hx;unfold cY at hx;split at hx
 ·simp at hx
 ·split at hx
  ·simp at hx
  ·obtain⟨hx,-⟩:=List.mem_filter.1 hx
   obtain⟨a,ha,rfl⟩:=List.mem_map.1 hx;have:=N4 (kE l (a:Int))
   have:=List.mem_range.1 ha
   exact⟨by simp only;omega,by simp only;omega,by simp only;omega,by simp only;omega⟩
theorem Oo (l:List dO):eH (eF (cY l).1):=A5 fun x hx=>by
 have:=Nf l x hx
 exact⟨⟨by omega,by omega⟩,⟨by omega,by omega⟩⟩
theorem Row.cut {w:World} {a:Option Addr} {n cap k:Nat} {l:List dO} (h:Row w 2 a n cap (eF l)) (hn:l.length=n) (hk:k≤n):Row w 2 a k cap (eF (l.take k)):=by
 refine⟨by rw[xZ,List.length_take];omega,by have:=h.le;omega,h.max,A5 fun x hx=>Ny h.all (List.mem_of_mem_take hx),?_⟩
 by_cases h0:k=0
 ·exact .inl h0
 ·rcases h.at_ with h1|⟨b,off,e,hb,hc⟩
  ·omega
  ·refine .inr ⟨b,off,e,hb,bJ.RM fun j x hx=>hc.line ?_⟩
   have hj:j<k:=by
    rcases Nat.lt_or_ge j k with h|h
    ·exact h
    ·rw[List.getElem?_eq_none (by rw[List.length_take];omega)]at hx;cases hx
   rwa[List.getElem?_take_of_lt hj]at hx
theorem bJ.put {w:World} {b off:Nat} {zs:List Int} (h:bJ w b off zs) {j:Nat} (hj:j<zs.length) (z:Int):bJ (w.setCell ⟨b,off+j,none⟩ (.int .i64 z)) b off (zs.set j z):=by
 intro i hi;rw[List.length_set]at hi;have k:=h i hi;by_cases e:i=j
 ·subst e
  rw[World.cell?_setCell_same _ _ _ k,List.getD_eq_getElem?_getD,List.getElem?_set_self hi];rfl
 ·rw[World.cell?_setCell_other _ _ _ _ (by intro e2;injection e2;omega),k,List.getD_eq_getElem?_getD,List.getD_eq_getElem?_getD,List.getElem?_set_ne (fun e2=>e e2.symm)]
theorem dK.lit (w:World) (zs:List Int) (n k:Nat) (e:TypeId) (hl:zs.length=n*k) (hm:n≤4611686018427387904):dK (w.alloc (.cells (zs.map (Value.int .i64)).toArray e)) w.heap.size e k (.slice (some ⟨w.heap.size,0,none⟩) n n) n zs:=by
 have:=World.ownsRow_lit (base:=w.heap.size) (e:=e) (size:=k) w (zs.map (Value.int .i64)).toArray n (Nat.le_refl _) (by unfold maxLen;omega) (by simpa using hl)
 exact this
def jW:List Int→List dO→Option (List Int)
 |eJ,[]=>some eJ
 |eJ,x::m=>if fM (eJ.getD x.a.toNat 0) x.n then jW (eJ.set x.a.toNat (eJ.getD x.a.toNat 0+x.n)) m else none
theorem L5:∀(m:List dO) (eJ next:List Int),jW eJ m=some next→next.length=eJ.length
 |[],eJ,next,h=>by simp[jW]at h;rw[h]
 |x::m,eJ,next,h=>by
  simp only[jW]at h;split at h
  ·have:=L5 m _ _ h
   simpa using this
  ·cases h
def aaS (eJ:List Int) (l:List dO):Int:=if(cY l).2≠0∨(0<(cY l).1.length∧nS (cY l).1=false)then 10 else match jW eJ (cY l).1 with|some _=>0|none=>2
def aea (eJ:List Int) (l:List dO):List Int:=(jW eJ (cY l).1).getD eJ
def Fg (w:World) (base:Nat) (v:Value) (zs:List Int):Prop :=
 ∃a cap,v=.slice a zs.length cap∧zs.length≤cap∧cap≤maxLen∧(zs.length=0∨∃b off,a=some ⟨b,off,none⟩∧base≤b∧b<w.heap.size∧bJ w b off zs∧∀i,w.frozen? ⟨b,i,none⟩=false)
theorem Fg.row {w:World} {base:Nat} {v:Value} {zs:List Int} (h:Fg w base v zs) (ha:eH zs):∃a cap,v=.slice a zs.length cap∧Row w 1 a zs.length cap zs:=by
 obtain⟨a,cap,rfl,h1,h2,h3⟩:=h;refine⟨a,cap,rfl,by simp,h1,h2,ha,?_⟩
 rcases h3 with h3|⟨b,off,rfl,-,h4,h5,-⟩
 ·exact .inl h3
 ·exact .inr ⟨b,off,rfl,h4,h5⟩
theorem Fg.mono {w:World} {base base':Nat} {v:Value} {zs:List Int} (h:Fg w base v zs) (g:base'≤base):Fg w base' v zs:=by
 obtain⟨a,cap,rfl,h1,h2,h3⟩:=h;refine⟨a,cap,rfl,h1,h2,?_⟩
 rcases h3 with h3|⟨b,off,rfl,hb,h4⟩
 ·exact .inl h3
 ·exact .inr ⟨b,off,rfl,Nat.le_trans g hb,h4⟩
theorem Fg.below {w w':World} {base:Nat} {v:Value} {zs:List Int} (h:Fg w base v zs) (g:Below w.heap.size w w'):Fg w' base v zs:=by
 obtain⟨a,cap,rfl,h1,h2,h3⟩:=h;refine⟨a,cap,rfl,h1,h2,?_⟩
 rcases h3 with h3|⟨b,off,rfl,hb,h4,h5,h6⟩
 ·exact .inl h3
 ·exact .inr ⟨b,off,rfl,hb,Nat.lt_of_lt_of_le h4 g.size,h5.below h4 g,fun i=>(g.frozen (p:=⟨b,i,none⟩) h4).trans (h6 i)⟩
theorem dK.aja {w:World} {base n:Nat} {e:TypeId} {v:Value} {zs:List Int} (h:dK w base e 1 v n zs) (h0:0<n) :
  ∃g cap,v=.slice (some ⟨g,0,none⟩) n cap∧base≤g∧g<w.heap.size∧n≤cap∧cap≤maxLen∧bJ w g 0 zs∧∀i,w.frozen? ⟨g,i,none⟩=false:=by
 have hl:=h.len;obtain⟨h1,h2⟩:=id h;rcases h2 with⟨rfl,hn⟩|⟨b,cap,cur,rfl,hb,hh,hn,hc,hs,ht⟩
 ·omega
 ·refine⟨b,cap,rfl,hb,(Array.getElem?_eq_some_iff.1 hh).1,hn,hc,?_,fun i=>World.ownsRow.frozenAt h i⟩
  intro i hi;have c:=World.ownsRow.cellAt (w:=w) (base:=base) (e:=e) (size:=1) (g:=b) (n:=n) (cap:=cap) (xs:=ints zs) h i (by omega)
  rw[Nat.zero_add,c,uB,List.getElem?_eq_getElem hi,List.getD_eq_getElem?_getD,List.getElem?_eq_getElem hi];rfl
def tY (eJ:List Int) (l:List dO):List Int×Int:=if aaS eJ l=0 then(aea eJ l,0)else(eJ,aaS eJ l)
abbrev fF (f:Int):Prop:=0≤f∧f≤20
theorem zM (l:List dO):fF (cY l).2∧((cY l).2≠0→(cY l).1=[]):=by
 unfold cY;split
 ·exact⟨⟨by simp,by simp⟩,fun _=>rfl⟩
 ·split
  ·exact⟨⟨by simp,by simp⟩,fun _=>rfl⟩
  ·exact⟨⟨by simp,by simp⟩,fun h=>absurd rfl h⟩
theorem Nd (l:List dO):(cY l).1.length≤17:=by
 unfold cY;split
 ·simp
 ·split
  ·simp
  ·exact Nat.le_trans (List.length_filter_le _ _) (by simp)
end
section
open Mc
theorem xR {vs:Array Value} {x:AV} (h:vs.size=[x].length):vs=#[vs.getD 0 Go.undef]:=by
 have h:vs.size=1:=h
 apply Array.ext
 ·simp[h]
 ·intro i h1 h2
  have:i=0:=by omega
  subst this;simp[h1]
theorem Ii {vs:Array Value} {x y:AV} (h:vs.size=[x,y].length):vs=#[vs.getD 0 Go.undef,vs.getD 1 Go.undef]:=by
 have h:vs.size=2:=h
 apply Array.ext
 ·simp[h]
 ·intro i h1 h2
  rcases(by omega:i=0∨i=1)with rfl|rfl<;>simp[h]
theorem mN {A:Nat→Prop} {w:World} {x y:AV} {v u:Value} (h:@cO dI dN A w x v) (g:@cO dI dN A w y u):@cO dI dN A w (.bB [x,y]) (.tuple #[v,u]):=by
 refine @cO.bB dI dN A w [x,y] #[v,u] rfl ?_
 intro i z hz;match i,hz with
 |0,hz=>cases hz;exact h
 |1,hz=>cases hz;exact g
theorem ad1 {A:Nat→Prop} {w:World} {x y z:AV} {v u t:Value} (h:@cO dI dN A w x v) (g:@cO dI dN A w y u) (k:@cO dI dN A w z t):@cO dI dN A w (.bB [x,y,z]) (.tuple #[v,u,t]):=by
 refine @cO.bB dI dN A w [x,y,z] #[v,u,t] rfl ?_
 intro i z hz;match i,hz with
 |0,hz=>cases hz;exact h
 |1,hz=>cases hz;exact g
 |2,hz=>cases hz;exact k
theorem qH {A:Nat→Prop} {w:World} {v:Int}:@cO dI dN A w (.i v) (.int .i64 v):=@cO.c dI dN A w _
theorem acf {A:Nat→Prop} {w:World} {v:Int} {u:Value} (h:@cO dI dN A w (.i v) u):u=.int .i64 v:=by cases h;rfl
theorem aaN {A:Nat→Prop} {w:World} (x:bF):@cO dI dN A w x.av x.val:=by
 unfold bF.av bF.val;refine @cO.agg dI dN A w _ _ rfl ?_ ?_
 ·intro i y hy
  match i,hy with
  |0,hy=>cases hy;rfl
  |1,hy=>cases hy;rfl
  |2,hy=>cases hy;rfl
 ·intro i y hy
  match i,hy with
  |0,hy=>cases hy;exact qH
  |1,hy=>cases hy;exact qH
  |2,hy=>cases hy;exact qH
theorem X3 (x:bF):Cl x.av:=.agg _ (vD _)
theorem FQ {A:Nat→Prop} {w:World} {l:List bF} {v:Value} (h:@cO dI dN A w (.lit 3 (aG l)) v) (hI:eH (flat l)):∃a cap,v=.slice a l.length cap∧Row w 3 a l.length cap (flat l):=by
 rw[Sf]at h;obtain⟨a,cap,rfl,R⟩:=zI h (by rw[XQ];exact hI) (by intro r hr;obtain⟨x,-,rfl⟩:=List.mem_map.1 hr;rfl)
 rw[XQ,List.length_map]at R;exact⟨a,cap,by rw[List.length_map],R⟩
theorem abb {A:Nat→Prop} {w:World} {l:List dO} {v:Value} (h:@cO dI dN A w (.lit 2 (dQ l)) v) (hI:eH (eF l)):∃a cap,v=.slice a l.length cap∧Row w 2 a l.length cap (eF l):=by
 rw[Sa]at h;obtain⟨a,cap,rfl,R⟩:=zI h (by rw[O6];exact hI) (by intro r hr;obtain⟨x,-,rfl⟩:=List.mem_map.1 hr;rfl)
 rw[O6,List.length_map]at R;exact⟨a,cap,by rw[List.length_map],R⟩
theorem R9 {A:Nat→Prop} {w w':World} {l:List dO} {a:Option Addr} {cap:Nat} (hA:∀b,A b→b<w.heap.size) (hc:l.length≤cap) (hm:cap≤maxLen) (h:l.length=0∨∃b off,a=some ⟨b,off,none⟩∧w.heap.size≤b∧b<w'.heap.size∧bJ w' b off (eF l)) :
  @cO dI dN A w' (.lit 2 (dQ l)) (.slice a l.length cap):=by
 rw[Sa];have hl:(l.map dO.r).length=l.length:=by simp
 rw[←hl]at hc ⊢;refine uT (by intro r hr;obtain⟨x,-,rfl⟩:=List.mem_map.1 hr;rfl) hc hm ?_
 rw[hl,O6];exact h.imp id fun⟨b,off,h1,h2,h3,h4⟩=>⟨b,off,h1,fun hb=>by have:=hA b hb;omega,h3,h4⟩
theorem OZ {A:Nat→Prop} {w:World} {l:List Int} {v:Value} (h:@cO dI dN A w (.lit 1 (aA l)) v) (hI:eH l):∃a cap,v=.slice a l.length cap∧Row w 1 a l.length cap l:=by
 rw[Lo]at h;obtain⟨a,cap,rfl,R⟩:=zI h (by rw[FX];exact hI) (by intro r hr;obtain⟨x,-,rfl⟩:=List.mem_map.1 hr;rfl)
 rw[FX,List.length_map]at R;exact⟨a,cap,by rw[List.length_map],R⟩
theorem Sj {A:Nat→Prop} {w w':World} {l:List Int} {a:Option Addr} {cap:Nat} (hA:∀b,A b→b<w.heap.size) (hc:l.length≤cap) (hm:cap≤maxLen) (h:l.length=0∨∃b off,a=some ⟨b,off,none⟩∧w.heap.size≤b∧b<w'.heap.size∧bJ w' b off l) :
  @cO dI dN A w' (.lit 1 (aA l)) (.slice a l.length cap):=by
 rw[Lo];have hl:(l.map fun v=>[v]).length=l.length:=by simp
 rw[←hl]at hc ⊢;refine uT (by intro r hr;obtain⟨x,-,rfl⟩:=List.mem_map.1 hr;rfl) hc hm ?_
 rw[hl,FX];exact h.imp id fun⟨b,off,h1,h2,h3,h4⟩=>⟨b,off,h1,fun hb=>by have:=hA b hb;omega,h3,h4⟩
def bL.bT (s:bL) (e:Int) (x:dR):bL:={ s with bG:=s.bG.set e.toNat x }
def dR.Iv (x:dR) (b:List Int):dR:={ x with eJ:=b }
end
section
set_option linter.unnecessarySimpa false
def zZ (l:List bF) (x:bF):List bF×Int:=if(AY l x).2=0 then([vV (AY l x).1],0)else(l,(AY l x).2)
theorem afp {l:List bF} {x:bF} (h:(AY l x).2≠0):(AY l x).1=l:=by
 unfold AY at h ⊢;split
 ·rfl
 ·split
  ·rfl
  ·split
   ·rename_i h1 h2 h3;rw[if_neg h1,if_neg h2,if_pos h3]at h;exact absurd rfl h
   ·rfl
theorem ahF {l:List bF} {x:bF} (h:(AY l x).2=0):(AY l x).1=l++[x]∧LR (l++[x]):=by
 unfold AY at h ⊢;split
 ·rename_i h1;rw[if_pos h1]at h;cases h
 ·split
  ·rename_i h1 h2;rw[if_neg h1,if_pos h2]at h;cases h
  ·split
   ·rename_i h1 h2 h3;exact⟨rfl,LR.of h3⟩
   ·rename_i h1 h2 h3;rw[if_neg h1,if_neg h2,if_neg h3]at h;cases h
theorem ajq {l:List bF} (h:LR l) (h0:l≠[]):LR [vV l]:=by
 rw[h.vV.1];have a:=gW h.ok;have b:=Az l;have:=h.q;have:=h.v;have:=h.p
 have:1≤l.length:=List.length_pos_iff.2 h0
 exact LR.one (cT.2 ⟨by simp only;omega,by simp only;omega,by simp only;omega,by simp only;omega,by simp only;omega,by simp only;omega⟩)
theorem O2 {l:List bF} {x:bF} (h:LR l):LR (zZ l x).1:=by
 unfold zZ;split
 ·rename_i h1
  obtain⟨e,h2⟩:=ahF h1;rw[e];exact ajq h2 (by simp)
 ·exact h
theorem I3 {l:List bF} {q:Int}:(dJ l q).1.length≤l.length:=by
 have k:∀(l:List bF) (a:bF) (q:Int),(iW l a q).1.length≤l.length:=by
  intro l;induction l with
  |nil=>intro a q;simp[iW]
  |cons x r ih =>
   intro a q;simp only[iW];split
   ·exact Nat.le_refl _
   ·split
    ·simp
    ·have:=ih (fX a x) (q-x.q);simp only[List.length_cons];omega
 unfold dJ;split
 ·exact Nat.le_refl _
 ·split
  ·exact Nat.le_refl _
  ·exact k _ _ _
structure Mix (n m p r k:Int):Prop where
 lo:k*p≤(n*p+m*r)*k/(n+m)
 hi:(n*p+m*r)*k/(n+m)≤k*r
 left:(n+m-k)*p≤n*p+m*r-(n*p+m*r)*k/(n+m)
def Mb (w:World) (v:Value) (l:List bF):Prop:=∃a cap,v=.slice a l.length cap∧Row w 3 a l.length cap (flat l)
theorem Mb.below {w w':World} {v:Value} {l:List bF} (h:Mb w v l) (g:Below w.heap.size w w'):Mb w' v l:=by
 obtain⟨a,c,e,r⟩:=h;exact⟨a,c,e,r.below g⟩
def tO (w:World) (base:Nat) (v:Value) (l:List bF):Prop :=
 ∃a cap,v=.slice a l.length cap∧l.length≤cap∧cap≤maxLen∧(l.length=0∨∃b off,a=some ⟨b,off,none⟩∧base≤b∧b<w.heap.size∧bJ w b off (flat l)∧∀i,w.frozen? ⟨b,i,none⟩=false)
theorem tO.row {w:World} {base:Nat} {v:Value} {l:List bF} (h:tO w base v l) (ha:eH (flat l)):Mb w v l:=by
 obtain⟨a,cap,rfl,h1,h2,h3⟩:=h;refine⟨a,cap,rfl,Ss l,h1,h2,ha,?_⟩
 rcases h3 with h3|⟨b,off,rfl,-,h4,h5,-⟩
 ·exact .inl h3
 ·exact .inr ⟨b,off,rfl,h4,h5⟩
theorem tO.below {w w':World} {base:Nat} {v:Value} {l:List bF} (h:tO w base v l) (g:Below w.heap.size w w'):tO w' base v l:=by
 obtain⟨a,cap,rfl,h1,h2,h3⟩:=h;refine⟨a,cap,rfl,h1,h2,?_⟩
 rcases h3 with h3|⟨b,off,rfl,hb,h4,h5,h6⟩
 ·exact .inl h3
 ·exact .inr ⟨b,off,rfl,hb,Nat.lt_of_lt_of_le h4 g.size,h5.below h4 g,fun i=>(g.frozen (p:=⟨b,i,none⟩) h4).trans (h6 i)⟩
theorem tO.mono {w:World} {base base':Nat} {v:Value} {l:List bF} (h:tO w base v l) (g:base'≤base):tO w base' v l:=by
 obtain⟨a,cap,rfl,h1,h2,h3⟩:=h;refine⟨a,cap,rfl,h1,h2,?_⟩
 rcases h3 with h3|⟨b,off,rfl,hb,h4⟩
 ·exact .inl h3
 ·exact .inr ⟨b,off,rfl,Nat.le_trans g hb,h4⟩
theorem tO.nil {w:World} {base:Nat} {a:Option Addr} {cap:Nat} (h:cap≤maxLen):tO w base (.slice a 0 cap) []:=⟨a,cap,rfl,by simp,h,.inl rfl⟩
theorem tO.set {w:World} {base:Nat} {v:Value} {l:List bF} (h:tO w base v l) {b:Nat} (hb:b<base) (i:Nat) (u:Value):tO (w.setCell ⟨b,i,none⟩ u) base v l:=by
 obtain⟨a,cap,rfl,h1,h2,h3⟩:=h;refine⟨a,cap,rfl,h1,h2,?_⟩
 rcases h3 with h3|⟨g,off,rfl,hg,h4,h5,h6⟩
 ·exact .inl h3
 ·refine .inr ⟨g,off,rfl,hg,by simpa[World.setCell]using h4,fun j hj=>?_,fun j=>by simpa using h6 j⟩
  exact(World.cell?_of_block (w:=w) (Below.heap_setCell _ _ _ _ (show g≠b by omega))).trans (h5 j hj)
theorem dK.mono {w:World} {base base':Nat} {e:TypeId} {k:Nat} {v:Value} {n:Nat} {zs:List Int} (h:dK w base e k v n zs) (g:base'≤base):dK w base' e k v n zs:=by
 obtain⟨h1,h2⟩:=h;refine⟨h1,?_⟩
 rcases h2 with h2|⟨b,cap,cur,hv,hb,r⟩
 ·exact .inl h2
 ·exact .inr ⟨b,cap,cur,hv,Nat.le_trans g hb,r⟩
theorem pV (x:bF) (l:List bF):flat (x::l)=x.q::x.v::x.p::flat l:=rfl
theorem bJ.tail {w:World} {b off:Nat} {x:bF} {l:List bF} (h:bJ w b off (flat (x::l))):bJ w b (off+3) (flat l):=by
 intro i hi;have:=h (3+i) (by simp only[pV,List.length_cons];omega)
 rw[show off+(3+i)=off+3+i by omega]at this
 rw[this,pV];simp[List.getD_eq_getElem?_getD,show 3+i=i+1+1+1 by omega]
theorem bJ.head {w:World} {b off:Nat} {x:bF} {l:List bF} (h:bJ w b off (flat (x::l))):w.cell? ⟨b,off,none⟩=some (.int .i64 x.q)∧w.cell? ⟨b,off+1,none⟩=some (.int .i64 x.v)∧w.cell? ⟨b,off+2,none⟩=some (.int .i64 x.p) :=
 ⟨h 0 (by simp[pV]),h 1 (by simp[pV]),h 2 (by simp[pV])⟩
theorem bJ.cons {w:World} {b off:Nat} {x:bF} {l:List bF} (h0:w.cell? ⟨b,off,none⟩=some (.int .i64 x.q)) (h1:w.cell? ⟨b,off+1,none⟩=some (.int .i64 x.v)) (h2:w.cell? ⟨b,off+2,none⟩=some (.int .i64 x.p)) (h:bJ w b (off+3) (flat l)):bJ w b off (flat (x::l)):=by
 intro i hi;match i with
 |0=>exact h0
 |1=>exact h1
 |2=>exact h2
 |i+3 =>
  have:=h i (by simp only[pV,List.length_cons]at hi;omega)
  rw[show off+(i+3)=off+3+i by omega,this]
  rfl
theorem aj9 {w w':World} {x y z:Int} {t:Nat} (h:Below (w.alloc (.cells #[.int .i64 x,.int .i64 y,.int .i64 z] t)).heap.size (w.alloc (.cells #[.int .i64 x,.int .i64 y,.int .i64 z] t)) w') :
  gR w' w.heap.size x y z∧w.heap.size<w'.heap.size∧w.heap.size<w'.heap.size+1∧w.heap.size<w'.heap.size+1+1∧w.heap.size<w'.heap.size+1+1+1:=by
 have hs:=h.size;simp only[World.size_alloc]at hs;exact⟨⟨(h.cell (by simp)).trans (by simp),(h.cell (by simp)).trans (by simp),(h.cell (by simp)).trans (by simp),(h.frozen (by simp)).trans (by simp),(h.frozen (by simp)).trans (by simp),(h.frozen (by simp)).trans (by simp)⟩,by omega,by omega,by omega,by omega⟩
theorem al1 {w:World} {x y z:Int} {t n:Nat} (hn:n=w.heap.size):bJ (w.alloc (.cells #[.int .i64 x,.int .i64 y,.int .i64 z] t)) n 0 [x,y,z]:=by
 subst hn;exact bJ.new w [x,y,z] t
theorem gR.behind {w w':World} {o:Obj} {b B:Nat} {x y z:Int} (h:gR w b x y z) (hb:b<w.heap.size) (hB:b<B) (g:Below B (w.alloc o) w'):gR w' b x y z:=by
 have k:∀i,(w.alloc o).cell? ⟨b,i,none⟩=w.cell? ⟨b,i,none⟩:=fun i=>World.cell?_alloc_lt _ _ _ hb
 have kf:∀i,(w.alloc o).frozen? ⟨b,i,none⟩=w.frozen? ⟨b,i,none⟩:=fun i=>World.frozen?_alloc_old _ _ _ (Nat.ne_of_lt hb)
 exact⟨(g.cell hB).trans ((k 0).trans h.c0),(g.cell hB).trans ((k 1).trans h.c1),(g.cell hB).trans ((k 2).trans h.c2),(g.frozen hB).trans ((kf 0).trans h.f0),(g.frozen hB).trans ((kf 1).trans h.f1),(g.frozen hB).trans ((kf 2).trans h.f2)⟩
theorem gR.next {w w':World} {b:Nat} {x y z:Int} (h:gR w b x y z) (hb:b<w.heap.size) (g:Below w.heap.size w w') :
  gR w' b x y z∧b<w'.heap.size∧b<w'.heap.size+1∧b<w'.heap.size+1+1∧b<w'.heap.size+1+1+1:=by
 have hs:=g.size;exact⟨⟨(g.cell hb).trans h.c0,(g.cell hb).trans h.c1,(g.cell hb).trans h.c2,(g.frozen hb).trans h.f0,(g.frozen hb).trans h.f1,(g.frozen hb).trans h.f2⟩,by omega,by omega,by omega,by omega⟩
theorem tO.rD {w:World} {b:Nat} {v:Value} {l:List bF} (h:tO w (b+1) v l) (x y z:Value):tO (((w.setCell ⟨b,0,none⟩ x).setCell ⟨b,1,none⟩ y).setCell ⟨b,2,none⟩ z) b v l :=
 (((h.set (Nat.lt_succ_self _) 0 x).set (Nat.lt_succ_self _) 1 y).set (Nat.lt_succ_self _) 2 z).mono (Nat.le_succ _)
theorem dK.same {w:World} {base:Nat} {e:TypeId} {k:Nat} {v:Value} {n m:Nat} {zs ys:List Int} (h:dK w base e k v n zs) (hn:n=m) (hz:zs=ys):dK w base e k v m ys:=by
 subst hn;subst hz;exact h
end
section
open Mc
def alY (m c:Int) (bM:List dF) (B:List (List AV)) (r:List Int) (RC SA:List (List AV)) (d:Int):AV :=
 .agg [.i 1,.i 4,.lit 1 (aA [1]),.lit 1 (aO [[m]]),.lit 1 (aO [[c]]),.lit 8 [[.i 1,.c (.bool false),.lit 4 (bU bM),.lit 1 B,.lit 11 (bQ [r]),.lit 1 (aA [-1]),.lit 1 (aA [0]),.lit 8 []]],.lit 8 RC,.lit 9 SA,.lit 6 [],.i d]
theorem ad2 (rc:List yJ) (x:yJ):gH rc++[iC x.r]=gH (rc++[x]):=by simp[gH]
theorem adP (sa:List pZ) (x:pZ):cR sa++[x.row]=cR (sa++[x]):=by simp[cR]
theorem ag8 (rc:List yJ) (k:Nat) (x:yJ):(gH rc).set k (iC x.r)=gH (rc.set k x):=by simp[gH,List.map_set]
theorem ag1 (sa:List pZ) (k:Nat) (x:pZ):(cR sa).set k x.row=cR (sa.set k x):=by simp[cR,List.map_set]
theorem aia {m c:Int} {bM:List dF} {B:List (List AV)} {r:List Int} {RC SA:List (List AV)} {d:Int} (hB:nB B) (hR:nB RC) (hS:nB SA):Cl (alY m c bM B r RC SA d) :=
 .agg _ (aX (.c _) (aX (.c _) (aX (gJ _).lit (aX (jG _).lit (aX (jG _).lit (aX (SJ (aX (.c _) (aX (.c _) (aX (LK _).lit (aX hB.lit (aX (LJ _).lit (aX (gJ _).lit (aX (gJ _).lit (aX nB.nil.lit eR)))))))) nB.nil).lit (aX hR.lit (aX hS.lit (aX nB.nil.lit (aX (.c _) eR))))))))))
def bL.aZ (S:bL) (E:List dR):bL:={ S with bG:=E }
def bL.avE (S:bL) (R:List (List AV)):AV:=.agg [.i S.aB,.i S.aD,.lit 1 (aA S.weights),.lit 1 (aO S.methods),.lit 1 (aO S.cP),.lit 8 R,.lit 8 (gH S.aH),.lit 9 (cR S.aM),.lit 6 (gG S.bK),.i S.done]
theorem bL.akP (S:bL):S.av=S.avE (aN S.bG):=rfl
theorem af0 {S:bL} {R:List (List AV)} (h:nB R):Cl (S.avE R) :=
 .agg _ (aX (.c _) (aX (.c _) (aX (gJ _).lit (aX (jG _).lit (aX (jG _).lit (aX h.lit (aX (Ph _).lit (aX (Pg _).lit (aX (Pf _).lit (aX (.c _) eR))))))))))
def xA (now:Int) (closed:Bool) (P B R Pr D A:List (List AV)):List AV:=[.i now,.c (.bool closed),.lit 4 P,.lit 1 B,.lit 11 R,.lit 1 Pr,.lit 1 D,.lit 8 A]
theorem afZ {now:Int} {closed:Bool} {P B R Pr D A:List (List AV)} (h1:nB P) (h2:nB B) (h3:nB R) (h4:nB Pr) (h5:nB D) (h6:nB A):∀x∈xA now closed P B R Pr D A,Cl x :=
 aX (.c _) (aX (.c _) (aX h1.lit (aX h2.lit (aX h3.lit (aX h4.lit (aX h5.lit (aX h6.lit eR)))))))
structure Wx (S:bL) (e item now:Int) (closed:Bool) (bM:List dF) (eJ:List Int) (aF:List (List Int)) (bD down:List Int) (ahead:List EntC) (ms cs:List Int) (m c:Int):Prop where
 hn:S.bG.length≤4
 e0:0≤e
 e1:e<S.bG.length
 hx:S.bG[e.toNat]?=some ⟨⟨now,closed,bM,eJ,aF,bD,down⟩,ahead⟩
 hw:S.weights.length≤5
 i0:0≤item
 i1:item<S.weights.length
 Fq:S.methods.length=S.bG.length
 Aa:S.cP.length=S.bG.length
 rJ:S.methods[e.toNat]?=some ms
 CI:S.cP[e.toNat]?=some cs
 Fs:ms.length=S.weights.length
 nP:cs.length=S.weights.length
 hpl:bM.length=2*S.weights.length
 PF:aF.length=S.weights.length
 hm:ms[item.toNat]?=some m
 hc:cs[item.toNat]?=some c
 mb:jY m
 cb:jY c
theorem aks {l:List dR} {k:Nat} {now:Int} {closed:Bool} {bM:List dF} {eJ:List Int} {aF:List (List Int)} {bD down:List Int} {ahead:List EntC} (h:l[k]?=some ⟨⟨now,closed,bM,eJ,aF,bD,down⟩,ahead⟩):(aN l)[k]?=some (xA now closed (bU bM) (aA eJ) (bQ aF) (aA bD) (aA down) (cN ahead)):=by
 rw[aN,List.getElem?_map,h];rfl
theorem abl {z:List Int} {k:Nat} {v:Int} (h:z[k]?=some v):(aA z)[k]?=some [.i v]:=by
 rw[aA,List.getElem?_map,h];rfl
theorem aft {z:List (List Int)} {k:Nat} {v:List Int} (h:z[k]?=some v):(aO z)[k]?=some [.lit 1 (aA v)]:=by
 rw[aO,List.getElem?_map,h];rfl
theorem ahd {z:List dF} {k:Nat} {p:dF} (h:z[k]?=some p):(bU z)[k]?=some [.lit 3 (aG p.bH),.i p.p0,.i p.p1,.i p.p2]:=by
 rw[bU,List.getElem?_map,h];rfl
theorem ag5 {z:List (List Int)} {k:Nat} {v:List Int} (h:z[k]?=some v):(bQ z)[k]?=some (iC v):=by
 rw[bQ,List.getElem?_map,h];rfl
theorem alT {z:List yJ} {k:Nat} {x:yJ} (h:z[k]?=some x):(gH z)[k]?=some [.i x.aU,.i x.item,.i x.loc,.i x.eT,.i x.value,.i x.rC,.i x.bZ,.i x.back]:=by
 rw[gH,List.getElem?_map,h];rfl
theorem alS {z:List pZ} {k:Nat} {x:pZ} (h:z[k]?=some x):(cR z)[k]?=some [.i x.aU,.i x.item,.i x.loc,.i x.eT,.i x.back,.i x.cost,.i x.dV,.i x.period,.c (.bool x.waits)]:=by
 rw[cR,List.getElem?_map,h];rfl
theorem ak6 {z:List PG} {k:Nat} {x:PG} (h:z[k]?=some x):(gG z)[k]?=some [.i x.src,.i x.dst,.i x.item,.i x.eT,.i x.value,.i x.dV]:=by
 rw[gG,List.getElem?_map,h];rfl
theorem IV (l:List dF) (k:Nat) (p:dF):bU (l.set k p)=(bU l).set k p.row:=by simp[bU,List.map_set]
theorem TW (l:List (List Int)) (k:Nat) (p:List Int):bQ (l.set k p)=(bQ l).set k (iC p):=by simp[bQ,List.map_set]
theorem acO (l:List dR) (k:Nat) (x:dR):aN (l.set k x)=(aN l).set k x.row:=by simp[aN,List.map_set]
def bL.setRow (S:bL) (e:Int) (r:List AV):AV:=S.avE ((aN S.bG).set e.toNat r)
theorem bL.mA (S:bL) (e:Int) (x:dR):(S.bT e x).av=S.setRow e x.row:=by
 rw[bL.akP,bL.bT,bL.setRow];show bL.avE S (aN (S.bG.set e.toNat x))=_
 rw[acO]
theorem acY {S:bL} {e:Int} {r:List AV} (h:∀x∈r,Cl x):Cl (S.setRow e r):=af0 (abx (F6 _) h)
def bL.avX (S:bL) (R RC SA TR:List (List AV)) (d:Int):AV:=.agg [.i S.aB,.i S.aD,.lit 1 (aA S.weights),.lit 1 (aO S.methods),.lit 1 (aO S.cP),.lit 8 R,.lit 8 RC,.lit 9 SA,.lit 6 TR,.i d]
theorem akL {S:bL} {R RC SA TR:List (List AV)} {d:Int} (h:nB R) (h2:nB RC) (h3:nB SA) (h4:nB TR):Cl (S.avX R RC SA TR d) :=
 .agg _ (aX (.c _) (aX (.c _) (aX (gJ _).lit (aX (jG _).lit (aX (jG _).lit (aX h.lit (aX h2.lit (aX h3.lit (aX h4.lit (aX (.c _) eR))))))))))
theorem afV (x:pZ):∀y∈x.row,Cl y:=fun y hy=>by simp only[pZ.row,List.mem_cons,List.not_mem_nil,or_false]at hy;rcases hy with rfl|rfl|rfl|rfl|rfl|rfl|rfl|rfl|rfl<;>exact .c _
theorem getD_some {α:Type} {l:List α} {k:Nat} {d:α} (h:k<l.length):l[k]?=some (l.getD k d):=by
 rw[List.getD,List.getElem?_eq_getElem h];rfl
theorem eL {α:Type} {l:List α} {k:Nat} {d:α} (h:k<l.length):l.getD k d∈l:=List.mem_of_getElem? (getD_some (d:=d) h)
theorem aat [Bk] [Ev] {A:Nat→Prop} {w:World} {us:Array Value} {vs:List Value} (hl:us.size=(vs.map AV.c).length) (hv:∀(i:Nat) (x:AV),(vs.map AV.c)[i]?=some x→cO A w x (us.getD i Go.undef)):us=vs.toArray:=by
 apply Array.ext'
 apply List.ext_getElem?
 intro i;by_cases hi:i<vs.length
 ·have h2:=hv i (.c vs[i]) (by simp[hi])
  cases hx:us.toList[i]? with
  |none=>simp at hx hl;omega
  |some u =>
   have:us.getD i Go.undef=u:=by
    rw[Array.getElem?_toList]at hx;rw[Array.getD_eq_getD_getElem?,hx];rfl
   rw[this]at h2;cases h2;simp[hi]
 ·have h1:us.toList[i]?=none:=by simp at hl ⊢;omega
  rw[h1];simp;omega
theorem akl [Bk] [Ev] {k:FuncId} {vs:List Value} {r:Value} (hc:∀w,Calls Tryz.prog k vs.toArray w fun e w'=>e=.returned r∧Below w.heap.size w w'):FC Tryz.prog k (vs.map .c) (.c r):=by
 intro A w us hA hG hl hv;have e:=aat hl hv;subst e;refine(hc w).mono ?_
 rintro e w' ⟨rfl,hb⟩
 exact⟨_,rfl,.c _,hb⟩
theorem ai5 [Bk] [Ev] {k:FuncId} {vs rs:List Value} (hc:∀w,Calls Tryz.prog k vs.toArray w fun e w'=>e=.returned (.tuple rs.toArray)∧Below w.heap.size w w') (_:rs.length≠1):FC Tryz.prog k (vs.map .c) (.bB (rs.map .c)):=by
 intro A w us hA hG hl hv;have e:=aat hl hv;subst e;refine(hc w).mono ?_
 rintro e w' ⟨rfl,hb⟩
 refine⟨_,rfl,.bB _ _ (by simp) fun i y hy=>?_,hb⟩
 rw[List.getElem?_map]at hy;cases hr:rs[i]? with
 |none=>rw[hr]at hy;cases hy
 |some u =>
  rw[hr]at hy;cases hy
  have:rs.toArray.getD i Go.undef=u:=by simp[Array.getD_eq_getD_getElem?,hr]
  rw[this];exact .c _
structure OpD where
 (kind e item loc dst eT aam ref:Int)
def OpD.av (o:OpD):AV:=.agg [.i o.kind,.i o.e,.i o.item,.i o.loc,.i o.dst,.i o.eT,.i o.aam,.i o.ref,.emp]
def dC (k e item loc dst eT aam ref:Int):AV:=(OpD.mk k e item loc dst eT aam ref).av
theorem afY (o:OpD):Cl o.av:=.agg _ (aX (.c _) (aX (.c _) (aX (.c _) (aX (.c _) (aX (.c _) (aX (.c _) (aX (.c _) (aX (.c _) (aX .emp eR)))))))))
theorem ahf (v m:Int) (w:World) (h1:0<m) (h2:m≤1099511627776):Calls Tryz.prog 14 #[.int .i64 v,.int .i64 m] w fun e w'=>e=.returned (.int .i64 (v%m))∧Below w.heap.size w w':=by
 refine(Tv v m w h1 (by omega)).mono ?_
 rintro e w' ⟨rfl,rfl⟩
 exact⟨rfl,Below.refl _ _⟩
theorem ae4 {a b c q r:Int} (w:World) (ha:0≤a) (ha':a≤288230376151711744) (hb:0≤b) (hb':b≤288230376151711744) (hc:1≤c) (hc':c≤288230376151711744) (he:a*b=c*q+r) (hr:0≤r) (hr':r<c) (hq:q≤288230376151711744) :
  Calls Tryz.prog 148 #[.int .i64 a,.int .i64 b,.int .i64 c] w fun e w'=>e=.returned (.tuple #[.int .i64 q,.int .i64 r,.int .i64 0])∧Below w.heap.size w w':=by
 have d:a*b/c=q:=by rw[he,Int.mul_add_ediv_left _ _ (by omega),Int.ediv_eq_zero_of_lt hr hr'];omega
 have d':a*b%c=r:=by rw[he,Int.mul_add_emod_self_left];exact Int.emod_eq_of_lt hr hr'
 have e1:zY a b c=q:=by unfold zY;rw[if_neg (by omega),if_neg (by omega),d]
 have e2:PE a b c=r:=by unfold PE;rw[if_neg (by omega),if_neg (by omega),d']
 have e3:ER a b c=0:=by unfold ER;rw[if_neg (by omega),if_neg (by omega)]
 refine(qF a b c w ⟨by omega,by omega⟩ ⟨by omega,by omega⟩ ⟨by omega,by omega⟩).mono ?_
 rintro e w' ⟨rfl,rfl⟩
 exact⟨by rw[e1,e2,e3],Below.refl _ _⟩
end
end Go.Proofs.YtnepgggkgnckcaaGreat
namespace Go.Value
abbrev I (x:Int):Go.Value:=.int .i64 x
end Go.Value
namespace Go.Proofs.YtnepgggkgnckcaaGreat
open Go.RowKit
section
open Mc
abbrev Ck (k:FuncId) (xa:List AV) (r:AV):Prop:=CK Tryz.prog k xa r
abbrev Mc.AV.v (k:Nat):AV:=.e [([k],1)]
abbrev Mc.AV.q (sz k:Nat):AV:=.seq sz k [] []
abbrev sN (E d:AV):AV:=.agg [.o 0,.o 1,.q 1 1,.q 1 2,.q 1 3,E,.q 8 4,.q 9 5,.q 6 6,d]
class jH (l:List (List AV)):Prop where out:nB l
class ClS (ss:List (List (List AV))):Prop where out:∀l∈ss,∀r∈l,∀x∈r,Cl x
class Fh (l:List AV):Prop where out:∀x∈l,Cl x
class yC (x:AV):Prop where out:Cl x
instance:ClS []:=⟨aaA⟩
instance {l:List (List AV)} {ss:List (List (List AV))} [h:jH l] [g:ClS ss]:ClS (l::ss):=⟨lH h.out g.out⟩
instance:Fh []:=⟨eR⟩
instance {x:AV} {l:List AV} [h:yC x] [g:Fh l]:Fh (x::l):=⟨aX h.out g.out⟩
instance (v:Value):yC (.c v):=⟨.c v⟩
instance:yC .emp:=⟨.emp⟩
instance (l:List AV) [h:Fh l]:yC (.agg l):=⟨.agg _ h.out⟩
instance (l:List AV) [h:Fh l]:yC (.bB l):=⟨.bB _ h.out⟩
instance (k:Nat) (l:List (List AV)) [h:jH l]:yC (.lit k l):=⟨h.out.lit⟩
instance:jH []:=⟨nB.nil⟩
instance {r:List AV} {l:List (List AV)} [h:Fh r] [g:jH l]:jH (r::l):=⟨SJ h.out g.out⟩
instance {a b:List (List AV)} [h:jH a] [g:jH b]:jH (a++b):=⟨X4 h.out g.out⟩
instance {a:List (List AV)} {k:Nat} {r:List AV} [h:jH a] [g:Fh r]:jH (a.set k r):=⟨abx h.out g.out⟩
instance (l:List Int):jH (aA l):=⟨gJ l⟩
instance (l:List bF):jH (aG l):=⟨sK l⟩
instance (l:List dO):jH (dQ l):=⟨F5 l⟩
instance (l:List yJ):jH (gH l):=⟨Ph l⟩
instance (l:List pZ):jH (cR l):=⟨Pg l⟩
instance (l:List PG):jH (gG l):=⟨Pf l⟩
instance (l:List (List Int)):jH (bQ l):=⟨LJ l⟩
instance (l:List (List Int)):jH (aO l):=⟨jG l⟩
instance (l:List dF):jH (bU l):=⟨LK l⟩
instance (l:List EntC):jH (cN l):=⟨SH l⟩
instance (l:List dR):jH (aN l):=⟨F6 l⟩
instance (l:List Int):Fh (iC l):=⟨vD l⟩
instance (p:dF):Fh p.row:=⟨zS p⟩
instance (p:pZ):Fh p.row:=⟨afV p⟩
instance (p:dF):yC p.av:=⟨.agg _ (zS p)⟩
instance (x:bF):yC x.av:=⟨X3 x⟩
instance (S:bL):yC S.av:=⟨al9 S⟩
instance (o:OpD):yC o.av:=⟨afY o⟩
instance (a b c d e f g h:Int):yC (dC a b c d e f g h):=⟨afY _⟩
instance {now:Int} {closed:Bool} {P B R Pr D A:List (List AV)} [h1:jH P] [h2:jH B] [h3:jH R] [h4:jH Pr] [h5:jH D] [h6:jH A]:Fh (xA now closed P B R Pr D A):=⟨afZ h1.out h2.out h3.out h4.out h5.out h6.out⟩
instance {S:bL} {R:List (List AV)} [h:jH R]:yC (S.avE R):=⟨af0 h.out⟩
instance {S:bL} {e:Int} {r:List AV} [h:Fh r]:yC (S.setRow e r):=⟨acY h.out⟩
instance {S:bL} {R RC SA TR:List (List AV)} {d:Int} [h1:jH R] [h2:jH RC] [h3:jH SA] [h4:jH TR]:yC (S.avX R RC SA TR d):=⟨akL h1.out h2.out h3.out h4.out⟩
instance {m c:Int} {bM:List dF} {B:List (List AV)} {r:List Int} {RC SA:List (List AV)} {d:Int} [h1:jH B] [h2:jH RC] [h3:jH SA]:yC (alY m c bM B r RC SA d):=⟨aia h1.out h2.out h3.out⟩
abbrev gV:List (Int×Int):=[(0,3),(1,4),(0,4),(1,5),(-9223372036854775808,9223372036854775807),(-9223372036854775808,9223372036854775807)]
abbrev gF:List (Poly×Int×Int):=[([([0],-1),([1],1)],1,4),([([2],-1),([3],1)],1,5)]
abbrev gL:List (Nat×Poly):=[(0,[([1],1)]),(1,[([3],1)]),(2,[([1],1)]),(3,[([1],1)]),(13,[([3],1)]),(14,[([3],1)]),(9,[([3],1)]),(7,[([3],2)])]
abbrev gAw (c:AV):List (Nat×Poly×List AV):=[(0,[([0],1)],[.o 3,c,.q 4 7,.q 1 8,.q 11 9,.q 1 10,.q 1 11,.q 8 12]),(2,[([0],1)],[.q 1 13]),(3,[([0],1)],[.q 1 14]),(13,[([2],1)],[.v 4]),(14,[([2],1)],[.v 5])]
abbrev gS (S:bL) (bM:List dF) (eJ:List Int) (aF:List (List Int)) (bD down:List Int) (ahead:List EntC) (ms cs:List Int) (l:List (List (List AV))):List (List (List AV)):=aN S.bG::aA S.weights::aO S.methods::aO S.cP::gH S.aH::cR S.aM::gG S.bK::bU bM::aA eJ::bQ aF::aA bD::aA down::cN ahead::aA ms::aA cs::l
abbrev Me:Int×Int:=(-9223372036854775808,9223372036854775807)
abbrev w60:Int×Int:=(-1152921504606846976,1152921504606846976)
abbrev jI:Int×Int:=(-288230376151711744,288230376151711744)
abbrev Od (S:bL):Prop:=(0≤S.done∧S.done≤1000000)∧S.aH.length≤40∧S.aM.length≤40∧S.bK.length≤40
abbrev oS (S:bL) (l:List (List (List AV))):List (List (List AV)):=aN S.bG::aA S.weights::aO S.methods::aO S.cP::gH S.aH::cR S.aM::gG S.bK::l
theorem Wx.bd {S:bL} {e item now:Int} {closed:Bool} {bM:List dF} {eJ:List Int} {aF:List (List Int)} {bD down:List Int} {ahead:List EntC} {ms cs:List Int} {m c:Int} (H:Wx S e item now closed bM eJ aF bD down ahead ms cs m c) :
  S.bG.length≤4∧0≤e∧e<S.bG.length∧S.weights.length≤5∧0≤item∧item<S.weights.length∧S.methods.length=S.bG.length∧S.cP.length=S.bG.length∧ms.length=S.weights.length∧cs.length=S.weights.length∧bM.length=2*S.weights.length∧aF.length=S.weights.length∧(-9223372036854775808≤m∧m≤9223372036854775807)∧(-9223372036854775808≤c∧c≤9223372036854775807) :=
 ⟨H.hn,H.e0,H.e1,H.hw,H.i0,H.i1,H.Fq,H.Aa,H.Fs,H.nP,H.hpl,H.PF,⟨H.mb.lo,H.mb.hi⟩,⟨H.cb.lo,H.cb.hi⟩⟩
namespace Mc
theorem kG.c {a b x:Int} {l:List (Int×Int)} {xs:List Int} (h:kG l xs) (h1:a≤x:=by omega) (h2:x≤b:=by omega):kG ((a,b)::l) (x::xs):=.cons h1 h2 h
theorem kJ.c {ρ:Nat→Int} {p:Poly} {a b:Int} {l:List (Poly×Int×Int)} (h:kJ ρ l) (h1:a≤bR ρ p:=by simp[bR,rH];omega) (h2:bR ρ p≤b:=by simp[bR,rH];omega):kJ ρ ((p,a,b)::l):=.cons h1 h2 h
theorem lN.c {ρ:Nat→Int} {ss:List (List (List AV))} {k:Nat} {p:Poly} {l:List (Nat×Poly)} (h:lN ρ ss l) (h1:((ss.getD k []).length:Int)=bR ρ p:=by simp[bR,rH,aN,aA,bU,gH,cR,gG,dQ,aG,bQ,cN,aO];try omega):lN ρ ss ((k,p)::l):=.cons h1 h
theorem vS.d {ρ:Nat→Int} {vl:Nat→Value} {ss:List (List (List AV))} {k:Nat} {p:Poly} {r r0:List AV} {l:List (Nat×Poly×List AV)} (h1:(ss.getD k [])[(bR ρ p).toNat]?=some r0) (h:vS ρ vl ss l) (h0:0≤bR ρ p:=by simp[bR,rH];try omega) (h2:r.map (yG ρ vl (fun i=>ss.getD i []) 12)=r0:=by rfl) (h3:r.all (lD 12)=true:=by rfl):vS ρ vl ss ((k,p,r)::l):=.cons h0 h1 h2 h3 h
theorem rh (l:List Int):∃ρ:Nat→Int,ρ=fun i=>l.getD i 0:=⟨_,rfl⟩
theorem kJ.e {ρ:Nat→Int} {p:Poly} {a b:Int} {l:List (Poly×Int×Int)} (h:kJ ρ l) (h1:a≤bR ρ p:=by first|(simp[bR,rH]<;>omega)|omega) (h2:bR ρ p≤b:=by first|(simp[bR,rH]<;>omega)|omega):kJ ρ ((p,a,b)::l):=.cons h1 h2 h
abbrev evS (b:Bk) (xs:List Int) (vs:List Value) (ss:List (List (List AV))) [g:ClS ss] (hb:kG b.vars xs) (hf:kJ (fun i=>xs.getD i 0) b.facts) (hl:lN (fun i=>xs.getD i 0) ss b.lens) (ha:vS (fun i=>xs.getD i 0) (fun i=>vs.getD i (.bool false)) ss b.hH) (hd:tP (fun i=>xs.getD i 0) b.defs:=by exact .nil) (ho:(vs.all Value.oneCell')=true:=by rfl) (hk:b.kinds=[]:=by rfl) (hc:∀t∈b.SU,ss.getD t.2.2 []=ss.getD t.1 []++ss.getD t.2.1 []:=by exact fun t h=>nomatch h):@Ev b :=
 ajd b xs vs ss hd hb hf (fun v hv=>List.all_eq_true.1 ho v hv) hl ha g.out hk hc
abbrev ev1 (b:Bk) (xs:List Int) (vs:List Value) (ss:List (List (List AV))) [g:ClS ss] (ha:vS (fun i=>xs.getD i 0) (fun i=>vs.getD i (.bool false)) ss b.hH) (hd:tP (fun i=>xs.getD i 0) b.defs:=by exact .nil) (ho:(vs.all Value.oneCell')=true:=by rfl) (hk:b.kinds=[]:=by rfl) (hc:∀t∈b.SU,ss.getD t.2.2 []=ss.getD t.1 []++ss.getD t.2.1 []:=by exact fun t h=>nomatch h) (hb:kG b.vars xs:=by repeat (first|exact kG.nil|refine kG.c ?_ (by omega) (by omega))) (hf:kJ (fun i=>xs.getD i 0) b.facts:=by repeat (first|exact kJ.nil|refine kJ.e ?_)) (hl:lN (fun i=>xs.getD i 0) ss b.lens:=by repeat (first|exact lN.nil|refine lN.c ?_)):@Ev b :=evS b xs vs ss hb hf hl ha hd ho hk hc
theorem kc {P:Program} {b:Bk} {ev:@Ev b} {k:Nat} {xa xa':List AV} {r r':AV} {l:List (Nat×List AV×AV)} (h:CK P k xa' r') (hl:@Mj b ev P l) (ea:xa.map (@den b ev 12)=xa':=by rfl) (er:@den b ev 12 r=r':=by rfl) (hu:lD 12 r=true:=by rfl):@Mj b ev P ((k,xa,r)::l):=afl b ev (CK.named b ev h ea er hu) hl
theorem kr {P:Program} {b:Bk} {ev:@Ev b} {k:Nat} {xa:List AV} {r:AV} {l:List (Nat×List AV×AV)} (h:@FC b ev P k xa r) (hl:@Mj b ev P l):@Mj b ev P ((k,xa,r)::l):=afl b ev h hl
theorem kn {P:Program} {b:Bk} {ev:@Ev b}:@Mj b ev P []:=al4 b ev
theorem CK.way {P:Program} (b:Bk) (ev:@Ev b) {k:FuncId} (xa:List AV) {xa':List AV} (r:AV) {r':AV} [g1:Fh xa'] [g2:yC r'] (h:@IF b P 100000 60 k xa r=true) (hk:@Mj b ev P b.bN) (hx:@FD b ev P b.ext:=by exact afy _ _) (hy:@Fz b ev P b.yes:=by exact adl _ _) (ea:xa.map (@den b ev 12)=xa':=by rfl) (er:@den b ev 12 r=r':=by rfl) (hu:xa.all (lD 12)=true:=by rfl) (hg:b.jF=[]:=by rfl):CK P k xa' r' :=
 CK.aeX b ev h hx hy hk ea er g1.out g2.out hu hg
theorem fmo {P:Prop} (h:P:=by simp only[List.forall_mem_cons,List.not_mem_nil,false_imp_iff,implies_true,and_true];omega):P:=h
theorem kG.b {a b x:Int} {l:List (Int×Int)} {xs:List Int} (h:kG l xs) (hb:a≤x∧x≤b):kG ((a,b)::l) (x::xs):=.cons hb.1 hb.2 h
theorem tP.Q {ρ:Nat→Int} {r p q:Poly} {x n:Int} {l:List (Nat×Poly×Poly×Poly)} (y:Int) (h:x=y/n) (k:tP ρ l) (hr:bR ρ r=x:=by first|exact kP _ _|simp[bR,rH,Int.add_assoc]) (hp:bR ρ p=y:=by first|exact kP _ _|simp[bR,rH,Int.add_assoc]) (hq:bR ρ q=n:=by first|exact ad3 _ _|exact kP _ _|simp[bR,rH,Int.add_assoc]) (h0:0≤y:=by omega):tP ρ ((0,p,q,r)::l):=.quo (aha hr hp hq h0 h) k
theorem tP.R {ρ:Nat→Int} {r p q:Poly} {x n:Int} {l:List (Nat×Poly×Poly×Poly)} (y:Int) (h:x=y%n) (k:tP ρ l) (hr:bR ρ r=x:=by first|exact kP _ _|simp[bR,rH,Int.add_assoc]) (hp:bR ρ p=y:=by first|exact kP _ _|simp[bR,rH,Int.add_assoc]) (hq:bR ρ q=n:=by first|exact ad3 _ _|exact kP _ _|simp[bR,rH,Int.add_assoc]) (h0:0≤y:=by omega):tP ρ ((1,p,q,r)::l):=.rem (ag7 hr hp hq h0 h) k
theorem cw {P:Program} (b:Bk) (ev:@Ev b) {k:FuncId} (xa:List AV) {xa':List AV} (r:AV) {r':AV} [g1:Fh xa'] [g2:yC r'] (hk:@Mj b ev P b.bN) (h:@IF b P 100000 60 k xa r=true:=by decide +kernel) (hx:@FD b ev P b.ext:=by exact afy _ _) (hy:@Fz b ev P b.yes:=by exact adl _ _) (ea:xa.map (@den b ev 12)=xa':=by rfl) (er:@den b ev 12 r=r':=by rfl) (hu:xa.all (lD 12)=true:=by rfl) (hg:b.jF=[]:=by rfl):CK P k xa' r':=CK.aeX b ev h hx hy hk ea er g1.out g2.out hu hg
abbrev sT (S:bL) (l:List (List (List AV))):List (List (List AV)):=aN S.bG::aA S.weights::aO S.methods::aO S.cP::gH S.aH::cR S.aM::gG S.bK::l
abbrev vT (S:bL) (l:List Value):List Value:=.int .i64 S.aB::.int .i64 S.aD::.int .i64 S.done::l
end Mc
noncomputable abbrev Tz (b:Bk) (c:Code) (N:Nat) (f:List AV) (t:List Mc.bX) (n:Nat):Option (RT Out):=@mH b Tryz.prog (@gM b Tryz.prog 100000 60) 100000 100 c (Ft.of N f) (zD t) n
noncomputable abbrev rsA (b:Bk) (c:Option (RT Out)) (k:Nat) (N:Nat) (f:List AV) (t:List Mc.bX) (n:Nat):Option (RT Out):=@qV b Tryz.prog (@gM b Tryz.prog 100000 60) 100000 (oK c) (.exit k) (Ft.of N f) (zD t) n
theorem SS (v m:Int) (h1:0<m:=by omega) (h2:m≤1099511627776:=by omega):Ck 14 [.i v,.i m] (.i (v%m)) :=
 ⟨aX (.c _) (aX (.c _) eR),.c _,@akl dI dN _ [.int .i64 v,.int .i64 m] _ fun w=>ahf v m w h1 h2⟩
theorem aE {xs:List Int} {i:Nat} {l:List dR} {now:Int} {closed:Bool} {bM:List dF} {eJ:List Int} {aF:List (List Int)} {bD down:List Int} {ahead:List EntC} (h:l[(xs.getD i 0).toNat]?=some ⟨⟨now,closed,bM,eJ,aF,bD,down⟩,ahead⟩):(aN l)[(bR (fun k=>xs.getD k 0) [([i],1)]).toNat]?=some (xA now closed (bU bM) (aA eJ) (bQ aF) (aA bD) (aA down) (cN ahead)):=uD (kP _ _) (aks h)
theorem aI {xs:List Int} {i:Nat} {z:List Int} {v:Int} (h:z[(xs.getD i 0).toNat]?=some v):(aA z)[(bR (fun k=>xs.getD k 0) [([i],1)]).toNat]?=some [.i v]:=uD (kP _ _) (abl h)
theorem aS {xs:List Int} {i:Nat} {z:List (List Int)} {v:List Int} (h:z[(xs.getD i 0).toNat]?=some v):(aO z)[(bR (fun k=>xs.getD k 0) [([i],1)]).toNat]?=some [.lit 1 (aA v)]:=uD (kP _ _) (aft h)
theorem aR {xs:List Int} {i:Nat} {z:List (List Int)} {v:List Int} (h:z[(xs.getD i 0).toNat]?=some v):(bQ z)[(bR (fun k=>xs.getD k 0) [([i],1)]).toNat]?=some (iC v):=uD (kP _ _) (ag5 h)
theorem aC {xs:List Int} {i:Nat} {z:List yJ} {x:yJ} (h:z[(xs.getD i 0).toNat]?=some x):(gH z)[(bR (fun k=>xs.getD k 0) [([i],1)]).toNat]?=some [.i x.aU,.i x.item,.i x.loc,.i x.eT,.i x.value,.i x.rC,.i x.bZ,.i x.back]:=uD (kP _ _) (alT h)
theorem aV {xs:List Int} {i:Nat} {z:List pZ} {x:pZ} (h:z[(xs.getD i 0).toNat]?=some x):(cR z)[(bR (fun k=>xs.getD k 0) [([i],1)]).toNat]?=some [.i x.aU,.i x.item,.i x.loc,.i x.eT,.i x.back,.i x.cost,.i x.dV,.i x.period,.c (.bool x.waits)]:=uD (kP _ _) (alS h)
theorem aT {xs:List Int} {i:Nat} {z:List PG} {x:PG} (h:z[(xs.getD i 0).toNat]?=some x):(gG z)[(bR (fun k=>xs.getD k 0) [([i],1)]).toNat]?=some [.i x.src,.i x.dst,.i x.item,.i x.eT,.i x.value,.i x.dV]:=uD (kP _ _) (ak6 h)
theorem az {ρ:Nat→Int} {z:List Int} {v:Int} (h:z[0]?=some v):(aA z)[(bR ρ []).toNat]?=some [.i v]:=uD (x:=0) rfl (abl h)
abbrev tA:=List AV
abbrev tB:=List (List AV)
abbrev tC:=List (Poly×Int×Int)
abbrev tD:=List (Nat×Poly)
abbrev tE:=List (Nat×Poly×List AV)
abbrev tF:=List (Nat×List AV×AV)
abbrev tG:=List (Int×Int)
abbrev tH:=Nat×List AV×AV
abbrev tI:=Poly×Int×Int
abbrev tJ:=Nat×Poly×List AV
abbrev tK:=Nat×Poly×Poly×Poly
abbrev tL:=List (Nat×Poly×Poly×Poly)
abbrev tM:=List Mc.bX
abbrev Kcd:AV:=(.c (.bool false))
abbrev Kaw:tA:=[(.lit 3 []),.i 0,.i 0,.i 0]
abbrev Jv:AV:=(.lit 1 [[.i 0],[.i 0],[.i 0],[.i 0],[.i 0],[.i 0],[.i 0],[.i 0],[.i 0],[.i 0],[.i 0],[.i 0],[.i 0],[.i 0],[.i 0],[.i 0],[.i 0]])
abbrev Vz:tA:=[.i 0,.i 0,.i 0,.i 0,.i 0,.i 0,.i 0,.i 0,.i 0,.i 0,.i 0]
abbrev Ka:tA:=[.i 1,Kcd,(.lit 4 [Kaw,Kaw,Kaw,Kaw,Kaw,Kaw,Kaw,Kaw]),Jv,(.lit 11 [Vz,Vz,Vz,Vz]),(.lit 1 [[(.i (-1))],[(.i (-1))],[(.i (-1))],[(.i (-1))]]),(.lit 1 [[.i 0],[.i 0],[.i 0],[.i 0]]),(.lit 8 [])]
abbrev Kb2:AV:=(sN (.q 8 0) (.v 7))
abbrev HF:tH:=(89,[Kb2,.v 0,.v 1],(.i 0))
abbrev HI:tH:=(89,[Kb2,.v 3,.v 1],(.i 0))
abbrev Hl:tA:=[Kb2,.v 0,.v 1,.v 2,.i 3,.v 4]
abbrev Kb3:AV:=(sN (.q 8 7) (.v 7))
abbrev JG:tH:=(217,Hl,(.bB [Kb3,(.agg [.o 2,.v 14,.v 15]),.o 3,.i 0]))
abbrev Kcy:AV:=(.e [([5],-1)])
abbrev Kbu:tA:=[.i 0,(.e [([14],-1)])]
abbrev J1:tA:=[Kb3,.v 0,(.lit 2 [[.i 13,.v 5],[.i 15,Kcy],[.i 16,.v 14],Kbu])]
abbrev Kb4:AV:=(sN (.q 8 8) (.v 7))
abbrev DT:AV:=(.bB [Kb4,.i 0])
abbrev KU:tH:=(92,J1,DT)
abbrev YU:tA:=[Kb4,.v 3,(.lit 2 [[.i 12,.v 5],[.i 14,Kcy]])]
abbrev Kb5:AV:=(sN (.q 8 9) (.v 7))
abbrev DU:AV:=(.bB [Kb5,.i 0])
abbrev JW:tH:=(92,YU,DU)
abbrev QJ:tA:=[Kb5,.v 0,.v 1,(.agg [.i 0,.i 0,.i 0,.i 0,.i 0,.i 0,.v 14,.i 0,.i 0,.i 0,.i 0])]
abbrev KbJ:AV:=(sN (.q 8 10) (.v 7))
abbrev DA:AV:=(.bB [KbJ,.i 0])
abbrev Kb:tF:=[HF,HI,JG,KU,JW,(124,QJ,DA)]
abbrev ZG:Mc.bX:=(.cells 31 10 [[.o 0,.o 1,.q 1 1,.q 1 2,.q 1 3,.q 8 0,.q 8 4,.q 9 5,.q 6 6,.o 2]])
abbrev V9:tB:=[[.i 0,.i 0,.emp,.emp,.emp,.emp,.emp,.emp,.emp,.i 0]]
abbrev Ux:Mc.bX:=(.cells 31 10 V9)
abbrev Qr:Mc.bX:=(.cells 31 10 [[.o 0,.o 1,.q 1 1,.q 1 2,.q 1 3,(.cQ 76 8 3 [([0],1)]),.q 8 4,.q 9 5,.q 6 6,.o 2]])
abbrev KE:Mc.bX:=(.sc 76 8 0 [([([1],1)],[.o 3,.o 4,(.cQ 161 4 4 [([2],2)]),(.cQ 3 1 5 [([],17)]),(.cQ 140 11 6 [([2],1)]),(.cQ 3 1 7 [([2],1)]),(.cQ 3 1 8 [([2],1)]),.q 8 12])] [] [([0],1)])
abbrev Kar:Mc.bX:=(.sc 161 4 7 [] [] [([2],2)])
abbrev KaF:Mc.bX:=(.sc 3 1 8 [] [] [([],17)])
abbrev Kah:Mc.bX:=(.sc 140 11 9 [] [] [([2],1)])
abbrev Kav:Mc.bX:=(.sc 3 1 10 [] [] [([2],1)])
abbrev Kc:tM:=[ZG,Ux,Qr,KE,Kar,KaF,Kah,Kav,(.sc 3 1 13 [] [] [([2],1)]),(.sc 44 2 14 [] [] [([3],1)])]
abbrev Kd:tA:=[.i 1,Kcd,(.lit 4 [Kaw,Kaw,Kaw,Kaw,Kaw,Kaw]),Jv,(.lit 11 [Vz,Vz,Vz]),(.lit 1 [[(.i (-1))],[(.i (-1))],[(.i (-1))]]),(.lit 1 [[.i 0],[.i 0],[.i 0]]),(.lit 8 [])]
abbrev Bw:tK:=(1,[([2],1)],[([],32)],[([3],1)])
abbrev Bx:tK:=(0,[([2],1)],[([],32)],[([4],1)])
abbrev By:tK:=(1,[([4],1)],[([0],1)],[([5],1)])
abbrev Bd:tK:=(0,[([2],1)],[([],128)],[([6],1)])
abbrev Bz:tK:=(1,[([6],1)],[([1],1)],[([7],1)])
abbrev DJ:tK:=(0,[([2],1)],[([],1024)],[([8],1)])
abbrev BQ:tK:=(1,[([8],1)],[([],8)],[([9],1)])
abbrev BA:tK:=(0,[([9],1)],[([],7)],[([10],1)])
abbrev Dr:tK:=(0,[([2],1)],[([],8192)],[([11],1)])
abbrev DK:tK:=(1,[([11],1)],[([],24)],[([12],1)])
abbrev GZ:tK:=(0,[([2],1)],[([],196608)],[([13],1)])
abbrev Dt:tK:=(1,[([13],1)],[([],900)],[([14],1)])
abbrev GO:tK:=(0,[([2],1)],[([],7000000)],[([15],1)])
abbrev DL:tK:=(1,[([15],1)],[([],12)],[([16],1)])
abbrev Kco:Poly:=[([],1),([12],1)]
abbrev GB:tK:=(0,Kco,[([],3)],[([17],1)])
abbrev Ke:tL:=[Bw,Bx,By,Bd,Bz,DJ,BQ,BA,Dr,DK,GZ,Dt,GO,DL,GB]
abbrev Kf:tL:=[Bw,Bx,By,Bd,Bz,DJ,BQ,BA,Dr,DK,GZ,Dt,GO,DL,(0,Kco,[([],8)],[([17],1)])]
abbrev Kg:tL:=[Bw,Bx,By,Bd,Bz,DJ,BQ,BA,Dr,DK,GZ,Dt,GO,DL,(1,[([14],1)],[([],60)],[([17],1)])]
abbrev Kh:tL:=[Bw,Bx,By,Bd,Bz,DJ,BQ,BA,Dr,DK,GZ,Dt,GO,DL]
abbrev Ki:tA:=[.i 1,Kcd,(.lit 4 [Kaw,Kaw,Kaw,Kaw]),Jv,(.lit 11 [Vz,Vz]),(.lit 1 [[(.i (-1))],[(.i (-1))]]),(.lit 1 [[.i 0],[.i 0]]),(.lit 8 [])]
abbrev WS:tA:=[.i 11,.i 0,.i 0,.i 0,.o 3,.i 0,.v 2,.i 0,.q 1 7]
abbrev UO:Mc.bX:=(.cells 50 9 [WS])
abbrev Vp:Mc.bX:=(.cells 110 8 [[.v 3,.v 4,.o 4,.o 5,.o 6,.o 7,.o 8,.o 9]])
abbrev Kj:tM:=[ZG,UO,Ux,Vp,(.cells 31 10 [[.o 0,.o 1,.q 1 1,.q 1 2,.q 1 3,.q 8 8,.q 8 4,.q 9 5,.q 6 6,.o 2]])]
abbrev Kw:tA:=[(.agg [.o 0,.o 1,.q 1 1,.q 1 2,(.seq 1 3 [([([0],1)],[(.seq 1 14 [([([1],1)],[.v 5])] [])])] []),.q 8 13,.q 8 4,.q 9 5,.q 6 6,.v 7]),.v 0,(.lit 2 [[.i 0,(.e [([15],1),([16],1)])],[.i 6,(.e [([15],-1),([16],-1)])]])]
abbrev Ua:AV:=(.agg [.o 0,.o 1,.q 1 1,.q 1 2,.q 1 15,.q 8 16,.q 8 4,.q 9 5,.q 6 6,.v 7])
abbrev Kk:tH:=(92,Kw,(.bB [Ua,.i 0]))
abbrev Bq:Mc.bX:=(.cells 101 3 [[.o 6,.o 7,.o 8]])
abbrev Kcq:Poly:=[([],1),([2],1)]
abbrev GH:Mc.bX:=(.sc 3 1 7 [] [[.v 1]] Kcq)
abbrev Kci:Poly:=[([3],1),([4],-1)]
abbrev Kl:tM:=[ZG,Bq,Ux,GH,(.sc 3 1 8 [] [[(.e Kci)]] Kcq)]
abbrev Km:tM:=[ZG,UO,Ux,Vp]
abbrev Wl:tH:=(149,[.v 16,.v 4,(.e [([14],1),([15],-1)])],(.v 19))
abbrev Wm:tH:=(149,[.v 17,.v 4,(.e [([14],1),([15],-1)])],(.v 20))
abbrev U3:tA:=[Kb2,.v 0,.v 1,.v 2,(.agg [.v 4,.v 19,.v 20])]
abbrev HA:AV:=(.bB [Kb2,.i 0,.i 0,.v 13])
abbrev Ko:tF:=[HF,Wl,Wm,(145,U3,HA)]
abbrev JH:Mc.bX:=(.cells 31 10 [[.o 0,.o 1,.q 1 1,.q 1 2,.q 1 3,(.cQ 76 8 1 [([0],1)]),.q 8 4,(.cQ 137 9 2 [([2],1)]),.q 6 6,.o 2]])
abbrev Kp:tM:=[JH,(.sc 76 8 0 [] [] [([0],1)]),(.sc 137 9 7 [] [] [([2],1)]),Ux]
abbrev Bo:Mc.bX:=(.cells 101 3 [[.o 3,.o 4,.o 5]])
abbrev KaE:Mc.bX:=(.sc 3 1 7 [] [] [([1],1)])
abbrev Kq:tM:=[ZG,Bo,Ux,KaE,(.sc 137 9 10 [] [] [([0],1)])]
abbrev Kr:tM:=[ZG,Bq,Ux,(.sc 3 1 7 [] [] [([2],1)]),(.sc 3 1 8 [] [] [([2],1)])]
abbrev Ks:tM:=[ZG,Bq,Ux,KaE,(.sc 3 1 8 [] [] [([1],1)])]
abbrev UP:tA:=[.o 0,.o 1,.q 1 1,.q 1 2,.q 1 3,.q 8 7,.q 8 4,.q 9 8,.q 6 6,.o 2]
abbrev Kt:tM:=[ZG,Ux,(.cells 31 10 [UP])]
abbrev Ku:tM:=[ZG,UO,Ux]
abbrev Kv:tG:=[(0,30),(0,1073741824),(1,288230376151711744),(0,3),(1,1),(0,288230376151711744),(0,288230376151711744),(-576460752303423488,576460752303423488),(0,288230376151711744),(0,288230376151711744),jI,(0,288230376151711744)]
abbrev Kx:tM:=[ZG,Bq,Ux,KaE]
abbrev GP:AV:=(.agg [.o 0,.o 1,.q 1 0,.q 1 1,.q 1 2])
abbrev ZO:tA:=[.o 0,.o 1,.q 1 0,.q 1 1,.q 1 2,.q 8 4,(.lit 8 []),(.lit 9 []),(.lit 6 []),.i 0]
abbrev Hg:tA:=[GP,.q 1 3]
abbrev Ky:tF:=[(31,[GP],(.bB [(.agg ZO),.i 0])),(32,Hg,(.q 9 5))]
abbrev Kz:tG:=[(2,3),(2,4),(0,1099511627775),(24,24),(0,1099511627776),(0,2),(0,1099511627776),(0,3),(0,1099511627776),(0,7),(0,1),(0,1099511627776),(0,23),(0,1099511627776),(0,899),(0,1099511627776),(0,11),(0,11),(0,2)]
abbrev Hh:Mc.bX:=(.cells 25 5 [[.o 0,.o 1,.q 1 0,.q 1 1,.q 1 2]])
abbrev UL:tA:=[.o 2,.o 3,.q 1 4,.q 1 5,.q 1 6,.q 8 7,.q 8 8,.q 9 9,.q 6 10,.o 4]
abbrev KA:tM:=[Hh,Ux,(.cells 31 10 [UL])]
abbrev KB:tG:=[(0,1073741823),(0,1073741824),(0,1073741824),(0,3),(0,1073741824),(0,6),(0,1073741824),(0,1073741824),(0,3),(0,1073741824),(0,3),(0,39),(0,3),(0,39),(0,3),(0,39),(0,3),(0,39),(0,3),(0,39),(0,3),(0,39)]
abbrev G8:tA:=[Kb2,.v 0,.v 1,.v 2]
abbrev Kaa:AV:=(.agg [.q 3 8,.o 7,.o 8,.o 9])
abbrev Ub:tH:=(121,G8,Kaa)
abbrev U6:tH:=(146,[Kaa],(.agg [.v 17,.o 5,.o 6]))
abbrev VY:tH:=(149,[.v 18,(.e [([15],1),([16],-1)]),.v 15],(.v 19))
abbrev KC:tF:=[Ub,U6,VY]
abbrev Jc:tA:=[(sN (.q 8 9) (.o 2)),.v 0,(.lit 2 [[.i 5,.v 6],[.i 7,.v 7],[.i 8,.v 8],[.i 0,(.e [([6],-1)])],[.i 0,(.e [([7],-1)])],[.i 0,(.e [([8],-1)])]])]
abbrev KbS:AV:=(sN (.q 8 10) (.o 2))
abbrev DG:AV:=(.bB [KbS,.i 0])
abbrev KD:tH:=(92,Jc,DG)
abbrev Kbp:AV:=(.agg [.i 0,.i 0,.i 0])
abbrev Z6:AV:=(.bB [Kb2,Kbp,Kcd,.v 13])
abbrev Jp:tH:=(217,Hl,Z6)
abbrev KF:tF:=[HF,Jp]
abbrev KG:tG:=[(-9223372036854775808,9223372036854775807),(-9223372036854775808,9223372036854775807),(0,30),(0,30),(0,60),(-288230376151711744,288230376151711744),(0,288230376151711744),(0,1)]
abbrev Bp:tH:=(149,[.v 18,.v 17,.v 15],(.v 19))
abbrev KH:tF:=[Ub,U6,Bp]
abbrev KJ:tA:=[Ua,.v 0,.v 1,(.agg [.i 0,.i 0,.i 0,.i 0,.i 0,.i 0,.i 0,.i 0,.i 0,.i 0,(.e [([15],1),([16],1)])])]
abbrev Kbq:AV:=(.agg [.v 5,.v 6,.v 7])
abbrev US:tH:=(215,[.q 3 0,.v 2],(.bB [.q 3 1,Kbq,.i 0]))
abbrev VP:tH:=(198,[.q 3 0],(.bB [(.agg [.v 8,.v 9,.v 10]),.i 0]))
abbrev KK:tF:=[US,VP,(148,[.v 2,.v 1,.i 1],(.bB [.v 11,.o 3,.i 0]))]
abbrev KbK:AV:=(sN (.q 8 13) (.v 7))
abbrev Kcs:AV:=(.e [([19],-1)])
abbrev QT:AV:=(.lit 2 [[.i 4,.v 5],[.i 3,Kcy],[.i 0,.v 21],[.i 6,.v 22],[.i 5,Kcs]])
abbrev JA:tA:=[KbK,.v 0,QT]
abbrev KbL:AV:=(sN (.q 8 14) (.v 7))
abbrev KL:tH:=(92,JA,(.bB [KbL,.i 0]))
abbrev KM:tG:=[(0,3),(0,4),(0,1),(0,288230376151711744),(0,288230376151711744),(0,288230376151711744),(0,288230376151711744),(0,288230376151711744),(0,288230376151711744),(1,20)]
abbrev JB:tA:=[Kb3,.v 0,QT]
abbrev KN:tH:=(92,JB,DT)
abbrev KaN:tI:=([([6],-1),([8],1)],1,40)
abbrev VT:tI:=([([4],1),([14],-1),([18],1)],-1152921504606846976,0)
abbrev DX:tI:=([([16],1)],1,1152921504606846976)
abbrev HH:tI:=([([4],1),([16],-1)],-1152921504606846976,0)
abbrev KO:tC:=[KaN,VT,DX,HH]
abbrev KaL:tI:=([([0],-1),([11],1)],1,4)
abbrev KaO:tI:=([([1],-1),([12],1)],1,5)
abbrev VB:tI:=([([15],-1),([16],1),([17],1)],-1152921504606846976,-1)
abbrev Kcv:tI:=([([14],1)],1,3)
abbrev KP:tC:=[KaL,KaO,VB,Kcv,([([19],1)],1,1125899906842624)]
abbrev VX:tI:=([([15],-1),([16],1),([17],1)],0,1152921504606846976)
abbrev KQ:tC:=[KaL,KaO,VX,Kcv,([([19],1)],1,1125899906842624)]
abbrev Kcm:AV:=(.c (.bool true))
abbrev Z7:tJ:=(5,[([6],1)],[.v 0,.v 1,.v 2,.v 14,.v 15,.v 16,.v 17,.v 18,Kcm])
abbrev KR:tE:=[Z7,(0,[([0],1)],[.v 23,.o 2,.q 4 7,.q 1 8,.q 11 9,.q 1 10,.q 1 11,.q 8 12])]
abbrev KT:tE:=[Z7,(0,[([0],1)],[.v 19,.o 2,.q 4 7,.q 1 8,.q 11 9,.q 1 10,.q 1 11,.q 8 12])]
abbrev YP:tJ:=(0,[([1],1)],[.v 6,.o 9,.q 4 8,.q 1 9,.q 11 10,.q 1 11,.q 1 12,(.lit 8 [])])
abbrev KV:tE:=[(7,[([3],1)],[.v 4,.o 3,.o 4,.o 5,.o 6,.o 7,.o 8,.v 5,Kcm]),YP]
abbrev KW:tG:=[(0,30),(0,288230376151711744),(0,288230376151711744),(0,288230376151711744),(0,288230376151711744),(0,288230376151711744),jI,(1,9223372036854775807)]
abbrev KX:AV:=(.bB [(.agg [(.lit 3 [[(.e [([2],(-1)),([8],1)]),.i 0,(.e [([7],(-1)),([10],1)])]]),.o 0,.o 1,.o 2]),(.agg [.v 5,.v 9,.v 7]),Kcd,.i 0])
abbrev KY:tG:=[(0,30),(0,288230376151711744),(0,288230376151711744),(0,288230376151711744),(0,288230376151711744),(0,288230376151711744),jI,(1,288230376151711744)]
abbrev J8:tA:=[Kb3,.v 0,(.lit 2 [[.i 3,.v 5],[.i 4,Kcy],[.i 5,.v 14],Kbu])]
abbrev KZ:tH:=(92,J8,DT)
abbrev Kcb:Poly:=[([4],1),([15],-1)]
abbrev HU:tI:=(Kcb,1,1152921504606846976)
abbrev DC:tI:=([([16],1)],-1152921504606846976,0)
abbrev K6:tC:=[KaL,KaO,Kcv,HU,DC]
abbrev K7:tC:=[KaL,KaO,Kcv,HU,DX]
abbrev Qd:tA:=[Kb3,.v 0,(.lit 2 [[.i 1,.v 20],[.i 6,(.e [([19],1),([20],-1)])],[.i 0,Kcs]])]
abbrev K8:tH:=(92,Qd,DT)
abbrev Qe:tA:=[Kb3,.v 0,(.lit 2 [[.i 2,.v 20],[.i 6,(.e [([19],1),([20],-1)])],[.i 0,Kcs]])]
abbrev K9:tH:=(92,Qe,DT)
abbrev GE:Mc.bX:=(.cells 161 4 [[.q 3 0,.o 0,.o 1,.o 2]])
abbrev GW:Mc.bX:=(.cells 161 4 [[.emp,.i 0,.i 0,.i 0]])
abbrev Ja:tM:=[GE,GW,(.sc 101 3 1 [] [] [([0],1)]),Bo]
abbrev HN:tA:=[(.lit 1 [[.v 17],[.v 18],[.v 19],[.v 20]])]
abbrev Jb:AV:=(.lit 1 [HN,[(.lit 1 [[.v 21],[.v 22],[.v 23],[.v 24]])],[(.lit 1 [[.v 25],[.v 26],[.v 27],[.v 28]])]])
abbrev Qz:tA:=[KbJ,.v 0,.v 1,(.agg [.i 0,.i 0,.v 19,.i 0,.i 0,.i 0,.i 0,.i 0,.i 0,.i 0,.i 0])]
abbrev KbN:AV:=(sN (.q 8 11) (.v 7))
abbrev Dh:AV:=(.bB [KbN,.v 13])
abbrev Jd:tH:=(124,Qz,Dh)
abbrev DD:AV:=(.bB [KbN,.i 0])
abbrev Je:tH:=(124,Qz,DD)
abbrev GI:tA:=[(.lit 1 [[.v 5],[.v 6],[.v 7],[.v 8]])]
abbrev H7:tA:=[(.lit 1 [[.v 9],[.v 10],[.v 11],[.v 12]])]
abbrev HM:tA:=[(.lit 1 [[.v 13],[.v 14],[.v 15],[.v 16]])]
abbrev Jf:AV:=(.lit 1 [GI,H7,HM])
abbrev QI:tA:=[Kb4,.v 0,.v 1,(.agg [.i 0,.i 0,.i 0,.i 0,.i 0,.i 0,.i 0,.v 19,.i 0,.i 0,.i 0])]
abbrev Dy:AV:=(.bB [Kb4,.v 13])
abbrev Jg:tH:=(124,QI,Dy)
abbrev Jh:tH:=(124,QI,DU)
abbrev UC:tA:=[Kb2,.v 0,.v 1,.v 2,.i 2,(.e [([4],-1),([15],1)])]
abbrev Ka3:AV:=(.agg [.o 2,.v 16,.o 3])
abbrev Ji:tH:=(217,UC,(.bB [Kb5,Ka3,.o 4,.i 0]))
abbrev KaM:tI:=([([6],-1),([9],1)],1,40)
abbrev VS:tI:=([([4],1),([14],-1),([15],1)],-1152921504606846976,0)
abbrev Jj:tC:=[KaM,VS,KaL,([([18],-1),([23],1)],1,200)]
abbrev Ka4:AV:=(.e Kcb)
abbrev ZE:tA:=[Kb2,.v 0,.v 1,.v 2,(.agg [Ka4,.v 19,.i 0])]
abbrev Jk:tH:=(145,ZE,(.bB [KbJ,.v 20,.v 21,.i 0]))
abbrev ZF:tA:=[Kb2,.v 0,.v 1,.v 2,(.agg [Ka4,.v 18,.i 0])]
abbrev Jl:tH:=(145,ZF,(.bB [Kb5,.v 19,.v 20,.i 0]))
abbrev Kb1:AV:=(sN (.q 8 0) (.o 2))
abbrev HL:tH:=(89,[Kb1,.v 3,.v 4],(.i 0))
abbrev D4:tA:=[Kb1,.q 1 7,.o 3]
abbrev W8:tH:=(28,D4,(.q 1 8))
abbrev Jm:tF:=[HL,W8,(90,[.v 2,.q 1 8],(.bB [.q 1 9,.i 0]))]
abbrev Jn:tC:=[KaM,VS,KaL,([([18],-1),([19],1)],0,0)]
abbrev ZJ:tA:=[Kb2,.v 0,.v 1,.v 2,(.agg [Ka4,.i 0,.i 0])]
abbrev Jo:tH:=(145,ZJ,(.bB [Kb5,.v 18,.v 19,.i 0]))
abbrev Jq:tH:=(122,[(.agg [.q 3 7,.v 3,.v 4,.v 5])],(.bB [(.agg [.q 3 8,.i 0,.i 0,.i 0]),(.agg [.o 3,.v 6,.o 4,.o 5,.v 7,.o 6,.o 7,.v 8,.o 8])]))
abbrev U0:tH:=(215,[.q 3 0,.v 0],(.bB [.q 3 1,(.agg [.o 0,.o 1,.o 2]),.o 3]))
abbrev U1:tH:=(215,[.q 3 1,.v 1],(.bB [.q 3 2,(.agg [.o 4,.o 5,.o 6]),.o 7]))
abbrev Jr:tF:=[U0,U1]
abbrev Zc:tA:=[KbJ,.v 0,(.lit 2 [[.i 0,.v 20],[.i 6,.v 21],[.i 8,Kcs]])]
abbrev Js:tH:=(92,Zc,DD)
abbrev Zb:tA:=[Kb3,.v 0,(.lit 2 [[.i 0,.v 19],[.i 6,.v 20],[.i 12,(.e [([17],-1)])]])]
abbrev Jt:tH:=(92,Zb,DT)
abbrev Zh:tA:=[Kb5,.v 0,(.lit 2 [[.i 0,.v 19],[.i 6,.v 20],[.i 8,(.e [([18],-1)])]])]
abbrev Ju:tH:=(92,Zh,DA)
abbrev Zo:tA:=[Kb3,.v 0,(.lit 2 [[.i 0,.v 14],[.i 6,.v 15],[.i 1,Kcy]])]
abbrev Jw:tH:=(92,Zo,DT)
abbrev Kcp:Poly:=[([],1),([1],1)]
abbrev Jx:tM:=[ZG,(.sc 3 1 8 [] [[.i 0]] Kcp)]
abbrev BR:AV:=(.agg [.q 3 15,.o 5,.o 6,.o 7])
abbrev UA:tA:=[.v 4,.v 5,BR,(.agg [.o 8,.v 7,.o 9])]
abbrev BS:AV:=(.agg [.q 3 16,.o 5,.o 6,.o 7])
abbrev Jy:tH:=(196,UA,(.bB [BS,.v 8,.i 0]))
abbrev Zu:tA:=[Kb4,.v 0,(.lit 2 [[.i 0,(.e [([14],1),([16],-1)])],[.i 6,.v 15]])]
abbrev Jz:tH:=(92,Zu,DU)
abbrev Ww:tA:=[.o 9,.o 10,.o 11,.v 3,.v 4,.o 12,.o 13,.o 14,.o 15]
abbrev QM:tA:=[Kb1,(.agg Ww),.o 3,.o 4,.o 5]
abbrev JC:tF:=[(180,QM,Kcm)]
abbrev JD:tG:=[(1,4),(0,288230376151711744),(0,288230376151711744),(0,288230376151711744),(0,1073741824),(0,288230376151711744),jI,jI]
abbrev Do:tA:=[(.lit 1 [[.v 13],[.v 14],[.v 15]])]
abbrev JE:AV:=(.lit 1 [Do,[(.lit 1 [[.v 16],[.v 17],[.v 18]])],[(.lit 1 [[.v 19],[.v 20],[.v 21]])]])
abbrev JF:tG:=[(0,30),Me,(0,3),(0,30),(0,288230376151711744),(0,288230376151711744),(-576460752303423488,576460752303423488),(1,20)]
abbrev Hj:tA:=[Kb2,.v 0,.v 1,.v 2,.i 0,.v 4]
abbrev UT:AV:=(.bB [Kb3,(.agg [.o 2,.v 14,.o 3]),.o 4,.i 0])
abbrev JI:tH:=(217,Hj,UT)
abbrev Hk:tA:=[Kb2,.v 0,.v 1,.v 2,.i 1,.v 4]
abbrev JJ:tH:=(217,Hk,UT)
abbrev JK:tH:=(217,Hl,(.bB [Kb3,Ka3,.o 4,.i 0]))
abbrev JL:tH:=(217,Hl,(.bB [Kb3,(.agg [.o 2,.v 19,.o 3]),.o 4,.i 0]))
abbrev JM:tA:=[Kb5,.v 0,.v 1,(.agg [.i 0,.i 0,.i 0,.i 0,.i 0,.i 0,.i 0,.i 0,.i 0,.i 0,(.e [([14],1),([16],-1)])])]
abbrev JN:tH:=(145,U3,(.bB [KbK,.v 21,.v 22,.i 0]))
abbrev JO:tC:=[KaN,VT,DC]
abbrev YC:tA:=[Kb5,.v 0,(.lit 2 [[.i 0,.v 18],[.i 6,.v 19],[.i 8,.i 0]])]
abbrev JP:tH:=(92,YC,DA)
abbrev JQ:tD:=[(0,[([0],1)]),(7,[([2],2)]),(8,[([],17)]),(9,[([2],1)]),(10,[([2],1)]),(11,[([2],1)]),(13,[([2],1)]),(14,[([3],1)])]
abbrev JR:tH:=(145,U3,(.bB [Kb3,.v 21,.v 22,.i 0]))
abbrev U5:tA:=[Kb2,.v 0,.v 1,.v 2,(.agg [.v 4,.v 17,.v 18])]
abbrev JS:tH:=(145,U5,(.bB [Kb3,.v 19,.v 20,.i 0]))
abbrev YV:tA:=[Kb5,.v 0,(.lit 2 [[.i 8,.v 16],[.i 0,(.e [([16],-1)])]])]
abbrev JT:tH:=(92,YV,DA)
abbrev YS:tA:=[Kb3,.v 0,(.lit 2 [[.i 7,.v 14],Kbu])]
abbrev JU:tH:=(92,YS,DT)
abbrev JV:tH:=(145,[Kb3,.v 0,.v 1,.v 3,Ka3],(.bB [Kb4,.v 14,.v 15,.i 0]))
abbrev Br:tA:=[(.lit 1 [[.v 4],[.v 5],[.v 6]])]
abbrev Bt:tA:=[(.lit 1 [[.v 7],[.v 8],[.v 9]])]
abbrev Dn:tA:=[(.lit 1 [[.v 10],[.v 11],[.v 12]])]
abbrev JX:AV:=(.lit 1 [Br,Bt,Dn])
abbrev Vf:tA:=[Kb2,.v 0,.v 1,.v 2,(.agg [.v 4,.v 5,.i 0])]
abbrev JY:tH:=(145,Vf,(.bB [Kb3,.v 14,.v 15,.i 0]))
abbrev JZ:tG:=[(1,4),(0,288230376151711744),(0,288230376151711744),(0,288230376151711744),(0,1073741824),(0,288230376151711744)]
abbrev Kcu:tI:=([([14],1)],4,4)
abbrev J0:tC:=[KaL,KaO,Kcu,HU]
abbrev J2:tG:=[(0,30),Me,(0,3),(0,30),(0,288230376151711744),(0,288230376151711744),(-576460752303423488,576460752303423488)]
abbrev J3:tM:=[ZG,(.sc 3 1 8 [] [] [([1],1)])]
abbrev KaA:Mc.bX:=(.sc 3 1 8 [] [] [([0],1)])
abbrev J4:tM:=[ZG,KaA]
abbrev J5:tA:=[(sN (.seq 8 0 [([([1],1)],[.o 3,.o 4,.q 4 7,.q 1 8,.q 11 9,.q 1 10,.q 1 13,.q 8 12])] []) (.o 2)),.v 1,.q 2 14]
abbrev Kbe:tA:=[(.e [([],1),([10],1)])]
abbrev Kbf:tA:=[(.e Kco)]
abbrev Kbg:tA:=[(.e [([],1),([14],1)])]
abbrev Kbh:tA:=[(.e [([],1),([16],1)])]
abbrev J6:tA:=[(.lit 1 [Kbe,Kbf,Kbg,Kbh])]
abbrev Kbi:tA:=[(.e [([],1),([18],1)])]
abbrev Kbj:tA:=[(.e [([],1),([20],1)])]
abbrev J7:tA:=[(.lit 1 [Kbi,Kbj,[(.e [([],1),([22],1)])],[(.e [([],1),([24],1)])]])]
abbrev J9:tG:=[(0,1073741824),(0,1125899906842624),(0,1073741824),(0,1125899906842624),(0,1073741824),(0,1125899906842624)]
abbrev Qa:tA:=[KbN,.v 0,.v 1,(.agg [.i 0,.i 0,.i 0,.i 0,.i 0,.i 0,.i 0,.i 0,.i 0,(.e [([20],-1)]),.i 0])]
abbrev Qb:tA:=[KbJ,.v 0,.v 1,(.agg [.i 0,.i 0,.i 0,.i 0,.i 0,.i 0,.i 0,.i 0,.i 0,Kcs,.i 0])]
abbrev Qc:tA:=[KbJ,.v 0,.v 1,(.agg [.i 0,.i 0,.i 0,.i 0,.i 0,.i 0,.i 0,.i 0,.i 0,(.e [([18],-1)]),.i 0])]
abbrev WU:tA:=[.o 10,.o 11,.o 12,.o 13,.o 14,.o 15,.o 16,.o 17]
abbrev Qf:tE:=[(7,[([5],1)],[.v 6]),(4,[([6],1)],WU),(9,[([5],1)],[.o 18])]
abbrev Qg:tA:=[Kb1,.v 0,.v 2,(.agg [.o 16,.o 17,.o 18,.o 19,.o 20,.o 21,.o 22,.o 23,.o 24,.o 25,.o 26])]
abbrev Qh:tG:=[(1,4),(0,288230376151711744),(0,288230376151711744),(0,288230376151711744),(0,288230376151711744),jI,jI]
abbrev KbQ:AV:=(.e [([],1),([0],1)])
abbrev Qi:AV:=(.bB [(.agg [.o 8,.o 9,.q 1 8,.q 1 9,.q 1 10,.q 8 7,.q 8 11,.q 9 12,.q 6 13,KbQ]),.i 0])
abbrev Qj:AV:=(.bB [(.agg [.o 6,.o 7,.q 1 8,.q 1 9,.q 1 10,.q 8 7,.q 8 11,.q 9 12,.q 6 13,KbQ]),.i 0])
abbrev Qk:AV:=(.bB [(.agg [.o 7,.o 8,.q 1 8,.q 1 9,.q 1 10,.q 8 7,.q 8 11,.q 9 12,.q 6 13,KbQ]),.i 0])
abbrev Ql:AV:=(.bB [(.agg [.o 4,.o 5,.q 1 8,.q 1 9,.q 1 10,.q 8 7,.q 8 11,.q 9 12,.q 6 13,KbQ]),.i 0])
abbrev Qm:tA:=[Kb2,.v 0,(.lit 2 [[.i 1,.v 19],[.i 6,(.e [([5],1),([19],-1)])],[.i 2,Kcy]])]
abbrev Kcf:Poly:=[([0],1),([1],-1)]
abbrev KaR:tI:=(Kcf,1,60)
abbrev Kcg:Poly:=[([2],-1),([3],1)]
abbrev Qn:tC:=[KaR,([([3],1)],0,9223372036854775807),(Kcg,0,9223372036854775808)]
abbrev Qo:tA:=[(sN (.q 8 8) (.o 2)),.v 3,(.lit 2 [[.i 0,.v 5],[.i 9,(.e [([2],1),([5],-1)])],[.i 2,(.e [([2],-1)])]])]
abbrev Qp:tA:=[Kb1,(.agg [.v 5,.v 6,.v 7,.o 5,.o 6,.o 7,.o 8,.v 8,Kcm]),.v 1,.v 2,.v 3]
abbrev Qq:tG:=[(1,4),(1,1073741824),(0,1073741824),(0,288230376151711744),(0,1125899906842624),(0,1125899906842624)]
abbrev Qs:AV:=(.lit 1 [HM,HN])
abbrev Kb6:tJ:=(7,[([1],1)],[.v 3])
abbrev Vv:tJ:=(4,[([3],1)],[.o 3,.o 4,.o 5,.o 6,.o 7,.o 8,.o 9,.o 10])
abbrev Kb9:tJ:=(8,[([1],1)],[.i 0])
abbrev Qt:tE:=[Kb6,Vv,Kb9]
abbrev Qu:tC:=[KaL,KaO,(Kcb,-1152921504606846976,-1)]
abbrev Qv:tG:=[(1,4),(0,288230376151711744),(0,288230376151711744),(0,288230376151711744),(0,288230376151711744)]
abbrev UU:AV:=(.agg [.i 0,.i 0,.i 0,.i 0,.v 21,.i 0,.i 0,.i 0,.i 0,.i 0,.i 0])
abbrev Qw:tA:=[KbL,.v 0,.v 1,UU]
abbrev Qx:tA:=[KbJ,.v 0,.v 1,(.agg [.i 0,.i 0,.i 0,.i 0,.i 0,.i 0,.i 0,.i 0,.i 0,.v 16,.i 0])]
abbrev Qy:tH:=(123,[KbJ,.v 0,.v 1,.i 1,(.agg [.q 3 12,.o 5,.o 6,.o 7])],KbK)
abbrev KbI:AV:=(sN (.q 8 17) (.o 2))
abbrev QA:tH:=(123,[Kb1,.v 0,.v 2,.v 6,BS],KbI)
abbrev QC:tA:=[Kb4,.v 0,.v 1,(.agg [.i 0,.v 14,.i 0,.i 0,.i 0,.i 0,.i 0,.i 0,.i 0,.i 0,.i 0])]
abbrev QD:tA:=[Kb4,.v 0,.v 1,(.agg [.i 0,.i 0,.i 0,.i 0,.i 0,.v 14,.i 0,.i 0,.i 0,.i 0,.i 0])]
abbrev QE:tA:=[Kb4,.v 0,.v 1,(.agg [.i 0,.i 0,.i 0,.i 0,.i 0,.i 0,.i 0,.i 0,.v 14,.i 0,.i 0])]
abbrev QG:tA:=[Kb4,.v 0,.v 1,UU]
abbrev QH:tH:=(123,[Kb2,.v 0,.v 1,.v 2,(.agg [.q 3 13,.o 6,.o 4,.o 5])],KbL)
abbrev QK:tA:=[Kb4,.v 0,.v 1,(.agg [.i 0,.i 0,.i 0,.v 19,.i 0,.i 0,.i 0,.i 0,.i 0,.i 0,.i 0])]
abbrev Kcj:Poly:=[([2],1),([3],-1)]
abbrev QL:tC:=[KaR,([([3],1)],0,100),(Kcj,1,100),([([4],1),([5],-1)],1,5)]
abbrev QN:tA:=[KbS,.v 0,.v 1,(.agg [.i 0,.i 0,.i 0,.i 0,.i 0,.v 6,.i 0,.i 0,.v 7,.v 8,.i 0])]
abbrev QO:tG:=[(0,1073741824),(0,1125899906842624),(0,1073741824),(0,1125899906842624),(0,1073741824),jI,jI]
abbrev QP:tH:=(123,[Kb2,.v 0,.v 1,.i 0,(.agg [.q 3 9,.o 2,.o 3,.o 4])],KbJ)
abbrev HK:tA:=[.v 14,Kaa,.v 19]
abbrev Kab:AV:=(.agg [.q 3 9,.o 7,.o 8,.o 9])
abbrev QQ:tH:=(150,HK,(.bB [Kab,.v 13]))
abbrev QR:tH:=(123,[Kb2,.v 0,.v 1,.v 2,Kab],KbJ)
abbrev QS:AV:=(.lit 1 [[(.lit 1 [[.v 9],[.v 10]])],[(.lit 1 [[.v 11],[.v 12]])],[(.lit 1 [[.v 13],[.v 14]])]])
abbrev BT:AV:=(.agg [.q 3 13,.o 3,.o 4,.o 5])
abbrev HS:tA:=[BT,.i 0,.v 4]
abbrev QU:tH:=(218,HS,(.bB [(.agg [.q 3 13,.o 6,.o 4,.o 5]),.i 0]))
abbrev QV:tH:=(150,HK,(.bB [Kab,.i 0]))
abbrev QW:tH:=(123,[Kb1,.v 0,.v 1,.v 2,(.agg [.q 3 8,.i 0,.i 0,.i 0])],(sN (.q 8 9) (.o 2)))
abbrev QX:AV:=(.lit 1 [GI,H7])
abbrev QY:tG:=[(0,1073741824),(0,1125899906842624),(0,1073741824),(0,1125899906842624),(0,1073741824),jI]
abbrev KbE:tJ:=(2,[([0],1)],[.q 1 7])
abbrev KbM:tJ:=(7,[([1],1)],[.v 14])
abbrev QZ:tE:=[KbE,KbM,(3,[([0],1)],[.q 1 14]),(14,[([1],1)],[.o 8])]
abbrev Q0:tE:=[KbE,KbM,(3,[([0],1)],[.q 1 8]),(8,[([1],1)],[.v 18])]
abbrev Q1:tE:=[(0,[([1],1)],[.o 3,Kcd,.q 4 7,.q 1 8,.q 11 9,.q 1 10,.q 1 11,(.lit 8 [])])]
abbrev Q2:AV:=(.lit 1 [[(.lit 1 [[.v 3],[.v 4]])],[(.lit 1 [[.v 5],[.v 6]])],[(.lit 1 [[.v 7],[.v 8]])]])
abbrev Q3:AV:=(.bB [(.agg [.o 8,.o 9,.q 1 8,.q 1 9,.q 1 10,.q 8 7,.q 8 11,.q 9 12,.q 6 13,.v 0]),.i 0])
abbrev Q4:AV:=(.bB [(.agg [.o 8,.o 9,.q 1 8,.q 1 9,.q 1 10,.q 8 7,.q 8 11,.q 9 12,.q 6 13,.v 1]),.v 0])
abbrev Q5:AV:=(.bB [(.agg [.o 6,.o 7,.q 1 8,.q 1 9,.q 1 10,.q 8 7,.q 8 11,.q 9 12,.q 6 13,.v 0]),.i 0])
abbrev Q6:AV:=(.bB [(.agg [.o 6,.o 7,.q 1 8,.q 1 9,.q 1 10,.q 8 7,.q 8 11,.q 9 12,.q 6 13,.v 1]),.v 0])
abbrev Q7:AV:=(.bB [(.agg [.o 7,.o 8,.q 1 8,.q 1 9,.q 1 10,.q 8 7,.q 8 11,.q 9 12,.q 6 13,.v 0]),.i 0])
abbrev Q8:AV:=(.bB [(.agg [.o 7,.o 8,.q 1 8,.q 1 9,.q 1 10,.q 8 7,.q 8 11,.q 9 12,.q 6 13,.v 1]),.v 0])
abbrev Q9:AV:=(.bB [(.agg [.o 4,.o 5,.q 1 8,.q 1 9,.q 1 10,.q 8 7,.q 8 11,.q 9 12,.q 6 13,.v 0]),.i 0])
abbrev Za:AV:=(.bB [(.agg [.o 4,.o 5,.q 1 8,.q 1 9,.q 1 10,.q 8 7,.q 8 11,.q 9 12,.q 6 13,.v 1]),.v 0])
abbrev Zd:tG:=[(1,4),(-576460752303423488,576460752303423488),(-576460752303423488,576460752303423488)]
abbrev Um:AV:=(.agg UP)
abbrev Ze:tA:=[Um,.v 1,.v 3,.v 4]
abbrev KbO:AV:=(.e [([],1),([5],1)])
abbrev KbC:tA:=[KbO]
abbrev Zf:AV:=(.lit 1 [[.v 5],KbC,[(.e [([],2),([5],1)])],[(.e [([],3),([5],1)])]])
abbrev Zg:tG:=[(0,1073741824),(0,1125899906842624),(0,1073741824),(0,1125899906842624),(0,1073741824)]
abbrev Zi:AV:=(.bB [(.agg [.o 0,.o 1,.q 1 1,.q 1 2,.q 1 15,.q 8 17,.q 8 4,.q 9 5,.q 6 6,.v 7]),.i 0])
abbrev Zj:AV:=(.bB [(.agg [.o 0,.o 1,.q 1 1,.q 1 2,.q 1 3,.q 8 11,.q 8 4,.q 9 12,.q 6 6,.o 2]),.i 0])
abbrev B3:AV:=(.agg [.q 3 1,.o 0,.o 1,.o 2])
abbrev Kbo:AV:=(.agg [.v 4,.v 5,.v 6])
abbrev Zk:AV:=(.bB [B3,Kbo,Kcd,.i 0])
abbrev BZ:AV:=(.agg [.q 3 0,.o 0,.o 1,.o 2])
abbrev Zl:AV:=(.bB [BZ,Kbp,Kcd,.v 7])
abbrev Zm:AV:=(.bB [BZ,Kbp,Kcd,.i 1])
abbrev B4:AV:=(.agg [.q 3 0,.v 1,.v 2,.v 3])
abbrev Zn:AV:=(.bB [B4,Kbp,Kcd,.i 5])
abbrev Zp:tD:=[(0,[([0],1)]),(7,[([2],2)]),(8,[([],17)]),(9,[([2],1)]),(10,[([2],1)]),(11,[([2],1)])]
abbrev Zq:tA:=[(.lit 1 [Kbe,Kbf,Kbg])]
abbrev Zr:tA:=[(.lit 1 [Kbh,Kbi,Kbj])]
abbrev Zs:tE:=[(7,[([5],1)],[.v 6]),(4,[([6],1)],[.v 7,.o 10,.o 11,.o 12,.o 13,.o 14,.o 15,.o 16])]
abbrev Zt:tA:=[(sN (.q 8 8) (.o 2)),(.agg WU),.o 18]
abbrev Zv:tG:=[(1,4),(0,288230376151711744),(0,288230376151711744),(0,288230376151711744),jI,jI]
abbrev Zw:tJ:=(0,[([1],1)],[.v 3,Kcm,.q 4 7,.q 1 8,.q 11 9,.q 1 10,.q 1 11,.q 8 12])
abbrev Uk:AV:=(.agg [.o 0,.v 0,.q 1 1,.q 1 2,.q 1 3,.q 8 0,.q 8 4,.q 9 5,.q 6 6,.o 2])
abbrev Zx:tA:=[Uk,.v 1,.i 0]
abbrev Zy:tA:=[Uk,.v 1,.i 1]
abbrev Zz:tA:=[Uk,.v 1,.i 2]
abbrev ZA:tA:=[Uk,.v 1,.i 3]
abbrev Ur:tA:=[.o 3,Kcm,.q 4 7,.q 1 8,.q 11 9,.q 1 10,.q 1 11,.q 8 12]
abbrev ZB:tJ:=(0,[([1],1)],Ur)
abbrev ZC:tF:=[(181,[.o 7,.q 1 8],(.bB [.q 1 9,.i 0])),(181,[.o 8,.q 1 8],(.bB [.q 1 10,.i 0]))]
abbrev ZD:AV:=(.lit 1 [Dn,Do])
abbrev ZH:tC:=[KaM,VS]
abbrev ZI:tE:=[(5,[([6],1)],[.v 0,.v 1,.v 2,.v 14,.v 15,.v 16,.v 17,.v 18,Kcd])]
abbrev Vy:AV:=(.agg [.i 11,.i 0,.i 0,.i 0,.o 3,.i 0,.o 4,.i 0,.q 1 7])
abbrev ZK:tH:=(22,[Vy],Kcm)
abbrev ZL:tJ:=(9,[([],1)],[.o 14,.o 15,.o 16,.o 17,.o 18,.o 19,.o 20,.o 21,.o 22,.o 23,.o 24])
abbrev ZM:tJ:=(9,[([],2)],[.o 25,.o 26,.o 27,.o 28,.o 29,.o 30,.o 31,.o 32,.o 33,.o 34,.o 35])
abbrev ZN:tJ:=(9,[([],3)],[.o 36,.o 37,.o 38,.o 39,.o 40,.o 41,.o 42,.o 43,.o 44,.o 45,.o 46])
abbrev Bn:tA:=[KbI,.v 0,.v 2]
abbrev ZP:tH:=(88,Bn,(.bB [(.agg [.o 10,.o 11,.o 12]),.i 0]))
abbrev ZQ:tH:=(121,[KbI,.v 0,.v 2,.i 0],(.agg [.q 3 18,.o 13,.o 14,.o 15]))
abbrev ZR:tH:=(121,[KbI,.v 0,.v 2,.i 1],(.agg [.q 3 19,.o 16,.o 17,.o 18]))
abbrev ZS:tA:=[Kb2,(.agg [.v 0,.v 1,.v 2,.v 15,.o 2,.o 3,.o 4,.v 16]),.v 18]
abbrev ZT:tE:=[Kb6,Vv]
abbrev VJ:AV:=(.agg [.i 10,.o 3,.o 4,.i 0,.i 0,.i 0,.o 5,.i 0,.emp])
abbrev ZU:tH:=(22,[VJ],Kcm)
abbrev ZV:tA:=[Kb1,Vy]
abbrev VK:AV:=(.agg [.i 12,.o 3,.o 4,.o 5,.o 6,.o 7,.o 8,.i 0,.emp])
abbrev ZW:tH:=(22,[VK],Kcm)
abbrev VL:AV:=(.agg [.i 13,.i 0,.i 0,.o 3,.i 0,.o 4,.i 0,.o 5,.emp])
abbrev ZX:tH:=(22,[VL],Kcm)
abbrev VM:AV:=(.agg [.i 14,.o 3,.i 0,.i 0,.i 0,.i 0,.i 0,.i 0,.emp])
abbrev ZY:tH:=(22,[VM],Kcm)
abbrev VN:AV:=(.agg [.i 15,.o 3,.i 0,.i 0,.i 0,.i 0,.i 0,.i 0,.emp])
abbrev ZZ:tH:=(22,[VN],Kcm)
abbrev VO:AV:=(.agg [.i 16,.o 3,.i 0,.i 0,.i 0,.i 0,.i 0,.i 0,.emp])
abbrev Z0:tH:=(22,[VO],Kcm)
abbrev Z1:tA:=[Kb1,(.agg WS)]
abbrev Z2:tA:=[Uk,.v 1]
abbrev Z3:tA:=[Um,.v 1]
abbrev Z4:tM:=[Hh,(.sc 50 9 4 [] [] [([1],1)])]
abbrev Z5:tE:=[(9,[([2],1)],[.o 5,.o 6,.o 7,.o 8,.o 9,.o 10,.o 11,.o 12,.o 13,.o 14,.o 15])]
abbrev VZ:AV:=(.agg [.i 1,.o 3,.o 4,.o 5,.i 0,.o 6,.o 7,.i 0,.emp])
abbrev Z8:tH:=(22,[VZ],Kcm)
abbrev V1:AV:=(.agg [.i 2,.i 0,.i 0,.i 0,.i 0,.o 3,.o 4,.o 5,.emp])
abbrev Z9:tH:=(22,[V1],Kcm)
abbrev V2:AV:=(.agg [.i 3,.i 0,.i 0,.i 0,.i 0,.o 3,.i 0,.o 4,.emp])
abbrev Ya:tH:=(22,[V2],Kcm)
abbrev V3:AV:=(.agg [.i 4,.o 3,.o 4,.o 5,.i 0,.o 6,.o 7,.i 0,.emp])
abbrev Yb:tH:=(22,[V3],Kcm)
abbrev V4:AV:=(.agg [.i 5,.i 0,.i 0,.i 0,.i 0,.o 3,.o 4,.o 5,.emp])
abbrev Yc:tH:=(22,[V4],Kcm)
abbrev V5:AV:=(.agg [.i 6,.o 3,.o 4,.o 5,.i 0,.o 6,.i 0,.i 0,.emp])
abbrev Yd:tH:=(22,[V5],Kcm)
abbrev V6:AV:=(.agg [.i 7,.o 3,.o 4,.o 5,.i 0,.o 6,.i 0,.i 0,.emp])
abbrev Ye:tH:=(22,[V6],Kcm)
abbrev V7:AV:=(.agg [.i 8,.o 3,.o 4,.o 5,.o 6,.o 7,.i 0,.i 0,.emp])
abbrev Yf:tH:=(22,[V7],Kcm)
abbrev V8:AV:=(.agg [.i 9,.o 3,.o 4,.i 0,.i 0,.i 0,.o 5,.i 0,.emp])
abbrev Yg:tH:=(22,[V8],Kcm)
abbrev Yh:tA:=[.o 3,Kcd,.q 4 10,.q 1 11,.q 11 12,.q 1 13,.q 1 14,(.lit 8 [])]
abbrev Yi:AV:=(.lit 1 [Br,Bt])
abbrev Bl:AV:=(.agg [.q 3 7,.o 12,.o 13,.o 14])
abbrev Yj:tH:=(121,[Kb1,.v 0,.v 1,.i 0],Bl)
abbrev Bm:AV:=(.agg [.q 3 8,.o 15,.o 16,.o 17])
abbrev Yk:tH:=(121,[Kb1,.v 0,.v 1,.i 1],Bm)
abbrev VI:AV:=(.agg [.i 12,.v 0,.v 1,.v 2,.v 3,.v 4,.v 5,.i 0,.emp])
abbrev Yl:tA:=[Kb2,VI]
abbrev Ym:tA:=[Kb2,(.agg [.i 13,.i 0,.i 0,.v 2,.i 0,.v 4,.i 0,.v 6,.emp])]
abbrev Yn:tA:=[Kb1,(.agg [.i 10,.v 0,.v 2,.i 0,.i 0,.i 0,.v 6,.i 0,.emp])]
abbrev Yo:tA:=[Kb1,VJ]
abbrev Yp:tA:=[Kb1,VK]
abbrev Yq:tA:=[Kb1,VL]
abbrev Yr:tA:=[Kb1,VM]
abbrev Ys:tA:=[Kb1,VN]
abbrev Yt:tA:=[Kb1,VO]
abbrev Yu:tA:=[Kb2,(.agg [.i 1,.v 0,.v 1,.v 2,.i 0,.v 4,.v 5,.i 0,.emp])]
abbrev Yv:tA:=[Kb2,(.agg [.i 4,.v 0,.v 1,.v 2,.i 0,.v 4,.v 5,.i 0,.emp])]
abbrev Yw:tA:=[Kb2,(.agg [.i 6,.v 0,.v 1,.v 2,.i 0,.v 4,.i 0,.i 0,.emp])]
abbrev VR:AV:=(.agg [.i 8,.v 0,.v 1,.v 2,.v 3,.v 4,.i 0,.i 0,.emp])
abbrev Yx:tA:=[Kb2,VR]
abbrev Yy:tA:=[Kb2,(.agg [.i 5,.i 0,.i 0,.i 0,.i 0,.v 4,.v 5,.v 6,.emp])]
abbrev Yz:tA:=[Kb2,(.agg [.i 2,.i 0,.i 0,.i 0,.i 0,.v 4,.v 5,.v 6,.emp])]
abbrev YA:tA:=[Kb2,(.agg [.i 3,.i 0,.i 0,.i 0,.i 0,.v 4,.i 0,.v 6,.emp])]
abbrev YB:tA:=[Kb2,(.agg [.i 7,.v 0,.v 1,.v 2,.i 0,.v 4,.i 0,.i 0,.emp])]
abbrev YD:tA:=[Kb2,(.agg [.i 9,.v 0,.v 1,.i 0,.i 0,.i 0,.v 5,.i 0,.emp])]
abbrev YE:tH:=(121,[KbJ,.v 0,.v 1,.i 1],(.agg [.q 3 11,.o 5,.o 6,.o 7]))
abbrev YF:tA:=[(.agg [.i 11,.i 0,.i 0,.i 0,.v 0,.i 0,.v 1,.i 0,(.lit 1 [[.v 2],[.v 3]])])]
abbrev YG:tA:=[Kb1,VZ]
abbrev YH:tA:=[Kb1,V1]
abbrev YI:tA:=[Kb1,V2]
abbrev YJ:tA:=[Kb1,V3]
abbrev YK:tA:=[Kb1,V4]
abbrev YL:tA:=[Kb1,V5]
abbrev YM:tA:=[Kb1,V6]
abbrev YN:tA:=[Kb1,V7]
abbrev YO:tA:=[Kb1,V8]
abbrev GD:AV:=(.agg [.o 5,.o 6,.q 1 9,.q 1 10,.q 1 11])
abbrev YQ:tH:=(10,[GD,.q 1 7],Kb1)
abbrev G1:tA:=[Kb1,.v 0,.v 2,.v 6]
abbrev YR:tH:=(121,G1,BR)
abbrev YT:tH:=(121,G8,BT)
abbrev YW:tA:=[.o 13,.o 14,.q 1 11,.q 1 12,.q 1 13,.q 8 14,.q 8 15,.q 9 16,.q 6 17,.o 15]
abbrev YX:tA:=[.o 13,.o 14,.q 1 12,.q 1 13,.q 1 14,.q 8 15,.q 8 16,.q 9 17,.q 6 18,.o 15]
abbrev Hy:Poly:=[([1],-1),([2],-1),([3],-1),([4],1),([7],-1)]
abbrev YY:tC:=[(Hy,-18446744073709551616,-1)]
abbrev YZ:tG:=[(0,1073741824),(0,1073741824),jI,jI,(0,100),jI,jI,jI,jI,(-100,100)]
abbrev Y0:tA:=[KbL,.v 0,(.lit 2 [[.i 4,.v 5],[.i 3,Kcy]])]
abbrev Ht:tA:=[.v 0,.v 1,.v 2,.v 14,.v 15,.v 16,.v 17,.v 18]
abbrev Vk:tA:=[(.agg Ht),.v 4]
abbrev Y1:tH:=(223,Vk,(.v 19))
abbrev Y2:tH:=(223,Vk,(.v 20))
abbrev Y3:tG:=[(0,1073741824),(0,1125899906842624),jI,(0,1125899906842624),jI,jI,jI]
abbrev B6:AV:=(.agg [.q 3 8,.o 2,.o 3,.o 4])
abbrev Y4:tH:=(121,G8,B6)
abbrev Y5:tH:=(121,G8,(.agg [.q 3 8,.o 5,.o 6,.o 7]))
abbrev B7:AV:=(.agg [.q 3 9,.o 4,.o 5,.o 6])
abbrev Y6:tH:=(121,G8,B7)
abbrev B8:AV:=(.agg [.q 3 8,.o 4,.o 5,.o 6])
abbrev Y7:tH:=(121,G8,B8)
abbrev B9:AV:=(.agg [.q 3 8,.o 3,.o 4,.o 5])
abbrev Y8:tH:=(121,G8,B9)
abbrev Y9:tH:=(121,[Kb2,.v 0,.v 1,.i 0],B6)
abbrev Db:tA:=[Kb1,.v 0,.v 1,.v 2]
abbrev Uc:tH:=(121,Db,(.agg [.q 3 7,.v 3,.v 4,.v 5]))
abbrev UD:tA:=[.o 0,.o 1,.q 1 1,.q 1 2,.q 1 3,.q 8 10,.q 8 4,.q 9 11,.q 6 6,.o 2]
abbrev Ud:AV:=(.agg UD)
abbrev KaG:tI:=([([6],-1),([10],1)],1,40)
abbrev Ue:tC:=[KaG,([([4],1),([14],-1)],-1152921504606846976,0)]
abbrev Uf:tE:=[(0,[([1],1)],[.v 4,.o 4,.q 4 7,.q 1 8,.q 11 9,.q 1 10,.q 1 11,.q 8 12])]
abbrev Up:tJ:=(0,[([1],1)],[.o 3,.o 4,.q 4 7,.q 1 8,.q 11 9,.q 1 10,.q 1 11,.q 8 12])
abbrev Ug:tE:=[Up]
abbrev Uh:AV:=(.agg UL)
abbrev Ui:tC:=[KaN,HH]
abbrev Uj:tC:=[KaR,([([3],1)],0,100),(Kcj,1,100)]
abbrev Ul:tD:=[(5,[([0],1)]),(7,[([1],1)]),(10,[([0],1)]),(8,[([1],1)]),(9,[([1],1)])]
abbrev Un:AV:=(.agg [.o 0,.o 1,.q 1 1,.q 1 2,.q 1 3,.q 8 9,.q 8 4,.q 9 8,.q 6 6,.o 2])
abbrev Uo:tC:=[(Hy,0,1152921504606846976)]
abbrev Uq:tC:=[KaL,KaO,Kcu]
abbrev DN:tH:=(45,[.q 2 1],(.bB [.q 2 2,.i 0]))
abbrev Us:tF:=[DN,(200,[.q 2 2],Kcm)]
abbrev GV:tA:=[.v 17,Ka4,.v 16]
abbrev Ut:tH:=(148,GV,(.bB [.v 18,.o 3,.i 0]))
abbrev Uu:tG:=[(1,30),(0,1073741824),(0,288230376151711744),(0,288230376151711744)]
abbrev Uv:tG:=[(1,40),(0,40),(0,1125899906842624),(0,3),(0,4),(0,1125899906842624)]
abbrev G9:tA:=[Ka4,.v 18,.i 1]
abbrev Uw:tH:=(148,G9,(.bB [.v 19,.o 3,.i 0]))
abbrev Uy:tG:=[(1,40),(0,40),(0,1125899906842624),(0,3),(0,4),(0,39),(0,39),(0,3)]
abbrev Uz:tE:=[(5,[([1],1)],Ww)]
abbrev UB:tE:=[(5,[([6],1)],[.v 0,.v 1,.v 2,.v 14,.v 15,.v 16,.v 17,.v 18,.o 2])]
abbrev Kbn:AV:=(.agg [.o 3,.o 4,.o 6])
abbrev UE:tA:=[.i 1,.o 5,BZ,Kbn]
abbrev UF:tA:=[.i 2,.o 5,BZ,Kbn]
abbrev UG:tA:=[.i 3,.o 5,BZ,Kbn]
abbrev UH:tA:=[.i 4,.v 3,BZ,(.agg [.v 1,.v 2,.o 3])]
abbrev KcC:tA:=[.q 3 0,.v 1]
abbrev UI:tF:=[(215,KcC,(.bB [.q 3 1,Kbo,.i 0]))]
abbrev UJ:tF:=[(215,KcC,(.bB [.q 3 1,Kbo,.v 7]))]
abbrev UK:tF:=[U0]
abbrev Kbr:AV:=(.agg [.o 3,.o 4,.o 5])
abbrev UM:tH:=(146,[Bl],Kbr)
abbrev UN:tH:=(146,[Bm],(.agg [.o 6,.o 7,.o 8]))
abbrev UQ:AV:=(.lit 1 [[(.lit 1 [[.v 7],[.v 8]])],[(.lit 1 [[.v 9],[.v 10]])]])
abbrev UR:AV:=(.lit 1 [[.v 5],KbC,[(.e [([],2),([5],1)])]])
abbrev KaP:AV:=(.agg [.v 16,.v 17,.o 2])
abbrev UV:tH:=(146,[B7],KaP)
abbrev UW:tH:=(146,[B8],KaP)
abbrev UX:tH:=(146,[B9],KaP)
abbrev UY:tF:=[(146,[BZ],Kbr)]
abbrev UZ:tA:=[.o 4,.o 5,.q 4 13,.q 1 14,.q 11 15,.q 1 16,.q 1 17,(.lit 8 [])]
abbrev U2:AV:=(.lit 1 [[(.lit 1 [[.v 3],[.v 4]])],[(.lit 1 [[.v 5],[.v 6]])]])
abbrev U4:tG:=[(0,1073741824),(0,1073741824),jI,jI,(0,100),jI,jI,jI,jI]
abbrev U7:tC:=[KaR,([([3],1)],-9223372036854775808,-1)]
abbrev U8:tE:=[(4,[([6],1)],Ht)]
abbrev U9:tA:=[(.lit 1 [Kbe,Kbf])]
abbrev Va:tA:=[(.lit 1 [Kbg,Kbh])]
abbrev DM:tA:=[(.seq 3 0 [] [[.v 1,.v 2,.o 0]])]
abbrev Vb:tF:=[(199,DM,Kcd)]
abbrev BE:tA:=[.q 3 0,Kbn]
abbrev Kb0:AV:=(.bB [.q 3 1,.i 0])
abbrev Vc:tF:=[(226,BE,Kb0)]
abbrev Vd:tF:=[(226,BE,(.bB [.q 3 1,.v 2]))]
abbrev Ve:tA:=[Kb1,.v 0,.v 2,.v 6,(.agg [.o 8,.v 7,.o 9])]
abbrev Vg:tG:=[(1,40),(0,40),(0,1125899906842624),(0,39),(0,3),(0,4),(0,1)]
abbrev Vh:tG:=[(0,4),(0,3),(0,4),(-2,3),(0,100),(0,3),(0,4),(-2,3),(0,100)]
abbrev Vi:tA:=[Kb1,.o 3,.o 4,.o 5,(.agg [.o 6,.o 7,.o 8])]
abbrev Vj:tI:=([([7],-1),([10],1)],-288230376151711744,288230376151711744)
abbrev Vl:tA:=[.o 3,.o 4,.o 5,.o 6,.o 7,.o 8,.o 9,.o 10,.o 11,.o 12,.o 13]
abbrev Vm:tG:=[(0,30),(1,9223372036854775807),(-9223372036854775808,-1)]
abbrev Vn:tH:=(199,DM,Kcm)
abbrev Vo:tG:=[(0,1073741824),(0,1073741824),jI,jI,(0,100),(-100,100)]
abbrev Kay:Mc.bX:=(.sc 3 1 0 [] [] [([],17)])
abbrev Vq:tM:=[Kay,(.sc 3 1 2 [] [] [([],17)])]
abbrev Vr:tD:=[(0,[([0],1)]),(1,[([2],1)]),(2,[([0],1)]),(9,[([2],1)])]
abbrev Vs:tG:=[(0,29),(1,9223372036854775807),(0,9223372036854775807)]
abbrev Vt:tG:=[(0,30),(1,9223372036854775807),(0,9223372036854775807)]
abbrev Vu:tD:=[(18,[([9],1)]),(19,[([10],1)]),(20,[([9],1),([10],1)])]
abbrev Vw:tJ:=(4,[([3],1)],[.o 3,.v 5,.o 5,.v 6,.o 7,.o 8,.o 9,.o 10])
abbrev Vx:tA:=[VI]
abbrev VA:tA:=[(.agg [.o 0,.o 1,.o 2,.o 3,.o 4,.v 0,.v 2,.o 5]),.v 1]
abbrev VC:tA:=[(.agg [.i 7,.v 0,.v 1,.v 2,.i 0,.v 3,.i 0,.i 0,.emp])]
abbrev VD:tA:=[VR]
abbrev VE:tG:=[(0,3),(0,4),(0,1),(0,3),(1,1073741824),(0,1073741824)]
abbrev Gm:tA:=[.v 4,.v 5,.v 6,.o 4,.o 5,.o 6,.o 7,.o 8]
abbrev VF:tJ:=(4,[([3],1)],Gm)
abbrev Wf:tH:=(198,[.q 3 0],(.bB [Kbo,.i 0]))
abbrev VG:tF:=[Wf]
abbrev VH:tF:=[(198,[.q 3 0],(.bB [Kbr,.i 0]))]
abbrev VQ:tA:=[.v 4,.v 5,BR,.v 7,.v 8]
abbrev VV:tC:=[KaL,KaO]
abbrev KaT:tI:=([([0],1),([5],-1)],1,40)
abbrev KaU:tI:=([([1],1),([6],-1)],1,40)
abbrev Wa:tC:=[KaT,KaU]
abbrev Ka6:tI:=([([1],-1),([2],1)],1,4)
abbrev Wb:tC:=[Ka6,([([0],1),([3],-1)],1,200)]
abbrev Wc:tH:=(11,[.o 3],GD)
abbrev Wd:tA:=[.i 1,.o 3,BZ,.v 2,.v 1]
abbrev We:tA:=[.i 2,.o 3,BZ,.v 2,.v 1]
abbrev Wg:tA:=[.i 3,.o 0,B4,.i 0,.v 7]
abbrev Wh:tA:=[.i 3,.o 0,B4,.i 1,.v 7]
abbrev Wi:tA:=[.i 3,.o 0,B4,.i 2,.v 7]
abbrev Wj:tA:=[.i 3,.o 0,B4,.i 3,.v 7]
abbrev Wk:tA:=[.i 4,.v 1,BZ,.v 3,.v 2]
abbrev Wn:tG:=[(0,1073741824),(0,1073741824),(0,1125899906842624)]
abbrev Wo:tH:=(221,[.v 14,B6],(.v 15))
abbrev Wp:tH:=(221,[.v 14,(.agg [.q 3 8,.o 5,.o 6,.o 7])],(.v 15))
abbrev Wq:tH:=(221,[.v 14,B7],(.v 15))
abbrev Wr:tH:=(221,[.v 14,B8],(.v 15))
abbrev Ws:tH:=(221,[.v 14,B9],(.v 15))
abbrev Wu:tH:=(198,[.q 3 0],(.bB [(.agg [.o 0,.v 2,.o 1]),.i 0]))
abbrev Wv:tG:=[(0,40),(0,39),(0,40),(0,1073741824),(0,1073741824)]
abbrev Wy:tA:=[.o 5,.o 6,.o 7,.o 8,.o 9,.o 10,.o 11,.o 12,.q 1 11]
abbrev Wz:tG:=[(0,60),(0,59),(0,40),Me,(-9223372036854775808,-1)]
abbrev WA:tH:=(81,[(.lit 1 [[.o 4],[.o 7]])],(.bB [.o 10,.i 0]))
abbrev WB:tH:=(81,[(.lit 1 [[.o 5],[.o 8]])],(.bB [.o 11,.i 0]))
abbrev WC:tH:=(81,[(.lit 1 [[.o 5],[.o 8]])],(.bB [.o 11,.i 2]))
abbrev WD:tH:=(81,[(.lit 1 [[.o 4],[.o 7]])],(.bB [.o 10,.i 2]))
abbrev WE:tC:=[([([3],1),([4],1),([5],1)],1,1152921504606846976)]
abbrev Ka7:tI:=(Kcf,1,4)
abbrev WF:tC:=[Ka7,([([2],1),([4],-1)],1,5)]
abbrev WG:tC:=[Ka7,(Kcj,1,5)]
abbrev WH:tC:=[([([0],1),([5],-1)],1,3),([([1],1),([7],-1)],1,4)]
abbrev WI:tH:=(81,[(.lit 1 [[.o 3],[.o 6]])],(.bB [.o 9,.i 0]))
abbrev WJ:tH:=(81,[(.lit 1 [[.o 3],[.o 6]])],(.bB [.o 9,.i 2]))
abbrev WK:tE:=[(6,[([6],1)],[.v 3,.v 0,.v 1,.v 14,.v 15,.v 16])]
abbrev WL:tG:=[(1,40),(0,40),(0,1125899906842624),(0,39),(0,39)]
abbrev WM:tG:=[(0,60),(0,59),(0,40),Me,(3,9223372036854775807)]
abbrev WN:AV:=(.bB [B3,.i 0,.i 0])
abbrev WO:AV:=(.bB [BZ,.i 0,.v 2])
abbrev WP:AV:=(.bB [BZ,.i 0,.i 1])
abbrev WQ:AV:=(.bB [BZ,.i 0,.i 2])
abbrev WR:tG:=[(0,3),(0,4),(0,1),(1,1073741824),(0,1073741824)]
abbrev WV:tG:=[(0,4),(0,3),(1,40),(0,39),(0,3),(0,100),(0,100)]
abbrev WW:tA:=[.o 3,.o 4,.o 5,.o 6,.o 7,.o 8,.o 9,.o 10,.q 1 5]
abbrev WX:tA:=[.o 5,.o 6,.o 7,.o 8,.o 9,.o 10,.o 11,.o 12,.emp]
abbrev WY:tE:=[(1,[([1],1)],[.v 2,.o 0]),(2,[([2],1)],[.o 1])]
abbrev WZ:tF:=[(72,[.seq 1 8 [] []],.bB [.o 3,.e [([6],1)]])]
abbrev W5:tE:=[(7,[([2],2),([6],1)],[.q 3 15,.o 5,.o 6,.o 7])]
abbrev W6:tH:=(222,[.q 3 11,.v 5],(.bB [.q 3 12,.v 16,.i 0]))
abbrev W7:tG:=[(1,40),(0,40),(0,1125899906842624),(0,3),(0,4)]
abbrev Kbd:Poly:=[([],1),([6],1),([8],1)]
abbrev W9:tK:=(1,Kbd,[([],4)],[([16],1)])
abbrev Ha:tK:=(1,Kbd,[([],4)],[([18],1)])
abbrev Hb:tK:=(1,[([],2),([6],1),([8],1)],[([],4)],[([20],1)])
abbrev Hc:tK:=(1,Kbd,[([],4)],[([20],1)])
abbrev He:tK:=(1,[([],2),([6],1),([8],1)],[([],4)],[([22],1)])
abbrev Hf:tK:=(1,[([],3),([6],1),([8],1)],[([],4)],[([24],1)])
abbrev Hi:tA:=[Kb1,.v 0,.v 2,.v 6,.v 7,.v 8]
abbrev Hm:tG:=[(0,1073741824),(0,1073741824),jI,jI,(0,100)]
abbrev Hn:tG:=[(1,288230376151711744),(1,288230376151711744)]
abbrev Ho:tA:=[.o 3,.o 4,.o 5,.o 6,.o 7,.o 8,.o 9,.o 10,.emp]
abbrev Hp:tH:=(148,[.v 1,.v 3,.i 1],(.bB [.v 4,.o 4,.i 0]))
abbrev Hq:tG:=[(0,30),(0,288230376151711744),(1,1073741824)]
abbrev Hr:tF:=[(89,[Kb2,.v 0,.v 1],(.i 7))]
abbrev Hs:tF:=[HF]
abbrev Hu:tE:=[KbE,KbM]
abbrev Hv:tH:=(222,[.q 3 8,.v 5],(.bB [.q 3 9,.v 15,.i 0]))
abbrev Hw:tA:=[(.agg [.v 0,.o 0,.q 1 0,.q 1 1,.q 1 2]),.o 1]
abbrev Hx:tA:=[GP,.o 2]
abbrev Hz:tD:=[(8,[([],17)]),(10,[([3],1)]),(11,[([3],1)])]
abbrev HB:tE:=[(2,[([1],1)],[.q 1 9]),(9,[([3],1)],[.i 3])]
abbrev HC:tE:=[(2,[([1],1)],[.q 1 9]),(9,[([3],1)],[.v 4])]
abbrev HD:Mc.bX:=(.sc 3 1 8 [([([1],1)],[.i 0])] [] [([0],1)])
abbrev HE:AV:=(.bB [Kb1,.i 0,.i 0,.i 2])
abbrev HG:tC:=[([([6],1),([8],-1)],0,1152921504606846976)]
abbrev HJ:AV:=(.bB [BZ,.i 2])
abbrev HO:tA:=[(.lit 1 [[.v 11],[.v 13],[.v 15],[.v 17]])]
abbrev HP:tA:=[(.lit 1 [[.v 19],[.v 21],[.v 23],[.v 25]])]
abbrev HQ:tC:=[(Kcf,1,9223372036854775807)]
abbrev HR:tD:=[(0,[([],17)]),(2,[([],17)]),(1,[([0],1)])]
abbrev HT:tI:=([([4],1),([16],-1)],1,1152921504606846976)
abbrev HV:tD:=[(7,[([0],1)]),(8,[([1],1)]),(4,[([2],1)])]
abbrev HW:tD:=[(7,[([0],1)]),(4,[([1],1)]),(9,[([0],1)])]
abbrev HX:tD:=[(0,[([0],1)]),(5,[([2],1)]),(12,[([],1)])]
abbrev HY:tD:=[(0,[([0],1)]),(7,[([2],1)]),(5,[([2],1)])]
abbrev HZ:tD:=[(5,[([0],1)]),(7,[([2],1)]),(8,[([2],1)])]
abbrev H6:tD:=[(5,[([0],1)]),(7,[([1],1)]),(8,[([1],1)])]
abbrev H8:tD:=[(7,[([0],1)]),(4,[([2],1)]),(8,[([0],1)])]
abbrev H9:tE:=[Kb6,Kb9]
abbrev Ga:tA:=[(.agg [.q 3 0,.v 1,.o 1,.o 2]),.i 0,.v 2]
abbrev Gb:tA:=[.v 1,BZ,.v 2]
abbrev Gc:AV:=(.bB [KbN,.v 19,.v 13])
abbrev Gd:tK:=(1,[([],14),([9],1)],[([],40)],[([15],1)])
abbrev Ge:tK:=(1,[([],15),([9],1)],[([],40)],[([21],1)])
abbrev Gf:tK:=(1,[([],21),([9],1)],[([],40)],[([17],1)])
abbrev Gg:tK:=(1,[([],15),([9],1)],[([],40)],[([23],1)])
abbrev Gh:tK:=(1,[([],22),([9],1)],[([],40)],[([25],1)])
abbrev Gi:tK:=(1,[([],1),([16],1)],[([],12)],[([17],1)])
abbrev Gj:tI:=([([2],-1),([8],1)],0,288230376151711744)
abbrev Gk:tG:=[(0,1073741824),(0,1125899906842624),jI]
abbrev Gl:AV:=(.bB [KbN,.v 19,.i 0])
abbrev Gp:tK:=(1,[([],7),([9],1)],[([],40)],[([13],1)])
abbrev Gq:tK:=(1,[([6],1),([8],1)],[([],4)],[([14],1)])
abbrev Gr:tK:=(1,[([],1),([9],1)],[([],40)],[([15],1)])
abbrev Gs:tK:=(1,[([],8),([9],1)],[([],40)],[([17],1)])
abbrev Gt:AV:=(.lit 1 [[.v 5],KbC])
abbrev Gv:tK:=(1,[([6],1),([8],1)],[([],4)],[([16],1)])
abbrev Gw:tK:=(1,[([],1),([9],1)],[([],40)],[([17],1)])
abbrev Gx:tK:=(1,[([],8),([9],1)],[([],40)],[([19],1)])
abbrev Gy:tK:=(1,[([6],1),([8],1)],[([],4)],[([18],1)])
abbrev Gz:tK:=(1,[([],1),([9],1)],[([],40)],[([19],1)])
abbrev GA:tK:=(1,[([],8),([9],1)],[([],40)],[([21],1)])
abbrev GC:Mc.bX:=(.cells 22 1 [[(.cQ 3 1 2 [([0],1)])]])
abbrev GF:AV:=(.bB [Kb2,.i 0,.v 13])
abbrev GG:tG:=[(0,3),(0,4),(0,1),(0,1),(1,1073741824)]
abbrev GJ:tK:=(1,[([],1),([6],1)],[([],4)],[([12],1)])
abbrev GK:tK:=(1,[([],2),([6],1)],[([],4)],[([14],1)])
abbrev GL:tK:=(1,[([],3),([6],1)],[([],4)],[([16],1)])
abbrev GM:AV:=(.bB [(.agg [.o 9,.o 10,.o 11]),.i 2])
abbrev GN:AV:=(.bB [Kb2,.i 0,.i 0])
abbrev GQ:tH:=(83,[.o 10,.o 21],(.bB [.o 32,.i 0]))
abbrev GR:tH:=(83,[.o 11,.o 22],(.bB [.o 33,.i 0]))
abbrev GS:tH:=(83,[.o 12,.o 23],(.bB [.o 34,.i 0]))
abbrev GT:tH:=(83,[.o 13,.o 24],(.bB [.o 35,.i 0]))
abbrev GU:tH:=(83,[.o 14,.o 25],(.bB [.o 36,.i 0]))
abbrev GX:tG:=[(1,1073741824),(0,1073741824),(0,39)]
abbrev GY:AV:=(.lit 1 [[.v 1],[.v 2],[.v 3],[.v 4]])
abbrev G0:tG:=[(0,30),(-9223372036854775808,0),Me]
abbrev G2:tH:=(83,[.o 5,.o 16],(.bB [.o 27,.i 0]))
abbrev G4:tH:=(83,[.o 6,.o 17],(.bB [.o 28,.i 0]))
abbrev G5:tH:=(83,[.o 7,.o 18],(.bB [.o 29,.i 0]))
abbrev G6:tH:=(83,[.o 8,.o 19],(.bB [.o 30,.i 0]))
abbrev G7:tH:=(83,[.o 9,.o 20],(.bB [.o 31,.i 0]))
abbrev Da:tG:=[(1,30),(1,3),(0,288230376151711744)]
abbrev Dc:tF:=[(14,[.o 1,.i 1099511627776],(.v 2))]
abbrev Dd:tC:=[([([2],-2),([3],2),([6],-1)],1,10)]
abbrev De:tH:=(45,[.q 2 15],(.bB [.q 2 16,.i 0]))
abbrev Df:AV:=(.bB [KbL,.v 13])
abbrev Dg:AV:=(.bB [KbJ,.v 13])
abbrev Di:tG:=[(0,2),(0,1073741824),(0,39),(0,39)]
abbrev Dj:tG:=[(1,40),(0,40),(0,1125899906842624)]
abbrev Dk:AV:=((.bB [Kb1,.i 1]))
abbrev D0:AV:=(.bB [Kb1,.i 7])
abbrev Dl:AV:=(D0)
abbrev Dm:AV:=((.bB [Kb1,.v 5]))
abbrev Dp:tA:=[(.lit 1 [[.v 11],[.v 13],[.v 15]])]
abbrev Dq:tA:=[(.lit 1 [[.v 17],[.v 19],[.v 21]])]
abbrev Du:tA:=[Kb1,.v 0,.q 2 15]
abbrev Dw:AV:=(.bB [Kb2,.v 13])
abbrev Dx:AV:=(.bB [Kb3,.v 13])
abbrev Dz:AV:=(.bB [Kb5,.v 13])
abbrev DB:AV:=(.bB [(sN (.q 8 15) (.v 7)),.i 0])
abbrev DE:AV:=(.bB [(sN (.q 8 12) (.v 7)),.i 0])
abbrev DH:AV:=(.bB [(sN (.q 8 15) (.o 2)),.i 0])
abbrev DI:tK:=(0,[([0],1)],[([],2688)],[([9],1)])
abbrev DO:AV:=(.bB [Kb1,.v 6])
abbrev DP:AV:=(.agg [.q 3 16,.o 11,.o 12,.o 13])
abbrev DQ:AV:=(.bB [Kb1,.i 2])
abbrev DR:AV:=(.bB [Kb2,.i 7])
abbrev DS:AV:=(.bB [Kb2,.i 6])
abbrev DV:AV:=(.bB [Kb2,.i 4])
abbrev DW:AV:=(.bB [Kb2,.i 5])
abbrev DY:AV:=(.bB [Kb2,.i 2])
abbrev DZ:tG:=[(1,4),(0,288230376151711744),jI]
abbrev D5:tG:=[(0,3),(0,4),(0,1),(0,1073741824)]
abbrev KaB:tA:=[Kb1,.v 0]
abbrev D6:AV:=(.bB KaB)
abbrev D7:AV:=(.bB [Kb1,.i 0])
abbrev D8:AV:=(.bB [Kb1,.v 9])
abbrev D9:tK:=(0,[([0],1)],[([],168)],[([6],1)])
abbrev Ba:tK:=(0,[([0],1)],[([],672)],[([7],1)])
abbrev Bb:tK:=(1,[([9],1)],[([],40)],[([11],1)])
abbrev Bc:tF:=[(14,[.o 0,.i 1073741824],(.v 0))]
abbrev Be:tK:=(1,[([14],1)],[([],3)],[([18],1)])
abbrev Bf:tA:=[Kb1,.q 1 8,.o 4]
abbrev Bg:tA:=[Kb1,.q 1 8,.i 0]
abbrev Bh:tA:=[Kb1,.q 1 8,.i 1]
abbrev Bi:tA:=[Kb1,.q 1 8,.i 2]
abbrev Bj:tG:=[(0,30),(-9223372036854775808,0)]
abbrev Bu:tK:=(0,[([0],1)],[([],24)],[([4],1)])
abbrev Bv:tK:=(1,[([6],1)],[([],4)],[([10],1)])
abbrev BB:tG:=[(0,9223372036854775807),(0,119)]
abbrev BC:tG:=[(0,9223372036854775807),(0,120)]
abbrev BD:tA:=[.q 3 0,(.agg [.v 1,.v 2,.o 0])]
abbrev BF:tA:=[Kb1,.v 0,.v 2]
abbrev BG:tA:=[Kb1,.v 0,.v 1]
abbrev BH:tH:=(149,[.v 15,.v 4,.v 14],(.v 20))
abbrev BI:tH:=(149,[.v 15,.v 4,.v 14],(.v 17))
abbrev BJ:tH:=(149,[.v 16,.v 4,.v 14],(.v 18))
abbrev BK:tD:=[(7,[([12],1)]),(14,[([12],1)])]
abbrev BL:tK:=(0,[([0],1)],[([],2)],[([1],1)])
abbrev BM:tK:=(0,[([0],1)],[([],6)],[([2],1)])
abbrev BN:tK:=(1,[([2],1)],[([],4)],[([3],1)])
abbrev BO:tK:=(1,[([4],1)],[([],7)],[([5],1)])
abbrev BP:tK:=(1,[([7],1)],[([],4)],[([8],1)])
abbrev BU:tH:=(149,[.v 15,.v 4,.v 14],(.o 5))
abbrev BV:tD:=[(7,[([12],1)]),(8,[([12],1)])]
abbrev BW:tG:=[(1,30),(0,288230376151711744)]
abbrev BX:AV:=(.lit 1 [[.v 1],[.v 2],[.v 3]])
abbrev BY:tK:=(1,[([0],1)],[([],2)],[([],1)])
abbrev Kac:AV:=(.cQ 3 1 1 Kcp)
abbrev Kad:AV:=(.agg [.q 3 1,.i 0,.i 0,.i 0])
abbrev Kae:AV:=(.agg [.q 3 2,.i 0,.i 0,.i 0])
abbrev Kaf:AV:=(.cQ 3 1 3 Kcq)
abbrev Kag:AV:=(.cQ 3 1 4 Kcq)
abbrev Kai:tD:=[(0,[([0],1)]),(1,[([1],1)])]
abbrev Kaj:tD:=[(0,[([0],1)]),(1,[([3],1)])]
abbrev Kak:tD:=[(0,[([0],1)]),(1,[([4],1)])]
abbrev Kal:tD:=[(0,[([],17)]),(2,[([0],1)])]
abbrev Kam:tD:=[(7,[([3],1)]),(8,[([4],1)])]
abbrev Kan:tD:=[(0,[([0],1)]),(1,[([0],1)])]
abbrev Kao:tD:=[(7,[([0],1)]),(8,[([0],1)])]
abbrev Kap:tD:=[(7,[([0],1)]),(4,[([1],1)])]
abbrev Kaq:tG:=[(0,100),(0,3),(0,4),(0,100)]
abbrev Kas:tD:=[(0,[([0],1)]),(1,[([2],1)])]
abbrev Kat:tD:=[(3,[([0],1)]),(4,[([1],1)])]
abbrev Kau:Poly:=[([5],1),([14],-1),([15],1)]
abbrev Kax:tA:=[.ptr 1 5 0 0,.ptr 10 4 0 0]
abbrev Kaz:AV:=(.e [([17],1),([20],(-1))])
abbrev KaC:tA:=[Kb1,.o 3]
abbrev KaD:tA:=[Kb1,.v 1]
abbrev KaH:tG:=[(1,60),(0,59),(0,40),Me]
abbrev KaI:tI:=(Kcg,1,100)
abbrev KaJ:tC:=[Ka7]
abbrev KaK:tG:=[(0,60),(0,59),(0,40),Me]
abbrev KaQ:AV:=(.cQ 101 3 2 [([0],1)])
abbrev KaS:tI:=([([0],1),([3],-1)],1,40)
abbrev KaV:tI:=(Kcj,1,40)
abbrev KaW:tI:=(Kcf,1,40)
abbrev Kce:Poly:=[([1],1),([2],-1)]
abbrev KaX:tI:=(Kce,0,40)
abbrev KaY:AV:=(.cQ 137 9 4 [([0],1)])
abbrev KaZ:tG:=[(0,4),(0,3),(1,5),(0,4)]
abbrev Ka0:tG:=[(0,9223372036854775807)]
abbrev Ka1:tG:=[(0,4611686018427387904)]
abbrev Ka2:AV:=(.agg [.o 8,.o 9,.o 10])
abbrev Kck:Poly:=[([3],-1),([7],1)]
abbrev Ka5:tI:=(Kck,0,0)
abbrev Ka8:tI:=([([1],-1),([5],1)],0,0)
abbrev Ka9:tI:=([([2],-1),([6],1)],0,0)
abbrev Kba:tG:=[(1,288230376151711744)]
abbrev Kbb:AV:=(.cQ 44 2 9 [([3],1)])
abbrev Kbc:AV:=(.lit 1 [[.v 1],[.v 2]])
abbrev Kbk:Poly:=[([],1),([6],1),([8],2)]
abbrev Kbl:AV:=(.cQ 50 9 1 [([1],1)])
abbrev Kbm:Mc.bX:=(.cells 22 1 [[.q 1 7]])
abbrev Kbs:AV:=(.cQ 3 1 0 [([],17)])
abbrev Kbt:AV:=(.cQ 3 1 1 [([],17)])
abbrev Kbv:AV:=(.e [([4],1),([15],1)])
abbrev Kbw:AV:=(.cQ 3 1 1 [([1],1)])
abbrev Kbx:AV:=(.cQ 3 1 1 [([0],1)])
abbrev Kby:AV:=(.cQ 3 1 3 [([2],1)])
abbrev Kbz:AV:=(.cQ 3 1 4 [([2],1)])
abbrev KbA:AV:=(.cQ 3 1 3 [([1],1)])
abbrev KbB:AV:=(.cQ 3 1 4 [([1],1)])
abbrev KbD:tG:=[(0,30),(0,30),(1,20)]
abbrev KbF:tE:=[Kb6]
abbrev KbG:AV:=(.e [([],1),([17],1)])
abbrev KbH:AV:=(.e Kcp)
abbrev KbP:AV:=(.e [([],1),([4],1)])
abbrev KbR:AV:=(.e [([],1),([3],1)])
abbrev KbT:AV:=(sN (.q 8 11) (.o 2))
abbrev KbU:Mc.bX:=(.cells 3 1 [[.o 3]])
abbrev KbV:Mc.bX:=(.cells 3 1 [[.i 0]])
abbrev KbW:Mc.bX:=(.cells 3 1 [[.i 1]])
abbrev KbX:Mc.bX:=(.cells 3 1 [[.i 2]])
abbrev KbY:Mc.bX:=(.cells 3 1 [[.v 4]])
abbrev KbZ:AV:=(.bB [.q 3 0,.i 1])
abbrev Kb7:tG:=[(1,20),(0,1000000)]
abbrev Kb8:tG:=[(0,4),(0,3),(1,40)]
abbrev Kcn:tI:=([([10],1)],0,39)
abbrev Kca:tC:=[Kcn]
abbrev Kcc:tG:=[(0,4),(0,3),(1,5)]
abbrev Kch:tC:=[([([8],1)],0,39)]
abbrev Kcl:Poly:=[([1],-1),([4],1)]
abbrev Kcr:tI:=([([9],1)],0,39)
abbrev Kct:tD:=[(7,[([12],1)])]
abbrev Kcw:tD:=[(0,[([0],1)])]
abbrev Kcx:tA:=[.q 1 0,.q 2 1]
abbrev Kcz:tD:=[(0,[([1],1)])]
abbrev KcA:tG:=[(0,40),(0,40)]
abbrev KcB:tD:=[(3,[([0],1)])]
abbrev KcD:tG:=[(0,3),(0,4)]
abbrev KcE:tG:=[(0,1000000)]
end
namespace Mc
section
variable {b1:Bk} {e1:@Ev b1} {b2:Bk} {e2:@Ev b2} {ids:lP}
theorem Slot.adH {T sz id id':Nat} {n:Poly} {k:Nat} (h:ids[id']?=some (some id)) (hn:k=(bR (@Ev.cX b1 e1) n).toNat):Slot b1 e1 b2 e2 ids (.cQ T sz id n) (.own T sz id' 0 k):=by
 intro m A w v hr;have hm:=jC (m:=m) h
 cases hr with
 |pure _ _ h=>cases h
 |cQ _ _ _ _ b len cap hm' hb hl hn' hc hr =>
  have:k=len:=by rw[hn,hl];rfl
  subst this;have:=@Rd.own b2 e2 _ A w T sz id' 0 k b cap (hm.trans hm') hb hn' hc (by rw[Nat.zero_add];exact hr)
  rwa[Nat.zero_mul]at this
 |rU _ _ _ _ a hm' h0 =>
  have:k=0:=by rw[hn,h0];rfl
  subst this;exact @Rd.rG b2 e2 _ A w T sz id' 0 a (hm.trans hm')
 |rV _ _ _ _ a n0 cap hm'=>exact @Rd.sW b2 e2 _ A w T sz id' 0 k a n0 cap (hm.trans hm')
theorem Slot.ahQ {k:Nat}:Slot b1 e1 b2 e2 ids .emp (.lit k []):=by
 intro m A w v hr;cases hr with
 |pure _ _ hr=>cases hr with|emp a=>exact .pure _ _ (.lJ k a 0 (Nat.zero_le _))
theorem Slot.ahP {T sz id':Nat} (h:ids[id']?=some none):Slot b1 e1 b2 e2 ids .emp (.own T sz id' 0 0):=by
 intro m A w v hr;have hm:=Lj (m:=m) h
 cases hr with
 |pure _ _ hr=>cases hr with|emp a=>exact @Rd.rG b2 e2 _ A w T sz id' 0 a hm
end
def iN [Bk] [Ev] (x:AV):AV:=match x with
 | .cQ T sz id n=>.own T sz id 0 (evP Ev.cX n).toNat
 | .own T sz id i n=>.own T sz id i n
 | .ptr sz id i off=>.ptr sz id i off
 | .fY=>.fY
 |x=>den 12 x
def qP [Bk] [Ev] (B:bX):bX:=match B with
 | .cells T sz aW=>.cells T sz (aW.map (·.map iN))
 | .sc T sz base bP tail _=>.cells T sz (ac9 ((bP.map fun q=>(q.1,q.2.map iN)).foldl (fun l q=>l.set (evP Ev.cX q.1).toNat q.2) (Ev.seq base)) (tail.map (·.map iN)))
 |B=>B
def sO (n:Nat) (x:AV):Bool:=match x with
 | .ptr _ id _ _=>decide (id<n)
 | .cQ _ _ id _=>decide (id<n)
 | .own _ _ id _ _=>decide (id<n)
 | .fY=>true
 |x=>Ef 12 x
def sI (b:Bk) (n:Nat) (x:AV):Bool:=match x with
 | .ptr _ id _ _=>decide (id<n)
 | .cQ _ _ id p=>decide (id<n)&&b.lens.any fun t=>t.2==p
 | .own _ _ id _ _=>decide (id<n)
 | .fY=>true
 |x=>Ef 12 x&&lD 12 x
def bO (n:Nat) (B:bX):Bool:=match B with
 | .cells _ _ aW=>aW.all (·.all (sO n))
 | .sc _ _ _ bP tail _=>bP.all (fun q=>q.2.all (sO n))&&tail.all (·.all (sO n))
 |_=>false
def bI (b:Bk) (n:Nat) (B:bX):Bool:=match B with
 | .cells _ _ aW=>aW.all (·.all (sI b n))
 | .sc _ _ base bP tail p=>(bP.all fun q=>q.2.all (sI b n)&&b.hH.any fun t=>t.1==base&&t.2.1==q.1)&&tail.isEmpty&&b.lens.any fun t=>t.1==base&&t.2==p
 |_=>false
theorem Ch [Bk] [Ev] (x:AV):(iN x).one=x.one:=by
 cases x<;>first|rfl|exact mS 12 _
theorem Pd [Bk] [Ev] {x:AV} (h:Cl x):iN x=x:=by
 cases x<;>first|rfl|exact h.den 12|(cases h;done)
theorem M6 [Bk] [Ev] (base:Nat) (bP:List (Poly×List AV)) (tail:List (List AV)):ac9 ((bP.map fun q=>(q.1,q.2.map iN)).foldl (fun l q=>l.set (evP Ev.cX q.1).toNat q.2) (Ev.seq base)) (tail.map (·.map iN))=(rowsOf base bP tail).map (·.map iN):=by
 have hb:(Ev.seq base).map (·.map iN)=Ev.seq base:=by
  conv=>rhs;rw[←List.map_id (Ev.seq base)]
  refine List.map_congr_left fun e he=>?_
  show e.map iN=id e
  conv=>rhs;rw[id,←List.map_id e]
  exact List.map_congr_left fun x hx=>Pd (Ev.qC base e he x hx)
 have hf:∀(bP:List (Poly×List AV)) (l:List (List AV)),(bP.map fun q=>(q.1,q.2.map iN)).foldl (fun l q=>l.set (evP Ev.cX q.1).toNat q.2) (l.map (·.map iN))=(bP.foldl (fun l q=>l.set (bR Ev.cX q.1).toNat q.2) l).map (·.map iN):=by
  intro bP;induction bP with
  |nil=>intro l;rfl
  |cons q bP ih =>
   intro l;simp only[List.map_cons,List.foldl_cons];rw[←ih,List.map_set,Em]
 rw[Px];unfold rowsOf;rw[List.map_append,←hf,hb]
section
variable {b:Bk} {ev:@Ev b} {n:Nat}
theorem Rc {x:AV} (h:sO n x=true):Slot b ev dI dN (nD n) x (@iN b ev x):=by
 have data:Ef 12 x=true→Slot b ev dI dN (nD n) x (@den b ev 12 x):=fun h=>by
  have hc:=@LC b ev 12 x h
  exact Slot.data rfl (hc.den 12) hc (qR 12 _ hc)
 cases x with
 |ptr sz id i off=>exact Slot.ptr (iR (of_decide_eq_true h))
 |own T sz id i k=>exact Slot.own (iR (of_decide_eq_true h))
 |cQ T sz id p=>exact Slot.adH (iR (of_decide_eq_true h)) (by rw[Em])
 |fY=>exact Slot.fY
 |_=>exact data h
theorem aaF {x:AV} (h:sI b n x=true):Slot dI dN b ev (nD n) (@iN b ev x) x:=by
 have data:(Ef 12 x&&lD 12 x)=true→Slot dI dN b ev (nD n) (@den b ev 12 x) x:=fun h=>by
  rw[Bool.and_eq_true]at h;have hc:=@LC b ev 12 x h.1
  exact Slot.data (hc.den 12) rfl hc h.2
 cases x with
 |ptr sz id i off=>exact Slot.ptr (iR (of_decide_eq_true h))
 |own T sz id i k=>exact Slot.own (iR (of_decide_eq_true h))
 |cQ T sz id p =>
  simp only[sI,Bool.and_eq_true]at h;obtain⟨t,ht,hp⟩:=List.any_eq_true.1 h.2;have hp:t.2=p:=eq_of_beq hp
  have:=@Ev.aj3 b ev t ht
  rw[hp]at this;refine Slot.aeE (iR (of_decide_eq_true h.1)) ?_
  rw[Em];show((bR (@Ev.cX b ev) p).toNat:Int)=bR (@Ev.cX b ev) p
  have:bR (@Ev.cX b ev) p=(((@Ev.Ai b ev).getD t.1 []).length:Int):=this.symm
  omega
 |fY=>exact Slot.fY
 |_=>exact data h
theorem Oa:∀{l:List AV},l.all (sO n)=true→kF b ev dI dN (nD n) l (l.map (@iN b ev))
 |[],_=>.nil
 |x::l,h=>by
  rw[List.all_cons,Bool.and_eq_true]at h;exact .cons (Rc h.1) (Oa h.2)
theorem Oc:∀{l:List AV},l.all (sI b n)=true→kF dI dN b ev (nD n) (l.map (@iN b ev)) l
 |[],_=>.nil
 |x::l,h=>by
  rw[List.all_cons,Bool.and_eq_true]at h;exact .cons (aaF h.1) (Oc h.2)
theorem S8 [Bk] [Ev] {aW:List (List AV)} {i j:Nat} {y:AV} (h:fD (aW.map (·.map iN)) i j=some y):∃x,fD aW i j=some x∧y=iN x:=by
 rw[nX]at h;obtain⟨x,hx,rfl⟩:=Option.map_eq_some_iff.1 h;exact⟨x,hx,rfl⟩
theorem ajh {h1:AH} {i:Nat} {B:bX} (hi:h1 i=B) (h:bO n B=true):yK b ev dI dN (nD n) h1 (some i) (@qP b ev B):=by
 cases B with
 |cells T sz aW =>
  refine⟨trivial,T,sz,aW,aW.map (·.map (@iN b ev)),by rw[hi];rfl,rfl,by simp,?_,?_⟩
  ·intro i j y hy
   obtain⟨x,hx,rfl⟩:=@S8 b ev _ _ _ _ hy
   obtain⟨r,hr,hxr⟩:=mU hx;exact⟨x,hx,(@Ch b ev x).symm,Rc (List.all_eq_true.1 (List.all_eq_true.1 h r hr) x hxr)⟩
  ·intro h e he
   obtain⟨r,hr,rfl⟩:=List.mem_map.1 he;rw[List.length_map];exact h r hr
 |sc T sz base bP tail p =>
  have hr:=@M6 b ev base bP tail
  refine⟨trivial,T,sz,@rowsOf b ev base bP tail,(@rowsOf b ev base bP tail).map (·.map (@iN b ev)),by rw[hi];rfl,by simp only[qP];rw[hr];rfl,by simp,?_,?_⟩
  ·intro i j y hy
   obtain⟨x,hx,rfl⟩:=@S8 b ev _ _ _ _ hy
   refine⟨x,hx,(@Ch b ev x).symm,?_⟩
   obtain⟨r,h2,h3⟩:=mU hx;simp only[bO,Bool.and_eq_true]at h;rcases @zH b ev _ _ _ _ h2 with h2|⟨q,hq,rfl⟩|h2
   ·have hc:=@Ev.qC b ev base r h2 _ h3
    rw[@Pd b ev x hc];exact Slot.data (hc.den 12) (hc.den 12) hc (qR 12 _ hc)
   ·exact Rc (List.all_eq_true.1 (List.all_eq_true.1 h.1 q hq) x h3)
   ·exact Rc (List.all_eq_true.1 (List.all_eq_true.1 h.2 r h2) x h3)
  ·intro h e he
   obtain⟨r,hr,rfl⟩:=List.mem_map.1 he;rw[List.length_map];exact h r hr
 |_=>cases h
theorem aji {h1:AH} {i:Nat} {B:bX} (hi:h1 i=@qP b ev B) (h:bI b n B=true):yK dI dN b ev (nD n) h1 (some i) B:=by
 cases B with
 |cells T sz aW =>
  refine⟨trivial,T,sz,aW.map (·.map (@iN b ev)),aW,by rw[hi];rfl,rfl,by simp,?_,?_⟩
  ·intro i j y hy
   obtain⟨r,hr,hxr⟩:=mU hy;exact⟨_,by rw[nX,hy];rfl,@Ch b ev y,aaF (List.all_eq_true.1 (List.all_eq_true.1 h r hr) y hxr)⟩
  ·intro h e he
   have:=h _ (List.mem_map.2 ⟨e,he,rfl⟩)
   rwa[List.length_map]at this
 |sc T sz base bP tail p =>
  simp only[bI,Bool.and_eq_true,List.isEmpty_iff]at h;obtain⟨⟨hu,rfl⟩,h⟩:=h
  obtain⟨t,ht,hp⟩:=List.any_eq_true.1 h;rw[Bool.and_eq_true]at hp;have hp1:t.1=base:=eq_of_beq hp.1
  have hp2:t.2=p:=eq_of_beq hp.2
  have hl:=@Ev.aj3 b ev t ht
  rw[hp1,hp2]at hl;have hr:=@M6 b ev base bP []
  refine⟨⟨?_,?_⟩,T,sz,(@rowsOf b ev base bP []).map (·.map (@iN b ev)),@rowsOf b ev base bP [],?_,rfl,by simp,?_,?_⟩
  ·rw[@fP b ev]
   simp only[List.length_nil,Nat.add_zero];exact hl.symm
  ·intro q hq
   have:=List.all_eq_true.1 hu q hq
   simp only[Bool.and_eq_true]at this;obtain⟨z,hz,hzq⟩:=List.any_eq_true.1 this.2;rw[Bool.and_eq_true]at hzq;have hz1:z.1=base:=eq_of_beq hzq.1
   have hz2:z.2.1=q.1:=eq_of_beq hzq.2
   obtain⟨k1,k2,-⟩:=@Ev.sat b ev z hz
   rw[hz2]at k1 k2;rw[hz1]at k2;exact⟨k1,(List.getElem?_eq_some_iff.1 k2).1⟩
  ·rw[hi];simp only[qP];rw[hr];rfl
  ·intro i j y hy
   refine⟨@iN b ev y,by rw[nX,hy];rfl,@Ch b ev y,?_⟩
   obtain⟨r,h2,h3⟩:=mU hy;rcases @zH b ev _ _ _ _ h2 with h2|⟨q,hq,rfl⟩|h2
   ·have hc:=@Ev.qC b ev base r h2 _ h3
    rw[@Pd b ev y hc];exact Slot.data (hc.den 12) (hc.den 12) hc (qR 12 _ hc)
   ·have:=List.all_eq_true.1 hu q hq
    simp only[Bool.and_eq_true]at this;exact aaF (List.all_eq_true.1 this.1 y h3)
   ·exact absurd h2 List.not_mem_nil
  ·intro h e he
   have:=h _ (List.mem_map.2 ⟨e,he,rfl⟩)
   rwa[List.length_map]at this
 |_=>cases h
theorem Lr {n:Nat}:∀(i j k:Nat),(nD n)[i]?=some (some k)→(nD n)[j]?=some (some k)→i=j:=by
 intro i j k hi hj;unfold nD at hi hj;rw[List.getElem?_map]at hi hj;obtain⟨x,hx,e⟩:=Option.map_eq_some_iff.1 hi;obtain⟨y,hy,e'⟩:=Option.map_eq_some_iff.1 hj;cases e;cases e'
 obtain⟨a1,a2⟩:=List.getElem?_eq_some_iff.1 hx
 obtain⟨b1,b2⟩:=List.getElem?_eq_some_iff.1 hy
 rw[List.getElem_range]at a2 b2;omega
end
theorem Rq (b:Bk) (ev:@Ev b) {A:Nat→Prop} {w0:World} {a0:Act} {m:Nat→St} {w:World} {a:Act} {f:List AV} {bs:List bX} (pr:@gZ b ev A w0 a0 m w a f (eS bs)) (hf:(f.all (sO bs.length)&&bs.all (bO bs.length))=true) :
  ∃m',@gZ dI dN A w0 a0 m' w a (f.map (@iN b ev)) (eS (bs.map (@qP b ev))):=by
 rw[Bool.and_eq_true]at hf;refine⟨_,gZ.to (ids:=nD bs.length) pr (Oa hf.1) ?_ Lr⟩
 have:=abA b ev dI dN (nD bs.length) (h1:=eS bs) (bs:=bs.map (@qP b ev)) some ?_
 ·rw[List.length_map]at this;exact this
 ·intro i B hB
  rw[List.getElem?_map]at hB;obtain⟨B',h',rfl⟩:=Option.map_eq_some_iff.1 hB;exact ajh (by unfold eS;rw[List.getD,h'];rfl) (List.all_eq_true.1 hf.2 B' (List.mem_of_getElem? h'))
theorem rZ (b:Bk) (ev:@Ev b) {A:Nat→Prop} {w0:World} {a0:Act} {m:Nat→St} {w:World} {a:Act} {f fc:List AV} {bs bc:List bX} (pr:@gZ dI dN A w0 a0 m w a fc (eS bc)) (ef:f.map (@iN b ev)=fc) (eb:bs.map (@qP b ev)=bc) (hf:(f.all (sI b bs.length)&&bs.all (bI b bs.length))=true) (hg:b.jF=[]:=by rfl) :
  ∃m',@gZ b ev A w0 a0 m' w a f (eS bs):=by
 subst ef;subst eb;rw[Bool.and_eq_true]at hf;refine⟨_,gZ.to (ids:=nD bs.length) pr (Oc hf.1) ?_ Lr hg⟩
 refine abA dI dN b ev (nD bs.length) (bs:=bs) some ?_
 intro i B hB;exact aji (by unfold eS;rw[List.getD,List.getElem?_map,hB];rfl) (List.all_eq_true.1 hf.2 B (List.mem_of_getElem? hB))
def tW (ids:lP) (x y:AV):Bool:=match x,y with
 | .emp,.own _ _ id 0 0=>decide (ids[id]?=some none)
 | .emp,.lit _ []=>true
 |x,y=>yM ids 16 x y
def agv (ids:lP):List (Poly×List AV)→List (Poly×List AV)→Bool
 |[],[]=>true
 |q'::l',q::l=>decide (q'.1=q.1)&&yS (tW ids) q'.2 q.2&&q.2.all (fun x=>x.one)&&agv ids l' l
 |_,_=>false
def akM (ids:lP) (h:AH) (o:Option Nat) (B:bX):Bool:=match o,B with
 |some i,.sc T sz base bP [] n=>(match h i with | .sc T' sz' base' ups' [] n'=>decide (T'=T∧sz'=sz∧base'=base∧n'=n)&&agv ids ups' bP|_=>false)
 |_,_=>false
def af8 (ids:lP) (h:AH) (o:Option Nat) (B:bX):Bool:=akM ids h o B||match o,B with
 |none,.cells _ _ []=>true
 |some i,.cells T sz aW=>(match h i with | .cells T' sz' els'=>decide (T'=T∧sz'=sz)&&(En (tW ids) els' aW&&aW.all (·.all fun x=>x.one))|_=>false)
 |o,B=>aie ids h o B
def SX (ids:lP) (h:AH):lP→List bX→Bool
 |[],[]=>true
 |o::l,B::bs=>af8 ids h o B&&SX ids h l bs
 |_,_=>false
theorem Ad [b:Bk] [e:Ev] {ids:lP} {x y:AV} (h:tW ids x y=true):Slot b e b e ids x y:=by
 unfold tW at h;split at h
 ·exact Slot.ahP (of_decide_eq_true h)
 ·exact Slot.ahQ
 ·exact Ae h
theorem tV [b:Bk] [e:Ev] {ids:lP}:∀{l l':List AV},yS (tW ids) l l'=true→kF b e b e ids l l'
 |[],[],_=>.nil
 |[],_::_,h=>by cases h
 |_::_,[],h=>by cases h
 |x::l,y::m,h=>by
  unfold yS at h;rw[Bool.and_eq_true]at h;exact .cons (Ad h.1) (tV h.2)
theorem MS {ids:lP} {x y:AV} (h:tW ids x y=true) (hy:y.one=true):x.one=true:=by
 unfold tW at h;split at h
 ·rfl
 ·rfl
 ·exact MU h hy
def agm (b:Bk) (e:@Ev b) (ids:lP) (r' r:List AV):Prop:=r'.length=r.length∧∀(j:Nat) (y:AV),r[j]?=some y→∃x,r'[j]?=some x∧x.one=y.one∧Slot b e b e ids x y
theorem agm.of [b:Bk] [e:Ev] {ids:lP} {r' r:List AV} (h:yS (tW ids) r' r=true) (h1:r.all (fun x=>x.one)=true):agm b e ids r' r:=by
 obtain⟨l,g⟩:=sJ h;refine⟨l,fun j y hy=>?_⟩
 obtain⟨x,hx,hs⟩:=g j y hy;have hy1:=List.all_eq_true.1 h1 y (List.mem_of_getElem? hy)
 exact⟨x,hx,by rw[hy1];exact MS hs hy1,Ad hs⟩
theorem aau [b:Bk] [e:Ev] {ids:lP}:∀{ups' bP:List (Poly×List AV)},agv ids ups' bP=true→∀(l' l:List (List AV)),l'.length=l.length→(∀(i:Nat) (r' r:List AV),l'[i]?=some r'→l[i]?=some r→agm b e ids r' r) →
  (∀q∈bP,∃q'∈ups',q'.1=q.1)∧(ups'.foldl (fun l q=>l.set (bR Ev.cX q.1).toNat q.2) l').length=(bP.foldl (fun l q=>l.set (bR Ev.cX q.1).toNat q.2) l).length∧∀(i:Nat) (r' r:List AV),(ups'.foldl (fun l q=>l.set (bR Ev.cX q.1).toNat q.2) l')[i]?=some r'→(bP.foldl (fun l q=>l.set (bR Ev.cX q.1).toNat q.2) l)[i]?=some r→agm b e ids r' r
 |[],[],_,l',l,hl,hr=>⟨fun q hq=>absurd hq List.not_mem_nil,hl,hr⟩
 |[],_::_,h,_,_,_,_=>by cases h
 |_::_,[],h,_,_,_,_=>by cases h
 |q'::ups',q::bP,h,l',l,hl,hr=>by
  unfold agv at h;simp only[Bool.and_eq_true,decide_eq_true_eq]at h;obtain⟨⟨⟨h1,h2⟩,h3⟩,h4⟩:=h
  obtain⟨k0,k1,k2⟩:=aau h4 (l'.set (bR Ev.cX q'.1).toNat q'.2) (l.set (bR Ev.cX q.1).toNat q.2) (by simp[hl]) (by
   intro i r' r hi hj;rw[h1,List.getElem?_set]at hi;rw[List.getElem?_set]at hj;split at hi
   ·rename_i he
    rw[if_pos he]at hj;rw[hl]at hi;split at hi
    ·rename_i hlt
     rw[if_pos hlt]at hj;cases hi;cases hj
     exact agm.of h2 h3
    ·cases hi
   ·rename_i he
    rw[if_neg he]at hj;exact hr i r' r hi hj)
  refine⟨?_,k1,k2⟩
  intro z hz;rcases List.mem_cons.1 hz with rfl|hz
  ·exact⟨q',by simp,h1⟩
  ·obtain⟨y,hy,e⟩:=k0 z hz
   exact⟨y,by simp[hy],e⟩
theorem aid [b:Bk] [e:Ev] {ids:lP} {h:AH} (hs:∀i,lM (h i)) {o:Option Nat} {B:bX} (hb:akM ids h o B=true):yK b e b e ids h o B:=by
 unfold akM at hb;split at hb
 ·rename_i i T sz base bP n
  split at hb
  ·rename_i T' sz' base' ups' n' hi
   rw[Bool.and_eq_true,decide_eq_true_eq]at hb;obtain⟨⟨rfl,rfl,rfl,rfl⟩,h2⟩:=hb
   obtain⟨k0,k1,k2⟩:=aau h2 (Ev.seq base') (Ev.seq base') rfl (fun i r' r hi hj=>by
    rw[hi]at hj;cases hj
    exact⟨rfl,fun j y hy=>⟨y,hy,rfl,Slot.cl (Ev.qC base' r' (List.mem_of_getElem? hi) y (List.mem_of_getElem? hy))⟩⟩)
   have hsc:=hs i;rw[hi]at hsc;obtain⟨s1,s2⟩:=hsc;refine⟨⟨?_,?_⟩,T',sz',rowsOf base' ups' [],rowsOf base' bP [],by rw[hi];rfl,rfl,?_,?_,?_⟩
   ·rw[s1,fP,fP]
   ·intro q hq
    obtain⟨q',hq',e⟩:=k0 q hq;rw[←e];exact s2 q' hq'
   ·rw[fP,fP]
   ·intro i j y hy
    unfold rowsOf at hy ⊢;rw[List.append_nil]at hy ⊢;unfold fD at hy ⊢;cases hr:(bP.foldl (fun l q=>l.set (bR Ev.cX q.1).toNat q.2) (Ev.seq base'))[i]? with
    |none=>rw[hr]at hy;cases hy
    |some r =>
     rw[hr]at hy;have hlt:=(List.getElem?_eq_some_iff.1 hr).1
     rw[←k1]at hlt;have hr':=List.getElem?_eq_getElem hlt
     obtain⟨-,g⟩:=k2 i _ r hr' hr;obtain⟨x,q1,q2,q3⟩:=g j y hy;exact⟨x,by rw[hr'];exact q1,q2,q3⟩
   ·intro hz r hr
    unfold rowsOf at hz hr;rw[List.append_nil]at hz hr;obtain⟨i,hi'⟩:=List.mem_iff_getElem?.1 hr
    have hlt:=(List.getElem?_eq_some_iff.1 hi').1
    rw[←k1]at hlt;have hr':=List.getElem?_eq_getElem hlt
    rw[←(k2 i _ r hr' hi').1];exact hz _ (List.mem_of_getElem? hr')
  ·cases hb
 ·cases hb
theorem abC [b:Bk] [e:Ev] {ids:lP} {h:AH} (hs:∀i,lM (h i)) {o:Option Nat} {B:bX} (hb:af8 ids h o B=true):yK b e b e ids h o B:=by
 unfold af8 at hb;rw[Bool.or_eq_true]at hb;rcases hb with hb|hb
 ·exact aid hs hb
 split at hb
 ·exact⟨trivial,_,_,rfl⟩
 ·rename_i i T sz aW
  split at hb
  ·rename_i T' sz' els' hi
   rw[Bool.and_eq_true,Bool.and_eq_true,decide_eq_true_eq]at hb;obtain⟨⟨rfl,rfl⟩,h2,h3⟩:=hb
   obtain⟨l1,l2⟩:=abr h2;refine⟨trivial,T',sz',els',aW,by rw[hi];rfl,rfl,l1,?_,abq h2⟩
   intro i j y hy;obtain⟨x,q1,q2⟩:=l2 i j y hy;obtain⟨r,hr,hyr⟩:=mU hy;have hy1:y.one=true:=List.all_eq_true.1 (List.all_eq_true.1 h3 r hr) y hyr
   exact⟨x,q1,by rw[hy1];exact MS q2 hy1,Ad q2⟩
  ·cases hb
 ·exact abD hs hb
theorem LQ [b:Bk] [e:Ev] {ids:lP} {h:AH} (hs:∀i,lM (h i)):∀{l:lP} {bs:List bX},SX ids h l bs=true→PC b e b e ids h l bs
 |[],[],_=>.nil
 |[],_::_,h=>by cases h
 |_::_,[],h=>by cases h
 |o::l,B::bs,h=>by
  unfold SX at h;rw[Bool.and_eq_true]at h;exact .cons (abC hs h.1) (LQ hs h.2)
def ndC (ids:lP):Bool:=decide (ids.filterMap id).Nodup
theorem ae2:∀{ids:lP},ndC ids=true→∀(i j k:Nat),ids[i]?=some (some k)→ids[j]?=some (some k)→i=j:=by
 intro ids h;have hn:(ids.filterMap id).Nodup:=of_decide_eq_true h
 clear h;induction ids with
 |nil=>intro i j k hi;simp at hi
 |cons o l ih =>
  have mem:∀k i,l[i]?=some (some k)→k∈l.filterMap id:=fun k i h=>List.mem_filterMap.2 ⟨_,List.mem_of_getElem? h,rfl⟩
  cases o with
  |none =>
   intro i j k hi hj;cases i with
   |zero=>cases hi
   |succ i=>cases j with
    |zero=>cases hj
    |succ j=>exact congrArg Nat.succ (ih hn i j k hi hj)
  |some o =>
   have hn:(o::l.filterMap id).Nodup:=hn
   rw[List.nodup_cons]at hn;intro i j k hi hj;cases i with
   |zero=>cases j with
    |zero=>rfl
    |succ j=>cases hi;exact absurd (mem _ j hj) hn.1
   |succ i=>cases j with
    |zero=>cases hj;exact absurd (mem _ i hi) hn.1
    |succ j=>exact congrArg Nat.succ (ih hn.2 i j k hi hj)
abbrev lC (ids:lP) (o:Option (RT Out)) (f:List AV) (t:List Mc.bX):Bool:=yS (tW ids) (Lm o) f&&SX ids (oT o).get ids t&&ndC ids&&(f.all (sO t.length)&&t.all (bO t.length))
theorem N8 (b:Bk) (ev:@Ev b) {ids:lP} {A:Nat→Prop} {w0:World} {a0:Act} {m:Nat→St} {w:World} {a:Act} {o:Option (RT Out)} {f2:List AV} {bs:List bX} (pr:@gZ b ev A w0 a0 m w a (Lm o) (oT o).get) (hK:lC ids o f2 bs=true) (hg:b.jF=[]) :
  ∃m',@gZ dI dN A w0 a0 m' w a (f2.map (@iN b ev)) (eS (bs.map (@qP b ev))):=by
 simp only[lC,Bool.and_eq_true]at hK;refine Rq b ev (pr.to (tV hK.1.1.1) (LQ pr.rel.PD hK.1.1.2) (ae2 hK.1.2) hg) ?_
 rw[Bool.and_eq_true];exact hK.2
def fr (N:Nat) (l:List (Nat×AV)):List AV:=(List.range N).map fun i=>((l.find? fun t=>t.1==i).map (·.2)).getD .fY
end Mc
section
open Mc
def CG (b:Bk) (c:Code) (fi:List AV) (bi:List Mc.bX) (ids:lP) (fo:List AV) (bo:List Mc.bX) (o:Option (RT Out)):Prop:=Tz b c fi.length fi bi bi.length=o∧(fi.all (sI b bi.length)&&bi.all (bI b bi.length))=true∧(MP o&&lC ids o fo bo)=true
def gN (b:Bk) (c:Code) (fi:List AV) (bi:List Mc.bX) (x:Nat) (ids:lP) (fo:List AV) (bo:List Mc.bX):Prop:=∃o,Tz b c fi.length fi bi bi.length=o∧(fi.all (sI b bi.length)&&bi.all (bI b bi.length))=true∧(vP o x&&lC ids o fo bo)=true
def Tt (b:Bk) (c:Option (RT Out)) (k:Nat) (fi:List AV) (bi:List Mc.bX) (ids:lP) (fo:List AV) (bo:List Mc.bX) (o:Option (RT Out)):Prop:=rsA b c k fi.length fi bi bi.length=o∧(fi.all (sI b bi.length)&&bi.all (bI b bi.length))=true∧(MP o&&lC ids o fo bo)=true
def agl (b:Bk) (c:Option (RT Out)) (k:Nat) (fi:List AV) (bi:List Mc.bX) (x:Nat) (ids:lP) (fo:List AV) (bo:List Mc.bX):Prop:=∃o,rsA b c k fi.length fi bi bi.length=o∧(fi.all (sI b bi.length)&&bi.all (bI b bi.length))=true∧(vP o x&&lC ids o fo bo)=true
def ak1 (b:Bk) (fn:Func) (c:Code) (fi:List AV) (bi:List Mc.bX) (r:AV):Prop:=∃o,Tz b c fi.length fi bi bi.length=o∧(fi.all (sI b bi.length)&&bi.all (bI b bi.length))=true∧(vP o 1||vP o 0)=true∧((dX Tryz.prog fn (Lm o) (oT o).get).bind fun x=>(rK (oT o).get 16 x).map (·.1))=some r
def mI (b:Bk) (fn:Func) (c:Option (RT Out)) (k:Nat) (fi:List AV) (bi:List Mc.bX) (r:AV):Prop:=∃o,rsA b c k fi.length fi bi bi.length=o∧(fi.all (sI b bi.length)&&bi.all (bI b bi.length))=true∧(vP o 1||vP o 0)=true∧((dX Tryz.prog fn (Lm o) (oT o).get).bind fun x=>(rK (oT o).get 16 x).map (·.1))=some r
def Ts (b:Bk) (fn:Func) (c:Code) (fi:List AV) (bi:List Mc.bX) (r:AV):Prop:=∃o,Tz b c fi.length fi bi bi.length=o∧(fi.all (sI b bi.length)&&bi.all (bI b bi.length))=true∧vP o 1=true∧((dX Tryz.prog fn (Lm o) (oT o).get).bind fun x=>(rK (oT o).get 16 x).map (·.1))=some r
theorem tN {Φ:nA} {a:Act} {w:World} (h:Φ .ret a w):∀k:List KI,KS Tryz.prog k Φ .ret a w
 |[]=>h
 | .seq y::k=>tN h k
 | .blk id::k=>tN h k
 | .scope::k=>⟨fun l h=>(by cases h),tN h k⟩
section
variable {b:Bk} {ev:@Ev b} {A:Nat→Prop} {w0:World} {a0:Act} {mm:Nat→St} {w:World} {a:Act} {Φ:nA} {c:Code} {oA:Option (RT Out)} {fi fo fc fd:List AV} {bi bo bc bd:List Mc.bX} {ids:lP} {k x:Nat}
theorem CG.go {o:Option (RT Out)} (s:CG b c fi bi ids fo bo o) (ev:@Ev b) (hX:@iJ b ev Tryz.prog) (pr:@gZ dI dN A w0 a0 mm w a fc (eS bc)) (kk:∀mm w a,@gZ dI dN A w0 a0 mm w a fd (eS bd)→(Code.loop (bE o)).wpIn (fw none) 9 Tryz.prog (KS Tryz.prog (oK o) Φ) a w)
  (ef:fi.map (@iN b ev)=fc:=by rfl) (eb:bi.map (@qP b ev)=bc:=by rfl) (eg:fo.map (@iN b ev)=fd:=by rfl) (eh:bo.map (@qP b ev)=bd:=by rfl) (hg:b.jF=[]:=by rfl):c.wpIn (fw none) 9 Tryz.prog Φ a w:=by
 obtain⟨h1,h2,h3⟩:=s;rw[Bool.and_eq_true]at h3;obtain⟨m1,pr⟩:=rZ b ev pr ef eb h2 hg;refine adS b ev hX (L:=100000) (d:=60) (k:=100) o h1 h3.1 (Nat.le_refl _) pr ?_
 intro mm w a pr;obtain⟨m2,pr⟩:=N8 b ev pr h3.2 hg;rw[eg,eh]at pr;exact kk _ _ _ pr
theorem gN.go (s:gN b c fi bi x ids fo bo) (ev:@Ev b) (hX:@iJ b ev Tryz.prog) (pr:@gZ dI dN A w0 a0 mm w a fc (eS bc)) (kk:∀mm w a,@gZ dI dN A w0 a0 mm w a fd (eS bd)→Φ (xOf x).to a w)
  (ef:fi.map (@iN b ev)=fc:=by rfl) (eb:bi.map (@qP b ev)=bc:=by rfl) (eg:fo.map (@iN b ev)=fd:=by rfl) (eh:bo.map (@qP b ev)=bd:=by rfl) (hg:b.jF=[]:=by rfl):c.wpIn (fw none) 9 Tryz.prog Φ a w:=by
 obtain⟨o,h1,h2,h3⟩:=s;rw[Bool.and_eq_true]at h3;obtain⟨m1,pr⟩:=rZ b ev pr ef eb h2 hg;refine Aq b ev hX (L:=100000) (d:=60) (k:=100) o h1 h3.1 (Nat.le_refl _) pr ?_
 intro mm w a pr;obtain⟨m2,pr⟩:=N8 b ev pr h3.2 hg;rw[eg,eh]at pr;exact kk _ _ _ pr
theorem Tt.go {o:Option (RT Out)} (s:Tt b oA k fi bi ids fo bo o) (ev:@Ev b) (hX:@iJ b ev Tryz.prog) (pr:@gZ dI dN A w0 a0 mm w a fc (eS bc)) (kk:∀mm w a,@gZ dI dN A w0 a0 mm w a fd (eS bd)→(Code.loop (bE o)).wpIn (fw none) 9 Tryz.prog (KS Tryz.prog (oK o) Φ) a w)
  (ef:fi.map (@iN b ev)=fc:=by rfl) (eb:bi.map (@qP b ev)=bc:=by rfl) (eg:fo.map (@iN b ev)=fd:=by rfl) (eh:bo.map (@qP b ev)=bd:=by rfl) (hg:b.jF=[]:=by rfl):KS Tryz.prog (oK oA) Φ (AX.exit k).to a w:=by
 obtain⟨h1,h2,h3⟩:=s;rw[Bool.and_eq_true]at h3;obtain⟨m1,pr⟩:=rZ b ev pr ef eb h2 hg;refine adW b ev hX (L:=100000) (d:=60) o h1 h3.1 (Nat.le_refl _) pr ?_
 intro mm w a pr;obtain⟨m2,pr⟩:=N8 b ev pr h3.2 hg;rw[eg,eh]at pr;exact kk _ _ _ pr
theorem agl.go (s:agl b oA k fi bi x ids fo bo) (ev:@Ev b) (hX:@iJ b ev Tryz.prog) (pr:@gZ dI dN A w0 a0 mm w a fc (eS bc)) (kk:∀mm w a,@gZ dI dN A w0 a0 mm w a fd (eS bd)→Φ (xOf x).to a w)
  (ef:fi.map (@iN b ev)=fc:=by rfl) (eb:bi.map (@qP b ev)=bc:=by rfl) (eg:fo.map (@iN b ev)=fd:=by rfl) (eh:bo.map (@qP b ev)=bd:=by rfl) (hg:b.jF=[]:=by rfl):KS Tryz.prog (oK oA) Φ (AX.exit k).to a w:=by
 obtain⟨o,h1,h2,h3⟩:=s;rw[Bool.and_eq_true]at h3;obtain⟨m1,pr⟩:=rZ b ev pr ef eb h2 hg;refine IH b ev hX (L:=100000) (d:=60) o h1 h3.1 (Nat.le_refl _) pr ?_
 intro mm w a pr;obtain⟨m2,pr⟩:=N8 b ev pr h3.2 hg;rw[eg,eh]at pr;exact kk _ _ _ pr
theorem Lv {fn:Func} {r r':AV} {o:Option (RT Out)} (ev:@Ev b) (hr:((dX Tryz.prog fn (Lm o) (oT o).get).bind fun x=>(rK (oT o).get 16 x).map (·.1))=some r) (er:@den b ev 12 r=r') (pr:@gZ b ev A w0 a0 mm w a (Lm o) (oT o).get) {e:Exit} (he:e=.normal∨e=.ret):Fin Tryz.prog fn A w0 a0 r' e a w:=by
 cases h1:dX Tryz.prog fn (Lm o) (oT o).get with
 |none=>rw[h1]at hr;cases hr
 |some x =>
  rw[h1]at hr;cases h2:rK (oT o).get 16 x with
  |none=>simp[h2]at hr
  |some y =>
   obtain⟨y,js⟩:=y;simp only[Option.bind_some,h2,Option.map_some,Option.some.injEq]at hr;subst hr;exact⟨he,b,ev,mm,Lm o,(oT o).get,x,y,js,pr,h1,h2,er⟩
theorem ak1.go {fn:Func} {r r':AV} (s:ak1 b fn c fi bi r) (ev:@Ev b) (hX:@iJ b ev Tryz.prog) (pr:@gZ dI dN A w0 a0 mm w a fc (eS bc))
  (ef:fi.map (@iN b ev)=fc:=by rfl) (eb:bi.map (@qP b ev)=bc:=by rfl) (er:@den b ev 12 r=r':=by rfl) (hg:b.jF=[]:=by rfl):c.wpIn (fw none) 9 Tryz.prog (Fin Tryz.prog fn A w0 a0 r') a w:=by
 obtain⟨o,h1,h2,h3,h4⟩:=s;obtain⟨m1,pr⟩:=rZ b ev pr ef eb h2 hg;rw[Bool.or_eq_true]at h3;rcases h3 with h3|h3
 ·exact Aq b ev hX (L:=100000) (d:=60) (k:=100) o h1 h3 (Nat.le_refl _) pr fun mm w a pr=>Lv ev h4 er pr (.inr rfl)
 ·exact Aq b ev hX (L:=100000) (d:=60) (k:=100) o h1 h3 (Nat.le_refl _) pr fun mm w a pr=>Lv ev h4 er pr (.inl rfl)
theorem mI.go {fn:Func} {r r':AV} (s:mI b fn oA k fi bi r) (ev:@Ev b) (hX:@iJ b ev Tryz.prog) (pr:@gZ dI dN A w0 a0 mm w a fc (eS bc))
  (ef:fi.map (@iN b ev)=fc:=by rfl) (eb:bi.map (@qP b ev)=bc:=by rfl) (er:@den b ev 12 r=r':=by rfl) (hg:b.jF=[]:=by rfl):KS Tryz.prog (oK oA) (Fin Tryz.prog fn A w0 a0 r') (AX.exit k).to a w:=by
 obtain⟨o,h1,h2,h3,h4⟩:=s;obtain⟨m1,pr⟩:=rZ b ev pr ef eb h2 hg;rw[Bool.or_eq_true]at h3;rcases h3 with h3|h3
 ·exact IH b ev hX (L:=100000) (d:=60) o h1 h3 (Nat.le_refl _) pr fun mm w a pr=>Lv ev h4 er pr (.inr rfl)
 ·exact IH b ev hX (L:=100000) (d:=60) o h1 h3 (Nat.le_refl _) pr fun mm w a pr=>Lv ev h4 er pr (.inl rfl)
theorem Ts.go {fn:Func} {r r':AV} (s:Ts b fn c fi bi r) (ev:@Ev b) (hX:@iJ b ev Tryz.prog) (pr:@gZ dI dN A w0 a0 mm w a fc (eS bc)) (kk:∀a w,Fin Tryz.prog fn A w0 a0 r' .ret a w→Φ .ret a w)
  (ef:fi.map (@iN b ev)=fc:=by rfl) (eb:bi.map (@qP b ev)=bc:=by rfl) (er:@den b ev 12 r=r':=by rfl) (hg:b.jF=[]:=by rfl):c.wpIn (fw none) 9 Tryz.prog Φ a w:=by
 obtain⟨o,h1,h2,h3,h4⟩:=s;obtain⟨m1,pr⟩:=rZ b ev pr ef eb h2 hg;exact Aq b ev hX (L:=100000) (d:=60) (k:=100) o h1 h3 (Nat.le_refl _) pr fun mm w a pr=>kk _ _ (Lv ev h4 er pr (.inr rfl))
theorem xK {b:Bk} {ev:@Ev b} (hk:@Mj b ev Tryz.prog b.bN) (h1:b.ext=[]:=by rfl) (h2:b.yes=[]:=by rfl):@iJ b ev Tryz.prog:=xKn b ev hk h1 h2
end
theorem aQ {ρ:Nat→Int} {p:Poly} {z:List dF} {x:dF} {k:Int} (h:z[k.toNat]?=some x) (hk:bR ρ p=k:=by simp[bR,rH]):(bU z)[(bR ρ p).toNat]?=some [.lit 3 (aG x.bH),.i x.p0,.i x.p1,.i x.p2]:=uD hk (ahd h)
theorem aL {xs:List Int} {i:Nat} {z:List dO} {x:dO} (h:z[(xs.getD i 0).toNat]?=some x):(dQ z)[(bR (fun k=>xs.getD k 0) [([i],1)]).toNat]?=some [.i x.a,.i x.n]:=uD (kP _ _) (by rw[dQ,List.getElem?_map,h];rfl)
theorem aY {xs:List Int} {i:Nat} {z:List bF} {x:bF} (h:z[(xs.getD i 0).toNat]?=some x):(aG z)[(bR (fun k=>xs.getD k 0) [([i],1)]).toNat]?=some [.i x.q,.i x.v,.i x.p]:=uD (kP _ _) (by rw[aG,List.getElem?_map,h];rfl)
end
section
def vN (r:Int):Bool:=decide (0≤r)&&decide (r≤1073741824)
def Nn (r q:Int):Int:=zY (max q 0) r 1
def ofE (r q:Int):Int:=ER (max q 0) r 1
theorem Ek {r:Int}:vN r=true↔0≤r∧r≤1073741824:=by simp[vN]
theorem aeY {r q:Int} (hr:vN r=true):0≤Nn r q∧Nn r q≤288230376151711744∧(ofE r q=0∨ofE r q=2):=by
 have hr:=Ek.1 hr;have:=Int.mul_nonneg (show 0≤max q 0 by omega) hr.1
 simp only[Nn,ofE,zY,ER,Int.ediv_one];have hneg:¬ (max q 0<0∨r<0∨(1:Int)<1):=by omega
 simp only[if_neg hneg];by_cases h:max q 0*r > 288230376151711744
 ·simp only[if_pos h];exact⟨by omega,by omega,.inr trivial⟩
 ·simp only[if_neg h];exact⟨this,by omega,.inl trivial⟩
def inC (l:List bF) (x:bF) (c:Int):List bF×Int×Int :=
 if vN c=false∨x.q<1∨x.v<0 then(l,0,1)else if ofE c x.q≠0∨288230376151711744<x.v then(l,0,2)else
  if(zZ l ⟨x.q,Nn c x.q,x.p⟩).2=0 then((zZ l ⟨x.q,Nn c x.q,x.p⟩).1,x.v-Nn c x.q,0)else(l,0,(zZ l ⟨x.q,Nn c x.q,x.p⟩).2)
def AD (l:List bF) (q c:Int):List bF×bF×Int :=
 if vN c=false then(l,.zero,1)else match dJ l q with
  |([],y,e)=>([],y,e)
  |(z::t,y,e)=>if e≠0 then(z::t,y,e)else
   let v:=if ofE c q≠0∨z.v+y.v<Nn c q then z.v+y.v else Nn c q
   (⟨z.q,z.v+(y.v-v),z.p⟩::t,⟨y.q,v,y.p⟩,0)
theorem RH {l m:List bF} {y:bF} {q:Int} (h:LR l) (hO:dJ l q=(m,y,0)):0≤y.v∧y.v≤288230376151711744∧y.v+vs m=vs l:=by
 by_cases h1:q<1
 ·rw[dJ,if_pos h1]at hO;cases hO
 by_cases h2:q≤qs l
 ·rw[FN h (by omega) h2]at hO
  have s:=(wN l .zero q h (by omega) h2).2.2.1
  have t:=OD l .zero q h;generalize iW l .zero q=r at *;cases hO;have a:=gW t.1.ok;have b:=h.v;simp[bF.zero]at s
  have:=t.2.2.1;omega
 ·rw[zN h (by omega) (by omega)]at hO;cases hO
structure rM where
 a:Int
 b:Int
 c:Int
structure NU (d:rM):Prop where
 a0:0≤d.a
 b0:0≤d.b
 c0:0≤d.c
 a1:d.a≤288230376151711744
 b1:d.b≤288230376151711744
 c1:d.c≤288230376151711744
def vM (l:List bF) (d:rM):Int:=qs l-d.a-d.b-d.c
theorem LR.all {l:List bF} (h:LR l):eH (flat l):=by
 intro z hz;obtain⟨x,hx,hz⟩:=List.mem_flatMap.1 hz;have:=h.at_ hx
 simp at hz
 rcases hz with rfl|rfl|rfl
 ·exact⟨by omega,by omega⟩
 ·exact⟨by omega,by omega⟩
 ·exact⟨by omega,by omega⟩
def rM.get (d:rM) (k:Int):Int:=if k=0 then d.a else if k=1 then d.b else d.c
def rM.add (d:rM) (k q:Int):rM:=if k=0 then⟨d.a+q,d.b,d.c⟩else if k=1 then⟨d.a,d.b+q,d.c⟩else⟨d.a,d.b,d.c+q⟩
def pC (l:List bF) (d:rM) (k q:Int):rM×Int:=if k<0∨3≤k∨q<1 then(d,1)else if vM l d<q then(d,5)else(d.add k q,0)
def zO (l:List bF) (d:rM) (q:Int):List bF×bF×Int:=if q<1 then(l,.zero,1)else if vM l d<q then(l,.zero,5)else dJ l q
theorem NU.zero:NU ⟨0,0,0⟩:=⟨by simp,by simp,by simp,by simp,by simp,by simp⟩
theorem ako {l:List bF} {x:bF} {c:Int} (h:LR l):LR (inC l x c).1:=by
 unfold inC;split
 ·exact h
 ·split
  ·exact h
  ·split
   ·exact O2 h
   ·exact h
theorem ahk {l:List bF} {q c:Int} (h:LR l):LR (AD l q c).1:=by
 unfold AD;split
 ·exact h
 ·have hm:=pI (q:=q) h
  split
  ·exact LR.nil
  ·rename_i z t y e hO
   rw[hO]at hm;split
   ·exact hm
   ·rename_i he
    have he0:e=0:=by simpa using he
    subst he0;obtain⟨s1,s2,s3⟩:=RH h hO;have hz:=hm.at_ (x:=z) (by simp)
    have hvs:=h.v;have hqv:=(gW hm.tail.ok).2.1
    rw[jP]at s3;have key:∀v:Int,(0≤v∧v≤z.v+y.v)→LR (⟨z.q,z.v+(y.v-v),z.p⟩::t):=by
     intro v hv;obtain⟨a,b,cq,dv,ep⟩:=hm;refine⟨by simpa using a,fun x hx=>?_,?_,?_,?_⟩
     ·rcases List.mem_cons.1 hx with rfl|hx
      ·exact cT.2 ⟨by simp only;omega,by simp only;omega,by simp only;omega,by simp only;omega,by simp only;omega,by simp only;omega⟩
      ·exact b x (by simp[hx])
     ·rw[fV]at cq ⊢;exact cq
     ·rw[jP];simp only;omega
     ·rw[mV]at ep ⊢;exact ep
    simp only
    apply key
    split
    ·omega
    ·rename_i hq
     have hfit:vN c=true:=by cases hf:vN c<;>simp_all
     have:=(aeY (q:=q) hfit).1
     omega
theorem ahh {l:List bF} {d:rM} {q:Int} (h:LR l):LR (zO l d q).1:=by
 unfold zO;split
 ·exact h
 ·split
  ·exact h
  ·exact pI h
def dZ (m c:Int) (l:List bF) (x:bF):List bF×Int×Int :=
 if m=1 then((AY l x).1,0,(AY l x).2)else if m=2 then((zZ l x).1,0,(zZ l x).2)else if m=3 then((zZ l x).1,0,(zZ l x).2)else if m=4 then inC l x c else(l,0,12)
theorem XM {l:List bF} {x:bF} (h:(zZ l x).2≠0):(zZ l x).1=l:=by
 unfold zZ at h ⊢;split
 ·rw[if_pos ‹_›]at h;exact absurd rfl h
 ·rfl
theorem akn {l:List bF} {x:bF} {c:Int} (h:(inC l x c).2.2≠0):(inC l x c).1=l∧(inC l x c).2.1=0:=by
 unfold inC at h ⊢;split
 ·exact⟨rfl,rfl⟩
 ·rw[if_neg ‹_›]at h
  split
  ·exact⟨rfl,rfl⟩
  ·rw[if_neg ‹_›]at h
   split
   ·rw[if_pos ‹_›]at h;exact absurd rfl h
   ·exact⟨rfl,rfl⟩
theorem IW {m c:Int} {l:List bF} {x:bF} (h:(dZ m c l x).2.2≠0):(dZ m c l x).1=l∧(dZ m c l x).2.1=0:=by
 unfold dZ at h ⊢;split
 ·rw[if_pos ‹_›]at h;exact⟨afp h,rfl⟩
 ·rw[if_neg ‹_›]at h
  split
  ·rw[if_pos ‹_›]at h;exact⟨XM h,rfl⟩
  ·rw[if_neg ‹_›]at h
   split
   ·rw[if_pos ‹_›]at h;exact⟨XM h,rfl⟩
   ·rw[if_neg ‹_›]at h
    split
    ·rw[if_pos ‹_›]at h;exact akn h
    ·exact⟨rfl,rfl⟩
theorem Xb {m c:Int} {l:List bF} {x:bF} (h:LR l):LR (dZ m c l x).1:=by
 unfold dZ;split
 ·exact afq h
 ·split
  ·exact O2 h
  ·split
   ·exact O2 h
   ·split
    ·exact ako h
    ·exact h
theorem xQ {l:List bF} {q:Int} (h:(dJ l q).2.2≠0):(dJ l q).1=l∧(dJ l q).2.1=.zero:=by
 unfold dJ at h ⊢;split
 ·exact⟨rfl,rfl⟩
 ·rw[if_neg ‹_›]at h
  split
  ·exact⟨rfl,rfl⟩
  ·rw[if_neg ‹_›]at h;exact absurd rfl h
theorem ahg {l:List bF} {d:rM} {q:Int} (h:(zO l d q).2.2≠0):(zO l d q).1=l∧(zO l d q).2.1=.zero:=by
 unfold zO at h ⊢;split
 ·exact⟨rfl,rfl⟩
 ·rw[if_neg ‹_›]at h
  split
  ·exact⟨rfl,rfl⟩
  ·rw[if_neg ‹_›]at h;exact xQ h
theorem ahj {l:List bF} {q c:Int} (h:(AD l q c).2.2≠0):(AD l q c).1=l∧(AD l q c).2.1=.zero:=by
 unfold AD at h ⊢;split
 ·exact⟨rfl,rfl⟩
 ·rename_i hf
  rw[if_neg hf]at h;split
  ·rename_i y e hO
   rw[hO]at h;have:=xQ (l:=l) (q:=q) (by rw[hO];exact h)
   rw[hO]at this;exact this
  ·rename_i z t y e hO
   rw[hO]at h;simp only at h ⊢
   split
   ·rename_i he
    have:=xQ (l:=l) (q:=q) (by rw[hO];exact he)
    rw[hO]at this;exact this
   ·rw[if_neg ‹_›]at h
    exact absurd rfl h
def eY (m c:Int) (l:List bF) (d:rM) (q:Int):List bF×bF×Int:=if m=3 then zO l d q else if m=4 then AD l q c else dJ l q
def cC (m c:Int) (l:List bF) (d:rM) (kind q:Int):List bF×rM×bF×Bool×Int :=
 if m<1∨4<m then(l,d,.zero,false,12)else if kind<0∨3<kind then(l,d,.zero,false,1)
 else if m=3∧kind≠3 then(l,(pC l d kind q).1,.zero,decide ((pC l d kind q).2=0),(pC l d kind q).2)
 else((eY m c l d q).1,d,(eY m c l d q).2.1,false,(eY m c l d q).2.2)
theorem XF {m c:Int} {l:List bF} {d:rM} {q:Int} (h:LR l):LR (eY m c l d q).1:=by
 unfold eY;split
 ·exact ahh h
 ·split
  ·exact ahk h
  ·exact pI h
theorem XE {m c:Int} {l:List bF} {d:rM} {q:Int} (h:(eY m c l d q).2.2≠0):(eY m c l d q).1=l∧(eY m c l d q).2.1=.zero:=by
 unfold eY at h ⊢;split
 ·rw[if_pos ‹_›]at h;exact ahg h
 ·rw[if_neg ‹_›]at h
  split
  ·rw[if_pos ‹_›]at h;exact ahj h
  ·rw[if_neg ‹_›]at h;exact xQ h
def Xd (b:Bool) (left:Int):List Int→Bool
 |[]=>true
 |q::r=>if q<0∨left<q∨(0<q∧b=false)then false else Xd b (left-q) r
def adV (m:Int) (l:List bF) (d:rM):Bool :=
 if m<1∨4<m∨gT l=false∨(m≠1∧1<l.length)then false else Xd (decide (m=3)) (vV l).q [d.a,d.b,d.c]
theorem Ru {m c:Int} {l:List bF} {d:rM} {kind q:Int} (h:LR l):LR (cC m c l d kind q).1:=by
 unfold cC;split
 ·exact h
 ·split
  ·exact h
  ·split
   ·exact h
   ·exact XF h
end
section
open Mc
set_option maxRecDepth 1000000
namespace Fr
set_option maxRecDepth 1000000
end Fr
namespace Fr
set_option maxHeartbeats 1000000
set_option maxRecDepth 1000000
end Fr
end
section
set_option linter.unnecessarySimpa false
def lF (w:World) (lo hi:Nat) (a:Option Addr) (cap:Nat) (l:List bF):Prop :=
 l.length≤cap∧cap≤maxLen∧(l.length=0∨∃b off,a=some ⟨b,off,none⟩∧lo≤b∧b<hi∧bJ w b off (flat l)∧∀i,w.frozen? ⟨b,i,none⟩=false)
theorem lF.below {w w':World} {lo hi:Nat} {a:Option Addr} {cap:Nat} {l:List bF} (h:lF w lo hi a cap l) (g:Below hi w w'):lF w' lo hi a cap l:=by
 obtain⟨h1,h2,h3⟩:=h;refine⟨h1,h2,?_⟩
 rcases h3 with h3|⟨b,off,rfl,hb,h4,h5,h6⟩
 ·exact .inl h3
 ·exact .inr ⟨b,off,rfl,hb,h4,fun i hi=>(g.cell (p:=⟨b,off+i,none⟩) h4).trans (h5 i hi),fun i=>(g.frozen (p:=⟨b,i,none⟩) h4).trans (h6 i)⟩
theorem lF.hold {w:World} {lo hi:Nat} {a:Option Addr} {cap:Nat} {l:List bF} (h:lF w lo hi a cap l) (g:hi≤w.heap.size):tO w lo (.slice a l.length cap) l:=by
 obtain⟨h1,h2,h3⟩:=h;refine⟨a,cap,rfl,h1,h2,?_⟩
 rcases h3 with h3|⟨b,off,rfl,hb,h4,h5,h6⟩
 ·exact .inl h3
 ·exact .inr ⟨b,off,rfl,hb,Nat.lt_of_lt_of_le h4 g,h5,h6⟩
theorem lF.hi {w:World} {lo hi hi':Nat} {a:Option Addr} {cap:Nat} {l:List bF} (h:lF w lo hi a cap l) (g:hi≤hi'):lF w lo hi' a cap l:=by
 obtain⟨h1,h2,h3⟩:=h;refine⟨h1,h2,?_⟩
 rcases h3 with h3|⟨b,off,rfl,hb,h4,h5⟩
 ·exact .inl h3
 ·exact .inr ⟨b,off,rfl,hb,Nat.lt_of_lt_of_le h4 g,h5⟩
def lenOf:Value→Nat | .slice _ n _=>n|_=>0
structure xF (l:List bF) (q:Int) (m:List bF) (b:bF) (r:Int):Prop where
 e:iW l .zero q=iW m b r
 lr:LR m
 r0:0≤r
 r1:r≤qs m
 q0:0≤b.q
 q1:b.q+r≤288230376151711744
 v0:0≤b.v
 v1:b.v+vs m≤288230376151711744
 p1:max b.p (-b.p)+F8 m≤288230376151711744
theorem World.cell?_put_far (w:World) {g b:Nat} (h:b≠g) (i j:Nat) (u:Value):(w.setCell ⟨g,i,none⟩ u).cell? ⟨b,j,none⟩=w.cell? ⟨b,j,none⟩:=World.cell?_of_block (w:=w) (Below.heap_setCell _ _ _ _ h)
def rD (w:World) (b off:Nat) (x:bF):World:=((w.setCell ⟨b,off,none⟩ (.int .i64 x.q)).setCell ⟨b,off+1,none⟩ (.int .i64 x.v)).setCell ⟨b,off+2,none⟩ (.int .i64 x.p)
theorem nI (w:World) {g b:Nat} (h:b≠g) (off j:Nat) (x:bF):(rD w g off x).cell? ⟨b,j,none⟩=w.cell? ⟨b,j,none⟩:=by
 unfold rD;rw[World.cell?_put_far _ h,World.cell?_put_far _ h,World.cell?_put_far _ h]
theorem jK (w:World) (g off:Nat) (x:bF) (p:Addr):(rD w g off x).frozen? p=w.frozen? p:=by
 unfold rD;simp
theorem ab7 (w:World) (g off:Nat) (x:bF):(rD w g off x).heap.size=w.heap.size:=by
 unfold rD;simp[World.setCell]
theorem TS {w W:World} {B g:Nat} (h:Below B w W) (hg:B≤g) (off:Nat) (x:bF):Below B w (rD W g off x):=((h.setCell (p:=⟨g,off,none⟩) hg _).setCell (p:=⟨g,off+1,none⟩) hg _).setCell (p:=⟨g,off+2,none⟩) hg _
theorem aaD {w:World} {b off:Nat} {u0 u1 u2:Value} (x:bF) (c0:w.cell? ⟨b,off,none⟩=some u0) (c1:w.cell? ⟨b,off+1,none⟩=some u1) (c2:w.cell? ⟨b,off+2,none⟩=some u2) :
  (rD w b off x).cell? ⟨b,off,none⟩=some (.int .i64 x.q)∧(rD w b off x).cell? ⟨b,off+1,none⟩=some (.int .i64 x.v)∧(rD w b off x).cell? ⟨b,off+2,none⟩=some (.int .i64 x.p):=by
 unfold rD;simp[go_sem,c0,c1,c2]
theorem adN {w:World} {b off j:Nat} (x:bF) (h:j<off∨off+2<j):(rD w b off x).cell? ⟨b,j,none⟩=w.cell? ⟨b,j,none⟩:=by
 unfold rD;rw[World.cell?_setCell_other,World.cell?_setCell_other,World.cell?_setCell_other]
 ·intro e;injection e;omega
 ·intro e;injection e;omega
 ·intro e;injection e;omega
theorem gR.aj5 {w:World} {b g off:Nat} {x y z:Int} (h:gR w b x y z) (hne:b≠g) (u:bF):gR (rD w g off u) b x y z :=
 ⟨(nI w hne _ _ _).trans h.c0,(nI w hne _ _ _).trans h.c1,(nI w hne _ _ _).trans h.c2,(jK _ _ _ _ _).trans h.f0,(jK _ _ _ _ _).trans h.f1,(jK _ _ _ _ _).trans h.f2⟩
theorem gR.put {w:World} {b:Nat} {x y z:Int} (h:gR w b x y z) (u:bF):gR (rD w b 0 u) b u.q u.v u.p:=by
 obtain⟨a,b,c⟩:=aaD u h.c0 (show w.cell? ⟨b,0+1,none⟩=_ from h.c1) (show w.cell? ⟨b,0+2,none⟩=_ from h.c2)
 exact⟨a,b,c,(jK _ _ _ _ _).trans h.f0,(jK _ _ _ _ _).trans h.f1,(jK _ _ _ _ _).trans h.f2⟩
theorem gR.drew {w:World} {b:Nat} {x y z:Int} (h:gR w b x y z):gR w.drew b x y z:=⟨h.c0,h.c1,h.c2,h.f0,h.f1,h.f2⟩
theorem lF.aj5 {w:World} {lo hi:Nat} {a:Option Addr} {cap:Nat} {l:List bF} (h:lF w lo hi a cap l) {g:Nat} (hg:g<lo∨hi≤g) (off:Nat) (u:bF):lF (rD w g off u) lo hi a cap l:=by
 obtain⟨h1,h2,h3⟩:=h;refine⟨h1,h2,?_⟩
 rcases h3 with h3|⟨b,o,rfl,hb,h4,h5,h6⟩
 ·exact .inl h3
 ·exact .inr ⟨b,o,rfl,hb,h4,fun i hi=>(nI w (by omega) _ _ _).trans (h5 i hi),fun i=>(jK _ _ _ _ _).trans (h6 i)⟩
theorem lF.drew {w:World} {lo hi:Nat} {a:Option Addr} {cap:Nat} {l:List bF} (h:lF w lo hi a cap l):lF w.drew lo hi a cap l:=h
theorem lF.put {w:World} {lo hi b off cap:Nat} {x:bF} {l:List bF} (h:lF w lo hi (some ⟨b,off,none⟩) cap (x::l)) (u:bF):lF (rD w b off u) lo hi (some ⟨b,off,none⟩) cap (u::l):=by
 obtain⟨h1,h2,h3⟩:=h;refine⟨h1,h2,?_⟩
 rcases h3 with h3|⟨b',o',e,hb,h4,h5,h6⟩
 ·cases h3
 ·cases e
  obtain⟨c0,c1,c2⟩:=h5.head;obtain⟨s0,s1,s2⟩:=aaD u c0 c1 c2;refine .inr ⟨_,_,rfl,hb,h4,bJ.cons s0 s1 s2 fun i hi=>?_,fun i=>(jK _ _ _ _ _).trans (h6 i)⟩
  rw[adN u (.inr (by omega))]
  exact h5.tail i hi
theorem lF.tail {w:World} {lo hi b off cap:Nat} {x:bF} {l:List bF} (h:lF w lo hi (some ⟨b,off,none⟩) cap (x::l)):lF w lo hi (some ⟨b,off+3,none⟩) l.length l:=by
 obtain⟨h1,h2,h3⟩:=h;refine⟨Nat.le_refl _,by simp only[List.length_cons]at h1;omega,?_⟩
 rcases h3 with h3|⟨b',o',e,hb,h4,h5,h6⟩
 ·cases h3
 ·cases e
  exact .inr ⟨_,_,rfl,hb,h4,h5.tail,h6⟩
theorem lF.none {w:World} {lo hi:Nat} {a:Option Addr}:lF w lo hi a 0 []:=⟨Nat.le_refl _,by unfold maxLen;omega,.inl rfl⟩
theorem xF.cut {l:List bF} {q k:Int} {x b:bF} {t:List bF} (h:xF l q (x::t) b k) (h0:1≤k) (h1:k<x.q):xF l q (jT x (iS x k)::t) (fX b (iS x k)) (k-(iS x k).q):=by
 have hx:=h.lr.ok x (by simp)
 have c:=XW hx h0 h1;have cp:=afO hx (q:=k) (by omega) (by omega)
 have cb:=Pe hx (q:=k) (by omega) (by omega)
 have hl:=OD (x::t) b k h.lr
 have hs:=wN (x::t) b k h.lr (by omega) h.r1
 have eo:iW (x::t) b k=(jT x (iS x k)::t,fX b (iS x k)):=by rw[iW,if_neg (by omega),if_pos h1]
 rw[eo]at hl hs;have e0:k-(iS x k).q=0:=by simp only[iS];omega
 have e:=h.e;rw[eo]at e;obtain⟨g1,g2,g3,g4,g5,g6,g7,g8,g9⟩:=h;simp only at hl hs
 rw[jP]at g8;rw[mV]at g9;rw[e0];refine⟨by rw[e,Nl (Int.le_refl 0)],hl.1,Int.le_refl 0,?_,?_,?_,?_,?_,?_⟩
 ·have:=gW hl.1.ok;omega
 ·simp only[fX,iS];omega
 ·simp only[fX,iS];omega
 ·have:=cb.v0;simp only[fX,iS];omega
 ·rw[jP];simp only[fX,iS,jT];omega
 ·rw[mV];simp only[fX,iS,jT]
  have cp2:=akK hx (q:=k) (by omega) (by omega)
  omega
theorem xF.whole {l:List bF} {q k:Int} {x b:bF} {t:List bF} (h:xF l q (x::t) b k) (h0:1≤k) (h1:¬ k<x.q):xF l q t (fX b x) (k-x.q):=by
 have hx:=cT.1 (h.lr.ok x (by simp))
 have eo:iW (x::t) b k=iW t (fX b x) (k-x.q):=by rw[iW,if_neg (by omega),if_neg h1]
 obtain⟨g1,g2,g3,g4,g5,g6,g7,g8,g9⟩:=h;rw[eo]at g1;rw[fV]at g4;rw[jP]at g8;rw[mV]at g9;refine⟨g1,g2.tail,by omega,by omega,?_,?_,?_,?_,?_⟩<;>simp only[fX]<;>omega
theorem xF.start {l:List bF} {q:Int} (h:LR l) (h0:1≤q) (h1:q≤qs l):xF l q l .zero q:=by
 have:=h.q;have:=h.v;have:=h.p
 refine⟨rfl,h,by omega,h1,?_,?_,?_,?_,?_⟩<;>simp[bF.zero]<;>omega
def aml (n k w r:Int) (i:Nat) (l:List bF) (a b:Int):Prop :=
 ((i:Int)<n∧∃u z:Int,l=[⟨n-i,u,z⟩]∧(n-i)*k≤u∧u≤(n-i)*k+(n-i)∧0≤u∧u≤w∧-1000≤z∧z≤1000∧a=w-u∧b=r-z)∨((i:Int)=n∧l=[]∧a=w∧b=r)
structure amr (n k w r:Int) (i:Nat) (l:List bF) (a b:Int):Prop where
 e:(dJ l 1).2.2=0
 q:(dJ l 1).2.1.q=1
 v0:k≤(dJ l 1).2.1.v
 v1:(dJ l 1).2.1.v≤k+1
 st:aml n k w r (i+1) (dJ l 1).1 (a+(dJ l 1).2.1.v) (b+(dJ l 1).2.1.p)
 p0:-1000≤(dJ l 1).2.1.p
 p1:(dJ l 1).2.1.p≤1000
end
section
open Mc
def dF.pn (p:dF):rM:=⟨p.p0,p.p1,p.p2⟩
theorem Sm {l:List bF} {x:bF}:0≤(AY l x).2∧(AY l x).2≤20:=by
 unfold AY;split
 ·exact⟨by simp,by simp⟩
 ·split
  ·exact⟨by simp,by simp⟩
  ·split<;>exact⟨by simp,by simp⟩
end
section
theorem ahe (d:rM) (k q:Int):(d.add k q).a+(d.add k q).b+(d.add k q).c=d.a+d.b+d.c+q:=by
 unfold rM.add;split
 ·simp only;omega
 ·split<;>(simp only;omega)
theorem Xc {d:rM} (h:NU d) (k:Int):0≤d.get k∧d.get k≤d.a+d.b+d.c:=by
 have h0:=h.a0;have h1:=h.b0;have h2:=h.c0
 unfold rM.get;split
 ·omega
 ·split<;>omega
structure iU (m:Int) (l:List bF) (d:rM):Prop where
 lr:LR l
 one:m=1∨l.length≤1
 a0:0≤d.a
 b0:0≤d.b
 c0:0≤d.c
 sum:d.a+d.b+d.c≤qs l
 zero:m=3∨(d.a=0∧d.b=0∧d.c=0)
theorem iU.pnd {m:Int} {l:List bF} {d:rM} (h:iU m l d):NU d:=by
 have:=h.lr.q;have:=h.sum;have:=h.a0;have:=h.b0;have:=h.c0
 exact⟨by omega,by omega,by omega,by omega,by omega,by omega⟩
theorem iU.right {m:Int} {l:List bF} {d:rM} (h:iU m l d) (hm:1≤m∧m≤4):adV m l d=true:=by
 obtain⟨lr,one,a0,b0,c0,sum,zero⟩:=h;unfold adV;rw[if_neg (by
  rintro(h1|h1|h1|h1)
  ·omega
  ·omega
  ·rw[lr.right]at h1;cases h1
  ·omega)]
 rw[lr.vV.1];have hd:decide (m=3)=false→d.a=0∧d.b=0∧d.c=0:=fun h1=>by
  rcases zero with h2|h2
  ·rw[h2]at h1;simp at h1
  ·exact h2
 generalize decide (m=3)=b at *
 simp only[Xd];cases b with
 |true=>rw[if_neg (by simp;omega),if_neg (by simp;omega),if_neg (by simp;omega)]
 |false =>
  obtain⟨e1,e2,e3⟩:=hd rfl;rw[e1,e2,e3];have:=(gW lr.ok).1
  rw[if_neg (by simp;omega),if_neg (by simp;omega),if_neg (by simp;omega)]
theorem Sl {l m:List bF} {x:bF} (h:AY l x=(m,0)):m=l++[x]∧qs m=qs l+x.q∧vs m=vs l+x.v∧LR m∧1≤x.q:=by
 unfold AY at h;split at h
 ·cases h
 ·rename_i hx
  split at h
  ·cases h
  ·split at h
   ·rename_i hr
    cases h;exact⟨rfl,by rw[acj];simp[qs],by rw[abS];simp[vs],LR.of hr,by omega⟩
   ·cases h
theorem Lq {l m:List bF} {x:bF} (h:zZ l x=(m,0)):m.length=1∧qs m=qs l+x.q∧vs m=vs l+x.v∧1≤x.q:=by
 unfold zZ at h;split at h
 ·rename_i he
  cases h;obtain⟨k,e,hk⟩:∃k e,AY l x=(k,e):=⟨_,_,rfl⟩
  rw[hk]at he ⊢;simp only at he ⊢
  subst he;obtain⟨-,h1,h2,h3,h4⟩:=Sl hk;refine⟨rfl,?_,?_,h4⟩
  ·rw[h3.vV.1];simp[qs]at h1 ⊢;exact h1
  ·rw[h3.vV.1];simp[vs]at h2 ⊢;exact h2
 ·rename_i he
  exact absurd (congrArg Prod.snd h) he
theorem iU.in_ {m c:Int} {l l':List bF} {d:rM} {x:bF} {up e':Int} (h:iU m l d) (hm:1≤m∧m≤4) (hI:dZ m c l x=(l',up,e')) :
  iU m l' d∧(e'=0→vs l'=vs l+x.v-up)∧(e'≠0→l'=l):=by
 have hlr:LR (dZ m c l x).1:=Xb h.lr
 have hno:=@IW m c l x
 rw[hI]at hlr hno;simp only at hlr hno
 by_cases he:e'=0
 ·subst he
  have key:qs l'=qs l+x.q∧vs l'=vs l+x.v-up∧1≤x.q∧(m=1∨l'.length≤1):=by
   unfold dZ at hI;split at hI
   ·have hS:AY l x=(l',0):=Prod.ext (congrArg (fun r=>r.1) hI) (congrArg (fun r=>r.2.2) hI)
    have hu:up=0:=(congrArg (fun r=>r.2.1) hI).symm
    obtain⟨-,h1,h2,-,h4⟩:=Sl hS;exact⟨h1,by omega,h4,.inl ‹_›⟩
   ·split at hI
    ·have hS:zZ l x=(l',0):=Prod.ext (congrArg (fun r=>r.1) hI) (congrArg (fun r=>r.2.2) hI)
     have hu:up=0:=(congrArg (fun r=>r.2.1) hI).symm
     obtain⟨h0,h1,h2,h4⟩:=Lq hS;exact⟨h1,by omega,h4,.inr (by omega)⟩
    ·split at hI
     ·have hS:zZ l x=(l',0):=Prod.ext (congrArg (fun r=>r.1) hI) (congrArg (fun r=>r.2.2) hI)
      have hu:up=0:=(congrArg (fun r=>r.2.1) hI).symm
      obtain⟨h0,h1,h2,h4⟩:=Lq hS;exact⟨h1,by omega,h4,.inr (by omega)⟩
     ·split at hI
      ·unfold inC at hI
       split at hI
       ·cases hI
       ·split at hI
        ·cases hI
        ·split at hI
         ·rename_i hz
          have hS:zZ l ⟨x.q,Nn c x.q,x.p⟩=(l',0):=Prod.ext (congrArg (fun r=>r.1) hI) hz
          have hu:up=x.v-Nn c x.q:=(congrArg (fun r=>r.2.1) hI).symm
          obtain⟨h0,h1,h2,h4⟩:=Lq hS;simp only at h1 h2 h4
          exact⟨h1,by omega,h4,.inr (by omega)⟩
         ·rename_i hz
          exact absurd (congrArg (fun r=>r.2.2) hI) hz
      ·cases hI
  obtain⟨k1,k2,k3,k4⟩:=key;have:=h.sum;exact⟨⟨hlr,k4,h.a0,h.b0,h.c0,by omega,h.zero⟩,fun _=>k2,fun hx=>absurd rfl hx⟩
 ·obtain⟨rfl,-⟩:=hno he
  exact⟨h,fun hx=>absurd hx he,fun _=>rfl⟩
theorem uA {l m:List bF} {y:bF} {q:Int} (h:LR l) (hO:dJ l q=(m,y,0)):1≤q∧q≤qs l∧qs m=qs l-q∧y.v+vs m=vs l∧m.length≤l.length∧0≤y.v:=by
 have h1:¬ q<1:=fun h=>by rw[dJ,if_pos h]at hO;cases hO
 have h2:q≤qs l:=by
  rcases(by omega:qs l<q∨q≤qs l)with h'|h'
  ·rw[zN h (by omega) h']at hO;cases hO
  ·exact h'
 have hs:=RH h hO;have hlen:=I3 (l:=l) (q:=q)
 rw[hO]at hlen;have hq:=wN l .zero q h (by omega) h2
 rw[FN h (by omega) h2]at hO
 have hm:m=(iW l .zero q).1:=(congrArg (fun r=>r.1) hO).symm
 rw[←hm]at hq;exact⟨by omega,h2,hq.2.1,by omega,hlen,hs.1⟩
theorem aeK {l m:List bF} {y:bF} {q c:Int} (h:LR l) (hO:AD l q c=(m,y,0)):1≤q∧q≤qs l∧qs m=qs l-q∧y.v+vs m=vs l∧m.length≤l.length:=by
 unfold AD at hO;split at hO
 ·exact absurd (congrArg (fun r=>r.2.2) hO) (by simp)
 ·split at hO
  ·rename_i y0 e0 hS
   have he:e0=0:=congrArg (fun r=>r.2.2) hO
   have hm:[]=m:=congrArg (fun r=>r.1) hO
   have hy:y0=y:=congrArg (fun r=>r.2.1) hO
   subst he hm hy;obtain⟨a,b,c,d,e,-⟩:=uA h hS;exact⟨a,b,c,d,e⟩
  ·rename_i z t y0 e0 hS
   split at hO
   ·rename_i hne
    exact absurd (congrArg (fun r=>r.2.2) hO) hne
   ·rename_i hne
    have he:e0=0:=by simpa using hne
    subst he;obtain⟨a,b,cc,d,e,-⟩:=uA h hS;simp only at hO
    generalize (if ofE c q≠0∨z.v+y0.v<Nn c q then z.v+y0.v else Nn c q)=V at hO
    have hm:(⟨z.q,z.v+(y0.v-V),z.p⟩:bF)::t=m:=congrArg (fun r=>r.1) hO
    have hy:(⟨y0.q,V,y0.p⟩:bF)=y:=congrArg (fun r=>r.2.1) hO
    subst hm hy;rw[fV]at cc;rw[jP]at d;refine⟨a,b,?_,?_,by simpa using e⟩
    ·rw[fV];exact cc
    ·rw[jP];simp only;omega
theorem iU.alV {m c:Int} {l l':List bF} {d d':rM} {y:bF} {wt:Bool} {kind q e':Int} (h:iU m l d) (hm:1≤m∧m≤4) (hk:0≤kind∧kind≤3) (hO:cC m c l d kind q=(l',d',y,wt,e')) :
  iU m l' d'∧y.v+vs l'=vs l:=by
 have hlr:LR (cC m c l d kind q).1:=Ru h.lr
 rw[hO]at hlr;simp only at hlr
 unfold cC at hO;rw[if_neg (by omega),if_neg (by omega)]at hO
 by_cases hw:m=3∧kind≠3
 ·rw[if_pos hw]at hO
  obtain⟨rfl,hk3⟩:=hw;have e1:l=l':=congrArg (fun r=>r.1) hO
  have e2:(pC l d kind q).1=d':=congrArg (fun r=>r.2.1) hO
  have e3:bF.zero=y:=congrArg (fun r=>r.2.2.1) hO
  subst e1 e3;refine⟨?_,by simp[bF.zero]⟩
  unfold pC at e2;split at e2
  ·subst e2;exact h
  ·split at e2
   ·subst e2;exact h
   ·rename_i hb hf
    subst e2;have hfr:vM l d=qs l-d.a-d.b-d.c:=rfl
    rw[hfr]at hf;have hs:=ahe d kind q;have hg:=Xc h.pnd kind;have ha:=h.a0;have hb0:=h.b0;have hc0:=h.c0
    have hbnd:0≤(d.add kind q).a∧0≤(d.add kind q).b∧0≤(d.add kind q).c:=by
     unfold rM.add;split
     ·exact⟨by simp only;omega,hb0,hc0⟩
     ·split
      ·exact⟨ha,by simp only;omega,hc0⟩
      ·exact⟨ha,hb0,by simp only;omega⟩
    have hsum:(d.add kind q).a+(d.add kind q).b+(d.add kind q).c≤qs l:=by omega
    exact⟨h.lr,h.one,hbnd.1,hbnd.2.1,hbnd.2.2,hsum,.inl rfl⟩
 ·rw[if_neg hw]at hO
  have e1:(eY m c l d q).1=l':=congrArg (fun r=>r.1) hO
  have e2:d=d':=congrArg (fun r=>r.2.1) hO
  have e3:(eY m c l d q).2.1=y:=congrArg (fun r=>r.2.2.1) hO
  subst e2;by_cases he:(eY m c l d q).2.2=0
  ·have hM:eY m c l d q=(l',y,0):=Prod.ext e1 (Prod.ext e3 he)
   have key:qs l'=qs l-q∧y.v+vs l'=vs l∧l'.length≤l.length∧d.a+d.b+d.c≤qs l-q:=by
    unfold eY at hM;split at hM
    ·unfold zO at hM
     split at hM
     ·exact absurd (congrArg (fun r=>r.2.2) hM) (by simp)
     ·split at hM
      ·exact absurd (congrArg (fun r=>r.2.2) hM) (by simp)
      ·rename_i hf
       obtain⟨-,-,a,b,cc,-⟩:=uA h.lr hM;have hfr:vM l d=qs l-d.a-d.b-d.c:=rfl
       rw[hfr]at hf;exact⟨a,b,cc,by omega⟩
    ·rename_i h3
     have hz:d.a=0∧d.b=0∧d.c=0:=by
      rcases h.zero with h'|h'
      ·exact absurd h' h3
      ·exact h'
     split at hM
     ·obtain⟨-,k2,a,b,cc⟩:=aeK h.lr hM
      exact⟨a,b,cc,by omega⟩
     ·obtain⟨-,k2,a,b,cc,-⟩:=uA h.lr hM
      exact⟨a,b,cc,by omega⟩
   obtain⟨k1,k2,k3,k4⟩:=key;refine⟨⟨hlr,?_,h.a0,h.b0,h.c0,by omega,h.zero⟩,k2⟩
   rcases h.one with h'|h'
   ·exact .inl h'
   ·exact .inr (by omega)
  ·obtain⟨f1,f2⟩:=XE he
   rw[f1]at e1;rw[f2]at e3;subst e1 e3;exact⟨h,by simp[bF.zero]⟩
theorem RG {l:List bF} (hl:LR l) {q:Int}:0≤(dJ l q).2.1.v∧(dJ l q).2.1.v≤288230376151711744:=by
 by_cases h:(dJ l q).2.2=0
 ·have hv:=hl.v
  have:=uA hl (m:=(dJ l q).1) (y:=(dJ l q).2.1) (by rw[←h])
  have:=(gW (pI (q:=q) hl).ok).2.1
  omega
 ·rw[(xQ h).2];simp[bF.zero]
theorem aeH {l:List bF} (hl:LR l) {q:Int}:(0≤(dJ l q).2.1.q∧(dJ l q).2.1.q≤288230376151711744)∧-576460752303423488≤(dJ l q).2.1.p∧(dJ l q).2.1.p≤576460752303423488:=by
 by_cases h:(dJ l q).2.2=0
 ·have hq:=hl.q
  obtain⟨h1,h2,-⟩:=uA hl (m:=(dJ l q).1) (y:=(dJ l q).2.1) (by rw[←h])
  have hR:=pI (q:=q) hl
  have a1:=Az l;have a2:=hl.p;have a3:=Az (dJ l q).1
  have a4:=hR.p;rw[FN hl h1 h2]at a3 a4 ⊢;have s:=wN l .zero q hl (by omega) h2
  simp only[bF.zero]at s a3 a4 ⊢;omega
 ·rw[(xQ h).2];simp[bF.zero]
theorem Xp {l:List bF} (h:LR l) {q:Int}:((dJ l q).2.2=0∧1≤q∧q≤qs l∧(dJ l q).2.1.q=q∧qs (dJ l q).1=qs l-q∧(dJ l q).2.1.v+vs (dJ l q).1=vs l∧(dJ l q).2.1.p+ps (dJ l q).1=ps l)∨(((dJ l q).2.2=1∧q<1∨(dJ l q).2.2=5∧qs l<q)∧(dJ l q).1=l∧(dJ l q).2.1=.zero):=by
 by_cases h1:q<1
 ·right;unfold dJ;rw[if_pos h1];exact⟨.inl ⟨rfl,h1⟩,rfl,rfl⟩
 by_cases h2:q≤qs l
 ·left
  rw[FN h (by omega) h2]
  have s:=wN l .zero q h (by omega) h2
  simp only[bF.zero]at s ⊢;exact⟨trivial,by omega,h2,by omega,s.2.1,by omega,by omega⟩
 ·right;rw[zN h (by omega) (by omega)];exact⟨.inr ⟨rfl,by omega⟩,rfl,rfl⟩
theorem LR.bds {l:List bF} (h:LR l):jY (qs l)∧jY (vs l)∧jY (ps l):=by
 have h1:=gW h.ok;have h2:=h.q;have h3:=h.v;have h4:=h.p;have h5:=Az l;exact⟨⟨by omega,by omega⟩,⟨by omega,by omega⟩,⟨by omega,by omega⟩⟩
set_option linter.unnecessarySimpa false
def CH (l:List bF) (q:Int) (j:Nat) (b:bF) (mm:List bF):Prop :=
 (b.q<q∧mm=[]∧iW l .zero q=iW (l.drop j) b (q-b.q)∧bY 0 ((l.map (·.q)).take j)=some b.q∧bY 0 ((l.map (·.v)).take j)=some b.v∧bY 0 ((l.map (·.p)).take j)=some b.p) ∨
 (b.q=q∧iW l .zero q=(mm++l.drop j,b))
theorem CH.bd {l:List bF} {q:Int} {j:Nat} {b:bF} {mm:List bF} (h:CH l q j b mm):b.q≤q:=by
 rcases h with h|h
 ·omega
 ·omega
theorem CH.start {l:List bF} {q:Int} (h:1≤q):CH l q 0 .zero []:=by
 refine .inl ⟨by simp[bF.zero];omega,rfl,by simp[bF.zero],rfl,rfl,rfl⟩
def CC (w:World) (a:Option Addr) (v:Value):Prop:=∀ad n c,v=.slice (some ad) n c→some ad=a∨w.heap.size≤ad.block
theorem CC.same (w:World) (a:Option Addr) (n c:Nat):CC w a (.slice a n c):=fun ad n' c' h=>by cases h;exact .inl rfl
theorem CC.own {w w':World} {a:Option Addr} {base:Nat} {e:TypeId} {k:Nat} {v:Value} {n:Nat} {zs:List Int} (h:dK w' base e k v n zs) (hb:w.heap.size≤base):CC w a v:=fun ad n' c hv=>by
 subst hv;exact .inr (Nat.le_trans hb (World.ownsRow.lt h ad.block rfl).1)
theorem M9 (v q n:Int) (w:World) (hv:jY v) (hq:jY q) (hn:jY n):Calls Tryz.prog 149 #[.int .i64 v,.int .i64 q,.int .i64 n] w fun e w'=>e=.returned (.int .i64 (cA v q n))∧w'=w :=
 (Ri v q n w hv hq hn).mono fun _ _ h=>⟨h.1,h.2.symm⟩
theorem Lz {l:List bF} {j:Nat} {x:bF} (hx:l[j]?=some x):l.drop j=x::l.drop (j+1):=by
 have hj:j<l.length:=by
  rcases Nat.lt_or_ge j l.length with h|h
  ·exact h
  ·rw[List.getElem?_eq_none h]at hx;cases hx
 rw[List.drop_eq_getElem_cons hj];rw[List.getElem?_eq_getElem hj]at hx;rw[Option.some.inj hx]
theorem ahE {l mm:List bF} {j:Nat} {x:bF} (hm:eH (flat mm)) (hl:eH (flat l)) (hx:l[j]?=some x):eH (flat mm++[x.q,x.v,x.p]):=by
 intro z hz;rcases List.mem_append.1 hz with h|h
 ·exact hm z h
 ·exact hl z (List.mem_flatMap.2 ⟨x,List.mem_of_getElem? hx,h⟩)
set_option maxHeartbeats 1000000 in
set_option maxRecDepth 20000 in
theorem ad0 (a:Option Addr) (cap:Nat) (l:List bF) (w:World) (h:Row w 3 a l.length cap (flat l)) (hok:gT l=true) (q:Int) (hq:jY q) :
  Calls Tryz.prog 215 #[.slice a l.length cap,.int .i64 q] w fun e w'=>∃v,e=.returned (.tuple #[v,(dJ l q).2.1.val,.int .i64 (dJ l q).2.2])∧Mb w' v (dJ l q).1∧Below w.heap.size w w'∧CC w a v:=by
 have h0:=h;obtain⟨hl,hcap,hmax,hall,hat⟩:=h;obtain⟨hq0,hq1⟩:=hq;unfold maxLen at hmax;go_enter Tryz.func215,Tryz.ntmps215
 try simp only[List.append_eq,List.cons_append,List.nil_append]
 by_cases q1:q<1
 ·go_wp2_with (first|(go_at_call 198;refine(qE a cap l _ (h0.below blw)).mono ?_;rintro e w' ⟨rfl,hw1⟩;obtain⟨⟨r0,r1,r2,z0,z1,z2⟩,hlw,hlw1,hlw2,hlw3⟩:=aj9 hw1))
  have e:dJ l q=(l,.zero,1):=by simp[dJ,q1]
  rw[e];refine bodyPost_ret (v:=.tuple #[.slice a l.length cap,bF.zero.val,.int .i64 1]) (by simp[results,Tryz.results215,go_sem,hlw,hlw1,r0,r1,r2,z0,z1,z2]) rfl ⟨_,rfl,⟨a,cap,rfl,h0.below blw⟩,blw,CC.same _ _ _ _⟩
 by_cases q2:(vV l).q<q
 ·go_wp2_with (first|(go_at_call 198;refine(qE a cap l _ (h0.below blw)).mono ?_;rintro e w' ⟨rfl,hw1⟩;obtain⟨⟨r0,r1,r2,z0,z1,z2⟩,hlw,hlw1,hlw2,hlw3⟩:=aj9 hw1))
  have e:dJ l q=(l,.zero,5):=by simp[dJ,q1,q2]
  rw[e];refine bodyPost_ret (v:=.tuple #[.slice a l.length cap,bF.zero.val,.int .i64 5]) (by simp[results,Tryz.results215,go_sem,hlw,hlw1,r0,r1,r2,z0,z1,z2]) rfl ⟨_,rfl,⟨a,cap,rfl,h0.below blw⟩,blw,CC.same _ _ _ _⟩
 go_wp2_with (first|(go_at_call 198;refine(qE a cap l _ (h0.below blw)).mono ?_;rintro e w1 ⟨rfl,hw1⟩;obtain⟨⟨r0,r1,r2,z0,z1,z2⟩,hlw,hlw1,hlw2,hlw3⟩:=aj9 hw1))
 go_loopw [10,11] (fun m i wr=>∃(j:Nat) (b:bF) (mm:List bF),j≤l.length∧i=.int .i64 j∧dK wr (w1.heap.size+2) 101 3 m mm.length (flat mm)∧eH (flat mm)∧mm.length≤j ∧
  gR wr w.heap.size 0 0 0∧gR wr (w1.heap.size+1) b.q b.v b.p∧w1.heap.size+2≤wr.heap.size∧Below w.heap.size w wr∧0≤b.q∧CH l q j b mm∧(mm=[]→m=.slice none 0 0)) (fun _ i _=>l.length-(intOf i).toNat)
 case atStart=>exact⟨0,.zero,[],by omega,rfl,dK.nil _ _ _ _,(fun z hz=>by simp[flat]at hz),by simp,⟨by go_simp,by go_simp,by go_simp,by go_simp,by go_simp,by go_simp⟩,⟨by go_simp,by go_simp,by go_simp,by simp,by simp,by simp⟩,by simp,blw,by simp[bF.zero],CH.start (by omega),fun _=>rfl⟩
 case round =>
  obtain⟨j,g,mm,hj,rfl,hown,Fq,Fs,⟨r0,r1,r2,z0,z1,z2⟩,⟨y0,y1,y2,x0,x1,x2⟩,hs2,hbel,hg0,hst,hnil⟩:=hrel
  have hsz:=hbel.size;by_cases hlt:j<l.length
  ·obtain⟨b,off,rfl,hb,hc⟩:∃b off,a=some ⟨b,off,none⟩∧b<w.heap.size∧bJ w b off (flat l):=by
    rcases hat with h0|h0
    ·omega
    ·exact h0
   obtain⟨x,hx⟩:∃x,l[j]?=some x:=⟨l[j],by simp[hlt]⟩
   obtain⟨c0,c1,c2⟩:=xV hc hx hb hbel;have hlt':(j:Int)<(l.length:Int):=by omega
   have hj0:(0:Int)≤(j:Int):=by omega
   have hx:=Lib.hid hx;clear hc hat;have n0:=World.new_ne wr _ c0;have n1:=World.new_ne wr _ c1;have n2:=World.new_ne wr _ c2;have n3:=World.new_ne wr _ y0;have hgq:IntKind.i64.wrap (q-g.q)=q-g.q:=IntWalk.i64_in _ (by have:=hst.bd;omega)
   go_wp2_with fail
   go_region_held3 (fun w'=>w'.cell? ⟨b,off+j*3,none⟩=some (.int .i64 x.q)∧w'.cell? ⟨b,off+j*3+1,none⟩=some (.int .i64 x.v)∧w'.cell? ⟨b,off+j*3+2,none⟩=some (.int .i64 x.p)∧w'.cell? ⟨w1.heap.size+1,0,none⟩=some (.int .i64 g.q)) (go_keep) (fail)
   clear n0 n1 n2 n3 hgq c0 c1 c2;have hs0:w.heap.size<wr.heap.size:=by omega
   have hs1:w1.heap.size+1<wr.heap.size:=by omega
   have hs1b:w1.heap.size<wr.heap.size:=by omega
   have hs0b:w.heap.size<wr.heap.size+1:=by omega
   obtain⟨W,hW⟩:∃W,W=(wr.alloc (.cells #[.int .i64 x.q,.int .i64 x.v,.int .i64 x.p] 101)).drew:=⟨_,rfl⟩
   have hWs:W.heap.size=wr.heap.size+1:=by rw[hW];simp
   have c0:W.cell? ⟨wr.heap.size,0,none⟩=some (.int .i64 x.q):=by rw[hW];simp
   have c1:W.cell? ⟨wr.heap.size,1,none⟩=some (.int .i64 x.v):=by rw[hW];simp
   have c2:W.cell? ⟨wr.heap.size,2,none⟩=some (.int .i64 x.p):=by rw[hW];simp
   have hB:Below wr.heap.size wr W:=by rw[hW];exact((Below.refl _ wr).alloc (Nat.le_refl _) _).drew
   replace r0:=(hB.cell hs0).trans r0
   replace r1:=(hB.cell hs0).trans r1
   replace r2:=(hB.cell hs0).trans r2
   replace z0:=(hB.frozen hs0).trans z0
   replace z1:=(hB.frozen hs0).trans z1
   replace z2:=(hB.frozen hs0).trans z2
   replace y0:=(hB.cell hs1).trans y0
   replace y1:=(hB.cell hs1).trans y1
   replace y2:=(hB.cell hs1).trans y2
   replace x0:=(hB.frozen hs1).trans x0
   replace x1:=(hB.frozen hs1).trans x1
   replace x2:=(hB.frozen hs1).trans x2
   have hown:=dK.below hown hB;have hbel:Below w.heap.size w W:=hbel.trans (hB.mono hsz)
   rw[←hW];clear hB hW;rcases hst with⟨a1,rfl,a3,a4,a5,a6⟩|⟨b1,b2⟩
   ·have hz:¬ (q-g.q≤0):=by omega
    obtain rfl:=hnil rfl
    clear hnil;obtain⟨g1,g2,g3,g4,g5,g6,g7,g8,g9,g10,g11,g12⟩:=ai7 hok hx.out a4 a5 a6;obtain⟨k1,k2,k3,k4,k5,k6⟩:=cT.1 (Pz (kO.1 hok).2.1 hx.out)
    have a3:=Lib.hid a3;have a4:=Lib.hid a4;have a5:=Lib.hid a5;have a6:=Lib.hid a6;by_cases hcut:q-g.q<x.q
    ·have cb:=Pe (Pz (kO.1 hok).2.1 hx.out) (q:=q-g.q) (by omega) (by omega)
     have i1:jY x.v:=⟨by omega,by omega⟩
     have i2:jY (q-g.q):=⟨by omega,by omega⟩
     have i3:jY x.q:=⟨by omega,by omega⟩
     have i4:jY x.p:=⟨by omega,by omega⟩
     have a3:=Lib.hid a3;go_wp2_with fail
     obtain⟨V,hV⟩:∃V,V=W.alloc (.cells #[.int .i64 x.q,.int .i64 x.v,.int .i64 x.p] 101):=⟨_,rfl⟩
     have hB:Below W.heap.size W V:=by rw[hV];exact(Below.refl _ W).alloc (Nat.le_refl _) _
     have hVs:V.heap.size=wr.heap.size+2:=by rw[hV];simp[hWs]
     have f0:V.frozen? ⟨wr.heap.size+1,0,none⟩=false:=by rw[hV,←hWs];simp
     have f1:V.frozen? ⟨wr.heap.size+1,1,none⟩=false:=by rw[hV,←hWs];simp
     have f2:V.frozen? ⟨wr.heap.size+1,2,none⟩=false:=by rw[hV,←hWs];simp
     have d0:V.cell? ⟨wr.heap.size+1,0,none⟩=some (.int .i64 x.q):=by rw[hV,←hWs];simp
     have d1:V.cell? ⟨wr.heap.size+1,1,none⟩=some (.int .i64 x.v):=by rw[hV,←hWs];simp
     have d2:V.cell? ⟨wr.heap.size+1,2,none⟩=some (.int .i64 x.p):=by rw[hV,←hWs];simp
     have hlt0:w.heap.size<W.heap.size:=by omega
     have hlt1:w1.heap.size+1<W.heap.size:=by omega
     have hltx:wr.heap.size<W.heap.size:=by omega
     replace c0:=(hB.cell hltx).trans c0
     replace c1:=(hB.cell hltx).trans c1
     replace c2:=(hB.cell hltx).trans c2
     replace r0:=(hB.cell hlt0).trans r0
     replace r1:=(hB.cell hlt0).trans r1
     replace r2:=(hB.cell hlt0).trans r2
     replace z0:=(hB.frozen hlt0).trans z0
     replace z1:=(hB.frozen hlt0).trans z1
     replace z2:=(hB.frozen hlt0).trans z2
     replace y0:=(hB.cell hlt1).trans y0
     replace y1:=(hB.cell hlt1).trans y1
     replace y2:=(hB.cell hlt1).trans y2
     replace x0:=(hB.frozen hlt1).trans x0
     replace x1:=(hB.frozen hlt1).trans x1
     replace x2:=(hB.frozen hlt1).trans x2
     replace hown:=dK.below hown hB
     replace hbel:Below w.heap.size w V:=hbel.trans (hB.mono (by omega))
     rw[←hV];clear hB hV;refine Ia 2 [some 57,some 58,some 59,some 60,some 61,some 62,some 63,some 64,some 65,some 66,some 67,some 68,some 69,some 70,none] [14] [(0,0),(0,0),(0,0),(0,0),(0,0),(0,0),(0,0),(0,0),(0,0),(0,0),(0,0),(0,0),(0,0),(0,0),(0,0)] (pick [fun w'=>w'=V.drew,fun w'=>w'=(((V.drew.setCell ⟨(wr.heap.size+1),0,none⟩ (.int .i64 (q-g.q))).setCell ⟨(wr.heap.size+1),1,none⟩ (.int .i64 (cA x.v (q-g.q) x.q))).setCell ⟨(wr.heap.size+1),2,none⟩ (.int .i64 (cA x.p (q-g.q) x.q)))]) [.int .i64 (q-g.q),.pointer (some ⟨wr.heap.size,1,none⟩),.int .i64 (x.v),.int .i64 (q-g.q),.pointer (some ⟨wr.heap.size,0,none⟩),.int .i64 (x.q),.int .i64 (cA x.v (q-g.q) x.q),.pointer (some ⟨wr.heap.size,2,none⟩),.int .i64 (x.p),.int .i64 (q-g.q),.pointer (some ⟨wr.heap.size,0,none⟩),.int .i64 (x.q),.int .i64 (cA x.p (q-g.q) x.q),.agg #[.int .i64 (q-g.q),.int .i64 (cA x.v (q-g.q) x.q),.int .i64 (cA x.p (q-g.q) x.q)],undef] (by kernel_rfl) (by kernel_rfl) (by kernel_rfl) rfl (by kernel_rfl) (by kernel_rfl) (by kernel_rfl) (by rfl) rfl ?steps ?fin
     case steps =>
      intro ρ hin hout hconst hfun;have r13:ρ (.tmp 13)=.int .i64 (q-g.q):=hout 13 rfl
      have r12:ρ (.tmp 12)=.pointer (some ⟨wr.heap.size,0,none⟩):=hout 12 rfl
      have r58:ρ (.tmp 58)=.pointer (some ⟨wr.heap.size,1,none⟩):=hin 1 58 rfl
      have r61:ρ (.tmp 61)=.pointer (some ⟨wr.heap.size,0,none⟩):=hin 4 61 rfl
      have r59:ρ (.tmp 59)=.int .i64 (x.v):=hin 2 59 rfl
      have r60:ρ (.tmp 60)=.int .i64 (q-g.q):=hin 3 60 rfl
      have r62:ρ (.tmp 62)=.int .i64 (x.q):=hin 5 62 rfl
      have r64:ρ (.tmp 64)=.pointer (some ⟨wr.heap.size,2,none⟩):=hin 7 64 rfl
      have r67:ρ (.tmp 67)=.pointer (some ⟨wr.heap.size,0,none⟩):=hin 10 67 rfl
      have r65:ρ (.tmp 65)=.int .i64 (x.p):=hin 8 65 rfl
      have r66:ρ (.tmp 66)=.int .i64 (q-g.q):=hin 9 66 rfl
      have r68:ρ (.tmp 68)=.int .i64 (x.q):=hin 11 68 rfl
      have r57:ρ (.tmp 57)=.int .i64 (q-g.q):=hin 0 57 rfl
      have r63:ρ (.tmp 63)=.int .i64 (cA x.v (q-g.q) x.q):=hin 6 63 rfl
      have r69:ρ (.tmp 69)=.int .i64 (cA x.p (q-g.q) x.q):=hin 12 69 rfl
      have r14:ρ (.tmp 14)=.pointer (some ⟨(wr.heap.size+1),0,none⟩):=hout 14 rfl
      have r70:ρ (.tmp 70)=.agg #[.int .i64 (q-g.q),.int .i64 (cA x.v (q-g.q) x.q),.int .i64 (cA x.p (q-g.q) x.q)]:=hin 13 70 rfl
      clear hin hout;refine cU.pure (by decide) (fun ww=>Step.value (by simp[execOp,r13])) ?_
      refine cU.pure (by decide) (fun ww=>Step.value (by simp[execOp,go_sem,r12])) ?_
      refine cU.load (by decide) (fun s ww h1 h2 hw=>by rcases(by omega:s=0)with rfl<;>(simp only[pick,List.getD_cons_zero,List.getD_cons_succ]at hw;subst hw;exact Step.value (by simp[execOp,go_sem,r58,c0,c1,c2,d0,d1,d2,f0,f1,f2]))) ?_
      refine cU.pure (by decide) (fun ww=>Step.value (by simp[execOp,r13])) ?_
      refine cU.pure (by decide) (fun ww=>Step.value (by simp[execOp,go_sem,r12])) ?_
      refine cU.load (by decide) (fun s ww h1 h2 hw=>by rcases(by omega:s=0)with rfl<;>(simp only[pick,List.getD_cons_zero,List.getD_cons_succ]at hw;subst hw;exact Step.value (by simp[execOp,go_sem,r61,c0,c1,c2,d0,d1,d2,f0,f1,f2]))) ?_
      refine cU.call (by decide) (fun s ww h1 h2 hw=>by rcases(by omega:s=0)with rfl<;>(simp only[pick,List.getD_cons_zero,List.getD_cons_succ]at hw ⊢;exact CD.call (w1:=ww) (by simp[execOp,go_sem,r59,r60,r62,hfun]) ((M9 x.v (q-g.q) x.q ww i1 i2 i3).mono fun e w3 h3=>⟨h3.1,h3.2.trans hw⟩))) ?_
      refine cU.pure (by decide) (fun ww=>Step.value (by simp[execOp,go_sem,r12])) ?_
      refine cU.load (by decide) (fun s ww h1 h2 hw=>by rcases(by omega:s=0)with rfl<;>(simp only[pick,List.getD_cons_zero,List.getD_cons_succ]at hw;subst hw;exact Step.value (by simp[execOp,go_sem,r64,c0,c1,c2,d0,d1,d2,f0,f1,f2]))) ?_
      refine cU.pure (by decide) (fun ww=>Step.value (by simp[execOp,r13])) ?_
      refine cU.pure (by decide) (fun ww=>Step.value (by simp[execOp,go_sem,r12])) ?_
      refine cU.load (by decide) (fun s ww h1 h2 hw=>by rcases(by omega:s=0)with rfl<;>(simp only[pick,List.getD_cons_zero,List.getD_cons_succ]at hw;subst hw;exact Step.value (by simp[execOp,go_sem,r67,c0,c1,c2,d0,d1,d2,f0,f1,f2]))) ?_
      refine cU.call (by decide) (fun s ww h1 h2 hw=>by rcases(by omega:s=0)with rfl<;>(simp only[pick,List.getD_cons_zero,List.getD_cons_succ]at hw ⊢;exact CD.call (w1:=ww) (by simp[execOp,go_sem,r65,r66,r68,hfun]) ((M9 x.p (q-g.q) x.q ww i4 i2 i3).mono fun e w3 h3=>⟨h3.1,h3.2.trans hw⟩))) ?_
      refine cU.pure (by decide) (fun ww=>Step.value (by simp[execOp,go_sem,r57,r63,r69])) ?_
      refine cU.store (by decide) (fun ww hw=>by simp only[pick,List.getD_cons_zero,List.getD_cons_succ]at hw ⊢;subst hw;exact Step.pred (Step.skip rfl (by simp[execOp,go_sem,r14,r70,c0,c1,c2,d0,d1,d2,f0,f1,f2]<;>rfl)) rfl) ?_
      exact True.intro
     case fin =>
      intro wf hw;simp only[pick,List.getD_cons_zero,List.getD_cons_succ,List.length_cons,List.length_nil]at hw;subst hw;simp only[kQ,Act.put,List.getD_cons_zero,List.getD_cons_succ,List.setIfInBounds_toArray,List.set_cons_succ,List.set_cons_zero,List.length_cons,List.length_nil];change Exit.then _ _ .normal _ (rD V.drew (wr.heap.size+1) 0 (iS x (q-g.q)))
      have hne1:wr.heap.size≠wr.heap.size+1:=by omega
      have hC:=gR.aj5 (gR.drew ⟨y0,y1,y2,x0,x1,x2⟩) (g:=wr.heap.size+1) (off:=0) (by omega) (iS x (q-g.q))
      have hR:=gR.aj5 (gR.drew ⟨r0,r1,r2,z0,z1,z2⟩) (g:=wr.heap.size+1) (off:=0) (by omega) (iS x (q-g.q))
      have hY:=gR.put (gR.drew ⟨d0,d1,d2,f0,f1,f2⟩) (iS x (q-g.q))
      have hX0:=(nI V.drew hne1 0 0 (iS x (q-g.q))).trans c0
      have hX1:=(nI V.drew hne1 0 1 (iS x (q-g.q))).trans c1
      have hX2:=(nI V.drew hne1 0 2 (iS x (q-g.q))).trans c2
      have hbelU:Below w.heap.size w (rD V.drew (wr.heap.size+1) 0 (iS x (q-g.q))):=TS hbel.drew (by omega) _ _
      have hUs:(rD V.drew (wr.heap.size+1) 0 (iS x (q-g.q))).heap.size=wr.heap.size+2:=by rw[ab7];exact hVs
      generalize rD V.drew (wr.heap.size+1) 0 (iS x (q-g.q))=U at *
      clear c0 c1 c2 d0 d1 d2 f0 f1 f2 y0 y1 y2 x0 x1 x2 r0 r1 r2 z0 z1 z2 hown hbel hVs;obtain⟨d0,d1,d2,-,-,-⟩:=id hY;simp only[iS]at d0 d1 d2;obtain⟨y0,y1,y2,x0,x1,x2⟩:=id hC;have cv0:=cb.v0;have cv1:=cb.v1;have cp0:=cb.p0;have cp1:=cb.p1;have cd0:=cb.d0;have cd1:=cb.d1
      go_wp2_with (at_builtin;refine rQ _ rfl _ _ 158 rfl (wr.heap.size+2) 101 3 Lx _ 0 [] rfl (dK.nil _ _ _ _) _ 0 1 [x.q-(q-g.q),x.v-cA x.v (q-g.q) x.q,x.p-cA x.p (q-g.q) x.q] rfl rfl (al1 (by simp[hUs])) (by omega) (by simp[hUs]) ?_)
      intro m' w2 hown' hb1;have hU2:Below U.heap.size U w2:=((Below.refl _ U).alloc (Nat.le_refl _) _).trans (hb1.mono (by omega))
      have hw2s:wr.heap.size+2<w2.heap.size+1:=by have:=hU2.size;omega
      obtain⟨r0,r1,r2,z0,z1,z2⟩:=(gR.next hR (by omega) hU2).1
      obtain⟨d0,d1,d2,-,-,-⟩:=(gR.next hY (by omega) hU2).1
      simp only[iS]at d0 d1 d2;have hC2:=(gR.next hC (by omega) hU2).1
      have hbel2:Below w.heap.size w w2:=ajf hbelU hU2
      have hcq:0≤q-g.q:=by omega
      have hcq2:q-g.q≤x.q:=by omega
      have hxo:=hx.out;have hall':eH (flat [jT x (iS x (q-g.q))]):=abn fun y hy=>by
       rw[List.mem_singleton.1 hy];exact(XW (Pz (kO.1 hok).2.1 hxo) (by omega) hcut).1
      have hst':CH l q (j+1) (fX g (iS x (q-g.q))) [jT x (iS x (q-g.q))]:=by
       have a3:=a3.out.out;rw[Lz hxo,iW,if_neg (by omega),if_pos hcut]at a3
       exact .inr ⟨by simp only[fX,iS];omega,by rw[a3];rfl⟩
      have hst':=Lib.hid hst';have hown3:dK w2 (w1.heap.size+2) 101 3 m' [jT x (iS x (q-g.q))].length (flat [jT x (iS x (q-g.q))]):=dK.mono hown' (by omega)
      have hlt1:w1.heap.size+1<w2.heap.size:=by omega
      clear hown' hb1 hC hR hY hU2 hbelU hUs y0 y1 y2 x0 x1 x2 hX0 hX1 hX2 hxo;obtain⟨y0,y1,y2,x0,x1,x2⟩:=hC2;simp only[iS]at hall' hst' hown3;generalize cA x.v (q-g.q) x.q=pv at *
      generalize cA x.p (q-g.q) x.q=pp at *
      go_wp2_with fail
      case' roundEnd =>
       refine⟨⟨j+1,⟨g.q+(q-g.q),g.v+pv,g.p+pp⟩,[jT x ⟨q-g.q,pv,pp⟩],hlt,by simp,?_,hall',by simp,⟨by go_simp,by go_simp,by go_simp,by go_simp,by go_simp,by go_simp⟩,⟨by go_simp,by go_simp,by go_simp,by go_simp,by go_simp,by go_simp⟩,by simp;omega,blw,by simp only;omega,hst'.out,fun h=>by simp at h⟩,?_⟩
       ·exact((hown3.set (b:=w1.heap.size+1) (by omega) _ _).set (b:=w1.heap.size+1) (by omega) _ _).set (b:=w1.heap.size+1) (by omega) _ _
       ·simp[intOf]
        omega
    ·go_wp2_with fail
     case' roundEnd =>
      have hxo:=hx.out;obtain⟨sq,sv,sp,e1,e2,e3,-⟩:=uS hok;have hst':CH l q (j+1) (fX g x) []:=by
       have a3:=a3.out;rw[Lz hxo,iW,if_neg (by omega),if_neg hcut,show q-g.q-x.q=q-(fX g x).q from by simp[fX];omega]at a3
       rcases Int.lt_or_le (fX g x).q q with h|h
       ·exact .inl ⟨h,rfl,a3,pT e1 hxo a4.out,pT e2 hxo a5.out,pT e3 hxo a6.out⟩
       ·have hqq:(fX g x).q=q:=by simp only[fX]at h ⊢;omega
        rw[Nl (r:=l.drop (j+1)) (a:=fX g x) (q:=q-(fX g x).q) (by omega)]at a3
        exact .inr ⟨hqq,by rw[a3];rfl⟩
      refine⟨⟨j+1,fX g x,[],hlt,by simp,?_,Fq,by simp,⟨by go_simp,by go_simp,by go_simp,by go_simp,by go_simp,by go_simp⟩,⟨by simp only[fX];go_simp,by simp only[fX];go_simp,by simp only[fX];go_simp,by go_simp,by go_simp,by go_simp⟩,by simp;omega,blw,by simp only[fX];omega,hst',fun _=>rfl⟩,?_⟩
      ·exact(((hown.set (by omega) _ _).set (by omega) _ _).set (by omega) _ _).alloc _
      ·simp[intOf]
       omega
   ·have hz:q-g.q≤0:=by omega
    have b2:=Lib.hid b2;go_wp2_with (at_builtin;refine rQ _ rfl _ _ 158 rfl (w1.heap.size+2) 101 3 Lx u10 mm.length (flat mm) rfl (hown.alloc _) _ 0 1 [x.q,x.v,x.p] rfl rfl (al1 (by simp[hWs])) ?c1 ?c2 ?_)
    case c1=>have:=(kO.1 hok).1;omega
    case c2=>simp[hWs];omega
    ·intro m' w2 hown' hb1
     have b2:=b2.out;have hx:=hx.out;have e1:flat mm++[x.q,x.v,x.p]=flat (mm++[x]):=by simp[flat]
     have e2:mm.length+1=(mm++[x]).length:=by simp
     rw[e1,e2]at hown';have hall':eH (flat (mm++[x])):=by rw[←e1];exact ahE Fq hall hx
     have hst':CH l q (j+1) g (mm++[x]):=.inr ⟨b1,by rw[b2,Lz hx];simp⟩
     have hC0:gR w2 w.heap.size 0 0 0:=gR.behind ⟨r0,r1,r2,z0,z1,z2⟩ (by omega) (by omega) hb1
     have hC1:gR w2 (w1.heap.size+1) g.q g.v g.p:=gR.behind ⟨y0,y1,y2,x0,x1,x2⟩ (by omega) (by omega) hb1
     have hsz2:=hb1.size;have hbel':Below w.heap.size w w2:=(hbel.alloc (by omega) _).trans (hb1.mono (by omega))
     simp only[World.size_alloc]at hsz2;clear b2 hx hown hb1 e1 e2 r0 r1 r2 z0 z1 z2 y0 y1 y2 x0 x1 x2 c0 c1 c2 hbel;have hst':=Lib.hid hst';go_wp2
     go_roundw
     case rel=>exact⟨j+1,g,mm++[x],hlt,by go_num,hown',hall',by simp;omega,hC0,hC1,by omega,hbel',hg0,hst'.out,fun h=>by simp at h⟩
     case measure=>simp[intOf];omega
  ·have ej:j=l.length:=by omega
   subst ej;have hge:¬ ((l.length:Int)<(l.length:Int)):=by omega
   have hB:iW l .zero q=(mm,g):=by
    rcases hst with⟨a1,rfl,a3,a4,a5,a6⟩|⟨b1,b2⟩
    ·exfalso
     obtain⟨sq,sv,sp,e1,e2,e3,e4⟩:=uS hok;rw[List.take_of_length_le (by simp),e1]at a4
     rw[e4]at q2;have:=Option.some.inj a4
     simp only at q2
     omega
    ·rw[b2,List.drop_length,List.append_nil]
   obtain⟨m0,mc,rfl,hrow⟩:=hown.row Fq;have hwh:CC w a (.slice m0 mm.length mc):=CC.own hown (by omega)
   have ho:dJ l q=(mm,g,0):=by
    simp only[dJ,if_neg (show ¬ q<1 by omega),if_neg (show ¬ (vV l).q<q by omega),hB]
   clear hst hB hat;have hs0:w.heap.size<wr.heap.size:=by omega
   have hs1:w1.heap.size+1<wr.heap.size:=by omega
   have hne:w.heap.size≠w1.heap.size+1:=by omega
   go_wp2_with fail
   go_region_held3 (fun w'=>w'.cell? ⟨w1.heap.size+1,0,none⟩=some (.int .i64 g.q)∧w'.cell? ⟨w1.heap.size+1,1,none⟩=some (.int .i64 g.v)∧w'.cell? ⟨w1.heap.size+1,2,none⟩=some (.int .i64 g.p)) (go_keep) (fail)
   go_wp2
   have hres:=((((hown.set (b:=w.heap.size) (by omega) 0 (.int .i64 g.q)).set (b:=w.heap.size) (by omega) 1 (.int .i64 g.v)).set (b:=w.heap.size) (by omega) 2 (.int .i64 g.p)).drew).row Fq
   have hbelF:Below w.heap.size w (((wr.setCell ⟨w.heap.size,0,none⟩ (.int .i64 g.q)).setCell ⟨w.heap.size,1,none⟩ (.int .i64 g.v)).setCell ⟨w.heap.size,2,none⟩ (.int .i64 g.p)).drew:=ajg (cH (cH (cH hbel 0 _) 1 _) 2 _)
   exact bodyPost_ret (v:=.tuple #[.slice m0 mm.length mc,g.val,.int .i64 0]) (by simp[results,Tryz.results215,go_sem,hs0,r0,r1,r2,z0,z1,z2]) rfl ⟨_,by rw[ho],by rw[ho];exact hres,hbelF,hwh⟩
end
end Go.Proofs.YtnepgggkgnckcaaGreat
