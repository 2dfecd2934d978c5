/-
 Plain arithmetic of money: sums within the limit, the 128 bits of a product, a product cut by a number. No program in sight.
 math/bits: how many leading zeros a number has. The world is as it was.
 The walks of package money and of its reference: what each function computes. Only Wide makes memory.
 The reference's Wide: the 128 bits of a product, by shifts and masks. The world is as it was.
 A digit of a long division: the estimate is lowered until it is right. Plain arithmetic.
 math/bits.Div64: the quotient and what is left of 128 bits by a number greater than the high half. The world is as it was, but for draws.
 Slices whose elements are k ints each, as they are read: a list of ints. And those that the call itself has made.
 MulDiv and Part, of the program and of the reference: a product, cut by a number.
 Part and Sum, of the program and of the reference.
 Sum, of the program and of the reference.
 Slices of ints (or of structs of ints) that the call itself has made: what one more element does, how they read.
 slices.Clone at lists of layers, of lines, of ints: a row of the call's own that reads as what came in.
 A region that draws its order, by an invariant: each operation leaves a fact on its value; the facts of the others stand. No order is looked at.
 'q, v, p = append(q, x.a), append(v, x.b), append(p, x.c)': one region that draws its order: what each of its operations leaves.
 A region that draws its order, each of whose operations has one value whatever the order, and whose stores come in one order: no order is looked at.
 A region that draws its order, that only reads what lay there before it and calls what makes memory: walked once, in the order of the text.
-/
import Derived.WalkKit
import Derived.Test.YtjccjmmbebiegaaProg
import Derived.Lib.BitFns
import Derived.Lib.ItoaNum
import Derived.Lib.Small
import Derived.Lib.Strings
import Derived.Lib.Slices
import Derived.Lib.Walk
import Derived.WalkSpells
import Derived.WalkLawsBesides
import Derived.Deep.QuietTactic
import Derived.BigQuiet
import Derived.Lib.Hide
import Derived.WalkSmall
import Derived.Lib.SliceRun
import Derived.Orders
import Derived.Deep.AppendLies
import Derived.Below
set_option linter.unusedVariables false
set_option linter.unusedSimpArgs false
set_option linter.unnecessarySimpa false
namespace Go.Proofs.Ytjccjmmbebiegaa
open Go.RowKit
def inB (v:Int):Bool:=decide (-288230376151711744≤v)&&decide (v≤288230376151711744)
theorem inB_iff {v:Int}:inB v=true↔-288230376151711744≤v∧v≤288230376151711744:=by simp[inB]
structure I64 (v:Int):Prop where
 lo:-9223372036854775808≤v
 hi:v≤9223372036854775807
theorem i64_wf {v:Int} (h:(Lit.int .i64 v).wf=true):I64 v:=by
 simp[Lit.wf,IntKind.min,IntKind.max,IntKind.signed,IntKind.bits]at h
 exact⟨by omega,by omega⟩
def addOk (a b:Int):Bool:=inB a&&inB b&&inB (wrap64 (a+b))
theorem addOk_iff {a b:Int}:addOk a b=true↔inB a=true∧inB b=true∧inB (a+b)=true:=by
 simp only[addOk,Bool.and_eq_true,inB_iff]
 unfold wrap64
 omega
def addV (a b:Int):Int:=if addOk a b then a+b else 0
def addE (a b:Int):Int:=if addOk a b then 0 else 2
def sumGo (n:Int):List Int→Option Int
 |[]=>some n
 |z::zs=>if addOk n z then sumGo (n+z) zs else none
def sumV (l:List Int):Int:=(sumGo 0 l).getD 0
def sumE (l:List Int):Int:=if(sumGo 0 l).isSome then 0 else 2
theorem mul_bd {a b n m:Int} (h0:0≤a) (h1:a≤n) (h2:0≤b) (h3:b≤m):0≤a*b∧a*b≤n*m :=
 ⟨Int.mul_nonneg h0 h2,Int.mul_le_mul h1 h3 h2 (by omega)⟩
theorem mul_split (xh xl yh yl:Int):(xh*4294967296+xl)*(yh*4294967296+yl)=xh*yh*18446744073709551616+(xh*yl+xl*yh)*4294967296+xl*yl:=by
 rw[Int.add_mul,Int.mul_add,Int.mul_add]
 have e1:xh*4294967296*(yh*4294967296)=xh*yh*18446744073709551616:=by
  rw[Int.mul_assoc,Int.mul_comm 4294967296 (yh*4294967296),Int.mul_assoc,←Int.mul_assoc xh yh];rfl
 have e2:xh*4294967296*yl=xh*yl*4294967296:=by
  rw[Int.mul_assoc,Int.mul_comm 4294967296 yl,←Int.mul_assoc]
 have e3:xl*(yh*4294967296)=xl*yh*4294967296:=by rw[←Int.mul_assoc]
 rw[e1,e2,e3,Int.add_mul]
 omega
structure Halves (x y l0 l1 l2 l3:Int):Prop where
 e:x*y=l3*18446744073709551616+(l1+l2)*4294967296+l0
 b0:0≤l0∧l0≤18446744065119617025
 b1:0≤l1∧l1≤18446744065119617025
 b2:0≤l2∧l2≤18446744065119617025
 b3:0≤l3∧l3≤18446744065119617025
theorem halves (x y:Int) (hx:0≤x) (hx':x<18446744073709551616) (hy:0≤y) (hy':y<18446744073709551616) :
  Halves x y (x%4294967296*(y%4294967296)) (x/4294967296*(y%4294967296)) (x%4294967296*(y/4294967296)) (x/4294967296*(y/4294967296)):=by
 have b (a c:Int) (h0:0≤a) (h1:a≤4294967295) (h2:0≤c) (h3:c≤4294967295):0≤a*c∧a*c≤18446744065119617025:=mul_bd h0 h1 h2 h3
 refine⟨?_,b _ _ (by omega) (by omega) (by omega) (by omega),b _ _ (by omega) (by omega) (by omega) (by omega),b _ _ (by omega) (by omega) (by omega) (by omega),b _ _ (by omega) (by omega) (by omega) (by omega)⟩
 rw[←mul_split]
 congr 1<;>omega
def u64 (v:Int):Int:=v%18446744073709551616
def wideHi (a b:Int):Int:=u64 a*u64 b/18446744073709551616
def wideLo (a b:Int):Int:=u64 a*u64 b%18446744073709551616
theorem u64_bd (v:Int):0≤u64 v∧u64 v<18446744073709551616:=by unfold u64;omega
theorem u64_same {v:Int} (h:0≤v) (h':v<18446744073709551616):u64 v=v:=by unfold u64;omega
theorem wideHi_bd (a b:Int):0≤wideHi a b∧wideHi a b<18446744073709551616:=by
 have h:=mul_bd (u64_bd a).1 (show u64 a≤18446744073709551615 by have:=(u64_bd a).2;omega) (u64_bd b).1 (show u64 b≤18446744073709551615 by have:=(u64_bd b).2;omega)
 unfold wideHi;omega
theorem wideLo_bd (a b:Int):0≤wideLo a b∧wideLo a b<18446744073709551616:=by unfold wideLo;omega
theorem wide_all (a b:Int):wideHi a b*18446744073709551616+wideLo a b=u64 a*u64 b:=by unfold wideHi wideLo;omega
theorem wide_hi_law {x y l0 l1 l2 l3:Int} (h:Halves x y l0 l1 l2 l3) :
  l3+l1/4294967296+l2/4294967296+(l0/4294967296+l1%4294967296+l2%4294967296)/4294967296=x*y/18446744073709551616:=by
 obtain⟨e,b0,b1,b2,b3⟩:=h
 generalize x*y=t at *
 omega
theorem wide_lo_law {x y l0 l1 l2 l3:Int} (h:Halves x y l0 l1 l2 l3) :
  (l0/4294967296+l1%4294967296+l2%4294967296)*4294967296%18446744073709551616+l0%4294967296=x*y%18446744073709551616:=by
 obtain⟨e,b0,b1,b2,b3⟩:=h
 generalize x*y=t at *
 omega
def mdE (a b c:Int):Int:=if a<0∨b<0∨c<1 then 1 else if a*b/c > 288230376151711744 then 2 else 0
def mdQ (a b c:Int):Int:=if a<0∨b<0∨c<1 then 0 else if a*b/c > 288230376151711744 then 0 else a*b/c
def mdR (a b c:Int):Int:=if a<0∨b<0∨c<1 then 0 else if a*b/c > 288230376151711744 then 0 else a*b%c
def partS (v q n:Int):Int :=
 if n<1∨q<0∨q > n∨inB v=false then 0 else if v<0 then -(-v*q/n)else v*q/n
theorem ret_bool {a b:Bool} (h:a=b):Ending.returned (.bool a)=.returned (.bool b):=by rw[h]
theorem ret_int {k:IntKind} {a b:Int} (h:a=b):Ending.returned (.int k a)=.returned (.int k b):=by rw[h]
theorem ret_ii {k j:IntKind} {a b c d:Int} (h1:a=c) (h2:b=d):Ending.returned (.tuple #[.int k a,.int j b])=.returned (.tuple #[.int k c,.int j d]):=by rw[h1,h2]
theorem ret_iii {k j i:IntKind} {a b c d e f:Int} (h1:a=c) (h2:b=d) (h3:e=f):Ending.returned (.tuple #[.int k a,.int j b,.int i e])=.returned (.tuple #[.int k c,.int j d,.int i f]):=by rw[h1,h2,h3]
end Go.Proofs.Ytjccjmmbebiegaa
namespace Go.Proofs.Ytjccjmmbebiegaa
open Go.RowKit
set_option maxRecDepth 100000 in
theorem len8_size:(255:Int)<(Lib.len8tab.size:Int):=by
 have:Lib.len8tab.size=256:=by decide
 omega
theorem len8_fin:∀n:Fin 256,(Lib.len8tab[n.val]?.map (·.toNat))=some (Lib.bitLen n.val):=by decide +kernel
theorem len8_at (y:Int) (h0:0≤y) (h1:y≤255) (h:y.toNat<Lib.len8tab.size):wrap64 ((Lib.len8tab[y.toNat]'h).toNat:Int)=(Lib.bitLen y.toNat:Int):=by
 have e:=len8_fin ⟨y.toNat,by omega⟩
 have b:Lib.bitLen y.toNat≤8:=Lib.bitLen_le8' y h0 h1
 simp only[getElem?_pos Lib.len8tab y.toNat h,Option.map_some,Option.some.injEq]at e
 rw[e];unfold wrap64;omega
theorem len8_way (x y j:Int) (k:Nat) (hj:j=k) (hk:k≤56) (h0:0≤y) (h1:y≤255) (h:y.toNat<Lib.len8tab.size) (e:Lib.bitLen x.toNat=k+Lib.bitLen y.toNat) :
  wrap64 (j+wrap64 ((Lib.len8tab[y.toNat]'h).toNat:Int))=(Lib.bitLen x.toNat:Int):=by
 have b:Lib.bitLen y.toNat≤8:=Lib.bitLen_le8' y h0 h1
 rw[len8_at y h0 h1 h,e];unfold wrap64;omega
theorem len8_way0 (x:Int) (h0:0≤x) (h1:x≤255) (h:x.toNat<Lib.len8tab.size):wrap64 (wrap64 ((Lib.len8tab[x.toNat]'h).toNat:Int))=(Lib.bitLen x.toNat:Int):=by
 have b:Lib.bitLen x.toNat≤8:=Lib.bitLen_le8' x h0 h1
 rw[len8_at x h0 h1 h];unfold wrap64;omega
theorem shift_56 (x:Int) (h0:72057594037927936≤x) (h1:x≤18446744073709551615):Lib.bitLen x.toNat=56+Lib.bitLen (x/4294967296/65536/256).toNat:=by
 rw[show(x/4294967296/65536/256).toNat=x.toNat/72057594037927936 from by omega]
 exact Lib.bitLen_shift56 x.toNat (by omega) (by omega)
theorem shift_48 (x:Int) (h0:281474976710656≤x) (h1:x≤18446744073709551615):Lib.bitLen x.toNat=48+Lib.bitLen (x/4294967296/65536).toNat:=by
 rw[show(x/4294967296/65536).toNat=x.toNat/281474976710656 from by omega]
 exact Lib.bitLen_shift48 x.toNat (by omega) (by omega)
theorem shift_40 (x:Int) (h0:1099511627776≤x) (h1:x≤18446744073709551615):Lib.bitLen x.toNat=40+Lib.bitLen (x/4294967296/256).toNat:=by
 rw[show(x/4294967296/256).toNat=x.toNat/1099511627776 from by omega]
 exact Lib.bitLen_shift40 x.toNat (by omega) (by omega)
theorem shift_32 (x:Int) (h0:4294967296≤x) (h1:x≤18446744073709551615):Lib.bitLen x.toNat=32+Lib.bitLen (x/4294967296).toNat:=by
 rw[show(x/4294967296).toNat=x.toNat/4294967296 from by omega]
 exact Lib.bitLen_shift32 x.toNat (by omega) (by omega)
theorem shift_24 (x:Int) (h0:16777216≤x) (h1:x≤18446744073709551615):Lib.bitLen x.toNat=24+Lib.bitLen (x/65536/256).toNat:=by
 rw[show(x/65536/256).toNat=x.toNat/16777216 from by omega]
 exact Lib.bitLen_shift24 x.toNat (by omega) (by omega)
theorem shift_16 (x:Int) (h0:65536≤x) (h1:x≤18446744073709551615):Lib.bitLen x.toNat=16+Lib.bitLen (x/65536).toNat:=by
 rw[show(x/65536).toNat=x.toNat/65536 from by omega]
 exact Lib.bitLen_shift16 x.toNat (by omega) (by omega)
theorem shift_8 (x:Int) (h0:256≤x) (h1:x≤18446744073709551615):Lib.bitLen x.toNat=8+Lib.bitLen (x/256).toNat:=by
 rw[show(x/256).toNat=x.toNat/256 from by omega]
 exact Lib.bitLen_shift8 x.toNat (by omega) (by omega)
set_option maxHeartbeats 1000000 in
set_option maxRecDepth 100000 in
theorem bits_Len64 (x:Int) (w:World) (h0:0≤x) (h1:x≤18446744073709551615) :
  Calls Try.prog 77 #[.int .u64 x] w fun e w'=>e=.returned (.int .i64 (Lib.bitLen x.toNat))∧w=w':=by
 have hs:=len8_size
 go_enter Try.func77,Try.ntmps77
 go_wp2
 all_goals (go_ret;refine⟨ret_int ?_,rfl⟩)
 ·exact len8_way x _ _ 56 rfl (by omega) (by omega) (by omega) _ (shift_56 x (by omega) h1)
 ·exact len8_way x _ _ 48 rfl (by omega) (by omega) (by omega) _ (shift_48 x (by omega) h1)
 ·exact len8_way x _ _ 40 rfl (by omega) (by omega) (by omega) _ (shift_40 x (by omega) h1)
 ·exact len8_way x _ _ 32 rfl (by omega) (by omega) (by omega) _ (shift_32 x (by omega) h1)
 ·exact len8_way x _ _ 24 rfl (by omega) (by omega) (by omega) _ (shift_24 x (by omega) h1)
 ·exact len8_way x _ _ 16 rfl (by omega) (by omega) (by omega) _ (shift_16 x (by omega) h1)
 ·exact len8_way x _ _ 8 rfl (by omega) (by omega) (by omega) _ (shift_8 x (by omega) h1)
 ·exact len8_way0 x h0 (by omega) _
def shiftOf (y:Int):Nat:=64-Lib.bitLen y.toNat
theorem shiftOf_law (y:Int) (h0:0<y) (h1:y≤18446744073709551615) :
  shiftOf y≤63∧9223372036854775808≤y*2 ^ shiftOf y∧y*2 ^ shiftOf y<18446744073709551616:=by
 have hb:=Lib.bitLenAux_bounds 64 y.toNat (by omega) (by omega)
 obtain⟨a,b,c⟩:=hb
 change 1≤Lib.bitLen y.toNat at a
 change 2 ^ (Lib.bitLen y.toNat-1)≤y.toNat at b
 change y.toNat<2 ^ Lib.bitLen y.toNat at c
 have d:Lib.bitLen y.toNat≤64:=Lib.bitLen_le y.toNat 64 (by omega) (by omega)
 unfold shiftOf
 generalize Lib.bitLen y.toNat=n at *
 obtain⟨m,rfl⟩:∃m:Nat,y=m:=⟨y.toNat,by omega⟩
 simp only[Int.toNat_natCast]at b c
 have e1:2 ^ (n-1)*2 ^ (64-n)=2 ^ 63:=by rw[←Nat.pow_add];congr 1;omega
 have e2:2 ^ n*2 ^ (64-n)=2 ^ 64:=by rw[←Nat.pow_add];congr 1;omega
 have hp:0<2 ^ (64-n):=Nat.pow_pos (by omega)
 have f1:=Nat.mul_le_mul_right (2 ^ (64-n)) b
 have f2:=Nat.mul_lt_mul_of_pos_right c hp
 rw[e1]at f1
 rw[e2]at f2
 have g:((m:Int)*2 ^ (64-n))=((m*2 ^ (64-n):Nat):Int):=by push_cast;rfl
 rw[g]
 refine⟨by omega,?_,?_⟩
 ·have:(2:Nat) ^ 63=9223372036854775808:=by decide
  omega
 ·have:(2:Nat) ^ 64=18446744073709551616:=by decide
  omega
set_option maxHeartbeats 400000 in
theorem bits_LeadingZeros64 (x:Int) (w:World) (h0:0<x) (h1:x≤18446744073709551615) :
  Calls Try.prog 76 #[.int .u64 x] w fun e w'=>e=.returned (.int .i64 (shiftOf x))∧w=w':=by
 have d:Lib.bitLen x.toNat≤64:=Lib.bitLen_le x.toNat 64 (by omega) (by omega)
 go_enter Try.func76,Try.ntmps76
 go_wp2_with (go_at_call 77;refine(bits_Len64 _ _ (by omega) (by omega)).mono ?_;rintro e w' ⟨rfl,rfl⟩)
 go_ret
 exact⟨ret_int (by unfold shiftOf;omega),rfl⟩
end Go.Proofs.Ytjccjmmbebiegaa
namespace Go.Proofs.Ytjccjmmbebiegaa
open Go.RowKit
set_option maxHeartbeats 400000 in
theorem money_in (v:Int) (w:World) :
  Calls Try.prog 64 #[.int .i64 v] w fun e w'=>e=.returned (.bool (inB v))∧w=w':=by
 go_enter Try.func64,Try.ntmps64
 go_wp2
 all_goals (go_ret;exact⟨ret_bool (by simp[inB];try omega),rfl⟩)
set_option maxHeartbeats 400000 in
theorem ref_In (v:Int) (w:World) :
  Calls Try.prog 56 #[.int .i64 v] w fun e w'=>e=.returned (.bool (inB v))∧w=w':=by
 go_enter Try.func56,Try.ntmps56
 go_wp2
 all_goals (go_ret;exact⟨ret_bool (by simp[inB];try omega),rfl⟩)
theorem tmod_neg (v n:Int) (hn:0<n) (hn':n≤9223372036854775807) (h:v.tmod n<0):wrap64 (v.tmod n+n)=v%n:=by
 have h1:=Int.tmod_def v n
 have h2:-n<v.tmod n:=Int.lt_tmod_of_pos v hn
 have h3:(v.tmod n+n)%n=v%n:=by
  rw[Int.add_emod_right,h1,Int.sub_mul_emod_self_left]
 rw[←h3,Int.emod_eq_of_lt (by omega) (by omega)]
 unfold wrap64;omega
theorem tmod_pos (v n:Int) (hn:0<n) (h:0≤v.tmod n):v.tmod n=v%n:=by
 have h1:=Int.tmod_def v n
 have h2:v.tmod n<n:=Int.tmod_lt_of_pos v hn
 have h3:(v.tmod n)%n=v%n:=by
  rw[h1,Int.sub_mul_emod_self_left]
 rw[←h3,Int.emod_eq_of_lt h (by omega)]
set_option maxHeartbeats 400000 in
theorem Place_calls (v n:Int) (w:World) (hn:0<n) (hn':n≤9223372036854775807) :
  Calls Try.prog 7 #[.int .i64 v,.int .i64 n] w fun e w'=>e=.returned (.int .i64 (v%n))∧w=w':=by
 go_enter Try.func7,Try.ntmps7
 go_wp2
 ·go_ret;exact⟨ret_int (tmod_neg v n hn hn' ‹_›),by first|rfl|trivial⟩
 ·go_ret;exact⟨ret_int (tmod_pos v n hn ‹_›),by first|rfl|trivial⟩
theorem addV_yes {a b:Int} (h1:inB a=true) (h2:inB b=true) (h:(!inB (wrap64 (a+b)))=false):wrap64 (a+b)=addV a b∧(0:Int)=addE a b:=by
 have h':inB (wrap64 (a+b))=true:=by simpa using h
 have:addOk a b=true:=by simp[addOk,h1,h2,h']
 simp only[addV,addE,this,if_true]
 rw[inB_iff]at h1 h2
 refine⟨?_,trivial⟩
 unfold wrap64;omega
theorem addV_no {a b:Int} (h:inB a=false∨inB b=false∨inB (wrap64 (a+b))=false):(0:Int)=addV a b∧(2:Int)=addE a b:=by
 have:addOk a b=false:=by
  rcases h with h|h|h<;>simp[addOk,h]
 simp[addV,addE,this]
set_option maxHeartbeats 400000 in
theorem money_Add (a b:Int) (w:World) :
  Calls Try.prog 50 #[.int .i64 a,.int .i64 b] w fun e w'=>e=.returned (.tuple #[.int .i64 (addV a b),.int .i64 (addE a b)])∧w=w':=by
 go_enter Try.func50,Try.ntmps50
 go_wp2_with (go_at_call 64;refine(money_in _ _).mono ?_;rintro e w' ⟨rfl,rfl⟩)
 ·go_ret2;have h:=@addV_no a b (.inr (.inr (by simpa using ‹(!inB (wrap64 (a+b)))=true›)));exact⟨ret_ii h.1 h.2,by first|rfl|trivial⟩
 ·go_ret2;have h:=addV_yes ‹inB a=true› ‹inB b=true› ‹_›;exact⟨ret_ii h.1 h.2,by first|rfl|trivial⟩
 ·go_ret2;have h:=@addV_no a b (.inr (.inl (by simpa using ‹¬inB b=true›)));exact⟨ret_ii h.1 h.2,by first|rfl|trivial⟩
 ·go_ret2;have h:=@addV_no a b (.inl (by simpa using ‹¬inB a=true›));exact⟨ret_ii h.1 h.2,by first|rfl|trivial⟩
set_option maxHeartbeats 400000 in
theorem ref_Add (a b:Int) (w:World) :
  Calls Try.prog 33 #[.int .i64 a,.int .i64 b] w fun e w'=>e=.returned (.tuple #[.int .i64 (addV a b),.int .i64 (addE a b)])∧w=w':=by
 go_enter Try.func33,Try.ntmps33
 go_wp2_with (go_at_call 56;refine(ref_In _ _).mono ?_;rintro e w' ⟨rfl,rfl⟩)
 ·go_ret2;have h:=@addV_no a b (.inr (.inr (by simpa using ‹(!inB (wrap64 (a+b)))=true›)));exact⟨ret_ii h.1 h.2,by first|rfl|trivial⟩
 ·go_ret2;have h:=addV_yes ‹inB a=true› ‹inB b=true› ‹_›;exact⟨ret_ii h.1 h.2,by first|rfl|trivial⟩
 ·go_ret2;have h:=@addV_no a b (.inr (.inl (by simpa using ‹¬inB b=true›)));exact⟨ret_ii h.1 h.2,by first|rfl|trivial⟩
 ·go_ret2;have h:=@addV_no a b (.inl (by simpa using ‹¬inB a=true›));exact⟨ret_ii h.1 h.2,by first|rfl|trivial⟩
theorem tdiv32 {x:Int} (h:0≤x) (h':x<18446744073709551616):IntKind.u64.wrap (x.tdiv 4294967296)=x/4294967296:=by
 rw[Int.tdiv_eq_ediv_of_nonneg h,IntKind.wrap_u64];omega
theorem tmod32 {x:Int} (h:0≤x):x.tmod 4294967296=x%4294967296:=Int.tmod_eq_emod_of_nonneg h
theorem wrap_small {x:Int} (h:0≤x) (h':x<18446744073709551616):IntKind.u64.wrap x=x:=by rw[IntKind.wrap_u64];omega
set_option maxHeartbeats 400000 in
theorem money_Wide (a b:Int) (w:World) :
  Calls Try.prog 72 #[.int .i64 a,.int .i64 b] w fun e w'=>e=.returned (.tuple #[.int .u64 (wideHi a b),.int .u64 (wideLo a b)])∧Below w.heap.size w w':=by
 go_enter Try.func72,Try.ntmps72
 go_wp2
 go_ret2
 have hx:=u64_bd a
 have hy:=u64_bd b
 have H:=halves (u64 a) (u64 b) hx.1 hx.2 hy.1 hy.2
 have e1:=wide_hi_law H
 refine⟨ret_ii ?_ ?_,(Below.refl _ _).alloc (Nat.le_refl _) _⟩
 ·rw[show IntKind.u64.wrap a=u64 a from IntKind.wrap_u64 a,show IntKind.u64.wrap b=u64 b from IntKind.wrap_u64 b]
  simp only[tdiv32 hx.1 hx.2,tdiv32 hy.1 hy.2,tmod32 hx.1,tmod32 hy.1]
  unfold wideHi
  rw[←e1]
  obtain⟨-,b0,b1,b2,b3⟩:=H
  generalize u64 a%4294967296*(u64 b%4294967296)=l0 at *
  generalize u64 a/4294967296*(u64 b%4294967296)=l1 at *
  generalize u64 a%4294967296*(u64 b/4294967296)=l2 at *
  generalize u64 a/4294967296*(u64 b/4294967296)=l3 at *
  rw[wrap_small b0.1 (by omega),wrap_small b1.1 (by omega),wrap_small b2.1 (by omega),wrap_small b3.1 (by omega)]
  rw[tdiv32 b0.1 (by omega),tdiv32 b1.1 (by omega),tdiv32 b2.1 (by omega),tmod32 b1.1,tmod32 b2.1]
  rw[wrap_small (x:=l0/4294967296+l1%4294967296) (by omega) (by omega),wrap_small (x:=l0/4294967296+l1%4294967296+l2%4294967296) (by omega) (by omega)]
  rw[tdiv32 (x:=l0/4294967296+l1%4294967296+l2%4294967296) (by omega) (by omega)]
  rw[wrap_small (x:=l3+l1/4294967296) (by omega) (by omega)]
  rw[wrap_small (x:=l3+l1/4294967296+l2/4294967296) (by omega) (by omega)]
  rw[wrap_small (by omega) (by omega)]
 ·rw[show IntKind.u64.wrap a=u64 a from IntKind.wrap_u64 a,show IntKind.u64.wrap b=u64 b from IntKind.wrap_u64 b,IntKind.wrap_u64]
  rfl
end Go.Proofs.Ytjccjmmbebiegaa
namespace Go.Proofs.Ytjccjmmbebiegaa
open Go.RowKit
theorem and_mask32 (x:Int) (h:0≤x) (h':x<18446744073709551616):bits BinOp.and IntKind.u64 x 4294967295=x%4294967296:=by
 have e:=bits_and_u64_nat x.toNat 4294967295 (by omega) (by omega)
 rw[show(4294967295:Nat)=2 ^ 32-1 from rfl,Nat.and_two_pow_sub_one_eq_mod]at e
 rw[Int.toNat_of_nonneg h]at e
 refine e.trans ?_
 omega
theorem or_shift32 (x y:Int) (h:0≤x) (h':x<18446744073709551616) (hd:x%4294967296=0) (hy:0≤y) (hy':y<4294967296):bits BinOp.or IntKind.u64 x y=x+y:=by
 have e:=bits_or_u64_nat x.toNat y.toNat (by omega) (by omega)
 rw[Int.toNat_of_nonneg h,Int.toNat_of_nonneg hy]at e
 refine e.trans ?_
 obtain⟨k,hk⟩:∃k:Nat,x.toNat=2 ^ 32*k:=⟨x.toNat/4294967296,by omega⟩
 rw[hk,←Nat.two_pow_add_eq_or_of_lt (by omega)]
 omega
set_option maxHeartbeats 400000 in
theorem ref_Wide (a b:Int) (w:World) :
  Calls Try.prog 74 #[.int .i64 a,.int .i64 b] w fun e w'=>e=.returned (.tuple #[.int .u64 (wideHi a b),.int .u64 (wideLo a b)])∧w=w':=by
 go_enter Try.func74,Try.ntmps74
 go_wp2
 go_ret2
 have hx:=u64_bd a
 have hy:=u64_bd b
 have H:=halves (u64 a) (u64 b) hx.1 hx.2 hy.1 hy.2
 have e1:=wide_hi_law H
 have e2:=wide_lo_law H
 refine⟨ret_ii ?_ ?_,by first|rfl|trivial⟩
 all_goals
  rw[show IntKind.u64.wrap a=u64 a from IntKind.wrap_u64 a,show IntKind.u64.wrap b=u64 b from IntKind.wrap_u64 b]
  rw[and_mask32 (u64 a) hx.1 hx.2,and_mask32 (u64 b) hy.1 hy.2]
  first|unfold wideHi;rw[←e1]|unfold wideLo;rw[←e2]
  clear e1 e2
  obtain⟨-,b0,b1,b2,b3⟩:=H
  generalize u64 a%4294967296*(u64 b%4294967296)=l0 at *
  generalize u64 a/4294967296*(u64 b%4294967296)=l1 at *
  generalize u64 a%4294967296*(u64 b/4294967296)=l2 at *
  generalize u64 a/4294967296*(u64 b/4294967296)=l3 at *
  simp only[wrap_small b0.1 (by omega),wrap_small b1.1 (by omega),wrap_small b2.1 (by omega),wrap_small b3.1 (by omega),and_mask32 l0 b0.1 (by omega),and_mask32 l1 b1.1 (by omega),and_mask32 l2 b2.1 (by omega)]
 ·rw[wrap_small (x:=l0/4294967296+l2%4294967296) (by omega) (by omega),wrap_small (x:=l0/4294967296+l2%4294967296+l1%4294967296) (by omega) (by omega)]
  rw[wrap_small (x:=l3+l2/4294967296) (by omega) (by omega)]
  rw[wrap_small (x:=l3+l2/4294967296+l1/4294967296) (by omega) (by omega)]
  rw[wrap_small (by omega) (by omega)]
  omega
 ·rw[wrap_small (x:=l0/4294967296+l2%4294967296) (by omega) (by omega),wrap_small (x:=l0/4294967296+l2%4294967296+l1%4294967296) (by omega) (by omega)]
  rw[IntKind.wrap_u64,or_shift32 _ _ (by omega) (by omega) (by omega) (by omega) (by omega)]
  omega
end Go.Proofs.Ytjccjmmbebiegaa
namespace Go.Proofs.Ytjccjmmbebiegaa
structure Est (u d Y q r:Int):Prop where
 y:9223372036854775808≤Y∧Y<18446744073709551616
 ub:0≤u∧u<Y
 db:0≤d∧d<4294967296
 e:q*(Y/4294967296)+r=u
 qb:0≤q∧q≤4294967297
 rb:0≤r∧r<4294967296
 big:u*4294967296+d<(q+1)*Y
theorem part_mul (q Y:Int):q*Y=q*(Y/4294967296)*4294967296+q*(Y%4294967296):=by
 have h:Y=Y/4294967296*4294967296+Y%4294967296:=by omega
 have h2:q*Y=q*(Y/4294967296*4294967296+Y%4294967296):=by rw[←h]
 rw[h2,Int.mul_add,←Int.mul_assoc]
theorem est_start {u d Y:Int} (hY:9223372036854775808≤Y∧Y<18446744073709551616) (hu:0≤u∧u<Y) (hd:0≤d∧d<4294967296) :
  Est u d Y (u/(Y/4294967296)) (u-u/(Y/4294967296)*(Y/4294967296)):=by
 have hy1:2147483648≤Y/4294967296∧Y/4294967296≤4294967295:=by omega
 have e:=Int.mul_ediv_add_emod u (Y/4294967296)
 have r0:=Int.emod_nonneg u (show Y/4294967296≠0 by omega)
 have r1:=Int.emod_lt_of_pos u (show 0<Y/4294967296 by omega)
 have q0:0≤u/(Y/4294967296):=Int.ediv_nonneg hu.1 (by omega)
 have q1:u/(Y/4294967296)<4294967298:=by
  apply Int.ediv_lt_of_lt_mul (by omega)
  omega
 rw[Int.mul_comm]at e
 have p:=part_mul (u/(Y/4294967296)+1) Y
 have m:=Int.mul_nonneg (show 0≤u/(Y/4294967296)+1 by omega) (show 0≤Y%4294967296 by omega)
 rw[Int.add_mul,Int.one_mul]at p
 rw[show(u/(Y/4294967296)+1)*(Y/4294967296)=u/(Y/4294967296)*(Y/4294967296)+Y/4294967296 by rw[Int.add_mul,Int.one_mul]]at p
 refine⟨hY,hu,hd,by omega,⟨q0,by omega⟩,by omega,?_⟩
 rw[Int.add_mul,Int.one_mul]
 generalize u/(Y/4294967296)*(Y/4294967296)=a at *
 generalize u/(Y/4294967296)*Y=b at *
 generalize (u/(Y/4294967296)+1)*(Y%4294967296)=c at *
 generalize u%(Y/4294967296)=r at *
 omega
theorem est_stop {u d Y q r:Int} (h:Est u d Y q r) (hq:q*(Y%4294967296)≤4294967296*r+d):q*Y≤u*4294967296+d:=by
 have p:=part_mul q Y
 have e:=h.e
 generalize q*(Y/4294967296)=a at *
 generalize q*Y=b at *
 generalize q*(Y%4294967296)=c at *
 omega
theorem est_low {u d Y q r:Int} (h:Est u d Y q r) (ht:4294967296≤q∨4294967296*r+d<q*(Y%4294967296)) :
  0<q∧q-1≤4294967296∧(q-1)*(Y/4294967296)+(r+Y/4294967296)=u∧u*4294967296+d<q*Y:=by
 obtain⟨hY,hu,hd,e,hq,hr,big⟩:=h
 have p:=part_mul q Y
 have hy1:2147483648≤Y/4294967296∧Y/4294967296≤4294967295:=by omega
 have key:u*4294967296+d<q*Y:=by
  rcases ht with ht|ht
  ·have m:=Int.mul_le_mul_of_nonneg_right ht (show 0≤Y by omega)
   generalize q*Y=b at *
   omega
  ·generalize q*(Y/4294967296)=a at *
   generalize q*Y=b at *
   generalize q*(Y%4294967296)=c at *
   omega
 have q0:0<q:=by
  rcases Int.lt_or_le 0 q with h|h
  ·exact h
  ·exfalso
   obtain rfl:q=0:=by omega
   rw[Int.zero_mul]at key
   omega
 refine⟨q0,by omega,?_,key⟩
 rw[Int.sub_mul,Int.one_mul]
 omega
theorem est_next {u d Y q r:Int} (h:Est u d Y q r) (ht:4294967296≤q∨4294967296*r+d<q*(Y%4294967296)) (hr:r+Y/4294967296<4294967296) :
  Est u d Y (q-1) (r+Y/4294967296):=by
 obtain⟨q0,q1,e,k⟩:=est_low h ht
 have:=h.y
 have:=h.rb
 exact⟨h.y,h.ub,h.db,e,by omega,by omega,by rw[show q-1+1=q by omega];exact k⟩
theorem est_break {u d Y q r:Int} (h:Est u d Y q r) (ht:4294967296≤q∨4294967296*r+d<q*(Y%4294967296)) (hr:4294967296≤r+Y/4294967296) :
  (q-1)*Y≤u*4294967296+d:=by
 obtain⟨q0,q1,e,k⟩:=est_low h ht
 have p:=part_mul (q-1) Y
 have hd:=h.db
 have m:=mul_bd (show 0≤q-1 by omega) q1 (show 0≤Y%4294967296 by omega) (show Y%4294967296≤4294967295 by omega)
 generalize (q-1)*(Y/4294967296)=a at *
 generalize (q-1)*Y=b at *
 generalize (q-1)*(Y%4294967296)=c at *
 omega
structure Digit (u d Y q:Int):Prop where
 le:q*Y≤u*4294967296+d
 lt:u*4294967296+d<q*Y+Y
 b:0≤q∧q<4294967296
theorem digit_stop {u d Y q r:Int} (h:Est u d Y q r) (hb:q<4294967296) (hq:q*(Y%4294967296)≤4294967296*r+d):Digit u d Y q:=by
 have:=h.big
 rw[Int.add_mul,Int.one_mul]at this
 exact⟨est_stop h hq,this,h.qb.1,hb⟩
theorem digit_break {u d Y q r:Int} (h:Est u d Y q r) (ht:4294967296≤q∨4294967296*r+d<q*(Y%4294967296)) (hr:4294967296≤r+Y/4294967296):Digit u d Y (q-1):=by
 have a:=est_break h ht hr
 obtain⟨q0,q1,e,k⟩:=est_low h ht
 have hu:=h.ub;have hd:=h.db;have hY:=h.y
 refine⟨a,by rw[Int.sub_mul,Int.one_mul];omega,by omega,?_⟩
 rcases Int.lt_or_le (q-1) 4294967296 with g|g
 ·exact g
 ·exfalso
  have m:=Int.mul_le_mul_of_nonneg_right g (show 0≤Y by omega)
  omega
theorem left_law {u d Y q:Int} (h:Digit u d Y q) (hY:Y<18446744073709551616) :
  IntKind.u64.wrap (IntKind.u64.wrap (IntKind.u64.wrap (u*4294967296)+d)-IntKind.u64.wrap (q*Y))=u*4294967296+d-q*Y:=by
 obtain⟨a,b,-⟩:=h
 simp only[IntKind.wrap_u64]
 generalize q*Y=t at *
 omega
theorem digit_left {u d Y q:Int} (h:Digit u d Y q) (hY:Y<18446744073709551616) :
  ∃V,IntKind.u64.wrap (IntKind.u64.wrap (IntKind.u64.wrap (u*4294967296)+d)-IntKind.u64.wrap (q*Y))=V∧V=u*4294967296+d-q*Y∧0≤V∧V<Y:=by
 refine⟨_,left_law h hY,rfl,?_,?_⟩
 ·have:=h.le;omega
 ·have:=h.lt;omega
theorem two_digits {u d1 d0 Y q1 q0:Int} (h1:Digit u d1 Y q1) (h0:Digit (u*4294967296+d1-q1*Y) d0 Y q0) (hY:0<Y) :
  (u*18446744073709551616+(d1*4294967296+d0))/Y=q1*4294967296+q0 ∧
  (u*18446744073709551616+(d1*4294967296+d0))%Y=(u*4294967296+d1-q1*Y)*4294967296+d0-q0*Y:=by
 obtain⟨a1,b1,-⟩:=h1
 obtain⟨a0,b0,-⟩:=h0
 have e:u*18446744073709551616+(d1*4294967296+d0)=(u*4294967296+d1-q1*Y)*4294967296+d0-q0*Y+Y*(q1*4294967296+q0):=by
  rw[Int.mul_add,←Int.mul_assoc,Int.mul_comm Y q1,Int.mul_comm Y q0]
  generalize q1*Y=t at *
  generalize q0*Y=s at *
  omega
 rw[e]
 constructor
 ·rw[Int.add_mul_ediv_left _ _ (by omega),Int.ediv_eq_zero_of_lt (by omega) (by omega)];omega
 ·rw[Int.add_mul_emod_self_left,Int.emod_eq_of_lt (by omega) (by omega)]
theorem shifted {H y P:Int} (hP:0<P):H*P/(y*P)=H/y∧H*P%(y*P)=H%y*P:=by
 constructor
 ·exact Int.mul_ediv_mul_of_pos_left H y hP
 ·rw[Int.mul_comm H P,Int.mul_comm y P,Int.mul_emod_mul_of_pos H y hP,Int.mul_comm]
theorem div_end {U L Y q1 q0 V H y P:Int} {s:Nat} (hP:P=2 ^ s) (hY:Y=y*P) (hy:0<y) (hyy:Y<18446744073709551616)
  (hU:U*18446744073709551616+L=H*P) (hq:H/y<18446744073709551616) (d1:Digit U (L/4294967296) Y q1) (hV:V=U*4294967296+L/4294967296-q1*Y) (d0:Digit V (L%4294967296) Y q0) :
  IntKind.u64.wrap (IntKind.u64.wrap (q1*4294967296)+q0)=H/y∧q1*4294967296+q0=H/y ∧
  IntKind.u64.wrap (IntKind.u64.wrap (IntKind.u64.wrap (V*4294967296)+L%4294967296)-IntKind.u64.wrap (q0*Y))/P=H%y:=by
 have hPp:0<P:=by rw[hP];exact Int.pow_pos (by omega)
 have hYp:0<Y:=by rw[hY];exact Int.mul_pos hy hPp
 rw[left_law d0 hyy]
 rw[hV]at d0 ⊢
 have t:=two_digits d1 d0 hYp
 rw[show L/4294967296*4294967296+L%4294967296=L by omega,hU,hY]at t
 have sh:=@shifted H y P hPp
 rw[sh.1,sh.2]at t
 refine⟨?_,t.1.symm,?_⟩
 ·rw[t.1]at hq ⊢
  have:=d1.b
  have:=d0.b
  simp only[IntKind.wrap_u64]
  omega
 ·rw[hY,←t.2]
  exact Int.mul_ediv_cancel _ (by omega)
end Go.Proofs.Ytjccjmmbebiegaa
namespace Go.Proofs.Ytjccjmmbebiegaa
open Go.RowKit
set_option maxHeartbeats 400000 in
theorem Div64_zero (lo y:Int) (w:World) (hl:0≤lo) (hl':lo<18446744073709551616) (hy:0<y) :
  Calls Try.prog 73 #[.int .u64 0,.int .u64 lo,.int .u64 y] w fun e w'=>e=.returned (.tuple #[.int .u64 (lo/y),.int .u64 (lo%y)])∧Below w.heap.size w w':=by
 have hy0:(y==0)=false:=by simp;omega
 go_enter Try.func73,Try.ntmps73
 go_wp2
 go_quiet (fail)
 go_wp2
 go_ret2
 have e0:=Int.ediv_nonneg hl (show 0≤y by omega)
 have e1:=Int.ediv_le_self y hl
 refine⟨ret_ii ?_ ?_,below_drewN (Below.refl _ _) _⟩
 ·rfl
 ·rfl
theorem or_shift (x z:Int) (k:Nat) (hk:k≤63) (h:0≤x) (h':x*2 ^ k<18446744073709551616) (hz:0≤z) (hz':z<18446744073709551616) :
  bits BinOp.or IntKind.u64 (IntKind.u64.wrap (x*2 ^ k)) (z/2 ^ (64-k))=x*2 ^ k+z/2 ^ (64-k):=by
 obtain⟨n,rfl⟩:∃n:Nat,x=n:=⟨x.toNat,by omega⟩
 obtain⟨m,rfl⟩:∃m:Nat,z=m:=⟨z.toNat,by omega⟩
 have c1:((n:Int)*2 ^ k)=((n*2 ^ k:Nat):Int):=by push_cast;rfl
 have c2:((m:Int)/2 ^ (64-k))=((m/2 ^ (64-k):Nat):Int):=by push_cast;rfl
 have hm:m/2 ^ (64-k)<2 ^ k:=by
  apply Nat.div_lt_of_lt_mul
  rw[←Nat.pow_add,show 64-k+k=64 by omega]
  omega
 have hm2:m/2 ^ (64-k)≤m:=Nat.div_le_self _ _
 rw[c1]at h' ⊢
 rw[wrap_small (by omega) h',c2,bits_or_u64_nat _ _ (by omega) (by omega)]
 rw[Nat.mul_comm n,←Nat.two_pow_add_eq_or_of_lt hm]
 push_cast;rfl
theorem shift_parts (hi lo y:Int) (k:Nat) (hk:k≤63) (h:0≤hi) (h':hi<y) (hl:0≤lo) (hl':lo<18446744073709551616) (hY:y*2 ^ k<18446744073709551616) :
  bits BinOp.or IntKind.u64 (IntKind.u64.wrap (hi*2 ^ k)) (lo/2 ^ (64-k))*18446744073709551616+IntKind.u64.wrap (lo*2 ^ k)=(hi*18446744073709551616+lo)*2 ^ k ∧
  0≤bits BinOp.or IntKind.u64 (IntKind.u64.wrap (hi*2 ^ k)) (lo/2 ^ (64-k))∧bits BinOp.or IntKind.u64 (IntKind.u64.wrap (hi*2 ^ k)) (lo/2 ^ (64-k))<y*2 ^ k:=by
 have pp:(0:Int)<2 ^ k:=Int.pow_pos (by omega)
 have hh:hi*2 ^ k<y*2 ^ k:=Int.mul_lt_mul_of_pos_right h' pp
 rw[or_shift hi lo k hk h (by omega) hl hl']
 have qp:(0:Int)<2 ^ (64-k):=Int.pow_pos (by omega)
 have pq:(2:Int) ^ (64-k)*2 ^ k=18446744073709551616:=by
  rw[←Int.pow_add,show 64-k+k=64 by omega];rfl
 have d:=Int.mul_ediv_add_emod lo (2 ^ (64-k))
 have r0:=Int.emod_nonneg lo (show(2:Int) ^ (64-k)≠0 by omega)
 have r1:=Int.emod_lt_of_pos lo qp
 have z0:0≤lo/2 ^ (64-k):=Int.ediv_nonneg hl (by omega)
 have e:lo*2 ^ k=lo/2 ^ (64-k)*18446744073709551616+lo%2 ^ (64-k)*2 ^ k:=by
  conv=>lhs;rw[←d]
  rw[Int.add_mul,Int.mul_comm (2 ^ (64-k)) (lo/2 ^ (64-k)),Int.mul_assoc,pq]
 have b1:lo%2 ^ (64-k)*2 ^ k<18446744073709551616:=by
  rw[←pq];exact Int.mul_lt_mul_of_pos_right r1 pp
 have b0:0≤lo%2 ^ (64-k)*2 ^ k:=Int.mul_nonneg r0 (by omega)
 have w1:IntKind.u64.wrap (lo*2 ^ k)=lo%2 ^ (64-k)*2 ^ k:=by
  rw[IntKind.wrap_u64,e]
  generalize lo%2 ^ (64-k)*2 ^ k=t at *
  generalize lo/2 ^ (64-k)=v at *
  omega
 rw[w1]
 have lt1:lo/2 ^ (64-k)<2 ^ k:=by
  apply Int.ediv_lt_of_lt_mul qp
  rw[Int.mul_comm,pq];exact hl'
 have hn:0≤hi*2 ^ k:=Int.mul_nonneg h (by omega)
 refine⟨?_,by omega,?_⟩
 ·rw[Int.add_mul (hi*18446744073709551616),e]
  rw[show hi*18446744073709551616*2 ^ k=hi*2 ^ k*18446744073709551616 by rw[Int.mul_assoc,Int.mul_comm 18446744073709551616,←Int.mul_assoc]]
  generalize lo%2 ^ (64-k)*2 ^ k=t at *
  generalize lo/2 ^ (64-k)=v at *
  generalize hi*2 ^ k=u at *
  omega
 ·have h1:=Int.mul_le_mul_of_nonneg_right (show hi+1≤y by omega) (show(0:Int)≤2 ^ k by omega)
  rw[Int.add_mul,Int.one_mul]at h1
  omega
theorem start_wrap {U Y:Int} (hY:9223372036854775808≤Y∧Y<18446744073709551616) (h0:0≤U) (h1:U<Y) :
  IntKind.u64.wrap (U-IntKind.u64.wrap (U/(Y/4294967296)*(Y/4294967296)))=U-U/(Y/4294967296)*(Y/4294967296):=by
 have E:=@est_start U 0 Y hY ⟨h0,h1⟩ (by omega)
 have:=E.rb
 have:=E.e
 have m:=Int.mul_nonneg E.qb.1 (show 0≤Y/4294967296 by omega)
 simp only[IntKind.wrap_u64]
 omega
set_option maxHeartbeats 1000000 in
theorem Div64_more (hi lo y:Int) (w:World) (h:0<hi) (h':hi<y) (hl:0≤lo) (hl':lo<18446744073709551616) (hy':y<18446744073709551616) :
  Calls Try.prog 73 #[.int .u64 hi,.int .u64 lo,.int .u64 y] w fun e w'=>e=.returned (.tuple #[.int .u64 ((hi*18446744073709551616+lo)/y),.int .u64 ((hi*18446744073709551616+lo)%y)])∧Below w.heap.size w w':=by
 have hy0:(y==0)=false:=by simp;omega
 have hy:0<y:=by omega
 have hH:(hi*18446744073709551616+lo)/y<18446744073709551616:=by
  apply Int.ediv_lt_of_lt_mul hy
  omega
 obtain⟨s63,y1,y2⟩:=shiftOf_law y (by omega) (by omega)
 have k1:IntKind.u64.wrap ↑(shiftOf y)=((shiftOf y:Nat):Int):=wrap_small (by omega) (by omega)
 have k2:min (IntKind.u64.wrap ↑(shiftOf y)).toNat 64=shiftOf y:=by rw[k1];omega
 have k3:min (IntKind.u64.wrap (64-IntKind.u64.wrap ↑(shiftOf y))).toNat 64=64-shiftOf y:=by
  rw[k1,wrap_small (by omega) (by omega)];omega
 have K1:=Lib.hid k1;have K2:=Lib.hid k2;have K3:=Lib.hid k3;clear k1 k2 k3
 have S:=shift_parts hi lo y (shiftOf y) s63 (by omega) h' hl hl' y2
 have T:=@shifted (hi*18446744073709551616+lo) y (2 ^ shiftOf y) (Int.pow_pos (by omega))
 have HY:IntKind.u64.wrap (y*2 ^ shiftOf y)=y*2 ^ shiftOf y:=wrap_small (by omega) y2
 obtain⟨S1,S2,S3⟩:=S
 have HS1:=Lib.hid S1;have HT:=Lib.hid T;have HY:=Lib.hid HY;clear S1 T
 go_enter Try.func73,Try.ntmps73
 go_wp2_with (go_at_call 76;refine(bits_LeadingZeros64 _ _ (by omega) (by omega)).mono ?_;rintro e w' ⟨rfl,rfl⟩)
 generalize hgu:bits BinOp.or IntKind.u64 (IntKind.u64.wrap (hi*2 ^ shiftOf y)) (lo/2 ^ (64-shiftOf y))=U at *
 generalize hgl:IntKind.u64.wrap (lo*2 ^ shiftOf y)=L at *
 have L0:0≤L∧L<18446744073709551616:=by rw[←hgl,IntKind.wrap_u64];omega
 rw[and_mask32 L L0.1 L0.2]
 have hyy:=y2
 generalize hgy:y*2 ^ shiftOf y=Y at *
 rw[and_mask32 Y (by omega) (by omega)]
 clear hgu hgl
 have Hgy:=Lib.hid hgy;clear hgy
 have Hs:IntKind.u64.wrap ↑(shiftOf y)=((shiftOf y:Nat):Int):=K1.out
 have E:=@est_start U (L/4294967296) Y ⟨y1,y2⟩ ⟨S2,S3⟩ (by omega)
 have e16:=start_wrap ⟨y1,y2⟩ S2 S3
 rw[e16]
 clear Hs e16
 go_loop [15,16] (fun q r=>∃a b:Int,q=.int .u64 a∧r=.int .u64 b∧Est U (L/4294967296) Y a b) (fun q _=>(intOf q).toNat)
 case atStart=>exact⟨_,_,rfl,rfl,E⟩
 case round =>
  obtain⟨q,r,rfl,rfl,E⟩:=hrel
  have E':=E
  obtain⟨-,-,hd,He,hq,hr,Hbig⟩:=E'
  have He:=Lib.hid He
  have hw:q<4294967296→IntKind.u64.wrap (q*(Y%4294967296))=q*(Y%4294967296):=fun g=>by
   have m:=mul_bd hq.1 (show q≤4294967295 by omega) (show 0≤Y%4294967296 by omega) (show Y%4294967296≤4294967295 by omega)
   exact wrap_small m.1 (by omega)
  have hw:=Lib.hid hw
  by_cases t:4294967296≤q∨4294967296*r+L/4294967296<q*(Y%4294967296)
  ·have low:=est_low E t
   obtain⟨q0,q1,-,-⟩:=low
   by_cases c:r+Y/4294967296<4294967296
   ·have N:=est_next E t c
    clear Hbig
    by_cases c2:4294967296≤q
    ·clear t
     go_wp2
     go_round
     case rel=>exact⟨_,_,rfl,rfl,N⟩
     case measure=>simp[intOf];omega
    ·have t2:4294967296*r+L/4294967296<IntKind.u64.wrap (q*(Y%4294967296)):=by rw[hw.out (by omega)];omega
     clear t
     go_wp2
     go_round
     case rel=>exact⟨_,_,rfl,rfl,N⟩
     case measure=>simp[intOf];omega
   ·have D:=digit_break E t (by omega)
    obtain⟨V,hV1,hV2,V0,V1⟩:=digit_left D y2
    have HV2:=Lib.hid hV2
    clear hV2 Hbig
    by_cases c2:4294967296≤q
    ·clear t
     go_wp2
     have e16:IntKind.u64.wrap (V-IntKind.u64.wrap (V/(Y/4294967296)*(Y/4294967296)))=V-V/(Y/4294967296)*(Y/4294967296):=start_wrap ⟨y1,y2⟩ V0 V1
     have E0:=@est_start V (L%4294967296) Y ⟨y1,y2⟩ ⟨V0,V1⟩ (by omega)
     rw[e16]
     clear e16 E hw He hV1
     go_loop [18,16] (fun q r=>∃a b:Int,q=.int .u64 a∧r=.int .u64 b∧Est V (L%4294967296) Y a b) (fun q _=>(intOf q).toNat)
     case atStart=>exact⟨_,_,rfl,rfl,E0⟩
     case round =>
      clear E0
      obtain⟨p,o,rfl,rfl,E⟩:=hrel
      have E':=E
      obtain⟨-,-,gd,Ge,gq,gr,Gbig⟩:=E'
      have Ge:=Lib.hid Ge
      have gw:p<4294967296→IntKind.u64.wrap (p*(Y%4294967296))=p*(Y%4294967296):=fun g=>by
       have m:=mul_bd gq.1 (show p≤4294967295 by omega) (show 0≤Y%4294967296 by omega) (show Y%4294967296≤4294967295 by omega)
       exact wrap_small m.1 (by omega)
      have gw:=Lib.hid gw
      by_cases s:4294967296≤p∨4294967296*o+L%4294967296<p*(Y%4294967296)
      ·have low:=est_low E s
       obtain⟨p0,p1,-,-⟩:=low
       by_cases c:o+Y/4294967296<4294967296
       ·have N:=est_next E s c
        clear Gbig
        by_cases c2:4294967296≤p
        ·clear s
         go_wp2
         go_round
         case rel=>exact⟨_,_,rfl,rfl,N⟩
         case measure=>simp[intOf];omega
        ·have s2:4294967296*o+L%4294967296<IntKind.u64.wrap (p*(Y%4294967296)):=by rw[gw.out (by omega)];omega
         clear s
         go_wp2
         go_round
         case rel=>exact⟨_,_,rfl,rfl,N⟩
         case measure=>simp[intOf];omega
       ·have D0:=digit_break E s (by omega)
        have R:=div_end rfl Hgy.out.symm hy hyy HS1.out hH D HV2.out D0
        clear Gbig
        by_cases c2:4294967296≤p
        ·clear s
         go_wp2
         go_ret2
         exact⟨by first|rfl|trivial,Below.refl _ _⟩
        ·have s2:4294967296*o+L%4294967296<IntKind.u64.wrap (p*(Y%4294967296)):=by rw[gw.out (by omega)];omega
         clear s
         go_wp2
         go_ret2
         exact⟨by first|rfl|trivial,Below.refl _ _⟩
      ·have D0:=digit_stop E (by omega) (by omega)
       have R:=div_end rfl Hgy.out.symm hy hyy HS1.out hH D HV2.out D0
       clear Gbig
       have s2:¬ 4294967296*o+L%4294967296<IntKind.u64.wrap (p*(Y%4294967296)):=by rw[gw.out (by omega)];omega
       have s3:¬ 4294967296≤p:=by omega
       clear s
       go_wp2
       go_ret2
       exact⟨by first|rfl|trivial,Below.refl _ _⟩
    ·have t2:4294967296*r+L/4294967296<IntKind.u64.wrap (q*(Y%4294967296)):=by rw[hw.out (by omega)];omega
     clear t
     go_wp2
     have e16:IntKind.u64.wrap (V-IntKind.u64.wrap (V/(Y/4294967296)*(Y/4294967296)))=V-V/(Y/4294967296)*(Y/4294967296):=start_wrap ⟨y1,y2⟩ V0 V1
     have E0:=@est_start V (L%4294967296) Y ⟨y1,y2⟩ ⟨V0,V1⟩ (by omega)
     rw[e16]
     clear e16 E hw He hV1
     go_loop [18,16] (fun q r=>∃a b:Int,q=.int .u64 a∧r=.int .u64 b∧Est V (L%4294967296) Y a b) (fun q _=>(intOf q).toNat)
     case atStart=>exact⟨_,_,rfl,rfl,E0⟩
     case round =>
      clear E0
      obtain⟨p,o,rfl,rfl,E⟩:=hrel
      have E':=E
      obtain⟨-,-,gd,Ge,gq,gr,Gbig⟩:=E'
      have Ge:=Lib.hid Ge
      have gw:p<4294967296→IntKind.u64.wrap (p*(Y%4294967296))=p*(Y%4294967296):=fun g=>by
       have m:=mul_bd gq.1 (show p≤4294967295 by omega) (show 0≤Y%4294967296 by omega) (show Y%4294967296≤4294967295 by omega)
       exact wrap_small m.1 (by omega)
      have gw:=Lib.hid gw
      by_cases s:4294967296≤p∨4294967296*o+L%4294967296<p*(Y%4294967296)
      ·have low:=est_low E s
       obtain⟨p0,p1,-,-⟩:=low
       by_cases c:o+Y/4294967296<4294967296
       ·have N:=est_next E s c
        clear Gbig
        by_cases c2:4294967296≤p
        ·clear s
         go_wp2
         go_round
         case rel=>exact⟨_,_,rfl,rfl,N⟩
         case measure=>simp[intOf];omega
        ·have s2:4294967296*o+L%4294967296<IntKind.u64.wrap (p*(Y%4294967296)):=by rw[gw.out (by omega)];omega
         clear s
         go_wp2
         go_round
         case rel=>exact⟨_,_,rfl,rfl,N⟩
         case measure=>simp[intOf];omega
       ·have D0:=digit_break E s (by omega)
        have R:=div_end rfl Hgy.out.symm hy hyy HS1.out hH D HV2.out D0
        clear Gbig
        by_cases c2:4294967296≤p
        ·clear s
         go_wp2
         go_ret2
         exact⟨by first|rfl|trivial,Below.refl _ _⟩
        ·have s2:4294967296*o+L%4294967296<IntKind.u64.wrap (p*(Y%4294967296)):=by rw[gw.out (by omega)];omega
         clear s
         go_wp2
         go_ret2
         exact⟨by first|rfl|trivial,Below.refl _ _⟩
      ·have D0:=digit_stop E (by omega) (by omega)
       have R:=div_end rfl Hgy.out.symm hy hyy HS1.out hH D HV2.out D0
       clear Gbig
       have s2:¬ 4294967296*o+L%4294967296<IntKind.u64.wrap (p*(Y%4294967296)):=by rw[gw.out (by omega)];omega
       have s3:¬ 4294967296≤p:=by omega
       clear s
       go_wp2
       go_ret2
       exact⟨by first|rfl|trivial,Below.refl _ _⟩
  ·have D:=digit_stop E (by omega) (by omega)
   obtain⟨V,hV1,hV2,V0,V1⟩:=digit_left D y2
   have HV2:=Lib.hid hV2
   clear hV2 Hbig
   have t2:¬ 4294967296*r+L/4294967296<IntKind.u64.wrap (q*(Y%4294967296)):=by rw[hw.out (by omega)];omega
   have t3:¬ 4294967296≤q:=by omega
   clear t
   go_wp2
   have e16:IntKind.u64.wrap (V-IntKind.u64.wrap (V/(Y/4294967296)*(Y/4294967296)))=V-V/(Y/4294967296)*(Y/4294967296):=start_wrap ⟨y1,y2⟩ V0 V1
   have E0:=@est_start V (L%4294967296) Y ⟨y1,y2⟩ ⟨V0,V1⟩ (by omega)
   rw[e16]
   clear e16 E hw He hV1
   go_loop [18,16] (fun q r=>∃a b:Int,q=.int .u64 a∧r=.int .u64 b∧Est V (L%4294967296) Y a b) (fun q _=>(intOf q).toNat)
   case atStart=>exact⟨_,_,rfl,rfl,E0⟩
   case round =>
    clear E0
    obtain⟨p,o,rfl,rfl,E⟩:=hrel
    have E':=E
    obtain⟨-,-,gd,Ge,gq,gr,Gbig⟩:=E'
    have Ge:=Lib.hid Ge
    have gw:p<4294967296→IntKind.u64.wrap (p*(Y%4294967296))=p*(Y%4294967296):=fun g=>by
     have m:=mul_bd gq.1 (show p≤4294967295 by omega) (show 0≤Y%4294967296 by omega) (show Y%4294967296≤4294967295 by omega)
     exact wrap_small m.1 (by omega)
    have gw:=Lib.hid gw
    by_cases s:4294967296≤p∨4294967296*o+L%4294967296<p*(Y%4294967296)
    ·have low:=est_low E s
     obtain⟨p0,p1,-,-⟩:=low
     by_cases c:o+Y/4294967296<4294967296
     ·have N:=est_next E s c
      clear Gbig
      by_cases c2:4294967296≤p
      ·clear s
       go_wp2
       go_round
       case rel=>exact⟨_,_,rfl,rfl,N⟩
       case measure=>simp[intOf];omega
      ·have s2:4294967296*o+L%4294967296<IntKind.u64.wrap (p*(Y%4294967296)):=by rw[gw.out (by omega)];omega
       clear s
       go_wp2
       go_round
       case rel=>exact⟨_,_,rfl,rfl,N⟩
       case measure=>simp[intOf];omega
     ·have D0:=digit_break E s (by omega)
      have R:=div_end rfl Hgy.out.symm hy hyy HS1.out hH D HV2.out D0
      clear Gbig
      by_cases c2:4294967296≤p
      ·clear s
       go_wp2
       go_ret2
       exact⟨by first|rfl|trivial,Below.refl _ _⟩
      ·have s2:4294967296*o+L%4294967296<IntKind.u64.wrap (p*(Y%4294967296)):=by rw[gw.out (by omega)];omega
       clear s
       go_wp2
       go_ret2
       exact⟨by first|rfl|trivial,Below.refl _ _⟩
    ·have D0:=digit_stop E (by omega) (by omega)
     have R:=div_end rfl Hgy.out.symm hy hyy HS1.out hH D HV2.out D0
     clear Gbig
     have s2:¬ 4294967296*o+L%4294967296<IntKind.u64.wrap (p*(Y%4294967296)):=by rw[gw.out (by omega)];omega
     have s3:¬ 4294967296≤p:=by omega
     clear s
     go_wp2
     go_ret2
     exact⟨by first|rfl|trivial,Below.refl _ _⟩
end Go.Proofs.Ytjccjmmbebiegaa
namespace Go.Proofs.Ytjccjmmbebiegaa
open Go.RowKit
theorem bthen {a b c:World} (h:Below a.heap.size a b) (k:Below b.heap.size b c):Below a.heap.size a c:=h.trans (k.mono h.size)
theorem ballc {a b:World} (h:Below a.heap.size a b) (o:Obj):Below a.heap.size a (b.alloc o):=h.alloc h.size o
theorem bdrew {a b:World} (h:Below a.heap.size a b):Below a.heap.size a b.drew:=h.drew
theorem bdrewN {a b:World} (h:Below a.heap.size a b) (n:Nat):Below a.heap.size a (b.drewN n):=below_drewN h n
def CellsAt (w:World) (b off:Nat) (zs:List Int):Prop:=∀i,i<zs.length→w.cell? ⟨b,off+i,none⟩=some (.int .i64 (zs.getD i 0))
def AllI (zs:List Int):Prop:=∀z,z∈zs→I64 z
structure Row (w:World) (k:Nat) (a:Option Addr) (n cap:Nat) (zs:List Int):Prop where
 len:zs.length=n*k
 le:n≤cap
 max:cap≤maxLen
 all:AllI zs
 at_:n=0∨∃b off,a=some ⟨b,off,none⟩∧b<w.heap.size∧CellsAt w b off zs
theorem CellsAt.below {w w':World} {b off:Nat} {zs:List Int} (h:CellsAt w b off zs) (hb:b<w.heap.size) (g:Below w.heap.size w w'):CellsAt w' b off zs :=
 fun i hi=>by rw[g.cell (p:=⟨b,off+i,none⟩) hb];exact h i hi
theorem Row.below {w w':World} {k:Nat} {a:Option Addr} {n cap:Nat} {zs:List Int} (h:Row w k a n cap zs) (g:Below w.heap.size w w'):Row w' k a n cap zs:=by
 refine⟨h.len,h.le,h.max,h.all,?_⟩
 rcases h.at_ with h0|⟨b,off,e,hb,hc⟩
 ·exact .inl h0
 ·exact .inr ⟨b,off,e,Nat.lt_of_lt_of_le hb g.size,hc.below hb g⟩
theorem AllI.at_ {zs:List Int} (h:AllI zs) (i:Nat):I64 (zs.getD i 0):=by
 rw[List.getD_eq_getElem?_getD]
 cases hi:zs[i]? with
 |none=>exact⟨by simp,by simp⟩
 |some z=>exact h z (List.mem_of_getElem? hi)
theorem Row.nil (w:World) (k:Nat):Row w k none 0 0 []:=⟨by simp,by omega,by omega,fun z hz=>by simp at hz,.inl rfl⟩
theorem CellsAt.new (w:World) (zs:List Int) (t:TypeId):CellsAt (w.alloc (.cells (zs.map (Value.int .i64)).toArray t)) w.heap.size 0 zs:=by
 intro i hi
 rw[Nat.zero_add,World.cell?_alloc_new]
 simp[hi,List.getD_eq_getElem?_getD]
theorem Row.new (w:World) (k n:Nat) (zs:List Int) (t:TypeId) (hl:zs.length=n*k) (hm:n≤4611686018427387904) (ha:AllI zs) :
  Row (w.alloc (.cells (zs.map (Value.int .i64)).toArray t)) k (some ⟨w.heap.size,0,none⟩) n n zs :=
 ⟨hl,Nat.le_refl _,by unfold maxLen;omega,ha,.inr ⟨_,_,rfl,by simp,CellsAt.new w zs t⟩⟩
theorem Row.of_open {w:World} {a:Option Addr} {n cap:Nat} {zs:List Int}
  (h:(a=none∧n=0∧cap=0∧zs=[])∨∃x,a=some x∧n≤cap∧cap≤maxLen∧zs.length=cap∧(∀i,i<zs.length→w.cell? (x.add i)=some (.int .i64 (zs.getD i 0)))∧∀z∈zs,(Lit.int .i64 z).wf=true) :
  Row w 1 a n cap (zs.take n):=by
 rcases h with⟨rfl,rfl,rfl,rfl⟩|⟨x,rfl,hle,hm,hz,hc,hwf⟩
 ·exact Row.nil w 1
 ·refine⟨by simp;omega,hle,hm,fun z hzz=>i64_wf (hwf z (List.mem_of_mem_take hzz)),?_⟩
  by_cases h0:n=0
  ·exact .inl h0
  ·refine .inr ?_
   obtain⟨b,off,spot⟩:=x
   have c0:=hc 0 (by omega)
   have hs:spot=none:=by simpa[Addr.add]using World.cell?_spot c0
   subst hs
   refine⟨b,off,rfl,?_,?_⟩
   ·have:=World.block_lt_of_cell? _ _ c0
    simpa[Addr.add]using this
   ·intro i hi
    simp at hi
    have ci:=hc i (by omega)
    rw[List.getD_eq_getElem?_getD,List.getElem?_take_of_lt (by omega),←List.getD_eq_getElem?_getD]
    by_cases i0:i=0
    ·subst i0;simpa[Addr.add]using ci
    ·simpa[Addr.add,i0]using ci
theorem sumGo_snoc (l:List Int):∀n z,sumGo n (l++[z])=(sumGo n l).bind fun m=>if addOk m z then some (m+z)else none:=by
 induction l with
 |nil=>intro n z;simp[sumGo]
 |cons y l ih =>
  intro n z
  simp only[List.cons_append,sumGo]
  by_cases h:addOk n y=true
  ·simp only[h,if_true];exact ih _ _
  ·simp[h]
theorem take_snoc {l:List Int} {k:Nat} (h:k<l.length):l.take (k+1)=l.take k++[l.getD k 0]:=by
 rw[List.take_succ_eq_append_getElem h,List.getD_eq_getElem?_getD,List.getElem?_eq_getElem h];rfl
theorem sumGo_take {l:List Int} {k:Nat} {n:Int} (h:k<l.length) (e:sumGo 0 (l.take k)=some n):sumGo 0 (l.take (k+1))=if addOk n (l.getD k 0)then some (n+l.getD k 0)else none:=by
 rw[take_snoc h,sumGo_snoc,e];rfl
theorem sumGo_append (l m:List Int):∀n,sumGo n (l++m)=(sumGo n l).bind fun x=>sumGo x m:=by
 induction l with
 |nil=>intro n;rfl
 |cons y l ih =>
  intro n
  simp only[List.cons_append,sumGo]
  by_cases h:addOk n y=true
  ·simp only[h,if_true];exact ih _
  ·simp[h]
theorem sumGo_none {l:List Int} {k:Nat} (e:sumGo 0 (l.take k)=none):sumGo 0 l=none:=by
 conv=>lhs;rw[←List.take_append_drop k l]
 rw[sumGo_append,e];rfl
theorem addOk_bd {a b:Int} (h:addOk a b=true):-288230376151711744≤a+b∧a+b≤288230376151711744:=inB_iff.1 (addOk_iff.1 h).2.2
theorem addV_of {a b:Int} (h:addOk a b=true):addV a b=a+b∧addE a b=0:=by simp[addV,addE,h]
theorem addV_of_not {a b:Int} (h:addOk a b=false):addV a b=0∧addE a b=2:=by simp[addV,addE,h]
end Go.Proofs.Ytjccjmmbebiegaa
namespace Go.Proofs.Ytjccjmmbebiegaa
open Go.RowKit
theorem Div64_any (hi lo y:Int) (w:World) (h:0≤hi) (h':hi<y) (hl:0≤lo) (hl':lo<18446744073709551616) (hy':y<18446744073709551616) :
  Calls Try.prog 73 #[.int .u64 hi,.int .u64 lo,.int .u64 y] w fun e w'=>e=.returned (.tuple #[.int .u64 ((hi*18446744073709551616+lo)/y),.int .u64 ((hi*18446744073709551616+lo)%y)])∧Below w.heap.size w w':=by
 by_cases h0:hi=0
 ·subst h0
  have:=Div64_zero lo y w hl hl' (by omega)
  simpa using this
 ·exact Div64_more hi lo y w (by omega) h' hl hl' hy'
theorem wide_nat {a b:Int} (ha:0≤a) (ha':a≤9223372036854775807) (hb:0≤b) (hb':b≤9223372036854775807):wideHi a b*18446744073709551616+wideLo a b=a*b:=by
 rw[wide_all,u64_same ha (by omega),u64_same hb (by omega)]
theorem md_arg {a b c:Int} (h:a<0∨b<0∨c<1):mdQ a b c=0∧mdR a b c=0∧mdE a b c=1:=by simp[mdQ,mdR,mdE,h]
theorem md_big {a b c:Int} (h:¬ (a<0∨b<0∨c<1)) (g:288230376151711744<a*b/c):mdQ a b c=0∧mdR a b c=0∧mdE a b c=2:=by simp[mdQ,mdR,mdE,h,g]
theorem md_ok {a b c:Int} (h:¬ (a<0∨b<0∨c<1)) (g:¬ 288230376151711744<a*b/c):mdQ a b c=a*b/c∧mdR a b c=a*b%c∧mdE a b c=0:=by simp[mdQ,mdR,mdE,h,g]
theorem md_high {a b c:Int} (hc:0<c) (e:wideHi a b*18446744073709551616+wideLo a b=a*b) (g:c≤wideHi a b):288230376151711744<a*b/c:=by
 have l:=(wideLo_bd a b).1
 have h1:c*18446744073709551616≤a*b:=by omega
 have:=Int.le_ediv_of_mul_le hc (show 18446744073709551616*c≤a*b by omega)
 omega
set_option maxHeartbeats 400000 in
theorem money_MulDiv (a b c:Int) (w:World) (ha:I64 a) (hb:I64 b) (hc:I64 c) :
  Calls Try.prog 65 #[.int .i64 a,.int .i64 b,.int .i64 c] w fun e w'=>e=.returned (.tuple #[.int .i64 (mdQ a b c),.int .i64 (mdR a b c),.int .i64 (mdE a b c)])∧Below w.heap.size w w':=by
 obtain⟨ha,ha'⟩:=ha;obtain⟨hb,hb'⟩:=hb;obtain⟨hc,hc'⟩:=hc
 by_cases hn:a<0∨b<0∨c<1
 ·have m:=md_arg hn
  rw[m.1,m.2.1,m.2.2]
  clear m
  by_cases h1:a<0
  ·clear hn
   go_enter Try.func65,Try.ntmps65
   go_wp2
   go_ret3
   exact⟨rfl,Below.refl _ _⟩
  ·by_cases h2:b<0
   ·clear hn
    go_enter Try.func65,Try.ntmps65
    go_wp2
    go_ret3
    exact⟨rfl,Below.refl _ _⟩
   ·have h3:c<1:=by omega
    clear hn
    go_enter Try.func65,Try.ntmps65
    go_wp2
    go_ret3
    exact⟨rfl,Below.refl _ _⟩
 ·have a0:0≤a:=by omega
  have b0:0≤b:=by omega
  have c0:1≤c:=by omega
  have e:=wide_nat a0 ha' b0 hb'
  have p0:=Int.mul_nonneg a0 b0
  have hb1:=wideHi_bd a b
  have hb2:=wideLo_bd a b
  by_cases g:c≤wideHi a b
  ·have m:=md_big hn (md_high (by omega) e g)
   rw[m.1,m.2.1,m.2.2]
   clear m hn e
   go_enter Try.func65,Try.ntmps65
   go_wp2_with (go_at_call 72;refine(money_Wide _ _ _).mono ?_;rintro e w' ⟨rfl,hw1⟩)
   go_ret3
   exact⟨rfl,by assumption⟩
  ·have q0:=Int.ediv_nonneg p0 (show 0≤c by omega)
   have q1:a*b/c<18446744073709551616:=by
    apply Int.ediv_lt_of_lt_mul (by omega)
    omega
   have r0:=Int.emod_nonneg (a*b) (show c≠0 by omega)
   have r1:=Int.emod_lt_of_pos (a*b) (show 0<c by omega)
   have E:=Lib.hid e
   by_cases g2:288230376151711744<a*b/c
   ·have m:=md_big hn g2
    rw[m.1,m.2.1,m.2.2]
    clear m hn e
    go_enter Try.func65,Try.ntmps65
    go_wp2_with (first|(go_at_call 72;refine(money_Wide _ _ _).mono ?_;rintro e w' ⟨rfl,hw1⟩)|(go_at_call 73;refine(Div64_any _ _ _ _ (by omega) (by omega) (by omega) (by omega) (by omega)).mono ?_;rw[E.out];rintro e w' ⟨rfl,hw2⟩))
    go_ret3
    exact⟨rfl,bthen hw1 hw2⟩
   ·have m:=md_ok hn g2
    rw[m.1,m.2.1,m.2.2]
    clear m hn e
    go_enter Try.func65,Try.ntmps65
    go_wp2_with (first|(go_at_call 72;refine(money_Wide _ _ _).mono ?_;rintro e w' ⟨rfl,hw1⟩)|(go_at_call 73;refine(Div64_any _ _ _ _ (by omega) (by omega) (by omega) (by omega) (by omega)).mono ?_;rw[E.out];rintro e w' ⟨rfl,hw2⟩))
    go_ret3
    exact⟨rfl,bthen hw1 hw2⟩
structure Dv (N c q r:Int):Prop where
 e:q*c+r=N
 r:0≤r∧r<c
 q:0≤q∧q<18446744073709551616
theorem dv_start {a b c:Int} (e:wideHi a b*18446744073709551616+wideLo a b=a*b) (g:wideHi a b<c) (h:0≤wideHi a b∧wideHi a b<18446744073709551616) (l:0≤wideLo a b∧wideLo a b<18446744073709551616) :
  Dv (a*b/2 ^ 64) c 0 (wideHi a b):=by
 have p:(2:Int) ^ 64=18446744073709551616:=rfl
 refine⟨?_,by omega,by omega⟩
 rw[p,←e]
 omega
theorem dv_end {T c q r:Int} (D:Dv (T/2 ^ 0) c q r):T/c=q∧T%c=r:=by
 obtain⟨e,hr,-⟩:=D
 rw[show T/2 ^ 0=T by simp]at e
 rw[←e,Int.mul_comm]
 constructor
 ·rw[Int.mul_add_ediv_left _ _ (by omega),Int.ediv_eq_zero_of_lt hr.1 hr.2];omega
 ·rw[Int.mul_add_emod_self_left,Int.emod_eq_of_lt hr.1 hr.2]
theorem or_one (x:Int) (h:0≤x) (h':x<9223372036854775808) (b:Int) (hb:b=0∨b=1):bits BinOp.or IntKind.u64 (x*2) b=x*2+b:=by
 have e:=bits_or_u64_nat (x*2).toNat b.toNat (by omega) (by omega)
 rw[Int.toNat_of_nonneg (by omega),Int.toNat_of_nonneg (by omega)]at e
 refine e.trans ?_
 rw[show(x*2).toNat=2 ^ 1*x.toNat by omega,←Nat.two_pow_add_eq_or_of_lt (by omega)]
 omega
theorem dv_step {T c q r hi lo:Int} {j:Nat} (D:Dv (T/2 ^ (j+1)) c q r) (e:hi*18446744073709551616+lo=T) (h0:0≤T) (g:hi<c) (hl:0≤lo∧lo<18446744073709551616) (hj:j≤63) (hc:c≤9223372036854775807) :
  (c≤bits BinOp.or IntKind.u64 (r*2) (bits BinOp.and IntKind.u64 (lo/2 ^ j) 1) →
   Dv (T/2 ^ j) c (bits BinOp.or IntKind.u64 (IntKind.u64.wrap (q*2)) 1) (IntKind.u64.wrap (bits BinOp.or IntKind.u64 (r*2) (bits BinOp.and IntKind.u64 (lo/2 ^ j) 1)-c))) ∧
  (bits BinOp.or IntKind.u64 (r*2) (bits BinOp.and IntKind.u64 (lo/2 ^ j) 1)<c →
   Dv (T/2 ^ j) c (IntKind.u64.wrap (q*2)) (bits BinOp.or IntKind.u64 (r*2) (bits BinOp.and IntKind.u64 (lo/2 ^ j) 1))):=by
 obtain⟨D1,D2,D3⟩:=D
 have pj:(0:Int)<2 ^ j:=Int.pow_pos (by omega)
 have pj1:(0:Int)<2 ^ (j+1):=Int.pow_pos (by omega)
 have pq:(2:Int) ^ j*2 ^ (63-j)=9223372036854775808:=by rw[←Int.pow_add,show j+(63-j)=63 by omega];rfl
 have q63:q<9223372036854775808:=by
  rcases Int.lt_or_le q 9223372036854775808 with h|h
  ·exact h
  ·exfalso
   have m:=Int.mul_le_mul_of_nonneg_right h (show 0≤c by omega)
   have n:=Int.mul_ediv_add_emod T (2 ^ (j+1))
   have n0:=Int.emod_nonneg T (show(2:Int) ^ (j+1)≠0 by omega)
   have pm:(2:Int) ^ (j+1)=2 ^ j*2:=by rw[Int.pow_succ]
   have k:=Int.mul_le_mul_of_nonneg_right (show(2:Int)≤2 ^ (j+1)by omega) (show 0≤T/2 ^ (j+1)by omega)
   omega
 have lo0:0≤lo/2 ^ j:=Int.ediv_nonneg hl.1 (by omega)
 have lo1:lo/2 ^ j≤lo:=Int.ediv_le_self _ hl.1
 have bit:bits BinOp.and IntKind.u64 (lo/2 ^ j) 1=lo/2 ^ j%2:=and_one_u64 _ lo0 (by omega)
 have N:T/2 ^ j=2*(T/2 ^ (j+1))+lo/2 ^ j%2:=by
  have a1:T/2 ^ (j+1)=T/2 ^ j/2:=by rw[Int.pow_succ,Int.ediv_ediv_of_nonneg (by omega)]
  have a2:T/2 ^ j%2=lo/2 ^ j%2:=by
   rw[←e,show hi*18446744073709551616+lo=lo+2 ^ j*(2 ^ (63-j)*2*hi)by
    rw[←Int.mul_assoc,←Int.mul_assoc,pq];omega]
   rw[Int.add_mul_ediv_left _ _ (by omega)]
   rw[show(2:Int) ^ (63-j)*2*hi=2*(2 ^ (63-j)*hi)by rw[Int.mul_comm _ 2,Int.mul_assoc]]
   rw[Int.add_mul_emod_self_left]
  rw[a1,←a2]
  omega
 rw[bit,or_one r D2.1 (by omega) _ (by omega),wrap_small (x:=q*2) (by omega) (by omega),or_one q D3.1 q63 1 (.inr rfl),N,←D1]
 have hm1:(q*2+1)*c=q*c*2+c:=by rw[Int.add_mul,Int.one_mul,Int.mul_assoc,Int.mul_comm 2 c,←Int.mul_assoc]
 have hm2:q*2*c=q*c*2:=by rw[Int.mul_assoc,Int.mul_comm 2 c,←Int.mul_assoc]
 constructor
 ·intro h
  rw[wrap_small (by omega) (by omega)]
  refine⟨?_,by omega,by omega⟩
  rw[hm1]
  omega
 ·intro h
  refine⟨?_,by omega,by omega⟩
  rw[hm2]
  omega
set_option maxHeartbeats 400000 in
theorem ref_MulDiv (a b c:Int) (w:World) (ha:I64 a) (hb:I64 b) (hc:I64 c) :
  Calls Try.prog 66 #[.int .i64 a,.int .i64 b,.int .i64 c] w fun e w'=>e=.returned (.tuple #[.int .i64 (mdQ a b c),.int .i64 (mdR a b c),.int .i64 (mdE a b c)])∧w=w':=by
 obtain⟨ha,ha'⟩:=ha;obtain⟨hb,hb'⟩:=hb;obtain⟨hc,hc'⟩:=hc
 by_cases hn:a<0∨b<0∨c<1
 ·have m:=md_arg hn
  rw[m.1,m.2.1,m.2.2]
  clear m
  by_cases h1:a<0
  ·clear hn
   go_enter Try.func66,Try.ntmps66
   go_wp2
   go_ret3
   exact⟨rfl,by first|rfl|trivial⟩
  ·by_cases h2:b<0
   ·clear hn
    go_enter Try.func66,Try.ntmps66
    go_wp2
    go_ret3
    exact⟨rfl,by first|rfl|trivial⟩
   ·have h3:c<1:=by omega
    clear hn
    go_enter Try.func66,Try.ntmps66
    go_wp2
    go_ret3
    exact⟨rfl,by first|rfl|trivial⟩
 ·have a0:0≤a:=by omega
  have b0:0≤b:=by omega
  have c0:1≤c:=by omega
  have e:=wide_nat a0 ha' b0 hb'
  have p0:=Int.mul_nonneg a0 b0
  have hb1:=wideHi_bd a b
  have hb2:=wideLo_bd a b
  by_cases g:c≤wideHi a b
  ·have m:=md_big hn (md_high (by omega) e g)
   rw[m.1,m.2.1,m.2.2]
   clear m hn e
   go_enter Try.func66,Try.ntmps66
   go_wp2_with (go_at_call 74;refine(ref_Wide _ _ _).mono ?_;rintro e w' ⟨rfl,rfl⟩)
   go_ret3
   exact⟨rfl,by first|rfl|trivial⟩
  ·have E:=Lib.hid e
   clear e
   go_enter Try.func66,Try.ntmps66
   go_wp2_with (go_at_call 74;refine(ref_Wide _ _ _).mono ?_;rintro e w' ⟨rfl,rfl⟩)
   go_loop [12,13,14] (fun r q i=>∃(k:Nat) (x y:Int),k≤64∧i=.int .i64 ((k:Int)-1)∧r=.int .u64 x∧q=.int .u64 y∧Dv (a*b/2 ^ k) c y x) (fun _ _ i=>(intOf i+1).toNat)
   case atStart=>exact⟨64,_,_,by omega,rfl,rfl,rfl,dv_start E.out (by omega) hb1 hb2⟩
   case round =>
    obtain⟨k,r,q,hk,rfl,rfl,rfl,D⟩:=hrel
    match k with
    |0 =>
     have X:=dv_end D
     obtain⟨D1,D2,D3⟩:=D
     have D1:=Lib.hid D1
     have X:=Lib.hid X
     go_wp2
     ·go_ret3
      have m:=md_big hn (by rw[X.out.1];assumption)
      exact⟨ret_iii m.1.symm m.2.1.symm m.2.2.symm,by first|rfl|trivial⟩
     ·go_ret3
      have m:=md_ok hn (by rw[X.out.1];omega)
      exact⟨ret_iii (by rw[m.1,X.out.1]) (by rw[m.2.1,X.out.2]) m.2.2.symm,by first|rfl|trivial⟩
    |j+1 =>
     have ej:(((j+1:Nat):Int)-1)=(j:Int):=by omega
     rw[ej]
     clear ej
     have X:=dv_step D E.out p0 g hb2 (by omega) hc'
     have X:=Lib.hid X
     obtain⟨D1,D2,D3⟩:=D
     have D1:=Lib.hid D1
     go_wp2
     ·refine⟨⟨j,_,_,by omega,rfl,rfl,rfl,?_⟩,by simp[intOf];try omega⟩
      exact X.out.1 (by assumption)
     ·refine⟨⟨j,_,_,by omega,rfl,rfl,rfl,?_⟩,by simp[intOf];try omega⟩
      exact X.out.2 (by assumption)
end Go.Proofs.Ytjccjmmbebiegaa
namespace Go.Proofs.Ytjccjmmbebiegaa
open Go.RowKit
theorem part_fits {v q n:Int} (hv:0≤v) (hv':v≤288230376151711744) (hq:0≤q) (hqn:q≤n) (hn:1≤n) :
  mdQ v q n=v*q/n∧0≤v*q/n∧v*q/n≤v:=by
 have h0:=Int.mul_nonneg hv hq
 have h1:v*q/n≤v:=by
  apply Int.ediv_le_of_le_mul (by omega)
  exact Int.mul_le_mul_of_nonneg_left hqn hv
 have h2:=Int.ediv_nonneg h0 (show 0≤n by omega)
 exact⟨(md_ok (by omega) (by omega)).1,h2,h1⟩
theorem part_none {v q n:Int} (h:n<1∨q<0∨q > n∨inB v=false):partS v q n=0:=by simp only[partS,if_pos h]
theorem part_neg {v q n:Int} (h:¬ (n<1∨q<0∨q > n∨inB v=false)) (hv:v<0):partS v q n=-(-v*q/n):=by simp only[partS,if_neg h,if_pos hv]
theorem part_pos {v q n:Int} (h:¬ (n<1∨q<0∨q > n∨inB v=false)) (hv:¬ v<0):partS v q n=v*q/n:=by simp only[partS,if_neg h,if_neg hv]
theorem part_whole {v q n:Int} (h:¬ (n<1∨q<0∨q > n∨inB v=false)) (hq:q=n):partS v q n=v:=by
 subst hq
 have hn:q≠0:=by omega
 by_cases hv:v<0
 ·rw[part_neg h hv,Int.mul_ediv_cancel _ hn];omega
 ·rw[part_pos h hv,Int.mul_ediv_cancel _ hn]
set_option maxHeartbeats 800000 in
theorem money_Part (v q n:Int) (w:World) (hv:I64 v) (hq:I64 q) (hn:I64 n) :
  Calls Try.prog 49 #[.int .i64 v,.int .i64 q,.int .i64 n] w fun e w'=>e=.returned (.int .i64 (partS v q n))∧Below w.heap.size w w':=by
 by_cases h:n<1∨q<0∨q > n∨inB v=false
 ·rw[part_none h]
  by_cases h1:n<1
  ·clear h
   go_enter Try.func49,Try.ntmps49
   go_wp2_with (go_at_call 64;refine(money_in _ _).mono ?_;rintro e w' ⟨rfl,rfl⟩)
   go_ret
   exact⟨rfl,Below.refl _ _⟩
  ·by_cases h2:q<0
   ·clear h
    go_enter Try.func49,Try.ntmps49
    go_wp2_with (go_at_call 64;refine(money_in _ _).mono ?_;rintro e w' ⟨rfl,rfl⟩)
    go_ret
    exact⟨rfl,Below.refl _ _⟩
   ·by_cases h3:n<q
    ·clear h
     go_enter Try.func49,Try.ntmps49
     go_wp2_with (go_at_call 64;refine(money_in _ _).mono ?_;rintro e w' ⟨rfl,rfl⟩)
     go_ret
     exact⟨rfl,Below.refl _ _⟩
    ·have h4:inB v=false:=by rcases h with h|h|h|h<;>first|exact h|omega
     clear h
     go_enter Try.func49,Try.ntmps49
     go_wp2_with (go_at_call 64;refine(money_in _ _).mono ?_;rintro e w' ⟨rfl,rfl⟩)
     go_ret
     exact⟨rfl,Below.refl _ _⟩
 ·have h1:¬ n<1:=by omega
  have h2:¬ q<0:=by omega
  have h3:¬ n<q:=by omega
  have h4:inB v=true:=by cases g:inB v with|true=>rfl|false=>exact absurd (Or.inr (Or.inr (Or.inr g))) h
  have b:=inB_iff.1 h4
  by_cases hqn:q=n
  ·rw[part_whole h hqn]
   have hq1:(q==n)=true:=by simpa using hqn
   clear h
   subst hqn
   go_enter Try.func49,Try.ntmps49
   go_wp2_with (go_at_call 64;refine(money_in _ _).mono ?_;rintro e w' ⟨rfl,rfl⟩)
   go_ret
   exact⟨rfl,Below.refl _ _⟩
  ·have hq1:(q==n)=false:=by simpa using hqn
   by_cases hneg:v<0
   ·rw[part_neg h hneg]
    have P:=part_fits (show 0≤-v by omega) (show -v≤288230376151711744 by omega) (show 0≤q by omega) (show q≤n by omega) (by omega)
    obtain⟨P1,P2,P3⟩:=P
    have P1:=Lib.hid P1
    clear h hqn
    have hv1:=hv.lo;have hv2:=hv.hi
    go_enter Try.func49,Try.ntmps49
    go_wp2_with (first|(go_at_call 64;refine(money_in _ _).mono ?_;rintro e w' ⟨rfl,rfl⟩)|(go_at_call 65;refine(money_MulDiv _ _ _ _ ⟨by omega,by omega⟩ hq hn).mono ?_;rw[P1.out];rintro e w' ⟨rfl,hw⟩))
    go_ret
    exact⟨rfl,hw⟩
   ·rw[part_pos h hneg]
    have P:=part_fits (show 0≤v by omega) b.2 (show 0≤q by omega) (show q≤n by omega) (by omega)
    obtain⟨P1,P2,P3⟩:=P
    have P1:=Lib.hid P1
    clear h hqn
    go_enter Try.func49,Try.ntmps49
    go_wp2_with (first|(go_at_call 64;refine(money_in _ _).mono ?_;rintro e w' ⟨rfl,rfl⟩)|(go_at_call 65;refine(money_MulDiv _ _ _ _ hv hq hn).mono ?_;rw[P1.out];rintro e w' ⟨rfl,hw⟩))
    go_ret
    exact⟨rfl,hw⟩
set_option maxHeartbeats 800000 in
theorem ref_Part (v q n:Int) (w:World) (hv:I64 v) (hq:I64 q) (hn:I64 n) :
  Calls Try.prog 52 #[.int .i64 v,.int .i64 q,.int .i64 n] w fun e w'=>e=.returned (.int .i64 (partS v q n))∧w=w':=by
 by_cases h:n<1∨q<0∨q > n∨inB v=false
 ·rw[part_none h]
  by_cases h1:n<1
  ·clear h
   go_enter Try.func52,Try.ntmps52
   go_wp2_with (go_at_call 56;refine(ref_In _ _).mono ?_;rintro e w' ⟨rfl,rfl⟩)
   go_ret
   exact⟨rfl,by first|rfl|trivial⟩
  ·by_cases h2:q<0
   ·clear h
    go_enter Try.func52,Try.ntmps52
    go_wp2_with (go_at_call 56;refine(ref_In _ _).mono ?_;rintro e w' ⟨rfl,rfl⟩)
    go_ret
    exact⟨rfl,by first|rfl|trivial⟩
   ·by_cases h3:n<q
    ·clear h
     go_enter Try.func52,Try.ntmps52
     go_wp2_with (go_at_call 56;refine(ref_In _ _).mono ?_;rintro e w' ⟨rfl,rfl⟩)
     go_ret
     exact⟨rfl,by first|rfl|trivial⟩
    ·have h4:inB v=false:=by rcases h with h|h|h|h<;>first|exact h|omega
     clear h
     go_enter Try.func52,Try.ntmps52
     go_wp2_with (go_at_call 56;refine(ref_In _ _).mono ?_;rintro e w' ⟨rfl,rfl⟩)
     go_ret
     exact⟨rfl,by first|rfl|trivial⟩
 ·have h1:¬ n<1:=by omega
  have h2:¬ q<0:=by omega
  have h3:¬ n<q:=by omega
  have h4:inB v=true:=by cases g:inB v with|true=>rfl|false=>exact absurd (Or.inr (Or.inr (Or.inr g))) h
  have b:=inB_iff.1 h4
  by_cases hneg:v<0
  ·rw[part_neg h hneg]
   have P:=part_fits (show 0≤-v by omega) (show -v≤288230376151711744 by omega) (show 0≤q by omega) (show q≤n by omega) (by omega)
   obtain⟨P1,P2,P3⟩:=P
   have P1:=Lib.hid P1
   clear h
   have hv1:=hv.lo;have hv2:=hv.hi
   go_enter Try.func52,Try.ntmps52
   go_wp2_with (first|(go_at_call 56;refine(ref_In _ _).mono ?_;rintro e w' ⟨rfl,rfl⟩)|(go_at_call 66;refine(ref_MulDiv _ _ _ _ ⟨by omega,by omega⟩ hq hn).mono ?_;rw[P1.out];rintro e w' ⟨rfl,rfl⟩))
   go_ret
   exact⟨rfl,by first|rfl|trivial⟩
  ·rw[part_pos h hneg]
   have P:=part_fits (show 0≤v by omega) b.2 (show 0≤q by omega) (show q≤n by omega) (by omega)
   obtain⟨P1,P2,P3⟩:=P
   have P1:=Lib.hid P1
   clear h
   go_enter Try.func52,Try.ntmps52
   go_wp2_with (first|(go_at_call 56;refine(ref_In _ _).mono ?_;rintro e w' ⟨rfl,rfl⟩)|(go_at_call 66;refine(ref_MulDiv _ _ _ _ hv hq hn).mono ?_;rw[P1.out];rintro e w' ⟨rfl,rfl⟩))
   go_ret
   exact⟨rfl,by first|rfl|trivial⟩
end Go.Proofs.Ytjccjmmbebiegaa
namespace Go.Proofs.Ytjccjmmbebiegaa
open Go.RowKit
theorem sum_stop {zs:List Int} {k:Nat} {m:Int} (h:k<zs.length) (H:sumGo 0 (zs.take k)=some m) (e:addOk m (zs.getD k 0)=false):sumV zs=0∧sumE zs=2:=by
 have t:=sumGo_take h H
 rw[e]at t
 have:=sumGo_none t
 simp[sumV,sumE,this]
theorem sum_done {zs:List Int} {m:Int} (H:sumGo 0 (zs.take zs.length)=some m):sumV zs=m∧sumE zs=0:=by
 rw[List.take_length]at H
 simp[sumV,sumE,H]
set_option maxHeartbeats 800000 in
theorem money_Sum (a:Option Addr) (n cap:Nat) (zs:List Int) (w:World) (h:Row w 1 a n cap zs) :
  Calls Try.prog 68 #[.slice a n cap] w fun e w'=>e=.returned (.tuple #[.int .i64 (sumV zs),.int .i64 (sumE zs)])∧w=w':=by
 obtain⟨hl,hcap,hmax,hall,hat⟩:=h
 unfold maxLen at hmax
 have hl:zs.length=n:=by omega
 obtain rfl:zs.length=n:=hl
 clear hl
 go_enter Try.func68,Try.ntmps68
 go_wp2
 go_loop [4,10] (fun s i=>∃(k:Nat) (m:Int),k≤zs.length∧i=.int .i64 k∧s=.int .i64 m∧Hid (sumGo 0 (zs.take k)=some m)) (fun _ i=>zs.length-(intOf i).toNat)
 case atStart=>exact⟨0,0,by omega,rfl,rfl,rfl⟩
 case round =>
  obtain⟨k,m,hk,rfl,rfl,H⟩:=hrel
  by_cases hlt:k<zs.length
  ·obtain⟨b,off,rfl,hb,hc⟩:∃b off,a=some ⟨b,off,none⟩∧b<w.heap.size∧CellsAt w b off zs:=by
    rcases hat with h0|h0
    ·omega
    ·exact h0
   have hcell:=hc k hlt
   have hz:=hall.at_ k
   have hlt':(k:Int)<(zs.length:Int):=by omega
   clear hc hat
   generalize hgz:zs.getD k 0=z at *
   have Hgz:=Lib.hid hgz
   clear hgz
   by_cases hok:addOk m z=true
   ·have hv:=addV_of hok
    have hbd:=addOk_bd hok
    have hv:=Lib.hid hv
    go_wp2_with (go_at_call 50;refine(money_Add _ _ _).mono ?_;rw[hv.out.1,hv.out.2];rintro e w' ⟨rfl,rfl⟩)
    go_round
    case rel =>
     refine⟨k+1,_,by omega,by go_num,rfl,?_⟩
     have t:=sumGo_take hlt H.out
     rw[Hgz.out,hok]at t
     exact t
    case measure=>simp[intOf];omega
   ·have hok:addOk m z=false:=by simpa using hok
    have hv:=addV_of_not hok
    have hv:=Lib.hid hv
    have S:=sum_stop hlt H.out (by rw[Hgz.out];exact hok)
    go_wp2_with (go_at_call 50;refine(money_Add _ _ _).mono ?_;rw[hv.out.1,hv.out.2];rintro e w' ⟨rfl,rfl⟩)
    go_ret2
    first|exact⟨ret_ii S.1.symm S.2.symm,by first|rfl|trivial⟩|exact⟨rfl,by first|rfl|trivial⟩
  ·obtain rfl:k=zs.length:=by omega
   have S:=sum_done H.out
   have hlt':¬ (zs.length:Int)<(zs.length:Int):=by omega
   go_wp2
   go_ret2
   first|exact⟨ret_ii S.1.symm S.2.symm,by first|rfl|trivial⟩|exact⟨rfl,by first|rfl|trivial⟩
end Go.Proofs.Ytjccjmmbebiegaa
set_option linter.unusedVariables false
namespace Go.Proofs.Ytjccjmmbebiegaa
open Go.RowKit
def ints (zs:List Int):List Value:=zs.map (Value.int .i64)
theorem ints_append (l m:List Int):ints (l++m)=ints l++ints m:=List.map_append
theorem ints_length (l:List Int):(ints l).length=l.length:=List.length_map ..
theorem ints_get (l:List Int) (i:Nat):(ints l)[i]?=(l[i]?).map (Value.int .i64):=List.getElem?_map ..
structure Elem (P:Program) (t e:TypeId) (size:Nat):Prop where
 slice:P.underlying t=some (.slice e)
 info:∃(i:TypeInfo) (z:Value),P.info? e=some i∧i.zero=some z∧i.size=size∧i.bytes=size*8∧z.cells.size=size
 pos:0<size
def OwnI (w:World) (base:Nat) (e:TypeId) (k:Nat) (v:Value) (n:Nat) (zs:List Int):Prop:=w.ownsRow base e k v n (ints zs)
theorem OwnI.nil (w:World) (base:Nat) (e:TypeId) (k:Nat):OwnI w base e k (.slice none 0 0) 0 []:=World.ownsRow_nil _ _ _ _
theorem OwnI.alloc {w:World} {base:Nat} {e:TypeId} {k:Nat} {v:Value} {n:Nat} {zs:List Int} (h:OwnI w base e k v n zs) (o:Obj):OwnI (w.alloc o) base e k v n zs:=World.ownsRow.alloc h o
theorem OwnI.drew {w:World} {base:Nat} {e:TypeId} {k:Nat} {v:Value} {n:Nat} {zs:List Int} (h:OwnI w base e k v n zs):OwnI w.drew base e k v n zs:=h
theorem OwnI.below {w w':World} {base:Nat} {e:TypeId} {k:Nat} {v:Value} {n:Nat} {zs:List Int} (h:OwnI w base e k v n zs) (g:Below w.heap.size w w'):OwnI w' base e k v n zs:=by
 obtain⟨h1,h2⟩:=h
 refine⟨h1,?_⟩
 rcases h2 with h2|⟨b,cap,cur,hv,hb,hh,r⟩
 ·exact .inl h2
 ·refine .inr ⟨b,cap,cur,hv,hb,?_,r⟩
  have:b<w.heap.size:=by
   rcases Nat.lt_or_ge b w.heap.size with h|h
   ·exact h
   ·rw[Array.getElem?_eq_none h]at hh;cases hh
  rw[g.block b this];exact hh
theorem OwnI.len {w:World} {base:Nat} {e:TypeId} {k:Nat} {v:Value} {n:Nat} {zs:List Int} (h:OwnI w base e k v n zs):zs.length=n*k:=by
 have:=h.1;rwa[ints_length]at this
theorem OwnI.row {w:World} {base:Nat} {e:TypeId} {k:Nat} {v:Value} {n:Nat} {zs:List Int} (h:OwnI w base e k v n zs) (ha:AllI zs) :
  ∃a cap,v=.slice a n cap∧Row w k a n cap zs:=by
 have hl:=h.len
 obtain⟨h1,h2⟩:=h
 rcases h2 with⟨rfl,rfl⟩|⟨b,cap,cur,rfl,hb,hh,hn,hc,hs,ht⟩
 ·exact⟨_,_,rfl,hl,Nat.le_refl _,by omega,ha,.inl rfl⟩
 ·refine⟨_,_,rfl,hl,hn,hc,ha,.inr ⟨b,0,rfl,?_,?_⟩⟩
  ·rcases Nat.lt_or_ge b w.heap.size with h|h
   ·exact h
   ·rw[Array.getElem?_eq_none h]at hh;cases hh
  ·intro i hi
   have c:=World.ownsRow.cellAt (w:=w) (base:=base) (e:=e) (size:=k) (g:=b) (n:=n) (cap:=cap) (xs:=ints zs) ⟨h1,.inr ⟨b,cap,cur,rfl,hb,hh,hn,hc,hs,ht⟩⟩ i (by omega)
   rw[Nat.zero_add,c,ints_get,List.getElem?_eq_getElem hi,List.getD_eq_getElem?_getD,List.getElem?_eq_getElem hi]
   rfl
theorem Row.cells {w:World} {k:Nat} {ad:Addr} {n cap:Nat} {zs:List Int} (h:Row w k (some ad) n cap zs):∀j u,(ints zs)[j]?=some u→w.cell? (ad.add j)=some u:=by
 intro j u hj
 rw[ints_get]at hj
 have hlt:j<zs.length:=by
  rcases Nat.lt_or_ge j zs.length with h|h
  ·exact h
  ·rw[List.getElem?_eq_none h]at hj;cases hj
 rcases h.at_ with h0|⟨b,off,e,hb,hc⟩
 ·have:=h.len
  rw[h0]at this
  omega
 ·cases e
  have:=hc j hlt
  rw[List.getElem?_eq_getElem hlt]at hj
  rw[List.getD_eq_getElem?_getD,List.getElem?_eq_getElem hlt]at this
  simp only[Option.map_some,Option.some.injEq]at hj
  subst hj
  by_cases h0:j=0
  ·subst h0;simpa[Addr.add]using this
  ·simpa[Addr.add,h0]using this
theorem OwnI.empty (w:World) (base:Nat) (e:TypeId) (k:Nat) (h:base≤w.heap.size):OwnI (w.alloc (.cells #[] e)) base e k (.slice (some ⟨w.heap.size,0,none⟩) 0 0) 0 [] :=
 World.ownsRow_lit w #[] 0 h (by unfold maxLen;omega) (by simp)
section
variable {P:Program}
theorem wpList_push (w:World) {ops:Array Oper} {rest:List Oper} {o:Oper} {a:Act} {Q:Exit→Act→World→Prop} (hgd:o.guard=none) (s x:Operand) (t:TypeId)
  (ho:o.op=.call { callee:=.builtin .append,args:=#[s,x],argTypes:=#[t,t] })
  (base:Nat) (e:TypeId) (size:Nat) (E:Elem P t e size)
  (v:Value) (n:Nat) (zs:List Int) (hs:a.eval s=v) (hown:OwnI w base e size v n zs)
  (b off c:Nat) (ns:List Int) (hx:a.eval x=.slice (some ⟨b,off,none⟩) 1 c) (hl:ns.length=size) (hc:CellsAt w b off ns)
  (hn:(n+1)*(size*8)≤140737488355328) (hbase:base≤w.heap.size)
  (h:∀v' w',OwnI w' base e size v' (n+1) (zs++ns)→Below base w w'→wpList P ops Q rest (a.put o.dst v') w'):wpList P ops Q (o::rest) a w:=by
 obtain⟨ht,⟨i,z,hi,hz,hsize,hby,hzs⟩,hp⟩:=E
 have h8:n+1≤(n+1)*(size*8):=Nat.le_mul_of_pos_right _ (by omega)
 refine wpList_append_own w hgd s x t ho base e i z size (size*8) ht hi hz hsize hby hzs hp v n (ints zs) hs hown ⟨b,off,none⟩ 1 c (ints ns) hx (by rw[ints_length];omega) ?_ ?_ (by unfold maxLen;omega) hn hbase ?_
 ·intro j u hj
  rw[ints_get]at hj
  have hlt:j<ns.length:=by
   rcases Nat.lt_or_ge j ns.length with h|h
   ·exact h
   ·rw[List.getElem?_eq_none h]at hj;cases hj
  have:=hc j hlt
  rw[List.getElem?_eq_getElem hlt]at hj
  rw[List.getD_eq_getElem?_getD,List.getElem?_eq_getElem hlt]at this
  simp only[Option.map_some,Option.some.injEq]at hj
  subst hj
  by_cases h0:j=0
  ·subst h0;simpa[Addr.add]using this
  ·simpa[Addr.add,h0]using this
 ·intro u hu
  simp only[ints,List.mem_map]at hu
  obtain⟨y,-,rfl⟩:=hu
  rfl
 ·intro v' w' hown' hg _
  refine h v' w' ?_ ?_
  ·rw[OwnI,ints_append];exact hown'
  ·have hlt:=World.ownsRow.lt hown
   exact(Below.refl base w).grown hg hbase fun k hk=>(hlt k hk).1
theorem wpList_pushN (w:World) {ops:Array Oper} {rest:List Oper} {o:Oper} {a:Act} {Q:Exit→Act→World→Prop} (hgd:o.guard=none) (s x:Operand) (t:TypeId)
  (ho:o.op=.call { callee:=.builtin .append,args:=#[s,x],argTypes:=#[t,t] })
  (base:Nat) (e:TypeId) (size:Nat) (E:Elem P t e size)
  (v:Value) (n:Nat) (zs:List Int) (hs:a.eval s=v) (hown:OwnI w base e size v n zs)
  (ad:Addr) (m c:Nat) (ns:List Int) (hx:a.eval x=.slice (some ad) m c) (hrow:Row w size (some ad) m c ns)
  (hn:(n+m)*(size*8)≤140737488355328) (hbase:base≤w.heap.size)
  (h:∀v' w',OwnI w' base e size v' (n+m) (zs++ns)→Below base w w'→wpList P ops Q rest (a.put o.dst v') w'):wpList P ops Q (o::rest) a w:=by
 obtain⟨ht,⟨i,z,hi,hz,hsize,hby,hzs⟩,hp⟩:=E
 have h8:n+m≤(n+m)*(size*8):=Nat.le_mul_of_pos_right _ (by omega)
 refine wpList_append_own w hgd s x t ho base e i z size (size*8) ht hi hz hsize hby hzs hp v n (ints zs) hs hown ad m c (ints ns) hx (by rw[ints_length];exact hrow.len) hrow.cells ?_ (by unfold maxLen;omega) hn hbase ?_
 ·intro u hu
  simp only[ints,List.mem_map]at hu
  obtain⟨y,-,rfl⟩:=hu
  rfl
 ·intro v' w' hown' hg _
  refine h v' w' ?_ ?_
  ·rw[OwnI,ints_append];exact hown'
  ·have hlt:=World.ownsRow.lt hown
   exact(Below.refl base w).grown hg hbase fun k hk=>(hlt k hk).1
end
end Go.Proofs.Ytjccjmmbebiegaa
set_option linter.unusedVariables false
namespace Go.Proofs.Ytjccjmmbebiegaa
open Go.RowKit
theorem elem_Layer:Elem Try.prog 23 32 3:=by
 refine⟨by kernel_rfl,?_,by decide⟩
 obtain⟨i,h1,h2,h3,h4⟩:=info_parts (P:=Try.prog) (e:=32) (z:=.agg #[.int .i64 0,.int .i64 0,.int .i64 0]) (size:=3) (bytes:=24) (by kernel_rfl)
 exact⟨i,_,h1,h2,h3,h4,rfl⟩
set_option maxHeartbeats 400000 in
theorem Clone_Layer (a:Option Addr) (n cap:Nat) (zs:List Int) (w:World) (h:Row w 3 a n cap zs) (hn:n*24≤140737488355328) :
  Calls Try.prog 58 #[.slice a n cap] w fun e w'=>(∃v,e=.returned v∧OwnI w' w.heap.size 32 3 v n zs)∧Below w.heap.size w w':=by
 have hnil:=fun(wx:World) (a:Option Addr) (n c:Nat)=>Lib.run_eql_slice_nil (P:=Try.prog) wx 23 32 a n c 0 0 (by kernel_rfl)
 cases a with
 |none =>
  have hz:n=0:=by
   rcases h.at_ with h0|⟨b,off,e,-⟩
   ·exact h0
   ·cases e
  subst hz
  have hzs:zs=[]:=List.eq_nil_of_length_eq_zero (by have:=h.len;omega)
  subst hzs
  go_enter Try.func58,Try.ntmps58
  go_wp2
  go_ret
  exact⟨⟨_,rfl,OwnI.nil _ _ _ _⟩,Below.refl _ _⟩
 |some ad =>
  go_enter Try.func58,Try.ntmps58
  go_wp2_with (at_builtin;refine wpList_pushN _ rfl _ _ 23 rfl w.heap.size 32 3 elem_Layer _ 0 [] rfl (OwnI.empty _ _ _ _ (Nat.le_refl _)) ad n cap zs rfl (h.below ((Below.refl _ _).alloc (Nat.le_refl _) _)) (by omega) (by simp) ?_)
  intro v' w1 hown hb
  have hb1:=((Below.refl w.heap.size w).alloc (Nat.le_refl _) _).trans hb
  clear hb hnil
  go_wp2
  go_ret
  exact⟨⟨_,rfl,by simpa using hown⟩,hb1⟩
theorem elem_Int:Elem Try.prog 22 3 1:=by
 refine⟨by kernel_rfl,?_,by decide⟩
 obtain⟨i,h1,h2,h3,h4⟩:=info_parts (P:=Try.prog) (e:=3) (z:=.int .i64 0) (size:=1) (bytes:=8) (by kernel_rfl)
 exact⟨i,_,h1,h2,h3,h4,rfl⟩
end Go.Proofs.Ytjccjmmbebiegaa
set_option linter.unusedVariables false
namespace Go.Proofs.Ytjccjmmbebiegaa
open Go.RowKit
section
variable {P:Program} {Q:Exit→Act→World→Prop}
def upd (u:Nat→Value) (i:Nat) (v:Value):Nat→Value:=fun j=>if j=i then v else u j
theorem upd_same (u:Nat→Value) (i:Nat) (v:Value):upd u i v i=v:=by simp[upd]
theorem upd_other (u:Nat→Value) {i j:Nat} (v:Value) (h:j≠i):upd u i v j=u j:=by simp[upd,h]
def preOf (ops:Array Oper) (i:Nat):List Nat:=((ops[i]?).map fun o=>(o.after.toList.filter (Region.binds .any)).map (·.on)).getD []
def laidWell (ops:Array Oper):Bool:=(List.range ops.size).all fun i=>((ops[i]?).map fun o=>o.guard.isNone).getD false&&(preOf ops i).all (fun j=>decide (j<i))
theorem mem_preOf {ops:Array Oper} {i:Nat} {o:Oper} (ho:ops[i]?=some o) {e:Edge} (he:e∈o.after) (hb:Region.binds .any e=true):e.on∈preOf ops i:=by
 simp only[preOf,ho,Option.map_some,Option.getD_some,List.mem_map,List.mem_filter]
 exact⟨e,⟨by simpa using he,hb⟩,rfl⟩
def ancOf (ops:Array Oper):Nat→Nat→List Nat
 |0,_=>[]
 |n+1,i=>preOf ops i++(preOf ops i).flatMap (ancOf ops n)
theorem anc_listed {ops:Array Oper} {listed:Array Bool} (down:∀i,listed.getD i false=true→∀j,j∈preOf ops i→listed.getD j false=true) :
  ∀n i,listed.getD i false=true→∀j,j∈ancOf ops n i→listed.getD j false=true:=by
 intro n
 induction n with
 |zero=>intro i _ j hj;simp[ancOf]at hj
 |succ n ih =>
  intro i hi j hj
  simp only[ancOf,List.mem_append,List.mem_flatMap]at hj
  rcases hj with hj|⟨k,hk,hj⟩
  ·exact down i hi j hj
  ·exact ih k (down i hi k hk) j hj
theorem anc_listed' {ops:Array Oper} {listed:Array Bool} (down:∀i,listed.getD i false=true→∀j,j∈preOf ops i→listed.getD j false=true) {i:Nat} (hp:∀j,j∈preOf ops i→listed.getD j false=true) :
  ∀n,∀j,j∈ancOf ops n i→listed.getD j false=true:=by
 intro n
 cases n with
 |zero=>intro j hj;simp[ancOf]at hj
 |succ n =>
  intro j hj
  simp only[ancOf,List.mem_append,List.mem_flatMap]at hj
  rcases hj with hj|⟨k,hk,hj⟩
  ·exact hp j hj
  ·exact anc_listed down n k (hp k hk) j hj
structure Mid (ops:Array Oper) (fr:(Nat→Value)→Act) (u0:Nat→Value) (Φ:Nat→(Nat→Value)→World→Prop) (S:(Nat→Bool)→World→Prop) (listed:Array Bool) (a:Act) (w:World):Prop where
 size:listed.size=ops.size
 down:∀i,listed.getD i false=true→∀j,j∈preOf ops i→listed.getD j false=true
 u:∃u:Nat→Value,a=fr u∧(∀i,listed.getD i false=true→Φ i u w)∧(∀i,i<ops.size→listed.getD i false=false→u i=u0 i)
 s:S (fun i=>listed.getD i false) w
theorem getD_set {l:Array Bool} {i j:Nat} (hi:i<l.size):(l.setIfInBounds i true).getD j false=if i=j then true else l.getD j false:=by
 by_cases h:i=j
 ·subst h;simp[hi]
 ·simp[Array.getElem?_setIfInBounds_ne h,h]
theorem count_set {l:Array Bool} {i:Nat} (hi:i<l.size) (hf:l.getD i true=false):(l.setIfInBounds i true).toList.count false+1=l.toList.count false:=by
 rw[Array.toList_setIfInBounds]
 have hi':i<l.toList.length:=by simpa using hi
 have e:l.toList[i]=false:=by
  have:l[i]=false:=by simpa[hi]using hf
  simpa using this
 have h2:∀(m:List Bool) (i:Nat) (h:i<m.length),m[i]=false→(m.set i true).count false+1=m.count false:=by
  intro m
  induction m with
  |nil=>intro i h;simp at h
  |cons b m ih =>
   intro i h hb
   cases i with
   |zero=>simp at hb;subst hb;simp
   |succ i =>
    have:=ih i (by simpa using h) (by simpa using hb)
    simp only[List.set_cons_succ,List.count_cons]
    omega
 exact h2 _ _ hi' e
def Duty (D:Nat) (P:Program) (ops:Array Oper) (fr:(Nat→Value)→Act) (u0:Nat→Value) (Φ:Nat→(Nat→Value)→World→Prop) (S:(Nat→Bool)→World→Prop) (Q:Exit→Act→World→Prop) (i:Nat):Prop :=
 ∀o,ops[i]?=some o→∀(u:Nat→Value) (w:World) (L:Nat→Bool),S L w→L i=false→(∀j∈ancOf ops D i,L j=true)→(∀j∈ancOf ops D i,Φ j u w)→(∀j,j<ops.size→i∈ancOf ops D j→u j=u0 j)→u i=u0 i →
  ∀K:Act→World→Prop,(∀v w',Φ i (upd u i v) w'→S (fun k=>if k=i then true else L k) w'→(∀j x,j≠i→Φ j x w→Φ j x w')→K ((fr u).put o.dst v) w')→o.wp P (fr u) w K Q
theorem ready_iff {ops:Array Oper} {listed:Array Bool} {i:Nat} (h:i∈Region.ready .any ops listed) :
  i<ops.size∧listed.getD i true=false∧∀o,ops[i]?=some o→∀e∈o.after,Region.binds .any e=true→listed.getD e.on false=true:=by
 obtain⟨h1,o,ho,h2⟩:=mem_ready.1 h
 have hi:i<ops.size:=by
  rcases Nat.lt_or_ge i ops.size with g|g
  ·exact g
  ·rw[Array.getElem?_eq_none g]at ho;cases ho
 refine⟨hi,h1,fun o' ho' e he hb=>?_⟩
 rw[ho]at ho'
 cases ho'
 exact h2 e he hb
theorem wpAny_all (D:Nat) {ops:Array Oper} {fr:(Nat→Value)→Act} {u0:Nat→Value} {Φ:Nat→(Nat→Value)→World→Prop} {S:(Nat→Bool)→World→Prop}
  (hw:laidWell ops=true)
  (hput:∀i o u v,ops[i]?=some o→(fr u).put o.dst v=fr (upd u i v))
  (hdep:∀j u u' w,(∀k,k=j∨k∈ancOf ops D j→u k=u' k)→Φ j u w→Φ j u' w)
  (duty:∀i,i<ops.size→Duty D P ops fr u0 Φ S Q i)
  (fin:∀u w L,S L w→(∀i,i<ops.size→L i=true)→(∀i,i<ops.size→Φ i u w)→Q .normal (fr u) w) :
  ∀(fuel:Nat) (listed:Array Bool) (a:Act) (w:World),listed.toList.count false≤fuel→Mid ops fr u0 Φ S listed a w→wpAny P .any ops Q fuel listed a w:=by
 have hwell:∀i,i<ops.size→(∀o,ops[i]?=some o→o.guard=none)∧∀j∈preOf ops i,j<i:=by
  intro i hi
  have h:=List.all_eq_true.1 hw i (List.mem_range.2 hi)
  simp only[Bool.and_eq_true]at h
  refine⟨fun o ho=>?_,fun j hj=>by simpa using List.all_eq_true.1 h.2 j hj⟩
  have h1:=h.1
  rw[ho]at h1
  simpa using h1
 have done:∀listed a w,Region.ready .any ops listed=[]→Mid ops fr u0 Φ S listed a w→Q .normal a w:=by
  intro listed a w hr hm
  have all:∀n i,i<n→i<ops.size→listed.getD i false=true:=by
   intro n
   induction n with
   |zero=>intro i h;omega
   |succ n ih =>
    intro i hin hi
    cases hl:listed.getD i false with
    |true=>rfl
    |false =>
     exfalso
     have hmem:i∈Region.ready .any ops listed:=by
      refine mem_ready.2 ⟨?_,ops[i],by simp[hi],fun e he hb=>?_⟩
      ·have:i<listed.size:=by rw[hm.size];exact hi
       simp[this]at hl ⊢
       exact hl
      ·have hp:=mem_preOf (ops:=ops) (i:=i) (by simp[hi]) he hb
       exact ih e.on (by have:=(hwell i hi).2 _ hp;omega) (by have:=(hwell i hi).2 _ hp;omega)
     rw[hr]at hmem
     cases hmem
  obtain⟨u,rfl,hu,-⟩:=hm.u
  exact fin u w _ hm.s (fun i hi=>all (i+1) i (by omega) hi) fun i hi=>hu i (all (i+1) i (by omega) hi)
 intro fuel
 induction fuel with
 |zero =>
  intro listed a w hc hm
  have hr:Region.ready .any ops listed=[]:=by
   cases hr:Region.ready .any ops listed with
   |nil=>rfl
   |cons i r =>
    exfalso
    have hi:=ready_iff (ops:=ops) (listed:=listed) (i:=i) (by rw[hr];exact List.mem_cons_self)
    have:=count_set (l:=listed) (i:=i) (by rw[hm.size];exact hi.1) hi.2.1
    omega
  exact⟨hr,done listed a w hr hm⟩
 |succ fuel ih =>
  intro listed a w hc hm
  refine⟨fun hr=>done listed a w hr hm,fun i hi=>?_⟩
  obtain⟨hlt,hf,hpre⟩:=ready_iff hi
  have hls:i<listed.size:=by rw[hm.size];exact hlt
  have hff:listed.getD i false=false:=by simp[hls]at hf ⊢;exact hf
  have ho:ops[i]?=some ops[i]:=by simp[hlt]
  obtain⟨u,rfl,hu,hn⟩:=hm.u
  have hpre':∀j∈preOf ops i,listed.getD j false=true:=by
   intro j hj
   simp only[preOf,ho,Option.map_some,Option.getD_some,List.mem_map,List.mem_filter]at hj
   obtain⟨e,⟨he,hb⟩,rfl⟩:=hj
   exact hpre _ ho e (by simpa using he) hb
  unfold wpOp
  simp only[ho]
  have hg:=(hwell i hlt).1 _ ho
  have hwant:Region.wanted ops[i] (yielded ops (fr u).tmps)=true:=by simp[Region.wanted,hg]
  rw[if_pos hwant]
  refine .inl ?_
  refine duty i hlt _ ho u w _ hm.s hff (fun j hj=>anc_listed' hm.down hpre' D j hj) (fun j hj=>hu j (anc_listed' hm.down hpre' D j hj)) (fun j hj hij=>?_) (hn i hlt hff) _ ?_
  ·refine hn j hj ?_
   cases hl:listed.getD j false with
   |false=>rfl
   |true=>exact absurd (anc_listed hm.down D j hl i hij) (by rw[hff];simp)
  ·intro v w' hΦ hS hst
   refine ih _ _ _ ?_ ⟨?_,?_,⟨upd u i v,hput i _ u v ho,?_,?_⟩,?_⟩
   ·have:=count_set hls hf
    omega
   ·simpa using hm.size
   ·intro k hk j hj
    rw[getD_set hls]at hk ⊢
    by_cases hij:i=j
    ·simp[hij]
    ·rw[if_neg hij]
     by_cases hik:i=k
     ·subst hik;exact hpre' j hj
     ·rw[if_neg hik]at hk;exact hm.down k hk j hj
   ·intro k hk
    rw[getD_set hls]at hk
    by_cases hik:k=i
    ·subst hik;exact hΦ
    ·rw[if_neg (fun e=>hik e.symm)]at hk
     refine hst k _ hik (hdep k u _ w (fun m hm'=>(upd_other u v ?_).symm) (hu k hk))
     rintro rfl
     rcases hm' with hm'|hm'
     ·exact hik hm'.symm
     ·have:=anc_listed hm.down D k hk _ hm'
      rw[hff]at this
      cases this
   ·intro k hk hkf
    rw[getD_set hls]at hkf
    by_cases hik:k=i
    ·subst hik;simp at hkf
    ·rw[if_neg (fun e=>hik e.symm)]at hkf
     simp only[upd,if_neg hik]
     exact hn k hk hkf
   ·have e:(fun k=>(listed.setIfInBounds i true).getD k false)=(fun k=>if k=i then true else listed.getD k false):=by
     funext k
     rw[getD_set hls]
     by_cases hk:i=k
     ·simp[hk]
     ·rw[if_neg hk,if_neg (fun e=>hk e.symm)]
    rw[e]
    exact hS
def puts (a:Act):List (Option Tmp)→Nat→(Nat→Value)→Act
 |[],_,_=>a
 |d::ds,k,u=>puts (a.put d (u k)) ds (k+1) u
theorem put_same (a:Act) (d:Tmp) (v v':Value):(a.put (some d) v).put (some d) v'=a.put (some d) v':=by
 simp[Act.put]
def slotsApart:List (Option Tmp)→Bool
 |[]=>true
 |d::ds=>(d.isNone||!ds.contains d)&&slotsApart ds
theorem puts_put_far (ds:List (Option Tmp)):∀(a:Act) (k:Nat) (u:Nat→Value) (d:Option Tmp) (v:Value),(d=none∨d ∉ ds)→puts (a.put d v) ds k u=(puts a ds k u).put d v:=by
 induction ds with
 |nil=>intro a k u d v _;rfl
 |cons x ds ih =>
  intro a k u d v h
  simp only[puts]
  have hx:(a.put d v).put x (u k)=(a.put x (u k)).put d v:=by
   rcases h with rfl|h
   ·rfl
   ·exact Act.put_comm a v (u k) (fun y hy e=>h (by rw[hy,←e];exact List.mem_cons_self))
  rw[hx]
  exact ih _ _ _ _ _ (h.imp id fun h m=>h (List.mem_cons_of_mem _ m))
theorem puts_upd (ds:List (Option Tmp)) (hd:slotsApart ds=true):∀(a:Act) (k:Nat) (u:Nat→Value) (i:Nat) (d:Option Tmp) (v:Value),ds[i]?=some d→(puts a ds k u).put d v=puts a ds k (upd u (k+i) v):=by
 have far:∀(ds:List (Option Tmp)) (a:Act) (k:Nat) (u:Nat→Value) (i:Nat) (v:Value),i<k→puts a ds k (upd u i v)=puts a ds k u:=by
  intro ds
  induction ds with
  |nil=>intro a k u i v _;rfl
  |cons x ds ih =>
   intro a k u i v h
   simp only[puts]
   rw[upd_other u v (by omega),ih _ _ _ _ _ (by omega)]
 induction ds with
 |nil=>intro a k u i d v h;simp at h
 |cons x ds ih =>
  intro a k u i d v h
  simp only[slotsApart,Bool.and_eq_true]at hd
  cases i with
  |zero =>
   simp only[List.getElem?_cons_zero,Option.some.injEq]at h
   subst h
   simp only[puts,Nat.add_zero]
   rw[upd_same,far _ _ _ _ _ _ (by omega)]
   have hx:x=none∨x ∉ ds:=by
    have:=hd.1
    cases x with
    |none=>exact .inl rfl
    |some y=>right;simpa using this
   rw[←puts_put_far ds _ _ _ _ _ hx]
   congr 1
   cases x with
   |none=>rfl
   |some y=>exact put_same _ _ _ _
  |succ i =>
   simp only[List.getElem?_cons_succ]at h
   simp only[puts]
   rw[ih hd.2 _ _ _ _ _ _ h,upd_other u v (by omega),show k+1+i=k+(i+1)by omega]
def starts (a:Act) (ds:List (Option Tmp)) (k:Nat):Value:=match ds[k]? with|some (some d)=>a.tmps.getD d undef|_=>undef
theorem put_self (a:Act) (d:Tmp):a.put (some d) (a.tmps.getD d undef)=a:=by
 obtain⟨t,df⟩:=a
 simp only[Act.put,Act.mk.injEq,and_true]
 rcases Nat.lt_or_ge d t.size with h|h
 ·apply Array.ext
  ·simp
  ·intro i h1 h2
   rw[Array.getElem_setIfInBounds (by simpa using h1)]
   split
   ·rename_i e;subst e;simp
   ·rfl
 ·exact Array.setIfInBounds_eq_of_size_le h
theorem puts_same (a:Act):∀(ds:List (Option Tmp)) (k:Nat) (u:Nat→Value),(∀i d,ds[i]?=some (some d)→u (k+i)=a.tmps.getD d undef)→puts a ds k u=a:=by
 intro ds
 induction ds with
 |nil=>intro k u _;rfl
 |cons x ds ih =>
  intro k u h
  simp only[puts]
  have hx:a.put x (u k)=a:=by
   cases x with
   |none=>rfl
   |some d=>rw[show u k=a.tmps.getD d undef from h 0 d rfl];exact put_self a d
  rw[hx]
  exact ih (k+1) u fun i d hi=>by rw[show k+1+i=k+(i+1)by omega];exact h (i+1) d hi
theorem puts_starts (a:Act) (ds:List (Option Tmp)):puts a ds 0 (starts a ds)=a:=by
 refine puts_same a ds 0 _ fun i d hi=>?_
 simp only[Nat.zero_add,starts,hi]
theorem puts_size (ds:List (Option Tmp)):∀(a:Act) (k:Nat) (u:Nat→Value),(puts a ds k u).tmps.size=a.tmps.size:=by
 induction ds with
 |nil=>intro a k u;rfl
 |cons x ds ih =>
  intro a k u
  simp only[puts]
  rw[ih]
  cases x<;>simp[Act.put]
theorem puts_eval_out (ds:List (Option Tmp)):∀(a:Act) (k:Nat) (u:Nat→Value) (t:Nat),ds.contains (some t)=false→(puts a ds k u).eval (.tmp t)=a.eval (.tmp t):=by
 induction ds with
 |nil=>intro a k u t _;rfl
 |cons x ds ih =>
  intro a k u t h
  simp only[List.contains_cons,Bool.or_eq_false_iff]at h
  simp only[puts]
  rw[ih _ _ _ _ h.2]
  refine Act.eval_put fun d hd e=>?_
  cases e
  subst hd
  simp at h
theorem puts_eval_in (ds:List (Option Tmp)):∀(a:Act) (k:Nat) (u:Nat→Value) (i:Nat) (t:Nat),slotsApart ds=true→ds[i]?=some (some t)→t<a.tmps.size→(puts a ds k u).eval (.tmp t)=u (k+i):=by
 induction ds with
 |nil=>intro a k u i t _ h;simp at h
 |cons x ds ih =>
  intro a k u i t hd h ht
  simp only[slotsApart,Bool.and_eq_true]at hd
  simp only[puts]
  cases i with
  |zero =>
   simp only[List.getElem?_cons_zero,Option.some.injEq]at h
   subst h
   rw[puts_eval_out _ _ _ _ _ (by simpa using hd.1)]
   simp[Act.put,Act.eval,ht]
  |succ i =>
   rw[ih _ _ _ i t hd.2 (by simpa using h) (by cases x<;>simpa[Act.put]using ht)]
   congr 1
   omega
def DutyO (D:Nat) (P:Program) (ops:Array Oper) (fr:(Nat→Value)→Act) (u0:Nat→Value) (Φ:Nat→(Nat→Value)→World→Prop) (S:(Nat→Bool)→World→Prop) (Q:Exit→Act→World→Prop) (i:Nat) (o:Oper):Prop :=
 ∀(u:Nat→Value) (w:World) (L:Nat→Bool),S L w→L i=false→(∀j∈ancOf ops D i,L j=true)→(∀j∈ancOf ops D i,Φ j u w)→(∀j,j<ops.size→i∈ancOf ops D j→u j=u0 j) →
  ∀K:Act→World→Prop,(∀v w',Φ i (upd u i v) w'→S (fun k=>if k=i then true else L k) w'→(∀j x,j≠i→Φ j x w→Φ j x w')→K ((fr u).put o.dst v) w')→o.wp P (fr u) w K Q
def Duties (D:Nat) (P:Program) (ops:Array Oper) (fr:(Nat→Value)→Act) (u0:Nat→Value) (Φ:Nat→(Nat→Value)→World→Prop) (S:(Nat→Bool)→World→Prop) (Q:Exit→Act→World→Prop):List Oper→Nat→Prop
 |[],_=>True
 |o::r,k=>DutyO D P ops fr u0 Φ S Q k o∧Duties D P ops fr u0 Φ S Q r (k+1)
theorem duties_at {D:Nat} {ops:Array Oper} {fr:(Nat→Value)→Act} {u0:Nat→Value} {Φ:Nat→(Nat→Value)→World→Prop} {S:(Nat→Bool)→World→Prop} :
  ∀(l:List Oper) (k i:Nat) (o:Oper),Duties D P ops fr u0 Φ S Q l k→l[i]?=some o→DutyO D P ops fr u0 Φ S Q (k+i) o:=by
 intro l
 induction l with
 |nil=>intro k i o _ h;simp at h
 |cons x l ih =>
  intro k i o hd h
  cases i with
  |zero=>simp only[List.getElem?_cons_zero,Option.some.injEq]at h;subst h;exact hd.1
  |succ i =>
   have:=ih (k+1) i o hd.2 (by simpa using h)
   rw[show k+(i+1)=k+1+i by omega];exact this
theorem wp_region_all (D:Nat) {id:Nat} {l:List Oper} {a:Act} {w:World} (ds:List (Option Tmp)) (Φ:Nat→(Nat→Value)→World→Prop) (S:(Nat→Bool)→World→Prop)
  (hm:P.follows .mixedOrders=true) (hw:laidWell l.toArray=true) (hds:l.map (·.dst)=ds) (hd:slotsApart ds=true) (hs:S (fun _=>false) w.drew)
  (hdep:∀j u u' w,(∀k,k=j∨k∈ancOf l.toArray D j→u k=u' k)→Φ j u w→Φ j u' w)
  (duty:Duties D P l.toArray (puts a ds 0) (starts a ds) Φ S Q l 0)
  (fin:∀u w L,S L w→(∀i,i<l.length→L i=true)→(∀i,i<l.length→Φ i u w)→Q .normal (puts a ds 0 u) w):(Code.region id l.toArray true).wp P Q a w:=by
 subst hds
 refine wp_region_any hm ?_
 refine wpAny_all D (fr:=puts a (l.map (·.dst)) 0) (u0:=starts a (l.map (·.dst))) (Φ:=Φ) (S:=S) hw ?_ hdep (fun i hi o ho u w L hS hL hA h1 h2 _ K hK=>by
   have:=duties_at l 0 i o duty (by simpa using ho)
   rw[Nat.zero_add]at this
   exact this u w L hS hL hA h1 h2 K hK) (fun u w L hS hA h=>fin u w L hS (fun i hi=>hA i (by simpa using hi)) fun i hi=>h i (by simpa using hi)) _ _ _ _ ?_ ?_
 ·intro i o u v ho
  have:=puts_upd (l.map (·.dst)) hd a 0 u i o.dst v (by rw[List.getElem?_map];rw[List.getElem?_toArray]at ho;rw[ho];rfl)
  rwa[Nat.zero_add]at this
 ·simp
 ·refine⟨by simp,?_,⟨starts a (l.map (·.dst)),(puts_starts _ _).symm,?_,fun _ _ _=>rfl⟩,?_⟩
  ·intro i hi
   exfalso
   rw[Array.getD_eq_getD_getElem?,Array.getElem?_replicate]at hi
   split at hi<;>simp at hi
  ·intro i hi
   exfalso
   rw[Array.getD_eq_getD_getElem?,Array.getElem?_replicate]at hi
   split at hi<;>simp at hi
  ·have e:(fun i=>(Array.replicate l.toArray.size false).getD i false)=(fun _=>false):=by
    funext i
    rw[Array.getD_eq_getD_getElem?,Array.getElem?_replicate]
    split<;>rfl
   rw[e];exact hs
end
end Go.Proofs.Ytjccjmmbebiegaa
set_option linter.unusedVariables false
namespace Go.Proofs.Ytjccjmmbebiegaa
open Go.RowKit
def Apart (a b:Value):Prop:=a.ownBlock=none∨a.ownBlock≠b.ownBlock
theorem grown_refl (w:World) (r:Option Nat):w.grownBy w r:=⟨rfl,rfl,rfl,Nat.le_refl _,fun _ _ _=>rfl⟩
theorem grown_alloc (w:World) (o:Obj) (r:Option Nat):w.grownBy (w.alloc o) r:=⟨rfl,rfl,rfl,by simp,fun k hk _=>Below.heap_alloc _ _ _ hk⟩
theorem OwnI.kept {w w':World} {B:Nat} {e:TypeId} {k:Nat} {v:Value} {n:Nat} {zs:List Int} {r:Option Nat} (h:OwnI w B e k v n zs) (g:w.grownBy w' r) (hne:v.ownBlock=none∨v.ownBlock≠r):OwnI w' B e k v n zs:=World.ownsRow.kept h g hne
def Lit (w:World) (H0:Nat) (v:Value) (x:Int):Prop:=∃L,v=.slice (some ⟨L,0,none⟩) 1 1∧H0≤L∧L<w.heap.size∧CellsAt w L 0 [x]
def Grew (w:World) (B e n H0:Nat) (a:Value) (zs:List Int) (v:Value):Prop:=OwnI w B e 1 v n zs∧∃g,v.ownBlock=some g∧(a.ownBlock=some g∨H0≤g)∧g<w.heap.size
theorem Lit.kept {w w':World} {H0:Nat} {v:Value} {x:Int} {r:Option Nat} (h:Lit w H0 v x) (g:w.grownBy w' r) (hr:∀k,r=some k→k<H0):Lit w' H0 v x:=by
 obtain⟨L,e,h1,h2,h3⟩:=h
 refine⟨L,e,h1,Nat.lt_of_lt_of_le h2 g.size,fun i hi=>?_⟩
 rw[World.cell?_of_block (g.block L h2 (fun e=>by have:=hr L e.symm;omega))]
 exact h3 i hi
theorem Grew.kept {w w':World} {B e n H0:Nat} {a:Value} {zs:List Int} {v:Value} {r:Option Nat} (h:Grew w B e n H0 a zs v) (g:w.grownBy w' r) (hr:∀k,r=some k→k<H0) (hne:a.ownBlock=none∨a.ownBlock≠r):Grew w' B e n H0 a zs v:=by
 obtain⟨h1,k,h2,h3,h4⟩:=h
 refine⟨h1.kept g ?_,k,h2,h3,Nat.lt_of_lt_of_le h4 g.size⟩
 right
 rw[h2]
 intro e
 rcases h3 with h3|h3
 ·rcases hne with hne|hne
  ·rw[hne]at h3;cases h3
  ·rw[h3]at hne;exact hne e
 ·have:=hr k e.symm;omega
structure App3S (B e H0 X o0 o1 o2 j:Nat) (a b c:Value) (A Bs C:List Int) (x y z:Int) (B0:Nat) (W1:World) (L:Nat→Bool) (w:World):Prop where
 h0:H0≤w.heap.size
 cx:w.cell? ⟨X,o0,none⟩=some (.int .i64 x)
 cy:w.cell? ⟨X,o1,none⟩=some (.int .i64 y)
 cz:w.cell? ⟨X,o2,none⟩=some (.int .i64 z)
 bel:Below B0 W1 w
 a:L 4=false→OwnI w B e 1 a j A
 b:L 9=false→OwnI w B e 1 b j Bs
 c:L 14=false→OwnI w B e 1 c j C
def App3Φ (B e H0 X o0 o1 o2 j:Nat) (a b c:Value) (A Bs C:List Int) (x y z:Int):Nat→(Nat→Value)→World→Prop
 |0,u,_=>u 0=a
 |1,u,_=>u 1=.pointer (some ⟨X,o0,none⟩)
 |2,u,_=>u 2=.int .i64 x
 |3,u,w=>Lit w H0 (u 3) x
 |4,u,w=>Grew w B e (j+1) H0 a (A++[x]) (u 4)
 |5,u,_=>u 5=b
 |6,u,_=>u 6=.pointer (some ⟨X,o1,none⟩)
 |7,u,_=>u 7=.int .i64 y
 |8,u,w=>Lit w H0 (u 8) y
 |9,u,w=>Grew w B e (j+1) H0 b (Bs++[y]) (u 9)∧(u 4).ownBlock≠(u 9).ownBlock
 |10,u,_=>u 10=c
 |11,u,_=>u 11=.pointer (some ⟨X,o2,none⟩)
 |12,u,_=>u 12=.int .i64 z
 |13,u,w=>Lit w H0 (u 13) z
 |14,u,w=>Grew w B e (j+1) H0 c (C++[z]) (u 14)∧(u 4).ownBlock≠(u 14).ownBlock∧(u 9).ownBlock≠(u 14).ownBlock
 |15,u,_=>u 15=u 4
 |16,u,_=>u 16=u 9
 |17,u,_=>u 17=u 14
 |_,_,_=>True
structure Touch (H0:Nat) (a b c:Value) (i:Nat) (r:Option Nat):Prop where
 lt:∀k,r=some k→k<H0
 a:i≠4→a.ownBlock=none∨a.ownBlock≠r
 b:i≠9→b.ownBlock=none∨b.ownBlock≠r
 c:i≠14→c.ownBlock=none∨c.ownBlock≠r
theorem App3.stab {B e H0 X o0 o1 o2 j:Nat} {a b c:Value} {A Bs C:List Int} {x y z:Int} {i:Nat} {r:Option Nat} {w w':World} (g:w.grownBy w' r) (t:Touch H0 a b c i r) :
  ∀k (u:Nat→Value),k≠i→App3Φ B e H0 X o0 o1 o2 j a b c A Bs C x y z k u w→App3Φ B e H0 X o0 o1 o2 j a b c A Bs C x y z k u w':=by
 intro k u hk h
 match k,hk,h with
 |0,_,h=>exact h
 |1,_,h=>exact h
 |2,_,h=>exact h
 |3,_,h=>exact Lit.kept h g t.lt
 |4,hk,h=>exact Grew.kept h g t.lt (t.a (Ne.symm hk))
 |5,_,h=>exact h
 |6,_,h=>exact h
 |7,_,h=>exact h
 |8,_,h=>exact Lit.kept h g t.lt
 |9,hk,h=>exact⟨Grew.kept h.1 g t.lt (t.b (Ne.symm hk)),h.2⟩
 |10,_,h=>exact h
 |11,_,h=>exact h
 |12,_,h=>exact h
 |13,_,h=>exact Lit.kept h g t.lt
 |14,hk,h=>exact⟨Grew.kept h.1 g t.lt (t.c (Ne.symm hk)),h.2⟩
 |15,_,h=>exact h
 |16,_,h=>exact h
 |17,_,h=>exact h
 |k+18,_,h=>exact h
theorem App3.dep {B e H0 X o0 o1 o2 j:Nat} {a b c:Value} {A Bs C:List Int} {x y z:Int} {ops:Array Oper} {D:Nat} (h9:4∈ancOf ops D 9) (h14:4∈ancOf ops D 14) (h14':9∈ancOf ops D 14) (h15:4∈ancOf ops D 15) (h16:9∈ancOf ops D 16) (h17:14∈ancOf ops D 17) :
  ∀k u u' w,(∀m,m=k∨m∈ancOf ops D k→u m=u' m)→App3Φ B e H0 X o0 o1 o2 j a b c A Bs C x y z k u w→App3Φ B e H0 X o0 o1 o2 j a b c A Bs C x y z k u' w:=by
 intro k u u' w hu h
 have s:=hu k (.inl rfl)
 match k,hu,s,h with
 |0,_,s,h=>simp only[App3Φ]at h ⊢;rw[←s];exact h
 |1,_,s,h=>simp only[App3Φ]at h ⊢;rw[←s];exact h
 |2,_,s,h=>simp only[App3Φ]at h ⊢;rw[←s];exact h
 |3,_,s,h=>simp only[App3Φ]at h ⊢;rw[←s];exact h
 |4,_,s,h=>simp only[App3Φ]at h ⊢;rw[←s];exact h
 |5,_,s,h=>simp only[App3Φ]at h ⊢;rw[←s];exact h
 |6,_,s,h=>simp only[App3Φ]at h ⊢;rw[←s];exact h
 |7,_,s,h=>simp only[App3Φ]at h ⊢;rw[←s];exact h
 |8,_,s,h=>simp only[App3Φ]at h ⊢;rw[←s];exact h
 |9,hu,s,h=>simp only[App3Φ]at h ⊢;rw[←s,←hu 4 (.inr h9)];exact h
 |10,_,s,h=>simp only[App3Φ]at h ⊢;rw[←s];exact h
 |11,_,s,h=>simp only[App3Φ]at h ⊢;rw[←s];exact h
 |12,_,s,h=>simp only[App3Φ]at h ⊢;rw[←s];exact h
 |13,_,s,h=>simp only[App3Φ]at h ⊢;rw[←s];exact h
 |14,hu,s,h=>simp only[App3Φ]at h ⊢;rw[←s,←hu 4 (.inr h14),←hu 9 (.inr h14')];exact h
 |15,hu,s,h=>simp only[App3Φ]at h ⊢;rw[←s,←hu 4 (.inr h15)];exact h
 |16,hu,s,h=>simp only[App3Φ]at h ⊢;rw[←s,←hu 9 (.inr h16)];exact h
 |17,hu,s,h=>simp only[App3Φ]at h ⊢;rw[←s,←hu 14 (.inr h17)];exact h
 |k+18,_,_,h=>exact h
theorem App3S.kept {B e H0 X o0 o1 o2 j:Nat} {a b c:Value} {A Bs C:List Int} {x y z:Int} {B0:Nat} {W1:World} {L:Nat→Bool} {w w':World} {i:Nat} {r:Option Nat}
  (h:App3S B e H0 X o0 o1 o2 j a b c A Bs C x y z B0 W1 L w) (g:w.grownBy w' r) (t:Touch H0 a b c i r) (hX:∀k,r=some k→k≠X∧B0≤k) (hXs:X<H0) (hB0:B0≤H0) :
  App3S B e H0 X o0 o1 o2 j a b c A Bs C x y z B0 W1 (fun k=>if k=i then true else L k) w':=by
 have cell:∀k,w'.cell? ⟨X,k,none⟩=w.cell? ⟨X,k,none⟩:=fun k =>
  World.cell?_of_block (g.block X (by have:=h.h0;omega) (fun e=>(hX X e.symm).1 rfl))
 refine⟨Nat.le_trans h.h0 g.size,by rw[cell];exact h.cx,by rw[cell];exact h.cy,by rw[cell];exact h.cz,?_,fun hl=>?_,fun hl=>?_,fun hl=>?_⟩
 ·exact h.bel.grown g (Nat.le_trans hB0 h.h0) (fun k hk=>(hX k hk).2)
 ·by_cases hi:4=i
  ·simp[hi]at hl
  ·rw[if_neg hi]at hl;exact(h.a hl).kept g (t.a (Ne.symm hi))
 ·by_cases hi:9=i
  ·simp[hi]at hl
  ·rw[if_neg hi]at hl;exact(h.b hl).kept g (t.b (Ne.symm hi))
 ·by_cases hi:14=i
  ·simp[hi]at hl
  ·rw[if_neg hi]at hl;exact(h.c hl).kept g (t.c (Ne.symm hi))
theorem touch_idle (H0:Nat) (a b c:Value) (i:Nat):Touch H0 a b c i Option.none :=
 ⟨fun k h=>by simp at h,fun _=>by cases h:a.ownBlock<;>simp,fun _=>by cases h:b.ownBlock<;>simp,fun _=>by cases h:c.ownBlock<;>simp⟩
theorem App3S.idle {B e H0 X o0 o1 o2 j:Nat} {a b c:Value} {A Bs C:List Int} {x y z:Int} {B0:Nat} {W1:World} {L:Nat→Bool} {w w':World} {i:Nat}
  (h:App3S B e H0 X o0 o1 o2 j a b c A Bs C x y z B0 W1 L w) (g:w.grownBy w' Option.none) (hXs:X<H0) (hB0:B0≤H0) :
  App3S B e H0 X o0 o1 o2 j a b c A Bs C x y z B0 W1 (fun k=>if k=i then true else L k) w':=h.kept g (touch_idle _ _ _ _ i) (fun k hk=>by simp at hk) hXs hB0
structure App3R (B H0 X:Nat) (a b c:Value):Prop where
 ra:∀k,a.ownBlock=some k→B≤k∧k<X
 rb:∀k,b.ownBlock=some k→B≤k∧k<X
 rc:∀k,c.ownBlock=some k→B≤k∧k<X
 x:X<H0
 ab:Apart a b
 ac:Apart a c
 bc:Apart b c
 ba:Apart b a
 ca:Apart c a
 cb:Apart c b
theorem App3R.t4 {B H0 X:Nat} {a b c:Value} (h:App3R B H0 X a b c):Touch H0 a b c 4 a.ownBlock :=
 ⟨fun k hk=>by have:=h.ra k hk;have:=h.x;omega,fun e=>absurd rfl e,fun _=>h.ba,fun _=>h.ca⟩
theorem App3R.t9 {B H0 X:Nat} {a b c:Value} (h:App3R B H0 X a b c):Touch H0 a b c 9 b.ownBlock :=
 ⟨fun k hk=>by have:=h.rb k hk;have:=h.x;omega,fun _=>h.ab,fun e=>absurd rfl e,fun _=>h.cb⟩
theorem App3R.t14 {B H0 X:Nat} {a b c:Value} (h:App3R B H0 X a b c):Touch H0 a b c 14 c.ownBlock :=
 ⟨fun k hk=>by have:=h.rc k hk;have:=h.x;omega,fun _=>h.ac,fun _=>h.bc,fun e=>absurd rfl e⟩
theorem grew_apart {w w1:World} {B e n m H0:Nat} {a b:Value} {zs ys:List Int} {v v':Value} (h:Grew w B e n H0 a zs v) (hg:∃g,v'.ownBlock=some g∧(b.ownBlock=some g∨g=w.heap.size)) (hab:Apart a b) (hb:∀k,b.ownBlock=some k→k<H0):v.ownBlock≠v'.ownBlock:=by
 obtain⟨-,g1,e1,h1,h2⟩:=h
 obtain⟨g2,e2,h3⟩:=hg
 rw[e1,e2]
 intro e
 cases e
 rcases h3 with h3|h3
 ·rcases h1 with h1|h1
  ·rcases hab with hab|hab
   ·rw[hab]at h1;cases h1
   ·exact hab (h1.trans h3.symm)
  ·have:=hb _ h3;omega
 ·omega
theorem wp_push {P:Program} (w:World) {o:Oper} {a:Act} {K:Act→World→Prop} {Q:Exit→Act→World→Prop} (s x:Operand) (t:TypeId)
  (ho:o.op=.call { callee:=.builtin .append,args:=#[s,x],argTypes:=#[t,t] })
  (B e H0:Nat) (E:Elem P t e 1) (v:Value) (n:Nat) (zs:List Int) (hs:a.eval s=v) (hown:OwnI w B e 1 v n zs)
  (lv:Value) (y:Int) (hx:a.eval x=lv) (hl:Lit w H0 lv y) (hn:(n+1)*8≤140737488355328) (hB:B≤w.heap.size) (hH:H0≤w.heap.size)
  (h:∀v' w',Grew w' B e (n+1) H0 v (zs++[y]) v'→w.grownBy w' v.ownBlock→(∃g,v'.ownBlock=some g∧(v.ownBlock=some g∨g=w.heap.size))→K (a.put o.dst v') w'):o.wp P a w K Q:=by
 obtain⟨ht,⟨i,z,hi,hz,hsize,hby,hzs⟩,hp⟩:=E
 obtain⟨L,rfl,hL0,hL1,hc⟩:=hl
 have c0:=hc 0 (by simp)
 refine wp_append_lies w s x t ho B e i z 1 (1*8) ht hi hz hsize hby hzs hp v n (ints zs) hs hown ⟨L,0,none⟩ 1 1 [.int .i64 y] hx rfl ?_ ?_ (by omega) (by unfold maxLen;omega) (by omega) hB w.heap.size rfl ?_
 ·intro j u hj
  match j,hj with
  |0,hj=>simp at hj;subst hj;simpa[Addr.add]using c0
  |j+1,hj=>simp at hj
 ·intro u hu;simp at hu;subst hu;rfl
 ·intro g cap w' hown' hg hat hlt
  refine h _ _ ⟨?_,g,rfl,?_,hlt⟩ hg ⟨g,rfl,hat⟩
  ·rw[OwnI,ints_append];exact hown'
  ·exact hat.imp id fun e=>by omega
end Go.Proofs.Ytjccjmmbebiegaa
set_option linter.unusedVariables false
namespace Go.Proofs.Ytjccjmmbebiegaa
open Go.RowKit
section
variable {P:Program} {Q:Exit→Act→World→Prop}
def Step (P:Program) (o:Oper) (ρ:Operand→Value) (w:World) (v:Value) (w':World):Prop :=
 ∀a:Act,execOp a.eval o=execOp ρ o→∀(K:Act→World→Prop) (Q:Exit→Act→World→Prop),K (a.put o.dst v) w'→o.wp P a w K Q
theorem Step.value {o:Oper} {ρ:Operand→Value} {w w':World} {v:Value} (h:(execOp ρ o).run P w=.ok (.value v) w'):Step P o ρ w v w':=by
 intro a e K Q hK
 unfold Oper.wp
 rw[e,h]
 exact hK
theorem Step.skip {o:Oper} {ρ:Operand→Value} {w w':World} {v:Value} (hd:o.dst=none) (h:(execOp ρ o).run P w=.ok .skip w'):Step P o ρ w v w':=by
 intro a e K Q hK
 unfold Oper.wp
 rw[e,h]
 rw[hd]at hK
 show K (a.put o.dst undef) w'
 rw[hd]
 exact hK
theorem Step.call {o:Oper} {ρ:Operand→Value} {w w1 w':World} {v:Value} {f:FuncId} {args:Array Value} (h:(execOp ρ o).run P w=.ok (.enter f args) w1) (c:Calls P f args w1 fun e w2=>e=.returned v∧w2=w'):Step P o ρ w v w':=by
 intro a e K Q hK
 unfold Oper.wp
 rw[e,h]
 exact Calls.mono c fun e w2 ⟨h1,h2⟩=>by subst h1;subst h2;exact hK
def StepP (P:Program) (o:Oper) (ρ:Operand→Value) (w:World) (v:Value) (B:World→Prop):Prop :=
 ∀a:Act,execOp a.eval o=execOp ρ o→∀(K:Act→World→Prop) (Q:Exit→Act→World→Prop),(∀w',B w'→K (a.put o.dst v) w')→o.wp P a w K Q
theorem Step.pred {o:Oper} {ρ:Operand→Value} {w w':World} {v:Value} {B:World→Prop} (h:Step P o ρ w v w') (hB:B w'):StepP P o ρ w v B :=
 fun a e K Q hK=>h a e K Q (hK w' hB)
theorem StepP.call {o:Oper} {ρ:Operand→Value} {w w1:World} {v:Value} {B:World→Prop} {f:FuncId} {args:Array Value} (h:(execOp ρ o).run P w=.ok (.enter f args) w1) (c:Calls P f args w1 fun e w2=>e=.returned v∧B w2):StepP P o ρ w v B:=by
 intro a e K Q hK
 unfold Oper.wp
 rw[e,h]
 exact Calls.mono c fun e w2 ⟨h1,h2⟩=>by subst h1;exact hK w2 h2
def cleanB (D:Nat) (ops:Array Oper) (ds:List (Option Tmp)):Bool :=
 (List.range ops.size).all fun i=>((ops[i]?).map fun o=>o.op.operands.toList.all fun x =>
  match x with
  | .tmp t=>!ds.contains (some t)||(ancOf ops D i).any fun k=>decide (ds[k]?=some (some t))
  |_=>true).getD false
def winB (D:Nat) (ops:Array Oper) (stores:List Nat) (win:List (Nat×Nat)):Bool :=
 decide (stores.Nodup)&&stores.all (fun s=>decide (s<ops.size))&&(List.range ops.size).all fun i=>match win[i]? with
  |some (lo,hi)=>(stores.take lo).all (fun s=>(ancOf ops D i).contains s)&&(stores.drop hi).all (fun s=>s==i||(ancOf ops D s).contains i)&&decide (lo≤stores.length)
  |none=>false
def stage (stores:List Nat) (L:Nat→Bool):Nat:=(stores.filter L).length
theorem stage_ge (stores:List Nat) (L:Nat→Bool):∀lo,lo≤stores.length→(∀s∈stores.take lo,L s=true)→lo≤stage stores L:=by
 unfold stage
 induction stores with
 |nil=>intro lo h _;simpa using h
 |cons s r ih =>
  intro lo h hl
  cases lo with
  |zero=>omega
  |succ lo =>
   have h1:=hl s (by simp)
   have:=ih lo (by simpa using h) fun t ht=>hl t (by simp[ht])
   simp only[List.filter_cons,h1,if_true,List.length_cons]
   omega
theorem stage_le (stores:List Nat) (L:Nat→Bool):∀hi,(∀s∈stores.drop hi,L s=false)→stage stores L≤hi:=by
 intro hi h
 unfold stage
 conv=>lhs;rw[←List.take_append_drop hi stores]
 rw[List.filter_append,List.length_append]
 have e:(stores.drop hi).filter L=[]:=List.filter_eq_nil_iff.2 fun s hs=>by rw[h s hs];simp
 rw[e]
 have:=List.length_filter_le L (stores.take hi)
 have:=List.length_take_le hi stores
 simp
 omega
theorem stage_all (stores:List Nat) (L:Nat→Bool) (h:∀s∈stores,L s=true):stage stores L=stores.length:=by
 unfold stage
 rw[List.filter_eq_self.2 h]
theorem stage_out (stores:List Nat) (L:Nat→Bool) (i:Nat) (h:i ∉ stores):stage stores (fun k=>if k=i then true else L k)=stage stores L:=by
 unfold stage
 congr 1
 refine List.filter_congr fun s hs=>?_
 rw[if_neg (fun(e:s=i)=>h (by rw[←e];exact hs))]
theorem stage_in (stores:List Nat) (L:Nat→Bool) (i:Nat) (hn:stores.Nodup) (h:i∈stores) (hf:L i=false):stage stores (fun k=>if k=i then true else L k)=stage stores L+1:=by
 induction stores with
 |nil=>cases h
 |cons s r ih =>
  have hn':=List.nodup_cons.1 hn
  unfold stage at ih ⊢
  by_cases e:s=i
  ·subst e
   have:=stage_out r L s hn'.1
   unfold stage at this
   simp only[List.filter_cons,hf,if_true,List.length_cons,this,Bool.false_eq_true,if_false]
  ·have hm:i∈r:=by
    rcases List.mem_cons.1 h with h|h
    ·exact absurd h.symm e
    ·exact h
   have:=ih hn'.2 hm
   simp only[List.filter_cons,if_neg e]
   split
   ·simp only[List.length_cons,this]
   ·exact this
def DetSteps (P:Program) (W:Nat→World→Prop) (stores:List Nat) (ρ:Operand→Value):List Oper→List Value→List (Nat×Nat)→Nat→Prop
 |[],_,_,_=>True
 |o::l,vs,ws,i=>(∀s w,(ws.headD (0,0)).1≤s→s≤(ws.headD (0,0)).2→W s w→StepP P o ρ w (vs.headD undef) (W (if stores.contains i then s+1 else s)))∧DetSteps P W stores ρ l vs.tail ws.tail (i+1)
theorem det_at {W:Nat→World→Prop} {stores:List Nat} {ρ:Operand→Value}:∀(l:List Oper) (vs:List Value) (ws:List (Nat×Nat)) (k i:Nat) (o:Oper) (lo hi:Nat),DetSteps P W stores ρ l vs ws k→l[i]?=some o→ws[i]?=some (lo,hi) →
  ∀s w,lo≤s→s≤hi→W s w→StepP P o ρ w (vs.getD i undef) (W (if stores.contains (k+i)then s+1 else s)):=by
 intro l
 induction l with
 |nil=>intro vs ws k i o lo hi _ h;simp at h
 |cons x l ih =>
  intro vs ws k i o lo hi hd h hw s w h1 h2 hW
  cases i with
  |zero =>
   simp only[List.getElem?_cons_zero,Option.some.injEq]at h
   subst h
   cases ws with
   |nil=>simp at hw
   |cons y ws =>
    simp only[List.getElem?_cons_zero,Option.some.injEq]at hw
    subst hw
    have:=hd.1 s w h1 h2 hW
    cases vs<;>simpa using this
  |succ i =>
   cases ws with
   |nil=>simp at hw
   |cons y ws =>
    have:=ih vs.tail ws (k+1) i o lo hi hd.2 (by simpa using h) (by simpa using hw) s w h1 h2 hW
    rw[show k+(i+1)=k+1+i by omega]
    cases vs<;>simpa using this
theorem puts_congr (ds:List (Option Tmp)):∀(a:Act) (k:Nat) (u u':Nat→Value),(∀i,i<ds.length→u (k+i)=u' (k+i))→puts a ds k u=puts a ds k u':=by
 induction ds with
 |nil=>intro a k u u' _;rfl
 |cons x ds ih =>
  intro a k u u' h
  simp only[puts]
  have h0:=h 0 (by simp)
  rw[Nat.add_zero]at h0
  rw[h0]
  exact ih _ _ _ _ fun i hi=>by rw[show k+1+i=k+(i+1)by omega];exact h (i+1) (by simpa using hi)
theorem eval_far (a b:Act) (t:Tmp) (hs:a.tmps.size=b.tmps.size) (ht:¬ t<a.tmps.size):a.eval (.tmp t)=b.eval (.tmp t):=by
 simp[Act.eval,ht,hs▸ht]
theorem wp_region_det (D:Nat) {id:Nat} {l:List Oper} {a:Act} {w:World} (ds:List (Option Tmp)) (stores:List Nat) (win:List (Nat×Nat)) (W:Nat→World→Prop) (vals:List Value)
  (hm:P.follows .mixedOrders=true) (hw:laidWell l.toArray=true) (hsel:Region.noSelect l.toArray=true) (hds:l.map (·.dst)=ds) (hd:slotsApart ds=true) (hc:cleanB D l.toArray ds=true) (hwin:winB D l.toArray stores win=true)
  (h0:W 0 w.drew) (steps:DetSteps P W stores (puts a ds 0 fun k=>vals.getD k undef).eval l vals win 0)
  (fin:∀w',W stores.length w'→Q .normal (puts a ds 0 fun k=>vals.getD k undef) w'):(Code.region id l.toArray true).wp P Q a w:=by
 simp only[winB,Bool.and_eq_true,decide_eq_true_eq]at hwin
 obtain⟨⟨hnd,hin⟩,hwin⟩:=hwin
 refine wp_region_all D ds (fun i u _=>u i=vals.getD i undef) (fun L w'=>(∀i,L i=true→∀j∈ancOf l.toArray D i,L j=true)∧W (stage stores L) w') hm hw hds hd ?_ (fun j u u' w hu h=>by rw[←hu j (.inl rfl)];exact h) ?_ ?_
 ·refine⟨fun i h=>(by cases h),?_⟩
  rw[show stage stores (fun _=>false)=0 from Nat.le_zero.1 (stage_le stores _ 0 fun s _=>rfl)]
  exact h0
 ·have key:∀(i:Nat) (o:Oper),l[i]?=some o→DutyO D P l.toArray (puts a ds 0) (starts a ds) (fun i u _=>u i=vals.getD i undef) (fun L w'=>(∀i,L i=true→∀j∈ancOf l.toArray D i,L j=true)∧W (stage stores L) w') Q i o:=by
   intro i o ho u w' L hS hL hanc hpre hpost K hK
   obtain⟨hdown,hWs⟩:=hS
   have hi:i<l.length:=by
    rcases Nat.lt_or_ge i l.length with h|h
    ·exact h
    ·rw[List.getElem?_eq_none h]at ho;cases ho
   have hwi:=List.all_eq_true.1 hwin i (List.mem_range.2 (by simpa using hi))
   cases hw2:win[i]? with
   |none=>rw[hw2]at hwi;simp at hwi
   |some y =>
    obtain⟨lo,hi'⟩:=y
    rw[hw2]at hwi
    simp only[Bool.and_eq_true,decide_eq_true_eq]at hwi
    obtain⟨⟨hlo,hhi⟩,hle⟩:=hwi
    have s1:lo≤stage stores L:=stage_ge stores L lo hle fun s hs=>hanc s (by simpa using List.all_eq_true.1 hlo s hs)
    have s2:stage stores L≤hi':=stage_le stores L hi' fun s hs=>by
     have:=List.all_eq_true.1 hhi s hs
     simp only[Bool.or_eq_true,beq_iff_eq]at this
     rcases this with rfl|h
     ·exact hL
     ·cases hLs:L s with
      |false=>rfl
      |true=>have:=hdown s hLs i (by simpa using h);rw[hL]at this;cases this
    have st:=det_at l vals win 0 i o lo hi' steps ho hw2 _ w' s1 s2 hWs
    rw[Nat.zero_add]at st
    refine st (puts a ds 0 u) ?_ K Q ?_
    ·refine execOp_congr o ?_ ?_
     ·intro cs b e
      have:=hsel
      simp only[Region.noSelect]at this
      have hm:=Array.all_eq_true'.1 this o (by simpa using List.mem_of_getElem? ho)
      rw[e]at hm
      simp at hm
     ·intro x hx
      cases x with
      |tmp t =>
       by_cases ht:t<a.tmps.size
       ·have hcl:=List.all_eq_true.1 hc i (List.mem_range.2 (by simpa using hi))
        rw[show l.toArray[i]?=some o by simpa using ho]at hcl
        simp only[Option.map_some,Option.getD_some]at hcl
        have:=List.all_eq_true.1 hcl (.tmp t) (by simpa using hx)
        simp only[Bool.or_eq_true,Bool.not_eq_true']at this
        rcases this with h|h
        ·rw[puts_eval_out _ _ _ _ _ h,puts_eval_out _ _ _ _ _ h]
        ·obtain⟨k,hk,hk2⟩:=List.any_eq_true.1 h
         have hk2:=of_decide_eq_true hk2
         rw[puts_eval_in _ _ _ _ k t hd hk2 ht,puts_eval_in _ _ _ _ k t hd hk2 ht]
         simpa using hpre k hk
       ·exact eval_far _ _ _ (by rw[puts_size,puts_size]) (by rw[puts_size];exact ht)
      |_=>rfl
    ·intro w2 hW2
     refine hK _ _ (by simp[upd]) ⟨?_,?_⟩ (fun j x _ h=>h)
     ·intro k hk j hj
      by_cases hki:k=i
      ·subst hki
       by_cases hjk:j=k
       ·simp[hjk]
       ·simp only[if_neg hjk];exact hanc j hj
      ·simp only[if_neg hki]at hk
       by_cases hji:j=i
       ·simp[hji]
       ·simp only[if_neg hji];exact hdown k hk j hj
     ·by_cases hin:i∈stores
      ·rw[stage_in stores L i hnd hin hL];rwa[if_pos (by simpa using hin)]at hW2
      ·rw[stage_out stores L i hin];rwa[if_neg (by simpa using hin)]at hW2
  have all:∀(r:List Oper) (k:Nat),(∀i o,r[i]?=some o→l[k+i]?=some o)→Duties D P l.toArray (puts a ds 0) (starts a ds) (fun i u _=>u i=vals.getD i undef) (fun L w'=>(∀i,L i=true→∀j∈ancOf l.toArray D i,L j=true)∧W (stage stores L) w') Q r k:=by
   intro r
   induction r with
   |nil=>intro k _;trivial
   |cons x r ih =>
    intro k h
    exact⟨key k x (by have:=h 0 x rfl;simpa using this),ih (k+1) fun i o hi=>by rw[show k+1+i=k+(i+1)by omega];exact h (i+1) o (by simpa using hi)⟩
  exact all l 0 fun i o h=>by rw[Nat.zero_add];exact h
 ·intro u w' L hS hA hΦ
  have hlen:ds.length=l.length:=by rw[←hds];simp
  have e:puts a ds 0 u=puts a ds 0 fun k=>vals.getD k undef:=puts_congr ds a 0 _ _ fun i hi=>by rw[Nat.zero_add];exact hΦ i (by omega)
  have es:stage stores L=stores.length:=stage_all stores L fun s hs=>by
   refine hA s ?_
   have:=List.all_eq_true.1 hin s hs
   simpa using this
  rw[e]
  exact fin w' (es▸hS.2)
theorem wp_region_det' (D:Nat) {id:Nat} {l:List Oper} {a:Act} {w:World} (ds:List (Option Tmp)) (stores:List Nat) (win:List (Nat×Nat)) (W:Nat→World→Prop) (vals:List Value)
  (hm:P.follows .mixedOrders=true) (hw:laidWell l.toArray=true) (hsel:Region.noSelect l.toArray=true) (hds:l.map (·.dst)=ds) (hd:slotsApart ds=true) (hc:cleanB D l.toArray ds=true) (hwin:winB D l.toArray stores win=true)
  (hsz:(ds.all fun d=>match d with|some t=>decide (t<a.tmps.size)|none=>true)=true)
  (h0:W 0 w.drew)
  (steps:∀ρ:Operand→Value,(∀k t,ds[k]?=some (some t)→ρ (.tmp t)=vals.getD k undef)→(∀t,ds.contains (some t)=false→ρ (.tmp t)=a.eval (.tmp t))→(∀v,ρ (.const v)=v)→(∀f,ρ (.func f)=.func (.func f) #[] #[])→DetSteps P W stores ρ l vals win 0)
  (fin:∀w',W stores.length w'→Q .normal (puts a ds 0 fun k=>vals.getD k undef) w'):(Code.region id l.toArray true).wp P Q a w:=by
 refine wp_region_det D ds stores win W vals hm hw hsel hds hd hc hwin h0 (steps _ ?_ ?_ ?_ ?_) fin
 ·intro k t h
  have ht:=List.all_eq_true.1 hsz (some t) (List.mem_of_getElem? h)
  simp only[decide_eq_true_eq]at ht
  have:=puts_eval_in ds a 0 (fun k=>vals.getD k undef) k t hd h ht
  rwa[Nat.zero_add]at this
 ·intro t h
  exact puts_eval_out _ _ _ _ _ h
 ·intro v;rfl
 ·intro f;rfl
theorem DetSteps.pure {W:Nat→World→Prop} {stores:List Nat} {ρ:Operand→Value} {o:Oper} {l:List Oper} {v:Value} {vs:List Value} {lh:Nat×Nat} {ws:List (Nat×Nat)} {i:Nat} (hs:stores.contains i=false)
  (h:∀w,Step P o ρ w v w) (t:DetSteps P W stores ρ l vs ws (i+1)):DetSteps P W stores ρ (o::l) (v::vs) (lh::ws) i:=by
 refine⟨fun s w _ _ hW=>?_,t⟩
 rw[hs];exact(h w).pred hW
theorem DetSteps.load {W:Nat→World→Prop} {stores:List Nat} {ρ:Operand→Value} {o:Oper} {l:List Oper} {v:Value} {vs:List Value} {lo hi:Nat} {ws:List (Nat×Nat)} {i:Nat} (hs:stores.contains i=false)
  (h:∀s w,lo≤s→s≤hi→W s w→Step P o ρ w v w) (t:DetSteps P W stores ρ l vs ws (i+1)):DetSteps P W stores ρ (o::l) (v::vs) ((lo,hi)::ws) i:=by
 refine⟨fun s w h1 h2 hW=>?_,t⟩
 rw[hs];exact(h s w h1 h2 hW).pred hW
theorem DetSteps.call {W:Nat→World→Prop} {stores:List Nat} {ρ:Operand→Value} {o:Oper} {l:List Oper} {v:Value} {vs:List Value} {lo hi:Nat} {ws:List (Nat×Nat)} {i:Nat} (hs:stores.contains i=false)
  (h:∀s w,lo≤s→s≤hi→W s w→StepP P o ρ w v (W s)) (t:DetSteps P W stores ρ l vs ws (i+1)):DetSteps P W stores ρ (o::l) (v::vs) ((lo,hi)::ws) i:=by
 refine⟨fun s w h1 h2 hW=>?_,t⟩
 rw[hs];exact h s w h1 h2 hW
theorem DetSteps.store {W:Nat→World→Prop} {stores:List Nat} {ρ:Operand→Value} {o:Oper} {l:List Oper} {v:Value} {vs:List Value} {n:Nat} {ws:List (Nat×Nat)} {i:Nat} (hs:stores.contains i=true)
  (h:∀w,W n w→StepP P o ρ w v (W (n+1))) (t:DetSteps P W stores ρ l vs ws (i+1)):DetSteps P W stores ρ (o::l) (v::vs) ((n,n)::ws) i:=by
 refine⟨fun s w h1 h2 hW=>?_,t⟩
 have:s=n:=Nat.le_antisymm h2 h1
 subst this
 rw[hs];exact h w hW
def pick (l:List (World→Prop)) (s:Nat):World→Prop:=l.getD s fun _=>False
end
end Go.Proofs.Ytjccjmmbebiegaa
set_option linter.unusedVariables false
namespace Go.Proofs.Ytjccjmmbebiegaa
open Go.RowKit
structure After (U:World) where
 w:World
 h:Below U.heap.size U w
instance (U:World):Nonempty (After U):=⟨⟨U,Below.refl _ _⟩⟩
theorem After.cell {U:World} (x:After U) (b o:Nat) (hb:b<U.heap.size):x.w.cell? ⟨b,o,none⟩=U.cell? ⟨b,o,none⟩:=x.h.cell (p:=⟨b,o,none⟩) hb
theorem Calls.grow {P:Program} {U:World} {x:After U} {f:FuncId} {args:Array Value} {v:Value} (h:Below U.heap.size U x.w→Calls P f args x.w fun e w'=>e=.returned v∧Below x.w.heap.size x.w w'):Calls P f args x.w fun e w''=>e=.returned v∧∃y:After U,w''=y.w :=
 (h x.h).mono fun e w' ⟨h1,h2⟩=>⟨h1,⟨w',x.h.trans (h2.mono x.h.size)⟩,rfl⟩
end Go.Proofs.Ytjccjmmbebiegaa
