/-
 Texts joined and made small by wip/small.sh.
-/
import Derived.Test.YtnepgggkgnckcaaGreatJ3
import Derived.WalkKit
import Derived.Test.YtnepgggkgnckcaaGreatProg
import Derived.Lib.BitFns
import Derived.Lib.ItoaNum
import Derived.Lib.Small
import Derived.Lib.Strings
import Derived.Lib.Slices
import Derived.Lib.Walk
import Derived.WalkSpells
import Derived.WalkLawsBesides
import Derived.Deep.QuietTactic
import Derived.BigQuiet
import Derived.Lib.Hide
import Derived.WalkSmall
import Derived.Lib.SliceRun
import Derived.Orders
import Derived.Deep.AppendLies
import Derived.Below
import Derived.LoopN
import Derived.IntWalk
import Derived.Deep.RegionHeld3
import Derived.RegionTactic
import Derived.ChangeAlike
import Derived.Deep.RegionLaw
import Derived.StillTailTactics
import Derived.Deep.Cut
import Derived.Lib.Bytealg
set_option linter.unusedVariables false
set_option linter.unusedSimpArgs false
namespace Go.Proofs.YtnepgggkgnckcaaGreat
open Go.RowKit
section
set_option linter.unnecessarySimpa false
def kE (v:Int):Bool:=decide (-288230376151711744≤v)&&decide (v≤288230376151711744)
theorem dW {v:Int}:kE v=true↔-288230376151711744≤v∧v≤288230376151711744:=by simp[kE]
structure iM (v:Int):Prop where
 lo:-9223372036854775808≤v
 hi:v≤9223372036854775807
theorem Me {v:Int} (h:(Lit.int .i64 v).wf=true):iM v:=by
 simp[Lit.wf,IntKind.min,IntKind.max,IntKind.signed,IntKind.bits]at h
 exact⟨by omega,by omega⟩
def eY (a b:Int):Bool:=kE a&&kE b&&kE (wrap64 (a+b))
theorem nY {a b:Int}:eY a b=true↔kE a=true∧kE b=true∧kE (a+b)=true:=by
 simp only[eY,Bool.and_eq_true,dW];unfold wrap64;omega
def mI (a b:Int):Int:=if eY a b then a+b else 0
def lL (a b:Int):Int:=if eY a b then 0 else 2
def bS (n:Int):List Int→Option Int
 |[]=>some n
 |z::zs=>if eY n z then bS (n+z) zs else none
def cU (l:List Int):Int:=(bS 0 l).getD 0
def cY (l:List Int):Int:=if(bS 0 l).isSome then 0 else 2
theorem Aw {a b n m:Int} (h0:0≤a) (h1:a≤n) (h2:0≤b) (h3:b≤m):0≤a*b∧a*b≤n*m :=
 ⟨Int.mul_nonneg h0 h2,Int.mul_le_mul h1 h3 h2 (by omega)⟩
theorem aav (xh xl yh yl:Int):(xh*4294967296+xl)*(yh*4294967296+yl)=xh*yh*18446744073709551616+(xh*yl+xl*yh)*4294967296+xl*yl:=by
 rw[Int.add_mul,Int.mul_add,Int.mul_add];have e1:xh*4294967296*(yh*4294967296)=xh*yh*18446744073709551616:=by
  rw[Int.mul_assoc,Int.mul_comm 4294967296 (yh*4294967296),Int.mul_assoc,←Int.mul_assoc xh yh];rfl
 have e2:xh*4294967296*yl=xh*yl*4294967296:=by
  rw[Int.mul_assoc,Int.mul_comm 4294967296 yl,←Int.mul_assoc]
 have e3:xl*(yh*4294967296)=xl*yh*4294967296:=by rw[←Int.mul_assoc]
 rw[e1,e2,e3,Int.add_mul];omega
structure Te (x y l0 l1 l2 l3:Int):Prop where
 e:x*y=l3*18446744073709551616+(l1+l2)*4294967296+l0
 b0:0≤l0∧l0≤18446744065119617025
 b1:0≤l1∧l1≤18446744065119617025
 b2:0≤l2∧l2≤18446744065119617025
 b3:0≤l3∧l3≤18446744065119617025
theorem adz (x y:Int) (hx:0≤x) (hx':x<18446744073709551616) (hy:0≤y) (hy':y<18446744073709551616) :
  Te x y (x%4294967296*(y%4294967296)) (x/4294967296*(y%4294967296)) (x%4294967296*(y/4294967296)) (x/4294967296*(y/4294967296)):=by
 have b (a c:Int) (h0:0≤a) (h1:a≤4294967295) (h2:0≤c) (h3:c≤4294967295):0≤a*c∧a*c≤18446744065119617025:=Aw h0 h1 h2 h3
 refine⟨?_,b _ _ (by omega) (by omega) (by omega) (by omega),b _ _ (by omega) (by omega) (by omega) (by omega),b _ _ (by omega) (by omega) (by omega) (by omega),b _ _ (by omega) (by omega) (by omega) (by omega)⟩
 rw[←aav];congr 1<;>omega
def u64 (v:Int):Int:=v%18446744073709551616
def iI (a b:Int):Int:=u64 a*u64 b/18446744073709551616
def jB (a b:Int):Int:=u64 a*u64 b%18446744073709551616
theorem xB (v:Int):0≤u64 v∧u64 v<18446744073709551616:=by unfold u64;omega
theorem MX {v:Int} (h:0≤v) (h':v<18446744073709551616):u64 v=v:=by unfold u64;omega
theorem yI (a b:Int):0≤iI a b∧iI a b<18446744073709551616:=by
 have h:=Aw (xB a).1 (show u64 a≤18446744073709551615 by have:=(xB a).2;omega) (xB b).1 (show u64 b≤18446744073709551615 by have:=(xB b).2;omega)
 unfold iI;omega
theorem uM (a b:Int):0≤jB a b∧jB a b<18446744073709551616:=by unfold jB;omega
theorem abu (a b:Int):iI a b*18446744073709551616+jB a b=u64 a*u64 b:=by unfold iI jB;omega
theorem Dn {x y l0 l1 l2 l3:Int} (h:Te x y l0 l1 l2 l3) :
  l3+l1/4294967296+l2/4294967296+(l0/4294967296+l1%4294967296+l2%4294967296)/4294967296=x*y/18446744073709551616:=by
 obtain⟨e,b0,b1,b2,b3⟩:=h;generalize x*y=t at *
 omega
theorem MU {x y l0 l1 l2 l3:Int} (h:Te x y l0 l1 l2 l3) :
  (l0/4294967296+l1%4294967296+l2%4294967296)*4294967296%18446744073709551616+l0%4294967296=x*y%18446744073709551616:=by
 obtain⟨e,b0,b1,b2,b3⟩:=h;generalize x*y=t at *
 omega
def T4 (a b c:Int):Int:=if a<0∨b<0∨c<1 then 1 else if a*b/c > 288230376151711744 then 2 else 0
def Ob (a b c:Int):Int:=if a<0∨b<0∨c<1 then 0 else if a*b/c > 288230376151711744 then 0 else a*b/c
def T0 (a b c:Int):Int:=if a<0∨b<0∨c<1 then 0 else if a*b/c > 288230376151711744 then 0 else a*b%c
def cV (v q n:Int):Int :=
 if n<1∨q<0∨q > n∨kE v=false then 0 else if v<0 then -(-v*q/n)else v*q/n
theorem iX {a b:Bool} (h:a=b):Ending.returned (.bool a)=.returned (.bool b):=by rw[h]
theorem pL {k:IntKind} {a b:Int} (h:a=b):Ending.returned (.int k a)=.returned (.int k b):=by rw[h]
theorem lZ {k j:IntKind} {a b c d:Int} (h1:a=c) (h2:b=d):Ending.returned (.tuple #[.int k a,.int j b])=.returned (.tuple #[.int k c,.int j d]):=by rw[h1,h2]
theorem TA {k j i:IntKind} {a b c d e f:Int} (h1:a=c) (h2:b=d) (h3:e=f):Ending.returned (.tuple #[.int k a,.int j b,.int i e])=.returned (.tuple #[.int k c,.int j d,.int i f]):=by rw[h1,h2,h3]
set_option maxRecDepth 100000 in
theorem aaE:(255:Int)<(Lib.len8tab.size:Int):=by
 have:Lib.len8tab.size=256:=by decide
 omega
theorem ado:∀n:Fin 256,(Lib.len8tab[n.val]?.map (·.toNat))=some (Lib.bitLen n.val):=by decide +kernel
theorem T7 (y:Int) (h0:0≤y) (h1:y≤255) (h:y.toNat<Lib.len8tab.size):wrap64 ((Lib.len8tab[y.toNat]'h).toNat:Int)=(Lib.bitLen y.toNat:Int):=by
 have e:=ado ⟨y.toNat,by omega⟩
 have b:Lib.bitLen y.toNat≤8:=Lib.bitLen_le8' y h0 h1
 simp only[getElem?_pos Lib.len8tab y.toNat h,Option.map_some,Option.some.injEq]at e;rw[e];unfold wrap64;omega
theorem qV (x y j:Int) (k:Nat) (hj:j=k) (hk:k≤56) (h0:0≤y) (h1:y≤255) (h:y.toNat<Lib.len8tab.size) (e:Lib.bitLen x.toNat=k+Lib.bitLen y.toNat) :
  wrap64 (j+wrap64 ((Lib.len8tab[y.toNat]'h).toNat:Int))=(Lib.bitLen x.toNat:Int):=by
 have b:Lib.bitLen y.toNat≤8:=Lib.bitLen_le8' y h0 h1
 rw[T7 y h0 h1 h,e];unfold wrap64;omega
theorem aaD (x:Int) (h0:0≤x) (h1:x≤255) (h:x.toNat<Lib.len8tab.size):wrap64 (wrap64 ((Lib.len8tab[x.toNat]'h).toNat:Int))=(Lib.bitLen x.toNat:Int):=by
 have b:Lib.bitLen x.toNat≤8:=Lib.bitLen_le8' x h0 h1
 rw[T7 x h0 h1 h];unfold wrap64;omega
theorem abO (x:Int) (h0:72057594037927936≤x) (h1:x≤18446744073709551615):Lib.bitLen x.toNat=56+Lib.bitLen (x/4294967296/65536/256).toNat:=by
 rw[show(x/4294967296/65536/256).toNat=x.toNat/72057594037927936 from by omega]
 exact Lib.bitLen_shift56 x.toNat (by omega) (by omega)
theorem abP (x:Int) (h0:281474976710656≤x) (h1:x≤18446744073709551615):Lib.bitLen x.toNat=48+Lib.bitLen (x/4294967296/65536).toNat:=by
 rw[show(x/4294967296/65536).toNat=x.toNat/281474976710656 from by omega]
 exact Lib.bitLen_shift48 x.toNat (by omega) (by omega)
theorem abQ (x:Int) (h0:1099511627776≤x) (h1:x≤18446744073709551615):Lib.bitLen x.toNat=40+Lib.bitLen (x/4294967296/256).toNat:=by
 rw[show(x/4294967296/256).toNat=x.toNat/1099511627776 from by omega]
 exact Lib.bitLen_shift40 x.toNat (by omega) (by omega)
theorem abR (x:Int) (h0:4294967296≤x) (h1:x≤18446744073709551615):Lib.bitLen x.toNat=32+Lib.bitLen (x/4294967296).toNat:=by
 rw[show(x/4294967296).toNat=x.toNat/4294967296 from by omega]
 exact Lib.bitLen_shift32 x.toNat (by omega) (by omega)
theorem abS (x:Int) (h0:16777216≤x) (h1:x≤18446744073709551615):Lib.bitLen x.toNat=24+Lib.bitLen (x/65536/256).toNat:=by
 rw[show(x/65536/256).toNat=x.toNat/16777216 from by omega]
 exact Lib.bitLen_shift24 x.toNat (by omega) (by omega)
theorem abT (x:Int) (h0:65536≤x) (h1:x≤18446744073709551615):Lib.bitLen x.toNat=16+Lib.bitLen (x/65536).toNat:=by
 rw[show(x/65536).toNat=x.toNat/65536 from by omega]
 exact Lib.bitLen_shift16 x.toNat (by omega) (by omega)
theorem ae1 (x:Int) (h0:256≤x) (h1:x≤18446744073709551615):Lib.bitLen x.toNat=8+Lib.bitLen (x/256).toNat:=by
 rw[show(x/256).toNat=x.toNat/256 from by omega]
 exact Lib.bitLen_shift8 x.toNat (by omega) (by omega)
set_option maxHeartbeats 1000000 in
set_option maxRecDepth 100000 in
theorem SU (x:Int) (w:World) (h0:0≤x) (h1:x≤18446744073709551615) :
  Calls Tryz.prog 230 #[.int .u64 x] w fun e w'=>e=.returned (.int .i64 (Lib.bitLen x.toNat))∧w=w':=by
 have hs:=aaE;go_enter Tryz.func230,Tryz.ntmps230
 go_wp2
 all_goals (go_ret;refine⟨pL ?_,rfl⟩)
 ·exact qV x _ _ 56 rfl (by omega) (by omega) (by omega) _ (abO x (by omega) h1)
 ·exact qV x _ _ 48 rfl (by omega) (by omega) (by omega) _ (abP x (by omega) h1)
 ·exact qV x _ _ 40 rfl (by omega) (by omega) (by omega) _ (abQ x (by omega) h1)
 ·exact qV x _ _ 32 rfl (by omega) (by omega) (by omega) _ (abR x (by omega) h1)
 ·exact qV x _ _ 24 rfl (by omega) (by omega) (by omega) _ (abS x (by omega) h1)
 ·exact qV x _ _ 16 rfl (by omega) (by omega) (by omega) _ (abT x (by omega) h1)
 ·exact qV x _ _ 8 rfl (by omega) (by omega) (by omega) _ (ae1 x (by omega) h1)
 ·exact aaD x h0 (by omega) _
def fX (y:Int):Nat:=64-Lib.bitLen y.toNat
theorem Ng (y:Int) (h0:0<y) (h1:y≤18446744073709551615) :
  fX y≤63∧9223372036854775808≤y*2 ^ fX y∧y*2 ^ fX y<18446744073709551616:=by
 have hb:=Lib.bitLenAux_bounds 64 y.toNat (by omega) (by omega)
 obtain⟨a,b,c⟩:=hb;change 1≤Lib.bitLen y.toNat at a
 change 2 ^ (Lib.bitLen y.toNat-1)≤y.toNat at b
 change y.toNat<2 ^ Lib.bitLen y.toNat at c
 have d:Lib.bitLen y.toNat≤64:=Lib.bitLen_le y.toNat 64 (by omega) (by omega)
 unfold fX;generalize Lib.bitLen y.toNat=n at *;obtain⟨m,rfl⟩:∃m:Nat,y=m:=⟨y.toNat,by omega⟩
 simp only[Int.toNat_natCast]at b c;have e1:2 ^ (n-1)*2 ^ (64-n)=2 ^ 63:=by rw[←Nat.pow_add];congr 1;omega
 have e2:2 ^ n*2 ^ (64-n)=2 ^ 64:=by rw[←Nat.pow_add];congr 1;omega
 have hp:0<2 ^ (64-n):=Nat.pow_pos (by omega)
 have f1:=Nat.mul_le_mul_right (2 ^ (64-n)) b
 have f2:=Nat.mul_lt_mul_of_pos_right c hp;rw[e1]at f1;rw[e2]at f2;have g:((m:Int)*2 ^ (64-n))=((m*2 ^ (64-n):Nat):Int):=by push_cast;rfl
 rw[g];refine⟨by omega,?_,?_⟩
 ·have:(2:Nat) ^ 63=9223372036854775808:=by decide
  omega
 ·have:(2:Nat) ^ 64=18446744073709551616:=by decide
  omega
set_option maxHeartbeats 400000 in
theorem zP (x:Int) (w:World) (h0:0<x) (h1:x≤18446744073709551615) :
  Calls Tryz.prog 204 #[.int .u64 x] w fun e w'=>e=.returned (.int .i64 (fX x))∧w=w':=by
 have d:Lib.bitLen x.toNat≤64:=Lib.bitLen_le x.toNat 64 (by omega) (by omega)
 go_enter Tryz.func204,Tryz.ntmps204
 go_wp2_with (go_at_call 230;refine(SU _ _ (by omega) (by omega)).mono ?_;rintro e w' ⟨rfl,rfl⟩)
 go_ret
 exact⟨pL (by unfold fX;omega),rfl⟩
set_option maxHeartbeats 400000 in
theorem oN (v:Int) (w:World) :
  Calls Tryz.prog 79 #[.int .i64 v] w fun e w'=>e=.returned (.bool (kE v))∧w=w':=by
 go_enter Tryz.func79,Tryz.ntmps79
 go_wp2
 all_goals (go_ret;exact⟨iX (by simp[kE];try omega),rfl⟩)
set_option maxHeartbeats 400000 in
theorem qM (v:Int) (w:World) :
  Calls Tryz.prog 144 #[.int .i64 v] w fun e w'=>e=.returned (.bool (kE v))∧w=w':=by
 go_enter Tryz.func144,Tryz.ntmps144
 go_wp2
 all_goals (go_ret;exact⟨iX (by simp[kE];try omega),rfl⟩)
theorem tmod_neg (v n:Int) (hn:0<n) (hn':n≤9223372036854775807) (h:v.tmod n<0):wrap64 (v.tmod n+n)=v%n:=by
 have h1:=Int.tmod_def v n;have h2:-n<v.tmod n:=Int.lt_tmod_of_pos v hn
 have h3:(v.tmod n+n)%n=v%n:=by
  rw[Int.add_emod_right,h1,Int.sub_mul_emod_self_left]
 rw[←h3,Int.emod_eq_of_lt (by omega) (by omega)]
 unfold wrap64;omega
theorem abx (v n:Int) (hn:0<n) (h:0≤v.tmod n):v.tmod n=v%n:=by
 have h1:=Int.tmod_def v n;have h2:v.tmod n<n:=Int.tmod_lt_of_pos v hn
 have h3:(v.tmod n)%n=v%n:=by
  rw[h1,Int.sub_mul_emod_self_left]
 rw[←h3,Int.emod_eq_of_lt h (by omega)]
set_option maxHeartbeats 400000 in
theorem PJ (v n:Int) (w:World) (hn:0<n) (hn':n≤9223372036854775807) :
  Calls Tryz.prog 14 #[.int .i64 v,.int .i64 n] w fun e w'=>e=.returned (.int .i64 (v%n))∧w=w':=by
 go_enter Tryz.func14,Tryz.ntmps14
 go_wp2
 ·go_ret;exact⟨pL (tmod_neg v n hn hn' ‹_›),by first|rfl|trivial⟩
 ·go_ret;exact⟨pL (abx v n hn ‹_›),by first|rfl|trivial⟩
theorem Pt {a b:Int} (h1:kE a=true) (h2:kE b=true) (h:(!kE (wrap64 (a+b)))=false):wrap64 (a+b)=mI a b∧(0:Int)=lL a b:=by
 have h':kE (wrap64 (a+b))=true:=by simpa using h
 have:eY a b=true:=by simp[eY,h1,h2,h']
 simp only[mI,lL,this,if_true];rw[dW]at h1 h2;refine⟨?_,trivial⟩
 unfold wrap64;omega
theorem zF {a b:Int} (h:kE a=false∨kE b=false∨kE (wrap64 (a+b))=false):(0:Int)=mI a b∧(2:Int)=lL a b:=by
 have:eY a b=false:=by
  rcases h with h|h|h<;>simp[eY,h]
 simp[mI,lL,this]
set_option maxHeartbeats 400000 in
theorem yV (a b:Int) (w:World) :
  Calls Tryz.prog 37 #[.int .i64 a,.int .i64 b] w fun e w'=>e=.returned (.tuple #[.int .i64 (mI a b),.int .i64 (lL a b)])∧w=w':=by
 go_enter Tryz.func37,Tryz.ntmps37
 go_wp2_with (go_at_call 79;refine(oN _ _).mono ?_;rintro e w' ⟨rfl,rfl⟩)
 ·go_ret2;have h:=@zF a b (.inr (.inr (by simpa using ‹(!kE (wrap64 (a+b)))=true›)));exact⟨lZ h.1 h.2,by first|rfl|trivial⟩
 ·go_ret2;have h:=Pt ‹kE a=true› ‹kE b=true› ‹_›;exact⟨lZ h.1 h.2,by first|rfl|trivial⟩
 ·go_ret2;have h:=@zF a b (.inr (.inl (by simpa using ‹¬kE b=true›)));exact⟨lZ h.1 h.2,by first|rfl|trivial⟩
 ·go_ret2;have h:=@zF a b (.inl (by simpa using ‹¬kE a=true›));exact⟨lZ h.1 h.2,by first|rfl|trivial⟩
set_option maxHeartbeats 400000 in
theorem yP (a b:Int) (w:World) :
  Calls Tryz.prog 83 #[.int .i64 a,.int .i64 b] w fun e w'=>e=.returned (.tuple #[.int .i64 (mI a b),.int .i64 (lL a b)])∧w=w':=by
 go_enter Tryz.func83,Tryz.ntmps83
 go_wp2_with (go_at_call 144;refine(qM _ _).mono ?_;rintro e w' ⟨rfl,rfl⟩)
 ·go_ret2;have h:=@zF a b (.inr (.inr (by simpa using ‹(!kE (wrap64 (a+b)))=true›)));exact⟨lZ h.1 h.2,by first|rfl|trivial⟩
 ·go_ret2;have h:=Pt ‹kE a=true› ‹kE b=true› ‹_›;exact⟨lZ h.1 h.2,by first|rfl|trivial⟩
 ·go_ret2;have h:=@zF a b (.inr (.inl (by simpa using ‹¬kE b=true›)));exact⟨lZ h.1 h.2,by first|rfl|trivial⟩
 ·go_ret2;have h:=@zF a b (.inl (by simpa using ‹¬kE a=true›));exact⟨lZ h.1 h.2,by first|rfl|trivial⟩
theorem Cn {x:Int} (h:0≤x) (h':x<18446744073709551616):IntKind.u64.wrap (x.tdiv 4294967296)=x/4294967296:=by
 rw[Int.tdiv_eq_ediv_of_nonneg h,IntKind.wrap_u64];omega
theorem IS {x:Int} (h:0≤x):x.tmod 4294967296=x%4294967296:=Int.tmod_eq_emod_of_nonneg h
theorem wrap_small {x:Int} (h:0≤x) (h':x<18446744073709551616):IntKind.u64.wrap x=x:=by rw[IntKind.wrap_u64];omega
set_option maxHeartbeats 400000 in
theorem Ax (a b:Int) (w:World) :
  Calls Tryz.prog 162 #[.int .i64 a,.int .i64 b] w fun e w'=>e=.returned (.tuple #[.int .u64 (iI a b),.int .u64 (jB a b)])∧Below w.heap.size w w':=by
 go_enter Tryz.func162,Tryz.ntmps162
 go_wp2
 go_ret2
 have hx:=xB a;have hy:=xB b;have H:=adz (u64 a) (u64 b) hx.1 hx.2 hy.1 hy.2
 have e1:=Dn H;refine⟨lZ ?_ ?_,(Below.refl _ _).alloc (Nat.le_refl _) _⟩
 ·rw[show IntKind.u64.wrap a=u64 a from IntKind.wrap_u64 a,show IntKind.u64.wrap b=u64 b from IntKind.wrap_u64 b]
  simp only[Cn hx.1 hx.2,Cn hy.1 hy.2,IS hx.1,IS hy.1];unfold iI;rw[←e1];obtain⟨-,b0,b1,b2,b3⟩:=H;generalize u64 a%4294967296*(u64 b%4294967296)=l0 at *
  generalize u64 a/4294967296*(u64 b%4294967296)=l1 at *
  generalize u64 a%4294967296*(u64 b/4294967296)=l2 at *
  generalize u64 a/4294967296*(u64 b/4294967296)=l3 at *
  rw[wrap_small b0.1 (by omega),wrap_small b1.1 (by omega),wrap_small b2.1 (by omega),wrap_small b3.1 (by omega)]
  rw[Cn b0.1 (by omega),Cn b1.1 (by omega),Cn b2.1 (by omega),IS b1.1,IS b2.1]
  rw[wrap_small (x:=l0/4294967296+l1%4294967296) (by omega) (by omega),wrap_small (x:=l0/4294967296+l1%4294967296+l2%4294967296) (by omega) (by omega)]
  rw[Cn (x:=l0/4294967296+l1%4294967296+l2%4294967296) (by omega) (by omega)]
  rw[wrap_small (x:=l3+l1/4294967296) (by omega) (by omega)]
  rw[wrap_small (x:=l3+l1/4294967296+l2/4294967296) (by omega) (by omega)]
  rw[wrap_small (by omega) (by omega)]
 ·rw[show IntKind.u64.wrap a=u64 a from IntKind.wrap_u64 a,show IntKind.u64.wrap b=u64 b from IntKind.wrap_u64 b,IntKind.wrap_u64]
  rfl
theorem mG (x:Int) (h:0≤x) (h':x<18446744073709551616):bits BinOp.and IntKind.u64 x 4294967295=x%4294967296:=by
 have e:=bits_and_u64_nat x.toNat 4294967295 (by omega) (by omega)
 rw[show(4294967295:Nat)=2 ^ 32-1 from rfl,Nat.and_two_pow_sub_one_eq_mod]at e
 rw[Int.toNat_of_nonneg h]at e;refine e.trans ?_
 omega
theorem RY (x y:Int) (h:0≤x) (h':x<18446744073709551616) (hd:x%4294967296=0) (hy:0≤y) (hy':y<4294967296):bits BinOp.or IntKind.u64 x y=x+y:=by
 have e:=bits_or_u64_nat x.toNat y.toNat (by omega) (by omega)
 rw[Int.toNat_of_nonneg h,Int.toNat_of_nonneg hy]at e;refine e.trans ?_
 obtain⟨k,hk⟩:∃k:Nat,x.toNat=2 ^ 32*k:=⟨x.toNat/4294967296,by omega⟩
 rw[hk,←Nat.two_pow_add_eq_or_of_lt (by omega)]
 omega
set_option maxHeartbeats 400000 in
theorem xH (a b:Int) (w:World) :
  Calls Tryz.prog 182 #[.int .i64 a,.int .i64 b] w fun e w'=>e=.returned (.tuple #[.int .u64 (iI a b),.int .u64 (jB a b)])∧w=w':=by
 go_enter Tryz.func182,Tryz.ntmps182
 go_wp2
 go_ret2
 have hx:=xB a;have hy:=xB b;have H:=adz (u64 a) (u64 b) hx.1 hx.2 hy.1 hy.2
 have e1:=Dn H;have e2:=MU H;refine⟨lZ ?_ ?_,by first|rfl|trivial⟩
 all_goals
  rw[show IntKind.u64.wrap a=u64 a from IntKind.wrap_u64 a,show IntKind.u64.wrap b=u64 b from IntKind.wrap_u64 b]
  rw[mG (u64 a) hx.1 hx.2,mG (u64 b) hy.1 hy.2];first|unfold iI;rw[←e1]|unfold jB;rw[←e2]
  clear e1 e2;obtain⟨-,b0,b1,b2,b3⟩:=H;generalize u64 a%4294967296*(u64 b%4294967296)=l0 at *
  generalize u64 a/4294967296*(u64 b%4294967296)=l1 at *
  generalize u64 a%4294967296*(u64 b/4294967296)=l2 at *
  generalize u64 a/4294967296*(u64 b/4294967296)=l3 at *
  simp only[wrap_small b0.1 (by omega),wrap_small b1.1 (by omega),wrap_small b2.1 (by omega),wrap_small b3.1 (by omega),mG l0 b0.1 (by omega),mG l1 b1.1 (by omega),mG l2 b2.1 (by omega)]
 ·rw[wrap_small (x:=l0/4294967296+l2%4294967296) (by omega) (by omega),wrap_small (x:=l0/4294967296+l2%4294967296+l1%4294967296) (by omega) (by omega)]
  rw[wrap_small (x:=l3+l2/4294967296) (by omega) (by omega)]
  rw[wrap_small (x:=l3+l2/4294967296+l1/4294967296) (by omega) (by omega)]
  rw[wrap_small (by omega) (by omega)]
  omega
 ·rw[wrap_small (x:=l0/4294967296+l2%4294967296) (by omega) (by omega),wrap_small (x:=l0/4294967296+l2%4294967296+l1%4294967296) (by omega) (by omega)]
  rw[IntKind.wrap_u64,RY _ _ (by omega) (by omega) (by omega) (by omega) (by omega)]
  omega
structure Est (u d Y q r:Int):Prop where
 y:9223372036854775808≤Y∧Y<18446744073709551616
 ub:0≤u∧u<Y
 db:0≤d∧d<4294967296
 e:q*(Y/4294967296)+r=u
 qb:0≤q∧q≤4294967297
 rb:0≤r∧r<4294967296
 big:u*4294967296+d<(q+1)*Y
theorem Bj (q Y:Int):q*Y=q*(Y/4294967296)*4294967296+q*(Y%4294967296):=by
 have h:Y=Y/4294967296*4294967296+Y%4294967296:=by omega
 have h2:q*Y=q*(Y/4294967296*4294967296+Y%4294967296):=by rw[←h]
 rw[h2,Int.mul_add,←Int.mul_assoc]
theorem uW {u d Y:Int} (hY:9223372036854775808≤Y∧Y<18446744073709551616) (hu:0≤u∧u<Y) (hd:0≤d∧d<4294967296) :
  Est u d Y (u/(Y/4294967296)) (u-u/(Y/4294967296)*(Y/4294967296)):=by
 have hy1:2147483648≤Y/4294967296∧Y/4294967296≤4294967295:=by omega
 have e:=Int.mul_ediv_add_emod u (Y/4294967296)
 have r0:=Int.emod_nonneg u (show Y/4294967296≠0 by omega)
 have r1:=Int.emod_lt_of_pos u (show 0<Y/4294967296 by omega)
 have q0:0≤u/(Y/4294967296):=Int.ediv_nonneg hu.1 (by omega)
 have q1:u/(Y/4294967296)<4294967298:=by
  apply Int.ediv_lt_of_lt_mul (by omega)
  omega
 rw[Int.mul_comm]at e;have p:=Bj (u/(Y/4294967296)+1) Y
 have m:=Int.mul_nonneg (show 0≤u/(Y/4294967296)+1 by omega) (show 0≤Y%4294967296 by omega)
 rw[Int.add_mul,Int.one_mul]at p;rw[show(u/(Y/4294967296)+1)*(Y/4294967296)=u/(Y/4294967296)*(Y/4294967296)+Y/4294967296 by rw[Int.add_mul,Int.one_mul]]at p
 refine⟨hY,hu,hd,by omega,⟨q0,by omega⟩,by omega,?_⟩
 rw[Int.add_mul,Int.one_mul];generalize u/(Y/4294967296)*(Y/4294967296)=a at *
 generalize u/(Y/4294967296)*Y=b at *
 generalize (u/(Y/4294967296)+1)*(Y%4294967296)=c at *
 generalize u%(Y/4294967296)=r at *
 omega
theorem adK {u d Y q r:Int} (h:Est u d Y q r) (hq:q*(Y%4294967296)≤4294967296*r+d):q*Y≤u*4294967296+d:=by
 have p:=Bj q Y;have e:=h.e;generalize q*(Y/4294967296)=a at *
 generalize q*Y=b at *
 generalize q*(Y%4294967296)=c at *
 omega
theorem wE {u d Y q r:Int} (h:Est u d Y q r) (ht:4294967296≤q∨4294967296*r+d<q*(Y%4294967296)) :
  0<q∧q-1≤4294967296∧(q-1)*(Y/4294967296)+(r+Y/4294967296)=u∧u*4294967296+d<q*Y:=by
 obtain⟨hY,hu,hd,e,hq,hr,big⟩:=h;have p:=Bj q Y;have hy1:2147483648≤Y/4294967296∧Y/4294967296≤4294967295:=by omega
 have key:u*4294967296+d<q*Y:=by
  rcases ht with ht|ht
  ·have m:=Int.mul_le_mul_of_nonneg_right ht (show 0≤Y by omega)
   generalize q*Y=b at *
   omega
  ·generalize q*(Y/4294967296)=a at *
   generalize q*Y=b at *
   generalize q*(Y%4294967296)=c at *
   omega
 have q0:0<q:=by
  rcases Int.lt_or_le 0 q with h|h
  ·exact h
  ·exfalso
   obtain rfl:q=0:=by omega
   rw[Int.zero_mul]at key;omega
 refine⟨q0,by omega,?_,key⟩
 rw[Int.sub_mul,Int.one_mul];omega
theorem BL {u d Y q r:Int} (h:Est u d Y q r) (ht:4294967296≤q∨4294967296*r+d<q*(Y%4294967296)) (hr:r+Y/4294967296<4294967296) :
  Est u d Y (q-1) (r+Y/4294967296):=by
 obtain⟨q0,q1,e,k⟩:=wE h ht;have:=h.y;have:=h.rb;exact⟨h.y,h.ub,h.db,e,by omega,by omega,by rw[show q-1+1=q by omega];exact k⟩
theorem aaO {u d Y q r:Int} (h:Est u d Y q r) (ht:4294967296≤q∨4294967296*r+d<q*(Y%4294967296)) (hr:4294967296≤r+Y/4294967296) :
  (q-1)*Y≤u*4294967296+d:=by
 obtain⟨q0,q1,e,k⟩:=wE h ht;have p:=Bj (q-1) Y
 have hd:=h.db;have m:=Aw (show 0≤q-1 by omega) q1 (show 0≤Y%4294967296 by omega) (show Y%4294967296≤4294967295 by omega)
 generalize (q-1)*(Y/4294967296)=a at *
 generalize (q-1)*Y=b at *
 generalize (q-1)*(Y%4294967296)=c at *
 omega
structure DU (u d Y q:Int):Prop where
 le:q*Y≤u*4294967296+d
 lt:u*4294967296+d<q*Y+Y
 b:0≤q∧q<4294967296
theorem wG {u d Y q r:Int} (h:Est u d Y q r) (hb:q<4294967296) (hq:q*(Y%4294967296)≤4294967296*r+d):DU u d Y q:=by
 have:=h.big;rw[Int.add_mul,Int.one_mul]at this;exact⟨adK h hq,this,h.qb.1,hb⟩
theorem tP {u d Y q r:Int} (h:Est u d Y q r) (ht:4294967296≤q∨4294967296*r+d<q*(Y%4294967296)) (hr:4294967296≤r+Y/4294967296):DU u d Y (q-1):=by
 have a:=aaO h ht hr;obtain⟨q0,q1,e,k⟩:=wE h ht;have hu:=h.ub;have hd:=h.db;have hY:=h.y
 refine⟨a,by rw[Int.sub_mul,Int.one_mul];omega,by omega,?_⟩
 rcases Int.lt_or_le (q-1) 4294967296 with g|g
 ·exact g
 ·exfalso
  have m:=Int.mul_le_mul_of_nonneg_right g (show 0≤Y by omega)
  omega
theorem On {u d Y q:Int} (h:DU u d Y q) (hY:Y<18446744073709551616) :
  IntKind.u64.wrap (IntKind.u64.wrap (IntKind.u64.wrap (u*4294967296)+d)-IntKind.u64.wrap (q*Y))=u*4294967296+d-q*Y:=by
 obtain⟨a,b,-⟩:=h;simp only[IntKind.wrap_u64];generalize q*Y=t at *
 omega
theorem Gd {u d Y q:Int} (h:DU u d Y q) (hY:Y<18446744073709551616) :
  ∃V,IntKind.u64.wrap (IntKind.u64.wrap (IntKind.u64.wrap (u*4294967296)+d)-IntKind.u64.wrap (q*Y))=V∧V=u*4294967296+d-q*Y∧0≤V∧V<Y:=by
 refine⟨_,On h hY,rfl,?_,?_⟩
 ·have:=h.le;omega
 ·have:=h.lt;omega
theorem P4 {u d1 d0 Y q1 q0:Int} (h1:DU u d1 Y q1) (h0:DU (u*4294967296+d1-q1*Y) d0 Y q0) (hY:0<Y) :
  (u*18446744073709551616+(d1*4294967296+d0))/Y=q1*4294967296+q0 ∧
  (u*18446744073709551616+(d1*4294967296+d0))%Y=(u*4294967296+d1-q1*Y)*4294967296+d0-q0*Y:=by
 obtain⟨a1,b1,-⟩:=h1;obtain⟨a0,b0,-⟩:=h0;have e:u*18446744073709551616+(d1*4294967296+d0)=(u*4294967296+d1-q1*Y)*4294967296+d0-q0*Y+Y*(q1*4294967296+q0):=by
  rw[Int.mul_add,←Int.mul_assoc,Int.mul_comm Y q1,Int.mul_comm Y q0];generalize q1*Y=t at *
  generalize q0*Y=s at *
  omega
 rw[e];constructor
 ·rw[Int.add_mul_ediv_left _ _ (by omega),Int.ediv_eq_zero_of_lt (by omega) (by omega)];omega
 ·rw[Int.add_mul_emod_self_left,Int.emod_eq_of_lt (by omega) (by omega)]
theorem Tq {H y P:Int} (hP:0<P):H*P/(y*P)=H/y∧H*P%(y*P)=H%y*P:=by
 constructor
 ·exact Int.mul_ediv_mul_of_pos_left H y hP
 ·rw[Int.mul_comm H P,Int.mul_comm y P,Int.mul_emod_mul_of_pos H y hP,Int.mul_comm]
theorem zD {U L Y q1 q0 V H y P:Int} {s:Nat} (hP:P=2 ^ s) (hY:Y=y*P) (hy:0<y) (hyy:Y<18446744073709551616)
  (hU:U*18446744073709551616+L=H*P) (hq:H/y<18446744073709551616) (d1:DU U (L/4294967296) Y q1) (hV:V=U*4294967296+L/4294967296-q1*Y) (d0:DU V (L%4294967296) Y q0) :
  IntKind.u64.wrap (IntKind.u64.wrap (q1*4294967296)+q0)=H/y∧q1*4294967296+q0=H/y ∧
  IntKind.u64.wrap (IntKind.u64.wrap (IntKind.u64.wrap (V*4294967296)+L%4294967296)-IntKind.u64.wrap (q0*Y))/P=H%y:=by
 have hPp:0<P:=by rw[hP];exact Int.pow_pos (by omega)
 have hYp:0<Y:=by rw[hY];exact Int.mul_pos hy hPp
 rw[On d0 hyy];rw[hV]at d0 ⊢;have t:=P4 d1 d0 hYp;rw[show L/4294967296*4294967296+L%4294967296=L by omega,hU,hY]at t
 have sh:=@Tq H y P hPp
 rw[sh.1,sh.2]at t;refine⟨?_,t.1.symm,?_⟩
 ·rw[t.1]at hq ⊢
  have:=d1.b;have:=d0.b;simp only[IntKind.wrap_u64];omega
 ·rw[hY,←t.2]
  exact Int.mul_ediv_cancel _ (by omega)
set_option maxHeartbeats 400000 in
theorem Tg (lo y:Int) (w:World) (hl:0≤lo) (hl':lo<18446744073709551616) (hy:0<y) :
  Calls Tryz.prog 163 #[.int .u64 0,.int .u64 lo,.int .u64 y] w fun e w'=>e=.returned (.tuple #[.int .u64 (lo/y),.int .u64 (lo%y)])∧Below w.heap.size w w':=by
 have hy0:(y==0)=false:=by simp;omega
 go_enter Tryz.func163,Tryz.ntmps163
 go_wp2
 go_quiet (fail)
 go_wp2
 go_ret2
 have e0:=Int.ediv_nonneg hl (show 0≤y by omega)
 have e1:=Int.ediv_le_self y hl;refine⟨lZ ?_ ?_,below_drewN (Below.refl _ _) _⟩
 ·rfl
 ·rfl
theorem acW (x z:Int) (k:Nat) (hk:k≤63) (h:0≤x) (h':x*2 ^ k<18446744073709551616) (hz:0≤z) (hz':z<18446744073709551616) :
  bits BinOp.or IntKind.u64 (IntKind.u64.wrap (x*2 ^ k)) (z/2 ^ (64-k))=x*2 ^ k+z/2 ^ (64-k):=by
 obtain⟨n,rfl⟩:∃n:Nat,x=n:=⟨x.toNat,by omega⟩
 obtain⟨m,rfl⟩:∃m:Nat,z=m:=⟨z.toNat,by omega⟩
 have c1:((n:Int)*2 ^ k)=((n*2 ^ k:Nat):Int):=by push_cast;rfl
 have c2:((m:Int)/2 ^ (64-k))=((m/2 ^ (64-k):Nat):Int):=by push_cast;rfl
 have hm:m/2 ^ (64-k)<2 ^ k:=by
  apply Nat.div_lt_of_lt_mul
  rw[←Nat.pow_add,show 64-k+k=64 by omega]
  omega
 have hm2:m/2 ^ (64-k)≤m:=Nat.div_le_self _ _
 rw[c1]at h' ⊢;rw[wrap_small (by omega) h',c2,bits_or_u64_nat _ _ (by omega) (by omega)]
 rw[Nat.mul_comm n,←Nat.two_pow_add_eq_or_of_lt hm];push_cast;rfl
theorem Nf (hi lo y:Int) (k:Nat) (hk:k≤63) (h:0≤hi) (h':hi<y) (hl:0≤lo) (hl':lo<18446744073709551616) (hY:y*2 ^ k<18446744073709551616) :
  bits BinOp.or IntKind.u64 (IntKind.u64.wrap (hi*2 ^ k)) (lo/2 ^ (64-k))*18446744073709551616+IntKind.u64.wrap (lo*2 ^ k)=(hi*18446744073709551616+lo)*2 ^ k ∧
  0≤bits BinOp.or IntKind.u64 (IntKind.u64.wrap (hi*2 ^ k)) (lo/2 ^ (64-k))∧bits BinOp.or IntKind.u64 (IntKind.u64.wrap (hi*2 ^ k)) (lo/2 ^ (64-k))<y*2 ^ k:=by
 have pp:(0:Int)<2 ^ k:=Int.pow_pos (by omega)
 have hh:hi*2 ^ k<y*2 ^ k:=Int.mul_lt_mul_of_pos_right h' pp
 rw[acW hi lo k hk h (by omega) hl hl']
 have qp:(0:Int)<2 ^ (64-k):=Int.pow_pos (by omega)
 have pq:(2:Int) ^ (64-k)*2 ^ k=18446744073709551616:=by
  rw[←Int.pow_add,show 64-k+k=64 by omega];rfl
 have d:=Int.mul_ediv_add_emod lo (2 ^ (64-k))
 have r0:=Int.emod_nonneg lo (show(2:Int) ^ (64-k)≠0 by omega)
 have r1:=Int.emod_lt_of_pos lo qp;have z0:0≤lo/2 ^ (64-k):=Int.ediv_nonneg hl (by omega)
 have e:lo*2 ^ k=lo/2 ^ (64-k)*18446744073709551616+lo%2 ^ (64-k)*2 ^ k:=by
  conv=>lhs;rw[←d]
  rw[Int.add_mul,Int.mul_comm (2 ^ (64-k)) (lo/2 ^ (64-k)),Int.mul_assoc,pq]
 have b1:lo%2 ^ (64-k)*2 ^ k<18446744073709551616:=by
  rw[←pq];exact Int.mul_lt_mul_of_pos_right r1 pp
 have b0:0≤lo%2 ^ (64-k)*2 ^ k:=Int.mul_nonneg r0 (by omega)
 have w1:IntKind.u64.wrap (lo*2 ^ k)=lo%2 ^ (64-k)*2 ^ k:=by
  rw[IntKind.wrap_u64,e];generalize lo%2 ^ (64-k)*2 ^ k=t at *
  generalize lo/2 ^ (64-k)=v at *
  omega
 rw[w1];have lt1:lo/2 ^ (64-k)<2 ^ k:=by
  apply Int.ediv_lt_of_lt_mul qp
  rw[Int.mul_comm,pq];exact hl'
 have hn:0≤hi*2 ^ k:=Int.mul_nonneg h (by omega)
 refine⟨?_,by omega,?_⟩
 ·rw[Int.add_mul (hi*18446744073709551616),e]
  rw[show hi*18446744073709551616*2 ^ k=hi*2 ^ k*18446744073709551616 by rw[Int.mul_assoc,Int.mul_comm 18446744073709551616,←Int.mul_assoc]]
  generalize lo%2 ^ (64-k)*2 ^ k=t at *
  generalize lo/2 ^ (64-k)=v at *
  generalize hi*2 ^ k=u at *
  omega
 ·have h1:=Int.mul_le_mul_of_nonneg_right (show hi+1≤y by omega) (show(0:Int)≤2 ^ k by omega)
  rw[Int.add_mul,Int.one_mul]at h1;omega
theorem vO {U Y:Int} (hY:9223372036854775808≤Y∧Y<18446744073709551616) (h0:0≤U) (h1:U<Y) :
  IntKind.u64.wrap (U-IntKind.u64.wrap (U/(Y/4294967296)*(Y/4294967296)))=U-U/(Y/4294967296)*(Y/4294967296):=by
 have E:=@uW U 0 Y hY ⟨h0,h1⟩ (by omega)
 have:=E.rb;have:=E.e;have m:=Int.mul_nonneg E.qb.1 (show 0≤Y/4294967296 by omega)
 simp only[IntKind.wrap_u64];omega
set_option maxHeartbeats 1000000 in
theorem Th (hi lo y:Int) (w:World) (h:0<hi) (h':hi<y) (hl:0≤lo) (hl':lo<18446744073709551616) (hy':y<18446744073709551616) :
  Calls Tryz.prog 163 #[.int .u64 hi,.int .u64 lo,.int .u64 y] w fun e w'=>e=.returned (.tuple #[.int .u64 ((hi*18446744073709551616+lo)/y),.int .u64 ((hi*18446744073709551616+lo)%y)])∧Below w.heap.size w w':=by
 have hy0:(y==0)=false:=by simp;omega
 have hy:0<y:=by omega
 have hH:(hi*18446744073709551616+lo)/y<18446744073709551616:=by
  apply Int.ediv_lt_of_lt_mul hy
  omega
 obtain⟨s63,y1,y2⟩:=Ng y (by omega) (by omega)
 have k1:IntKind.u64.wrap ↑(fX y)=((fX y:Nat):Int):=wrap_small (by omega) (by omega)
 have k2:min (IntKind.u64.wrap ↑(fX y)).toNat 64=fX y:=by rw[k1];omega
 have k3:min (IntKind.u64.wrap (64-IntKind.u64.wrap ↑(fX y))).toNat 64=64-fX y:=by
  rw[k1,wrap_small (by omega) (by omega)];omega
 have K1:=Lib.hid k1;have K2:=Lib.hid k2;have K3:=Lib.hid k3;clear k1 k2 k3
 have S:=Nf hi lo y (fX y) s63 (by omega) h' hl hl' y2
 have T:=@Tq (hi*18446744073709551616+lo) y (2 ^ fX y) (Int.pow_pos (by omega))
 have HY:IntKind.u64.wrap (y*2 ^ fX y)=y*2 ^ fX y:=wrap_small (by omega) y2
 obtain⟨S1,S2,S3⟩:=S;have HS1:=Lib.hid S1;have HT:=Lib.hid T;have HY:=Lib.hid HY;clear S1 T
 go_enter Tryz.func163,Tryz.ntmps163
 go_wp2_with (go_at_call 204;refine(zP _ _ (by omega) (by omega)).mono ?_;rintro e w' ⟨rfl,rfl⟩)
 generalize hgu:bits BinOp.or IntKind.u64 (IntKind.u64.wrap (hi*2 ^ fX y)) (lo/2 ^ (64-fX y))=U at *
 generalize hgl:IntKind.u64.wrap (lo*2 ^ fX y)=L at *
 have L0:0≤L∧L<18446744073709551616:=by rw[←hgl,IntKind.wrap_u64];omega
 rw[mG L L0.1 L0.2];have hyy:=y2;generalize hgy:y*2 ^ fX y=Y at *
 rw[mG Y (by omega) (by omega)]
 clear hgu hgl;have Hgy:=Lib.hid hgy;clear hgy
 have Hs:IntKind.u64.wrap ↑(fX y)=((fX y:Nat):Int):=K1.out
 have E:=@uW U (L/4294967296) Y ⟨y1,y2⟩ ⟨S2,S3⟩ (by omega)
 have e16:=vO ⟨y1,y2⟩ S2 S3
 rw[e16];clear Hs e16;go_loop [15,16] (fun q r=>∃a b:Int,q=.int .u64 a∧r=.int .u64 b∧Est U (L/4294967296) Y a b) (fun q _=>(intOf q).toNat)
 case atStart=>exact⟨_,_,rfl,rfl,E⟩
 case round =>
  obtain⟨q,r,rfl,rfl,E⟩:=hrel;have E':=E;obtain⟨-,-,hd,He,hq,hr,Hbig⟩:=E';have He:=Lib.hid He;have hw:q<4294967296→IntKind.u64.wrap (q*(Y%4294967296))=q*(Y%4294967296):=fun g=>by
   have m:=Aw hq.1 (show q≤4294967295 by omega) (show 0≤Y%4294967296 by omega) (show Y%4294967296≤4294967295 by omega)
   exact wrap_small m.1 (by omega)
  have hw:=Lib.hid hw;by_cases t:4294967296≤q∨4294967296*r+L/4294967296<q*(Y%4294967296)
  ·have low:=wE E t
   obtain⟨q0,q1,-,-⟩:=low;by_cases c:r+Y/4294967296<4294967296
   ·have N:=BL E t c
    clear Hbig;by_cases c2:4294967296≤q
    ·clear t
     go_wp2
     go_round
     case rel=>exact⟨_,_,rfl,rfl,N⟩
     case measure=>simp[intOf];omega
    ·have t2:4294967296*r+L/4294967296<IntKind.u64.wrap (q*(Y%4294967296)):=by rw[hw.out (by omega)];omega
     clear t;go_wp2
     go_round
     case rel=>exact⟨_,_,rfl,rfl,N⟩
     case measure=>simp[intOf];omega
   ·have D:=tP E t (by omega)
    obtain⟨V,hV1,hV2,V0,V1⟩:=Gd D y2;have HV2:=Lib.hid hV2;clear hV2 Hbig;by_cases c2:4294967296≤q
    ·clear t
     go_wp2
     have e16:IntKind.u64.wrap (V-IntKind.u64.wrap (V/(Y/4294967296)*(Y/4294967296)))=V-V/(Y/4294967296)*(Y/4294967296):=vO ⟨y1,y2⟩ V0 V1
     have E0:=@uW V (L%4294967296) Y ⟨y1,y2⟩ ⟨V0,V1⟩ (by omega)
     rw[e16];clear e16 E hw He hV1;go_loop [18,16] (fun q r=>∃a b:Int,q=.int .u64 a∧r=.int .u64 b∧Est V (L%4294967296) Y a b) (fun q _=>(intOf q).toNat)
     case atStart=>exact⟨_,_,rfl,rfl,E0⟩
     case round =>
      clear E0;obtain⟨p,o,rfl,rfl,E⟩:=hrel;have E':=E;obtain⟨-,-,gd,Ge,gq,gr,Gbig⟩:=E';have Ge:=Lib.hid Ge;have gw:p<4294967296→IntKind.u64.wrap (p*(Y%4294967296))=p*(Y%4294967296):=fun g=>by
       have m:=Aw gq.1 (show p≤4294967295 by omega) (show 0≤Y%4294967296 by omega) (show Y%4294967296≤4294967295 by omega)
       exact wrap_small m.1 (by omega)
      have gw:=Lib.hid gw;by_cases s:4294967296≤p∨4294967296*o+L%4294967296<p*(Y%4294967296)
      ·have low:=wE E s
       obtain⟨p0,p1,-,-⟩:=low;by_cases c:o+Y/4294967296<4294967296
       ·have N:=BL E s c
        clear Gbig;by_cases c2:4294967296≤p
        ·clear s
         go_wp2
         go_round
         case rel=>exact⟨_,_,rfl,rfl,N⟩
         case measure=>simp[intOf];omega
        ·have s2:4294967296*o+L%4294967296<IntKind.u64.wrap (p*(Y%4294967296)):=by rw[gw.out (by omega)];omega
         clear s;go_wp2
         go_round
         case rel=>exact⟨_,_,rfl,rfl,N⟩
         case measure=>simp[intOf];omega
       ·have D0:=tP E s (by omega)
        have R:=zD rfl Hgy.out.symm hy hyy HS1.out hH D HV2.out D0;clear Gbig;by_cases c2:4294967296≤p
        ·clear s
         go_wp2
         go_ret2
         exact⟨by first|rfl|trivial,Below.refl _ _⟩
        ·have s2:4294967296*o+L%4294967296<IntKind.u64.wrap (p*(Y%4294967296)):=by rw[gw.out (by omega)];omega
         clear s;go_wp2
         go_ret2
         exact⟨by first|rfl|trivial,Below.refl _ _⟩
      ·have D0:=wG E (by omega) (by omega)
       have R:=zD rfl Hgy.out.symm hy hyy HS1.out hH D HV2.out D0;clear Gbig;have s2:¬ 4294967296*o+L%4294967296<IntKind.u64.wrap (p*(Y%4294967296)):=by rw[gw.out (by omega)];omega
       have s3:¬ 4294967296≤p:=by omega
       clear s;go_wp2
       go_ret2
       exact⟨by first|rfl|trivial,Below.refl _ _⟩
    ·have t2:4294967296*r+L/4294967296<IntKind.u64.wrap (q*(Y%4294967296)):=by rw[hw.out (by omega)];omega
     clear t;go_wp2
     have e16:IntKind.u64.wrap (V-IntKind.u64.wrap (V/(Y/4294967296)*(Y/4294967296)))=V-V/(Y/4294967296)*(Y/4294967296):=vO ⟨y1,y2⟩ V0 V1
     have E0:=@uW V (L%4294967296) Y ⟨y1,y2⟩ ⟨V0,V1⟩ (by omega)
     rw[e16];clear e16 E hw He hV1;go_loop [18,16] (fun q r=>∃a b:Int,q=.int .u64 a∧r=.int .u64 b∧Est V (L%4294967296) Y a b) (fun q _=>(intOf q).toNat)
     case atStart=>exact⟨_,_,rfl,rfl,E0⟩
     case round =>
      clear E0;obtain⟨p,o,rfl,rfl,E⟩:=hrel;have E':=E;obtain⟨-,-,gd,Ge,gq,gr,Gbig⟩:=E';have Ge:=Lib.hid Ge;have gw:p<4294967296→IntKind.u64.wrap (p*(Y%4294967296))=p*(Y%4294967296):=fun g=>by
       have m:=Aw gq.1 (show p≤4294967295 by omega) (show 0≤Y%4294967296 by omega) (show Y%4294967296≤4294967295 by omega)
       exact wrap_small m.1 (by omega)
      have gw:=Lib.hid gw;by_cases s:4294967296≤p∨4294967296*o+L%4294967296<p*(Y%4294967296)
      ·have low:=wE E s
       obtain⟨p0,p1,-,-⟩:=low;by_cases c:o+Y/4294967296<4294967296
       ·have N:=BL E s c
        clear Gbig;by_cases c2:4294967296≤p
        ·clear s
         go_wp2
         go_round
         case rel=>exact⟨_,_,rfl,rfl,N⟩
         case measure=>simp[intOf];omega
        ·have s2:4294967296*o+L%4294967296<IntKind.u64.wrap (p*(Y%4294967296)):=by rw[gw.out (by omega)];omega
         clear s;go_wp2
         go_round
         case rel=>exact⟨_,_,rfl,rfl,N⟩
         case measure=>simp[intOf];omega
       ·have D0:=tP E s (by omega)
        have R:=zD rfl Hgy.out.symm hy hyy HS1.out hH D HV2.out D0;clear Gbig;by_cases c2:4294967296≤p
        ·clear s
         go_wp2
         go_ret2
         exact⟨by first|rfl|trivial,Below.refl _ _⟩
        ·have s2:4294967296*o+L%4294967296<IntKind.u64.wrap (p*(Y%4294967296)):=by rw[gw.out (by omega)];omega
         clear s;go_wp2
         go_ret2
         exact⟨by first|rfl|trivial,Below.refl _ _⟩
      ·have D0:=wG E (by omega) (by omega)
       have R:=zD rfl Hgy.out.symm hy hyy HS1.out hH D HV2.out D0;clear Gbig;have s2:¬ 4294967296*o+L%4294967296<IntKind.u64.wrap (p*(Y%4294967296)):=by rw[gw.out (by omega)];omega
       have s3:¬ 4294967296≤p:=by omega
       clear s;go_wp2
       go_ret2
       exact⟨by first|rfl|trivial,Below.refl _ _⟩
  ·have D:=wG E (by omega) (by omega)
   obtain⟨V,hV1,hV2,V0,V1⟩:=Gd D y2;have HV2:=Lib.hid hV2;clear hV2 Hbig;have t2:¬ 4294967296*r+L/4294967296<IntKind.u64.wrap (q*(Y%4294967296)):=by rw[hw.out (by omega)];omega
   have t3:¬ 4294967296≤q:=by omega
   clear t;go_wp2
   have e16:IntKind.u64.wrap (V-IntKind.u64.wrap (V/(Y/4294967296)*(Y/4294967296)))=V-V/(Y/4294967296)*(Y/4294967296):=vO ⟨y1,y2⟩ V0 V1
   have E0:=@uW V (L%4294967296) Y ⟨y1,y2⟩ ⟨V0,V1⟩ (by omega)
   rw[e16];clear e16 E hw He hV1;go_loop [18,16] (fun q r=>∃a b:Int,q=.int .u64 a∧r=.int .u64 b∧Est V (L%4294967296) Y a b) (fun q _=>(intOf q).toNat)
   case atStart=>exact⟨_,_,rfl,rfl,E0⟩
   case round =>
    clear E0;obtain⟨p,o,rfl,rfl,E⟩:=hrel;have E':=E;obtain⟨-,-,gd,Ge,gq,gr,Gbig⟩:=E';have Ge:=Lib.hid Ge;have gw:p<4294967296→IntKind.u64.wrap (p*(Y%4294967296))=p*(Y%4294967296):=fun g=>by
     have m:=Aw gq.1 (show p≤4294967295 by omega) (show 0≤Y%4294967296 by omega) (show Y%4294967296≤4294967295 by omega)
     exact wrap_small m.1 (by omega)
    have gw:=Lib.hid gw;by_cases s:4294967296≤p∨4294967296*o+L%4294967296<p*(Y%4294967296)
    ·have low:=wE E s
     obtain⟨p0,p1,-,-⟩:=low;by_cases c:o+Y/4294967296<4294967296
     ·have N:=BL E s c
      clear Gbig;by_cases c2:4294967296≤p
      ·clear s
       go_wp2
       go_round
       case rel=>exact⟨_,_,rfl,rfl,N⟩
       case measure=>simp[intOf];omega
      ·have s2:4294967296*o+L%4294967296<IntKind.u64.wrap (p*(Y%4294967296)):=by rw[gw.out (by omega)];omega
       clear s;go_wp2
       go_round
       case rel=>exact⟨_,_,rfl,rfl,N⟩
       case measure=>simp[intOf];omega
     ·have D0:=tP E s (by omega)
      have R:=zD rfl Hgy.out.symm hy hyy HS1.out hH D HV2.out D0;clear Gbig;by_cases c2:4294967296≤p
      ·clear s
       go_wp2
       go_ret2
       exact⟨by first|rfl|trivial,Below.refl _ _⟩
      ·have s2:4294967296*o+L%4294967296<IntKind.u64.wrap (p*(Y%4294967296)):=by rw[gw.out (by omega)];omega
       clear s;go_wp2
       go_ret2
       exact⟨by first|rfl|trivial,Below.refl _ _⟩
    ·have D0:=wG E (by omega) (by omega)
     have R:=zD rfl Hgy.out.symm hy hyy HS1.out hH D HV2.out D0;clear Gbig;have s2:¬ 4294967296*o+L%4294967296<IntKind.u64.wrap (p*(Y%4294967296)):=by rw[gw.out (by omega)];omega
     have s3:¬ 4294967296≤p:=by omega
     clear s;go_wp2
     go_ret2
     exact⟨by first|rfl|trivial,Below.refl _ _⟩
theorem Xx {a b c:World} (h:Below a.heap.size a b) (k:Below b.heap.size b c):Below a.heap.size a c:=h.trans (k.mono h.size)
theorem ajR {a b:World} (h:Below a.heap.size a b) (o:Obj):Below a.heap.size a (b.alloc o):=h.alloc h.size o
theorem agY {a b:World} (h:Below a.heap.size a b):Below a.heap.size a b.drew:=h.drew
theorem Gt {a b:World} (h:Below a.heap.size a b) (n:Nat):Below a.heap.size a (b.drewN n):=below_drewN h n
def bD (w:World) (b off:Nat) (zs:List Int):Prop:=∀i,i<zs.length→w.cell? ⟨b,off+i,none⟩=some (.int .i64 (zs.getD i 0))
def eN (zs:List Int):Prop:=∀z,z∈zs→iM z
structure Row (w:World) (k:Nat) (a:Option Addr) (n cap:Nat) (zs:List Int):Prop where
 len:zs.length=n*k
 le:n≤cap
 max:cap≤maxLen
 all:eN zs
 at_:n=0∨∃b off,a=some ⟨b,off,none⟩∧b<w.heap.size∧bD w b off zs
theorem bD.below {w w':World} {b off:Nat} {zs:List Int} (h:bD w b off zs) (hb:b<w.heap.size) (g:Below w.heap.size w w'):bD w' b off zs :=
 fun i hi=>by rw[g.cell (p:=⟨b,off+i,none⟩) hb];exact h i hi
theorem Row.below {w w':World} {k:Nat} {a:Option Addr} {n cap:Nat} {zs:List Int} (h:Row w k a n cap zs) (g:Below w.heap.size w w'):Row w' k a n cap zs:=by
 refine⟨h.len,h.le,h.max,h.all,?_⟩
 rcases h.at_ with h0|⟨b,off,e,hb,hc⟩
 ·exact .inl h0
 ·exact .inr ⟨b,off,e,Nat.lt_of_lt_of_le hb g.size,hc.below hb g⟩
theorem eN.at_ {zs:List Int} (h:eN zs) (i:Nat):iM (zs.getD i 0):=by
 rw[List.getD_eq_getElem?_getD];cases hi:zs[i]? with
 |none=>exact⟨by simp,by simp⟩
 |some z=>exact h z (List.mem_of_getElem? hi)
theorem Row.nil (w:World) (k:Nat):Row w k none 0 0 []:=⟨by simp,by omega,by omega,fun z hz=>by simp at hz,.inl rfl⟩
theorem bD.new (w:World) (zs:List Int) (t:TypeId):bD (w.alloc (.cells (zs.map (Value.int .i64)).toArray t)) w.heap.size 0 zs:=by
 intro i hi;rw[Nat.zero_add,World.cell?_alloc_new];simp[hi,List.getD_eq_getElem?_getD]
theorem Row.TV {w:World} {a:Option Addr} {n cap:Nat} {zs:List Int}
  (h:(a=none∧n=0∧cap=0∧zs=[])∨∃x,a=some x∧n≤cap∧cap≤maxLen∧zs.length=cap∧(∀i,i<zs.length→w.cell? (x.add i)=some (.int .i64 (zs.getD i 0)))∧∀z∈zs,(Lit.int .i64 z).wf=true) :
  Row w 1 a n cap (zs.take n):=by
 rcases h with⟨rfl,rfl,rfl,rfl⟩|⟨x,rfl,hle,hm,hz,hc,hwf⟩
 ·exact Row.nil w 1
 ·refine⟨by simp;omega,hle,hm,fun z hzz=>Me (hwf z (List.mem_of_mem_take hzz)),?_⟩
  by_cases h0:n=0
  ·exact .inl h0
  ·refine .inr ?_
   obtain⟨b,off,spot⟩:=x;have c0:=hc 0 (by omega)
   have hs:spot=none:=by simpa[Addr.add]using World.cell?_spot c0
   subst hs;refine⟨b,off,rfl,?_,?_⟩
   ·have:=World.block_lt_of_cell? _ _ c0
    simpa[Addr.add]using this
   ·intro i hi
    simp at hi
    have ci:=hc i (by omega)
    rw[List.getD_eq_getElem?_getD,List.getElem?_take_of_lt (by omega),←List.getD_eq_getElem?_getD]
    by_cases i0:i=0
    ·subst i0;simpa[Addr.add]using ci
    ·simpa[Addr.add,i0]using ci
theorem ET (l:List Int):∀n z,bS n (l++[z])=(bS n l).bind fun m=>if eY m z then some (m+z)else none:=by
 induction l with
 |nil=>intro n z;simp[bS]
 |cons y l ih =>
  intro n z;simp only[List.cons_append,bS];by_cases h:eY n y=true
  ·simp only[h,if_true];exact ih _ _
  ·simp[h]
theorem Co {l:List Int} {k:Nat} (h:k<l.length):l.take (k+1)=l.take k++[l.getD k 0]:=by
 rw[List.take_succ_eq_append_getElem h,List.getD_eq_getElem?_getD,List.getElem?_eq_getElem h];rfl
theorem vJ {l:List Int} {k:Nat} {n:Int} (h:k<l.length) (e:bS 0 (l.take k)=some n):bS 0 (l.take (k+1))=if eY n (l.getD k 0)then some (n+l.getD k 0)else none:=by
 rw[Co h,ET,e];rfl
theorem vL (l m:List Int):∀n,bS n (l++m)=(bS n l).bind fun x=>bS x m:=by
 induction l with
 |nil=>intro n;rfl
 |cons y l ih =>
  intro n;simp only[List.cons_append,bS];by_cases h:eY n y=true
  ·simp only[h,if_true];exact ih _
  ·simp[h]
theorem vK {l:List Int} {k:Nat} (e:bS 0 (l.take k)=none):bS 0 l=none:=by
 conv=>lhs;rw[←List.take_append_drop k l]
 rw[vL,e];rfl
theorem rQ {a b:Int} (h:eY a b=true):-288230376151711744≤a+b∧a+b≤288230376151711744:=dW.1 (nY.1 h).2.2
theorem tW {a b:Int} (h:eY a b=true):mI a b=a+b∧lL a b=0:=by simp[mI,lL,h]
theorem jV {a b:Int} (h:eY a b=false):mI a b=0∧lL a b=2:=by simp[mI,lL,h]
theorem IM (hi lo y:Int) (w:World) (h:0≤hi) (h':hi<y) (hl:0≤lo) (hl':lo<18446744073709551616) (hy':y<18446744073709551616) :
  Calls Tryz.prog 163 #[.int .u64 hi,.int .u64 lo,.int .u64 y] w fun e w'=>e=.returned (.tuple #[.int .u64 ((hi*18446744073709551616+lo)/y),.int .u64 ((hi*18446744073709551616+lo)%y)])∧Below w.heap.size w w':=by
 by_cases h0:hi=0
 ·subst h0
  have:=Tg lo y w hl hl' (by omega)
  simpa using this
 ·exact Th hi lo y w (by omega) h' hl hl' hy'
theorem EI {a b:Int} (ha:0≤a) (ha':a≤9223372036854775807) (hb:0≤b) (hb':b≤9223372036854775807):iI a b*18446744073709551616+jB a b=a*b:=by
 rw[abu,MX ha (by omega),MX hb (by omega)]
theorem adj {a b c:Int} (h:a<0∨b<0∨c<1):Ob a b c=0∧T0 a b c=0∧T4 a b c=1:=by simp[Ob,T0,T4,h]
theorem L6 {a b c:Int} (h:¬ (a<0∨b<0∨c<1)) (g:288230376151711744<a*b/c):Ob a b c=0∧T0 a b c=0∧T4 a b c=2:=by simp[Ob,T0,T4,h,g]
theorem adi {a b c:Int} (h:¬ (a<0∨b<0∨c<1)) (g:¬ 288230376151711744<a*b/c):Ob a b c=a*b/c∧T0 a b c=a*b%c∧T4 a b c=0:=by simp[Ob,T0,T4,h,g]
theorem TZ {a b c:Int} (hc:0<c) (e:iI a b*18446744073709551616+jB a b=a*b) (g:c≤iI a b):288230376151711744<a*b/c:=by
 have l:=(uM a b).1
 have h1:c*18446744073709551616≤a*b:=by omega
 have:=Int.le_ediv_of_mul_le hc (show 18446744073709551616*c≤a*b by omega)
 omega
set_option maxHeartbeats 400000 in
theorem Bv (a b c:Int) (w:World) (ha:iM a) (hb:iM b) (hc:iM c) :
  Calls Tryz.prog 109 #[.int .i64 a,.int .i64 b,.int .i64 c] w fun e w'=>e=.returned (.tuple #[.int .i64 (Ob a b c),.int .i64 (T0 a b c),.int .i64 (T4 a b c)])∧Below w.heap.size w w':=by
 obtain⟨ha,ha'⟩:=ha;obtain⟨hb,hb'⟩:=hb;obtain⟨hc,hc'⟩:=hc
 by_cases hn:a<0∨b<0∨c<1
 ·have m:=adj hn
  rw[m.1,m.2.1,m.2.2];clear m;by_cases h1:a<0
  ·clear hn
   go_enter Tryz.func109,Tryz.ntmps109
   go_wp2
   go_ret3
   exact⟨rfl,Below.refl _ _⟩
  ·by_cases h2:b<0
   ·clear hn
    go_enter Tryz.func109,Tryz.ntmps109
    go_wp2
    go_ret3
    exact⟨rfl,Below.refl _ _⟩
   ·have h3:c<1:=by omega
    clear hn;go_enter Tryz.func109,Tryz.ntmps109
    go_wp2
    go_ret3
    exact⟨rfl,Below.refl _ _⟩
 ·have a0:0≤a:=by omega
  have b0:0≤b:=by omega
  have c0:1≤c:=by omega
  have e:=EI a0 ha' b0 hb';have p0:=Int.mul_nonneg a0 b0;have hb1:=yI a b;have hb2:=uM a b;by_cases g:c≤iI a b
  ·have m:=L6 hn (TZ (by omega) e g)
   rw[m.1,m.2.1,m.2.2];clear m hn e;go_enter Tryz.func109,Tryz.ntmps109
   go_wp2_with (go_at_call 162;refine(Ax _ _ _).mono ?_;rintro e w' ⟨rfl,hw1⟩)
   go_ret3
   exact⟨rfl,by assumption⟩
  ·have q0:=Int.ediv_nonneg p0 (show 0≤c by omega)
   have q1:a*b/c<18446744073709551616:=by
    apply Int.ediv_lt_of_lt_mul (by omega)
    omega
   have r0:=Int.emod_nonneg (a*b) (show c≠0 by omega)
   have r1:=Int.emod_lt_of_pos (a*b) (show 0<c by omega)
   have E:=Lib.hid e;by_cases g2:288230376151711744<a*b/c
   ·have m:=L6 hn g2
    rw[m.1,m.2.1,m.2.2];clear m hn e;go_enter Tryz.func109,Tryz.ntmps109
    go_wp2_with (first|(go_at_call 162;refine(Ax _ _ _).mono ?_;rintro e w' ⟨rfl,hw1⟩)|(go_at_call 163;refine(IM _ _ _ _ (by omega) (by omega) (by omega) (by omega) (by omega)).mono ?_;rw[E.out];rintro e w' ⟨rfl,hw2⟩))
    go_ret3
    exact⟨rfl,Xx hw1 hw2⟩
   ·have m:=adi hn g2
    rw[m.1,m.2.1,m.2.2];clear m hn e;go_enter Tryz.func109,Tryz.ntmps109
    go_wp2_with (first|(go_at_call 162;refine(Ax _ _ _).mono ?_;rintro e w' ⟨rfl,hw1⟩)|(go_at_call 163;refine(IM _ _ _ _ (by omega) (by omega) (by omega) (by omega) (by omega)).mono ?_;rw[E.out];rintro e w' ⟨rfl,hw2⟩))
    go_ret3
    exact⟨rfl,Xx hw1 hw2⟩
structure Dv (N c q r:Int):Prop where
 e:q*c+r=N
 r:0≤r∧r<c
 q:0≤q∧q<18446744073709551616
theorem adN {a b c:Int} (e:iI a b*18446744073709551616+jB a b=a*b) (g:iI a b<c) (h:0≤iI a b∧iI a b<18446744073709551616) (l:0≤jB a b∧jB a b<18446744073709551616) :
  Dv (a*b/2 ^ 64) c 0 (iI a b):=by
 have p:(2:Int) ^ 64=18446744073709551616:=rfl
 refine⟨?_,by omega,by omega⟩
 rw[p,←e];omega
theorem ah5 {T c q r:Int} (D:Dv (T/2 ^ 0) c q r):T/c=q∧T%c=r:=by
 obtain⟨e,hr,-⟩:=D;rw[show T/2 ^ 0=T by simp]at e
 rw[←e,Int.mul_comm];constructor
 ·rw[Int.mul_add_ediv_left _ _ (by omega),Int.ediv_eq_zero_of_lt hr.1 hr.2];omega
 ·rw[Int.mul_add_emod_self_left,Int.emod_eq_of_lt hr.1 hr.2]
theorem acX (x:Int) (h:0≤x) (h':x<9223372036854775808) (b:Int) (hb:b=0∨b=1):bits BinOp.or IntKind.u64 (x*2) b=x*2+b:=by
 have e:=bits_or_u64_nat (x*2).toNat b.toNat (by omega) (by omega)
 rw[Int.toNat_of_nonneg (by omega),Int.toNat_of_nonneg (by omega)]at e
 refine e.trans ?_
 rw[show(x*2).toNat=2 ^ 1*x.toNat by omega,←Nat.two_pow_add_eq_or_of_lt (by omega)]
 omega
theorem afM {T c q r hi lo:Int} {j:Nat} (D:Dv (T/2 ^ (j+1)) c q r) (e:hi*18446744073709551616+lo=T) (h0:0≤T) (g:hi<c) (hl:0≤lo∧lo<18446744073709551616) (hj:j≤63) (hc:c≤9223372036854775807) :
  (c≤bits BinOp.or IntKind.u64 (r*2) (bits BinOp.and IntKind.u64 (lo/2 ^ j) 1) →
   Dv (T/2 ^ j) c (bits BinOp.or IntKind.u64 (IntKind.u64.wrap (q*2)) 1) (IntKind.u64.wrap (bits BinOp.or IntKind.u64 (r*2) (bits BinOp.and IntKind.u64 (lo/2 ^ j) 1)-c))) ∧
  (bits BinOp.or IntKind.u64 (r*2) (bits BinOp.and IntKind.u64 (lo/2 ^ j) 1)<c →
   Dv (T/2 ^ j) c (IntKind.u64.wrap (q*2)) (bits BinOp.or IntKind.u64 (r*2) (bits BinOp.and IntKind.u64 (lo/2 ^ j) 1))):=by
 obtain⟨D1,D2,D3⟩:=D;have pj:(0:Int)<2 ^ j:=Int.pow_pos (by omega)
 have pj1:(0:Int)<2 ^ (j+1):=Int.pow_pos (by omega)
 have pq:(2:Int) ^ j*2 ^ (63-j)=9223372036854775808:=by rw[←Int.pow_add,show j+(63-j)=63 by omega];rfl
 have q63:q<9223372036854775808:=by
  rcases Int.lt_or_le q 9223372036854775808 with h|h
  ·exact h
  ·exfalso
   have m:=Int.mul_le_mul_of_nonneg_right h (show 0≤c by omega)
   have n:=Int.mul_ediv_add_emod T (2 ^ (j+1))
   have n0:=Int.emod_nonneg T (show(2:Int) ^ (j+1)≠0 by omega)
   have pm:(2:Int) ^ (j+1)=2 ^ j*2:=by rw[Int.pow_succ]
   have k:=Int.mul_le_mul_of_nonneg_right (show(2:Int)≤2 ^ (j+1)by omega) (show 0≤T/2 ^ (j+1)by omega)
   omega
 have lo0:0≤lo/2 ^ j:=Int.ediv_nonneg hl.1 (by omega)
 have lo1:lo/2 ^ j≤lo:=Int.ediv_le_self _ hl.1
 have bit:bits BinOp.and IntKind.u64 (lo/2 ^ j) 1=lo/2 ^ j%2:=and_one_u64 _ lo0 (by omega)
 have N:T/2 ^ j=2*(T/2 ^ (j+1))+lo/2 ^ j%2:=by
  have a1:T/2 ^ (j+1)=T/2 ^ j/2:=by rw[Int.pow_succ,Int.ediv_ediv_of_nonneg (by omega)]
  have a2:T/2 ^ j%2=lo/2 ^ j%2:=by
   rw[←e,show hi*18446744073709551616+lo=lo+2 ^ j*(2 ^ (63-j)*2*hi)by
    rw[←Int.mul_assoc,←Int.mul_assoc,pq];omega]
   rw[Int.add_mul_ediv_left _ _ (by omega)]
   rw[show(2:Int) ^ (63-j)*2*hi=2*(2 ^ (63-j)*hi)by rw[Int.mul_comm _ 2,Int.mul_assoc]]
   rw[Int.add_mul_emod_self_left]
  rw[a1,←a2];omega
 rw[bit,acX r D2.1 (by omega) _ (by omega),wrap_small (x:=q*2) (by omega) (by omega),acX q D3.1 q63 1 (.inr rfl),N,←D1]
 have hm1:(q*2+1)*c=q*c*2+c:=by rw[Int.add_mul,Int.one_mul,Int.mul_assoc,Int.mul_comm 2 c,←Int.mul_assoc]
 have hm2:q*2*c=q*c*2:=by rw[Int.mul_assoc,Int.mul_comm 2 c,←Int.mul_assoc]
 constructor
 ·intro h
  rw[wrap_small (by omega) (by omega)]
  refine⟨?_,by omega,by omega⟩
  rw[hm1];omega
 ·intro h
  refine⟨?_,by omega,by omega⟩
  rw[hm2];omega
set_option maxHeartbeats 400000 in
theorem vV (a b c:Int) (w:World) (ha:iM a) (hb:iM b) (hc:iM c) :
  Calls Tryz.prog 148 #[.int .i64 a,.int .i64 b,.int .i64 c] w fun e w'=>e=.returned (.tuple #[.int .i64 (Ob a b c),.int .i64 (T0 a b c),.int .i64 (T4 a b c)])∧w=w':=by
 obtain⟨ha,ha'⟩:=ha;obtain⟨hb,hb'⟩:=hb;obtain⟨hc,hc'⟩:=hc
 by_cases hn:a<0∨b<0∨c<1
 ·have m:=adj hn
  rw[m.1,m.2.1,m.2.2];clear m;by_cases h1:a<0
  ·clear hn
   go_enter Tryz.func148,Tryz.ntmps148
   go_wp2
   go_ret3
   exact⟨rfl,by first|rfl|trivial⟩
  ·by_cases h2:b<0
   ·clear hn
    go_enter Tryz.func148,Tryz.ntmps148
    go_wp2
    go_ret3
    exact⟨rfl,by first|rfl|trivial⟩
   ·have h3:c<1:=by omega
    clear hn;go_enter Tryz.func148,Tryz.ntmps148
    go_wp2
    go_ret3
    exact⟨rfl,by first|rfl|trivial⟩
 ·have a0:0≤a:=by omega
  have b0:0≤b:=by omega
  have c0:1≤c:=by omega
  have e:=EI a0 ha' b0 hb';have p0:=Int.mul_nonneg a0 b0;have hb1:=yI a b;have hb2:=uM a b;by_cases g:c≤iI a b
  ·have m:=L6 hn (TZ (by omega) e g)
   rw[m.1,m.2.1,m.2.2];clear m hn e;go_enter Tryz.func148,Tryz.ntmps148
   go_wp2_with (go_at_call 182;refine(xH _ _ _).mono ?_;rintro e w' ⟨rfl,rfl⟩)
   go_ret3
   exact⟨rfl,by first|rfl|trivial⟩
  ·have E:=Lib.hid e
   clear e;go_enter Tryz.func148,Tryz.ntmps148
   go_wp2_with (go_at_call 182;refine(xH _ _ _).mono ?_;rintro e w' ⟨rfl,rfl⟩)
   go_loop [12,13,14] (fun r q i=>∃(k:Nat) (x y:Int),k≤64∧i=.int .i64 ((k:Int)-1)∧r=.int .u64 x∧q=.int .u64 y∧Dv (a*b/2 ^ k) c y x) (fun _ _ i=>(intOf i+1).toNat)
   case atStart=>exact⟨64,_,_,by omega,rfl,rfl,rfl,adN E.out (by omega) hb1 hb2⟩
   case round =>
    obtain⟨k,r,q,hk,rfl,rfl,rfl,D⟩:=hrel;match k with
    |0 =>
     have X:=ah5 D;obtain⟨D1,D2,D3⟩:=D;have D1:=Lib.hid D1;have X:=Lib.hid X;go_wp2
     ·go_ret3
      have m:=L6 hn (by rw[X.out.1];assumption)
      exact⟨TA m.1.symm m.2.1.symm m.2.2.symm,by first|rfl|trivial⟩
     ·go_ret3
      have m:=adi hn (by rw[X.out.1];omega)
      exact⟨TA (by rw[m.1,X.out.1]) (by rw[m.2.1,X.out.2]) m.2.2.symm,by first|rfl|trivial⟩
    |j+1 =>
     have ej:(((j+1:Nat):Int)-1)=(j:Int):=by omega
     rw[ej];clear ej;have X:=afM D E.out p0 g hb2 (by omega) hc'
     have X:=Lib.hid X;obtain⟨D1,D2,D3⟩:=D;have D1:=Lib.hid D1;go_wp2
     ·refine⟨⟨j,_,_,by omega,rfl,rfl,rfl,?_⟩,by simp[intOf];try omega⟩
      exact X.out.1 (by assumption)
     ·refine⟨⟨j,_,_,by omega,rfl,rfl,rfl,?_⟩,by simp[intOf];try omega⟩
      exact X.out.2 (by assumption)
theorem yS {v q n:Int} (hv:0≤v) (hv':v≤288230376151711744) (hq:0≤q) (hqn:q≤n) (hn:1≤n) :
  Ob v q n=v*q/n∧0≤v*q/n∧v*q/n≤v:=by
 have h0:=Int.mul_nonneg hv hq;have h1:v*q/n≤v:=by
  apply Int.ediv_le_of_le_mul (by omega)
  exact Int.mul_le_mul_of_nonneg_left hqn hv
 have h2:=Int.ediv_nonneg h0 (show 0≤n by omega)
 exact⟨(adi (by omega) (by omega)).1,h2,h1⟩
theorem HZ {v q n:Int} (h:n<1∨q<0∨q > n∨kE v=false):cV v q n=0:=by simp only[cV,if_pos h]
theorem Bi {v q n:Int} (h:¬ (n<1∨q<0∨q > n∨kE v=false)) (hv:v<0):cV v q n=-(-v*q/n):=by simp only[cV,if_neg h,if_pos hv]
theorem Bh {v q n:Int} (h:¬ (n<1∨q<0∨q > n∨kE v=false)) (hv:¬ v<0):cV v q n=v*q/n:=by simp only[cV,if_neg h,if_neg hv]
theorem Rz {v q n:Int} (h:¬ (n<1∨q<0∨q > n∨kE v=false)) (hq:q=n):cV v q n=v:=by
 subst hq;have hn:q≠0:=by omega
 by_cases hv:v<0
 ·rw[Bi h hv,Int.mul_ediv_cancel _ hn];omega
 ·rw[Bh h hv,Int.mul_ediv_cancel _ hn]
set_option maxHeartbeats 800000 in
theorem ahU (v q n:Int) (w:World) (hv:iM v) (hq:iM q) (hn:iM n) :
  Calls Tryz.prog 113 #[.int .i64 v,.int .i64 q,.int .i64 n] w fun e w'=>e=.returned (.int .i64 (cV v q n))∧Below w.heap.size w w':=by
 by_cases h:n<1∨q<0∨q > n∨kE v=false
 ·rw[HZ h]
  by_cases h1:n<1
  ·clear h
   go_enter Tryz.func113,Tryz.ntmps113
   go_wp2_with (go_at_call 79;refine(oN _ _).mono ?_;rintro e w' ⟨rfl,rfl⟩)
   go_ret
   exact⟨rfl,Below.refl _ _⟩
  ·by_cases h2:q<0
   ·clear h
    go_enter Tryz.func113,Tryz.ntmps113
    go_wp2_with (go_at_call 79;refine(oN _ _).mono ?_;rintro e w' ⟨rfl,rfl⟩)
    go_ret
    exact⟨rfl,Below.refl _ _⟩
   ·by_cases h3:n<q
    ·clear h
     go_enter Tryz.func113,Tryz.ntmps113
     go_wp2_with (go_at_call 79;refine(oN _ _).mono ?_;rintro e w' ⟨rfl,rfl⟩)
     go_ret
     exact⟨rfl,Below.refl _ _⟩
    ·have h4:kE v=false:=by rcases h with h|h|h|h<;>first|exact h|omega
     clear h;go_enter Tryz.func113,Tryz.ntmps113
     go_wp2_with (go_at_call 79;refine(oN _ _).mono ?_;rintro e w' ⟨rfl,rfl⟩)
     go_ret
     exact⟨rfl,Below.refl _ _⟩
 ·have h1:¬ n<1:=by omega
  have h2:¬ q<0:=by omega
  have h3:¬ n<q:=by omega
  have h4:kE v=true:=by cases g:kE v with|true=>rfl|false=>exact absurd (Or.inr (Or.inr (Or.inr g))) h
  have b:=dW.1 h4;by_cases hqn:q=n
  ·rw[Rz h hqn]
   have hq1:(q==n)=true:=by simpa using hqn
   clear h;subst hqn;go_enter Tryz.func113,Tryz.ntmps113
   go_wp2_with (go_at_call 79;refine(oN _ _).mono ?_;rintro e w' ⟨rfl,rfl⟩)
   go_ret
   exact⟨rfl,Below.refl _ _⟩
  ·have hq1:(q==n)=false:=by simpa using hqn
   by_cases hneg:v<0
   ·rw[Bi h hneg]
    have P:=yS (show 0≤-v by omega) (show -v≤288230376151711744 by omega) (show 0≤q by omega) (show q≤n by omega) (by omega)
    obtain⟨P1,P2,P3⟩:=P;have P1:=Lib.hid P1;clear h hqn;have hv1:=hv.lo;have hv2:=hv.hi
    go_enter Tryz.func113,Tryz.ntmps113
    go_wp2_with (first|(go_at_call 79;refine(oN _ _).mono ?_;rintro e w' ⟨rfl,rfl⟩)|(go_at_call 109;refine(Bv _ _ _ _ ⟨by omega,by omega⟩ hq hn).mono ?_;rw[P1.out];rintro e w' ⟨rfl,hw⟩))
    go_ret
    exact⟨rfl,hw⟩
   ·rw[Bh h hneg]
    have P:=yS (show 0≤v by omega) b.2 (show 0≤q by omega) (show q≤n by omega) (by omega)
    obtain⟨P1,P2,P3⟩:=P;have P1:=Lib.hid P1;clear h hqn;go_enter Tryz.func113,Tryz.ntmps113
    go_wp2_with (first|(go_at_call 79;refine(oN _ _).mono ?_;rintro e w' ⟨rfl,rfl⟩)|(go_at_call 109;refine(Bv _ _ _ _ hv hq hn).mono ?_;rw[P1.out];rintro e w' ⟨rfl,hw⟩))
    go_ret
    exact⟨rfl,hw⟩
set_option maxHeartbeats 800000 in
theorem Ns (v q n:Int) (w:World) (hv:iM v) (hq:iM q) (hn:iM n) :
  Calls Tryz.prog 149 #[.int .i64 v,.int .i64 q,.int .i64 n] w fun e w'=>e=.returned (.int .i64 (cV v q n))∧w=w':=by
 by_cases h:n<1∨q<0∨q > n∨kE v=false
 ·rw[HZ h]
  by_cases h1:n<1
  ·clear h
   go_enter Tryz.func149,Tryz.ntmps149
   go_wp2_with (go_at_call 144;refine(qM _ _).mono ?_;rintro e w' ⟨rfl,rfl⟩)
   go_ret
   exact⟨rfl,by first|rfl|trivial⟩
  ·by_cases h2:q<0
   ·clear h
    go_enter Tryz.func149,Tryz.ntmps149
    go_wp2_with (go_at_call 144;refine(qM _ _).mono ?_;rintro e w' ⟨rfl,rfl⟩)
    go_ret
    exact⟨rfl,by first|rfl|trivial⟩
   ·by_cases h3:n<q
    ·clear h
     go_enter Tryz.func149,Tryz.ntmps149
     go_wp2_with (go_at_call 144;refine(qM _ _).mono ?_;rintro e w' ⟨rfl,rfl⟩)
     go_ret
     exact⟨rfl,by first|rfl|trivial⟩
    ·have h4:kE v=false:=by rcases h with h|h|h|h<;>first|exact h|omega
     clear h;go_enter Tryz.func149,Tryz.ntmps149
     go_wp2_with (go_at_call 144;refine(qM _ _).mono ?_;rintro e w' ⟨rfl,rfl⟩)
     go_ret
     exact⟨rfl,by first|rfl|trivial⟩
 ·have h1:¬ n<1:=by omega
  have h2:¬ q<0:=by omega
  have h3:¬ n<q:=by omega
  have h4:kE v=true:=by cases g:kE v with|true=>rfl|false=>exact absurd (Or.inr (Or.inr (Or.inr g))) h
  have b:=dW.1 h4;by_cases hneg:v<0
  ·rw[Bi h hneg]
   have P:=yS (show 0≤-v by omega) (show -v≤288230376151711744 by omega) (show 0≤q by omega) (show q≤n by omega) (by omega)
   obtain⟨P1,P2,P3⟩:=P;have P1:=Lib.hid P1;clear h;have hv1:=hv.lo;have hv2:=hv.hi
   go_enter Tryz.func149,Tryz.ntmps149
   go_wp2_with (first|(go_at_call 144;refine(qM _ _).mono ?_;rintro e w' ⟨rfl,rfl⟩)|(go_at_call 148;refine(vV _ _ _ _ ⟨by omega,by omega⟩ hq hn).mono ?_;rw[P1.out];rintro e w' ⟨rfl,rfl⟩))
   go_ret
   exact⟨rfl,by first|rfl|trivial⟩
  ·rw[Bh h hneg]
   have P:=yS (show 0≤v by omega) b.2 (show 0≤q by omega) (show q≤n by omega) (by omega)
   obtain⟨P1,P2,P3⟩:=P;have P1:=Lib.hid P1;clear h;go_enter Tryz.func149,Tryz.ntmps149
   go_wp2_with (first|(go_at_call 144;refine(qM _ _).mono ?_;rintro e w' ⟨rfl,rfl⟩)|(go_at_call 148;refine(vV _ _ _ _ hv hq hn).mono ?_;rw[P1.out];rintro e w' ⟨rfl,rfl⟩))
   go_ret
   exact⟨rfl,by first|rfl|trivial⟩
theorem M3 {zs:List Int} {k:Nat} {m:Int} (h:k<zs.length) (H:bS 0 (zs.take k)=some m) (e:eY m (zs.getD k 0)=false):cU zs=0∧cY zs=2:=by
 have t:=vJ h H;rw[e]at t;have:=vK t
 simp[cU,cY,this]
theorem M4 {zs:List Int} {m:Int} (H:bS 0 (zs.take zs.length)=some m):cU zs=m∧cY zs=0:=by
 rw[List.take_length]at H;simp[cU,cY,H]
set_option maxHeartbeats 800000 in
theorem mP (a:Option Addr) (n cap:Nat) (zs:List Int) (w:World) (h:Row w 1 a n cap zs) :
  Calls Tryz.prog 72 #[.slice a n cap] w fun e w'=>e=.returned (.tuple #[.int .i64 (cU zs),.int .i64 (cY zs)])∧w=w':=by
 obtain⟨hl,hcap,hmax,hall,hat⟩:=h;unfold maxLen at hmax;have hl:zs.length=n:=by omega
 obtain rfl:zs.length=n:=hl
 clear hl;go_enter Tryz.func72,Tryz.ntmps72
 go_wp2
 go_loop [4,10] (fun s i=>∃(k:Nat) (m:Int),k≤zs.length∧i=.int .i64 k∧s=.int .i64 m∧Hid (bS 0 (zs.take k)=some m)) (fun _ i=>zs.length-(intOf i).toNat)
 case atStart=>exact⟨0,0,by omega,rfl,rfl,rfl⟩
 case round =>
  obtain⟨k,m,hk,rfl,rfl,H⟩:=hrel;by_cases hlt:k<zs.length
  ·obtain⟨b,off,rfl,hb,hc⟩:∃b off,a=some ⟨b,off,none⟩∧b<w.heap.size∧bD w b off zs:=by
    rcases hat with h0|h0
    ·omega
    ·exact h0
   have hcell:=hc k hlt;have hz:=hall.at_ k;have hlt':(k:Int)<(zs.length:Int):=by omega
   clear hc hat;generalize hgz:zs.getD k 0=z at *
   have Hgz:=Lib.hid hgz;clear hgz;by_cases hok:eY m z=true
   ·have hv:=tW hok
    have hbd:=rQ hok;have hv:=Lib.hid hv;go_wp2_with (go_at_call 37;refine(yV _ _ _).mono ?_;rw[hv.out.1,hv.out.2];rintro e w' ⟨rfl,rfl⟩)
    go_round
    case rel =>
     refine⟨k+1,_,by omega,by go_num,rfl,?_⟩
     have t:=vJ hlt H.out;rw[Hgz.out,hok]at t;exact t
    case measure=>simp[intOf];omega
   ·have hok:eY m z=false:=by simpa using hok
    have hv:=jV hok;have hv:=Lib.hid hv;have S:=M3 hlt H.out (by rw[Hgz.out];exact hok)
    go_wp2_with (go_at_call 37;refine(yV _ _ _).mono ?_;rw[hv.out.1,hv.out.2];rintro e w' ⟨rfl,rfl⟩)
    go_ret2
    first|exact⟨lZ S.1.symm S.2.symm,by first|rfl|trivial⟩|exact⟨rfl,by first|rfl|trivial⟩
  ·obtain rfl:k=zs.length:=by omega
   have S:=M4 H.out;have hlt':¬ (zs.length:Int)<(zs.length:Int):=by omega
   go_wp2
   go_ret2
   first|exact⟨lZ S.1.symm S.2.symm,by first|rfl|trivial⟩|exact⟨rfl,by first|rfl|trivial⟩
set_option maxHeartbeats 800000 in
theorem Lf (a:Option Addr) (n cap:Nat) (zs:List Int) (w:World) (h:Row w 1 a n cap zs) :
  Calls Tryz.prog 81 #[.slice a n cap] w fun e w'=>e=.returned (.tuple #[.int .i64 (cU zs),.int .i64 (cY zs)])∧w=w':=by
 obtain⟨hl,hcap,hmax,hall,hat⟩:=h;unfold maxLen at hmax;have hl:zs.length=n:=by omega
 obtain rfl:zs.length=n:=hl
 clear hl;go_enter Tryz.func81,Tryz.ntmps81
 go_wp2
 go_loop [4,5] (fun s i=>∃(k:Nat) (m:Int),k≤zs.length∧i=.int .i64 k∧s=.int .i64 m∧Hid (bS 0 (zs.take k)=some m)) (fun _ i=>zs.length-(intOf i).toNat)
 case atStart=>exact⟨0,0,by omega,rfl,rfl,rfl⟩
 case round =>
  obtain⟨k,m,hk,rfl,rfl,H⟩:=hrel;by_cases hlt:k<zs.length
  ·obtain⟨b,off,rfl,hb,hc⟩:∃b off,a=some ⟨b,off,none⟩∧b<w.heap.size∧bD w b off zs:=by
    rcases hat with h0|h0
    ·omega
    ·exact h0
   have hcell:=hc k hlt;have hz:=hall.at_ k;have hlt':(k:Int)<(zs.length:Int):=by omega
   clear hc hat;generalize hgz:zs.getD k 0=z at *
   have Hgz:=Lib.hid hgz;clear hgz;by_cases hok:eY m z=true
   ·have hv:=tW hok
    have hbd:=rQ hok;have hv:=Lib.hid hv;go_wp2_with (go_at_call 83;refine(yP _ _ _).mono ?_;rw[hv.out.1,hv.out.2];rintro e w' ⟨rfl,rfl⟩)
    go_round
    case rel =>
     refine⟨k+1,_,by omega,by go_num,rfl,?_⟩
     have t:=vJ hlt H.out;rw[Hgz.out,hok]at t;exact t
    case measure=>simp[intOf];omega
   ·have hok:eY m z=false:=by simpa using hok
    have hv:=jV hok;have hv:=Lib.hid hv;have S:=M3 hlt H.out (by rw[Hgz.out];exact hok)
    go_wp2_with (go_at_call 83;refine(yP _ _ _).mono ?_;rw[hv.out.1,hv.out.2];rintro e w' ⟨rfl,rfl⟩)
    go_ret2
    first|exact⟨lZ S.1.symm S.2.symm,by first|rfl|trivial⟩|exact⟨rfl,by first|rfl|trivial⟩
  ·obtain rfl:k=zs.length:=by omega
   have S:=M4 H.out;have hlt':¬ (zs.length:Int)<(zs.length:Int):=by omega
   go_wp2
   go_ret2
   first|exact⟨lZ S.1.symm S.2.symm,by first|rfl|trivial⟩|exact⟨rfl,by first|rfl|trivial⟩
def ints (zs:List Int):List Value:=zs.map (Value.int .i64)
theorem sZ (l m:List Int):ints (l++m)=ints l++ints m:=List.map_append
theorem sY (l:List Int):(ints l).length=l.length:=List.length_map ..
theorem uU (l:List Int) (i:Nat):(ints l)[i]?=(l[i]?).map (Value.int .i64):=List.getElem?_map ..
structure Tf (P:Program) (t e:TypeId) (size:Nat):Prop where
 slice:P.underlying t=some (.slice e)
 info:∃(i:TypeInfo) (z:Value),P.info? e=some i∧i.zero=some z∧i.size=size∧i.bytes=size*8∧z.cells.size=size
 pos:0<size
def dJ (w:World) (base:Nat) (e:TypeId) (k:Nat) (v:Value) (n:Nat) (zs:List Int):Prop:=w.ownsRow base e k v n (ints zs)
theorem dJ.nil (w:World) (base:Nat) (e:TypeId) (k:Nat):dJ w base e k (.slice none 0 0) 0 []:=World.ownsRow_nil _ _ _ _
theorem dJ.alloc {w:World} {base:Nat} {e:TypeId} {k:Nat} {v:Value} {n:Nat} {zs:List Int} (h:dJ w base e k v n zs) (o:Obj):dJ (w.alloc o) base e k v n zs:=World.ownsRow.alloc h o
theorem dJ.drew {w:World} {base:Nat} {e:TypeId} {k:Nat} {v:Value} {n:Nat} {zs:List Int} (h:dJ w base e k v n zs):dJ w.drew base e k v n zs:=h
theorem dJ.below {w w':World} {base:Nat} {e:TypeId} {k:Nat} {v:Value} {n:Nat} {zs:List Int} (h:dJ w base e k v n zs) (g:Below w.heap.size w w'):dJ w' base e k v n zs:=by
 obtain⟨h1,h2⟩:=h;refine⟨h1,?_⟩
 rcases h2 with h2|⟨b,cap,cur,hv,hb,hh,r⟩
 ·exact .inl h2
 ·refine .inr ⟨b,cap,cur,hv,hb,?_,r⟩
  have:b<w.heap.size:=by
   rcases Nat.lt_or_ge b w.heap.size with h|h
   ·exact h
   ·rw[Array.getElem?_eq_none h]at hh;cases hh
  rw[g.block b this];exact hh
theorem dJ.len {w:World} {base:Nat} {e:TypeId} {k:Nat} {v:Value} {n:Nat} {zs:List Int} (h:dJ w base e k v n zs):zs.length=n*k:=by
 have:=h.1;rwa[sY]at this
theorem dJ.row {w:World} {base:Nat} {e:TypeId} {k:Nat} {v:Value} {n:Nat} {zs:List Int} (h:dJ w base e k v n zs) (ha:eN zs) :
  ∃a cap,v=.slice a n cap∧Row w k a n cap zs:=by
 have hl:=h.len;obtain⟨h1,h2⟩:=h;rcases h2 with⟨rfl,rfl⟩|⟨b,cap,cur,rfl,hb,hh,hn,hc,hs,ht⟩
 ·exact⟨_,_,rfl,hl,Nat.le_refl _,by omega,ha,.inl rfl⟩
 ·refine⟨_,_,rfl,hl,hn,hc,ha,.inr ⟨b,0,rfl,?_,?_⟩⟩
  ·rcases Nat.lt_or_ge b w.heap.size with h|h
   ·exact h
   ·rw[Array.getElem?_eq_none h]at hh;cases hh
  ·intro i hi
   have c:=World.ownsRow.cellAt (w:=w) (base:=base) (e:=e) (size:=k) (g:=b) (n:=n) (cap:=cap) (xs:=ints zs) ⟨h1,.inr ⟨b,cap,cur,rfl,hb,hh,hn,hc,hs,ht⟩⟩ i (by omega)
   rw[Nat.zero_add,c,uU,List.getElem?_eq_getElem hi,List.getD_eq_getElem?_getD,List.getElem?_eq_getElem hi];rfl
theorem Row.cells {w:World} {k:Nat} {ad:Addr} {n cap:Nat} {zs:List Int} (h:Row w k (some ad) n cap zs):∀j u,(ints zs)[j]?=some u→w.cell? (ad.add j)=some u:=by
 intro j u hj;rw[uU]at hj;have hlt:j<zs.length:=by
  rcases Nat.lt_or_ge j zs.length with h|h
  ·exact h
  ·rw[List.getElem?_eq_none h]at hj;cases hj
 rcases h.at_ with h0|⟨b,off,e,hb,hc⟩
 ·have:=h.len
  rw[h0]at this;omega
 ·cases e
  have:=hc j hlt
  rw[List.getElem?_eq_getElem hlt]at hj;rw[List.getD_eq_getElem?_getD,List.getElem?_eq_getElem hlt]at this;simp only[Option.map_some,Option.some.injEq]at hj;subst hj;by_cases h0:j=0
  ·subst h0;simpa[Addr.add]using this
  ·simpa[Addr.add,h0]using this
theorem dJ.empty (w:World) (base:Nat) (e:TypeId) (k:Nat) (h:base≤w.heap.size):dJ (w.alloc (.cells #[] e)) base e k (.slice (some ⟨w.heap.size,0,none⟩) 0 0) 0 [] :=
 World.ownsRow_lit w #[] 0 h (by unfold maxLen;omega) (by simp)
section
variable {P:Program}
theorem kM (w:World) {ops:Array Oper} {rest:List Oper} {o:Oper} {a:Act} {Q:Exit→Act→World→Prop} (hgd:o.guard=none) (s x:Operand) (t:TypeId)
  (ho:o.op=.call { callee:=.builtin .append,args:=#[s,x],argTypes:=#[t,t] })
  (base:Nat) (e:TypeId) (size:Nat) (E:Tf P t e size)
  (v:Value) (n:Nat) (zs:List Int) (hs:a.eval s=v) (hown:dJ w base e size v n zs)
  (b off c:Nat) (ns:List Int) (hx:a.eval x=.slice (some ⟨b,off,none⟩) 1 c) (hl:ns.length=size) (hc:bD w b off ns)
  (hn:(n+1)*(size*8)≤140737488355328) (hbase:base≤w.heap.size)
  (h:∀v' w',dJ w' base e size v' (n+1) (zs++ns)→Below base w w'→wpList P ops Q rest (a.put o.dst v') w'):wpList P ops Q (o::rest) a w:=by
 obtain⟨ht,⟨i,z,hi,hz,hsize,hby,hzs⟩,hp⟩:=E
 have h8:n+1≤(n+1)*(size*8):=Nat.le_mul_of_pos_right _ (by omega)
 refine wpList_append_own w hgd s x t ho base e i z size (size*8) ht hi hz hsize hby hzs hp v n (ints zs) hs hown ⟨b,off,none⟩ 1 c (ints ns) hx (by rw[sY];omega) ?_ ?_ (by unfold maxLen;omega) hn hbase ?_
 ·intro j u hj
  rw[uU]at hj;have hlt:j<ns.length:=by
   rcases Nat.lt_or_ge j ns.length with h|h
   ·exact h
   ·rw[List.getElem?_eq_none h]at hj;cases hj
  have:=hc j hlt
  rw[List.getElem?_eq_getElem hlt]at hj;rw[List.getD_eq_getElem?_getD,List.getElem?_eq_getElem hlt]at this;simp only[Option.map_some,Option.some.injEq]at hj;subst hj;by_cases h0:j=0
  ·subst h0;simpa[Addr.add]using this
  ·simpa[Addr.add,h0]using this
 ·intro u hu
  simp only[ints,List.mem_map]at hu;obtain⟨y,-,rfl⟩:=hu;rfl
 ·intro v' w' hown' hg _
  refine h v' w' ?_ ?_
  ·rw[dJ,sZ];exact hown'
  ·have hlt:=World.ownsRow.lt hown
   exact(Below.refl base w).grown hg hbase fun k hk=>(hlt k hk).1
theorem IP (w:World) {ops:Array Oper} {rest:List Oper} {o:Oper} {a:Act} {Q:Exit→Act→World→Prop} (hgd:o.guard=none) (s x:Operand) (t:TypeId)
  (ho:o.op=.call { callee:=.builtin .append,args:=#[s,x],argTypes:=#[t,t] })
  (base:Nat) (e:TypeId) (size:Nat) (E:Tf P t e size)
  (v:Value) (n:Nat) (zs:List Int) (hs:a.eval s=v) (hown:dJ w base e size v n zs)
  (ad:Addr) (m c:Nat) (ns:List Int) (hx:a.eval x=.slice (some ad) m c) (hrow:Row w size (some ad) m c ns)
  (hn:(n+m)*(size*8)≤140737488355328) (hbase:base≤w.heap.size)
  (h:∀v' w',dJ w' base e size v' (n+m) (zs++ns)→Below base w w'→wpList P ops Q rest (a.put o.dst v') w'):wpList P ops Q (o::rest) a w:=by
 obtain⟨ht,⟨i,z,hi,hz,hsize,hby,hzs⟩,hp⟩:=E
 have h8:n+m≤(n+m)*(size*8):=Nat.le_mul_of_pos_right _ (by omega)
 refine wpList_append_own w hgd s x t ho base e i z size (size*8) ht hi hz hsize hby hzs hp v n (ints zs) hs hown ad m c (ints ns) hx (by rw[sY];exact hrow.len) hrow.cells ?_ (by unfold maxLen;omega) hn hbase ?_
 ·intro u hu
  simp only[ints,List.mem_map]at hu;obtain⟨y,-,rfl⟩:=hu;rfl
 ·intro v' w' hown' hg _
  refine h v' w' ?_ ?_
  ·rw[dJ,sZ];exact hown'
  ·have hlt:=World.ownsRow.lt hown
   exact(Below.refl base w).grown hg hbase fun k hk=>(hlt k hk).1
end
end
section
theorem Gb:Tf Tryz.prog 158 101 3:=by
 refine⟨by kernel_rfl,?_,by decide⟩
 obtain⟨i,h1,h2,h3,h4⟩:=info_parts (P:=Tryz.prog) (e:=101) (z:=.agg #[.int .i64 0,.int .i64 0,.int .i64 0]) (size:=3) (bytes:=24) (by kernel_rfl)
 exact⟨i,_,h1,h2,h3,h4,rfl⟩
theorem zC:Tf Tryz.prog 36 44 2:=by
 refine⟨by kernel_rfl,?_,by decide⟩
 obtain⟨i,h1,h2,h3,h4⟩:=info_parts (P:=Tryz.prog) (e:=44) (z:=.agg #[.int .i64 0,.int .i64 0]) (size:=2) (bytes:=16) (by kernel_rfl)
 exact⟨i,_,h1,h2,h3,h4,rfl⟩
set_option maxHeartbeats 400000 in
theorem Ti (a:Option Addr) (n cap:Nat) (zs:List Int) (w:World) (h:Row w 2 a n cap zs) (hn:n*16≤140737488355328) :
  Calls Tryz.prog 134 #[.slice a n cap] w fun e w'=>(∃v,e=.returned v∧dJ w' w.heap.size 44 2 v n zs)∧Below w.heap.size w w':=by
 have hnil:=fun(wx:World) (a:Option Addr) (n c:Nat)=>Lib.run_eql_slice_nil (P:=Tryz.prog) wx 36 44 a n c 0 0 (by kernel_rfl)
 cases a with
 |none =>
  have hz:n=0:=by
   rcases h.at_ with h0|⟨b,off,e,-⟩
   ·exact h0
   ·cases e
  subst hz;have hzs:zs=[]:=List.eq_nil_of_length_eq_zero (by have:=h.len;omega)
  subst hzs;go_enter Tryz.func134,Tryz.ntmps134
  go_wp2
  go_ret
  exact⟨⟨_,rfl,dJ.nil _ _ _ _⟩,Below.refl _ _⟩
 |some ad =>
  go_enter Tryz.func134,Tryz.ntmps134
  go_wp2_with (at_builtin;refine IP _ rfl _ _ 36 rfl w.heap.size 44 2 zC _ 0 [] rfl (dJ.empty _ _ _ _ (Nat.le_refl _)) ad n cap zs rfl (h.below ((Below.refl _ _).alloc (Nat.le_refl _) _)) (by omega) (by simp) ?_)
  intro v' w1 hown hb;have hb1:=((Below.refl w.heap.size w).alloc (Nat.le_refl _) _).trans hb
  clear hb hnil;go_wp2
  go_ret
  exact⟨⟨_,rfl,by simpa using hown⟩,hb1⟩
theorem qY:Tf Tryz.prog 22 3 1:=by
 refine⟨by kernel_rfl,?_,by decide⟩
 obtain⟨i,h1,h2,h3,h4⟩:=info_parts (P:=Tryz.prog) (e:=3) (z:=.int .i64 0) (size:=1) (bytes:=8) (by kernel_rfl)
 exact⟨i,_,h1,h2,h3,h4,rfl⟩
section
variable {P:Program} {Q:Exit→Act→World→Prop}
def AL (u:Nat→Value) (i:Nat) (v:Value):Nat→Value:=fun j=>if j=i then v else u j
theorem abv (u:Nat→Value) (i:Nat) (v:Value):AL u i v i=v:=by simp[AL]
theorem Ch (u:Nat→Value) {i j:Nat} (v:Value) (h:j≠i):AL u i v j=u j:=by simp[AL,h]
def wU (ops:Array Oper) (i:Nat):List Nat:=((ops[i]?).map fun o=>(o.after.toList.filter (Region.binds .any)).map (·.on)).getD []
def BC (ops:Array Oper):Bool:=(List.range ops.size).all fun i=>((ops[i]?).map fun o=>o.guard.isNone).getD false&&(wU ops i).all (fun j=>decide (j<i))
theorem aaw {ops:Array Oper} {i:Nat} {o:Oper} (ho:ops[i]?=some o) {e:Edge} (he:e∈o.after) (hb:Region.binds .any e=true):e.on∈wU ops i:=by
 simp only[wU,ho,Option.map_some,Option.getD_some,List.mem_map,List.mem_filter];exact⟨e,⟨by simpa using he,hb⟩,rfl⟩
def iL (ops:Array Oper):Nat→Nat→List Nat
 |0,_=>[]
 |n+1,i=>wU ops i++(wU ops i).flatMap (iL ops n)
theorem AI {ops:Array Oper} {listed:Array Bool} (down:∀i,listed.getD i false=true→∀j,j∈wU ops i→listed.getD j false=true) :
  ∀n i,listed.getD i false=true→∀j,j∈iL ops n i→listed.getD j false=true:=by
 intro n;induction n with
 |zero=>intro i _ j hj;simp[iL]at hj
 |succ n ih =>
  intro i hi j hj;simp only[iL,List.mem_append,List.mem_flatMap]at hj;rcases hj with hj|⟨k,hk,hj⟩
  ·exact down i hi j hj
  ·exact ih k (down i hi k hk) j hj
theorem DP {ops:Array Oper} {listed:Array Bool} (down:∀i,listed.getD i false=true→∀j,j∈wU ops i→listed.getD j false=true) {i:Nat} (hp:∀j,j∈wU ops i→listed.getD j false=true) :
  ∀n,∀j,j∈iL ops n i→listed.getD j false=true:=by
 intro n;cases n with
 |zero=>intro j hj;simp[iL]at hj
 |succ n =>
  intro j hj;simp only[iL,List.mem_append,List.mem_flatMap]at hj;rcases hj with hj|⟨k,hk,hj⟩
  ·exact hp j hj
  ·exact AI down n k (hp k hk) j hj
structure Mid (ops:Array Oper) (fr:(Nat→Value)→Act) (u0:Nat→Value) (Φ:Nat→(Nat→Value)→World→Prop) (S:(Nat→Bool)→World→Prop) (listed:Array Bool) (a:Act) (w:World):Prop where
 size:listed.size=ops.size
 down:∀i,listed.getD i false=true→∀j,j∈wU ops i→listed.getD j false=true
 u:∃u:Nat→Value,a=fr u∧(∀i,listed.getD i false=true→Φ i u w)∧(∀i,i<ops.size→listed.getD i false=false→u i=u0 i)
 s:S (fun i=>listed.getD i false) w
theorem BF {l:Array Bool} {i j:Nat} (hi:i<l.size):(l.setIfInBounds i true).getD j false=if i=j then true else l.getD j false:=by
 by_cases h:i=j
 ·subst h;simp[hi]
 ·simp[Array.getElem?_setIfInBounds_ne h,h]
theorem count_set {l:Array Bool} {i:Nat} (hi:i<l.size) (hf:l.getD i true=false):(l.setIfInBounds i true).toList.count false+1=l.toList.count false:=by
 rw[Array.toList_setIfInBounds];have hi':i<l.toList.length:=by simpa using hi
 have e:l.toList[i]=false:=by
  have:l[i]=false:=by simpa[hi]using hf
  simpa using this
 have h2:∀(m:List Bool) (i:Nat) (h:i<m.length),m[i]=false→(m.set i true).count false+1=m.count false:=by
  intro m;induction m with
  |nil=>intro i h;simp at h
  |cons b m ih =>
   intro i h hb;cases i with
   |zero=>simp at hb;subst hb;simp
   |succ i =>
    have:=ih i (by simpa using h) (by simpa using hb)
    simp only[List.set_cons_succ,List.count_cons];omega
 exact h2 _ _ hi' e
def akm (D:Nat) (P:Program) (ops:Array Oper) (fr:(Nat→Value)→Act) (u0:Nat→Value) (Φ:Nat→(Nat→Value)→World→Prop) (S:(Nat→Bool)→World→Prop) (Q:Exit→Act→World→Prop) (i:Nat):Prop :=
 ∀o,ops[i]?=some o→∀(u:Nat→Value) (w:World) (L:Nat→Bool),S L w→L i=false→(∀j∈iL ops D i,L j=true)→(∀j∈iL ops D i,Φ j u w)→(∀j,j<ops.size→i∈iL ops D j→u j=u0 j)→u i=u0 i →
  ∀K:Act→World→Prop,(∀v w',Φ i (AL u i v) w'→S (fun k=>if k=i then true else L k) w'→(∀j x,j≠i→Φ j x w→Φ j x w')→K ((fr u).put o.dst v) w')→o.wp P (fr u) w K Q
theorem HM {ops:Array Oper} {listed:Array Bool} {i:Nat} (h:i∈Region.ready .any ops listed) :
  i<ops.size∧listed.getD i true=false∧∀o,ops[i]?=some o→∀e∈o.after,Region.binds .any e=true→listed.getD e.on false=true:=by
 obtain⟨h1,o,ho,h2⟩:=mem_ready.1 h;have hi:i<ops.size:=by
  rcases Nat.lt_or_ge i ops.size with g|g
  ·exact g
  ·rw[Array.getElem?_eq_none g]at ho;cases ho
 refine⟨hi,h1,fun o' ho' e he hb=>?_⟩
 rw[ho]at ho';cases ho';exact h2 e he hb
theorem wpAny_all (D:Nat) {ops:Array Oper} {fr:(Nat→Value)→Act} {u0:Nat→Value} {Φ:Nat→(Nat→Value)→World→Prop} {S:(Nat→Bool)→World→Prop}
  (hw:BC ops=true)
  (hput:∀i o u v,ops[i]?=some o→(fr u).put o.dst v=fr (AL u i v))
  (hdep:∀j u u' w,(∀k,k=j∨k∈iL ops D j→u k=u' k)→Φ j u w→Φ j u' w)
  (duty:∀i,i<ops.size→akm D P ops fr u0 Φ S Q i)
  (fin:∀u w L,S L w→(∀i,i<ops.size→L i=true)→(∀i,i<ops.size→Φ i u w)→Q .normal (fr u) w) :
  ∀(fuel:Nat) (listed:Array Bool) (a:Act) (w:World),listed.toList.count false≤fuel→Mid ops fr u0 Φ S listed a w→wpAny P .any ops Q fuel listed a w:=by
 have hwell:∀i,i<ops.size→(∀o,ops[i]?=some o→o.guard=none)∧∀j∈wU ops i,j<i:=by
  intro i hi;have h:=List.all_eq_true.1 hw i (List.mem_range.2 hi)
  simp only[Bool.and_eq_true]at h;refine⟨fun o ho=>?_,fun j hj=>by simpa using List.all_eq_true.1 h.2 j hj⟩
  have h1:=h.1;rw[ho]at h1;simpa using h1
 have done:∀listed a w,Region.ready .any ops listed=[]→Mid ops fr u0 Φ S listed a w→Q .normal a w:=by
  intro listed a w hr hm;have all:∀n i,i<n→i<ops.size→listed.getD i false=true:=by
   intro n;induction n with
   |zero=>intro i h;omega
   |succ n ih =>
    intro i hin hi;cases hl:listed.getD i false with
    |true=>rfl
    |false =>
     exfalso
     have hmem:i∈Region.ready .any ops listed:=by
      refine mem_ready.2 ⟨?_,ops[i],by simp[hi],fun e he hb=>?_⟩
      ·have:i<listed.size:=by rw[hm.size];exact hi
       simp[this]at hl ⊢
       exact hl
      ·have hp:=aaw (ops:=ops) (i:=i) (by simp[hi]) he hb
       exact ih e.on (by have:=(hwell i hi).2 _ hp;omega) (by have:=(hwell i hi).2 _ hp;omega)
     rw[hr]at hmem;cases hmem
  obtain⟨u,rfl,hu,-⟩:=hm.u;exact fin u w _ hm.s (fun i hi=>all (i+1) i (by omega) hi) fun i hi=>hu i (all (i+1) i (by omega) hi)
 intro fuel;induction fuel with
 |zero =>
  intro listed a w hc hm;have hr:Region.ready .any ops listed=[]:=by
   cases hr:Region.ready .any ops listed with
   |nil=>rfl
   |cons i r =>
    exfalso
    have hi:=HM (ops:=ops) (listed:=listed) (i:=i) (by rw[hr];exact List.mem_cons_self)
    have:=count_set (l:=listed) (i:=i) (by rw[hm.size];exact hi.1) hi.2.1
    omega
  exact⟨hr,done listed a w hr hm⟩
 |succ fuel ih =>
  intro listed a w hc hm;refine⟨fun hr=>done listed a w hr hm,fun i hi=>?_⟩
  obtain⟨hlt,hf,hpre⟩:=HM hi;have hls:i<listed.size:=by rw[hm.size];exact hlt
  have hff:listed.getD i false=false:=by simp[hls]at hf ⊢;exact hf
  have ho:ops[i]?=some ops[i]:=by simp[hlt]
  obtain⟨u,rfl,hu,hn⟩:=hm.u;have hpre':∀j∈wU ops i,listed.getD j false=true:=by
   intro j hj;simp only[wU,ho,Option.map_some,Option.getD_some,List.mem_map,List.mem_filter]at hj;obtain⟨e,⟨he,hb⟩,rfl⟩:=hj
   exact hpre _ ho e (by simpa using he) hb
  unfold wpOp;simp only[ho];have hg:=(hwell i hlt).1 _ ho
  have hwant:Region.wanted ops[i] (yielded ops (fr u).tmps)=true:=by simp[Region.wanted,hg]
  rw[if_pos hwant];refine .inl ?_
  refine duty i hlt _ ho u w _ hm.s hff (fun j hj=>DP hm.down hpre' D j hj) (fun j hj=>hu j (DP hm.down hpre' D j hj)) (fun j hj hij=>?_) (hn i hlt hff) _ ?_
  ·refine hn j hj ?_
   cases hl:listed.getD j false with
   |false=>rfl
   |true=>exact absurd (AI hm.down D j hl i hij) (by rw[hff];simp)
  ·intro v w' hΦ hS hst
   refine ih _ _ _ ?_ ⟨?_,?_,⟨AL u i v,hput i _ u v ho,?_,?_⟩,?_⟩
   ·have:=count_set hls hf
    omega
   ·simpa using hm.size
   ·intro k hk j hj
    rw[BF hls]at hk ⊢;by_cases hij:i=j
    ·simp[hij]
    ·rw[if_neg hij]
     by_cases hik:i=k
     ·subst hik;exact hpre' j hj
     ·rw[if_neg hik]at hk;exact hm.down k hk j hj
   ·intro k hk
    rw[BF hls]at hk;by_cases hik:k=i
    ·subst hik;exact hΦ
    ·rw[if_neg (fun e=>hik e.symm)]at hk
     refine hst k _ hik (hdep k u _ w (fun m hm'=>(Ch u v ?_).symm) (hu k hk))
     rintro rfl
     rcases hm' with hm'|hm'
     ·exact hik hm'.symm
     ·have:=AI hm.down D k hk _ hm'
      rw[hff]at this;cases this
   ·intro k hk hkf
    rw[BF hls]at hkf;by_cases hik:k=i
    ·subst hik;simp at hkf
    ·rw[if_neg (fun e=>hik e.symm)]at hkf
     simp only[AL,if_neg hik];exact hn k hk hkf
   ·have e:(fun k=>(listed.setIfInBounds i true).getD k false)=(fun k=>if k=i then true else listed.getD k false):=by
     funext k
     rw[BF hls];by_cases hk:i=k
     ·simp[hk]
     ·rw[if_neg hk,if_neg (fun e=>hk e.symm)]
    rw[e];exact hS
def eH (a:Act):List (Option Tmp)→Nat→(Nat→Value)→Act
 |[],_,_=>a
 |d::ds,k,u=>eH (a.put d (u k)) ds (k+1) u
theorem acb (a:Act) (d:Tmp) (v v':Value):(a.put (some d) v).put (some d) v'=a.put (some d) v':=by
 simp[Act.put]
def jW:List (Option Tmp)→Bool
 |[]=>true
 |d::ds=>(d.isNone||!ds.contains d)&&jW ds
theorem Li (ds:List (Option Tmp)):∀(a:Act) (k:Nat) (u:Nat→Value) (d:Option Tmp) (v:Value),(d=none∨d ∉ ds)→eH (a.put d v) ds k u=(eH a ds k u).put d v:=by
 induction ds with
 |nil=>intro a k u d v _;rfl
 |cons x ds ih =>
  intro a k u d v h;simp only[eH];have hx:(a.put d v).put x (u k)=(a.put x (u k)).put d v:=by
   rcases h with rfl|h
   ·rfl
   ·exact Act.put_comm a v (u k) (fun y hy e=>h (by rw[hy,←e];exact List.mem_cons_self))
  rw[hx];exact ih _ _ _ _ _ (h.imp id fun h m=>h (List.mem_cons_of_mem _ m))
theorem ab9 (ds:List (Option Tmp)) (hd:jW ds=true):∀(a:Act) (k:Nat) (u:Nat→Value) (i:Nat) (d:Option Tmp) (v:Value),ds[i]?=some d→(eH a ds k u).put d v=eH a ds k (AL u (k+i) v):=by
 have far:∀(ds:List (Option Tmp)) (a:Act) (k:Nat) (u:Nat→Value) (i:Nat) (v:Value),i<k→eH a ds k (AL u i v)=eH a ds k u:=by
  intro ds;induction ds with
  |nil=>intro a k u i v _;rfl
  |cons x ds ih =>
   intro a k u i v h;simp only[eH];rw[Ch u v (by omega),ih _ _ _ _ _ (by omega)]
 induction ds with
 |nil=>intro a k u i d v h;simp at h
 |cons x ds ih =>
  intro a k u i d v h;simp only[jW,Bool.and_eq_true]at hd;cases i with
  |zero =>
   simp only[List.getElem?_cons_zero,Option.some.injEq]at h;subst h;simp only[eH,Nat.add_zero];rw[abv,far _ _ _ _ _ _ (by omega)]
   have hx:x=none∨x ∉ ds:=by
    have:=hd.1;cases x with
    |none=>exact .inl rfl
    |some y=>right;simpa using this
   rw[←Li ds _ _ _ _ _ hx];congr 1
   cases x with
   |none=>rfl
   |some y=>exact acb _ _ _ _
  |succ i =>
   simp only[List.getElem?_cons_succ]at h;simp only[eH];rw[ih hd.2 _ _ _ _ _ _ h,Ch u v (by omega),show k+1+i=k+(i+1)by omega]
def Af (a:Act) (ds:List (Option Tmp)) (k:Nat):Value:=match ds[k]? with|some (some d)=>a.tmps.getD d undef|_=>undef
theorem aca (a:Act) (d:Tmp):a.put (some d) (a.tmps.getD d undef)=a:=by
 obtain⟨t,df⟩:=a;simp only[Act.put,Act.mk.injEq,and_true];rcases Nat.lt_or_ge d t.size with h|h
 ·apply Array.ext
  ·simp
  ·intro i h1 h2
   rw[Array.getElem_setIfInBounds (by simpa using h1)]
   split
   ·rename_i e;subst e;simp
   ·rfl
 ·exact Array.setIfInBounds_eq_of_size_le h
theorem aam (a:Act):∀(ds:List (Option Tmp)) (k:Nat) (u:Nat→Value),(∀i d,ds[i]?=some (some d)→u (k+i)=a.tmps.getD d undef)→eH a ds k u=a:=by
 intro ds;induction ds with
 |nil=>intro k u _;rfl
 |cons x ds ih =>
  intro k u h;simp only[eH];have hx:a.put x (u k)=a:=by
   cases x with
   |none=>rfl
   |some d=>rw[show u k=a.tmps.getD d undef from h 0 d rfl];exact aca a d
  rw[hx];exact ih (k+1) u fun i d hi=>by rw[show k+1+i=k+(i+1)by omega];exact h (i+1) d hi
theorem Nv (a:Act) (ds:List (Option Tmp)):eH a ds 0 (Af a ds)=a:=by
 refine aam a ds 0 _ fun i d hi=>?_
 simp only[Nat.zero_add,Af,hi]
theorem Cz (ds:List (Option Tmp)):∀(a:Act) (k:Nat) (u:Nat→Value),(eH a ds k u).tmps.size=a.tmps.size:=by
 induction ds with
 |nil=>intro a k u;rfl
 |cons x ds ih =>
  intro a k u;simp only[eH];rw[ih];cases x<;>simp[Act.put]
theorem jD (ds:List (Option Tmp)):∀(a:Act) (k:Nat) (u:Nat→Value) (t:Nat),ds.contains (some t)=false→(eH a ds k u).eval (.tmp t)=a.eval (.tmp t):=by
 induction ds with
 |nil=>intro a k u t _;rfl
 |cons x ds ih =>
  intro a k u t h;simp only[List.contains_cons,Bool.or_eq_false_iff]at h;simp only[eH];rw[ih _ _ _ _ h.2];refine Act.eval_put fun d hd e=>?_
  cases e;subst hd;simp at h
theorem cK (ds:List (Option Tmp)):∀(a:Act) (k:Nat) (u:Nat→Value) (i:Nat) (t:Nat),jW ds=true→ds[i]?=some (some t)→t<a.tmps.size→(eH a ds k u).eval (.tmp t)=u (k+i):=by
 induction ds with
 |nil=>intro a k u i t _ h;simp at h
 |cons x ds ih =>
  intro a k u i t hd h ht;simp only[jW,Bool.and_eq_true]at hd;simp only[eH];cases i with
  |zero =>
   simp only[List.getElem?_cons_zero,Option.some.injEq]at h;subst h;rw[jD _ _ _ _ _ (by simpa using hd.1)]
   simp[Act.put,Act.eval,ht]
  |succ i =>
   rw[ih _ _ _ i t hd.2 (by simpa using h) (by cases x<;>simpa[Act.put]using ht)]
   congr 1
   omega
def lO (D:Nat) (P:Program) (ops:Array Oper) (fr:(Nat→Value)→Act) (u0:Nat→Value) (Φ:Nat→(Nat→Value)→World→Prop) (S:(Nat→Bool)→World→Prop) (Q:Exit→Act→World→Prop) (i:Nat) (o:Oper):Prop :=
 ∀(u:Nat→Value) (w:World) (L:Nat→Bool),S L w→L i=false→(∀j∈iL ops D i,L j=true)→(∀j∈iL ops D i,Φ j u w)→(∀j,j<ops.size→i∈iL ops D j→u j=u0 j) →
  ∀K:Act→World→Prop,(∀v w',Φ i (AL u i v) w'→S (fun k=>if k=i then true else L k) w'→(∀j x,j≠i→Φ j x w→Φ j x w')→K ((fr u).put o.dst v) w')→o.wp P (fr u) w K Q
def MP (D:Nat) (P:Program) (ops:Array Oper) (fr:(Nat→Value)→Act) (u0:Nat→Value) (Φ:Nat→(Nat→Value)→World→Prop) (S:(Nat→Bool)→World→Prop) (Q:Exit→Act→World→Prop):List Oper→Nat→Prop
 |[],_=>True
 |o::r,k=>lO D P ops fr u0 Φ S Q k o∧MP D P ops fr u0 Φ S Q r (k+1)
theorem aaR {D:Nat} {ops:Array Oper} {fr:(Nat→Value)→Act} {u0:Nat→Value} {Φ:Nat→(Nat→Value)→World→Prop} {S:(Nat→Bool)→World→Prop} :
  ∀(l:List Oper) (k i:Nat) (o:Oper),MP D P ops fr u0 Φ S Q l k→l[i]?=some o→lO D P ops fr u0 Φ S Q (k+i) o:=by
 intro l;induction l with
 |nil=>intro k i o _ h;simp at h
 |cons x l ih =>
  intro k i o hd h;cases i with
  |zero=>simp only[List.getElem?_cons_zero,Option.some.injEq]at h;subst h;exact hd.1
  |succ i =>
   have:=ih (k+1) i o hd.2 (by simpa using h)
   rw[show k+(i+1)=k+1+i by omega];exact this
theorem zS (D:Nat) {id:Nat} {l:List Oper} {a:Act} {w:World} (ds:List (Option Tmp)) (Φ:Nat→(Nat→Value)→World→Prop) (S:(Nat→Bool)→World→Prop)
  (hm:P.follows .mixedOrders=true) (hw:BC l.toArray=true) (hds:l.map (·.dst)=ds) (hd:jW ds=true) (hs:S (fun _=>false) w.drew)
  (hdep:∀j u u' w,(∀k,k=j∨k∈iL l.toArray D j→u k=u' k)→Φ j u w→Φ j u' w)
  (duty:MP D P l.toArray (eH a ds 0) (Af a ds) Φ S Q l 0)
  (fin:∀u w L,S L w→(∀i,i<l.length→L i=true)→(∀i,i<l.length→Φ i u w)→Q .normal (eH a ds 0 u) w):(Code.region id l.toArray true).wp P Q a w:=by
 subst hds;refine wp_region_any hm ?_
 refine wpAny_all D (fr:=eH a (l.map (·.dst)) 0) (u0:=Af a (l.map (·.dst))) (Φ:=Φ) (S:=S) hw ?_ hdep (fun i hi o ho u w L hS hL hA h1 h2 _ K hK=>by
   have:=aaR l 0 i o duty (by simpa using ho)
   rw[Nat.zero_add]at this;exact this u w L hS hL hA h1 h2 K hK) (fun u w L hS hA h=>fin u w L hS (fun i hi=>hA i (by simpa using hi)) fun i hi=>h i (by simpa using hi)) _ _ _ _ ?_ ?_
 ·intro i o u v ho
  have:=ab9 (l.map (·.dst)) hd a 0 u i o.dst v (by rw[List.getElem?_map];rw[List.getElem?_toArray]at ho;rw[ho];rfl)
  rwa[Nat.zero_add]at this
 ·simp
 ·refine⟨by simp,?_,⟨Af a (l.map (·.dst)),(Nv _ _).symm,?_,fun _ _ _=>rfl⟩,?_⟩
  ·intro i hi
   exfalso
   rw[Array.getD_eq_getD_getElem?,Array.getElem?_replicate]at hi;split at hi<;>simp at hi
  ·intro i hi
   exfalso
   rw[Array.getD_eq_getD_getElem?,Array.getElem?_replicate]at hi;split at hi<;>simp at hi
  ·have e:(fun i=>(Array.replicate l.toArray.size false).getD i false)=(fun _=>false):=by
    funext i
    rw[Array.getD_eq_getD_getElem?,Array.getElem?_replicate];split<;>rfl
   rw[e];exact hs
end
end
section
def vE (a b:Value):Prop:=a.ownBlock=none∨a.ownBlock≠b.ownBlock
theorem gW (w:World) (r:Option Nat):w.grownBy w r:=⟨rfl,rfl,rfl,Nat.le_refl _,fun _ _ _=>rfl⟩
theorem mQ (w:World) (o:Obj) (r:Option Nat):w.grownBy (w.alloc o) r:=⟨rfl,rfl,rfl,by simp,fun k hk _=>Below.heap_alloc _ _ _ hk⟩
theorem dJ.kept {w w':World} {B:Nat} {e:TypeId} {k:Nat} {v:Value} {n:Nat} {zs:List Int} {r:Option Nat} (h:dJ w B e k v n zs) (g:w.grownBy w' r) (hne:v.ownBlock=none∨v.ownBlock≠r):dJ w' B e k v n zs:=World.ownsRow.kept h g hne
def Lit (w:World) (H0:Nat) (v:Value) (x:Int):Prop:=∃L,v=.slice (some ⟨L,0,none⟩) 1 1∧H0≤L∧L<w.heap.size∧bD w L 0 [x]
def GN (w:World) (B e n H0:Nat) (a:Value) (zs:List Int) (v:Value):Prop:=dJ w B e 1 v n zs∧∃g,v.ownBlock=some g∧(a.ownBlock=some g∨H0≤g)∧g<w.heap.size
theorem Lit.kept {w w':World} {H0:Nat} {v:Value} {x:Int} {r:Option Nat} (h:Lit w H0 v x) (g:w.grownBy w' r) (hr:∀k,r=some k→k<H0):Lit w' H0 v x:=by
 obtain⟨L,e,h1,h2,h3⟩:=h;refine⟨L,e,h1,Nat.lt_of_lt_of_le h2 g.size,fun i hi=>?_⟩
 rw[World.cell?_of_block (g.block L h2 (fun e=>by have:=hr L e.symm;omega))]
 exact h3 i hi
theorem GN.kept {w w':World} {B e n H0:Nat} {a:Value} {zs:List Int} {v:Value} {r:Option Nat} (h:GN w B e n H0 a zs v) (g:w.grownBy w' r) (hr:∀k,r=some k→k<H0) (hne:a.ownBlock=none∨a.ownBlock≠r):GN w' B e n H0 a zs v:=by
 obtain⟨h1,k,h2,h3,h4⟩:=h;refine⟨h1.kept g ?_,k,h2,h3,Nat.lt_of_lt_of_le h4 g.size⟩
 right
 rw[h2];intro e;rcases h3 with h3|h3
 ·rcases hne with hne|hne
  ·rw[hne]at h3;cases h3
  ·rw[h3]at hne;exact hne e
 ·have:=hr k e.symm;omega
structure Ce (B e H0 X o0 o1 o2 j:Nat) (a b c:Value) (A Bs C:List Int) (x y z:Int) (B0:Nat) (W1:World) (L:Nat→Bool) (w:World):Prop where
 h0:H0≤w.heap.size
 cx:w.cell? ⟨X,o0,none⟩=some (.int .i64 x)
 cy:w.cell? ⟨X,o1,none⟩=some (.int .i64 y)
 cz:w.cell? ⟨X,o2,none⟩=some (.int .i64 z)
 bel:Below B0 W1 w
 a:L 4=false→dJ w B e 1 a j A
 b:L 9=false→dJ w B e 1 b j Bs
 c:L 14=false→dJ w B e 1 c j C
def App3Φ (B e H0 X o0 o1 o2 j:Nat) (a b c:Value) (A Bs C:List Int) (x y z:Int):Nat→(Nat→Value)→World→Prop
 |0,u,_=>u 0=a
 |1,u,_=>u 1=.pointer (some ⟨X,o0,none⟩)
 |2,u,_=>u 2=.int .i64 x
 |3,u,w=>Lit w H0 (u 3) x
 |4,u,w=>GN w B e (j+1) H0 a (A++[x]) (u 4)
 |5,u,_=>u 5=b
 |6,u,_=>u 6=.pointer (some ⟨X,o1,none⟩)
 |7,u,_=>u 7=.int .i64 y
 |8,u,w=>Lit w H0 (u 8) y
 |9,u,w=>GN w B e (j+1) H0 b (Bs++[y]) (u 9)∧(u 4).ownBlock≠(u 9).ownBlock
 |10,u,_=>u 10=c
 |11,u,_=>u 11=.pointer (some ⟨X,o2,none⟩)
 |12,u,_=>u 12=.int .i64 z
 |13,u,w=>Lit w H0 (u 13) z
 |14,u,w=>GN w B e (j+1) H0 c (C++[z]) (u 14)∧(u 4).ownBlock≠(u 14).ownBlock∧(u 9).ownBlock≠(u 14).ownBlock
 |15,u,_=>u 15=u 4
 |16,u,_=>u 16=u 9
 |17,u,_=>u 17=u 14
 |_,_,_=>True
structure Touch (H0:Nat) (a b c:Value) (i:Nat) (r:Option Nat):Prop where
 lt:∀k,r=some k→k<H0
 a:i≠4→a.ownBlock=none∨a.ownBlock≠r
 b:i≠9→b.ownBlock=none∨b.ownBlock≠r
 c:i≠14→c.ownBlock=none∨c.ownBlock≠r
theorem PQ.X9 {B e H0 X o0 o1 o2 j:Nat} {a b c:Value} {A Bs C:List Int} {x y z:Int} {i:Nat} {r:Option Nat} {w w':World} (g:w.grownBy w' r) (t:Touch H0 a b c i r) :
  ∀k (u:Nat→Value),k≠i→App3Φ B e H0 X o0 o1 o2 j a b c A Bs C x y z k u w→App3Φ B e H0 X o0 o1 o2 j a b c A Bs C x y z k u w':=by
 intro k u hk h;match k,hk,h with
 |0,_,h=>exact h
 |1,_,h=>exact h
 |2,_,h=>exact h
 |3,_,h=>exact Lit.kept h g t.lt
 |4,hk,h=>exact GN.kept h g t.lt (t.a (Ne.symm hk))
 |5,_,h=>exact h
 |6,_,h=>exact h
 |7,_,h=>exact h
 |8,_,h=>exact Lit.kept h g t.lt
 |9,hk,h=>exact⟨GN.kept h.1 g t.lt (t.b (Ne.symm hk)),h.2⟩
 |10,_,h=>exact h
 |11,_,h=>exact h
 |12,_,h=>exact h
 |13,_,h=>exact Lit.kept h g t.lt
 |14,hk,h=>exact⟨GN.kept h.1 g t.lt (t.c (Ne.symm hk)),h.2⟩
 |15,_,h=>exact h
 |16,_,h=>exact h
 |17,_,h=>exact h
 |k+18,_,h=>exact h
theorem PQ.dep {B e H0 X o0 o1 o2 j:Nat} {a b c:Value} {A Bs C:List Int} {x y z:Int} {ops:Array Oper} {D:Nat} (h9:4∈iL ops D 9) (h14:4∈iL ops D 14) (h14':9∈iL ops D 14) (h15:4∈iL ops D 15) (h16:9∈iL ops D 16) (h17:14∈iL ops D 17) :
  ∀k u u' w,(∀m,m=k∨m∈iL ops D k→u m=u' m)→App3Φ B e H0 X o0 o1 o2 j a b c A Bs C x y z k u w→App3Φ B e H0 X o0 o1 o2 j a b c A Bs C x y z k u' w:=by
 intro k u u' w hu h;have s:=hu k (.inl rfl)
 match k,hu,s,h with
 |0,_,s,h=>simp only[App3Φ]at h ⊢;rw[←s];exact h
 |1,_,s,h=>simp only[App3Φ]at h ⊢;rw[←s];exact h
 |2,_,s,h=>simp only[App3Φ]at h ⊢;rw[←s];exact h
 |3,_,s,h=>simp only[App3Φ]at h ⊢;rw[←s];exact h
 |4,_,s,h=>simp only[App3Φ]at h ⊢;rw[←s];exact h
 |5,_,s,h=>simp only[App3Φ]at h ⊢;rw[←s];exact h
 |6,_,s,h=>simp only[App3Φ]at h ⊢;rw[←s];exact h
 |7,_,s,h=>simp only[App3Φ]at h ⊢;rw[←s];exact h
 |8,_,s,h=>simp only[App3Φ]at h ⊢;rw[←s];exact h
 |9,hu,s,h=>simp only[App3Φ]at h ⊢;rw[←s,←hu 4 (.inr h9)];exact h
 |10,_,s,h=>simp only[App3Φ]at h ⊢;rw[←s];exact h
 |11,_,s,h=>simp only[App3Φ]at h ⊢;rw[←s];exact h
 |12,_,s,h=>simp only[App3Φ]at h ⊢;rw[←s];exact h
 |13,_,s,h=>simp only[App3Φ]at h ⊢;rw[←s];exact h
 |14,hu,s,h=>simp only[App3Φ]at h ⊢;rw[←s,←hu 4 (.inr h14),←hu 9 (.inr h14')];exact h
 |15,hu,s,h=>simp only[App3Φ]at h ⊢;rw[←s,←hu 4 (.inr h15)];exact h
 |16,hu,s,h=>simp only[App3Φ]at h ⊢;rw[←s,←hu 9 (.inr h16)];exact h
 |17,hu,s,h=>simp only[App3Φ]at h ⊢;rw[←s,←hu 14 (.inr h17)];exact h
 |k+18,_,_,h=>exact h
theorem Ce.kept {B e H0 X o0 o1 o2 j:Nat} {a b c:Value} {A Bs C:List Int} {x y z:Int} {B0:Nat} {W1:World} {L:Nat→Bool} {w w':World} {i:Nat} {r:Option Nat}
  (h:Ce B e H0 X o0 o1 o2 j a b c A Bs C x y z B0 W1 L w) (g:w.grownBy w' r) (t:Touch H0 a b c i r) (hX:∀k,r=some k→k≠X∧B0≤k) (hXs:X<H0) (hB0:B0≤H0) :
  Ce B e H0 X o0 o1 o2 j a b c A Bs C x y z B0 W1 (fun k=>if k=i then true else L k) w':=by
 have cell:∀k,w'.cell? ⟨X,k,none⟩=w.cell? ⟨X,k,none⟩:=fun k =>
  World.cell?_of_block (g.block X (by have:=h.h0;omega) (fun e=>(hX X e.symm).1 rfl))
 refine⟨Nat.le_trans h.h0 g.size,by rw[cell];exact h.cx,by rw[cell];exact h.cy,by rw[cell];exact h.cz,?_,fun hl=>?_,fun hl=>?_,fun hl=>?_⟩
 ·exact h.bel.grown g (Nat.le_trans hB0 h.h0) (fun k hk=>(hX k hk).2)
 ·by_cases hi:4=i
  ·simp[hi]at hl
  ·rw[if_neg hi]at hl;exact(h.a hl).kept g (t.a (Ne.symm hi))
 ·by_cases hi:9=i
  ·simp[hi]at hl
  ·rw[if_neg hi]at hl;exact(h.b hl).kept g (t.b (Ne.symm hi))
 ·by_cases hi:14=i
  ·simp[hi]at hl
  ·rw[if_neg hi]at hl;exact(h.c hl).kept g (t.c (Ne.symm hi))
theorem vI (H0:Nat) (a b c:Value) (i:Nat):Touch H0 a b c i Option.none :=
 ⟨fun k h=>by simp at h,fun _=>by cases h:a.ownBlock<;>simp,fun _=>by cases h:b.ownBlock<;>simp,fun _=>by cases h:c.ownBlock<;>simp⟩
theorem Ce.idle {B e H0 X o0 o1 o2 j:Nat} {a b c:Value} {A Bs C:List Int} {x y z:Int} {B0:Nat} {W1:World} {L:Nat→Bool} {w w':World} {i:Nat}
  (h:Ce B e H0 X o0 o1 o2 j a b c A Bs C x y z B0 W1 L w) (g:w.grownBy w' Option.none) (hXs:X<H0) (hB0:B0≤H0) :
  Ce B e H0 X o0 o1 o2 j a b c A Bs C x y z B0 W1 (fun k=>if k=i then true else L k) w':=h.kept g (vI _ _ _ _ i) (fun k hk=>by simp at hk) hXs hB0
structure DV (B H0 X:Nat) (a b c:Value):Prop where
 ra:∀k,a.ownBlock=some k→B≤k∧k<X
 rb:∀k,b.ownBlock=some k→B≤k∧k<X
 rc:∀k,c.ownBlock=some k→B≤k∧k<X
 x:X<H0
 ab:vE a b
 ac:vE a c
 bc:vE b c
 ba:vE b a
 ca:vE c a
 cb:vE c b
theorem DV.t4 {B H0 X:Nat} {a b c:Value} (h:DV B H0 X a b c):Touch H0 a b c 4 a.ownBlock :=
 ⟨fun k hk=>by have:=h.ra k hk;have:=h.x;omega,fun e=>absurd rfl e,fun _=>h.ba,fun _=>h.ca⟩
theorem DV.t9 {B H0 X:Nat} {a b c:Value} (h:DV B H0 X a b c):Touch H0 a b c 9 b.ownBlock :=
 ⟨fun k hk=>by have:=h.rb k hk;have:=h.x;omega,fun _=>h.ab,fun e=>absurd rfl e,fun _=>h.cb⟩
theorem DV.t14 {B H0 X:Nat} {a b c:Value} (h:DV B H0 X a b c):Touch H0 a b c 14 c.ownBlock :=
 ⟨fun k hk=>by have:=h.rc k hk;have:=h.x;omega,fun _=>h.ac,fun _=>h.bc,fun e=>absurd rfl e⟩
theorem AA {w w1:World} {B e n m H0:Nat} {a b:Value} {zs ys:List Int} {v v':Value} (h:GN w B e n H0 a zs v) (hg:∃g,v'.ownBlock=some g∧(b.ownBlock=some g∨g=w.heap.size)) (hab:vE a b) (hb:∀k,b.ownBlock=some k→k<H0):v.ownBlock≠v'.ownBlock:=by
 obtain⟨-,g1,e1,h1,h2⟩:=h;obtain⟨g2,e2,h3⟩:=hg;rw[e1,e2];intro e;cases e;rcases h3 with h3|h3
 ·rcases h1 with h1|h1
  ·rcases hab with hab|hab
   ·rw[hab]at h1;cases h1
   ·exact hab (h1.trans h3.symm)
  ·have:=hb _ h3;omega
 ·omega
theorem IN {P:Program} (w:World) {o:Oper} {a:Act} {K:Act→World→Prop} {Q:Exit→Act→World→Prop} (s x:Operand) (t:TypeId)
  (ho:o.op=.call { callee:=.builtin .append,args:=#[s,x],argTypes:=#[t,t] })
  (B e H0:Nat) (E:Tf P t e 1) (v:Value) (n:Nat) (zs:List Int) (hs:a.eval s=v) (hown:dJ w B e 1 v n zs)
  (lv:Value) (y:Int) (hx:a.eval x=lv) (hl:Lit w H0 lv y) (hn:(n+1)*8≤140737488355328) (hB:B≤w.heap.size) (hH:H0≤w.heap.size)
  (h:∀v' w',GN w' B e (n+1) H0 v (zs++[y]) v'→w.grownBy w' v.ownBlock→(∃g,v'.ownBlock=some g∧(v.ownBlock=some g∨g=w.heap.size))→K (a.put o.dst v') w'):o.wp P a w K Q:=by
 obtain⟨ht,⟨i,z,hi,hz,hsize,hby,hzs⟩,hp⟩:=E
 obtain⟨L,rfl,hL0,hL1,hc⟩:=hl;have c0:=hc 0 (by simp)
 refine wp_append_lies w s x t ho B e i z 1 (1*8) ht hi hz hsize hby hzs hp v n (ints zs) hs hown ⟨L,0,none⟩ 1 1 [.int .i64 y] hx rfl ?_ ?_ (by omega) (by unfold maxLen;omega) (by omega) hB w.heap.size rfl ?_
 ·intro j u hj
  match j,hj with
  |0,hj=>simp at hj;subst hj;simpa[Addr.add]using c0
  |j+1,hj=>simp at hj
 ·intro u hu;simp at hu;subst hu;rfl
 ·intro g cap w' hown' hg hat hlt
  refine h _ _ ⟨?_,g,rfl,?_,hlt⟩ hg ⟨g,rfl,hat⟩
  ·rw[dJ,sZ];exact hown'
  ·exact hat.imp id fun e=>by omega
section
variable {P:Program} {Q:Exit→Act→World→Prop}
def Step (P:Program) (o:Oper) (ρ:Operand→Value) (w:World) (v:Value) (w':World):Prop :=
 ∀a:Act,execOp a.eval o=execOp ρ o→∀(K:Act→World→Prop) (Q:Exit→Act→World→Prop),K (a.put o.dst v) w'→o.wp P a w K Q
theorem Step.value {o:Oper} {ρ:Operand→Value} {w w':World} {v:Value} (h:(execOp ρ o).run P w=.ok (.value v) w'):Step P o ρ w v w':=by
 intro a e K Q hK;unfold Oper.wp;rw[e,h];exact hK
theorem Step.skip {o:Oper} {ρ:Operand→Value} {w w':World} {v:Value} (hd:o.dst=none) (h:(execOp ρ o).run P w=.ok .skip w'):Step P o ρ w v w':=by
 intro a e K Q hK;unfold Oper.wp;rw[e,h];rw[hd]at hK;show K (a.put o.dst undef) w'
 rw[hd];exact hK
theorem Step.call {o:Oper} {ρ:Operand→Value} {w w1 w':World} {v:Value} {f:FuncId} {args:Array Value} (h:(execOp ρ o).run P w=.ok (.enter f args) w1) (c:Calls P f args w1 fun e w2=>e=.returned v∧w2=w'):Step P o ρ w v w':=by
 intro a e K Q hK;unfold Oper.wp;rw[e,h];exact Calls.mono c fun e w2 ⟨h1,h2⟩=>by subst h1;subst h2;exact hK
def Ca (P:Program) (o:Oper) (ρ:Operand→Value) (w:World) (v:Value) (B:World→Prop):Prop :=
 ∀a:Act,execOp a.eval o=execOp ρ o→∀(K:Act→World→Prop) (Q:Exit→Act→World→Prop),(∀w',B w'→K (a.put o.dst v) w')→o.wp P a w K Q
theorem Step.pred {o:Oper} {ρ:Operand→Value} {w w':World} {v:Value} {B:World→Prop} (h:Step P o ρ w v w') (hB:B w'):Ca P o ρ w v B :=
 fun a e K Q hK=>h a e K Q (hK w' hB)
theorem Ca.call {o:Oper} {ρ:Operand→Value} {w w1:World} {v:Value} {B:World→Prop} {f:FuncId} {args:Array Value} (h:(execOp ρ o).run P w=.ok (.enter f args) w1) (c:Calls P f args w1 fun e w2=>e=.returned v∧B w2):Ca P o ρ w v B:=by
 intro a e K Q hK;unfold Oper.wp;rw[e,h];exact Calls.mono c fun e w2 ⟨h1,h2⟩=>by subst h1;exact hK w2 h2
def adY (D:Nat) (ops:Array Oper) (ds:List (Option Tmp)):Bool :=
 (List.range ops.size).all fun i=>((ops[i]?).map fun o=>o.op.operands.toList.all fun x =>
  match x with
  | .tmp t=>!ds.contains (some t)||(iL ops D i).any fun k=>decide (ds[k]?=some (some t))
  |_=>true).getD false
def ag1 (D:Nat) (ops:Array Oper) (stores:List Nat) (win:List (Nat×Nat)):Bool :=
 decide (stores.Nodup)&&stores.all (fun s=>decide (s<ops.size))&&(List.range ops.size).all fun i=>match win[i]? with
  |some (lo,hi)=>(stores.take lo).all (fun s=>(iL ops D i).contains s)&&(stores.drop hi).all (fun s=>s==i||(iL ops D s).contains i)&&decide (lo≤stores.length)
  |none=>false
def mN (stores:List Nat) (L:Nat→Bool):Nat:=(stores.filter L).length
theorem abI (stores:List Nat) (L:Nat→Bool):∀lo,lo≤stores.length→(∀s∈stores.take lo,L s=true)→lo≤mN stores L:=by
 unfold mN;induction stores with
 |nil=>intro lo h _;simpa using h
 |cons s r ih =>
  intro lo h hl;cases lo with
  |zero=>omega
  |succ lo =>
   have h1:=hl s (by simp)
   have:=ih lo (by simpa using h) fun t ht=>hl t (by simp[ht])
   simp only[List.filter_cons,h1,if_true,List.length_cons];omega
theorem M8 (stores:List Nat) (L:Nat→Bool):∀hi,(∀s∈stores.drop hi,L s=false)→mN stores L≤hi:=by
 intro hi h;unfold mN;conv=>lhs;rw[←List.take_append_drop hi stores]
 rw[List.filter_append,List.length_append];have e:(stores.drop hi).filter L=[]:=List.filter_eq_nil_iff.2 fun s hs=>by rw[h s hs];simp
 rw[e];have:=List.length_filter_le L (stores.take hi)
 have:=List.length_take_le hi stores
 simp
 omega
theorem X8 (stores:List Nat) (L:Nat→Bool) (h:∀s∈stores,L s=true):mN stores L=stores.length:=by
 unfold mN;rw[List.filter_eq_self.2 h]
theorem Hw (stores:List Nat) (L:Nat→Bool) (i:Nat) (h:i ∉ stores):mN stores (fun k=>if k=i then true else L k)=mN stores L:=by
 unfold mN;congr 1
 refine List.filter_congr fun s hs=>?_
 rw[if_neg (fun(e:s=i)=>h (by rw[←e];exact hs))]
theorem abH (stores:List Nat) (L:Nat→Bool) (i:Nat) (hn:stores.Nodup) (h:i∈stores) (hf:L i=false):mN stores (fun k=>if k=i then true else L k)=mN stores L+1:=by
 induction stores with
 |nil=>cases h
 |cons s r ih =>
  have hn':=List.nodup_cons.1 hn;unfold mN at ih ⊢;by_cases e:s=i
  ·subst e
   have:=Hw r L s hn'.1
   unfold mN at this;simp only[List.filter_cons,hf,if_true,List.length_cons,this,Bool.false_eq_true,if_false]
  ·have hm:i∈r:=by
    rcases List.mem_cons.1 h with h|h
    ·exact absurd h.symm e
    ·exact h
   have:=ih hn'.2 hm
   simp only[List.filter_cons,if_neg e];split
   ·simp only[List.length_cons,this]
   ·exact this
def dD (P:Program) (W:Nat→World→Prop) (stores:List Nat) (ρ:Operand→Value):List Oper→List Value→List (Nat×Nat)→Nat→Prop
 |[],_,_,_=>True
 |o::l,vs,ws,i=>(∀s w,(ws.headD (0,0)).1≤s→s≤(ws.headD (0,0)).2→W s w→Ca P o ρ w (vs.headD undef) (W (if stores.contains i then s+1 else s)))∧dD P W stores ρ l vs.tail ws.tail (i+1)
theorem ah6 {W:Nat→World→Prop} {stores:List Nat} {ρ:Operand→Value}:∀(l:List Oper) (vs:List Value) (ws:List (Nat×Nat)) (k i:Nat) (o:Oper) (lo hi:Nat),dD P W stores ρ l vs ws k→l[i]?=some o→ws[i]?=some (lo,hi) →
  ∀s w,lo≤s→s≤hi→W s w→Ca P o ρ w (vs.getD i undef) (W (if stores.contains (k+i)then s+1 else s)):=by
 intro l;induction l with
 |nil=>intro vs ws k i o lo hi _ h;simp at h
 |cons x l ih =>
  intro vs ws k i o lo hi hd h hw s w h1 h2 hW;cases i with
  |zero =>
   simp only[List.getElem?_cons_zero,Option.some.injEq]at h;subst h;cases ws with
   |nil=>simp at hw
   |cons y ws =>
    simp only[List.getElem?_cons_zero,Option.some.injEq]at hw;subst hw;have:=hd.1 s w h1 h2 hW
    cases vs<;>simpa using this
  |succ i =>
   cases ws with
   |nil=>simp at hw
   |cons y ws =>
    have:=ih vs.tail ws (k+1) i o lo hi hd.2 (by simpa using h) (by simpa using hw) s w h1 h2 hW
    rw[show k+(i+1)=k+1+i by omega]
    cases vs<;>simpa using this
theorem Rr (ds:List (Option Tmp)):∀(a:Act) (k:Nat) (u u':Nat→Value),(∀i,i<ds.length→u (k+i)=u' (k+i))→eH a ds k u=eH a ds k u':=by
 induction ds with
 |nil=>intro a k u u' _;rfl
 |cons x ds ih =>
  intro a k u u' h;simp only[eH];have h0:=h 0 (by simp)
  rw[Nat.add_zero]at h0;rw[h0];exact ih _ _ _ _ fun i hi=>by rw[show k+1+i=k+(i+1)by omega];exact h (i+1) (by simpa using hi)
theorem adG (a b:Act) (t:Tmp) (hs:a.tmps.size=b.tmps.size) (ht:¬ t<a.tmps.size):a.eval (.tmp t)=b.eval (.tmp t):=by
 simp[Act.eval,ht,hs▸ht]
theorem GX (D:Nat) {id:Nat} {l:List Oper} {a:Act} {w:World} (ds:List (Option Tmp)) (stores:List Nat) (win:List (Nat×Nat)) (W:Nat→World→Prop) (oM:List Value)
  (hm:P.follows .mixedOrders=true) (hw:BC l.toArray=true) (hsel:Region.noSelect l.toArray=true) (hds:l.map (·.dst)=ds) (hd:jW ds=true) (hc:adY D l.toArray ds=true) (hwin:ag1 D l.toArray stores win=true)
  (h0:W 0 w.drew) (steps:dD P W stores (eH a ds 0 fun k=>oM.getD k undef).eval l oM win 0)
  (fin:∀w',W stores.length w'→Q .normal (eH a ds 0 fun k=>oM.getD k undef) w'):(Code.region id l.toArray true).wp P Q a w:=by
 simp only[ag1,Bool.and_eq_true,decide_eq_true_eq]at hwin;obtain⟨⟨hnd,hin⟩,hwin⟩:=hwin
 refine zS D ds (fun i u _=>u i=oM.getD i undef) (fun L w'=>(∀i,L i=true→∀j∈iL l.toArray D i,L j=true)∧W (mN stores L) w') hm hw hds hd ?_ (fun j u u' w hu h=>by rw[←hu j (.inl rfl)];exact h) ?_ ?_
 ·refine⟨fun i h=>(by cases h),?_⟩
  rw[show mN stores (fun _=>false)=0 from Nat.le_zero.1 (M8 stores _ 0 fun s _=>rfl)]
  exact h0
 ·have key:∀(i:Nat) (o:Oper),l[i]?=some o→lO D P l.toArray (eH a ds 0) (Af a ds) (fun i u _=>u i=oM.getD i undef) (fun L w'=>(∀i,L i=true→∀j∈iL l.toArray D i,L j=true)∧W (mN stores L) w') Q i o:=by
   intro i o ho u w' L hS hL hanc hpre hpost K hK;obtain⟨hdown,hWs⟩:=hS;have hi:i<l.length:=by
    rcases Nat.lt_or_ge i l.length with h|h
    ·exact h
    ·rw[List.getElem?_eq_none h]at ho;cases ho
   have hwi:=List.all_eq_true.1 hwin i (List.mem_range.2 (by simpa using hi))
   cases hw2:win[i]? with
   |none=>rw[hw2]at hwi;simp at hwi
   |some y =>
    obtain⟨lo,hi'⟩:=y;rw[hw2]at hwi;simp only[Bool.and_eq_true,decide_eq_true_eq]at hwi;obtain⟨⟨hlo,hhi⟩,hle⟩:=hwi
    have s1:lo≤mN stores L:=abI stores L lo hle fun s hs=>hanc s (by simpa using List.all_eq_true.1 hlo s hs)
    have s2:mN stores L≤hi':=M8 stores L hi' fun s hs=>by
     have:=List.all_eq_true.1 hhi s hs
     simp only[Bool.or_eq_true,beq_iff_eq]at this;rcases this with rfl|h
     ·exact hL
     ·cases hLs:L s with
      |false=>rfl
      |true=>have:=hdown s hLs i (by simpa using h);rw[hL]at this;cases this
    have st:=ah6 l oM win 0 i o lo hi' steps ho hw2 _ w' s1 s2 hWs;rw[Nat.zero_add]at st;refine st (eH a ds 0 u) ?_ K Q ?_
    ·refine execOp_congr o ?_ ?_
     ·intro cs b e
      have:=hsel;simp only[Region.noSelect]at this;have hm:=Array.all_eq_true'.1 this o (by simpa using List.mem_of_getElem? ho)
      rw[e]at hm;simp at hm
     ·intro x hx
      cases x with
      |tmp t =>
       by_cases ht:t<a.tmps.size
       ·have uF:=List.all_eq_true.1 hc i (List.mem_range.2 (by simpa using hi))
        rw[show l.toArray[i]?=some o by simpa using ho]at uF
        simp only[Option.map_some,Option.getD_some]at uF;have:=List.all_eq_true.1 uF (.tmp t) (by simpa using hx)
        simp only[Bool.or_eq_true,Bool.not_eq_true']at this;rcases this with h|h
        ·rw[jD _ _ _ _ _ h,jD _ _ _ _ _ h]
        ·obtain⟨k,hk,hk2⟩:=List.any_eq_true.1 h
         have hk2:=of_decide_eq_true hk2;rw[cK _ _ _ _ k t hd hk2 ht,cK _ _ _ _ k t hd hk2 ht];simpa using hpre k hk
       ·exact adG _ _ _ (by rw[Cz,Cz]) (by rw[Cz];exact ht)
      |_=>rfl
    ·intro w2 hW2
     refine hK _ _ (by simp[AL]) ⟨?_,?_⟩ (fun j x _ h=>h)
     ·intro k hk j hj
      by_cases hki:k=i
      ·subst hki
       by_cases hjk:j=k
       ·simp[hjk]
       ·simp only[if_neg hjk];exact hanc j hj
      ·simp only[if_neg hki]at hk
       by_cases hji:j=i
       ·simp[hji]
       ·simp only[if_neg hji];exact hdown k hk j hj
     ·by_cases hin:i∈stores
      ·rw[abH stores L i hnd hin hL];rwa[if_pos (by simpa using hin)]at hW2
      ·rw[Hw stores L i hin];rwa[if_neg (by simpa using hin)]at hW2
  have all:∀(r:List Oper) (k:Nat),(∀i o,r[i]?=some o→l[k+i]?=some o)→MP D P l.toArray (eH a ds 0) (Af a ds) (fun i u _=>u i=oM.getD i undef) (fun L w'=>(∀i,L i=true→∀j∈iL l.toArray D i,L j=true)∧W (mN stores L) w') Q r k:=by
   intro r;induction r with
   |nil=>intro k _;trivial
   |cons x r ih =>
    intro k h;exact⟨key k x (by have:=h 0 x rfl;simpa using this),ih (k+1) fun i o hi=>by rw[show k+1+i=k+(i+1)by omega];exact h (i+1) o (by simpa using hi)⟩
  exact all l 0 fun i o h=>by rw[Nat.zero_add];exact h
 ·intro u w' L hS hA hΦ
  have hlen:ds.length=l.length:=by rw[←hds];simp
  have e:eH a ds 0 u=eH a ds 0 fun k=>oM.getD k undef:=Rr ds a 0 _ _ fun i hi=>by rw[Nat.zero_add];exact hΦ i (by omega)
  have es:mN stores L=stores.length:=X8 stores L fun s hs=>by
   refine hA s ?_
   have:=List.all_eq_true.1 hin s hs
   simpa using this
  rw[e];exact fin w' (es▸hS.2)
theorem EF (D:Nat) {id:Nat} {l:List Oper} {a:Act} {w:World} (ds:List (Option Tmp)) (stores:List Nat) (win:List (Nat×Nat)) (W:Nat→World→Prop) (oM:List Value)
  (hm:P.follows .mixedOrders=true) (hw:BC l.toArray=true) (hsel:Region.noSelect l.toArray=true) (hds:l.map (·.dst)=ds) (hd:jW ds=true) (hc:adY D l.toArray ds=true) (hwin:ag1 D l.toArray stores win=true)
  (hsz:(ds.all fun d=>match d with|some t=>decide (t<a.tmps.size)|none=>true)=true)
  (h0:W 0 w.drew)
  (steps:∀ρ:Operand→Value,(∀k t,ds[k]?=some (some t)→ρ (.tmp t)=oM.getD k undef)→(∀t,ds.contains (some t)=false→ρ (.tmp t)=a.eval (.tmp t))→(∀v,ρ (.const v)=v)→(∀f,ρ (.func f)=.func (.func f) #[] #[])→dD P W stores ρ l oM win 0)
  (fin:∀w',W stores.length w'→Q .normal (eH a ds 0 fun k=>oM.getD k undef) w'):(Code.region id l.toArray true).wp P Q a w:=by
 refine GX D ds stores win W oM hm hw hsel hds hd hc hwin h0 (steps _ ?_ ?_ ?_ ?_) fin
 ·intro k t h
  have ht:=List.all_eq_true.1 hsz (some t) (List.mem_of_getElem? h)
  simp only[decide_eq_true_eq]at ht;have:=cK ds a 0 (fun k=>oM.getD k undef) k t hd h ht
  rwa[Nat.zero_add]at this
 ·intro t h
  exact jD _ _ _ _ _ h
 ·intro v;rfl
 ·intro f;rfl
theorem dD.pure {W:Nat→World→Prop} {stores:List Nat} {ρ:Operand→Value} {o:Oper} {l:List Oper} {v:Value} {vs:List Value} {lh:Nat×Nat} {ws:List (Nat×Nat)} {i:Nat} (hs:stores.contains i=false)
  (h:∀w,Step P o ρ w v w) (t:dD P W stores ρ l vs ws (i+1)):dD P W stores ρ (o::l) (v::vs) (lh::ws) i:=by
 refine⟨fun s w _ _ hW=>?_,t⟩
 rw[hs];exact(h w).pred hW
theorem dD.load {W:Nat→World→Prop} {stores:List Nat} {ρ:Operand→Value} {o:Oper} {l:List Oper} {v:Value} {vs:List Value} {lo hi:Nat} {ws:List (Nat×Nat)} {i:Nat} (hs:stores.contains i=false)
  (h:∀s w,lo≤s→s≤hi→W s w→Step P o ρ w v w) (t:dD P W stores ρ l vs ws (i+1)):dD P W stores ρ (o::l) (v::vs) ((lo,hi)::ws) i:=by
 refine⟨fun s w h1 h2 hW=>?_,t⟩
 rw[hs];exact(h s w h1 h2 hW).pred hW
theorem dD.call {W:Nat→World→Prop} {stores:List Nat} {ρ:Operand→Value} {o:Oper} {l:List Oper} {v:Value} {vs:List Value} {lo hi:Nat} {ws:List (Nat×Nat)} {i:Nat} (hs:stores.contains i=false)
  (h:∀s w,lo≤s→s≤hi→W s w→Ca P o ρ w v (W s)) (t:dD P W stores ρ l vs ws (i+1)):dD P W stores ρ (o::l) (v::vs) ((lo,hi)::ws) i:=by
 refine⟨fun s w h1 h2 hW=>?_,t⟩
 rw[hs];exact h s w h1 h2 hW
theorem dD.store {W:Nat→World→Prop} {stores:List Nat} {ρ:Operand→Value} {o:Oper} {l:List Oper} {v:Value} {vs:List Value} {n:Nat} {ws:List (Nat×Nat)} {i:Nat} (hs:stores.contains i=true)
  (h:∀w,W n w→Ca P o ρ w v (W (n+1))) (t:dD P W stores ρ l vs ws (i+1)):dD P W stores ρ (o::l) (v::vs) ((n,n)::ws) i:=by
 refine⟨fun s w h1 h2 hW=>?_,t⟩
 have:s=n:=Nat.le_antisymm h2 h1
 subst this;rw[hs];exact h w hW
def pick (l:List (World→Prop)) (s:Nat):World→Prop:=l.getD s fun _=>False
end
end
section
set_option linter.unnecessarySimpa false
def ED (T S I f0 f1 f2 xs s1 s2 s3 t:Nat) (pos:String):List Oper :=
 [{ dst:=some t,op:=Op.move (Operand.tmp s1),type:=S,pos:=pos,after:=#[],guard:=none },
  { dst:=some (t+1),op:=Op.fieldAddr T (Operand.tmp xs) f0,type:=0,pos:=pos,after:=#[],guard:=none },
  { dst:=some (t+2),op:=Op.load I (Operand.tmp (t+1)),type:=I,pos:=pos,after:=#[{ on:=1,ground:=Ground.data }],guard:=none },
  { dst:=some (t+3),op:=Op.buildSlice S 1 #[(0,Operand.tmp (t+2))],type:=S,pos:=pos,after:=#[{ on:=2,ground:=Ground.data }],guard:=none },
  { dst:=some (t+4),op:=Op.call { callee:=Callee.builtin Builtin.append,args:=#[Operand.tmp t,Operand.tmp (t+3)],argTypes:=#[S,S] },type:=S,pos:=pos,after:=#[{ on:=0,ground:=Ground.data },{ on:=3,ground:=Ground.data }],guard:=none },
  { dst:=some (t+5),op:=Op.move (Operand.tmp s2),type:=S,pos:=pos,after:=#[],guard:=none },
  { dst:=some (t+6),op:=Op.fieldAddr T (Operand.tmp xs) f1,type:=0,pos:=pos,after:=#[],guard:=none },
  { dst:=some (t+7),op:=Op.load I (Operand.tmp (t+6)),type:=I,pos:=pos,after:=#[{ on:=6,ground:=Ground.data }],guard:=none },
  { dst:=some (t+8),op:=Op.buildSlice S 1 #[(0,Operand.tmp (t+7))],type:=S,pos:=pos,after:=#[{ on:=7,ground:=Ground.data }],guard:=none },
  { dst:=some (t+9),op:=Op.call { callee:=Callee.builtin Builtin.append,args:=#[Operand.tmp (t+5),Operand.tmp (t+8)],argTypes:=#[S,S] },type:=S,pos:=pos,after:=#[{ on:=5,ground:=Ground.data },{ on:=8,ground:=Ground.data },{ on:=4,ground:=Ground.chain }],guard:=none },
  { dst:=some (t+10),op:=Op.move (Operand.tmp s3),type:=S,pos:=pos,after:=#[],guard:=none },
  { dst:=some (t+11),op:=Op.fieldAddr T (Operand.tmp xs) f2,type:=0,pos:=pos,after:=#[],guard:=none },
  { dst:=some (t+12),op:=Op.load I (Operand.tmp (t+11)),type:=I,pos:=pos,after:=#[{ on:=11,ground:=Ground.data }],guard:=none },
  { dst:=some (t+13),op:=Op.buildSlice S 1 #[(0,Operand.tmp (t+12))],type:=S,pos:=pos,after:=#[{ on:=12,ground:=Ground.data }],guard:=none },
  { dst:=some (t+14),op:=Op.call { callee:=Callee.builtin Builtin.append,args:=#[Operand.tmp (t+10),Operand.tmp (t+13)],argTypes:=#[S,S] },type:=S,pos:=pos,after:=#[{ on:=10,ground:=Ground.data },{ on:=13,ground:=Ground.data },{ on:=9,ground:=Ground.chain }],guard:=none },
  { dst:=some s1,op:=Op.assign (Operand.tmp (t+4)),type:=S,pos:=pos,after:=#[{ on:=4,ground:=Ground.data },{ on:=14,ground:=Ground.chain },{ on:=0,ground:=Ground.phase },{ on:=1,ground:=Ground.phase },{ on:=2,ground:=Ground.phase },{ on:=3,ground:=Ground.phase },{ on:=4,ground:=Ground.phase },{ on:=5,ground:=Ground.textOnly Departure.lateStores },{ on:=6,ground:=Ground.textOnly Departure.lateStores },{ on:=7,ground:=Ground.textOnly Departure.lateStores },{ on:=8,ground:=Ground.textOnly Departure.lateStores },{ on:=9,ground:=Ground.textOnly Departure.lateStoresUnsure },{ on:=10,ground:=Ground.textOnly Departure.lateStores },{ on:=11,ground:=Ground.textOnly Departure.lateStores },{ on:=12,ground:=Ground.textOnly Departure.lateStores },{ on:=13,ground:=Ground.textOnly Departure.lateStores },{ on:=14,ground:=Ground.textOnly Departure.lateStoresUnsure }],guard:=none },
  { dst:=some s2,op:=Op.assign (Operand.tmp (t+9)),type:=S,pos:=pos,after:=#[{ on:=9,ground:=Ground.data },{ on:=15,ground:=Ground.chain },{ on:=0,ground:=Ground.phase },{ on:=1,ground:=Ground.phase },{ on:=2,ground:=Ground.phase },{ on:=3,ground:=Ground.phase },{ on:=4,ground:=Ground.phase },{ on:=5,ground:=Ground.phase },{ on:=6,ground:=Ground.phase },{ on:=7,ground:=Ground.phase },{ on:=8,ground:=Ground.phase },{ on:=9,ground:=Ground.phase },{ on:=10,ground:=Ground.textOnly Departure.lateStores },{ on:=11,ground:=Ground.textOnly Departure.lateStores },{ on:=12,ground:=Ground.textOnly Departure.lateStores },{ on:=13,ground:=Ground.textOnly Departure.lateStores },{ on:=14,ground:=Ground.textOnly Departure.lateStoresUnsure },{ on:=15,ground:=Ground.phase }],guard:=none },
  { dst:=some s3,op:=Op.assign (Operand.tmp (t+14)),type:=S,pos:=pos,after:=#[{ on:=14,ground:=Ground.data },{ on:=16,ground:=Ground.chain },{ on:=0,ground:=Ground.phase },{ on:=1,ground:=Ground.phase },{ on:=2,ground:=Ground.phase },{ on:=3,ground:=Ground.phase },{ on:=4,ground:=Ground.phase },{ on:=5,ground:=Ground.phase },{ on:=6,ground:=Ground.phase },{ on:=7,ground:=Ground.phase },{ on:=8,ground:=Ground.phase },{ on:=9,ground:=Ground.phase },{ on:=10,ground:=Ground.phase },{ on:=11,ground:=Ground.phase },{ on:=12,ground:=Ground.phase },{ on:=13,ground:=Ground.phase },{ on:=14,ground:=Ground.phase },{ on:=15,ground:=Ground.phase },{ on:=16,ground:=Ground.phase }],guard:=none }]
def dH (s1 s2 s3 t:Nat):List (Option Tmp):=[some t,some (t+1),some (t+2),some (t+3),some (t+4),some (t+5),some (t+6),some (t+7),some (t+8),some (t+9),some (t+10),some (t+11),some (t+12),some (t+13),some (t+14),some s1,some s2,some s3]
theorem fH {ops:Array Oper} {D i k:Nat} (h:(iL ops D i).contains k=true):k∈iL ops D i:=by simpa using h
set_option maxHeartbeats 2000000 in
theorem Nq {Q:Exit→Act→World→Prop} {id:Nat} {A:Act} {w:World} (T f0 f1 f2 o0 o1 o2 xs s1 s2 s3 t:Nat) (pos:String)
  (B H0 X j B0:Nat) (a b c:Value) (As Bs Cs:List Int) (x y z:Int) (W1:World)
  (h1:t+15≤A.tmps.size) (h2:s1<t) (h3:s2<t) (h4:s3<t) (hd:jW (dH s1 s2 s3 t)=true) (hxs:(dH s1 s2 s3 t).contains (some xs)=false)
  (hx:A.eval (.tmp xs)=.pointer (some ⟨X,0,none⟩)) (ha0:A.tmps.getD s1 undef=a) (hb0:A.tmps.getD s2 undef=b) (hc0:A.tmps.getD s3 undef=c)
  (hF0:∀ρ w,ρ (.tmp xs)=.pointer (some ⟨X,0,none⟩)→(execOp ρ { dst:=some (t+1),op:=Op.fieldAddr T (Operand.tmp xs) f0,type:=0,pos:=pos,after:=#[],guard:=none }).run Tryz.prog w=.ok (.value (.pointer (some ⟨X,o0,none⟩))) w)
  (hF1:∀ρ w,ρ (.tmp xs)=.pointer (some ⟨X,0,none⟩)→(execOp ρ { dst:=some (t+6),op:=Op.fieldAddr T (Operand.tmp xs) f1,type:=0,pos:=pos,after:=#[],guard:=none }).run Tryz.prog w=.ok (.value (.pointer (some ⟨X,o1,none⟩))) w)
  (hF2:∀ρ w,ρ (.tmp xs)=.pointer (some ⟨X,0,none⟩)→(execOp ρ { dst:=some (t+11),op:=Op.fieldAddr T (Operand.tmp xs) f2,type:=0,pos:=pos,after:=#[],guard:=none }).run Tryz.prog w=.ok (.value (.pointer (some ⟨X,o2,none⟩))) w)
  (hR:DV B H0 X a b c) (hB0:B0≤H0) (hBB:B0≤B) (hBX:B≤X) (hj:(j+1)*8≤140737488355328)
  (hs:Ce B 3 H0 X o0 o1 o2 j a b c As Bs Cs x y z B0 W1 (fun _=>false) w.drew)
  (fin:∀u w' L,Ce B 3 H0 X o0 o1 o2 j a b c As Bs Cs x y z B0 W1 L w'→(∀i,i<18→App3Φ B 3 H0 X o0 o1 o2 j a b c As Bs Cs x y z i u w')→Q .normal (eH A (dH s1 s2 s3 t) 0 u) w') :
  (Code.region id (ED T 22 3 f0 f1 f2 xs s1 s2 s3 t pos).toArray true).wp Tryz.prog Q A w:=by
 refine zS 3 (dH s1 s2 s3 t) (App3Φ B 3 H0 X o0 o1 o2 j a b c As Bs Cs x y z) (Ce B 3 H0 X o0 o1 o2 j a b c As Bs Cs x y z B0 W1)
  (by kernel_rfl) rfl rfl hd hs (PQ.dep (fH rfl) (fH rfl) (fH rfl) (fH rfl) (fH rfl) (fH rfl)) ?_ (fun u w L h1 _ h2=>fin u w L h1 h2)
 refine⟨?d0,?d1,?d2,?d3,?d4,?d5,?d6,?d7,?d8,?d9,?d10,?d11,?d12,?d13,?d14,?d15,?d16,?d17,trivial⟩
 case d0 =>
   change lO _ _ _ _ _ _ _ _ 0 _
   intro u ww L hS hL _ hpre hpost K hK;have hk:=hK (a) (ww) (by simp[App3Φ,AL]) (hS.idle (gW _ _) hR.x hB0) (fun j x _ h=>h)
   unfold Oper.wp;rw[(?h:Sem.run Tryz.prog (execOp _ _) ww=.ok (.value (a)) (ww))]
   ·exact hk
   case h =>
    have r15:(eH A (dH s1 s2 s3 t) 0 u).eval (.tmp s1)=a:=(cK _ A 0 u 15 s1 hd rfl (by omega)).trans ((hpost 15 (by simp[ED]) (fH rfl)).trans ha0)
    clear hK hpost hS;generalize (eH _ _ _ u).eval=ρ at *
    simp[execOp,r15]
 case d1 =>
   change lO _ _ _ _ _ _ _ _ 1 _
   intro u ww L hS hL _ hpre hpost K hK;have hk:=hK (.pointer (some ⟨X,o0,none⟩)) (ww) (by simp[App3Φ,AL]) (hS.idle (gW _ _) hR.x hB0) (fun j x _ h=>h)
   unfold Oper.wp;rw[(?h:Sem.run Tryz.prog (execOp _ _) ww=.ok (.value (.pointer (some ⟨X,o0,none⟩))) (ww))]
   ·exact hk
   case h =>
    have rx:(eH A (dH s1 s2 s3 t) 0 u).eval (.tmp xs)=.pointer (some ⟨X,0,none⟩):=(jD _ A 0 u xs hxs).trans hx
    exact hF0 _ _ rx
 case d2 =>
   change lO _ _ _ _ _ _ _ _ 2 _
   intro u ww L hS hL _ hpre hpost K hK;have hk:=hK (.int .i64 x) (ww) (by simp[App3Φ,AL]) (hS.idle (gW _ _) hR.x hB0) (fun j x _ h=>h)
   unfold Oper.wp;rw[(?h:Sem.run Tryz.prog (execOp _ _) ww=.ok (.value (.int .i64 x)) (ww))]
   ·exact hk
   case h =>
    have r1:(eH A (dH s1 s2 s3 t) 0 u).eval (.tmp (t+1))=.pointer (some ⟨X,o0,none⟩):=(cK _ A 0 u 1 (t+1) hd rfl (by omega)).trans (hpre 1 (fH rfl))
    have c1:=hS.cx;clear hK hpost hS;generalize (eH _ _ _ u).eval=ρ at *
    simp[execOp,go_sem,r1,c1]
 case d3 =>
   change lO _ _ _ _ _ _ _ _ 3 _
   intro u ww L hS hL _ hpre hpost K hK;have hk:=hK (.slice (some ⟨ww.heap.size,0,none⟩) 1 1) (ww.alloc (.cells #[.int .i64 x] 3)) (by
     simp only[App3Φ,AL,if_true];exact⟨_,rfl,hS.h0,by simp,bD.new ww [x] _⟩) (hS.idle (mQ _ _ _) hR.x hB0) (PQ.X9 (mQ _ _ _) (vI _ _ _ _ _))
   unfold Oper.wp;rw[(?h:Sem.run Tryz.prog (execOp _ _) ww=.ok (.value (.slice (some ⟨ww.heap.size,0,none⟩) 1 1)) (ww.alloc (.cells #[.int .i64 x] 3)))]
   ·exact hk
   case h =>
    have r2:(eH A (dH s1 s2 s3 t) 0 u).eval (.tmp (t+2))=.int .i64 x:=(cK _ A 0 u 2 (t+2) hd rfl (by omega)).trans (hpre 2 (fH rfl))
    clear hK hpost hS;generalize (eH _ _ _ u).eval=ρ at *
    simp[execOp,go_sem,r2]
 case d4 =>
   change lO _ _ _ _ _ _ _ _ 4 _
   intro u ww L hS hL _ hpre hpost K hK;have hl:=hpre 3 (fH rfl)
   have r0:(eH A (dH s1 s2 s3 t) 0 u).eval (.tmp t)=a:=(cK _ A 0 u 0 t hd rfl (by omega)).trans (hpre 0 (fH rfl))
   have r3:(eH A (dH s1 s2 s3 t) 0 u).eval (.tmp (t+3))=u 3:=(cK _ A 0 u 3 (t+3) hd rfl (by omega)).trans (rfl)
   refine IN ww _ _ 22 rfl B 3 H0 qY a j _ r0 (hS.a hL) (u 3) x r3 hl (by omega) (by have:=hS.h0;have:=hR.x;omega) hS.h0 ?_
   intro v' w' hG hg hg';refine hK v' w' ?_ (hS.kept hg hR.t4 (fun k hk=>by have:=hR.ra k hk;omega) hR.x hB0) (PQ.X9 hg hR.t4)
   simp only[App3Φ,AL,if_true,Nat.reduceEqDiff,if_false];exact hG
 case d5 =>
   change lO _ _ _ _ _ _ _ _ 5 _
   intro u ww L hS hL _ hpre hpost K hK;have hk:=hK (b) (ww) (by simp[App3Φ,AL]) (hS.idle (gW _ _) hR.x hB0) (fun j x _ h=>h)
   unfold Oper.wp;rw[(?h:Sem.run Tryz.prog (execOp _ _) ww=.ok (.value (b)) (ww))]
   ·exact hk
   case h =>
    have r16:(eH A (dH s1 s2 s3 t) 0 u).eval (.tmp s2)=b:=(cK _ A 0 u 16 s2 hd rfl (by omega)).trans ((hpost 16 (by simp[ED]) (fH rfl)).trans hb0)
    clear hK hpost hS;generalize (eH _ _ _ u).eval=ρ at *
    simp[execOp,r16]
 case d6 =>
   change lO _ _ _ _ _ _ _ _ 6 _
   intro u ww L hS hL _ hpre hpost K hK;have hk:=hK (.pointer (some ⟨X,o1,none⟩)) (ww) (by simp[App3Φ,AL]) (hS.idle (gW _ _) hR.x hB0) (fun j x _ h=>h)
   unfold Oper.wp;rw[(?h:Sem.run Tryz.prog (execOp _ _) ww=.ok (.value (.pointer (some ⟨X,o1,none⟩))) (ww))]
   ·exact hk
   case h =>
    have rx:(eH A (dH s1 s2 s3 t) 0 u).eval (.tmp xs)=.pointer (some ⟨X,0,none⟩):=(jD _ A 0 u xs hxs).trans hx
    exact hF1 _ _ rx
 case d7 =>
   change lO _ _ _ _ _ _ _ _ 7 _
   intro u ww L hS hL _ hpre hpost K hK;have hk:=hK (.int .i64 y) (ww) (by simp[App3Φ,AL]) (hS.idle (gW _ _) hR.x hB0) (fun j x _ h=>h)
   unfold Oper.wp;rw[(?h:Sem.run Tryz.prog (execOp _ _) ww=.ok (.value (.int .i64 y)) (ww))]
   ·exact hk
   case h =>
    have r6:(eH A (dH s1 s2 s3 t) 0 u).eval (.tmp (t+6))=.pointer (some ⟨X,o1,none⟩):=(cK _ A 0 u 6 (t+6) hd rfl (by omega)).trans (hpre 6 (fH rfl))
    have c1:=hS.cy;clear hK hpost hS;generalize (eH _ _ _ u).eval=ρ at *
    simp[execOp,go_sem,r6,c1]
 case d8 =>
   change lO _ _ _ _ _ _ _ _ 8 _
   intro u ww L hS hL _ hpre hpost K hK;have hk:=hK (.slice (some ⟨ww.heap.size,0,none⟩) 1 1) (ww.alloc (.cells #[.int .i64 y] 3)) (by
     simp only[App3Φ,AL,if_true];exact⟨_,rfl,hS.h0,by simp,bD.new ww [y] _⟩) (hS.idle (mQ _ _ _) hR.x hB0) (PQ.X9 (mQ _ _ _) (vI _ _ _ _ _))
   unfold Oper.wp;rw[(?h:Sem.run Tryz.prog (execOp _ _) ww=.ok (.value (.slice (some ⟨ww.heap.size,0,none⟩) 1 1)) (ww.alloc (.cells #[.int .i64 y] 3)))]
   ·exact hk
   case h =>
    have r7:(eH A (dH s1 s2 s3 t) 0 u).eval (.tmp (t+7))=.int .i64 y:=(cK _ A 0 u 7 (t+7) hd rfl (by omega)).trans (hpre 7 (fH rfl))
    clear hK hpost hS;generalize (eH _ _ _ u).eval=ρ at *
    simp[execOp,go_sem,r7]
 case d9 =>
   change lO _ _ _ _ _ _ _ _ 9 _
   intro u ww L hS hL _ hpre hpost K hK;have hl:=hpre 8 (fH rfl)
   have r5:(eH A (dH s1 s2 s3 t) 0 u).eval (.tmp (t+5))=b:=(cK _ A 0 u 5 (t+5) hd rfl (by omega)).trans (hpre 5 (fH rfl))
   have r8:(eH A (dH s1 s2 s3 t) 0 u).eval (.tmp (t+8))=u 8:=(cK _ A 0 u 8 (t+8) hd rfl (by omega)).trans (rfl)
   refine IN ww _ _ 22 rfl B 3 H0 qY b j _ r5 (hS.b hL) (u 8) y r8 hl (by omega) (by have:=hS.h0;have:=hR.x;omega) hS.h0 ?_
   intro v' w' hG hg hg';refine hK v' w' ?_ (hS.kept hg hR.t9 (fun k hk=>by have:=hR.rb k hk;omega) hR.x hB0) (PQ.X9 hg hR.t9)
   simp only[App3Φ,AL,if_true,Nat.reduceEqDiff,if_false];refine⟨hG,?_⟩
   have g4:=hpre 4 (fH rfl)
   exact AA (w1:=ww) (m:=0) (ys:=[]) g4 hg' hR.ab (fun k hk=>by have:=hR.rb k hk;have:=hR.x;omega)
 case d10 =>
   change lO _ _ _ _ _ _ _ _ 10 _
   intro u ww L hS hL _ hpre hpost K hK;have hk:=hK (c) (ww) (by simp[App3Φ,AL]) (hS.idle (gW _ _) hR.x hB0) (fun j x _ h=>h)
   unfold Oper.wp;rw[(?h:Sem.run Tryz.prog (execOp _ _) ww=.ok (.value (c)) (ww))]
   ·exact hk
   case h =>
    have r17:(eH A (dH s1 s2 s3 t) 0 u).eval (.tmp s3)=c:=(cK _ A 0 u 17 s3 hd rfl (by omega)).trans ((hpost 17 (by simp[ED]) (fH rfl)).trans hc0)
    clear hK hpost hS;generalize (eH _ _ _ u).eval=ρ at *
    simp[execOp,r17]
 case d11 =>
   change lO _ _ _ _ _ _ _ _ 11 _
   intro u ww L hS hL _ hpre hpost K hK;have hk:=hK (.pointer (some ⟨X,o2,none⟩)) (ww) (by simp[App3Φ,AL]) (hS.idle (gW _ _) hR.x hB0) (fun j x _ h=>h)
   unfold Oper.wp;rw[(?h:Sem.run Tryz.prog (execOp _ _) ww=.ok (.value (.pointer (some ⟨X,o2,none⟩))) (ww))]
   ·exact hk
   case h =>
    have rx:(eH A (dH s1 s2 s3 t) 0 u).eval (.tmp xs)=.pointer (some ⟨X,0,none⟩):=(jD _ A 0 u xs hxs).trans hx
    exact hF2 _ _ rx
 case d12 =>
   change lO _ _ _ _ _ _ _ _ 12 _
   intro u ww L hS hL _ hpre hpost K hK;have hk:=hK (.int .i64 z) (ww) (by simp[App3Φ,AL]) (hS.idle (gW _ _) hR.x hB0) (fun j x _ h=>h)
   unfold Oper.wp;rw[(?h:Sem.run Tryz.prog (execOp _ _) ww=.ok (.value (.int .i64 z)) (ww))]
   ·exact hk
   case h =>
    have r11:(eH A (dH s1 s2 s3 t) 0 u).eval (.tmp (t+11))=.pointer (some ⟨X,o2,none⟩):=(cK _ A 0 u 11 (t+11) hd rfl (by omega)).trans (hpre 11 (fH rfl))
    have c1:=hS.cz;clear hK hpost hS;generalize (eH _ _ _ u).eval=ρ at *
    simp[execOp,go_sem,r11,c1]
 case d13 =>
   change lO _ _ _ _ _ _ _ _ 13 _
   intro u ww L hS hL _ hpre hpost K hK;have hk:=hK (.slice (some ⟨ww.heap.size,0,none⟩) 1 1) (ww.alloc (.cells #[.int .i64 z] 3)) (by
     simp only[App3Φ,AL,if_true];exact⟨_,rfl,hS.h0,by simp,bD.new ww [z] _⟩) (hS.idle (mQ _ _ _) hR.x hB0) (PQ.X9 (mQ _ _ _) (vI _ _ _ _ _))
   unfold Oper.wp;rw[(?h:Sem.run Tryz.prog (execOp _ _) ww=.ok (.value (.slice (some ⟨ww.heap.size,0,none⟩) 1 1)) (ww.alloc (.cells #[.int .i64 z] 3)))]
   ·exact hk
   case h =>
    have r12:(eH A (dH s1 s2 s3 t) 0 u).eval (.tmp (t+12))=.int .i64 z:=(cK _ A 0 u 12 (t+12) hd rfl (by omega)).trans (hpre 12 (fH rfl))
    clear hK hpost hS;generalize (eH _ _ _ u).eval=ρ at *
    simp[execOp,go_sem,r12]
 case d14 =>
   change lO _ _ _ _ _ _ _ _ 14 _
   intro u ww L hS hL _ hpre hpost K hK;have hl:=hpre 13 (fH rfl)
   have r10:(eH A (dH s1 s2 s3 t) 0 u).eval (.tmp (t+10))=c:=(cK _ A 0 u 10 (t+10) hd rfl (by omega)).trans (hpre 10 (fH rfl))
   have r13:(eH A (dH s1 s2 s3 t) 0 u).eval (.tmp (t+13))=u 13:=(cK _ A 0 u 13 (t+13) hd rfl (by omega)).trans (rfl)
   refine IN ww _ _ 22 rfl B 3 H0 qY c j _ r10 (hS.c hL) (u 13) z r13 hl (by omega) (by have:=hS.h0;have:=hR.x;omega) hS.h0 ?_
   intro v' w' hG hg hg';refine hK v' w' ?_ (hS.kept hg hR.t14 (fun k hk=>by have:=hR.rc k hk;omega) hR.x hB0) (PQ.X9 hg hR.t14)
   simp only[App3Φ,AL,if_true,Nat.reduceEqDiff,if_false];refine⟨hG,?_,?_⟩
   ·have g4:=hpre 4 (fH rfl)
    exact AA (w1:=ww) (m:=0) (ys:=[]) g4 hg' hR.ac (fun k hk=>by have:=hR.rc k hk;have:=hR.x;omega)
   ·have g9:=hpre 9 (fH rfl)
    exact AA (w1:=ww) (m:=0) (ys:=[]) g9.1 hg' hR.bc (fun k hk=>by have:=hR.rc k hk;have:=hR.x;omega)
 case d15 =>
   change lO _ _ _ _ _ _ _ _ 15 _
   intro u ww L hS hL _ hpre hpost K hK;have hk:=hK (u 4) (ww) (by simp[App3Φ,AL]) (hS.idle (gW _ _) hR.x hB0) (fun j x _ h=>h)
   unfold Oper.wp;rw[(?h:Sem.run Tryz.prog (execOp _ _) ww=.ok (.value (u 4)) (ww))]
   ·exact hk
   case h =>
    have r4:(eH A (dH s1 s2 s3 t) 0 u).eval (.tmp (t+4))=u 4:=(cK _ A 0 u 4 (t+4) hd rfl (by omega)).trans (rfl)
    clear hK hpost hS;generalize (eH _ _ _ u).eval=ρ at *
    simp[execOp,r4]
 case d16 =>
   change lO _ _ _ _ _ _ _ _ 16 _
   intro u ww L hS hL _ hpre hpost K hK;have hk:=hK (u 9) (ww) (by simp[App3Φ,AL]) (hS.idle (gW _ _) hR.x hB0) (fun j x _ h=>h)
   unfold Oper.wp;rw[(?h:Sem.run Tryz.prog (execOp _ _) ww=.ok (.value (u 9)) (ww))]
   ·exact hk
   case h =>
    have r9:(eH A (dH s1 s2 s3 t) 0 u).eval (.tmp (t+9))=u 9:=(cK _ A 0 u 9 (t+9) hd rfl (by omega)).trans (rfl)
    clear hK hpost hS;generalize (eH _ _ _ u).eval=ρ at *
    simp[execOp,r9]
 case d17 =>
   change lO _ _ _ _ _ _ _ _ 17 _
   intro u ww L hS hL _ hpre hpost K hK;have hk:=hK (u 14) (ww) (by simp[App3Φ,AL]) (hS.idle (gW _ _) hR.x hB0) (fun j x _ h=>h)
   unfold Oper.wp;rw[(?h:Sem.run Tryz.prog (execOp _ _) ww=.ok (.value (u 14)) (ww))]
   ·exact hk
   case h =>
    have r14:(eH A (dH s1 s2 s3 t) 0 u).eval (.tmp (t+14))=u 14:=(cK _ A 0 u 14 (t+14) hd rfl (by omega)).trans (rfl)
    clear hK hpost hS;generalize (eH _ _ _ u).eval=ρ at *
    simp[execOp,r14]
theorem cJ {a b:World} (h:Below a.heap.size a b) (k:Nat) (v:Value):Below a.heap.size a (b.setCell ⟨a.heap.size,k,none⟩ v):=h.setCell (Nat.le_refl _) v
theorem ajP {a b:World} {n:Nat} (h:Below a.heap.size a b) (hn:a.heap.size≤n) (k:Nat) (v:Value):Below a.heap.size a (b.setCell ⟨n,k,none⟩ v):=h.setCell hn v
theorem blw {P:Prop} (h:P:=by(repeat (first|assumption|exact Below.refl _ _|refine ajR ?_ _|refine agY ?_|refine Gt ?_ _|refine cJ ?_ _ _|refine ajP ?_ (by omega) _ _|refine Xx ?_ (by assumption)))):P:=h
structure bB where
 q:Int
 v:Int
 p:Int
def bB.val (x:bB):Value:=.agg #[.int .i64 x.q,.int .i64 x.v,.int .i64 x.p]
def bB.zero:bB:=⟨0,0,0⟩
def flat (l:List bB):List Int:=l.flatMap fun x=>[x.q,x.v,x.p]
theorem OJ (l:List bB):(flat l).length=l.length*3:=by
 induction l with
 |nil=>rfl
 |cons x l ih=>simp only[flat,List.flatMap_cons,List.length_append,List.length_cons,List.length_nil]at ih ⊢;omega
theorem flat_get (l:List bB):∀(i:Nat) (x:bB),l[i]?=some x→(flat l).getD (i*3) 0=x.q∧(flat l).getD (i*3+1) 0=x.v∧(flat l).getD (i*3+2) 0=x.p:=by
 induction l with
 |nil=>intro i x h;simp at h
 |cons y l ih =>
  intro i x h;cases i with
  |zero=>simp at h;subst h;exact⟨rfl,rfl,rfl⟩
  |succ i =>
   have:=ih i x (by simpa using h)
   have e:∀k,(flat (y::l)).getD ((i+1)*3+k) 0=(flat l).getD (i*3+k) 0:=by
    intro k;show([y.q,y.v,y.p]++flat l).getD ((i+1)*3+k) 0=_
    rw[List.getD_eq_getElem?_getD,List.getElem?_append_right (by simp;omega),←List.getD_eq_getElem?_getD]
    congr 1
    simp
    omega
   have e0:=e 0;have e1:=e 1;have e2:=e 2
   simp only[Nat.add_zero]at e0;rw[e0,e1,e2];exact this
theorem OK {l:List bB} (h:eN (flat l)):eN (l.map (·.q))∧eN (l.map (·.v))∧eN (l.map (·.p)):=by
 have H:∀x,x∈l→iM x.q∧iM x.v∧iM x.p:=fun x hx =>
  ⟨h _ (List.mem_flatMap.2 ⟨x,hx,by simp⟩),h _ (List.mem_flatMap.2 ⟨x,hx,by simp⟩),h _ (List.mem_flatMap.2 ⟨x,hx,by simp⟩)⟩
 refine⟨fun z hz=>?_,fun z hz=>?_,fun z hz=>?_⟩ <;>
  (obtain⟨x,hx,rfl⟩:=List.mem_map.1 hz;first|exact(H x hx).1|exact(H x hx).2.1|exact(H x hx).2.2)
def kZ (l:List bB):Bool:=decide (cY (l.map (·.q))=0)&&decide (cY (l.map (·.v))=0)&&decide (cY (l.map (·.p))=0)
def xA (l:List bB):bB:=if kZ l then⟨cU (l.map (·.q)),cU (l.map (·.v)),cU (l.map (·.p))⟩else .zero
def EO (l:List bB):Int:=if kZ l then 0 else 2
theorem Ci {l:List bB} (h:kZ l=false):xA l=.zero∧EO l=2:=by simp[xA,EO,h]
theorem AZ {l:List bB} (h:kZ l=true):xA l=⟨cU (l.map (·.q)),cU (l.map (·.v)),cU (l.map (·.p))⟩∧EO l=0:=by simp[xA,EO,h]
theorem Ee (l:List Int):cY l=0∨cY l=2:=by
 unfold cY;split<;>simp
structure akk (w:World) (B:Nat) (j:Nat) (l:List bB) (a b c:Value):Prop where
 q:dJ w B 3 1 a j ((l.take j).map (·.q))
 v:dJ w B 3 1 b j ((l.take j).map (·.v))
 p:dJ w B 3 1 c j ((l.take j).map (·.p))
 ab:vE a b
 ac:vE a c
 bc:vE b c
 ba:vE b a
 ca:vE c a
 cb:vE c b
set_option maxHeartbeats 1000000 in
theorem SE (a:Option Addr) (cap:Nat) (l:List bB) (w:World) (h:Row w 3 a l.length cap (flat l)) (hn:l.length≤1000) :
  Calls Tryz.prog 169 #[.slice a l.length cap] w fun e w'=>e=.returned (.tuple #[(xA l).val,.int .i64 (EO l)])∧Below w.heap.size w w':=by
 obtain⟨hl,hcap,hmax,hall,hat⟩:=h;unfold maxLen at hmax;go_enter Tryz.func169,Tryz.ntmps169
 try simp only[List.append_eq,List.cons_append,List.nil_append]
 go_wp2
 go_loopw [4,5,6,16] (fun q v p i wr=>∃j:Nat,j≤l.length∧i=.int .i64 j∧akk wr (w.heap.size+1) j l q v p∧Below (w.heap.size+1) (w.alloc (.cells #[.int .i64 0,.int .i64 0,.int .i64 0] 101)) wr) (fun _ _ _ i _=>l.length-(intOf i).toNat)
 case atStart=>exact⟨0,by omega,rfl,⟨dJ.nil _ _ _ _,dJ.nil _ _ _ _,dJ.nil _ _ _ _,.inl rfl,.inl rfl,.inl rfl,.inl rfl,.inl rfl,.inl rfl⟩,Below.refl _ _⟩
 case round =>
  obtain⟨j,hj,rfl,T,hbel⟩:=hrel;have hsz:=hbel.size;simp only[World.size_alloc]at hsz;by_cases hlt:j<l.length
  ·obtain⟨b,off,rfl,hb,hc⟩:∃b off,a=some ⟨b,off,none⟩∧b<w.heap.size∧bD w b off (flat l):=by
    rcases hat with h0|h0
    ·omega
    ·exact h0
   obtain⟨x,hx⟩:∃x,l[j]?=some x:=⟨l[j],by simp[hlt]⟩
   have hg:=flat_get l j x hx;have hfl:=OJ l;have hcw:∀i,i<(flat l).length→wr.cell? ⟨b,off+i,none⟩=some (.int .i64 ((flat l).getD i 0)):=fun i hi=>by
    rw[hbel.cell (by show b<_;omega),World.cell?_alloc_lt _ _ _ hb];exact hc i hi
   have c0:wr.cell? ⟨b,off+j*3,none⟩=some (.int .i64 x.q):=by rw[hcw (j*3) (by omega),hg.1]
   have c1:wr.cell? ⟨b,off+j*3+1,none⟩=some (.int .i64 x.v):=by rw[Nat.add_assoc,hcw (j*3+1) (by omega),hg.2.1]
   have c2:wr.cell? ⟨b,off+j*3+2,none⟩=some (.int .i64 x.p):=by rw[Nat.add_assoc,hcw (j*3+2) (by omega),hg.2.2]
   have hlt':(j:Int)<(l.length:Int):=by omega
   clear hc hcw hat hg;have hx:=Lib.hid hx;have hfl:=Lib.hid hfl;go_wp2_with fail
   have hB0:w.heap.size+1≤wr.heap.size+1:=by omega
   have hR:DV (w.heap.size+1) (wr.heap.size+1) wr.heap.size u4 u5 u6:=⟨World.ownsRow.lt T.q,World.ownsRow.lt T.v,World.ownsRow.lt T.p,by omega,T.ab,T.ac,T.bc,T.ba,T.ca,T.cb⟩
   refine Nq 101 0 1 2 0 1 2 8 4 5 6 20 _ (w.heap.size+1) (wr.heap.size+1) wr.heap.size j (w.heap.size+1) u4 u5 u6
    ((l.take j).map (·.q)) ((l.take j).map (·.v)) ((l.take j).map (·.p)) x.q x.v x.p (w.alloc (.cells #[.int .i64 0,.int .i64 0,.int .i64 0] 101))
    (by simp) (by decide) (by decide) (by decide) (by decide) (by decide) rfl rfl rfl rfl ?f0 ?f1 ?f2 hR hB0 (Nat.le_refl _) (by omega) (by omega) ?hs ?fin
   case f0=>intro ρ ww hρ;simp[execOp,go_sem,hρ]
   case f1=>intro ρ ww hρ;simp[execOp,go_sem,hρ]
   case f2=>intro ρ ww hρ;simp[execOp,go_sem,hρ]
   case hs=>exact⟨by simp,by simp,by simp,by simp,(hbel.alloc hsz _).drew,fun _=>(T.q.alloc _).drew,fun _=>(T.v.alloc _).drew,fun _=>(T.p.alloc _).drew⟩
   case fin =>
    intro u w' L hS hΦ;have e4:=hΦ 4 (by omega)
    have e9:=hΦ 9 (by omega)
    have e14:=hΦ 14 (by omega)
    have e15:u 15=u 4:=hΦ 15 (by omega)
    have e16:u 16=u 9:=hΦ 16 (by omega)
    have e17:u 17=u 14:=hΦ 17 (by omega)
    have hb':=hS.bel;clear hS hΦ;simp only[eH,dH,Act.put,e15,e16,e17,List.setIfInBounds_toArray,List.set_cons_succ,List.set_cons_zero];go_wp2_with fail
    case' roundEnd =>
     have tk:∀f:bB→Int,(l.take (j+1)).map f=(l.take j).map f++[f x]:=fun f=>by
      rw[List.take_add_one,show l[j]?=some x from hx]
      simp
     refine⟨⟨j+1,hlt,by simp,⟨by rw[tk];exact e4.1,by rw[tk];exact e9.1.1,by rw[tk];exact e14.1.1,.inr e9.2,.inr e14.2.1,.inr e14.2.2,.inr (Ne.symm e9.2),.inr (Ne.symm e14.2.1),.inr (Ne.symm e14.2.2)⟩,hb'⟩,?_⟩
     simp[intOf]
     omega
  ·have ej:j=l.length:=by omega
   subst ej;have hge:¬ ((l.length:Int)<(l.length:Int)):=by omega
   obtain⟨hq,hv,hp⟩:=OK hall;obtain⟨T1,T2,T3,-,-,-,-,-,-⟩:=T;simp only[List.take_length]at T1 T2 T3;obtain⟨a1,p1,rfl,R1⟩:=T1.row hq;obtain⟨a2,p2,rfl,R2⟩:=T2.row hv;obtain⟨a3,p3,rfl,R3⟩:=T3.row hp;clear T1 T2 T3 hat hall;have hl:=Lib.hid hl;have hszl:w.heap.size<wr.heap.size:=hsz
   have hszl1:w.heap.size<wr.heap.size+1:=by omega
   have hszl2:w.heap.size<wr.heap.size+1+1:=by omega
   have hszl3:w.heap.size<wr.heap.size+1+1+1:=by omega
   have hszl4:w.heap.size<wr.heap.size+1+1+1+1:=by omega
   have r0:wr.cell? ⟨w.heap.size,0,none⟩=some (.int .i64 0):=by rw[hbel.cell (Nat.lt_succ_self _)];simp
   have r1:wr.cell? ⟨w.heap.size,1,none⟩=some (.int .i64 0):=by rw[hbel.cell (Nat.lt_succ_self _)];simp
   have r2:wr.cell? ⟨w.heap.size,2,none⟩=some (.int .i64 0):=by rw[hbel.cell (Nat.lt_succ_self _)];simp
   have z0:wr.frozen? ⟨w.heap.size,0,none⟩=false:=by rw[hbel.frozen (Nat.lt_succ_self _)];simp
   have z1:wr.frozen? ⟨w.heap.size,1,none⟩=false:=by rw[hbel.frozen (Nat.lt_succ_self _)];simp
   have z2:wr.frozen? ⟨w.heap.size,2,none⟩=false:=by rw[hbel.frozen (Nat.lt_succ_self _)];simp
   have hb0:Below w.heap.size w wr:=((Below.refl _ w).alloc (Nat.le_refl _) _).trans (hbel.mono (by omega))
   clear hbel;go_wp2_with fail
   refine wp_loop_rounds 4 ?_
   rw[rounds_succ];rcases Ee (l.map (·.q))with h1|h1
   rotate_left
   ·go_wp2_with (first|(go_at_call 72;refine(mP _ _ _ _ _ (R1.below blw)).mono ?_;rintro e w' ⟨rfl,rfl⟩))
    have ht:=Ci (l:=l) (by simp[kZ,h1])
    exact bodyPost_ret (v:=.tuple #[bB.zero.val,.int .i64 2]) (by simp[results,Tryz.results169,go_sem,bB.val,bB.zero,hszl,hszl1,hszl2,hszl3,hszl4,r0,r1,r2,z0,z1,z2]) rfl ⟨by rw[ht.1,ht.2],blw⟩
   go_wp2_with (first|(go_at_call 72;refine(mP _ _ _ _ _ (R1.below blw)).mono ?_;rintro e w' ⟨rfl,rfl⟩))
   rw[rounds_succ];rcases Ee (l.map (·.v))with h2|h2
   rotate_left
   ·go_wp2_with (first|(go_at_call 72;refine(mP _ _ _ _ _ (R2.below blw)).mono ?_;rintro e w' ⟨rfl,rfl⟩))
    have ht:=Ci (l:=l) (by simp[kZ,h2])
    exact bodyPost_ret (v:=.tuple #[bB.zero.val,.int .i64 2]) (by simp[results,Tryz.results169,go_sem,bB.val,bB.zero,hszl,hszl1,hszl2,hszl3,hszl4,r0,r1,r2,z0,z1,z2]) rfl ⟨by rw[ht.1,ht.2],blw⟩
   go_wp2_with (first|(go_at_call 72;refine(mP _ _ _ _ _ (R2.below blw)).mono ?_;rintro e w' ⟨rfl,rfl⟩))
   rw[rounds_succ];rcases Ee (l.map (·.p))with h3|h3
   rotate_left
   ·go_wp2_with (first|(go_at_call 72;refine(mP _ _ _ _ _ (R3.below blw)).mono ?_;rintro e w' ⟨rfl,rfl⟩))
    have ht:=Ci (l:=l) (by simp[kZ,h3])
    exact bodyPost_ret (v:=.tuple #[bB.zero.val,.int .i64 2]) (by simp[results,Tryz.results169,go_sem,bB.val,bB.zero,hszl,hszl1,hszl2,hszl3,hszl4,r0,r1,r2,z0,z1,z2]) rfl ⟨by rw[ht.1,ht.2],blw⟩
   go_wp2_with (first|(go_at_call 72;refine(mP _ _ _ _ _ (R3.below blw)).mono ?_;rintro e w' ⟨rfl,rfl⟩))
   rw[rounds_succ];go_wp2_with fail
   have ht:=AZ (l:=l) (by simp[kZ,h1,h2,h3])
   exact bodyPost_ret (v:=.tuple #[(xA l).val,.int .i64 0]) (by rw[ht.1];simp[results,Tryz.results169,go_sem,bB.val,hszl,hszl1,hszl2,hszl3,hszl4,r0,r1,r2,z0,z1,z2]) rfl ⟨by rw[ht.2],blw⟩
def iA (x:bB):Bool:=decide (1≤x.q)&&decide (x.q≤288230376151711744)&&decide (0≤x.v)&&decide (x.v≤288230376151711744)&&decide (-288230376151711744≤x.p)&&decide (x.p≤288230376151711744)
theorem qE {w wr:World} {b off:Nat} {l:List bB} {j:Nat} {x:bB} (hc:bD w b off (flat l)) (hx:l[j]?=some x) (hb:b<w.heap.size) (hbel:Below w.heap.size w wr) :
  wr.cell? ⟨b,off+j*3,none⟩=some (.int .i64 x.q)∧wr.cell? ⟨b,off+j*3+1,none⟩=some (.int .i64 x.v)∧wr.cell? ⟨b,off+j*3+2,none⟩=some (.int .i64 x.p):=by
 have hg:=flat_get l j x hx;have hfl:=OJ l;have hj:j<l.length:=by
  rcases Nat.lt_or_ge j l.length with h|h
  ·exact h
  ·rw[List.getElem?_eq_none h]at hx;cases hx
 have hcw:∀i,i<(flat l).length→wr.cell? ⟨b,off+i,none⟩=some (.int .i64 ((flat l).getD i 0)):=fun i hi=>by
  rw[hbel.cell (by show b<_;omega)];exact hc i hi
 refine⟨by rw[hcw (j*3) (by omega),hg.1],by rw[Nat.add_assoc,hcw (j*3+1) (by omega),hg.2.1],by rw[Nat.add_assoc,hcw (j*3+2) (by omega),hg.2.2]⟩
theorem Pq {l:List bB} {j:Nat} {x:bB} {f:bB→Bool} (hx:l[j]?=some x):(l.take (j+1)).all f=((l.take j).all f&&f x):=by
 rw[List.take_add_one,hx];simp
theorem SD (x:bB) (w:World) :
  Calls Tryz.prog 234 #[x.val] w fun e w'=>e=.returned (.bool (!iA x))∧Below w.heap.size w w':=by
 unfold bB.val;go_enter Tryz.func234,Tryz.ntmps234
 try simp only[List.append_eq,List.cons_append,List.nil_append]
 go_wp2
 all_goals (go_ret;exact⟨iX (by rw[Bool.eq_iff_iff];simp[iA]<;>omega),blw⟩)
theorem I1 (a:Option Addr) (cap:Nat) (l:List bB) (w:World) (h:Row w 3 a l.length cap (flat l)) :
  Calls Tryz.prog 242 #[.slice a l.length cap,.func (.func 234) #[] #[]] w fun e w'=>∃i:Int,e=.returned (.int .i64 i)∧(decide (0≤i))=!l.all iA∧Below w.heap.size w w':=by
 go_enter Tryz.func242,Tryz.ntmps242
 obtain⟨hl,hcap,hmax,hall,hat⟩:=h;unfold maxLen at hmax;go_wp2
 go_loopw [8] (fun i wr=>∃j:Nat,j≤l.length∧i=.int .i64 j∧(l.take j).all iA=true∧Below w.heap.size w wr) (fun i _=>l.length-(intOf i).toNat)
 case atStart=>exact⟨0,by omega,rfl,rfl,Below.refl _ _⟩
 case round =>
  obtain⟨j,hj,rfl,T,hbel⟩:=hrel;have hsz:=hbel.size;by_cases hlt:j<l.length
  ·obtain⟨b,off,rfl,hb,hc⟩:∃b off,a=some ⟨b,off,none⟩∧b<w.heap.size∧bD w b off (flat l):=by
    rcases hat with h0|h0
    ·omega
    ·exact h0
   obtain⟨x,hx⟩:∃x,l[j]?=some x:=⟨l[j],by simp[hlt]⟩
   obtain⟨c0,c1,c2⟩:=qE hc hx hb hbel;have hlt':(j:Int)<(l.length:Int):=by omega
   have hx:=Lib.hid hx;clear hc hat;go_wp2_with (first|(go_at_call 234;refine(SD x _).mono ?_;rintro e w' ⟨rfl,hw1⟩))
   ·have hx:l[j]?=some x:=hx
    have hno:iA x=false:=by
     rename_i hh;simpa using hh
    go_ret
    refine⟨(j:Int),rfl,?_,blw⟩
    have:l.all iA=false:=List.all_eq_false.2 ⟨x,List.mem_of_getElem? hx,by simp[hno]⟩
    rw[this];simp
   case' roundEnd =>
    have hx:l[j]?=some x:=hx
    have hno:iA x=true:=by
     rename_i hh;simpa using hh
    refine⟨⟨j+1,hlt,by simp,by rw[Pq hx,T,hno];rfl,hbel.trans (hw1.mono hsz)⟩,?_⟩
    simp[intOf]
    omega
  ·have ej:j=l.length:=by omega
   subst ej;have hge:¬ ((l.length:Int)<(l.length:Int)):=by omega
   go_wp2_with fail
   go_ret
   refine⟨-1,rfl,?_,blw⟩
   rw[List.take_length]at T;rw[T];rfl
theorem dK {x:bB}:iA x=true↔1≤x.q∧x.q≤288230376151711744∧0≤x.v∧x.v≤288230376151711744∧-288230376151711744≤x.p∧x.p≤288230376151711744:=by
 simp[iA,and_assoc]
def fP (x:bB):Int:=max x.p (-x.p)
theorem Gx {l:List bB} {j:Nat} {x:bB} {f:bB→Bool} (h:l.all f=true) (hx:l[j]?=some x):f x=true:=List.all_eq_true.1 h x (List.mem_of_getElem? hx)
@[go_sem] theorem bB.aka (x:bB):x.val=.agg #[.int .i64 x.q,.int .i64 x.v,.int .i64 x.p]:=rfl
@[go_sem] theorem bB.aj8:bB.zero.q=0:=rfl
@[go_sem] theorem bB.aj7:bB.zero.v=0:=rfl
@[go_sem] theorem bB.aj9:bB.zero.p=0:=rfl
theorem XZ {l:List bB} (hok:l.all iA=true):eN (l.map fP):=by
 intro z hz;obtain⟨x,hx,rfl⟩:=List.mem_map.1 hz;have:=dK.1 (List.all_eq_true.1 hok x hx)
 unfold fP;exact⟨by omega,by omega⟩
theorem ajG {w:World} {y:Int} {t n:Nat} (hn:n=w.heap.size):bD (w.alloc (.cells #[.int .i64 y] t)) n 0 [y]:=by
 subst hn;exact bD.new w [y] t
set_option maxHeartbeats 1000000 in
theorem agU (a:Option Addr) (cap:Nat) (l:List bB) (w:World) (h:Row w 3 a l.length cap (flat l)) (hn:l.length≤1000) (hok:l.all iA=true) :
  Calls Tryz.prog 235 #[.slice a l.length cap] w fun e w'=>e=.returned (.bool (decide (cY (l.map fP)=0)))∧Below w.heap.size w w':=by
 obtain⟨hl,hcap,hmax,hall,hat⟩:=h;unfold maxLen at hmax;go_enter Tryz.func235,Tryz.ntmps235
 go_wp2
 go_loopw [3,10] (fun q i wr=>∃j:Nat,j≤l.length∧i=.int .i64 j∧dJ wr w.heap.size 3 1 q j ((l.take j).map fP)∧Below w.heap.size w wr) (fun _ i _=>l.length-(intOf i).toNat)
 case atStart=>exact⟨0,by omega,rfl,dJ.nil _ _ _ _,Below.refl _ _⟩
 case round =>
  obtain⟨j,hj,rfl,T,hbel⟩:=hrel;have hsz:=hbel.size;by_cases hlt:j<l.length
  ·obtain⟨b,off,rfl,hb,hc⟩:∃b off,a=some ⟨b,off,none⟩∧b<w.heap.size∧bD w b off (flat l):=by
    rcases hat with h0|h0
    ·omega
    ·exact h0
   obtain⟨x,hx⟩:∃x,l[j]?=some x:=⟨l[j],by simp[hlt]⟩
   obtain⟨c0,c1,c2⟩:=qE hc hx hb hbel;have hlt':(j:Int)<(l.length:Int):=by omega
   have hok':=dK.1 (Gx hok hx)
   obtain⟨k1,k2,k3,k4,k5,k6⟩:=hok';have hx:=Lib.hid hx;have hok:=Lib.hid hok;clear hc hat;go_wp2_with (at_builtin;refine kM _ rfl _ _ 22 rfl w.heap.size 3 1 qY u3 j ((l.take j).map fP) rfl ((T.alloc _).alloc _) (wr.heap.size+1) 0 1 [fP x] rfl rfl (ajG (y:=fP x) (by simp)) ?c1 ?c2 ?_)
   case c1=>omega
   case c2=>simp;omega
   ·intro l' w1 hown' hb1
    have hx:l[j]?=some x:=hx
    have e:(l.take j).map fP++[fP x]=(l.take (j+1)).map fP:=by rw[List.take_add_one,hx];simp
    rw[←List.map_take,e]at hown';have hs1:w.heap.size≤(wr.alloc (.cells #[.int .i64 x.q,.int .i64 x.v,.int .i64 x.p] 101)).heap.size:=by simp;omega
    have hbel':=((hbel.alloc hsz (.cells #[.int .i64 x.q,.int .i64 x.v,.int .i64 x.p] 101)).alloc hs1 _).trans hb1
    clear T hb1 e;have hx:=Lib.hid hx;go_wp2
    go_roundw
    case rel=>exact⟨j+1,by omega,by go_num,hown',hbel'⟩
    case measure=>simp[intOf];omega
  ·have ej:j=l.length:=by omega
   subst ej;have hge:¬ ((l.length:Int)<(l.length:Int)):=by omega
   rw[List.take_length]at T;obtain⟨l0,cp,rfl,hrow⟩:=T.row (XZ hok)
   clear T;rcases Ee (l.map fP)with h1|h1
   all_goals
    go_wp2_with (first|(go_at_call 72;refine(mP _ _ _ _ _ hrow).mono ?_;rintro e w' ⟨rfl,rfl⟩))
    go_ret
    exact⟨iX (by simp[h1]),hbel⟩
def kP (l:List bB):Bool:=decide (l.length≤30)&&l.all iA&&kZ l&&decide (cY (l.map fP)=0)
structure iE (w:World) (b:Nat) (x y z:Int):Prop where
 c0:w.cell? ⟨b,0,none⟩=some (.int .i64 x)
 c1:w.cell? ⟨b,1,none⟩=some (.int .i64 y)
 c2:w.cell? ⟨b,2,none⟩=some (.int .i64 z)
 f0:w.frozen? ⟨b,0,none⟩=false
 f1:w.frozen? ⟨b,1,none⟩=false
 f2:w.frozen? ⟨b,2,none⟩=false
theorem Be (a b:Int) (w:World):Calls Tryz.prog 83 #[.int .i64 a,.int .i64 b] w fun e w'=>e=.returned (.tuple #[.int .i64 (mI a b),.int .i64 (lL a b)])∧w'=w :=
 (yP a b w).mono fun _ _ h=>⟨h.1,h.2.symm⟩
theorem MD {zs:List Int} {k:Nat} (e:bS 0 (zs.take k)=none):cY zs=2:=by simp[cY,vK e]
theorem ajU {l:List bB} {k:Nat} (e:bS 0 ((l.map (·.q)).take k)=none):kZ l=false:=by simp[kZ,MD e]
theorem ajT {l:List bB} {k:Nat} (e:bS 0 ((l.map (·.v)).take k)=none):kZ l=false:=by simp[kZ,MD e]
theorem ajS {l:List bB} {k:Nat} (e:bS 0 ((l.map (·.p)).take k)=none):kZ l=false:=by simp[kZ,MD e]
theorem nP {l:List bB} {j:Nat} {x:bB} {f:bB→Int} {n:Int} (hx:l[j]?=some x) (e:bS 0 ((l.map f).take j)=some n) :
  bS 0 ((l.map f).take (j+1))=if eY n (f x)then some (n+f x)else none:=by
 have hj:j<(l.map f).length:=by
  rcases Nat.lt_or_ge j l.length with h|h
  ·simpa using h
  ·rw[List.getElem?_eq_none h]at hx;cases hx
 rw[vJ hj e];have:(l.map f).getD j 0=f x:=by rw[List.getD_eq_getElem?_getD,List.getElem?_map,hx];rfl
 rw[this]
set_option maxHeartbeats 1000000 in
theorem qL (a:Option Addr) (cap:Nat) (l:List bB) (w:World) (h:Row w 3 a l.length cap (flat l)) :
  Calls Tryz.prog 198 #[.slice a l.length cap] w fun e w'=>e=.returned (.tuple #[(xA l).val,.int .i64 (EO l)])∧Below w.heap.size w w':=by
 obtain⟨hl,hcap,hmax,hall,hat⟩:=h;unfold maxLen at hmax;go_enter Tryz.func198,Tryz.ntmps198
 obtain⟨hq,hv,hp⟩:=OK hall;go_wp2
 go_loopw [5] (fun i wr=>∃(j:Nat) (q v p:Int),j≤l.length∧i=.int .i64 j∧bS 0 ((l.map (·.q)).take j)=some q∧bS 0 ((l.map (·.v)).take j)=some v∧bS 0 ((l.map (·.p)).take j)=some p ∧
  iE wr w.heap.size 0 0 0∧iE wr (w.heap.size+1) q v p∧w.heap.size+2≤wr.heap.size∧Below w.heap.size w wr) (fun i _=>l.length-(intOf i).toNat)
 case atStart=>exact⟨0,0,0,0,by omega,rfl,rfl,rfl,rfl,⟨by simp,by simp,by simp,by simp,by simp,by simp⟩,⟨by simp,by simp,by simp,by simp,by simp,by simp⟩,by simp,blw⟩
 case round =>
  obtain⟨j,q,v,p,hj,rfl,s1,s2,s3,⟨r0,r1,r2,z0,z1,z2⟩,⟨y0,y1,y2,x0,x1,x2⟩,hs2,hbel⟩:=hrel
  have hsz:=hbel.size;by_cases hlt:j<l.length
  ·obtain⟨b,off,rfl,hb,hc⟩:∃b off,a=some ⟨b,off,none⟩∧b<w.heap.size∧bD w b off (flat l):=by
    rcases hat with h0|h0
    ·omega
    ·exact h0
   obtain⟨x,hx⟩:∃x,l[j]?=some x:=⟨l[j],by simp[hlt]⟩
   obtain⟨c0,c1,c2⟩:=qE hc hx hb hbel;have hlt':(j:Int)<(l.length:Int):=by omega
   have t1:=nP (f:=(·.q)) hx s1
   have t2:=nP (f:=(·.v)) hx s2
   have t3:=nP (f:=(·.p)) hx s3
   have hx:=Lib.hid hx;clear hc hat s1 s2 s3;have t1:=Lib.hid t1;have t2:=Lib.hid t2;have t3:=Lib.hid t3;go_wp2_with fail
   go_quiet ((go_at_call 83;refine Calls.quiet_of_same (Be _ _ _)))
   change (wr.drewN nq).cell? _=_ at y0 y1 y2 r0 r1 r2 c0 c1 c2
   change (wr.drewN nq).frozen? _=_ at x0 x1 x2 z0 z1 z2
   change _≤(wr.drewN nq).heap.size at hs2 hsz
   replace hbel:=Gt hbel nq
   generalize wr.drewN nq=wr at *;go_wp2_with fail
   go_quiet ((go_at_call 83;refine Calls.quiet_of_same (Be _ _ _)))
   change (wr.drewN nq).cell? _=_ at y0 y1 y2 r0 r1 r2 c0 c1 c2
   change (wr.drewN nq).frozen? _=_ at x0 x1 x2 z0 z1 z2
   change _≤(wr.drewN nq).heap.size at hs2 hsz
   replace hbel:=Gt hbel nq
   generalize wr.drewN nq=wr at *;go_wp2_with fail
   go_quiet ((go_at_call 83;refine Calls.quiet_of_same (Be _ _ _)))
   change (wr.drewN nq).cell? _=_ at y0 y1 y2 r0 r1 r2 c0 c1 c2
   change (wr.drewN nq).frozen? _=_ at x0 x1 x2 z0 z1 z2
   change _≤(wr.drewN nq).heap.size at hs2 hsz
   replace hbel:=Gt hbel nq
   generalize wr.drewN nq=wr at *;cases k1:eY q x.q
   ·have k5:=jV k1
    go_wp2_with fail
    have ht:=Ci (l:=l) (ajU (by have:=t1.out;rw[this,k1];rfl))
    exact bodyPost_ret (v:=.tuple #[bB.zero.val,.int .i64 2]) (by simp[results,Tryz.results198,go_sem,r0,r1,r2,z0,z1,z2]) rfl ⟨by rw[ht.1,ht.2],blw⟩
   have m1:=tW k1;cases k2:eY v x.v
   ·have k5:=jV k2
    go_wp2_with fail
    have ht:=Ci (l:=l) (ajT (by have:=t2.out;rw[this,k2];rfl))
    exact bodyPost_ret (v:=.tuple #[bB.zero.val,.int .i64 2]) (by simp[results,Tryz.results198,go_sem,r0,r1,r2,z0,z1,z2]) rfl ⟨by rw[ht.1,ht.2],blw⟩
   have m2:=tW k2;cases k3:eY p x.p
   ·have k5:=jV k3
    go_wp2_with fail
    have ht:=Ci (l:=l) (ajS (by have:=t3.out;rw[this,k3];rfl))
    exact bodyPost_ret (v:=.tuple #[bB.zero.val,.int .i64 2]) (by simp[results,Tryz.results198,go_sem,r0,r1,r2,z0,z1,z2]) rfl ⟨by rw[ht.1,ht.2],blw⟩
   have m3:=tW k3;go_wp2_with fail
   case' roundEnd =>
    have t1:=t1.out;have t2:=t2.out;have t3:=t3.out
    rw[k1]at t1;rw[k2]at t2;rw[k3]at t3
    refine⟨⟨j+1,q+x.q,v+x.v,p+x.p,hlt,by simp,t1,t2,t3,⟨by go_simp,by go_simp,by go_simp,by simp[z0],by simp[z1],by simp[z2]⟩,⟨by go_simp,by go_simp,by go_simp,by simp[x0],by simp[x1],by simp[x2]⟩,by simp;omega,blw⟩,?_⟩
    simp[intOf]
    omega
  ·have ej:j=l.length:=by omega
   subst ej;have hge:¬ ((l.length:Int)<(l.length:Int)):=by omega
   have e1:bS 0 (l.map (·.q))=some q:=by rw[←s1,List.take_of_length_le (by simp)]
   have e2:bS 0 (l.map (·.v))=some v:=by rw[←s2,List.take_of_length_le (by simp)]
   have e3:bS 0 (l.map (·.p))=some p:=by rw[←s3,List.take_of_length_le (by simp)]
   have ht:=AZ (l:=l) (by simp[kZ,cY,e1,e2,e3])
   have ht2:xA l=⟨q,v,p⟩:=by rw[ht.1];simp[cU,e1,e2,e3]
   have hte:=ht.2;clear s1 s2 s3 e1 e2 e3 ht;go_wp2_with fail
   exact bodyPost_ret (v:=.tuple #[.agg #[.int .i64 q,.int .i64 v,.int .i64 p],.int .i64 0]) (by simp[results,Tryz.results198,go_sem,r0,r1,r2,z0,z1,z2]) rfl ⟨by first|rfl|(rw[ht2,hte];rfl),blw⟩
set_option maxHeartbeats 1000000 in
theorem HJ (a:Option Addr) (cap:Nat) (l:List bB) (w:World) (h:Row w 3 a l.length cap (flat l)) (hok:l.all iA=true) :
  Calls Tryz.prog 197 #[.slice a l.length cap] w fun e w'=>e=.returned (.tuple #[.int .i64 (cU (l.map fP)),.int .i64 (cY (l.map fP))])∧Below w.heap.size w w':=by
 obtain⟨hl,hcap,hmax,hall,hat⟩:=h;unfold maxLen at hmax;go_enter Tryz.func197,Tryz.ntmps197
 go_wp2
 go_loopw [4,5] (fun n i wr=>∃(j:Nat) (q:Int),j≤l.length∧i=.int .i64 j∧n=.int .i64 q∧bS 0 ((l.map fP).take j)=some q∧Below w.heap.size w wr) (fun _ i _=>l.length-(intOf i).toNat)
 case atStart=>exact⟨0,0,by omega,rfl,rfl,rfl,blw⟩
 case round =>
  obtain⟨j,q,hj,rfl,rfl,s1,hbel⟩:=hrel;have hsz:=hbel.size;by_cases hlt:j<l.length
  ·obtain⟨b,off,rfl,hb,hc⟩:∃b off,a=some ⟨b,off,none⟩∧b<w.heap.size∧bD w b off (flat l):=by
    rcases hat with h0|h0
    ·omega
    ·exact h0
   obtain⟨x,hx⟩:∃x,l[j]?=some x:=⟨l[j],by simp[hlt]⟩
   obtain⟨c0,c1,c2⟩:=qE hc hx hb hbel;have hlt':(j:Int)<(l.length:Int):=by omega
   have t1:=nP (f:=fP) hx s1
   obtain⟨-,-,-,-,kp1,kp2⟩:=dK.1 (Gx hok hx)
   have wr1:IntKind.i64.wrap (-x.p)=-x.p:=IntWalk.i64_in _ (by omega)
   have hx:=Lib.hid hx;clear hc hat s1 hok;have t1:=Lib.hid t1;go_wp2_with fail
   go_quiet ((go_at_call 83;refine Calls.quiet_of_same (Be _ (fP x) _)))
   change (wr.drewN nq).cell? _=_ at c0 c1 c2
   change _≤(wr.drewN nq).heap.size at hsz
   replace hbel:=Gt hbel nq
   generalize wr.drewN nq=wr at *;clear wr1;have kp3:¬ x.p < -288230376151711744:=by omega
   cases k1:eY q (fP x)
   ·have k5:=jV k1
    go_wp2_with fail
    have hb:cY (l.map fP)=2:=MD (by have:=t1.out;rw[this,k1];rfl)
    have hb2:cU (l.map fP)=0:=by
     have:bS 0 (l.map fP)=none:=vK (by have:=t1.out;rw[this,k1];rfl)
     simp[cU,this]
    go_ret2
    exact⟨by rw[hb,hb2];rfl,blw⟩
   ·have m1:=tW k1
    go_wp2_with fail
    case' roundEnd =>
     have t1:=t1.out;rw[k1]at t1;refine⟨⟨j+1,q+fP x,hlt,by simp,by rw[m1.1],t1,blw⟩,?_⟩
     simp[intOf]
     omega
  ·have ej:j=l.length:=by omega
   subst ej;have hge:¬ ((l.length:Int)<(l.length:Int)):=by omega
   have e1:bS 0 (l.map fP)=some q:=by rw[←s1,List.take_of_length_le (by simp)]
   have e2:cU (l.map fP)=q:=by simp[cU,e1]
   have e3:cY (l.map fP)=0:=by simp[cY,e1]
   clear s1 e1;go_wp2_with fail
   go_ret2
   exact⟨by first|rfl|rw[e2,e3],blw⟩
theorem ab0 {l:List bB} {j:Nat} {x:bB} (hx:l[j]?=some x) (h:iA x=false):kP l=false:=by
 have:l.all iA=false:=List.all_eq_false.2 ⟨x,List.mem_of_getElem? hx,by simp[h]⟩
 simp[kP,this]
theorem kO {l:List bB}:kP l=true↔(l.length:Int)≤30∧l.all iA=true∧EO l=0∧cY (l.map fP)=0:=by
 have k:kZ l=decide (EO l=0):=by unfold EO;split<;>simp_all
 have k2:(l.length≤30)↔(l.length:Int)≤30:=by omega
 simp only[kP,k,Bool.and_eq_true,decide_eq_true_eq,k2,and_assoc]
set_option maxHeartbeats 1000000 in
theorem Rp (a:Option Addr) (cap:Nat) (l:List bB) (w:World) (h:Row w 3 a l.length cap (flat l)) (hn:l.length≤1000) :
  Calls Tryz.prog 199 #[.slice a l.length cap] w fun e w'=>e=.returned (.bool (kP l))∧Below w.heap.size w w':=by
 have h0:=h;obtain⟨hl,hcap,hmax,hall,hat⟩:=h;unfold maxLen at hmax;go_enter Tryz.func199,Tryz.ntmps199
 try simp only[List.append_eq,List.cons_append,List.nil_append]
 go_wp2
 go_loopw [3] (fun i wr=>∃(j:Nat),j≤l.length∧i=.int .i64 j∧(l.take j).all iA=true∧Below w.heap.size w wr) (fun i _=>l.length-(intOf i).toNat)
 case atStart=>exact⟨0,by omega,rfl,rfl,blw⟩
 case round =>
  obtain⟨j,hj,rfl,T,hbel⟩:=hrel;have hsz:=hbel.size;by_cases hlt:j<l.length
  ·obtain⟨b,off,rfl,hb,hc⟩:∃b off,a=some ⟨b,off,none⟩∧b<w.heap.size∧bD w b off (flat l):=by
    rcases hat with h0|h0
    ·omega
    ·exact h0
   obtain⟨x,hx⟩:∃x,l[j]?=some x:=⟨l[j],by simp[hlt]⟩
   obtain⟨c0,c1,c2⟩:=qE hc hx hb hbel;have hlt':(j:Int)<(l.length:Int):=by omega
   have hx:=Lib.hid hx;clear hc hat;go_wp2_with (first|(go_at_call 144;refine(qM _ _).mono ?_;rintro e w' ⟨rfl,rfl⟩))
   case' roundEnd =>
    have hno:iA x=true:=by
     rw[dK];simp_all [kE]
     try omega
    have hx:l[j]?=some x:=hx
    refine⟨⟨j+1,hlt,by simp,by rw[Pq hx,T,hno];rfl,blw⟩,?_⟩
    simp[intOf]
    omega
   all_goals
    have hno:iA x=false:=by
     cases hh:iA x
     ·rfl
     ·exfalso
      rw[dK]at hh;simp_all [kE]
      try omega
    have hx:l[j]?=some x:=hx
    go_ret
    exact⟨iX (by rw[ab0 hx hno]),blw⟩
  ·have ej:j=l.length:=by omega
   subst ej;have hge:¬ ((l.length:Int)<(l.length:Int)):=by omega
   rw[List.take_length]at T;have hs:=fun w h=>HJ a cap l w h T
   go_wp2_with (first|(go_at_call 198;refine(qL a cap l _ (h0.below blw)).mono ?_;rintro e w' ⟨rfl,hw1⟩)|(go_at_call 197;refine(hs _ (h0.below blw)).mono ?_;rintro e w' ⟨rfl,hw2⟩))
   all_goals (go_ret;refine⟨iX ?_,blw⟩;rw[Bool.eq_iff_iff,kO];simp_all<;>omega)
deriving instance DecidableEq for bB
theorem oW {l:List Int} {s:Int} (k:Nat) (e:bS 0 l=some s):∃t,bS 0 (l.take k)=some t:=by
 cases h:bS 0 (l.take k)with
 |none=>rw[vK h]at e;cases e
 |some t=>exact⟨t,rfl⟩
theorem yK (l:List Int):∀(n s:Int),bS n l=some s→s=n+l.sum:=by
 induction l with
 |nil=>intro n s h;simp[bS]at h;simp[h]
 |cons z l ih =>
  intro n s h;simp only[bS]at h;split at h
  ·have:=ih _ _ h
   rw[this,List.sum_cons];omega
  ·cases h
theorem akr {l:List bB} (hok:l.all iA=true):∀x,x∈l→0≤x.q:=fun x hx=>by
 have:=dK.1 (List.all_eq_true.1 hok x hx);omega
def lJ (x:bB) (q:Int):bB:=⟨q,cV x.v q x.q,cV x.p q x.q⟩
def mD (x y:bB):bB:=⟨x.q-y.q,x.v-y.v,x.p-y.p⟩
def jS (x y:bB):bB:=⟨x.q+y.q,x.v+y.v,x.p+y.p⟩
def kG:List bB→bB→Int→List bB×bB
 |[],a,_=>([],a)
 |x::r,a,q=>if q≤0 then(x::r,a)else if q<x.q then(mD x (lJ x q)::r,jS a (lJ x q))else kG r (jS a x) (q-x.q)
theorem aap {r:List bB} {a:bB} {q:Int} (h:q≤0):kG r a q=(r,a):=by
 cases r<;>simp[kG,h]
theorem Dz {v q n:Int} (hn:1≤n) (hq:0≤q) (hqn:q≤n) (hv:0≤v):0≤v*q/n∧v*q/n≤v:=by
 refine⟨Int.ediv_nonneg (Int.mul_nonneg hv hq) (by omega),Int.ediv_le_of_le_mul (by omega) (Int.mul_le_mul_of_nonneg_left hqn hv)⟩
theorem Bl {v q n:Int} (hn:1≤n) (hq:0≤q) (hqn:q≤n) (hv:kE v=true):(0≤v→0≤cV v q n∧cV v q n≤v)∧(v<0→v≤cV v q n∧cV v q n≤0):=by
 have h:¬ (n<1∨q<0∨q > n∨kE v=false):=by rw[hv];simp;omega
 refine⟨fun h0=>?_,fun h0=>?_⟩
 ·rw[Bh h (by omega)]
  exact Dz hn hq hqn h0
 ·rw[Bi h h0]
  have:=Dz (v:=-v) hn hq hqn (by omega)
  omega
structure aj3 (x:bB) (q:Int):Prop where
 v0:0≤cV x.v q x.q
 v1:cV x.v q x.q≤x.v
 p0:-288230376151711744≤cV x.p q x.q
 p1:cV x.p q x.q≤288230376151711744
 d0:-288230376151711744≤x.p-cV x.p q x.q
 d1:x.p-cV x.p q x.q≤288230376151711744
theorem SJ {x:bB} {q:Int} (h:iA x=true) (h0:0≤q) (h1:q≤x.q):aj3 x q:=by
 obtain⟨k1,k2,k3,k4,k5,k6⟩:=dK.1 h;have a:=Bl (v:=x.v) k1 h0 h1 (dW.2 ⟨by omega,by omega⟩)
 have b:=Bl (v:=x.p) k1 h0 h1 (dW.2 ⟨by omega,by omega⟩)
 have a1:=a.1 k3;refine⟨by omega,by omega,?_,?_,?_,?_⟩ <;>
  (by_cases hp:0≤x.p
   ·have:=b.1 hp;omega
   ·have:=b.2 (by omega);omega)
def dZ (l:List bB) (q:Int):List bB×bB×Int :=
 if q<1 then(l,.zero,1)else if(xA l).q<q then(l,.zero,5)else((kG l .zero q).1,(kG l .zero q).2,0)
theorem uV {l:List bB} {f:bB→Int} {s t:Int} {j:Nat} (hs:bS 0 (l.map f)=some s) (ht:bS 0 ((l.map f).take j)=some t) (hf:∀x,x∈l→-288230376151711744≤f x∧f x≤288230376151711744) :
  -288230376151711744≤t∧t≤288230376151711744:=by
 cases j with
 |zero=>simp[bS]at ht;subst ht;omega
 |succ j =>
  rcases Nat.lt_or_ge j l.length with h|h
  ·obtain⟨x,hx⟩:∃x,l[j]?=some x:=⟨l[j],by simp[h]⟩
   obtain⟨u,hu⟩:=oW j hs;have a:=nP (f:=f) hx hu
   rw[ht]at a;split at a
   ·rename_i k
    have:=rQ k
    cases a;exact this
   ·cases a
  ·have e:(l.map f).take (j+1)=l.map f:=List.take_of_length_le (by simp;omega)
   cases hl:l with
   |nil=>subst hl;simp[bS]at ht;subst ht;omega
   |cons y r =>
    have hlen:(l.map f).length=l.length:=by simp
    have hpos:0<l.length:=by rw[hl];simp
    obtain⟨x,hx⟩:∃x,l[l.length-1]?=some x:=⟨l[l.length-1]'(by omega),by simp[show l.length-1<l.length by omega]⟩
    obtain⟨u,hu⟩:=oW (l.length-1) hs
    have a:=nP (f:=f) hx hu
    have e2:(l.map f).take (l.length-1+1)=l.map f:=List.take_of_length_le (by simp;omega)
    rw[e2,←e,ht]at a;split at a
    ·rename_i k
     have:=rQ k
     cases a;exact this
    ·cases a
theorem qD {l:List bB} {f:bB→Int} {s t:Int} {j:Nat} {x:bB} (hs:bS 0 (l.map f)=some s) (hx:l[j]?=some x) (ht:bS 0 ((l.map f).take j)=some t) :
  bS 0 ((l.map f).take (j+1))=some (t+f x):=by
 have a:=nP hx ht;obtain⟨u,hu⟩:=oW (j+1) hs
 rw[hu]at a;split at a
 ·cases a;exact hu
 ·cases a
theorem vU {l:List bB} (h:kP l=true):∃sq sv sp,bS 0 (l.map (·.q))=some sq∧bS 0 (l.map (·.v))=some sv∧bS 0 (l.map (·.p))=some sp∧xA l=⟨sq,sv,sp⟩:=by
 have hT:kZ l=true:=by
  simp only[kP,Bool.and_eq_true]at h;exact h.1.2
 have ht:=(AZ hT).1
 simp only[kZ,Bool.and_eq_true,decide_eq_true_eq]at hT;have I0:∀zs,cY zs=0→∃s,bS 0 zs=some s∧cU zs=s:=fun zs hz=>by
  unfold cY at hz;cases e:bS 0 zs with
  |none=>rw[e]at hz;simp at hz
  |some s=>exact⟨s,rfl,by simp[cU,e]⟩
 obtain⟨s1,e1,f1⟩:=I0 _ hT.1.1;obtain⟨s2,e2,f2⟩:=I0 _ hT.1.2;obtain⟨s3,e3,f3⟩:=I0 _ hT.2;exact⟨s1,s2,s3,e1,e2,e3,by rw[ht,f1,f2,f3]⟩
theorem ahY {l:List bB} (h:kP l=true):(∀x,x∈l→-288230376151711744≤x.q∧x.q≤288230376151711744)∧(∀x,x∈l→-288230376151711744≤x.v∧x.v≤288230376151711744)∧(∀x,x∈l→-288230376151711744≤x.p∧x.p≤288230376151711744):=by
 have hok:=(kO.1 h).2.1
 have H:∀x,x∈l→_:=fun x hx=>dK.1 (List.all_eq_true.1 hok x hx)
 exact⟨fun x hx=>by have:=H x hx;omega,fun x hx=>by have:=H x hx;omega,fun x hx=>by have:=H x hx;omega⟩
structure aj1 (a x:bB):Prop where
 q0:-288230376151711744≤a.q
 q1:a.q≤288230376151711744
 v0:-288230376151711744≤a.v
 v1:a.v≤288230376151711744
 p0:-288230376151711744≤a.p
 p1:a.p≤288230376151711744
 q2:-288230376151711744≤a.q+x.q
 q3:a.q+x.q≤288230376151711744
 v2:-288230376151711744≤a.v+x.v
 v3:a.v+x.v≤288230376151711744
 p2:-288230376151711744≤a.p+x.p
 p3:a.p+x.p≤288230376151711744
theorem agO {l:List bB} {j:Nat} {a x:bB} (h:kP l=true) (hx:l[j]?=some x) (h1:bS 0 ((l.map (·.q)).take j)=some a.q) (h2:bS 0 ((l.map (·.v)).take j)=some a.v) (h3:bS 0 ((l.map (·.p)).take j)=some a.p):aj1 a x:=by
 obtain⟨sq,sv,sp,e1,e2,e3,-⟩:=vU h;obtain⟨b1,b2,b3⟩:=ahY h;have k1:=uV e1 h1 b1;have k2:=uV e2 h2 b2;have k3:=uV e3 h3 b3;have m1:=uV e1 (qD e1 hx h1) b1
 have m2:=uV e2 (qD e2 hx h2) b2
 have m3:=uV e3 (qD e3 hx h3) b3
 exact⟨k1.1,k1.2,k2.1,k2.2,k3.1,k3.2,m1.1,m1.2,m2.1,m2.2,m3.1,m3.2⟩
theorem dJ.set {w:World} {base:Nat} {e:TypeId} {k:Nat} {v:Value} {n:Nat} {zs:List Int} (h:dJ w base e k v n zs) {b:Nat} (hb:b<base) (i:Nat) (u:Value):dJ (w.setCell ⟨b,i,none⟩ u) base e k v n zs:=by
 refine h.kept (r:=some b) ⟨rfl,rfl,rfl,by simp[World.setCell],fun j _ hne=>Below.heap_setCell _ _ _ _ (fun e=>hne (by rw[e]))⟩ ?_
 cases ho:v.ownBlock with
 |none=>exact .inl rfl
 |some g =>
  right
  have:=World.ownsRow.lt h g ho
  intro e;cases e;omega
def eB (l:List Int):Int:=(l.map fun z=>max z (-z)).sum
theorem fV (z:Int) (l:List Int):eB (z::l)=max z (-z)+eB l:=by simp[eB]
theorem wQ (l:List Int):0≤eB l:=by
 induction l with
 |nil=>simp[eB]
 |cons z l ih=>rw[fV];omega
theorem Dj {l:List Int} (h:∀z,z∈l→0≤z):eB l=l.sum:=by
 induction l with
 |nil=>rfl
 |cons z l ih =>
  rw[fV,List.sum_cons,ih fun y hy=>h y (by simp[hy])]
  have:=h z (by simp)
  omega
theorem IV (l:List Int):-eB l≤l.sum∧l.sum≤eB l:=by
 induction l with
 |nil=>simp[eB]
 |cons z l ih=>rw[fV,List.sum_cons];omega
theorem jN (l:List Int):∀n:Int,max n (-n)+eB l≤288230376151711744→bS n l=some (n+l.sum):=by
 induction l with
 |nil=>intro n _;simp[bS]
 |cons z l ih =>
  intro n h;rw[fV]at h;have:=wQ l
  have hok:eY n z=true:=nY.2 ⟨dW.2 ⟨by omega,by omega⟩,dW.2 ⟨by omega,by omega⟩,dW.2 ⟨by omega,by omega⟩⟩
  simp only[bS,hok,if_true];rw[ih _ (by omega),List.sum_cons]
  congr 1
  omega
theorem EU (l:List Int):∀n s:Int,kE n=true→bS n l=some s→kE s=true:=by
 induction l with
 |nil=>intro n s hn h;simp[bS]at h;subst h;exact hn
 |cons z l ih =>
  intro n s hn h;simp only[bS]at h;split at h
  ·rename_i k;exact ih _ _ (nY.1 k).2.2 h
  ·cases h
theorem X4 {l:List Int} (h:cY l=0):bS 0 l=some l.sum∧kE l.sum=true:=by
 unfold cY at h;cases e:bS 0 l with
 |none=>rw[e]at h;simp at h
 |some s =>
  have a:=yK _ _ _ e;have b:=EU l 0 s (by decide +kernel) e
  have:s=l.sum:=by omega
  subst this;exact⟨rfl,b⟩
theorem M5 {l:List Int} (h:eB l≤288230376151711744):cY l=0∧cU l=l.sum:=by
 have:=jN l 0 (by simpa using h)
 simp[cY,cU,this]
def qs (l:List bB):Int:=(l.map (·.q)).sum
def vs (l:List bB):Int:=(l.map (·.v)).sum
def ps (l:List bB):Int:=(l.map (·.p)).sum
def Gw (l:List bB):Int:=eB (l.map (·.p))
theorem lT (x:bB) (l:List bB):qs (x::l)=x.q+qs l:=by simp[qs]
theorem lQ (x:bB) (l:List bB):vs (x::l)=x.v+vs l:=by simp[vs]
theorem Lj (x:bB) (l:List bB):ps (x::l)=x.p+ps l:=by simp[ps]
theorem uY (x:bB) (l:List bB):Gw (x::l)=max x.p (-x.p)+Gw l:=by simp[Gw,fV]
theorem S6 (l:List bB):0≤Gw l:=wQ _
theorem HO (l:List bB):-Gw l≤ps l∧ps l≤Gw l:=IV _
structure LR (l:List bB):Prop where
 len:l.length≤30
 ok:∀x,x∈l→iA x=true
 q:qs l≤288230376151711744
 v:vs l≤288230376151711744
 p:Gw l≤288230376151711744
theorem LR.at_ {l:List bB} (h:LR l) {x:bB} (hx:x∈l):1≤x.q∧x.q≤288230376151711744∧0≤x.v∧x.v≤288230376151711744∧-288230376151711744≤x.p∧x.p≤288230376151711744:=dK.1 (h.ok x hx)
theorem LR.tail {x:bB} {l:List bB} (h:LR (x::l)):LR l:=by
 obtain⟨a,b,c,d,e⟩:=h;have:=dK.1 (b x (by simp))
 rw[lT]at c;rw[lQ]at d;rw[uY]at e
 simp only[List.length_cons]at a;exact⟨by omega,fun y hy=>b y (by simp[hy]),by omega,by omega,by omega⟩
theorem qO {l:List bB} (h:∀x,x∈l→iA x=true):0≤qs l∧0≤vs l∧(l.length:Int)≤qs l:=by
 induction l with
 |nil=>simp[qs,vs]
 |cons x l ih =>
  have:=dK.1 (h x (by simp))
  have:=ih fun y hy=>h y (by simp[hy])
  rw[lT,lQ,List.length_cons];omega
theorem LR.IU {l:List bB} (h:LR l):bS 0 (l.map (·.q))=some (qs l)∧bS 0 (l.map (·.v))=some (vs l)∧bS 0 (l.map (·.p))=some (ps l)∧bS 0 (l.map fP)=some (Gw l):=by
 have e1:eB (l.map (·.q))=qs l:=Dj fun z hz=>by obtain⟨x,hx,rfl⟩:=List.mem_map.1 hz;have:=h.at_ hx;omega
 have e2:eB (l.map (·.v))=vs l:=Dj fun z hz=>by obtain⟨x,hx,rfl⟩:=List.mem_map.1 hz;have:=h.at_ hx;omega
 have e3:(l.map fP).sum=Gw l:=by simp only[Gw,eB,List.map_map];rfl
 have e4:eB (l.map fP)=Gw l:=by rw[Dj,e3];intro z hz;obtain⟨x,hx,rfl⟩:=List.mem_map.1 hz;unfold fP;omega
 have hq:=h.q;have hv:=h.v;have hp:=h.p
 have f1:=jN (l.map (·.q)) 0 (by omega)
 have f2:=jN (l.map (·.v)) 0 (by omega)
 have f3:=jN (l.map (·.p)) 0 (by unfold Gw at hp;omega)
 have f4:=jN (l.map fP) 0 (by omega)
 rw[e3]at f4;simp only[Int.zero_add]at f1 f2 f3 f4;exact⟨f1,f2,f3,f4⟩
theorem LR.xA {l:List bB} (h:LR l):xA l=⟨qs l,vs l,ps l⟩∧EO l=0:=by
 obtain⟨a,b,c,-⟩:=h.IU;have ht:kZ l=true:=by simp[kZ,cY,a,b,c]
 rw[(AZ ht).1,(AZ ht).2];simp[cU,a,b,c]
theorem LR.right {l:List bB} (h:LR l):kP l=true:=by
 obtain⟨-,-,-,d⟩:=h.IU;have hl:=h.len;exact kO.2 ⟨by omega,List.all_eq_true.2 h.ok,h.xA.2,by simp[cY,d]⟩
theorem LR.of {l:List bB} (h:kP l=true):LR l:=by
 obtain⟨a,b,c,d⟩:=kO.1 h;obtain⟨sq,sv,sp,e1,e2,e3,e4⟩:=vU h;have k1:=dW.1 (EU _ 0 _ (by decide +kernel) e1)
 have k2:=dW.1 (EU _ 0 _ (by decide +kernel) e2)
 have m1:=yK _ _ _ e1;have m2:=yK _ _ _ e2;have m3:=(X4 d).2
 have m4:(l.map fP).sum=Gw l:=by simp only[Gw,eB,List.map_map];rfl
 rw[m4]at m3;have m3:=dW.1 m3;exact⟨by omega,List.all_eq_true.1 b,by unfold qs;omega,by unfold vs;omega,by omega⟩
theorem LR.nil:LR []:=⟨by simp,fun x hx=>by simp at hx,by simp[qs],by simp[vs],by simp[Gw,eB]⟩
theorem LR.one {x:bB} (h:iA x=true):LR [x]:=by
 have k:=dK.1 h;refine⟨by simp,fun y hy=>?_,by simp[qs];omega,by simp[vs];omega,by simp[Gw,eB];omega⟩
 rw[List.mem_singleton.1 hy];exact h
theorem agV {x:bB} {q:Int} (h:iA x=true) (h0:0≤q) (h1:q≤x.q) :
  max (x.p-cV x.p q x.q) (-(x.p-cV x.p q x.q))≤max x.p (-x.p)∧max (cV x.p q x.q) (-cV x.p q x.q)≤max x.p (-x.p):=by
 obtain⟨k1,k2,k3,k4,k5,k6⟩:=dK.1 h;have b:=Bl (v:=x.p) k1 h0 h1 (dW.2 ⟨by omega,by omega⟩)
 by_cases hp:0≤x.p
 ·have:=b.1 hp;omega
 ·have:=b.2 (by omega);omega
theorem adT {x:bB} {q:Int} (h:iA x=true) (h0:1≤q) (h1:q<x.q):iA (mD x (lJ x q))=true∧iA (lJ x q)=true:=by
 obtain⟨k1,k2,k3,k4,k5,k6⟩:=dK.1 h;have b:=SJ h (q:=q) (by omega) (by omega)
 have:=b.v0;have:=b.v1;have:=b.p0;have:=b.p1;have:=b.d0;have:=b.d1
 simp only[dK,mD,lJ];omega
theorem TS (l:List bB):∀(a:bB) (q:Int),LR l→LR (kG l a q).1∧qs (kG l a q).1≤qs l∧vs (kG l a q).1≤vs l∧Gw (kG l a q).1≤Gw l:=by
 induction l with
 |nil=>intro a q h;exact⟨h,Int.le_refl _,Int.le_refl _,Int.le_refl _⟩
 |cons x r ih =>
  intro a q h;simp only[kG];have hx:=h.ok x (by simp)
  have hk:=dK.1 hx;split
  ·exact⟨h,Int.le_refl _,Int.le_refl _,Int.le_refl _⟩
  ·split
   ·have c:=adT hx (q:=q) (by omega) (by omega)
    have cp:=agV hx (q:=q) (by omega) (by omega)
    have cb:=SJ hx (q:=q) (by omega) (by omega)
    have e1:qs (mD x (lJ x q)::r)=qs (x::r)-q:=by rw[lT,lT];simp only[mD,lJ];omega
    have e2:vs (mD x (lJ x q)::r)=vs (x::r)-cV x.v q x.q:=by rw[lQ,lQ];simp only[mD,lJ];omega
    have e3:Gw (mD x (lJ x q)::r)≤Gw (x::r):=by rw[uY,uY];simp only[mD,lJ];omega
    have:=cb.v0;have hq:=h.q;have hv:=h.v;have hp:=h.p
    dsimp only
    exact⟨⟨h.len,fun y hy=>by rcases List.mem_cons.1 hy with rfl|hy;exact c.1;exact h.ok y (by simp[hy]),by omega,by omega,by omega⟩,by omega,by omega,e3⟩
   ·obtain⟨i1,i2,i3,i4⟩:=ih (jS a x) (q-x.q) h.tail
    rw[lT,lQ,uY];exact⟨i1,by omega,by omega,by omega⟩
theorem Bm (l:List bB):∀(a:bB) (q:Int),LR l→0≤q→q≤qs l →
  (kG l a q).2.q=a.q+q∧qs (kG l a q).1=qs l-q∧(kG l a q).2.v+vs (kG l a q).1=a.v+vs l∧(kG l a q).2.p+ps (kG l a q).1=a.p+ps l:=by
 induction l with
 |nil=>intro a q h h0 h1;simp[qs]at h1;simp only[kG,qs,vs,ps];simp;omega
 |cons x r ih =>
  intro a q h h0 h1;simp only[kG];have hx:=h.ok x (by simp)
  have hk:=dK.1 hx;split
  ·dsimp only;exact⟨by omega,by omega,rfl,rfl⟩
  ·split
   ·dsimp only
    rw[lT,lQ,Lj,lT,lQ,Lj];dsimp only[jS,mD,lJ]
    exact⟨by omega,by omega,by omega,by omega⟩
   ·rw[lT]at h1
    obtain⟨i1,i2,i3,i4⟩:=ih (jS a x) (q-x.q) h.tail (by omega) (by omega)
    rw[lT,lQ,Lj,i1,i2,i3,i4];simp only[jS];exact⟨by omega,by omega,by omega,by omega⟩
theorem Ej {l:List bB} {q:Int} (h:LR l) (h0:1≤q) (h1:q≤qs l):dZ l q=((kG l .zero q).1,(kG l .zero q).2,0):=by
 rw[dZ,if_neg (by omega),if_neg (by rw[h.xA.1];simp only;omega)]
theorem Aq {l:List bB} {q:Int} (h:LR l) (h0:1≤q) (h1:qs l<q):dZ l q=(l,.zero,5):=by
 rw[dZ,if_neg (by omega),if_pos (by rw[h.xA.1];simp only;omega)]
theorem pN {l:List bB} {q:Int} (h:LR l):LR (dZ l q).1:=by
 unfold dZ;split
 ·exact h
 ·split
  ·exact h
  ·exact(TS l _ _ h).1
def Ay (l:List bB) (x:bB):List bB×Int :=
 if x.q<1∨x.v<0 then(l,1)else if 30≤l.length then(l,6)else if kP (l++[x])then(l++[x],0)else(l,2)
theorem adv {l:List bB} {x:bB} (h:LR l):LR (Ay l x).1:=by
 unfold Ay;split
 ·exact h
 ·split
  ·exact h
  ·split
   ·exact LR.of (by assumption)
   ·exact h
theorem aal (l m:List bB):qs (l++m)=qs l+qs m:=by simp[qs]
theorem XS (l m:List bB):vs (l++m)=vs l+vs m:=by simp[vs]
theorem Mk {l:List bB} (h:∀x,x∈l→iA x=true):eN (flat l):=by
 intro z hz;obtain⟨x,hx,hz⟩:=List.mem_flatMap.1 hz;have:=dK.1 (h x hx)
 simp at hz
 exact⟨by rcases hz with rfl|rfl|rfl<;>omega,by rcases hz with rfl|rfl|rfl<;>omega⟩
structure cD where
 a:Int
 n:Int
def cD.val (x:cD):Value:=.agg #[.int .i64 x.a,.int .i64 x.n]
def cZ (l:List cD):List Int:=l.flatMap fun x=>[x.a,x.n]
theorem qH (l:List cD):(cZ l).length=l.length*2:=by
 induction l with
 |nil=>rfl
 |cons x l ih=>simp only[cZ,List.flatMap_cons,List.length_append,List.length_cons,List.length_nil]at ih ⊢;omega
theorem Ij (l:List cD):∀(i:Nat) (x:cD),l[i]?=some x→(cZ l).getD (i*2) 0=x.a∧(cZ l).getD (i*2+1) 0=x.n:=by
 induction l with
 |nil=>intro i x h;simp at h
 |cons y l ih =>
  intro i x h;cases i with
  |zero=>simp at h;subst h;exact⟨rfl,rfl⟩
  |succ i =>
   have:=ih i x (by simpa using h)
   have e:∀k,(cZ (y::l)).getD ((i+1)*2+k) 0=(cZ l).getD (i*2+k) 0:=by
    intro k;show([y.a,y.n]++cZ l).getD ((i+1)*2+k) 0=_
    rw[List.getD_eq_getElem?_getD,List.getElem?_append_right (by simp;omega),←List.getD_eq_getElem?_getD]
    congr 1
    simp
    omega
   have e0:=e 0;have e1:=e 1
   simp only[Nat.add_zero]at e0;rw[e0,e1];exact this
theorem aaM {l:List cD} (h:eN (cZ l)) {x:cD} (hx:x∈l):iM x.a∧iM x.n :=
 ⟨h _ (List.mem_flatMap.2 ⟨x,hx,by simp⟩),h _ (List.mem_flatMap.2 ⟨x,hx,by simp⟩)⟩
theorem F7 {l:List cD} (h:∀x,x∈l→iM x.a∧iM x.n):eN (cZ l):=by
 intro z hz;obtain⟨x,hx,hz⟩:=List.mem_flatMap.1 hz;simp at hz
 rcases hz with rfl|rfl
 ·exact(h x hx).1
 ·exact(h x hx).2
structure jG (b:Nat) (w w':World):Prop where
 os:w'.os=w.os
 tape:w'.tape=w.tape
 output:w'.output=w.output
 size:w.heap.size≤w'.heap.size
 block:∀k,k<w.heap.size→k≠b→w'.heap[k]?=w.heap[k]?
 OG:∀i,w'.frozen? ⟨b,i,none⟩=w.frozen? ⟨b,i,none⟩
theorem jG.refl (b:Nat) (w:World):jG b w w:=⟨rfl,rfl,rfl,Nat.le_refl _,fun _ _ _=>rfl,fun _=>rfl⟩
theorem jG.trans {b:Nat} {u v w:World} (h:jG b u v) (k:jG b v w):jG b u w :=
 ⟨k.os.trans h.os,k.tape.trans h.tape,k.output.trans h.output,Nat.le_trans h.size k.size,fun i hi hn=>(k.block i (Nat.lt_of_lt_of_le hi h.size) hn).trans (h.block i hi hn),fun i=>(k.OG i).trans (h.OG i)⟩
theorem jG.of {b:Nat} {w w':World} (h:Below w.heap.size w w') (hb:b<w.heap.size):jG b w w' :=
 ⟨h.os,h.tape,h.output,h.size,fun i hi _=>h.block i hi,fun i=>h.frozen (p:=⟨b,i,none⟩) hb⟩
theorem jG.then {b:Nat} {u v w:World} (h:jG b u v) (k:Below v.heap.size v w) (hb:b<u.heap.size):jG b u w:=h.trans (jG.of k (Nat.lt_of_lt_of_le hb h.size))
theorem jG.drew {b:Nat} {u v:World} (h:jG b u v):jG b u v.drew:=⟨h.os,h.tape,h.output,h.size,h.block,h.OG⟩
theorem jG.drewN {b:Nat} {u v:World} (h:jG b u v) (n:Nat):jG b u (v.drewN n):=by
 have:=below_drewN (Below.refl v.heap.size v) n
 exact⟨this.os.trans h.os,this.tape.trans h.tape,this.output.trans h.output,Nat.le_trans h.size this.size,fun i hi hn=>(this.block i (Nat.lt_of_lt_of_le hi h.size)).trans (h.block i hi hn),fun i=>(by simpa using h.OG i)⟩
theorem jG.set {b:Nat} {u v:World} (h:jG b u v) (i:Nat) (x:Value):jG b u (v.setCell ⟨b,i,none⟩ x) :=
 ⟨h.os,h.tape,h.output,by simpa[World.setCell]using h.size,fun k hk hn=>(Below.heap_setCell _ _ _ _ hn).trans (h.block k hk hn),fun j=>by rw[World.frozen?_setCell];exact h.OG j⟩
theorem jG.below {b B:Nat} {w w':World} (h:jG b w w') (hB:B≤w.heap.size) (hb:B≤b):Below B w w' :=
 ⟨h.os,h.tape,h.output,h.size,fun k hk=>h.block k (Nat.lt_of_lt_of_le hk hB) (by omega)⟩
theorem bD.line {w:World} {b off:Nat} {l:List cD} {j:Nat} {x:cD} (hc:bD w b off (cZ l)) (hx:l[j]?=some x) :
  w.cell? ⟨b,off+j*2,none⟩=some (.int .i64 x.a)∧w.cell? ⟨b,off+j*2+1,none⟩=some (.int .i64 x.n):=by
 have hg:=Ij l j x hx;have hfl:=qH l;have hj:j<l.length:=by
  rcases Nat.lt_or_ge j l.length with h|h
  ·exact h
  ·rw[List.getElem?_eq_none h]at hx;cases hx
 exact⟨by rw[hc (j*2) (by omega),hg.1],by rw[Nat.add_assoc,hc (j*2+1) (by omega),hg.2]⟩
theorem bD.NW {w:World} {b off:Nat} {l:List cD} (h:∀j x,l[j]?=some x→w.cell? ⟨b,off+j*2,none⟩=some (.int .i64 x.a)∧w.cell? ⟨b,off+j*2+1,none⟩=some (.int .i64 x.n)):bD w b off (cZ l):=by
 intro i hi;have hfl:=qH l;have hj:i/2<l.length:=by omega
 have hx:l[i/2]?=some l[i/2]:=by simp[hj]
 have hg:=Ij l (i/2) _ hx
 have hc:=h (i/2) _ hx
 by_cases e:i%2=0
 ·have ei:i=i/2*2:=by omega
  rw[show off+i=off+i/2*2 by omega,hc.1,←hg.1,←ei]
 ·have ei:i=i/2*2+1:=by omega
  rw[show off+i=off+i/2*2+1 by omega,hc.2,←hg.2,←ei]
def Ah (w:World) (b off:Nat) (x:cD):World:=(w.setCell ⟨b,off,none⟩ (.int .i64 x.a)).setCell ⟨b,off+1,none⟩ (.int .i64 x.n)
theorem HB {w:World} {b off:Nat} {l:List cD} (hc:bD w b off (cZ l)) {i:Nat} (hi:i<l.length) (x:cD):bD (Ah w b (off+i*2) x) b off (cZ (l.set i x)):=by
 refine bD.NW fun j y hy=>?_
 have h0:=(hc.line (j:=i) (x:=l[i]) (by simp[hi]))
 by_cases e:i=j
 ·subst e
  rw[List.getElem?_set_self (by omega)]at hy
  cases hy;unfold Ah;refine⟨?_,?_⟩
  ·rw[World.cell?_setCell_other _ _ _ _ (by intro e2;injection e2;omega),World.cell?_setCell_same _ _ _ h0.1]
  ·rw[World.cell?_setCell_same _ _ _ (by rw[World.cell?_setCell_other _ _ _ _ (by intro e2;injection e2;omega)];exact h0.2)]
 ·rw[List.getElem?_set_ne e]at hy
  have:=hc.line hy
  unfold Ah;refine⟨?_,?_⟩
  ·rw[World.cell?_setCell_other _ _ _ _ (by intro e2;injection e2;omega),World.cell?_setCell_other _ _ _ _ (by intro e2;injection e2;omega)];exact this.1
  ·rw[World.cell?_setCell_other _ _ _ _ (by intro e2;injection e2;omega),World.cell?_setCell_other _ _ _ _ (by intro e2;injection e2;omega)];exact this.2
theorem jG.Ah {b:Nat} {u v:World} (h:jG b u v) (i:Nat) (x:cD):jG b u (Go.Proofs.YtnepgggkgnckcaaGreat.Ah v b i x):=(h.set _ _).set _ _
end
section
open Mc
structure yF where
 (eX item loc lS value RZ lV back:Int)
structure AP where
 (eX item loc lS back cost cN period:Int)
 waits:Bool
structure wX where
 (src dst item lS value cN:Int)
structure dA where
 bK:List bB
 (p0 p1 p2:Int)
structure EntC where
 now:Int
 closed:Bool
 bE:List dA
 dC:List Int
 bF:List (List Int)
 aW:List Int
 down:List Int
structure eC extends EntC where
 ahead:List EntC
structure bH where
 (aB aD:Int)
 weights:List Int
 methods:List (List Int)
 iC:List (List Int)
 aH:List eC
 bX:List yF
 aU:List AP
 aM:List wX
 done:Int
def lY (l:List Int):List AV:=l.map AV.i
def CU (k:Nat) (l:List (List Int)):AV:=.lit k (l.map lY)
def bB.r (x:bB):List Int:=[x.q,x.v,x.p]
def cD.r (x:cD):List Int:=[x.a,x.n]
def yF.r (x:yF):List Int:=[x.eX,x.item,x.loc,x.lS,x.value,x.RZ,x.lV,x.back]
def wX.r (x:wX):List Int:=[x.src,x.dst,x.item,x.lS,x.value,x.cN]
def AP.row (x:AP):List AV:=[.i x.eX,.i x.item,.i x.loc,.i x.lS,.i x.back,.i x.cost,.i x.cN,.i x.period,.c (.bool x.waits)]
def aA (l:List Int):List (List AV):=l.map fun v=>[.i v]
def aO (l:List bB):List (List AV):=l.map fun x=>lY x.r
def bR (l:List cD):List (List AV):=l.map fun x=>lY x.r
def kW (l:List yF):List (List AV):=l.map fun x=>lY x.r
def gY (l:List wX):List (List AV):=l.map fun x=>lY x.r
def gD (l:List AP):List (List AV):=l.map AP.row
def bM (l:List (List Int)):List (List AV):=l.map lY
def dM (l:List (List Int)):List (List AV):=l.map fun x=>[.lit 1 (aA x)]
def dA.row (p:dA):List AV:=[.lit 3 (aO p.bK),.i p.p0,.i p.p1,.i p.p2]
def bL (l:List dA):List (List AV):=l.map dA.row
def EntC.row (x:EntC) (ahead:List (List AV)):List AV:=[.i x.now,.c (.bool x.closed),.lit 4 (bL x.bE),.lit 1 (aA x.dC),.lit 11 (bM x.bF),.lit 1 (aA x.aW),.lit 1 (aA x.down),.lit 8 ahead]
def bV (l:List EntC):List (List AV):=l.map fun x=>x.row []
def eC.row (x:eC):List AV:=x.toEntC.row (bV x.ahead)
def bN (l:List eC):List (List AV):=l.map eC.row
def bH.av (s:bH):AV:=.agg [.i s.aB,.i s.aD,.lit 1 (aA s.weights),.lit 1 (dM s.methods),.lit 1 (dM s.iC),.lit 8 (bN s.aH),.lit 8 (kW s.bX),.lit 9 (gD s.aU),.lit 6 (gY s.aM),.i s.done]
def bB.av (x:bB):AV:=.agg (lY x.r)
def dA.av (p:dA):AV:=.agg p.row
def pG (l:List (List AV)):Prop:=∀r∈l,∀x∈r,Cl x
theorem pG.lit {sz:Nat} {l:List (List AV)} (h:pG l):Cl (.lit sz l):=.lit sz l h
theorem pG.nil:pG []:=fun r h=>absurd h List.not_mem_nil
theorem wJ (l:List Int):∀x∈lY l,Cl x:=by
 intro x hx;obtain⟨v,-,rfl⟩:=List.mem_map.1 hx;exact .c _
theorem pG.map {α:Type} {f:α→List AV} (h:∀a x,x∈f a→Cl x) (l:List α):pG (l.map f):=by
 intro r hr x hx;obtain⟨a,-,rfl⟩:=List.mem_map.1 hr;exact h a x hx
theorem kK (l:List Int):pG (aA l):=pG.map (fun v x hx=>by rw[List.mem_singleton]at hx;subst hx;exact .c _) l
theorem tQ (l:List bB):pG (aO l):=pG.map (fun v x hx=>wJ _ x hx) l
theorem zE (l:List cD):pG (bR l):=pG.map (fun v x hx=>wJ _ x hx) l
theorem SO (l:List yF):pG (kW l):=pG.map (fun v x hx=>wJ _ x hx) l
theorem SM (l:List wX):pG (gY l):=pG.map (fun v x hx=>wJ _ x hx) l
theorem O0 (l:List (List Int)):pG (bM l):=pG.map (fun v x hx=>wJ _ x hx) l
theorem SN (l:List AP):pG (gD l):=pG.map (fun v x hx=>by simp only[AP.row,List.mem_cons,List.not_mem_nil,or_false]at hx;rcases hx with rfl|rfl|rfl|rfl|rfl|rfl|rfl|rfl|rfl<;>exact .c _) l
theorem rG (l:List (List Int)):pG (dM l):=pG.map (fun v x hx=>by rw[List.mem_singleton]at hx;subst hx;exact(kK v).lit) l
theorem AE (p:dA):∀x∈p.row,Cl x:=by
 intro x hx;simp only[dA.row,List.mem_cons,List.not_mem_nil,or_false]at hx;rcases hx with rfl|rfl|rfl|rfl
 ·exact(tQ _).lit
 all_goals exact .c _
theorem O1 (l:List dA):pG (bL l):=pG.map (fun v x hx=>AE v x hx) l
theorem Ir (e:EntC) {ah:List (List AV)} (ha:pG ah):∀x∈e.row ah,Cl x:=by
 intro x hx;simp only[EntC.row,List.mem_cons,List.not_mem_nil,or_false]at hx;rcases hx with rfl|rfl|rfl|rfl|rfl|rfl|rfl|rfl
 ·exact .c _
 ·exact .c _
 ·exact(O1 _).lit
 ·exact(kK _).lit
 ·exact(O0 _).lit
 ·exact(kK _).lit
 ·exact(kK _).lit
 ·exact ha.lit
theorem O4 (l:List EntC):pG (bV l):=pG.map (fun v x hx=>Ir v pG.nil x hx) l
theorem Mw (l:List eC):pG (bN l):=pG.map (fun v x hx=>Ir _ (O4 _) x hx) l
theorem ajN (s:bH):Cl s.av:=by
 refine .agg _ fun x hx=>?_
 simp only[List.mem_cons,List.not_mem_nil,or_false]at hx;rcases hx with rfl|rfl|rfl|rfl|rfl|rfl|rfl|rfl|rfl|rfl
 ·exact .c _
 ·exact .c _
 ·exact(kK _).lit
 ·exact(rG _).lit
 ·exact(rG _).lit
 ·exact(Mw _).lit
 ·exact(SO _).lit
 ·exact(SN _).lit
 ·exact(SM _).lit
 ·exact .c _
theorem aX {x:AV} {l:List AV} (h:Cl x) (hl:∀y∈l,Cl y):∀y∈x::l,Cl y:=by
 intro y hy;rcases List.mem_cons.1 hy with rfl|hy
 ·exact h
 ·exact hl y hy
theorem eM:∀y∈([]:List AV),Cl y:=fun y h=>absurd h List.not_mem_nil
theorem ad1 {r:List AV} {l:List (List AV)} (h:∀x∈r,Cl x) (hl:pG l):pG (r::l):=by
 intro y hy;rcases List.mem_cons.1 hy with rfl|hy
 ·exact h
 ·exact hl y hy
theorem SP {a b:List (List AV)} (h:pG a) (g:pG b):pG (a++b):=by
 intro y hy;rcases List.mem_append.1 hy with hy|hy
 ·exact h y hy
 ·exact g y hy
theorem Xt {a:List (List AV)} {i:Nat} {r:List AV} (h:pG a) (g:∀x∈r,Cl x):pG (a.set i r):=by
 intro y hy;rcases List.mem_or_eq_of_mem_set hy with hy|rfl
 ·exact h y hy
 ·exact g
theorem xW {k:Nat}:∀(l:List (List Int)),(∀r∈l,r.length=k)→l.flatten.length=l.length*k
 |[],_=>by simp
 |r::l,h=>by
  rw[List.flatten_cons,List.length_append,xW l (fun r hr=>h r (List.mem_cons_of_mem _ hr)),h r List.mem_cons_self,List.length_cons,Nat.succ_mul]
  omega
theorem xX {k:Nat}:∀(l:List (List Int)),(∀r∈l,r.length=k)→∀(i j:Nat) (r:List Int),l[i]?=some r→j<k→l.flatten.getD (i*k+j) 0=r.getD j 0
 |[],_,i,j,r,h,_=>by simp at h
 |x::l,hl,0,j,r,h,hj=>by
  simp only[List.getElem?_cons_zero,Option.some.injEq]at h;subst h;have:=hl x List.mem_cons_self
  rw[List.flatten_cons,List.getD,List.getElem?_append_left (by omega)]
  simp[List.getD]
 |x::l,hl,i+1,j,r,h,hj=>by
  have h1:=hl x List.mem_cons_self;have ih:=xX l (fun r hr=>hl r (List.mem_cons_of_mem _ hr)) i j r (by simpa using h) hj
  rw[List.flatten_cons,List.getD,List.getElem?_append_right (by rw[Nat.succ_mul];omega),←ih,List.getD]
  congr 2
  rw[Nat.succ_mul];omega
theorem Al {A:Nat→Prop} {w:World} {k:Nat} {l:List (List Int)} {v:Value} (h:@dG dI dN A w (CU k l) v) (hI:eN l.flatten) (hk:∀r∈l,r.length=k):∃a cap,v=.slice a l.length cap∧Row w k a l.length cap l.flatten:=by
 have hlen:l.flatten.length=l.length*k:=xW l hk
 generalize hy:CU k l=y at h
 cases h with
 |lit s es b off cap vs hA hb hc hsz h1 hv hr =>
  unfold CU at hy;cases hy;have hl:(l.map lY).length=l.length:=by simp
  rw[hl]at hc ⊢;refine⟨_,cap,rfl,⟨hlen,hc.1,hc.2,hI,.inr ⟨b,off,rfl,hb,?_⟩⟩⟩
  intro i hi;have hi':i<l.length*k:=by rw[←hlen];exact hi
  have k0:0<k:=by
   rcases Nat.eq_zero_or_pos k with h|h
   ·rw[h]at hi';simp at hi'
   ·exact h
  have hq:i/k<l.length:=(Nat.div_lt_iff_lt_mul k0).2 hi'
  have hm:i%k<k:=Nat.mod_lt _ k0
  have hrl:(l[i/k]).length=k:=hk _ (List.getElem_mem hq)
  have e3:i/k*k+i%k=i:=by rw[Nat.mul_comm];exact Nat.div_add_mod i k
  have ha:fW (l.map lY) (i/k) (i%k)=some (AV.i ((l[i/k]).getD (i%k) 0)):=by
   unfold fW lY;rw[List.getElem?_map,List.getElem?_eq_getElem hq];have hlt:i%k<(l[i/k]).length:=by omega
   simp only[Option.map_some,Option.bind_some,List.getElem?_map,List.getD,List.getElem?_eq_getElem hlt,Option.getD_some]
  have e1:=hv _ _ _ ha;have e2:=hr _ _ _ ha;rw[e3]at e1;rw[e1];have e4:=xX l hk (i/k) (i%k) _ (List.getElem?_eq_getElem hq) hm
  rw[e3]at e4;rw[e4];generalize vs (i/k) (i%k)=u at e2
  cases e2;rfl
 |nG s a cap hm =>
  unfold CU at hy;injection hy with e1 e2
  rw[List.map_eq_nil_iff]at e2;subst e2;exact⟨a,cap,rfl,⟨hlen,Nat.zero_le _,hm,hI,.inl rfl⟩⟩
 |_=>unfold CU at hy;cases hy
theorem vW {A:Nat→Prop} {w:World} {k:Nat} {l:List (List Int)} {a:Option Addr} {cap:Nat} (hk:∀r∈l,r.length=k) (hc:l.length≤cap) (hm:cap≤maxLen)
  (h:l.length=0∨∃b off,a=some ⟨b,off,none⟩∧¬ A b∧b<w.heap.size∧bD w b off l.flatten):@dG dI dN A w (CU k l) (.slice a l.length cap):=by
 rcases h with h|⟨b,off,rfl,hA,hb,hC⟩
 ·have:l=[]:=List.length_eq_zero_iff.1 h
  subst this;exact @dG.nG dI dN A w k a cap hm
 ·have hl:(l.map lY).length=l.length:=by simp
  unfold CU;rw[←hl]at hc ⊢;have key:∀(i j:Nat) (x:AV),fW (l.map lY) i j=some x→i<l.length∧j<k∧x=AV.i (l.flatten.getD (i*k+j) 0):=by
   intro i j x hx;unfold fW lY at hx;rw[List.getElem?_map]at hx;cases hr:l[i]? with
   |none=>rw[hr]at hx;cases hx
   |some r =>
    rw[hr]at hx;simp only[Option.map_some,Option.bind_some,List.getElem?_map]at hx;obtain⟨z,hz,rfl⟩:=Option.map_eq_some_iff.1 hx;have hrk:=hk r (List.mem_of_getElem? hr)
    have hj:j<k:=by rw[←hrk];exact(List.getElem?_eq_some_iff.1 hz).1
    refine⟨(List.getElem?_eq_some_iff.1 hr).1,hj,?_⟩
    rw[xX l hk i j r hr hj,List.getD,hz];rfl
  refine @dG.lit dI dN A w k _ b off cap (fun i j=>.int .i64 (l.flatten.getD (i*k+j) 0)) hA hb ⟨hc,hm⟩ ?_ ?_ ?_ ?_
  ·intro e he
   obtain⟨r,hr,rfl⟩:=List.mem_map.1 he;unfold lY;rw[List.length_map];exact hk r hr
  ·intro i j x hx
   obtain⟨-,-,rfl⟩:=key i j x hx;rfl
  ·intro i j x hx
   obtain⟨h1,h2,-⟩:=key i j x hx;refine hC _ ?_
   rw[xW l hk];have:(i+1)*k≤l.length*k:=Nat.mul_le_mul_right _ h1
   rw[Nat.succ_mul]at this;omega
  ·intro i j x hx
   obtain⟨-,-,rfl⟩:=key i j x hx;exact @dG.c dI dN A w _
theorem Sz (l:List bB):(l.map bB.r).flatten=flat l:=by
 induction l with
 |nil=>rfl
 |cons x l ih=>simp only[List.map_cons,List.flatten_cons,ih,flat,List.flatMap_cons];rfl
theorem Mm (l:List cD):(l.map cD.r).flatten=cZ l:=by
 induction l with
 |nil=>rfl
 |cons x l ih=>simp only[List.map_cons,List.flatten_cons,ih,cZ,List.flatMap_cons];rfl
theorem Ew (l:List Int):(l.map fun v=>[v]).flatten=l:=by
 induction l with
 |nil=>rfl
 |cons x l ih=>simp only[List.map_cons,List.flatten_cons,ih];rfl
theorem Ot (l:List bB):AV.lit 3 (aO l)=CU 3 (l.map bB.r):=by unfold aO CU;rw[List.map_map];rfl
theorem Ok (l:List cD):AV.lit 2 (bR l)=CU 2 (l.map cD.r):=by unfold bR CU;rw[List.map_map];rfl
theorem FW (l:List Int):AV.lit 1 (aA l)=CU 1 (l.map fun v=>[v]):=by unfold aA CU;rw[List.map_map];rfl
end
section
def Mu (x y:Int):Int:=if x<y then -1 else if y<x then 1 else 0
theorem OZ {x y:Int}:Mu x y<0↔x<y:=by
 unfold Mu;by_cases h:x<y
 ·simp[h]
 ·by_cases h2:y<x<;>simp[h,h2]
theorem CW (x:Int) (w:World):Calls Tryz.prog 206 #[.int .i64 x] w fun e w'=>e=.returned (.bool false)∧w=w':=by
 go_enter Tryz.func206,Tryz.ntmps206
 go_wp2_with fail
 go_ret
 exact⟨rfl,rfl⟩
theorem afS (x y:Int) (w:World):Calls Tryz.prog 166 #[.int .i64 x,.int .i64 y] w fun e w'=>e=.returned (.int .i64 (Mu x y))∧w=w':=by
 go_enter Tryz.func166,Tryz.ntmps166
 by_cases h:x<y
 ·go_wp2_with (go_at_call 206;refine(CW _ _).mono ?_;rintro e w' ⟨rfl,rfl⟩)
  go_ret
  exact⟨pL (by simp[Mu,h]),rfl⟩
 ·by_cases h2:y<x
  ·go_wp2_with (go_at_call 206;refine(CW _ _).mono ?_;rintro e w' ⟨rfl,rfl⟩)
   go_ret
   exact⟨pL (by simp[Mu,h,h2]),rfl⟩
  ·go_wp2_with (go_at_call 206;refine(CW _ _).mono ?_;rintro e w' ⟨rfl,rfl⟩)
   go_ret
   exact⟨pL (by simp only[Mu];rw[if_neg (by omega),if_neg (by omega)]),rfl⟩
theorem aek (x:cD) (w:World):Calls Tryz.prog 136 #[x.val] w fun e w'=>e=.returned (.int .i64 x.a)∧Below w.heap.size w w':=by
 unfold cD.val;go_enter Tryz.func136,Tryz.ntmps136
 go_wp2_with fail
 go_ret
 exact⟨rfl,blw⟩
set_option maxRecDepth 100000 in
set_option maxHeartbeats 1000000 in
theorem aid (x y:cD) (c:Nat) (w:World) (hc:w.cell? ⟨c,0,none⟩=some (.func (.func 136) #[] #[])) (hlt:c<w.heap.size) :
  Calls Tryz.prog 185 #[x.val,y.val,.pointer (some ⟨c,0,none⟩)] w fun e w'=>e=.returned (.int .i64 (Mu x.a y.a))∧Below w.heap.size w w':=by
 unfold cD.val;go_enter Tryz.func185,Tryz.ntmps185
 go_wp2_with fail
 have hc1:c<w.heap.size+1:=by omega
 have hc2:c<w.heap.size+1+1:=by omega
 have hcW:((w.alloc (.cells #[.int .i64 x.a,.int .i64 x.n] 44)).alloc (.cells #[.int .i64 y.a,.int .i64 y.n] 44)).drew.cell? ⟨c,0,none⟩=some (.func (.func 136) #[] #[]):=(World.cell?_alloc_lt _ _ _ (by simp;omega)).trans ((World.cell?_alloc_lt _ _ _ hlt).trans hc)
 have hb0:Below w.heap.size w ((w.alloc (.cells #[.int .i64 x.a,.int .i64 x.n] 44)).alloc (.cells #[.int .i64 y.a,.int .i64 y.n] 44)).drew:=(((Below.refl _ _).alloc (Nat.le_refl _) _).alloc (by simp) _).drew
 go_region_held3 (fun w'=>Below w.heap.size w w'∧w.heap.size+1<w'.heap.size∧w'.cell? ⟨c,0,none⟩=some (.func (.func 136) #[] #[])∧w'.cell? ⟨w.heap.size,0,none⟩=some (.int .i64 x.a)∧w'.cell? ⟨w.heap.size,1,none⟩=some (.int .i64 x.n)∧w'.cell? ⟨w.heap.size+1,0,none⟩=some (.int .i64 y.a)∧w'.cell? ⟨w.heap.size+1,1,none⟩=some (.int .i64 y.n))
  (first
   |exact⟨hb0,by simp,hcW,by simp,by simp,by simp,by simp⟩
   |(go_split_ands;refine⟨?_,?_,?_,?_,?_,?_,?_⟩<;>first|assumption|(refine Below.trans ?_ (Below.mono hw2 ?_)<;>first|assumption|omega)|(have:=hw2.size;omega)|(exact(hw2.cell (by simp only;omega)).trans (by assumption))))
  ((first
   |(go_at_call 136;refine(aek x _).mono ?_;rintro e w2 ⟨rfl,hw2⟩)
   |(go_at_call 136;refine(aek y _).mono ?_;rintro e w2 ⟨rfl,hw2⟩)
   |(go_at_call 166;refine(afS _ _ _).mono ?_;rintro e w2 ⟨rfl,rfl⟩)))
 all_goals
  have hS:=‹Below w.heap.size w _∧_›
  go_wp2_with fail
  go_ret
  exact⟨rfl,hS.1⟩
section
variable {α:Type} (key:α→Int)
def eJ (l:List α):Prop:=l.Pairwise fun x y=>key x≤key y
def jI (l m:List α):Prop:=∀k,m.filter (fun x=>key x==k)=l.filter (fun x=>key x==k)
end
section
variable {α:Type} {key:α→Int}
theorem jI.refl (l:List α):jI key l l:=fun _=>rfl
theorem jI.trans {a b c:List α} (h:jI key a b) (k:jI key b c):jI key a c:=fun i=>(k i).trans (h i)
theorem jI.app {a b c d:List α} (h:jI key a b) (k:jI key c d):jI key (a++c) (b++d):=fun i=>by rw[List.filter_append,List.filter_append,h i,k i]
theorem jI.swap {a b:List α} (h:∀x,x∈a→∀y,y∈b→key x≠key y):jI key (a++b) (b++a):=by
 intro k;rw[List.filter_append,List.filter_append];by_cases ha:a.filter (fun x=>key x==k)=[]
 ·rw[ha];simp
 ·obtain⟨x,hx⟩:=List.exists_mem_of_ne_nil _ ha
  rw[List.mem_filter]at hx;have hb:b.filter (fun x=>key x==k)=[]:=by
   rw[List.filter_eq_nil_iff];intro y hy;have e1:key x=k:=by simpa using hx.2
   have:=h x hx.1 y hy
   simp
   omega
  rw[hb];simp
theorem jI.mem {a b:List α} (h:jI key a b) {x:α}:x∈b↔x∈a:=by
 have:=h (key x)
 constructor
 ·intro hx
  have:x∈b.filter (fun y=>key y==key x):=List.mem_filter.2 ⟨hx,by simp⟩
  rw[h (key x)]at this;exact(List.mem_filter.1 this).1
 ·intro hx
  have:x∈a.filter (fun y=>key y==key x):=List.mem_filter.2 ⟨hx,by simp⟩
  rw[←h (key x)]at this;exact(List.mem_filter.1 this).1
theorem eJ.app {a b:List α}:eJ key (a++b)↔eJ key a∧eJ key b∧∀x,x∈a→∀y,y∈b→key x≤key y:=List.pairwise_append
theorem eJ.one (x:α):eJ key [x]:=by simp[eJ]
theorem eJ.nil:eJ key ([]:List α):=List.Pairwise.nil
theorem eJ.last {a:List α} {y:α} (h:eJ key (a++[y])):∀x,x∈a++[y]→key x≤key y:=by
 intro x hx;rcases List.mem_append.1 hx with hx|hx
 ·exact(eJ.app.1 h).2.2 x hx y (by simp)
 ·simp at hx;subst hx;exact Int.le_refl _
theorem ads {P1 P2:List α} {x y:α} (h2:∀z,z∈P2→key x<key z) (h:key x<key y):∀z,z∈y::P2→key x<key z:=by
 intro z hz;rcases List.mem_cons.1 hz with rfl|hz
 ·exact h
 ·exact h2 z hz
theorem adt {P1 P2:List α} {x:α} (hr:eJ key (P1++P2)) (h2:∀z,z∈P2→key x<key z) (h1:∀z,z∈P1→key z≤key x) :
  eJ key (P1++x::P2)∧jI key (P1++P2++[x]) (P1++x::P2):=by
 have a:=eJ.app.1 hr;constructor
 ·refine eJ.app.2 ⟨a.1,List.pairwise_cons.2 ⟨fun z hz=>Int.le_of_lt (h2 z hz),a.2.1⟩,fun z hz u hu=>?_⟩
  rcases List.mem_cons.1 hu with rfl|hu
  ·exact h1 z hz
  ·exact a.2.2 z hz u hu
 ·have:jI key (P2++[x]) ([x]++P2):=jI.swap fun z hz y hy=>by simp at hy;subst hy;have:=h2 z hz;omega
  have:=(jI.refl (key:=key) P1).app this
  simpa using this
end
section
variable {α:Type} {key:α→Int}
theorem Ii {seg P P1 P2 R:List α} {k:Nat} {x:α} (hx:seg.drop k=x::R) (hP:P.length=k) (hR:eJ key P) (hS:jI key (seg.take k) P) (e:P=P1++P2) (h2:∀z,z∈P2→key x<key z) (h1:∀z,z∈P1→key z≤key x) :
  (P1++x::P2).length=k+1∧eJ key (P1++x::P2)∧jI key (seg.take (k+1)) (P1++x::P2)∧seg.drop (k+1)=R∧k+1≤seg.length:=by
 subst e;have d:=adt hR h2 h1;have hk:k<seg.length:=by
  rcases Nat.lt_or_ge k seg.length with h|h
  ·exact h
  ·rw[List.drop_eq_nil_of_le h]at hx;cases hx
 have hg:seg[k]=x:=by
  have:=List.drop_eq_getElem_cons hk
  rw[hx]at this;exact(List.cons.inj this).1.symm
 have hd:seg.drop (k+1)=R:=by
  have:=List.drop_eq_getElem_cons hk
  rw[hx]at this;exact(List.cons.inj this).2.symm
 refine⟨by simp at hP ⊢;omega,d.1,?_,hd,hk⟩
 rw[List.take_succ_eq_append_getElem hk,hg];exact(hS.app (jI.refl [x])).trans d.2
end
section
variable {α:Type}
theorem X3 {A B:List α} {x y:α} {j:Nat} (hj:A.length+1=j):((A++y::x::B).set j y).set (j-1) x=A++x::y::B:=by
 subst hj;simp[List.set_append]
theorem Ag (l:List α):l=[]∨∃A y,l=A++[y]:=by
 induction l with
 |nil=>exact .inl rfl
 |cons x l ih =>
  right
  rcases ih with rfl|⟨A,y,rfl⟩
  ·exact⟨[],x,rfl⟩
  ·exact⟨x::A,y,rfl⟩
theorem afD {A B:List α} {x y:α} {j:Nat} (hj:A.length+1=j):(A++y::x::B)[j]?=some x:=by
 subst hj;simp
theorem afE {A B:List α} {x y:α} {j:Nat} (hj:A.length+1=j):(A++y::x::B)[j-1]?=some y:=by
 subst hj;simp
end
end
section
def Gm (c:Nat):Value:=.func (.func 185) #[] #[.pointer (some ⟨c,0,none⟩)]
structure pW (w:World) (b off c:Nat) (l:List cD):Prop where
 cells:bD w b off (cZ l)
 fz:∀i,w.frozen? ⟨b,i,none⟩=false
 lt:b<w.heap.size
 Xw:w.cell? ⟨c,0,none⟩=some (.func (.func 136) #[] #[])
 clt:c<w.heap.size
 ne:c≠b
theorem pW.drew {w:World} {b off c:Nat} {l:List cD} (h:pW w b off c l):pW w.drew b off c l:=⟨h.cells,h.fz,h.lt,h.Xw,h.clt,h.ne⟩
theorem pW.below {w w':World} {b off c:Nat} {l:List cD} (h:pW w b off c l) (g:Below w.heap.size w w'):pW w' b off c l :=
 ⟨h.cells.below h.lt g,fun i=>(g.frozen (p:=⟨b,i,none⟩) h.lt).trans (h.fz i),Nat.lt_of_lt_of_le h.lt g.size,(g.cell (p:=⟨c,0,none⟩) h.clt).trans h.Xw,Nat.lt_of_lt_of_le h.clt g.size,h.ne⟩
theorem pW.drewN {w:World} {b off c:Nat} {l:List cD} (h:pW w b off c l) (n:Nat):pW (w.drewN n) b off c l:=h.below (below_drewN (Below.refl _ _) n)
theorem pW.set {w:World} {b off c:Nat} {l:List cD} (h:pW w b off c l) {i:Nat} (hi:i<l.length) (x:cD):pW (Ah w b (off+i*2) x) b off c (l.set i x):=by
 refine⟨HB h.cells hi x,fun j=>by unfold Ah;rw[World.frozen?_setCell,World.frozen?_setCell];exact h.fz j,by unfold Ah;simpa[World.setCell]using h.lt,?_,by unfold Ah;simpa[World.setCell]using h.clt,h.ne⟩
 unfold Ah;have e (u:World) (i:Nat) (v:Value):(u.setCell ⟨b,i,none⟩ v).cell? ⟨c,0,none⟩=u.cell? ⟨c,0,none⟩:=World.cell?_of_block (w:=u) (Below.heap_setCell _ _ _ _ (show c≠b from h.ne))
 rw[e,e];exact h.Xw
set_option maxRecDepth 20000 in
set_option maxHeartbeats 2000000 in
theorem FX (b off c cap a e:Nat) (pre seg post:List cD) (w:World) (h:pW w b off c (pre++seg++post)) (n:Nat) (hN:(pre++seg++post).length=n) (hn:n≤cap) (hm:cap≤maxLen) (hnb:n≤1000000)
  (ha:pre.length=a) (he:a+seg.length=e) :
  Calls Tryz.prog 236 #[.slice (some ⟨b,off,none⟩) n cap,.int .i64 a,.int .i64 e,Gm c] w
   fun r w'=>r=.returned (.tuple #[])∧∃seg':List cD,seg'.length=seg.length∧eJ cD.a seg'∧jI cD.a seg seg'∧pW w' b off c (pre++seg'++post)∧jG b w w':=by
 unfold maxLen at hm;have hae:e≤n:=by rw[←hN,←he,←ha];simp
 have hNh:=Lib.hid hN;have hah:=Lib.hid ha;have heh:=Lib.hid he;clear hN ha he;unfold Gm;go_enter Tryz.func236,Tryz.ntmps236
 cases seg with
 |nil =>
  have hge:¬ (a:Int)+1<(e:Int):=by have:=heh.out;simp at this;omega
  have hw1:IntKind.i64.wrap ((a:Int)+1)=(a:Int)+1:=IntWalk.i64_in _ (by have:=heh.out;simp at this;omega)
  have hw2:wrap64 ((a:Int)+1)=(a:Int)+1:=by unfold wrap64;have:=heh.out;simp at this;omega
  go_wp2_with fail
  refine wp_loop_rounds 1 ?_
  rw[rounds_succ];go_wp2_with fail
  exact bodyPost_end (v:=.tuple #[]) (by simp[results,Tryz.results236,go_sem]) rfl ⟨rfl,[],rfl,eJ.nil,jI.refl _,h,jG.refl _ _⟩
 |cons s0 seg0 =>
  have hlt0:a+1≤e:=by have:=heh.out;simp at this;omega
  go_wp2_with fail
  go_loopw [8] (fun i wr=>∃(k K:Nat) (P:List cD),1≤k∧K≤e∧Hid (a+k=K)∧i=.int .i64 (K:Int)∧Hid (P.length=k)∧eJ cD.a P∧jI cD.a ((s0::seg0).take k) P∧pW wr b off c (pre++P++(s0::seg0).drop k++post)∧jG b w wr) (fun i _=>e-(intOf i).toNat)
  case atStart =>
   exact⟨1,a+1,[s0],by omega,by omega,rfl,by go_num,rfl,eJ.one _,jI.refl _,by simpa using h,jG.refl _ _⟩
  case round =>
   obtain⟨k,K,P,hk1,hk2,hkK,rfl,hP,hR,hS,hL,hK⟩:=hrel;by_cases hlt:K<e
   ·have hltI:(K:Int)<(e:Int):=by omega
    obtain⟨x,R,hx⟩:∃x R,(s0::seg0).drop k=x::R:=by
     cases hd:(s0::seg0).drop k with
     |nil=>have:=heh.out;have:=hkK.out;rw[List.drop_eq_nil_iff]at hd;omega
     |cons x R=>exact⟨x,R,rfl⟩
    have hxh:=Lib.hid hx;rw[hx]at hL;clear hx;go_wp2_with fail
    go_loopw [9] (fun j wr=>∃(J:Nat) (P1 P2:List cD),Hid (P=P1++P2)∧(∀z,z∈P2→x.a<z.a)∧j=.int .i64 (J:Int)∧Hid (a+P1.length=J)∧J≤K∧pW wr b off c (pre++P1++x::(P2++R++post))∧jG b w wr) (fun j _=>(intOf j).toNat)
    case atStart =>
     exact⟨K,P,[],by simp[Hid],by simp,rfl,by rw[Hid,hP.out];exact hkK.out,by omega,by simpa using hL,hK⟩
    case round =>
     obtain⟨J,P1,P2,hP12,h2,rfl,hJ,hle,hL,hK⟩:=hrel;rcases Ag P1 with rfl|⟨A,y,rfl⟩
     ·obtain rfl:a=J:=hJ.out
      clear hJ;go_wp2_with fail
      go_quiet (fail)
      go_wp2_with fail
      case' roundEnd =>
       obtain⟨q1,q2,q3,q4,q5⟩:=Ii (key:=cD.a) hxh.out hP.out hR hS hP12.out h2 (by simp)
       refine⟨⟨k+1,K+1,[]++x::P2,by omega,by omega,by have:=hkK.out;show _=_;omega,by go_num,q1,q2,q3,?_,?_⟩,?_⟩
       ·rw[q4];have t:=hL.drewN nq;simpa using t
       ·exact hK.drewN _
       ·simp[intOf];omega
     ·obtain⟨m,hm⟩:∃m,a+A.length=m:=⟨_,rfl⟩
      obtain rfl:J=m+1:=by have:=hJ.out;simp at this;omega
      rw[show((m+1:Nat):Int)=(m:Int)+1 from by simp]
      have hmn2:m+1<n:=by omega
      have hL2:pW wr b off c ((pre++A)++y::x::(P2++R++post)):=by simpa using hL
      have hpl:(pre++A).length+1=m+1:=by have:=hah.out;simp;omega
      have ham:(a:Int)≤(m:Int):=by omega
      have hmh:=Lib.hid hm;clear hm hJ;have hcx:=hL2.cells.line (afD (A:=pre++A) (B:=P2++R++post) (x:=x) (y:=y) hpl)
      have hcy:=hL2.cells.line (afE (A:=pre++A) (B:=P2++R++post) (x:=x) (y:=y) hpl)
      rw[Nat.add_sub_cancel]at hcy;obtain⟨x0,x1⟩:=hcx;obtain⟨y0,y1⟩:=hcy;have hd1:decide ((a:Int)<(m:Int)+1)=true:=decide_eq_true (by omega)
      have hd4:IntKind.i64.wrap ((m:Int)+1-1)=(m:Int):=(IntWalk.i64_in _ (by omega)).trans (by omega)
      have hd10:IntKind.i64.wrap (m:Int)=(m:Int):=IntWalk.i64_in _ (by omega)
      have hd5:(0:Int)≤(m:Int)+1:=by omega
      have hd6:(0:Int)≤(m:Int):=by omega
      have hd7:(m:Int)<(n:Int):=by omega
      have hd8:((m:Int)+1).toNat=m+1:=by omega
      have hd9:(m:Int).toNat=m:=by omega
      have hd3:(a:Int)<(m:Int)+1:=by omega
      have hmnI:(m:Int)+1<(n:Int):=by omega
      have c0:=hL2.Xw;have hclt:=hL2.clt;go_wp2_with fail
      go_region_held3 (fun w'=>pW w' b off c ((pre++A)++y::x::(P2++R++post))∧jG b w w'∧c<w'.heap.size∧w'.cell? ⟨c,0,none⟩=some (.func (.func 136) #[] #[])∧w'.cell? ⟨b,off+(m+1)*2,none⟩=some (.int .i64 x.a)∧w'.cell? ⟨b,off+(m+1)*2+1,none⟩=some (.int .i64 x.n)∧w'.cell? ⟨b,off+m*2,none⟩=some (.int .i64 y.a)∧w'.cell? ⟨b,off+m*2+1,none⟩=some (.int .i64 y.n))
       (first
        |exact⟨hL2.drew,hK.drew,hclt,c0,x0,x1,y0,y1⟩
        |(go_split_ands;rename_i s1 s2 s3 s4 s5 s6 s7 s8;exact⟨s1.below hw2,s2.then hw2 h.lt,Nat.lt_of_lt_of_le s3 hw2.size,(hw2.cell s3).trans s4,(hw2.cell s1.lt).trans s5,(hw2.cell s1.lt).trans s6,(hw2.cell s1.lt).trans s7,(hw2.cell s1.lt).trans s8⟩))
       ((first
        |(go_at_call 185;refine(aid x y c _ (by assumption) (by assumption)).mono ?_;rintro e w2 ⟨rfl,hw2⟩)))
      have hS3:=‹pW _ b off c _∧_›
      clear hL hL2 hK x0 x1 y0 y1 c0 hclt;obtain⟨s1,s2,s3,s4,s5,s6,s7,s8⟩:=hS3;have hf1:=s1.fz (off+(m+1)*2)
      have hf2:=s1.fz (off+(m+1)*2+1)
      have hf3:=s1.fz (off+m*2)
      have hf4:=s1.fz (off+m*2+1)
      by_cases hcmp:x.a<y.a
      ·have hdc:Mu x.a y.a<0:=OZ.2 hcmp
       go_wp2_with fail
       go_region
       all_goals
        go_wp2_with fail
        case' roundEnd =>
         have hl1:m+1<(pre++A++y::x::(P2++R++post)).length:=by simp at hpl ⊢;omega
         have t1:=(s1.set (i:=m+1) hl1 y).set (i:=m) (by rw[List.length_set];omega) x
         have t2:=X3 (A:=pre++A) (B:=P2++R++post) (x:=x) (y:=y) hpl
         rw[Nat.add_sub_cancel]at t2;rw[t2]at t1;have t3:=(s2.Ah (off+(m+1)*2) y).Ah (off+m*2) x
         refine⟨⟨m,A,y::P2,by rw[Hid,hP12.out];simp,ads (P1:=A) h2 hcmp,by go_num,hmh.out,by omega,?_,?_⟩,?_⟩
         ·have t4:=t1.drew;unfold Ah at t4;simpa using t4
         ·have t5:=t3.drew;unfold Ah at t5;exact t5
         ·simp[intOf]
      ·have hdc:¬ Mu x.a y.a<0:=fun h=>hcmp (OZ.1 h)
       go_wp2_with fail
       case' roundEnd =>
        have h1:∀z,z∈A++[y]→z.a≤x.a:=fun z hz=>by
         have:=eJ.last (key:=cD.a) (a:=A) (y:=y) ((eJ.app.1 (show eJ cD.a ((A++[y])++P2)by rw[←hP12.out];exact hR)).1) z hz
         omega
        obtain⟨q1,q2,q3,q4,q5⟩:=Ii (key:=cD.a) hxh.out hP.out hR hS hP12.out h2 h1
        refine⟨⟨k+1,K+1,(A++[y])++x::P2,by omega,by omega,by have:=hkK.out;show _=_;omega,by go_num,q1,q2,q3,?_,?_⟩,?_⟩
        ·rw[q4];exact(show pW w2 b off c _ by simpa using s1)
        ·exact s2
        ·simp[intOf];omega
   ·have hke:K=e:=by omega
    have hge:¬ (K:Int)<(e:Int):=by omega
    go_wp2_with fail
    have hdk:(s0::seg0).drop k=[]:=by have:=heh.out;have:=hkK.out;exact List.drop_eq_nil_of_le (by omega)
    have htk:(s0::seg0).take k=s0::seg0:=by have:=heh.out;have:=hkK.out;exact List.take_of_length_le (by omega)
    rw[htk]at hS;rw[hdk]at hL;exact bodyPost_end (v:=.tuple #[]) (by simp[results,Tryz.results236,go_sem]) rfl ⟨rfl,P,by have:=heh.out;have:=hP.out;have:=hkK.out;simp at *;omega,hR,hS,by simpa using hL,hK⟩
def XK (b off c:Nat) (l:List cD) (w:World) (r:Ending) (w':World):Prop :=
 r=.returned (.tuple #[])∧∃m:List cD,m.length=l.length∧eJ cD.a m∧jI cD.a l m∧pW w' b off c m∧jG b w w'
set_option maxRecDepth 20000 in
set_option maxHeartbeats 2000000 in
theorem IZ (b off c cap:Nat) (l:List cD) (w:World) (h:pW w b off c l) (hn:l.length≤cap) (hm:cap≤maxLen) (h20:l.length≤20) :
  Calls Tryz.prog 216 #[.slice (some ⟨b,off,none⟩) l.length cap,.int .i64 l.length,Gm c] w (XK b off c l w):=by
 unfold Gm;obtain⟨n,hN⟩:∃n,l.length=n:=⟨_,rfl⟩
 rw[hN]at hn h20 ⊢;have hNh:=Lib.hid hN;clear hN;go_enter Tryz.func216,Tryz.ntmps216
 by_cases h20':n=20
 ·subst h20'
  go_wp2_with fail
  refine wp_loop_rounds 2 ?_
  rw[rounds_succ];go_wp2_with fail
  refine(FX b off c cap 0 20 [] l [] w (by simpa using h) 20 (by simpa using hNh.out) hn hm (by omega) rfl (by simp[hNh.out])).mono ?_
  rintro r w1 ⟨rfl,m,hm1,hm2,hm3,hL,hK⟩
  go_wp2_with fail
  rw[rounds_succ];go_wp2_with fail
  refine(FX b off c cap 20 20 ([]++m++[]) [] [] w1 (by simpa using hL) 20 (by simp[hm1,hNh.out]) hn hm (by omega) (by simp[hm1,hNh.out]) rfl).mono ?_
  rintro r w2 ⟨rfl,m2,hm4,-,-,hL2,hK2⟩
  have e2:m2=[]:=List.eq_nil_of_length_eq_zero hm4
  subst e2;go_wp2_with fail
  refine wp_loop_rounds 1 ?_
  rw[rounds_succ];go_wp2_with fail
  exact bodyPost_end (v:=.tuple #[]) (by simp[results,Tryz.results216,go_sem]) rfl ⟨rfl,m,hm1,hm2,hm3,by simpa using hL2,hK.trans hK2⟩
 ·have hlt:n<20:=by omega
  have hge:¬ (20:Int)≤(n:Int):=by omega
  have hge2:¬ (20:Int)<(n:Int):=by omega
  go_wp2_with fail
  refine wp_loop_rounds 1 ?_
  rw[rounds_succ];go_wp2_with fail
  refine(FX b off c cap 0 n [] l [] w (by simpa using h) n (by simpa using hNh.out) hn hm (by omega) rfl (by simp[hNh.out])).mono ?_
  rintro r w1 ⟨rfl,m,hm1,hm2,hm3,hL,hK⟩
  go_wp2_with fail
  refine wp_loop_rounds 1 ?_
  rw[rounds_succ];go_wp2_with fail
  exact bodyPost_end (v:=.tuple #[]) (by simp[results,Tryz.results216,go_sem]) rfl ⟨rfl,m,hm1,hm2,hm3,by simpa using hL,hK⟩
theorem Na (b off c cap:Nat) (l:List cD) (w:World) (h:pW w b off c l) (hn:l.length≤cap) (hm:cap≤maxLen) (h20:l.length≤20) :
  Calls Tryz.prog 184 #[.slice (some ⟨b,off,none⟩) l.length cap,Gm c] w (XK b off c l w):=by
 have hs:=IZ b off c cap l w h hn hm h20;unfold Gm at hs ⊢;go_enter Tryz.func184,Tryz.ntmps184
 go_wp2_with fail
 refine hs.mono ?_
 rintro r w1 ⟨rfl,hp⟩
 go_wp2_with fail
 exact bodyPost_end (v:=.tuple #[]) (by simp[results,Tryz.results184,go_sem]) rfl ⟨rfl,hp⟩
theorem ad6 (b off cap:Nat) (l:List cD) (w:World) (Ep:bD w b off (cZ l)) (hfz:∀i,w.frozen? ⟨b,i,none⟩=false) (hb:b<w.heap.size) (hn:l.length≤cap) (hm:cap≤maxLen) (h20:l.length≤20) :
  Calls Tryz.prog 135 #[.slice (some ⟨b,off,none⟩) l.length cap,.func (.func 136) #[] #[]] w
   fun r w'=>r=.returned (.tuple #[])∧∃m:List cD,m.length=l.length∧eJ cD.a m∧jI cD.a l m∧bD w' b off (cZ m)∧jG b w w':=by
 have hs:=fun(W:World) (h:pW W b off w.heap.size l)=>Na b off w.heap.size cap l W h hn hm h20
 unfold Gm at hs;go_enter Tryz.func135,Tryz.ntmps135
 go_wp2_with fail
 have hb1:Below w.heap.size w (w.alloc (.cells #[.func (.func 136) #[] #[]] 186)):=(Below.refl _ _).alloc (Nat.le_refl _) _
 refine(hs _ ⟨Ep.below hb hb1,fun i=>(hb1.frozen (p:=⟨b,i,none⟩) hb).trans (hfz i),by simp;omega,by simp,by simp,by omega⟩).mono ?_
 rintro r w1 ⟨rfl,m,hm1,hm2,hm3,hL,hK⟩
 go_wp2_with fail
 exact bodyPost_end (v:=.tuple #[]) (by simp[results,Tryz.results135,go_sem]) rfl ⟨rfl,m,hm1,hm2,hm3,hL.cells,(jG.of hb1 hb).trans hK⟩
def xT (a:Int):Bool:=decide (0≤a)&&decide (a<17)
theorem uT {a:Int}:xT a=true↔0≤a∧a<17:=by simp[xT]
theorem ag2 (a:Int) (w:World):Calls Tryz.prog 132 #[.int .i64 a] w fun e w'=>e=.returned (.bool (xT a))∧w=w':=by
 by_cases h0:0≤a
 all_goals
  by_cases h1:a<17
  all_goals
   go_enter Tryz.func132,Tryz.ntmps132
   go_wp2_with fail
   go_ret
   exact⟨iX (by simp[xT,h0,h1]),rfl⟩
theorem ag3 (v:Int) (w:World):Calls Tryz.prog 133 #[.int .i64 v] w fun e w'=>e=.returned (.bool (kE v))∧w=w':=by
 go_enter Tryz.func133,Tryz.ntmps133
 go_wp2
 all_goals (go_ret;exact⟨iX (by simp[kE];try omega),rfl⟩)
structure Pred (F:FuncId) (p:cD→Bool):Prop where
 bU:∀(args:Array Value) (W:World),(callFunc F args).run Tryz.prog W=.ok (.enter F args) W
 ask:∀(x:cD) (W:World),Calls Tryz.prog F #[x.val] W fun e w'=>e=.returned (.bool (p x))∧Below W.heap.size W w'
def nO (x:cD):Bool:=!(xT x.a)||!(kE x.n)
def Hl (x:cD):Bool:=!(xT x.a)||decide (x.n=0)||!(kE x.n)
def jL (x:cD):Bool:=decide (x.n=0)
theorem ae9:Pred 131 nO:=by
 refine⟨fun args W=>by kernel_rfl,fun x W=>?_⟩
 unfold cD.val;cases h1:xT x.a
 all_goals
  cases h2:kE x.n
  all_goals
   go_enter Tryz.func131,Tryz.ntmps131
   go_wp2_with (first|(go_at_call 132;refine(ag2 _ _).mono ?_;rw[h1];rintro e w' ⟨rfl,rfl⟩)|(go_at_call 133;refine(ag3 _ _).mono ?_;rw[h2];rintro e w' ⟨rfl,rfl⟩))
   go_ret
   exact⟨iX (by simp[nO,h1,h2]),blw⟩
theorem TG:Pred 138 jL:=by
 refine⟨fun args W=>by kernel_rfl,fun x W=>?_⟩
 unfold cD.val;go_enter Tryz.func138,Tryz.ntmps138
 go_wp2_with fail
 go_ret
 exact⟨iX (by rw[Bool.eq_iff_iff];simp[jL]),blw⟩
def D5 (p:cD→Bool) (l:List cD):Int:=match l.findIdx? p with|some i=>(i:Int)|none=>-1
theorem abk {l:List cD} {j:Nat} {x:cD} {f:cD→Bool} (hx:l[j]?=some x):(l.take (j+1)).all f=((l.take j).all f&&f x):=by
 rw[List.take_add_one,hx];simp
theorem afC {p:cD→Bool} {l:List cD} {j:Nat} {x:cD} (hx:l[j]?=some x) (hp:p x=true) (ht:(l.take j).all (fun y=>!p y)=true):D5 p l=j:=by
 have:l.findIdx? p=some j:=by
  rw[List.findIdx?_eq_some_iff_getElem];obtain⟨hj,rfl⟩:=List.getElem?_eq_some_iff.1 hx
  refine⟨hj,hp,fun i hi=>?_⟩
  have:=List.all_eq_true.1 ht l[i] (List.mem_take_iff_getElem.2 ⟨i,by omega,rfl⟩)
  simpa using this
 simp[D5,this]
theorem aaH {p:cD→Bool} {l:List cD} (h:l.all (fun y=>!p y)=true):D5 p l=-1:=by
 have:l.findIdx? p=none:=by
  rw[List.findIdx?_eq_none_iff];intro x hx;have:=List.all_eq_true.1 h x hx
  simpa using this
 simp[D5,this]
theorem F4 {F:FuncId} {p:cD→Bool} (hF:Pred F p) (a:Option Addr) (cap:Nat) (l:List cD) (w:World) (h:Row w 2 a l.length cap (cZ l)) :
  Calls Tryz.prog 183 #[.slice a l.length cap,.func (.func F) #[] #[]] w fun e w'=>e=.returned (.int .i64 (D5 p l))∧Below w.heap.size w w':=by
 go_enter Tryz.func183,Tryz.ntmps183
 obtain⟨hl,hcap,hmax,hall,hat⟩:=h;unfold maxLen at hmax;have hent:=hF.bU;have hFh:=Lib.hid hF.ask;clear hF;go_wp2_with fail
 go_loopw [8] (fun i wr=>∃j:Nat,j≤l.length∧i=.int .i64 j∧Hid ((l.take j).all (fun y=>!p y)=true)∧Below w.heap.size w wr) (fun i _=>l.length-(intOf i).toNat)
 case atStart=>exact⟨0,by omega,rfl,rfl,Below.refl _ _⟩
 case round =>
  obtain⟨j,hj,rfl,T,hbel⟩:=hrel;have hsz:=hbel.size;by_cases hlt:j<l.length
  ·obtain⟨b,off,rfl,hb,hc⟩:∃b off,a=some ⟨b,off,none⟩∧b<w.heap.size∧bD w b off (cZ l):=by
    rcases hat with h0|h0
    ·omega
    ·exact h0
   obtain⟨x,hx⟩:∃x,l[j]?=some x:=⟨l[j],by simp[hlt]⟩
   obtain⟨c0,c1⟩:=(hc.below hb hbel).line hx
   have hlt':(j:Int)<(l.length:Int):=by omega
   have hx:=Lib.hid hx;clear hc hat;go_wp2_with fail
   refine(hFh.out x _).mono ?_
   rintro e w1 ⟨rfl,hw1⟩
   cases hp:p x
   ·go_wp2_with fail
    case' roundEnd =>
     refine⟨⟨j+1,hlt,by simp,by rw[Hid,abk hx.out,T.out,hp];rfl,hbel.trans (hw1.mono hsz)⟩,?_⟩
     simp[intOf]
     omega
   ·go_wp2_with fail
    go_ret
    exact⟨pL (afC hx.out hp T.out).symm,hbel.trans (hw1.mono hsz)⟩
  ·have ej:j=l.length:=by omega
   subst ej;have hge:¬ ((l.length:Int)<(l.length:Int)):=by omega
   go_wp2_with fail
   go_ret
   have T:=T.out;rw[List.take_length]at T;exact⟨pL (aaH T).symm,hbel⟩
theorem Hj {F:FuncId} {p:cD→Bool} (hF:Pred F p) (a:Option Addr) (cap:Nat) (l:List cD) (w:World) (h:Row w 2 a l.length cap (cZ l)) :
  Calls Tryz.prog 130 #[.slice a l.length cap,.func (.func F) #[] #[]] w fun e w'=>e=.returned (.bool (l.any p))∧Below w.heap.size w w':=by
 have hi:(decide (0≤D5 p l))=l.any p:=by
  unfold D5;cases he:l.findIdx? p with
  |none =>
   have:=List.findIdx?_eq_none_iff.1 he
   have h2:l.any p=false:=by rw[List.any_eq_false];intro x hx;simpa using this x hx
   rw[h2];rfl
  |some i =>
   obtain⟨hi,hp,-⟩:=List.findIdx?_eq_some_iff_getElem.1 he
   have h2:l.any p=true:=List.any_eq_true.2 ⟨l[i],List.getElem_mem hi,hp⟩
   rw[h2];simp
 have hih:=Lib.hid hi;clear hi;go_enter Tryz.func130,Tryz.ntmps130
 go_wp2_with fail
 refine(F4 hF a cap l _ h).mono ?_
 rintro e w1 ⟨rfl,hw1⟩
 go_wp2_with fail
 go_ret
 exact⟨iX hih.out,hw1⟩
theorem ahX {w:World} {x:cD} {t n:Nat} (hn:n=w.heap.size):bD (w.alloc (.cells #[.int .i64 x.a,.int .i64 x.n] t)) n 0 [x.a,x.n]:=by
 subst hn;exact bD.new w [x.a,x.n] t
def gH (l:List cD):List Int:=l.map (·.n)
theorem jG.setCells {b:Nat} {u:World}:∀(vs:List Value) (o:Nat) (w:World),jG b u w→jG b u (w.setCells b o vs)
 |[],_,_,h=>h
 |v::r,o,w,h=>jG.setCells r (o+1) _ (h.set o v)
theorem bD.clear {w:World} {b off k:Nat} {zs:List Int} {vs:List Value} (h:bD w b off zs) (hk:zs.length≤k):bD (w.setCells b (off+k) vs) b off zs:=by
 intro i hi;rw[World.cell?_setCells_out b vs (off+k) w ⟨b,off+i,none⟩ (fun _ _=>.inl (by simp only;omega))]
 exact h i hi
theorem DY (w:World) (ty:TypeId) (hv:∀w,(zeroValue 44).run Tryz.prog w=.ok (.agg #[.int .i64 0,.int .i64 0]) w) (b o n c:Nat) (hn:0<n)
  (hc:∀j,j<n*2→(w.cell? ⟨b,o+j,none⟩).isSome=true) (hf:∀j,w.frozen? ⟨b,j,none⟩=false) :
  (Builtin.clear_ #[36] ty #[.slice (some ⟨b,o,none⟩) n c]).run Tryz.prog w=.ok (.tuple #[]) (w.setCells b o (List.replicate (n*2) (.int .i64 0))):=by
 have hzc:(Builtin.zeroCells (Value.agg #[.int .i64 0,.int .i64 0]).cells n).toList=List.replicate (n*2) (.int .i64 0):=by
  simp only[Builtin.zeroCells,Value.cells];apply List.ext_getElem
  ·simp
  ·intro i h1 h2
   simp
   rcases Nat.mod_two_eq_zero_or_one i with h|h<;>simp[h]
 have hst:=run_storeCells_cells (P:=Tryz.prog) b o (List.replicate (n*2) (.int .i64 0)) 0 w (by simpa using hc) (by intro j hj;exact hf _) (by intro v hv';rw[List.eq_of_mem_replicate hv'];rfl)
 simp only[Nat.add_zero]at hst;obtain⟨m,rfl⟩:∃m,n=m+1:=⟨n-1,by omega⟩
 have ht:Tryz.prog.underlying 36=some (.slice 44):=by kernel_rfl
 simp[Builtin.clear_,run_underlying ht,hv,hzc,hst]
theorem XN (w:World):(zeroValue 44).run Tryz.prog w=.ok (.agg #[.int .i64 0,.int .i64 0]) w:=by kernel_rfl
theorem OO {l L:List cD} {q:cD→Bool} {i j:Nat} {x:cD} (hx:l[j]?=some x) (ht:L.take i=(l.take j).filter q) (hd:L.drop j=l.drop j) (hij:i<j) (hL:L.length=l.length) :
  (q x=false→L.take i=(l.take (j+1)).filter q∧L.drop (j+1)=l.drop (j+1)) ∧
  (q x=true→(L.set i x).take (i+1)=(l.take (j+1)).filter q∧(L.set i x).drop (j+1)=l.drop (j+1))∧j<l.length:=by
 have hj:j<l.length:=by
  rcases Nat.lt_or_ge j l.length with h|h
  ·exact h
  ·rw[List.getElem?_eq_none h]at hx;cases hx
 have hd':L.drop (j+1)=l.drop (j+1):=by
  have:=congrArg (List.drop 1) hd
  simpa[List.drop_drop,Nat.add_comm]using this
 have hf:(l.take (j+1)).filter q=(l.take j).filter q++[x].filter q:=by rw[List.take_add_one,hx,List.filter_append];rfl
 refine⟨fun h=>⟨by rw[hf,ht];simp[h],hd'⟩,fun h=>⟨?_,?_⟩,hj⟩
 ·rw[hf,←ht,List.take_add_one,List.getElem?_set_self (by omega)]
  simp[h,List.take_set]
  rw[List.set_eq_of_length_le (by simp;omega)]
 ·rw[List.drop_set]
  simp only[hd'];split
  ·rfl
  ·omega
set_option maxRecDepth 20000 in
set_option maxHeartbeats 2000000 in
theorem OU {F:FuncId} {p:cD→Bool} (hF:Pred F p) (b off cap:Nat) (l:List cD) (w:World) (Ep:bD w b off (cZ l)) (hfz:∀i,w.frozen? ⟨b,i,none⟩=false) (hb:b<w.heap.size) (hn:l.length≤cap) (hm:cap≤maxLen) (hA:eN (cZ l)) :
  Calls Tryz.prog 137 #[.slice (some ⟨b,off,none⟩) l.length cap,.func (.func F) #[] #[]] w
   fun e w'=>e=.returned (.slice (some ⟨b,off,none⟩) (l.filter (fun x=>!p x)).length cap)∧bD w' b off (cZ (l.filter (fun x=>!p x)))∧jG b w w':=by
 have hR:Row w 2 (some ⟨b,off,none⟩) l.length cap (cZ l):=⟨qH l,hn,hm,hA,.inr ⟨b,off,rfl,hb,Ep⟩⟩
 have hidx:=F4 hF (some ⟨b,off,none⟩) cap l
 have hFh:=Lib.hid hF.ask;have hent:=hF.bU;clear hF;obtain⟨n,hN⟩:∃n,l.length=n:=⟨_,rfl⟩
 rw[hN]at hn hR hidx ⊢;have hNh:=Lib.hid hN;unfold maxLen at hm;go_enter Tryz.func137,Tryz.ntmps137
 cases hi:l.findIdx? p with
 |none =>
  have hno:D5 p l=-1:=by simp[D5,hi]
  have hall:=List.findIdx?_eq_none_iff.1 hi
  have hfl:l.filter (fun x=>!p x)=l:=List.filter_eq_self.2 fun x hx=>by simp[hall x hx]
  clear hi hN;go_wp2_with fail
  refine(hidx w hR).mono ?_
  rw[hno];rintro e w1 ⟨rfl,hw1⟩
  clear hno;go_wp2_with fail
  go_ret
  rw[hfl];exact⟨by rw[hNh.out];rfl,Ep.below hb hw1,jG.of hw1 hb⟩
 |some k =>
  obtain⟨hk,hpk,hbef⟩:=List.findIdx?_eq_some_iff_getElem.1 hi
  have hno:D5 p l=(k:Int):=by simp[D5,hi]
  have hkn:k<n:=by omega
  have hkI:¬ (k:Int)=-1:=by omega
  have hkB:((k:Int)==-1)=false:=by simp
  have hf0:l.take k=(l.take (k+1)).filter (fun x=>!p x):=by
   rw[List.take_succ_eq_append_getElem hk,List.filter_append];have h1:(l.take k).filter (fun x=>!p x)=l.take k:=List.filter_eq_self.2 fun x hx=>by
    obtain⟨i,hi1,rfl⟩:=List.mem_take_iff_getElem.1 hx;have:=hbef i (by omega)
    simpa using this
   rw[h1];simp[hpk]
  clear hi hbef hN hpk;go_wp2_with fail
  refine(hidx w hR).mono ?_
  rw[hno];rintro e w1 ⟨rfl,hw1⟩
  have hcs1:=Ep.below hb hw1;have hK1:=jG.of hw1 hb;clear hno hidx hR hw1;go_wp2_with fail
  go_loopw [5,6] (fun i j wr=>∃(ki kj:Nat) (L:List cD),i=.int .i64 (ki:Int)∧j=.int .i64 (kj:Int)∧ki<kj∧kj≤n∧Hid (L.length=n)∧Hid (L.take ki=(l.take kj).filter (fun x=>!p x))∧Hid (L.drop kj=l.drop kj)∧bD wr b off (cZ L)∧jG b w wr) (fun _ j _=>n-(intOf j).toNat)
  case atStart=>exact⟨k,k+1,l,rfl,by go_num,by omega,by omega,hNh.out,hf0,rfl,hcs1,hK1⟩
  case round =>
   obtain⟨ki,kj,L,rfl,rfl,hij,hjn,hL,hT,hD,hC,hK⟩:=hrel;have hfz1:∀i,wr.frozen? ⟨b,i,none⟩=false:=fun i=>(hK.OG i).trans (hfz i)
   have hb1:b<wr.heap.size:=Nat.lt_of_lt_of_le hb hK.size
   by_cases hlt:kj<n
   ·have hltI:(kj:Int)<(n:Int):=by omega
    obtain⟨x,hx⟩:∃x,l[kj]?=some x:=⟨l[kj]'(by rw[hNh.out];omega),by simp[hNh.out,hlt]⟩
    have hxL:L[kj]?=some x:=by
     have:=congrArg List.head? hD.out
     rw[List.head?_drop,List.head?_drop,hx]at this;exact this
    obtain⟨f1,f2,-⟩:=OO hx hT.out hD.out hij (by rw[hL.out,hNh.out])
    obtain⟨c0,c1⟩:=hC.line hxL;have hxh:=Lib.hid hx;have f1h:=Lib.hid f1;have f2h:=Lib.hid f2;have hxLh:=Lib.hid hxL;clear hx f1 f2 hxL;go_wp2_with fail
    refine(hFh.out x _).mono ?_
    rintro e w2 ⟨rfl,hw2⟩
    have hC2:=hC.below hb1 (show Below wr.heap.size wr w2 from blw)
    have hK2:=hK.then (show Below wr.heap.size wr w2 from blw) hb
    have v0:w2.cell? ⟨wr.heap.size,0,none⟩=some (.int .i64 x.a):=(hw2.cell (by simp)).trans (by simp)
    have v1:w2.cell? ⟨wr.heap.size,1,none⟩=some (.int .i64 x.n):=(hw2.cell (by simp)).trans (by simp)
    cases hp:p x
    ·have f:=f2h.out (by simp[hp])
     have fh:=Lib.hid f;clear f;have hkiI:(ki:Int)<(n:Int):=by omega
     have g0:=hC2.line (j:=ki) (x:=L[ki]'(by rw[hL.out];omega)) (by simp[hL.out])
     have g1:∀i,w2.frozen? ⟨b,i,none⟩=false:=fun i=>(hK2.OG i).trans (hfz i)
     have hset:=HB hC2 (i:=ki) (by rw[hL.out];omega) x
     have hKs:=hK2.Ah (off+ki*2) x
     obtain⟨g2,g3⟩:=g0;go_wp2_with fail
     case' roundEnd =>
      refine⟨⟨ki+1,kj+1,L.set ki x,by go_num,by go_num,by omega,by omega,by rw[Hid,List.length_set];exact hL.out,fh.out.1,fh.out.2,hset,hKs⟩,?_⟩
      simp[intOf]
      omega
    ·have f:=f1h.out (by simp[hp])
     have fh:=Lib.hid f;clear f;go_wp2_with fail
     case' roundEnd =>
      refine⟨⟨ki,kj+1,L,rfl,by go_num,by omega,by omega,hL,fh.out.1,fh.out.2,hC2,hK2⟩,?_⟩
      simp[intOf]
      omega
   ·have hkj:kj=n:=by omega
    subst hkj;have hge:¬ (kj:Int)<(kj:Int):=by omega
    have hkiI:(ki:Int)≤(kj:Int):=by omega
    have hne:¬ cap=ki:=by omega
    have hkc:ki≤cap:=by omega
    have hkcI:(ki:Int)≤(cap:Int):=by omega
    have hTl:L.take ki=l.filter (fun x=>!p x):=by rw[hT.out,List.take_of_length_le (by rw[hNh.out];omega)]
    have hlen:(l.filter (fun x=>!p x)).length=ki:=by rw[←hTl,List.length_take,hL.out];omega
    have uF:∀ty,(Builtin.clear_ #[36] ty #[.slice (some ⟨b,off+ki*2,none⟩) (kj-ki) (cap-ki)]).run Tryz.prog wr=.ok (.tuple #[]) (wr.setCells b (off+ki*2) (List.replicate ((kj-ki)*2) (.int .i64 0))):=fun ty =>
     DY wr ty XN b (off+ki*2) (kj-ki) (cap-ki) (by omega) (fun j hj=>by rw[show off+ki*2+j=off+(ki*2+j)by omega,hC (ki*2+j) (by rw[qH,hL.out];omega)];rfl) hfz1
    have hCk:bD wr b off (cZ (L.take ki)):=by
     refine bD.NW fun j x hx=>?_
     have hj:j<ki:=by
      rcases Nat.lt_or_ge j ki with h|h
      ·exact h
      ·rw[List.getElem?_eq_none (by rw[List.length_take];omega)]at hx;cases hx
     rw[List.getElem?_take_of_lt hj]at hx;exact hC.line hx
    rw[hTl]at hCk;have hCe:=hCk.clear (k:=ki*2) (vs:=List.replicate ((kj-ki)*2) (.int .i64 0)) (by rw[qH,hlen];omega)
    have hKe:=hK.setCells (List.replicate ((kj-ki)*2) (.int .i64 0)) (off+ki*2)
    have hlh:=Lib.hid hlen;clear hlen hTl;go_wp2_with fail
    go_ret
    exact⟨by rw[hlh.out];rfl,hCe,hKe⟩
def gR (l:List cD) (a:Int):List Int:=gH (l.filter fun x=>x.a==a)
def cM (l:List cD):List cD×Int :=
 if l.any nO then([],1)else if(List.range 17).any (fun(a:Nat)=>decide (cY (gR l (a:Int))≠0))then([],2)else
  (((List.range 17).map fun(a:Nat)=>(⟨(a:Int),cU (gR l (a:Int))⟩:cD)).filter (fun x=>!jL x),0)
def Tb (l:List cD):Prop:=l.Pairwise fun x y=>x.a<y.a
structure oR (P out:List cD):Prop where
 strict:Tb out
 acc:∀a,(∃y,y∈out∧y.a=a)↔∃x,x∈P∧x.a=a
 sum:∀y,y∈out→bS 0 (gR P y.a)=some y.n
 akc:eJ cD.a P
theorem oR.nil:oR [] []:=⟨List.Pairwise.nil,by simp,by simp,eJ.nil⟩
theorem qI (P:List cD) (x:cD) (a:Int):gR (P++[x]) a=if x.a=a then gR P a++[x.n]else gR P a:=by
 unfold gR gH;by_cases h:x.a=a
 ·simp[List.filter_append,h]
 ·simp[List.filter_append,h]
theorem sE (l:List Int) (z n:Int) (h:bS 0 l=some n):bS 0 (l++[z])=if eY n z then some (n+z)else none:=by
 rw[ET,h];rfl
theorem oR.more {P out:List cD} {x:cD} (h:oR P out) (hr:eJ cD.a (P++[x])) (hx:kE x.n=true) (hne:∀A y,out=A++[y]→y.a≠x.a):oR (P++[x]) (out++[x]):=by
 have hle:∀y,y∈out→y.a<x.a:=by
  intro y hy;have hle':∀y,y∈out→y.a≤x.a:=fun y hy=>by
   obtain⟨z,hz,e⟩:=(h.acc y.a).1 ⟨y,hy,rfl⟩
   have:=(eJ.app.1 hr).2.2 z hz x (by simp)
   omega
  rcases Ag out with rfl|⟨A,y',rfl⟩
  ·simp at hy
  ·have h1:=hne A y' rfl
   have h2:=hle' y' (by simp)
   rcases List.mem_append.1 hy with hy|hy
   ·have:=(List.pairwise_append.1 h.strict).2.2 y hy y' (by simp)
    omega
   ·simp at hy;subst hy;omega
 have hno:gR P x.a=[]:=by
  unfold gR gH;rw[List.map_eq_nil_iff,List.filter_eq_nil_iff];intro z hz;simp
  intro e;obtain⟨y,hy,ey⟩:=(h.acc z.a).2 ⟨z,hz,rfl⟩
  have:=hle y hy
  omega
 refine⟨List.pairwise_append.2 ⟨h.strict,by simp,fun y hy z hz=>by simp at hz;subst hz;exact hle y hy⟩,fun a=>?_,fun y hy=>?_,hr⟩
 ·constructor
  ·rintro⟨y,hy,rfl⟩
   rcases List.mem_append.1 hy with hy|hy
   ·obtain⟨z,hz,e⟩:=(h.acc y.a).1 ⟨y,hy,rfl⟩
    exact⟨z,by simp[hz],e⟩
   ·exact⟨y,by simp at hy;simp[hy],rfl⟩
  ·rintro⟨z,hz,rfl⟩
   rcases List.mem_append.1 hz with hz|hz
   ·obtain⟨y,hy,e⟩:=(h.acc z.a).2 ⟨z,hz,rfl⟩
    exact⟨y,by simp[hy],e⟩
   ·exact⟨z,by simp at hz;simp[hz],rfl⟩
 ·rw[qI]
  rcases List.mem_append.1 hy with hy|hy
  ·have:=hle y hy
   rw[if_neg (by omega)]
   exact h.sum y hy
  ·simp at hy
   subst hy;rw[if_pos rfl,hno];have:eY 0 y.n=true:=nY.2 ⟨by decide +kernel,hx,by rw[Int.zero_add];exact hx⟩
   simp[bS,this]
theorem oR.same {P A:List cD} {x y:cD} (h:oR P (A++[y])) (hr:eJ cD.a (P++[x])) (e:y.a=x.a) (ho:eY y.n x.n=true):oR (P++[x]) (A++[⟨y.a,y.n+x.n⟩]):=by
 have hs:=List.pairwise_append.1 h.strict;refine⟨List.pairwise_append.2 ⟨hs.1,by simp,fun z hz u hu=>by simp at hu;subst hu;exact hs.2.2 z hz y (by simp)⟩,fun a=>?_,fun z hz=>?_,hr⟩
 ·have:=h.acc a
  constructor
  ·rintro⟨z,hz,rfl⟩
   have:∃u,u∈P∧u.a=z.a:=this.1 (by
    rcases List.mem_append.1 hz with hz|hz
    ·exact⟨z,by simp[hz],rfl⟩
    ·simp at hz;exact⟨y,by simp,by rw[hz]⟩)
   obtain⟨u,hu,eu⟩:=this;exact⟨u,by simp[hu],eu⟩
  ·rintro⟨z,hz,rfl⟩
   have h2:∃u,u∈A++[y]∧u.a=z.a:=by
    rcases List.mem_append.1 hz with hz|hz
    ·exact this.2 ⟨z,hz,rfl⟩
    ·simp at hz;exact⟨y,by simp,by rw[hz,e]⟩
   obtain⟨u,hu,eu⟩:=h2;rcases List.mem_append.1 hu with hu|hu
   ·exact⟨u,by simp[hu],eu⟩
   ·simp at hu;subst hu;exact⟨⟨u.a,u.n+x.n⟩,by simp,eu⟩
 ·rw[qI]
  rcases List.mem_append.1 hz with hz|hz
  ·have:=hs.2.2 z hz y (by simp)
   rw[if_neg (by omega)]
   exact h.sum z (by simp[hz])
  ·simp at hz
   subst hz;rw[if_pos e.symm];rw[sE _ _ _ (h.sum y (by simp)),ho]
   rfl
theorem oR.stop {P A m:List cD} {x y:cD} {k:Nat} (h:oR P (A++[y])) (e:y.a=x.a) (ho:eY y.n x.n=false) (hP:P=m.take k) (hx:m[k]?=some x):bS 0 (gR m y.a)=none:=by
 have h1:bS 0 (gR (P++[x]) y.a)=none:=by
  rw[qI,if_pos e.symm,sE _ _ _ (h.sum y (by simp)),ho]
  rfl
 have h2:gR m y.a=gR (P++[x]) y.a++gR (m.drop (k+1)) y.a:=by
  have e2:m.take (k+1)=P++[x]:=by rw[List.take_add_one,hx,hP];rfl
  conv=>lhs;rw[←List.take_append_drop (k+1) m,e2]
  unfold gR gH;rw[List.filter_append,List.map_append]
 rw[h2,vL,h1];rfl
theorem EV (l:List Int):∀n s:Int,kE n=true→bS n l=some s→kE s=true:=by
 induction l with
 |nil=>intro n s hn h;simp[bS]at h;subst h;exact hn
 |cons z l ih =>
  intro n s hn h;simp only[bS]at h;split at h
  ·rename_i k;exact ih _ _ (nY.1 k).2.2 h
  ·cases h
theorem zH {l m:List cD} (h:jI cD.a l m) (a:Int):gR m a=gR l a:=by
 unfold gR;rw[h a]
theorem X5 {l:List Int} (h:bS 0 l=none):cY l=2:=by simp[cY,h]
theorem kF {l:List Int} {n:Int} (h:bS 0 l=some n):cU l=n∧cY l=0:=by simp[cU,cY,h]
theorem EW:∀(l m:List cD),Tb l→Tb m→(∀x,x∈l↔x∈m)→l=m
 |[],[],_,_,_=>rfl
 |[],y::m,_,_,h=>absurd ((h y).2 (by simp)) (by simp)
 |x::l,[],_,_,h=>absurd ((h x).1 (by simp)) (by simp)
 |x::l,y::m,hl,hm,h=>by
  have hl':=List.pairwise_cons.1 hl;have hm':=List.pairwise_cons.1 hm;have e:x=y:=by
   rcases List.mem_cons.1 ((h x).1 (by simp))with e|hx
   ·exact e
   ·rcases List.mem_cons.1 ((h y).2 (by simp))with e|hy
    ·exact e.symm
    ·have a:=hm'.1 x hx
     have b:=hl'.1 y hy;omega
  subst e;congr 1
  refine EW l m hl'.2 hm'.2 fun z=>?_
  constructor
  ·intro hz
   rcases List.mem_cons.1 ((h z).1 (by simp[hz]))with e|hz'
   ·subst e;have:=hl'.1 z hz;omega
   ·exact hz'
  ·intro hz
   rcases List.mem_cons.1 ((h z).2 (by simp[hz]))with e|hz'
   ·subst e;have:=hm'.1 z hz;omega
   ·exact hz'
theorem HU {l:List cD} (h:l.any nO=true):cM l=([],1):=by simp[cM,h]
theorem Er {l:List cD} (h:l.any nO=false) {x:cD} (hx:x∈l):0≤x.a∧x.a<17∧kE x.n=true:=by
 have:=List.any_eq_false.1 h x hx
 simp[nO]at this
 exact⟨(uT.1 this.1).1,(uT.1 this.1).2,this.2⟩
theorem HS {l m:List cD} {a:Int} (h:l.any nO=false) (hs:jI cD.a l m) (ha:0≤a∧a<17) (hn:bS 0 (gR m a)=none):cM l=([],2):=by
 have:(List.range 17).any (fun(a:Nat)=>decide (cY (gR l (a:Int))≠0))=true:=by
  refine List.any_eq_true.2 ⟨a.toNat,List.mem_range.2 (by omega),?_⟩
  rw[Int.toNat_of_nonneg ha.1,←zH hs,X5 hn];decide
 simp only[cM,h,this];simp
theorem ach {l m out:List cD} (h:l.any nO=false) (hs:jI cD.a l m) (hA:oR m out):cM l=(out.filter (fun x=>!jL x),0):=by
 have hE:∀a:Nat,cY (gR l a)=0∧((∃y,y∈out∧y.a=(a:Int)∧y.n=cU (gR l a))∨((∀y,y∈out→y.a≠(a:Int))∧cU (gR l a)=0)):=by
  intro a;by_cases he:∃y,y∈out∧y.a=(a:Int)
  ·obtain⟨y,hy,e⟩:=he
   have:=kF (hA.sum y hy)
   rw[e,zH hs]at this;exact⟨this.2,.inl ⟨y,hy,e,this.1.symm⟩⟩
  ·have hno:gR l a=[]:=by
    rw[←zH hs];unfold gR gH;rw[List.map_eq_nil_iff,List.filter_eq_nil_iff];intro z hz;simp
    intro e;exact he ((hA.acc a).2 ⟨z,hz,e⟩)
   rw[hno];exact⟨rfl,.inr ⟨fun y hy e=>he ⟨y,hy,e⟩,rfl⟩⟩
 have:(List.range 17).any (fun(a:Nat)=>decide (cY (gR l (a:Int))≠0))=false:=by
  rw[List.any_eq_false];intro a _;simp[(hE a).1]
 simp only[cM,h,this];simp only[Bool.false_eq_true,if_false,Prod.mk.injEq,and_true];refine EW _ _ ?_ (hA.strict.filter _) fun x=>?_
 ·refine List.Pairwise.filter _ ?_
  rw[List.pairwise_map];refine(List.pairwise_lt_range (n:=17)).imp fun{a b} hab=>?_
  simp only
  omega
 ·simp only[List.mem_filter,List.mem_map,List.mem_range]
  constructor
  ·rintro⟨⟨a,ha,rfl⟩,hz⟩
   rcases(hE a).2 with⟨y,hy,e1,e2⟩|⟨-,e2⟩
   ·refine⟨?_,hz⟩
    obtain⟨ya,yn⟩:=y;simp only at e1 e2
    subst e1;subst e2
    exact hy
   ·simp[jL,e2]at hz
  ·rintro⟨hx,hz⟩
   refine⟨?_,hz⟩
   obtain⟨z,hz2,e⟩:=(hA.acc x.a).1 ⟨x,hx,rfl⟩
   have g:=Er h ((jI.mem hs).1 hz2)
   refine⟨x.a.toNat,by omega,?_⟩
   have en:(x.a.toNat:Int)=x.a:=Int.toNat_of_nonneg (by omega)
   rw[en];have:=kF (hA.sum x hx)
   rw[zH hs]at this;rw[this.1]
def IL (w:World) (base:Nat) (v:Value) (l:List cD):Prop :=
 ∃a cap,v=.slice a l.length cap∧l.length≤cap∧cap≤maxLen∧(l.length=0∨∃b off,a=some ⟨b,off,none⟩∧base≤b∧b<w.heap.size∧bD w b off (cZ l)∧∀i,w.frozen? ⟨b,i,none⟩=false)
theorem IL.nil {w:World} {base:Nat} {a:Option Addr} {cap:Nat} (h:cap≤maxLen):IL w base (.slice a 0 cap) []:=⟨a,cap,rfl,by simp,h,.inl rfl⟩
theorem dJ.full {w:World} {base n:Nat} {e:TypeId} {v:Value} {l:List cD} (h:dJ w base e 2 v n (cZ l)) (h0:0<n) :
  ∃g cap,v=.slice (some ⟨g,0,none⟩) n cap∧base≤g∧g<w.heap.size∧n≤cap∧cap≤maxLen∧bD w g 0 (cZ l)∧∀i,w.frozen? ⟨g,i,none⟩=false:=by
 have hl:=h.len;obtain⟨h1,h2⟩:=id h;rcases h2 with⟨rfl,hn⟩|⟨b,cap,cur,rfl,hb,hh,hn,hc,hs,ht⟩
 ·omega
 ·refine⟨b,cap,rfl,hb,(Array.getElem?_eq_some_iff.1 hh).1,hn,hc,?_,fun i=>World.ownsRow.frozenAt h i⟩
  intro i hi;have c:=World.ownsRow.cellAt (w:=w) (base:=base) (e:=e) (size:=2) (g:=b) (n:=n) (cap:=cap) (xs:=ints (cZ l)) h i (by omega)
  rw[Nat.zero_add,c,uU,List.getElem?_eq_getElem hi,List.getD_eq_getElem?_getD,List.getElem?_eq_getElem hi];rfl
theorem dJ.stored {w:World} {base n g cap:Nat} {e:TypeId} {k:Nat} {zs:List Int} (h:dJ w base e k (.slice (some ⟨g,0,none⟩) n cap) n zs) (j:Nat) (z:Int) :
  dJ (w.setCell ⟨g,j,none⟩ (.int .i64 z)) base e k (.slice (some ⟨g,0,none⟩) n cap) n (zs.set j z):=by
 have:=(World.ownsRow.stored h j (.int .i64 z)).1
 unfold dJ;rw[show ints (zs.set j z)=(ints zs).set j (.int .i64 z)by simp[ints,List.map_set]]
 exact this
theorem qX (l:List cD) (x:cD):cZ (l++[x])=cZ l++[x.a,x.n]:=by simp[cZ]
theorem SB (A:List cD) (y:cD) (z:Int):(cZ (A++[y])).set (A.length*2+1) z=cZ (A++[⟨y.a,z⟩]):=by
 rw[qX,qX,List.set_append];have:=qH A
 rw[if_neg (by omega),this]
 simp
section
variable (a:Option Addr) (cap:Nat) (w:World)
theorem adr (hm:cap≤maxLen) (F:Value):Calls Tryz.prog 236 #[.slice a 0 cap,.int .i64 0,.int .i64 0,F] w fun r w'=>r=.returned (.tuple #[])∧w=w':=by
 go_enter Tryz.func236,Tryz.ntmps236
 go_wp2_with fail
 refine wp_loop_rounds 1 ?_
 rw[rounds_succ];go_wp2_with fail
 exact bodyPost_end (v:=.tuple #[]) (by simp[results,Tryz.results236,go_sem]) rfl ⟨rfl,rfl⟩
theorem M9 (hm:cap≤maxLen) (F:Value):Calls Tryz.prog 216 #[.slice a 0 cap,.int .i64 0,F] w fun r w'=>r=.returned (.tuple #[])∧w=w':=by
 go_enter Tryz.func216,Tryz.ntmps216
 go_wp2_with fail
 refine wp_loop_rounds 1 ?_
 rw[rounds_succ];go_wp2_with fail
 refine(adr a cap _ hm F).mono ?_
 rintro r w1 ⟨rfl,rfl⟩
 go_wp2_with fail
 refine wp_loop_rounds 1 ?_
 rw[rounds_succ];go_wp2_with fail
 exact bodyPost_end (v:=.tuple #[]) (by simp[results,Tryz.results216,go_sem]) rfl ⟨rfl,rfl⟩
theorem aaK (hm:cap≤maxLen) (F:Value):Calls Tryz.prog 184 #[.slice a 0 cap,F] w fun r w'=>r=.returned (.tuple #[])∧w=w':=by
 go_enter Tryz.func184,Tryz.ntmps184
 go_wp2_with fail
 refine(M9 a cap _ hm F).mono ?_
 rintro r w1 ⟨rfl,rfl⟩
 go_wp2_with fail
 exact bodyPost_end (v:=.tuple #[]) (by simp[results,Tryz.results184,go_sem]) rfl ⟨rfl,rfl⟩
theorem afU (hm:cap≤maxLen):Calls Tryz.prog 135 #[.slice a 0 cap,.func (.func 136) #[] #[]] w fun r w'=>r=.returned (.tuple #[])∧Below w.heap.size w w':=by
 go_enter Tryz.func135,Tryz.ntmps135
 go_wp2_with fail
 refine(aaK a cap _ hm _).mono ?_
 rintro r w1 ⟨rfl,rfl⟩
 go_wp2_with fail
 exact bodyPost_end (v:=.tuple #[]) (by simp[results,Tryz.results135,go_sem]) rfl ⟨rfl,(Below.refl _ _).alloc (Nat.le_refl _) _⟩
end
theorem SI {F:FuncId} {p:cD→Bool} (hF:Pred F p) (w:World) :
  Calls Tryz.prog 137 #[.slice none 0 0,.func (.func F) #[] #[]] w fun e w'=>e=.returned (.slice none 0 0)∧Below w.heap.size w w':=by
 have hidx:=F4 hF none 0 []
 go_enter Tryz.func137,Tryz.ntmps137
 clear hF;go_wp2_with fail
 refine(hidx w (Row.nil _ _)).mono ?_
 rw[show D5 p []=-1 from rfl]
 rintro e w1 ⟨rfl,hw1⟩
 go_wp2_with fail
 go_ret
 exact⟨rfl,hw1⟩
section
variable {P:Program} {f:FuncId} {args:Array Value} {w:World} {v:Value}
theorem nA {a n:Nat} (h:Calls P f args (w.drewN (a+n)) fun e w'=>e=.returned v∧w.drewN (a+n)=w') :
  Calls P f args (w.drewN (a+n)) fun e w''=>e=.returned v∧∃m,w''=w.drewN (a+m):=h.mono fun _ _ ⟨he,hm⟩=>⟨he,n,hm.symm⟩
theorem vX {n:Nat} (h:Calls P f args (w.drewN n) fun e w'=>e=.returned v∧w.drewN n=w'):Calls P f args (w.drewN n) fun e w''=>e=.returned v∧∃m,w''=w.drewN m:=h.mono fun _ _ ⟨he,hm⟩=>⟨he,n,hm.symm⟩
end
theorem aeh {x y:Int} (h:eY x y=true) (w:World):Calls Tryz.prog 37 #[.int .i64 x,.int .i64 y] w fun e w'=>e=.returned (.tuple #[.int .i64 (x+y),.int .i64 0])∧w=w':=by
 have:=yV x y w
 rw[(tW h).1,(tW h).2]at this;exact this
theorem aei {x y:Int} (h:eY x y=false) (w:World):Calls Tryz.prog 37 #[.int .i64 x,.int .i64 y] w fun e w'=>e=.returned (.tuple #[.int .i64 0,.int .i64 2])∧w=w':=by
 have:=yV x y w
 rw[(jV h).1,(jV h).2]at this;exact this
def aj0 (w:World) (r:List cD×Int) (e:Ending) (w':World):Prop:=∃v,e=.returned (.tuple #[v,.int .i64 r.2])∧IL w' w.heap.size v r.1∧Below w.heap.size w w'
set_option maxRecDepth 20000 in
set_option maxHeartbeats 4000000 in
theorem XV (a:Option Addr) (cap:Nat) (l:List cD) (w:World) (h:Row w 2 a l.length cap (cZ l)) (h20:l.length≤20) :
  Calls Tryz.prog 77 #[.slice a l.length cap] w (aj0 w (cM l)):=by
 have hall:=h.all;generalize hr:cM l=r
 have hrh:=Lib.hid hr;clear hr;go_enter Tryz.func77,Tryz.ntmps77
 go_wp2_with fail
 refine(Hj ae9 a cap l _ h).mono ?_
 rintro e w1 ⟨rfl,hw1⟩
 have h1:=h.below hw1;cases hbad:l.any nO
 ·clear h
  go_wp2_with fail
  refine(Ti a l.length cap (cZ l) _ h1 (by omega)).mono ?_
  rintro e w2 ⟨⟨v2,rfl,O2⟩,hw2⟩
  have hbel2:Below w.heap.size w w2:=blw
  by_cases h0:l=[]
  ·subst h0
   have hr:r=([],0):=by rw[←hrh.out];rfl
   subst hr;obtain⟨a2,c2,rfl,R2⟩:=O2.row (by intro z hz;simp[cZ]at hz)
   clear hrh h1 hw1 hw2 O2 hall;go_wp2_with fail
   refine(afU a2 c2 w2 R2.max).mono ?_
   rintro e w3 ⟨rfl,hw3⟩
   go_wp2_with fail
   refine wp_loop_rounds 1 ?_
   rw[rounds_succ];go_wp2_with fail
   refine(SI TG w3).mono ?_
   rintro e w4 ⟨rfl,hw4⟩
   go_wp2_with fail
   go_ret2
   exact⟨_,rfl,IL.nil (by unfold maxLen;omega),blw⟩
  ·have hpos:0<l.length:=List.length_pos_iff.2 h0
   obtain⟨b,c2,rfl,hbB,hb,hnc,hcm,Ep,hfz⟩:=O2.full hpos;clear O2 h1;go_wp2_with fail
   refine(ad6 b 0 c2 l w2 Ep hfz hb hnc hcm h20).mono ?_
   rintro e w3 ⟨rfl,m,AO,hmr,hms,hmc,hK⟩
   have hgood:∀x,x∈m→0≤x.a∧x.a<17∧kE x.n=true:=fun x hx=>Er hbad ((jI.mem hms).1 hx)
   have hbel3:Below w.heap.size w w3:=hbel2.trans (hK.below hbel2.size (Nat.le_trans hw1.size hbB))
   have hb3:b<w3.heap.size:=Nat.lt_of_lt_of_le hb hK.size
   have hall2:=Lib.hid hgood;have hsz3:=hbel3.size;have hmlh:=Lib.hid AO;have hmrh:=Lib.hid hmr;obtain⟨n,hN⟩:∃n,l.length=n:=⟨_,rfl⟩
   rw[hN]at hnc hpos h20 ⊢;have hNh:=Lib.hid hN;clear hgood hw1 hw2 Ep hfz hK AO hmr hN h0;go_wp2_with fail
   go_loopw [5,19] (fun o i wr=>∃(j:Nat) (out:List cD),j≤n∧i=.int .i64 j∧dJ wr w3.heap.size 44 2 o out.length (cZ out)∧Hid (oR (m.take j) out)∧out.length≤j∧Below w3.heap.size w3 wr) (fun _ i _=>n-(intOf i).toNat)
   case atStart=>exact⟨0,[],by omega,rfl,dJ.nil _ _ _ _,oR.nil,by simp,Below.refl _ _⟩
   case round =>
    obtain⟨j,out,hj,rfl,O,hAd,hol,hbel⟩:=hrel;have hszr:=hbel.size;by_cases hlt:j<n
    ·have hltI:(j:Int)<(n:Int):=by omega
     obtain⟨x,hx⟩:∃x,m[j]?=some x:=⟨m[j]'(by rw[hmlh.out,hNh.out];omega),by simp[hmlh.out,hNh.out,hlt]⟩
     obtain⟨c0,c1⟩:=(hmc.below hb3 hbel).line hx
     rw[Nat.zero_add]at c0 c1;have htk:m.take (j+1)=m.take j++[x]:=by rw[List.take_add_one,hx];rfl
     have hrise:eJ cD.a (m.take j++[x]):=by rw[←htk];exact List.Pairwise.take hmrh.out
     have hxg:=hall2.out x (List.mem_of_getElem? hx)
     have hxh:=Lib.hid hx;have htkh:=Lib.hid htk;have hriseh:=Lib.hid hrise;have hxgh:=Lib.hid hxg;clear hx htk hrise hxg;rcases Ag out with rfl|⟨A,y,rfl⟩
     ·obtain⟨a5,c5,rfl,R5⟩:=O.row (by intro z hz;simp[cZ]at hz)
      clear R5;go_wp2_with fail
      go_quiet (fail)
      go_wp2_with (at_builtin;refine kM _ rfl _ _ 36 rfl w3.heap.size 44 2 zC _ 0 (cZ []) rfl (O.below blw) (wr.heap.size+1) 0 1 [x.a,x.n] rfl rfl (ahX (x:=x) (by simp)) ?c1 ?c2 ?_)
      case c1=>omega
      case c2=>simp;omega
      ·intro v' w4 hown' hb1
       have hA2:oR (m.take (j+1)) ([]++[x]):=by rw[htkh.out];exact hAd.out.more hriseh.out hxgh.out.2.2 (by simp)
       have hA2h:=Lib.hid hA2;have hs1:Below w3.heap.size w3 w4:=Below.trans blw hb1
       clear O hb1 hA2;go_wp2
       go_roundw
       case rel=>exact⟨j+1,[]++[x],by omega,by go_num,by rw[qX];exact hown',hA2h.out,by simp,hs1⟩
       case measure=>simp[intOf];omega
     ·obtain⟨g,c5,rfl,hgB,hgl,hnc5,hcm5,hgc,hgf⟩:=O.full (by simp)
      have hgy:=hgc.line (j:=A.length) (x:=y) (by simp)
      rw[Nat.zero_add]at hgy;obtain⟨q,hq⟩:∃q,A.length=q:=⟨_,rfl⟩
      have hlen:(A++[y]).length=q+1:=by simp;omega
      rw[hq]at hgy;obtain⟨y0,y1⟩:=hgy;have hgf1:=hgf (q*2+1)
      have hq1:(0:Int)≤(q:Int):=by omega
      have hq2:IntKind.i64.wrap ((q:Int)+1-1)=(q:Int):=(IntWalk.i64_in _ (by omega)).trans (by omega)
      have hq3:IntKind.i64.wrap (q:Int)=(q:Int):=IntWalk.i64_in _ (by omega)
      have hq4:(q:Int)<(q:Int)+1:=by omega
      have hq5:decide ((0:Int)≤(q:Int))=true:=decide_eq_true hq1
      have hgl1:g<wr.heap.size+1:=by omega
      have hlenh:=Lib.hid hlen;have hqh:=Lib.hid hq;have hq6:(q:Int)≤20:=by omega
      rw[hlen]at O ⊢;clear hlen hq hgc hgf;by_cases hya:y.a=x.a
      ·have hb1:(y.a==x.a)=true:=by simpa using hya
       have hb2:decide (y.a=x.a)=true:=by simpa using hya
       have hyah:=Lib.hid hya;clear hya;cases hok:eY y.n x.n
       ·have hr:r=([],2):=by
         rw[←hrh.out];have g:=hxgh.out;have e:=hyah.out;exact HS (a:=y.a) hbad hms (by omega) (hAd.out.stop e hok rfl hxh.out)
        subst hr;clear hrh;go_wp2_with fail
        go_quiet (fail)
        go_wp2_with fail
        go_quiet ((go_at_call 37;first|exact nA (aei hok _)|exact vX (aei hok _)))
        go_wp2_with fail
        go_ret2
        exact⟨_,rfl,IL.nil (by unfold maxLen;omega),Below.trans hbel3 (Below.mono blw hsz3)⟩
       ·have hbd:=rQ hok
        go_wp2_with fail
        go_quiet (fail)
        go_wp2_with fail
        go_quiet ((go_at_call 37;first|exact nA (aeh hok _)|exact vX (aeh hok _)))
        go_wp2_with fail
        case' roundEnd =>
         have hA2:Hid (oR (m.take (j+1)) (A++[⟨y.a,y.n+x.n⟩])):=by rw[Hid];rw[htkh.out];exact hAd.out.same hriseh.out hyah.out hok
         have O2:∀K,dJ _ _ _ _ _ _ _:=fun K=>(O.below (w':=(wr.alloc (.cells #[.int .i64 x.a,.int .i64 x.n] 44)).drewN K) blw).stored (q*2+1) (y.n+x.n)
         have hfl:(cZ (A++[y])).set (q*2+1) (y.n+x.n)=cZ (A++[⟨y.a,y.n+x.n⟩]):=by rw[←hqh.out];exact SB A y _
         rw[hfl]at O2;have hs1:∀K,Below w3.heap.size w3 (((wr.alloc (.cells #[.int .i64 x.a,.int .i64 x.n] 44)).drewN K).setCell ⟨g,q*2+1,none⟩ (.int .i64 (y.n+x.n))):=fun K=>Below.setCell blw (p:=⟨g,q*2+1,none⟩) hgB _
         refine⟨⟨j+1,A++[⟨y.a,y.n+x.n⟩],by omega,by go_num,?_,hA2,by simp;have:=hqh.out;have:=hlenh.out;simp at hol;omega,hs1 _⟩,?_⟩
         ·have hl2:(A++[(⟨y.a,y.n+x.n⟩:cD)]).length=q+1:=by simp;exact hqh.out
          rw[hl2];exact O2 _
         ·simp[intOf];omega
      ·have hb1:(y.a==x.a)=false:=by simpa using hya
       have hb2:decide (y.a=x.a)=false:=by simpa using hya
       have hA2:oR (m.take (j+1)) ((A++[y])++[x]):=by
        rw[htkh.out];refine hAd.out.more hriseh.out hxgh.out.2.2 fun A' y' e=>?_
        have:=List.append_inj' e rfl
        simp at this
        rw[←this.2];exact hya
       have hA2h:=Lib.hid hA2;clear hA2;go_wp2_with fail
       go_quiet (fail)
       go_wp2_with (at_builtin;refine kM _ rfl _ _ 36 rfl w3.heap.size 44 2 zC _ (q+1) (cZ (A++[y])) rfl (O.below blw) (wr.heap.size+1) 0 1 [x.a,x.n] rfl rfl (ahX (x:=x) (by simp)) ?c1 ?c2 ?_)
       case c1=>omega
       case c2=>simp;omega
       ·intro v' w4 hown' hb1
        have hs1:Below w3.heap.size w3 w4:=Below.trans blw hb1
        have hl2:((A++[y])++[x]).length=q+1+1:=by simp;have:=hqh.out;omega
        have hl2h:=Lib.hid hl2;clear O hb1 hl2;go_wp2
        go_roundw
        case rel=>exact⟨j+1,(A++[y])++[x],by omega,by go_num,by rw[hl2h.out,qX];exact hown',hA2h.out,by rw[hl2h.out];have:=hlenh.out;omega,hs1⟩
        case measure=>simp[intOf];omega
    ·have ej:j=n:=by omega
     subst ej;have hge:¬ (j:Int)<(j:Int):=by omega
     have hAm:oR m out:=by have:=hAd.out;rwa[List.take_of_length_le (by rw[hmlh.out,hNh.out];omega)]at this
     have hout:out≠[]:=by
      intro e;obtain⟨x,hx⟩:∃x,x∈m:=⟨m[0]'(by rw[hmlh.out,hNh.out];omega),List.getElem_mem _⟩
      obtain⟨y,hy,-⟩:=(hAm.acc x.a).2 ⟨x,hx,rfl⟩
      rw[e]at hy;simp at hy
     obtain⟨g,c5,rfl,hgB,hgl,hnc5,hcm5,hgc,hgf⟩:=O.full (List.length_pos_iff.2 hout)
     have hr:r=(out.filter (fun x=>!jL x),0):=by rw[←hrh.out];exact ach hbad hms hAm
     have hAo:eN (cZ out):=F7 fun y hy=>by
      obtain⟨x,hx,e⟩:=(hAm.acc y.a).1 ⟨y,hy,rfl⟩
      have g:=hall2.out x hx;have s:=EV _ 0 y.n (by decide +kernel) (hAm.sum y hy)
      have s:=dW.1 s;exact⟨⟨by omega,by omega⟩,⟨by omega,by omega⟩⟩
     subst hr;have hd:=OU TG g 0 c5 out wr hgc hgf hgl hnc5 hcm5 hAo;clear hrh hAm O hgc hAd;go_wp2_with fail
     refine hd.mono ?_
     rintro e w5 ⟨rfl,hC5,hK5⟩
     go_wp2_with fail
     go_ret2
     refine⟨_,rfl,⟨_,c5,rfl,Nat.le_trans (List.length_filter_le _ _) hnc5,hcm5,.inr ⟨g,0,rfl,Nat.le_trans hsz3 hgB,Nat.lt_of_lt_of_le hgl hK5.size,hC5,fun i=>(hK5.OG i).trans (hgf i)⟩⟩,?_⟩
     exact hbel3.trans ((hbel.trans (hK5.below hszr hgB)).mono hsz3)
 ·have hr:r=([],1):=by rw[←hrh.out];exact HU hbad
  subst hr;clear hrh;go_wp2_with fail
  go_ret2
  exact⟨_,rfl,IL.nil (by unfold maxLen;omega),hw1⟩
end
section
def nL (l:List cD):Bool:=decide (1≤l.length)&&decide (l.length≤12)&&!(l.any Hl)&&decide (cU (gH l)=0)&&decide (cY (gH l)=0)
theorem IX (l:List Int):-288230376151711744≤cU l∧cU l≤288230376151711744:=by
 unfold cU;cases h:bS 0 l with
 |none=>exact⟨by simp,by simp⟩
 |some s=>exact dW.1 (EV l 0 s (by decide +kernel) h)
theorem HV (l:List cD):∀x,x∈(cM l).1→0≤x.a∧x.a<17∧-288230376151711744≤x.n∧x.n≤288230376151711744:=by
 intro x hx;unfold cM at hx;split at hx
 ·simp at hx
 ·split at hx
  ·simp at hx
  ·obtain⟨hx,-⟩:=List.mem_filter.1 hx
   obtain⟨a,ha,rfl⟩:=List.mem_map.1 hx;have:=IX (gR l (a:Int))
   have:=List.mem_range.1 ha
   exact⟨by simp only;omega,by simp only;omega,by simp only;omega,by simp only;omega⟩
theorem Ll (l:List cD):eN (cZ (cM l).1):=F7 fun x hx=>by
 have:=HV l x hx
 exact⟨⟨by omega,by omega⟩,⟨by omega,by omega⟩⟩
theorem bD.put {w:World} {b off:Nat} {zs:List Int} (h:bD w b off zs) {j:Nat} (hj:j<zs.length) (z:Int):bD (w.setCell ⟨b,off+j,none⟩ (.int .i64 z)) b off (zs.set j z):=by
 intro i hi;rw[List.length_set]at hi;have k:=h i hi;by_cases e:i=j
 ·subst e
  rw[World.cell?_setCell_same _ _ _ k,List.getD_eq_getElem?_getD,List.getElem?_set_self hi];rfl
 ·rw[World.cell?_setCell_other _ _ _ _ (by intro e2;injection e2;omega),k,List.getD_eq_getElem?_getD,List.getD_eq_getElem?_getD,List.getElem?_set_ne (fun e2=>e e2.symm)]
def gP:List Int→List cD→Option (List Int)
 |dC,[]=>some dC
 |dC,x::m=>if eY (dC.getD x.a.toNat 0) x.n then gP (dC.set x.a.toNat (dC.getD x.a.toNat 0+x.n)) m else none
theorem GA:∀(m:List cD) (dC next:List Int),gP dC m=some next→next.length=dC.length
 |[],dC,next,h=>by simp[gP]at h;rw[h]
 |x::m,dC,next,h=>by
  simp only[gP]at h;split at h
  ·have:=GA m _ _ h
   simpa using this
  ·cases h
theorem DQ:∀(m:List cD) (dC:List Int) (x:cD),gP dC (m++[x])=(gP dC m).bind fun next=>if eY (next.getD x.a.toNat 0) x.n then some (next.set x.a.toNat (next.getD x.a.toNat 0+x.n))else none
 |[],dC,x=>by simp[gP]
 |y::m,dC,x=>by
  simp only[List.cons_append,gP];split
  ·exact DQ m _ x
  ·rfl
def HQ (dC:List Int) (l:List cD):Int:=if(cM l).2≠0∨(0<(cM l).1.length∧nL (cM l).1=false)then 10 else match gP dC (cM l).1 with|some _=>0|none=>2
def TK (dC:List Int) (l:List cD):List Int:=(gP dC (cM l).1).getD dC
theorem dJ.agR {w:World} {base n:Nat} {e:TypeId} {v:Value} {zs:List Int} (h:dJ w base e 1 v n zs) (h0:0<n) :
  ∃g cap,v=.slice (some ⟨g,0,none⟩) n cap∧base≤g∧g<w.heap.size∧n≤cap∧cap≤maxLen∧bD w g 0 zs∧∀i,w.frozen? ⟨g,i,none⟩=false:=by
 have hl:=h.len;obtain⟨h1,h2⟩:=id h;rcases h2 with⟨rfl,hn⟩|⟨b,cap,cur,rfl,hb,hh,hn,hc,hs,ht⟩
 ·omega
 ·refine⟨b,cap,rfl,hb,(Array.getElem?_eq_some_iff.1 hh).1,hn,hc,?_,fun i=>World.ownsRow.frozenAt h i⟩
  intro i hi;have c:=World.ownsRow.cellAt (w:=w) (base:=base) (e:=e) (size:=1) (g:=b) (n:=n) (cap:=cap) (xs:=ints zs) h i (by omega)
  rw[Nat.zero_add,c,uU,List.getElem?_eq_getElem hi,List.getD_eq_getElem?_getD,List.getElem?_eq_getElem hi];rfl
def qP (dC:List Int) (l:List cD):List Int×Int:=if HQ dC l=0 then(TK dC l,0)else(dC,HQ dC l)
abbrev kY (f:Int):Prop:=0≤f∧f≤20
theorem Ap (l:List cD):kY (cM l).2∧((cM l).2≠0→(cM l).1=[]):=by
 unfold cM;split
 ·exact⟨⟨by simp,by simp⟩,fun _=>rfl⟩
 ·split
  ·exact⟨⟨by simp,by simp⟩,fun _=>rfl⟩
  ·exact⟨⟨by simp,by simp⟩,fun h=>absurd rfl h⟩
theorem HR (l:List cD):(cM l).1.length≤17:=by
 unfold cM;split
 ·simp
 ·split
  ·simp
  ·exact Nat.le_trans (List.length_filter_le _ _) (by simp)
end
section
open Mc
theorem pO {vs:Array Value} {x:AV} (h:vs.size=[x].length):vs=#[vs.getD 0 Go.undef]:=by
 have h:vs.size=1:=h
 apply Array.ext
 ·simp[h]
 ·intro i h1 h2
  have:i=0:=by omega
  subst this;simp[h1]
theorem EM {vs:Array Value} {x y:AV} (h:vs.size=[x,y].length):vs=#[vs.getD 0 Go.undef,vs.getD 1 Go.undef]:=by
 have h:vs.size=2:=h
 apply Array.ext
 ·simp[h]
 ·intro i h1 h2
  rcases(by omega:i=0∨i=1)with rfl|rfl<;>simp[h]
theorem kC {A:Nat→Prop} {w:World} {x y:AV} {v u:Value} (h:@dG dI dN A w x v) (g:@dG dI dN A w y u):@dG dI dN A w (.aZ [x,y]) (.tuple #[v,u]):=by
 refine @dG.aZ dI dN A w [x,y] #[v,u] rfl ?_
 intro i z hz;match i,hz with
 |0,hz=>cases hz;exact h
 |1,hz=>cases hz;exact g
theorem ab6 {A:Nat→Prop} {w:World} {x y z:AV} {v u t:Value} (h:@dG dI dN A w x v) (g:@dG dI dN A w y u) (k:@dG dI dN A w z t):@dG dI dN A w (.aZ [x,y,z]) (.tuple #[v,u,t]):=by
 refine @dG.aZ dI dN A w [x,y,z] #[v,u,t] rfl ?_
 intro i z hz;match i,hz with
 |0,hz=>cases hz;exact h
 |1,hz=>cases hz;exact g
 |2,hz=>cases hz;exact k
theorem mZ {A:Nat→Prop} {w:World} {v:Int}:@dG dI dN A w (.i v) (.int .i64 v):=@dG.c dI dN A w _
theorem aaj {A:Nat→Prop} {w:World} {v:Int} {u:Value} (h:@dG dI dN A w (.i v) u):u=.int .i64 v:=by cases h;rfl
theorem Lh {A:Nat→Prop} {w:World} (x:bB):@dG dI dN A w x.av x.val:=by
 unfold bB.av bB.val;refine @dG.agg dI dN A w _ _ rfl ?_ ?_
 ·intro i y hy
  match i,hy with
  |0,hy=>cases hy;rfl
  |1,hy=>cases hy;rfl
  |2,hy=>cases hy;rfl
 ·intro i y hy
  match i,hy with
  |0,hy=>cases hy;exact mZ
  |1,hy=>cases hy;exact mZ
  |2,hy=>cases hy;exact mZ
theorem Mv (x:bB):Cl x.av:=.agg _ (wJ _)
theorem BB {A:Nat→Prop} {w:World} {l:List bB} {v:Value} (h:@dG dI dN A w (.lit 3 (aO l)) v) (hI:eN (flat l)):∃a cap,v=.slice a l.length cap∧Row w 3 a l.length cap (flat l):=by
 rw[Ot]at h;obtain⟨a,cap,rfl,R⟩:=Al h (by rw[Sz];exact hI) (by intro r hr;obtain⟨x,-,rfl⟩:=List.mem_map.1 hr;rfl)
 rw[Sz,List.length_map]at R;exact⟨a,cap,by rw[List.length_map],R⟩
theorem L9 {A:Nat→Prop} {w:World} {l:List cD} {v:Value} (h:@dG dI dN A w (.lit 2 (bR l)) v) (hI:eN (cZ l)):∃a cap,v=.slice a l.length cap∧Row w 2 a l.length cap (cZ l):=by
 rw[Ok]at h;obtain⟨a,cap,rfl,R⟩:=Al h (by rw[Mm];exact hI) (by intro r hr;obtain⟨x,-,rfl⟩:=List.mem_map.1 hr;rfl)
 rw[Mm,List.length_map]at R;exact⟨a,cap,by rw[List.length_map],R⟩
theorem FU {A:Nat→Prop} {w w':World} {l:List cD} {a:Option Addr} {cap:Nat} (hA:∀b,A b→b<w.heap.size) (hc:l.length≤cap) (hm:cap≤maxLen) (h:l.length=0∨∃b off,a=some ⟨b,off,none⟩∧w.heap.size≤b∧b<w'.heap.size∧bD w' b off (cZ l)) :
  @dG dI dN A w' (.lit 2 (bR l)) (.slice a l.length cap):=by
 rw[Ok];have hl:(l.map cD.r).length=l.length:=by simp
 rw[←hl]at hc ⊢;refine vW (by intro r hr;obtain⟨x,-,rfl⟩:=List.mem_map.1 hr;rfl) hc hm ?_
 rw[hl,Mm];exact h.imp id fun⟨b,off,h1,h2,h3,h4⟩=>⟨b,off,h1,fun hb=>by have:=hA b hb;omega,h3,h4⟩
theorem Eo {A:Nat→Prop} {w:World} {l:List Int} {v:Value} (h:@dG dI dN A w (.lit 1 (aA l)) v) (hI:eN l):∃a cap,v=.slice a l.length cap∧Row w 1 a l.length cap l:=by
 rw[FW]at h;obtain⟨a,cap,rfl,R⟩:=Al h (by rw[Ew];exact hI) (by intro r hr;obtain⟨x,-,rfl⟩:=List.mem_map.1 hr;rfl)
 rw[Ew,List.length_map]at R;exact⟨a,cap,by rw[List.length_map],R⟩
theorem Ow {A:Nat→Prop} {w w':World} {l:List Int} {a:Option Addr} {cap:Nat} (hA:∀b,A b→b<w.heap.size) (hc:l.length≤cap) (hm:cap≤maxLen) (h:l.length=0∨∃b off,a=some ⟨b,off,none⟩∧w.heap.size≤b∧b<w'.heap.size∧bD w' b off l) :
  @dG dI dN A w' (.lit 1 (aA l)) (.slice a l.length cap):=by
 rw[FW];have hl:(l.map fun v=>[v]).length=l.length:=by simp
 rw[←hl]at hc ⊢;refine vW (by intro r hr;obtain⟨x,-,rfl⟩:=List.mem_map.1 hr;rfl) hc hm ?_
 rw[hl,Ew];exact h.imp id fun⟨b,off,h1,h2,h3,h4⟩=>⟨b,off,h1,fun hb=>by have:=hA b hb;omega,h3,h4⟩
theorem ad5 (l:List cD) (hI:eN (cZ l)) (h20:l.length≤20):CK Tryz.prog 77 [.lit 2 (bR l)] (.aZ [.lit 2 (bR (cM l).1),.i (cM l).2]):=by
 refine⟨aX (zE _).lit eM,.aZ _ (aX (zE _).lit (aX (.c _) eM)),?_⟩
 intro A w vs hA hG hl hv;have hvs:=pO hl;generalize vs.getD 0 Go.undef=v0 at hvs
 subst hvs;obtain⟨a,cap,rfl,R⟩:=L9 (hv 0 _ rfl) hI
 refine(XV a cap l w R h20).mono ?_
 rintro e w' ⟨v,rfl,⟨a',cap',rfl,k1,k2,k3⟩,hb⟩
 refine⟨_,rfl,kC (FU hA k1 k2 ?_) mZ,hb⟩
 exact k3.imp id fun⟨b,off,h1,h2,h3,h4,_⟩=>⟨b,off,h1,h2,h3,h4⟩
def bH.bP (s:bH) (e:Int) (x:eC):bH:={ s with aH:=s.aH.set e.toNat x }
def eC.xD (x:eC) (b:List Int):eC:={ x with dC:=b }
end
section
set_option linter.unnecessarySimpa false
def Az (l:List bB) (x:bB):List bB×Int:=if(Ay l x).2=0 then([xA (Ay l x).1],0)else(l,(Ay l x).2)
theorem adu {l:List bB} {x:bB} (h:(Ay l x).2≠0):(Ay l x).1=l:=by
 unfold Ay at h ⊢;split
 ·rfl
 ·split
  ·rfl
  ·split
   ·rename_i h1 h2 h3;rw[if_neg h1,if_neg h2,if_pos h3]at h;exact absurd rfl h
   ·rfl
theorem afA {l:List bB} {x:bB} (h:(Ay l x).2=0):(Ay l x).1=l++[x]∧LR (l++[x]):=by
 unfold Ay at h ⊢;split
 ·rename_i h1;rw[if_pos h1]at h;cases h
 ·split
  ·rename_i h1 h2;rw[if_neg h1,if_pos h2]at h;cases h
  ·split
   ·rename_i h1 h2 h3;exact⟨rfl,LR.of h3⟩
   ·rename_i h1 h2 h3;rw[if_neg h1,if_neg h2,if_neg h3]at h;cases h
theorem ag6 {l:List bB} (h:LR l) (h0:l≠[]):LR [xA l]:=by
 rw[h.xA.1];have a:=qO h.ok;have b:=HO l;have:=h.q;have:=h.v;have:=h.p
 have:1≤l.length:=List.length_pos_iff.2 h0
 exact LR.one (dK.2 ⟨by simp only;omega,by simp only;omega,by simp only;omega,by simp only;omega,by simp only;omega,by simp only;omega⟩)
theorem Md {l:List bB} {x:bB} (h:LR l):LR (Az l x).1:=by
 unfold Az;split
 ·rename_i h1
  obtain⟨e,h2⟩:=afA h1;rw[e];exact ag6 h2 (by simp)
 ·exact h
theorem FH {l:List bB} {q:Int}:(dZ l q).1.length≤l.length:=by
 have k:∀(l:List bB) (a:bB) (q:Int),(kG l a q).1.length≤l.length:=by
  intro l;induction l with
  |nil=>intro a q;simp[kG]
  |cons x r ih =>
   intro a q;simp only[kG];split
   ·exact Nat.le_refl _
   ·split
    ·simp
    ·have:=ih (jS a x) (q-x.q);simp only[List.length_cons];omega
 unfold dZ;split
 ·exact Nat.le_refl _
 ·split
  ·exact Nat.le_refl _
  ·exact k _ _ _
def aix (w:World) (v:Value) (l:List bB):Prop:=∃a cap,v=.slice a l.length cap∧Row w 3 a l.length cap (flat l)
theorem dJ.mono {w:World} {base base':Nat} {e:TypeId} {k:Nat} {v:Value} {n:Nat} {zs:List Int} (h:dJ w base e k v n zs) (g:base'≤base):dJ w base' e k v n zs:=by
 obtain⟨h1,h2⟩:=h;refine⟨h1,?_⟩
 rcases h2 with h2|⟨b,cap,cur,hv,hb,r⟩
 ·exact .inl h2
 ·exact .inr ⟨b,cap,cur,hv,Nat.le_trans g hb,r⟩
theorem ahM {w w':World} {x y z:Int} {t:Nat} (h:Below (w.alloc (.cells #[.int .i64 x,.int .i64 y,.int .i64 z] t)).heap.size (w.alloc (.cells #[.int .i64 x,.int .i64 y,.int .i64 z] t)) w') :
  iE w' w.heap.size x y z∧w.heap.size<w'.heap.size∧w.heap.size<w'.heap.size+1∧w.heap.size<w'.heap.size+1+1∧w.heap.size<w'.heap.size+1+1+1:=by
 have hs:=h.size;simp only[World.size_alloc]at hs;exact⟨⟨(h.cell (by simp)).trans (by simp),(h.cell (by simp)).trans (by simp),(h.cell (by simp)).trans (by simp),(h.frozen (by simp)).trans (by simp),(h.frozen (by simp)).trans (by simp),(h.frozen (by simp)).trans (by simp)⟩,by omega,by omega,by omega,by omega⟩
theorem ajF {w:World} {x y z:Int} {t n:Nat} (hn:n=w.heap.size):bD (w.alloc (.cells #[.int .i64 x,.int .i64 y,.int .i64 z] t)) n 0 [x,y,z]:=by
 subst hn;exact bD.new w [x,y,z] t
theorem iE.behind {w w':World} {o:Obj} {b B:Nat} {x y z:Int} (h:iE w b x y z) (hb:b<w.heap.size) (hB:b<B) (g:Below B (w.alloc o) w'):iE w' b x y z:=by
 have k:∀i,(w.alloc o).cell? ⟨b,i,none⟩=w.cell? ⟨b,i,none⟩:=fun i=>World.cell?_alloc_lt _ _ _ hb
 have kf:∀i,(w.alloc o).frozen? ⟨b,i,none⟩=w.frozen? ⟨b,i,none⟩:=fun i=>World.frozen?_alloc_old _ _ _ (Nat.ne_of_lt hb)
 exact⟨(g.cell hB).trans ((k 0).trans h.c0),(g.cell hB).trans ((k 1).trans h.c1),(g.cell hB).trans ((k 2).trans h.c2),(g.frozen hB).trans ((kf 0).trans h.f0),(g.frozen hB).trans ((kf 1).trans h.f1),(g.frozen hB).trans ((kf 2).trans h.f2)⟩
theorem iE.next {w w':World} {b:Nat} {x y z:Int} (h:iE w b x y z) (hb:b<w.heap.size) (g:Below w.heap.size w w') :
  iE w' b x y z∧b<w'.heap.size∧b<w'.heap.size+1∧b<w'.heap.size+1+1∧b<w'.heap.size+1+1+1:=by
 have hs:=g.size;exact⟨⟨(g.cell hb).trans h.c0,(g.cell hb).trans h.c1,(g.cell hb).trans h.c2,(g.frozen hb).trans h.f0,(g.frozen hb).trans h.f1,(g.frozen hb).trans h.f2⟩,by omega,by omega,by omega,by omega⟩
end
section
open Mc
theorem rJ (zs:List Int) (hI:eN zs):CK Tryz.prog 72 [.lit 1 (aA zs)] (.aZ [.i (cU zs),.i (cY zs)]):=by
 refine⟨aX (kK _).lit eM,.aZ _ (aX (.c _) (aX (.c _) eM)),?_⟩
 intro A w vs hA hG hl hv;have hvs:=pO hl;generalize vs.getD 0 Go.undef=v0 at hvs
 subst hvs;obtain⟨a,cap,rfl,R⟩:=Eo (hv 0 _ rfl) hI
 refine(mP a _ cap zs w R).mono ?_
 rintro e w' ⟨rfl,rfl⟩
 exact⟨_,rfl,kC mZ mZ,Below.refl _ _⟩
theorem BR {l:List bB} (h:LR l):CK Tryz.prog 169 [.lit 3 (aO l)] (.aZ [(⟨qs l,vs l,ps l⟩:bB).av,.i 0]):=by
 refine⟨aX (tQ _).lit eM,.aZ _ (aX (Mv _) (aX (.c _) eM)),?_⟩
 intro A w vs hA hG hl hv;have hvs:=pO hl;generalize vs.getD 0 Go.undef=v0 at hvs
 subst hvs;obtain⟨a,cap,rfl,R⟩:=BB (hv 0 _ rfl) (Mk h.ok)
 refine(SE a cap l w R (by have:=h.len;omega)).mono ?_
 rintro e w' ⟨rfl,hb⟩
 rw[h.xA.1,h.xA.2];exact⟨_,rfl,kC (Lh _) mZ,hb⟩
theorem ab8 (rc:List yF) (x:yF):kW rc++[lY x.r]=kW (rc++[x]):=by simp[kW]
theorem ae6 (rc:List yF) (k:Nat) (x:yF):(kW rc).set k (lY x.r)=kW (rc.set k x):=by simp[kW,List.map_set]
def bH.gI (S:bH) (E:List eC):bH:={ S with aH:=E }
def bH.avE (S:bH) (R:List (List AV)):AV:=.agg [.i S.aB,.i S.aD,.lit 1 (aA S.weights),.lit 1 (dM S.methods),.lit 1 (dM S.iC),.lit 8 R,.lit 8 (kW S.bX),.lit 9 (gD S.aU),.lit 6 (gY S.aM),.i S.done]
theorem bH.aij (S:bH):S.av=S.avE (bN S.aH):=rfl
theorem aia {S:bH} {R:List (List AV)} (h:pG R):Cl (S.avE R) :=
 .agg _ (aX (.c _) (aX (.c _) (aX (kK _).lit (aX (rG _).lit (aX (rG _).lit (aX h.lit (aX (SO _).lit (aX (SN _).lit (aX (SM _).lit (aX (.c _) eM))))))))))
def DD (now:Int) (closed:Bool) (P B R Pr D A:List (List AV)):List AV:=[.i now,.c (.bool closed),.lit 4 P,.lit 1 B,.lit 11 R,.lit 1 Pr,.lit 1 D,.lit 8 A]
theorem ad0 {now:Int} {closed:Bool} {P B R Pr D A:List (List AV)} (h1:pG P) (h2:pG B) (h3:pG R) (h4:pG Pr) (h5:pG D) (h6:pG A):∀x∈DD now closed P B R Pr D A,Cl x :=
 aX (.c _) (aX (.c _) (aX h1.lit (aX h2.lit (aX h3.lit (aX h4.lit (aX h5.lit (aX h6.lit eM)))))))
structure Wx (S:bH) (e item now:Int) (closed:Bool) (bE:List dA) (dC:List Int) (bF:List (List Int)) (aW down:List Int) (ahead:List EntC) (ms cs:List Int) (m c:Int):Prop where
 hn:S.aH.length≤4
 e0:0≤e
 e1:e<S.aH.length
 hx:S.aH[e.toNat]?=some ⟨⟨now,closed,bE,dC,bF,aW,down⟩,ahead⟩
 hw:S.weights.length≤5
 i0:0≤item
 i1:item<S.weights.length
 GR:S.methods.length=S.aH.length
 DB:S.iC.length=S.aH.length
 hms:S.methods[e.toNat]?=some ms
 Ep:S.iC[e.toNat]?=some cs
 AO:ms.length=S.weights.length
 uF:cs.length=S.weights.length
 hpl:bE.length=2*S.weights.length
 hrl:bF.length=S.weights.length
 hm:ms[item.toNat]?=some m
 hc:cs[item.toNat]?=some c
 mb:iM m
 cb:iM c
theorem adM {l:List eC} {k:Nat} {now:Int} {closed:Bool} {bE:List dA} {dC:List Int} {bF:List (List Int)} {aW down:List Int} {ahead:List EntC} (h:l[k]?=some ⟨⟨now,closed,bE,dC,bF,aW,down⟩,ahead⟩):(bN l)[k]?=some (DD now closed (bL bE) (aA dC) (bM bF) (aA aW) (aA down) (bV ahead)):=by
 rw[bN,List.getElem?_map,h];rfl
theorem Xg {z:List Int} {k:Nat} {v:Int} (h:z[k]?=some v):(aA z)[k]?=some [.i v]:=by
 rw[aA,List.getElem?_map,h];rfl
theorem adD {z:List (List Int)} {k:Nat} {v:List Int} (h:z[k]?=some v):(dM z)[k]?=some [.lit 1 (aA v)]:=by
 rw[dM,List.getElem?_map,h];rfl
theorem TL {z:List dA} {k:Nat} {p:dA} (h:z[k]?=some p):(bL z)[k]?=some [.lit 3 (aO p.bK),.i p.p0,.i p.p1,.i p.p2]:=by
 rw[bL,List.getElem?_map,h];rfl
theorem ae4 {z:List (List Int)} {k:Nat} {v:List Int} (h:z[k]?=some v):(bM z)[k]?=some (lY v):=by
 rw[bM,List.getElem?_map,h];rfl
theorem ajv {z:List yF} {k:Nat} {x:yF} (h:z[k]?=some x):(kW z)[k]?=some [.i x.eX,.i x.item,.i x.loc,.i x.lS,.i x.value,.i x.RZ,.i x.lV,.i x.back]:=by
 rw[kW,List.getElem?_map,h];rfl
theorem aju {z:List AP} {k:Nat} {x:AP} (h:z[k]?=some x):(gD z)[k]?=some [.i x.eX,.i x.item,.i x.loc,.i x.lS,.i x.back,.i x.cost,.i x.cN,.i x.period,.c (.bool x.waits)]:=by
 rw[gD,List.getElem?_map,h];rfl
theorem aiz {z:List wX} {k:Nat} {x:wX} (h:z[k]?=some x):(gY z)[k]?=some [.i x.src,.i x.dst,.i x.item,.i x.lS,.i x.value,.i x.cN]:=by
 rw[gY,List.getElem?_map,h];rfl
theorem Fy (l:List dA) (k:Nat) (p:dA):bL (l.set k p)=(bL l).set k p.row:=by simp[bL,List.map_set]
theorem Rj (l:List (List Int)) (k:Nat) (p:List Int):bM (l.set k p)=(bM l).set k (lY p):=by simp[bM,List.map_set]
theorem aaQ (l:List eC) (k:Nat) (x:eC):bN (l.set k x)=(bN l).set k x.row:=by simp[bN,List.map_set]
def bH.setRow (S:bH) (e:Int) (r:List AV):AV:=S.avE ((bN S.aH).set e.toNat r)
theorem bH.qB (S:bH) (e:Int) (x:eC):(S.bP e x).av=S.setRow e x.row:=by
 rw[bH.aij,bH.bP,bH.setRow];show bH.avE S (bN (S.aH.set e.toNat x))=_
 rw[aaQ]
theorem aaV {S:bH} {e:Int} {r:List AV} (h:∀x∈r,Cl x):Cl (S.setRow e r):=aia (Xt (Mw _) h)
def bH.avX (S:bH) (R RC SA TR:List (List AV)) (d:Int):AV:=.agg [.i S.aB,.i S.aD,.lit 1 (aA S.weights),.lit 1 (dM S.methods),.lit 1 (dM S.iC),.lit 8 R,.lit 8 RC,.lit 9 SA,.lit 6 TR,.i d]
theorem ah9 {S:bH} {R RC SA TR:List (List AV)} {d:Int} (h:pG R) (h2:pG RC) (h3:pG SA) (h4:pG TR):Cl (S.avX R RC SA TR d) :=
 .agg _ (aX (.c _) (aX (.c _) (aX (kK _).lit (aX (rG _).lit (aX (rG _).lit (aX h.lit (aX h2.lit (aX h3.lit (aX h4.lit (aX (.c _) eM))))))))))
theorem adZ (x:AP):∀y∈x.row,Cl y:=fun y hy=>by simp only[AP.row,List.mem_cons,List.not_mem_nil,or_false]at hy;rcases hy with rfl|rfl|rfl|rfl|rfl|rfl|rfl|rfl|rfl<;>exact .c _
theorem getD_some {α:Type} {l:List α} {k:Nat} {d:α} (h:k<l.length):l[k]?=some (l.getD k d):=by
 rw[List.getD,List.getElem?_eq_getElem h];rfl
theorem fR {α:Type} {l:List α} {k:Nat} {d:α} (h:k<l.length):l.getD k d∈l:=List.mem_of_getElem? (getD_some (d:=d) h)
theorem Tl [Bk] [Ev] {A:Nat→Prop} {w:World} {us:Array Value} {vs:List Value} (hl:us.size=(vs.map AV.c).length) (hv:∀(i:Nat) (x:AV),(vs.map AV.c)[i]?=some x→dG A w x (us.getD i Go.undef)):us=vs.toArray:=by
 apply Array.ext'
 apply List.ext_getElem?
 intro i;by_cases hi:i<vs.length
 ·have h2:=hv i (.c vs[i]) (by simp[hi])
  cases hx:us.toList[i]? with
  |none=>simp at hx hl;omega
  |some u =>
   have:us.getD i Go.undef=u:=by
    rw[Array.getElem?_toList]at hx;rw[Array.getD_eq_getD_getElem?,hx];rfl
   rw[this]at h2;cases h2;simp[hi]
 ·have h1:us.toList[i]?=none:=by simp at hl ⊢;omega
  rw[h1];simp;omega
theorem ahZ [Bk] [Ev] {k:FuncId} {vs:List Value} {r:Value} (hc:∀w,Calls Tryz.prog k vs.toArray w fun e w'=>e=.returned r∧Below w.heap.size w w'):GM Tryz.prog k (vs.map .c) (.c r):=by
 intro A w us hA hG hl hv;have e:=Tl hl hv;subst e;refine(hc w).mono ?_
 rintro e w' ⟨rfl,hb⟩
 exact⟨_,rfl,.c _,hb⟩
theorem agM [Bk] [Ev] {k:FuncId} {vs rs:List Value} (hc:∀w,Calls Tryz.prog k vs.toArray w fun e w'=>e=.returned (.tuple rs.toArray)∧Below w.heap.size w w') (_:rs.length≠1):GM Tryz.prog k (vs.map .c) (.aZ (rs.map .c)):=by
 intro A w us hA hG hl hv;have e:=Tl hl hv;subst e;refine(hc w).mono ?_
 rintro e w' ⟨rfl,hb⟩
 refine⟨_,rfl,.aZ _ _ (by simp) fun i y hy=>?_,hb⟩
 rw[List.getElem?_map]at hy;cases hr:rs[i]? with
 |none=>rw[hr]at hy;cases hy
 |some u =>
  rw[hr]at hy;cases hy
  have:rs.toArray.getD i Go.undef=u:=by simp[Array.getD_eq_getD_getElem?,hr]
  rw[this];exact .c _
structure OpD where
 (kind e item loc dst lS Ta ref:Int)
def OpD.av (o:OpD):AV:=.agg [.i o.kind,.i o.e,.i o.item,.i o.loc,.i o.dst,.i o.lS,.i o.Ta,.i o.ref,.emp]
def uE (k e item loc dst lS Ta ref:Int):AV:=(OpD.mk k e item loc dst lS Ta ref).av
theorem ajO (o:OpD):Cl o.av:=.agg _ (aX (.c _) (aX (.c _) (aX (.c _) (aX (.c _) (aX (.c _) (aX (.c _) (aX (.c _) (aX (.c _) (aX .emp eM)))))))))
theorem afc (v m:Int) (w:World) (h1:0<m) (h2:m≤1099511627776):Calls Tryz.prog 14 #[.int .i64 v,.int .i64 m] w fun e w'=>e=.returned (.int .i64 (v%m))∧Below w.heap.size w w':=by
 refine(PJ v m w h1 (by omega)).mono ?_
 rintro e w' ⟨rfl,rfl⟩
 exact⟨rfl,Below.refl _ _⟩
end
end Go.Proofs.YtnepgggkgnckcaaGreat
