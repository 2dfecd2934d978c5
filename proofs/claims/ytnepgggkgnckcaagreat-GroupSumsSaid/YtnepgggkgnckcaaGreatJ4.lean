/-
 Texts joined and made small by wip/small.sh.
-/
import Derived.Test.YtnepgggkgnckcaaGreatJ3
import Derived.WalkKit
import Derived.Test.YtnepgggkgnckcaaGreatProg
import Derived.Lib.BitFns
import Derived.Lib.ItoaNum
import Derived.Lib.Small
import Derived.Lib.Strings
import Derived.Lib.Slices
import Derived.Lib.Walk
import Derived.WalkSpells
import Derived.WalkLawsBesides
import Derived.Deep.QuietTactic
import Derived.BigQuiet
import Derived.Lib.Hide
import Derived.WalkSmall
import Derived.Lib.SliceRun
import Derived.Orders
import Derived.Deep.AppendLies
import Derived.Below
import Derived.LoopN
import Derived.IntWalk
import Derived.Deep.RegionHeld3
import Derived.RegionTactic
import Derived.ChangeAlike
import Derived.Deep.RegionLaw
import Derived.StillTailTactics
import Derived.Deep.Cut
import Derived.Lib.Bytealg
set_option linter.all false
set_option maxHeartbeats 4000000
set_option maxRecDepth 1000000
namespace Go.Proofs.YtnepgggkgnckcaaGreat
open Go.RowKit
section
variable {zs:List Int} {k base:Nat}
def mJ (v:Int):Bool:=decide (-288230376151711744<=v)&&decide (v<=288230376151711744)
def fG {v:Int}:mJ v=true↔-288230376151711744<=v/\v<=288230376151711744:=by simp[mJ]
structure kS (v:Int):Prop where
 lo:-9223372036854775808<=v
 hi:v<=9223372036854775807
def ahW {v:Int} (h:(Lit.int .i64 v).wf=true):kS v:=by
 simp[Lit.wf,IntKind.min,IntKind.max,IntKind.signed,IntKind.bits]at h;exact⟨by omega,by omega⟩
def gD (a b:Int):Bool:=mJ a&&mJ b&&mJ (wrap64 (a+b))
def pR {a b:Int}:gD a b=true↔mJ a=true/\mJ b=true/\mJ (a+b)=true:=by
 simp only[gD,a0e,fG];unfold wrap64;omega
def mY (a b:Int):Int:=if gD a b then a+b else 0
def mZ (a b:Int):Int:=if gD a b then 0 else 2
def dM (n:Int):List Int->Option Int
 |[]=>some n
 |z::zs=>if gD n z then dM (n+z) zs else none
def dP (l:List Int):Int:=(dM 0 l).getD 0
def eB (l:List Int):Int:=if(dM 0 l).isSome then 0 else 2
def ahs {a b n m:Int} (e:0<=a) (h1:a<=n) (c:0<=b) (d:b<=m):0<=a*b/\a*b<=n*m :=
 ⟨a0q e c,Int.mul_le_mul h1 d c (by omega)⟩
def aeE (b d a c:Int):(b*4294967296+d)*(a*4294967296+c)=b*a*18446744073709551616+(b*c+d*a)*4294967296+d*c:=by
 rw[a1n,a1e,a1e];have e1:b*4294967296*(a*4294967296)=b*a*18446744073709551616:=by
  rw[a07,a1j 4294967296 (a*4294967296),a07,<-a07 b a];rfl
 have e2:b*4294967296*c=b*c*4294967296:=by
  rw[a07,a1j 4294967296 c,<-a07]
 have e:d*(a*4294967296)=d*a*4294967296:=by rw[<-a07]
 rw[e1,e2,e,a1n];omega
structure acr (x y l0 l1 l2 l3:Int):Prop where
 e:x*y=l3*18446744073709551616+(l1+l2)*4294967296+l0
 b0:0<=l0/\l0<=18446744065119617025
 b1:0<=l1/\l1<=18446744065119617025
 b2:0<=l2/\l2<=18446744065119617025
 b3:0<=l3/\l3<=18446744065119617025
def anm (x y:Int) (k:0<=x) (i:x<18446744073709551616) (j:0<=y) (h:y<18446744073709551616) :
  acr x y (x%4294967296*(y%4294967296)) (x/4294967296*(y%4294967296)) (x%4294967296*(y/4294967296)) (x/4294967296*(y/4294967296)):=by
 have b (a c:Int) (g:0<=a) (f:a<=4294967295) (e:0<=c) (d:c<=4294967295):0<=a*c/\a*c<=18446744065119617025:=ahs g f e d;refine⟨?_,b _ _ (by omega) (by omega) (by omega) (by omega),b _ _ (by omega) (by omega) (by omega) (by omega),b _ _ (by omega) (by omega) (by omega) (by omega),b _ _ (by omega) (by omega) (by omega) (by omega)⟩;rw[<-aeE];congr 1<;>omega
def u64 (v:Int):Int:=v%18446744073709551616
def kZ (a b:Int):Int:=u64 a*u64 b/18446744073709551616
def kY (a b:Int):Int:=u64 a*u64 b%18446744073709551616
def FA (v:Int):0<=u64 v/\u64 v<18446744073709551616:=by unfold u64;omega
def SL {v:Int} (h:0<=v) (h':v<18446744073709551616):u64 v=v:=by unfold u64;omega
def Fy (a b:Int):0<=kZ a b/\kZ a b<18446744073709551616:=by
 have h:=ahs (FA a).1 (show u64 a<=18446744073709551615 by have:=(FA a).2;omega) (FA b).1 (show u64 b<=18446744073709551615 by have:=(FA b).2;omega);unfold kZ;omega
def Ag (a b:Int):0<=kY a b/\kY a b<18446744073709551616:=by unfold kY;omega
def afA (a b:Int):kZ a b*18446744073709551616+kY a b=u64 a*u64 b:=by unfold kZ kY;omega
def SI {x y a l1 l2 l3:Int} (h:acr x y a l1 l2 l3) :
  l3+l1/4294967296+l2/4294967296+(a/4294967296+l1%4294967296+l2%4294967296)/4294967296=x*y/18446744073709551616:=by
 obtain⟨e,b0,b1,b2,b3⟩:=h;generalize x*y=t at *;omega
def SH {x y a l1 l2 l3:Int} (h:acr x y a l1 l2 l3) :
  (a/4294967296+l1%4294967296+l2%4294967296)*4294967296%18446744073709551616+a%4294967296=x*y%18446744073709551616:=by
 obtain⟨e,b0,b1,b2,b3⟩:=h;generalize x*y=t at *;omega
def Lo (a b c:Int):Int:=if a<0\/b<0\/c<1 then 1 else if a*b/c > 288230376151711744 then 2 else 0
def xD (a b c:Int):Int:=if a<0\/b<0\/c<1 then 0 else if a*b/c > 288230376151711744 then 0 else a*b/c
def mdR (a b c:Int):Int:=if a<0\/b<0\/c<1 then 0 else if a*b/c > 288230376151711744 then 0 else a*b%c
def dK (v q n:Int):Int :=
 if n<1\/q<0\/q > n\/mJ v=false then 0 else if v<0 then -(-v*q/n)else v*q/n
def lT {a b:Bool} (h:a=b):Ending.returned (.bool a)=.returned (.bool b):=by rw[h]
def xQ {k:IntKind} {a b:Int} (h:a=b):Ending.returned (.int k a)=.returned (.int k b):=by rw[h]
def pM {k j:IntKind} {a b c d:Int} (h1:a=c) (e:b=d):Ending.returned (.tuple #[.int k a,.int j b])=.returned (.tuple #[.int k c,.int j d]):=by rw[h1,e]
def acO {k j i:IntKind} {a b c d e f:Int} (h1:a=c) (h:b=d) (g:e=f):Ending.returned (.tuple #[.int k a,.int j b,.int i e])=.returned (.tuple #[.int k c,.int j d,.int i f]):=by rw[h1,h,g]
def ahu (v:Int) (w:World) :
  Calls Tryz.prog 79 #[.int .i64 v] w fun e w'=>e=.returned (.bool (mJ v))/\w=w':=by
 go_enter Tryz.func79,Tryz.ntmps79;go_wp2
 all_goals (go_ret;exact⟨lT (by simp[mJ];try omega),rfl⟩)
def sZ (v:Int) (w:World) :
  Calls Tryz.prog 144 #[.int .i64 v] w fun e w'=>e=.returned (.bool (mJ v))/\w=w':=by
 go_enter Tryz.func144,Tryz.ntmps144;go_wp2
 all_goals (go_ret;exact⟨lT (by simp[mJ];try omega),rfl⟩)
def tmod_neg (v n:Int) (a:0<n) (d:n<=9223372036854775807) (h:v.tmod n<0):wrap64 (v.tmod n+n)=v%n:=by
 have c:=Int.tmod_def v n;have e:-n<v.tmod n:=Int.lt_tmod_of_pos v a
 have b:(v.tmod n+n)%n=v%n:=by
  rw[Int.add_emod_right,c,a48]
 rw[<-b,a4q (by omega) (by omega)];unfold wrap64;omega
def afC (v n:Int) (a:0<n) (h:0<=v.tmod n):v.tmod n=v%n:=by
 have c:=Int.tmod_def v n;have d:v.tmod n<n:=Int.tmod_lt_of_pos v a
 have b:(v.tmod n)%n=v%n:=by
  rw[c,a48]
 rw[<-b,a4q h (by omega)]
def aam (v n:Int) (w:World) (b:0<n) (a:n<=9223372036854775807) :
  Calls Tryz.prog 14 #[.int .i64 v,.int .i64 n] w fun e w'=>e=.returned (.int .i64 (v%n))/\w=w':=by
 go_enter Tryz.func14,Tryz.ntmps14;go_wp2
 .go_ret;exact⟨xQ (tmod_neg v n b a ‹_›),by first|rfl|trivial⟩
 .go_ret;exact⟨xQ (afC v n b ‹_›),by first|rfl|trivial⟩
def X6 {a b:Int} (h1:mJ a=true) (c:mJ b=true) (h:(!mJ (wrap64 (a+b)))=false):wrap64 (a+b)=mY a b/\(0:Int)=mZ a b:=by
 have h':mJ (wrap64 (a+b))=true:=by simpa using h
 have:gD a b=true:=by simp[gD,h1,c,h']
 simp only[mY,mZ,this,if_true];rw[fG]at h1 c;refine⟨?_,trivial⟩;unfold wrap64;omega
def AJ {a b:Int} (h:mJ a=false\/mJ b=false\/mJ (wrap64 (a+b))=false):(0:Int)=mY a b/\(2:Int)=mZ a b:=by
 have:gD a b=false:=by
  rcases h with h|h|h<;>simp[gD,h]
 simp[mY,mZ,this]
def As (a b:Int) (w:World) :
  Calls Tryz.prog 37 #[.int .i64 a,.int .i64 b] w fun e w'=>e=.returned (.tuple #[.int .i64 (mY a b),.int .i64 (mZ a b)])/\w=w':=by
 go_enter Tryz.func37,Tryz.ntmps37;go_wp2_with (go_at_call 79;refine(ahu _ _).mono ?_;rintro e w' ⟨rfl,rfl⟩)
 .go_ret2;have h:=@AJ a b (.inr (.inr (by simpa using ‹(!mJ (wrap64 (a+b)))=true›)));exact⟨pM h.1 h.2,by first|rfl|trivial⟩
 .go_ret2;have h:=X6 ‹mJ a=true› ‹mJ b=true› ‹_›;exact⟨pM h.1 h.2,by first|rfl|trivial⟩
 .go_ret2;have h:=@AJ a b (.inr (.inl (by simpa using ‹¬mJ b=true›)));exact⟨pM h.1 h.2,by first|rfl|trivial⟩
 .go_ret2;have h:=@AJ a b (.inl (by simpa using ‹¬mJ a=true›));exact⟨pM h.1 h.2,by first|rfl|trivial⟩
def Am (a b:Int) (w:World) :
  Calls Tryz.prog 83 #[.int .i64 a,.int .i64 b] w fun e w'=>e=.returned (.tuple #[.int .i64 (mY a b),.int .i64 (mZ a b)])/\w=w':=by
 go_enter Tryz.func83,Tryz.ntmps83;go_wp2_with (go_at_call 144;refine(sZ _ _).mono ?_;rintro e w' ⟨rfl,rfl⟩)
 .go_ret2;have h:=@AJ a b (.inr (.inr (by simpa using ‹(!mJ (wrap64 (a+b)))=true›)));exact⟨pM h.1 h.2,by first|rfl|trivial⟩
 .go_ret2;have h:=X6 ‹mJ a=true› ‹mJ b=true› ‹_›;exact⟨pM h.1 h.2,by first|rfl|trivial⟩
 .go_ret2;have h:=@AJ a b (.inr (.inl (by simpa using ‹¬mJ b=true›)));exact⟨pM h.1 h.2,by first|rfl|trivial⟩
 .go_ret2;have h:=@AJ a b (.inl (by simpa using ‹¬mJ a=true›));exact⟨pM h.1 h.2,by first|rfl|trivial⟩
def wrap_small {x:Int} (h:0<=x) (h':x<18446744073709551616):IntKind.u64.wrap x=x:=by rw[IntKind.wrap_u64];omega
def uF (x:Int) (h:0<=x) (h':x<18446744073709551616):bits BinOp.and IntKind.u64 x 4294967295=x%4294967296:=by
 have e:=bits_and_u64_nat x.toNat 4294967295 (by omega) (by omega);rw[show(4294967295:Nat)=2 ^ 32-1 from rfl,Nat.and_two_pow_sub_one_eq_mod]at e;rw[a1w h]at e;refine e.trans ?_;omega
def abk (x y:Int) (h:0<=x) (h':x<18446744073709551616) (d:x%4294967296=0) (a:0<=y) (c:y<4294967296):bits BinOp.or IntKind.u64 x y=x+y:=by
 have e:=bits_or_u64_nat x.toNat y.toNat (by omega) (by omega);rw[a1w h,a1w a]at e;refine e.trans ?_;obtain⟨k,b⟩:∃k:Nat,x.toNat=2 ^ 32*k:=⟨x.toNat/4294967296,by omega⟩;rw[b,<-a49 (by omega)];omega
def zI (a b:Int) (w:World) :
  Calls Tryz.prog 182 #[.int .i64 a,.int .i64 b] w fun e w'=>e=.returned (.tuple #[.int .u64 (kZ a b),.int .u64 (kY a b)])/\w=w':=by
 go_enter Tryz.func182,Tryz.ntmps182;go_wp2;go_ret2;have f:=FA a;have d:=FA b;have H:=anm (u64 a) (u64 b) f.1 f.2 d.1 d.2;have e1:=SI H;have e2:=SH H;refine⟨pM ?_ ?_,by first|rfl|trivial⟩
 all_goals
  rw[show IntKind.u64.wrap a=u64 a from IntKind.wrap_u64 a,show IntKind.u64.wrap b=u64 b from IntKind.wrap_u64 b];rw[uF (u64 a) f.1 f.2,uF (u64 b) d.1 d.2];first|unfold kZ;rw[<-e1]|unfold kY;rw[<-e2]
  clear e1 e2;obtain⟨-,b0,b1,b2,b3⟩:=H;generalize u64 a%4294967296*(u64 b%4294967296)=c at *;generalize u64 a/4294967296*(u64 b%4294967296)=l1 at *;generalize u64 a%4294967296*(u64 b/4294967296)=l2 at *;generalize u64 a/4294967296*(u64 b/4294967296)=l3 at *;simp only[wrap_small b0.1 (by omega),wrap_small b1.1 (by omega),wrap_small b2.1 (by omega),wrap_small b3.1 (by omega),uF c b0.1 (by omega),uF l1 b1.1 (by omega),uF l2 b2.1 (by omega)]
 .rw[wrap_small (x:=c/4294967296+l2%4294967296) (by omega) (by omega),wrap_small (x:=c/4294967296+l2%4294967296+l1%4294967296) (by omega) (by omega)]
  rw[wrap_small (x:=l3+l2/4294967296) (by omega) (by omega)];rw[wrap_small (x:=l3+l2/4294967296+l1/4294967296) (by omega) (by omega)];rw[wrap_small (by omega) (by omega)];omega
 .rw[wrap_small (x:=c/4294967296+l2%4294967296) (by omega) (by omega),wrap_small (x:=c/4294967296+l2%4294967296+l1%4294967296) (by omega) (by omega)]
  rw[IntKind.wrap_u64,abk _ _ (by omega) (by omega) (by omega) (by omega) (by omega)];omega
def aoJ {a b c:World} (h:Below a.heap.size a b) (k:Below b.heap.size b c):Below a.heap.size a c:=h.trans (k.mono h.size)
def aoN {a b:World} (h:Below a.heap.size a b) (o:Obj):Below a.heap.size a (b.alloc o):=h.alloc h.size o
def aoM {a b:World} (h:Below a.heap.size a b):Below a.heap.size a b.drew:=h.drew
def ND {a b:World} (h:Below a.heap.size a b) (n:Nat):Below a.heap.size a (b.drewN n):=below_drewN h n
def cD (w:World) (b off:Nat) (zs:List Int):Prop:=∀i,i<zs.length->w.cell? ⟨b,off+i,none⟩=some (.int .i64 (zs.getD i 0))
def fM (zs:List Int):Prop:=∀z,z∈zs->kS z
structure Row (w:World) (k:Nat) (a:Option Addr) (n cap:Nat) (zs:List Int):Prop where
 len:zs.length=n*k
 le:n<=cap
 max:cap<=maxLen
 all:fM zs
 at_:n=0\/∃b off,a=some ⟨b,off,none⟩/\b<w.heap.size/\cD w b off zs
def cD.below {w w':World} {b off:Nat} {zs:List Int} (h:cD w b off zs) (c:b<w.heap.size) (g:Below w.heap.size w w'):cD w' b off zs :=
 fun i a=>by rw[g.cell (p:=⟨b,off+i,none⟩) c];exact h i a
def Row.below {w w':World} {k:Nat} {a:Option Addr} {n cap:Nat} {zs:List Int} (h:Row w k a n cap zs) (g:Below w.heap.size w w'):Row w' k a n cap zs:=by
 refine⟨h.len,h.le,h.max,h.all,?_⟩;rcases h.at_ with f|⟨b,off,e,c,d⟩
 .exact .inl f
 .exact .inr ⟨b,off,e,a0x c g.size,d.below c g⟩
def fM.at_ (h:fM zs) (i:Nat):kS (zs.getD i 0):=by
 rw[a0c];cases a:zs[i]? with
 |none=>exact⟨by simp,by simp⟩
 |some z=>exact h z (a0a a)
def Row.nil (w:World) (k:Nat):Row w k none 0 0 []:=⟨by simp,by omega,by omega,fun z a=>by simp at a,.inl rfl⟩
def cD.new (w:World) (zs:List Int) (t:TypeId):cD (w.alloc (.cells (zs.map (Value.int .i64)).toArray t)) w.heap.size 0 zs:=by
 intro i a;rw[a02,World.cell?_alloc_new];simp[a,a0c]
def ao7 {w:World} {y:Int} {t n:Nat} (a:n=w.heap.size):cD (w.alloc (.cells #[.int .i64 y] t)) n 0 [y]:=by
 subst a;exact cD.new w [y] t
def Row.adh {w:World} {a:Option Addr} {n cap:Nat}
  (h:(a=none/\n=0/\cap=0/\zs=[])\/∃x,a=some x/\n<=cap/\cap<=maxLen/\zs.length=cap/\(∀i,i<zs.length->w.cell? (x.add i)=some (.int .i64 (zs.getD i 0)))/\∀z∈zs,(Lit.int .i64 z).wf=true) :
  Row w 1 a n cap (zs.take n):=by
 rcases h with⟨rfl,rfl,rfl,rfl⟩|⟨x,rfl,g,m,q,j,f⟩
 .exact Row.nil w 1
 .refine⟨by simp;omega,g,m,fun z e=>ahW (f z (a2m e)),?_⟩
  by_cases p:n=0
  .exact .inl p
  .refine .inr ?_
   obtain⟨b,off,c⟩:=x;have l:=j 0 (by omega);have hs:c=none:=(by simpa[Addr.add]using World.cell?_spot l);subst hs;refine⟨b,off,rfl,?_,?_⟩
   .have:=World.block_lt_of_cell? _ _ l
    simpa[Addr.add]using this
   .intro i o
    simp at o;have k:=j i (by omega);rw[a0c,a5a (by omega),<-a0c];by_cases d:i=0
    .subst d;simpa[Addr.add]using k
    .simpa[Addr.add,d]using k
def Md (l:List Int):∀n z,dM n (l++[z])=(dM n l).bind fun m=>if gD m z then some (m+z)else none:=by
 induction l with
 |nil=>intro n z;simp[dM]
 |cons y l a =>
  intro n z;simp only[a2a,dM];by_cases h:gD n y=true
  .simp only[h,if_true];exact a _ _
  .simp[h]
def FC {l:List Int} (h:k<l.length):l.take (k+1)=l.take k++[l.getD k 0]:=by
 rw[a4r h,a0c,a0f h];rfl
def xG {l:List Int} {n:Int} (h:k<l.length) (e:dM 0 (l.take k)=some n):dM 0 (l.take (k+1))=if gD n (l.getD k 0)then some (n+l.getD k 0)else none:=by
 rw[FC h,Md,e];rfl
def xH (l m:List Int):∀n,dM n (l++m)=(dM n l).bind fun x=>dM x m:=by
 induction l with
 |nil=>intro n;rfl
 |cons y l a =>
  intro n;simp only[a2a,dM];by_cases h:gD n y=true
  .simp only[h,if_true];exact a _
  .simp[h]
def Cy {l:List Int} (e:dM 0 (l.take k)=none):dM 0 l=none:=by
 conv=>lhs;rw[<-a2j k l]
 rw[xH,e];rfl
def Ac {a b:Int} (h:gD a b=true):-288230376151711744<=a+b/\a+b<=288230376151711744:=fG.1 (pR.1 h).2.2
def vD {a b:Int} (h:gD a b=true):mY a b=a+b/\mZ a b=0:=by simp[mY,mZ,h]
def lJ {a b:Int} (h:gD a b=false):mY a b=0/\mZ a b=2:=by simp[mY,mZ,h]
def SG {a b:Int} (d:0<=a) (f:a<=9223372036854775807) (c:0<=b) (e:b<=9223372036854775807):kZ a b*18446744073709551616+kY a b=a*b:=by
 rw[afA,SL d (by omega),SL c (by omega)]
def ana {a b c:Int} (h:a<0\/b<0\/c<1):xD a b c=0/\mdR a b c=0/\Lo a b c=1:=by simp[xD,mdR,Lo,h]
def ahx {a b c:Int} (h:¬ (a<0\/b<0\/c<1)) (g:288230376151711744<a*b/c):xD a b c=0/\mdR a b c=0/\Lo a b c=2:=by simp[xD,mdR,Lo,h,g]
def amp {a b c:Int} (h:¬ (a<0\/b<0\/c<1)) (g:¬ 288230376151711744<a*b/c):xD a b c=a*b/c/\mdR a b c=a*b%c/\Lo a b c=0:=by simp[xD,mdR,Lo,h,g]
def aka {a b c:Int} (d:0<c) (e:kZ a b*18446744073709551616+kY a b=a*b) (g:c<=kZ a b):288230376151711744<a*b/c:=by
 have l:=(Ag a b).1;have f:c*18446744073709551616<=a*b:=by omega
 have:=a5b d (show 18446744073709551616*c<=a*b by omega);omega
structure Dv (N c q r:Int):Prop where
 e:q*c+r=N
 r:0<=r/\r<c
 q:0<=q/\q<18446744073709551616
def aib {a b c:Int} (e:kZ a b*18446744073709551616+kY a b=a*b) (g:kZ a b<c) (h:0<=kZ a b/\kZ a b<18446744073709551616) (l:0<=kY a b/\kY a b<18446744073709551616) :
  Dv (a*b/2 ^ 64) c 0 (kZ a b):=by
 have p:(2:Int) ^ 64=18446744073709551616:=rfl;refine⟨?_,by omega,by omega⟩;rw[p,<-e];omega
def ano {T c q r:Int} (D:Dv (T/2 ^ 0) c q r):T/c=q/\T%c=r:=by
 obtain⟨e,a,-⟩:=D;rw[show T/2 ^ 0=T by simp]at e;rw[<-e,a1j];constructor
 .rw[Int.mul_add_ediv_left _ _ (by omega),Int.ediv_eq_zero_of_lt a.1 a.2];omega
 .rw[Int.mul_add_emod_self_left,a4q a.1 a.2]
def ag9 (x:Int) (h:0<=x) (h':x<9223372036854775808) (b:Int) (a:b=0\/b=1):bits BinOp.or IntKind.u64 (x*2) b=x*2+b:=by
 have e:=bits_or_u64_nat (x*2).toNat b.toNat (by omega) (by omega);rw[a1w (by omega),a1w (by omega)]at e;refine e.trans ?_;rw[show(x*2).toNat=2 ^ 1*x.toNat by omega,<-a49 (by omega)];omega
def akz {T c q r b a:Int} {j:Nat} (D:Dv (T/2 ^ (j+1)) c q r) (e:b*18446744073709551616+a=T) (G:0<=T) (g:b<c) (o:0<=a/\a<18446744073709551616) (E:j<=63) (F:c<=9223372036854775807) :
  (c<=bits BinOp.or IntKind.u64 (r*2) (bits BinOp.and IntKind.u64 (a/2 ^ j) 1) ->
   Dv (T/2 ^ j) c (bits BinOp.or IntKind.u64 (IntKind.u64.wrap (q*2)) 1) (IntKind.u64.wrap (bits BinOp.or IntKind.u64 (r*2) (bits BinOp.and IntKind.u64 (a/2 ^ j) 1)-c))) /\
  (bits BinOp.or IntKind.u64 (r*2) (bits BinOp.and IntKind.u64 (a/2 ^ j) 1)<c ->
   Dv (T/2 ^ j) c (IntKind.u64.wrap (q*2)) (bits BinOp.or IntKind.u64 (r*2) (bits BinOp.and IntKind.u64 (a/2 ^ j) 1))):=by
 obtain⟨w,v,u⟩:=D;have B:(0:Int)<2 ^ j:=Int.pow_pos (by omega);have y:(0:Int)<2 ^ (j+1):=Int.pow_pos (by omega);have s:(2:Int) ^ j*2 ^ (63-j)=9223372036854775808:=by rw[<-Int.pow_add,show j+(63-j)=63 by omega];rfl
 have d:q<9223372036854775808:=by
  rcases a2u q 9223372036854775808 with h|h
  .exact h
  .exfalso
   have m:=a2k h (show 0<=c by omega);have n:=a39 T (2 ^ (j+1));have C:=a2n T (show(2:Int) ^ (j+1)≠0 by omega);have A:(2:Int) ^ (j+1)=2 ^ j*2:=(by rw[Int.pow_succ]);have k:=a2k (show(2:Int)<=2 ^ (j+1)by omega) (show 0<=T/2 ^ (j+1)by omega);omega
 have f:0<=a/2 ^ j:=a2o o.1 (by omega);have z:a/2 ^ j<=a:=Int.ediv_le_self _ o.1;have p:bits BinOp.and IntKind.u64 (a/2 ^ j) 1=a/2 ^ j%2:=and_one_u64 _ f (by omega)
 have N:T/2 ^ j=2*(T/2 ^ (j+1))+a/2 ^ j%2:=by
  have t:T/2 ^ (j+1)=T/2 ^ j/2:=by rw[Int.pow_succ,Int.ediv_ediv_of_nonneg (by omega)]
  have a2:T/2 ^ j%2=a/2 ^ j%2:=by
   rw[<-e,show b*18446744073709551616+a=a+2 ^ j*(2 ^ (63-j)*2*b)by
    rw[<-a07,<-a07,s];omega]
   rw[Int.add_mul_ediv_left _ _ (by omega)];rw[show(2:Int) ^ (63-j)*2*b=2*(2 ^ (63-j)*b)by rw[a1j _ 2,a07]];rw[Int.add_mul_emod_self_left]
  rw[t,<-a2];omega
 rw[p,ag9 r v.1 (by omega) _ (by omega),wrap_small (x:=q*2) (by omega) (by omega),ag9 q u.1 d 1 (.inr rfl),N,<-w];have l:(q*2+1)*c=q*c*2+c:=by rw[a1n,Int.one_mul,a07,a1j 2 c,<-a07]
 have i:q*2*c=q*c*2:=by rw[a07,a1j 2 c,<-a07]
 constructor
 .intro h
  rw[wrap_small (by omega) (by omega)];refine⟨?_,by omega,by omega⟩;rw[l];omega
 .intro h
  refine⟨?_,by omega,by omega⟩;rw[i];omega
def xS (a b c:Int) (w:World) (u:kS a) (s:kS b) (n:kS c) :
  Calls Tryz.prog 148 #[.int .i64 a,.int .i64 b,.int .i64 c] w fun e w'=>e=.returned (.tuple #[.int .i64 (xD a b c),.int .i64 (mdR a b c),.int .i64 (Lo a b c)])/\w=w':=by
 obtain⟨u,t⟩:=u;obtain⟨s,p⟩:=s;obtain⟨n,l⟩:=n;by_cases d:a<0\/b<0\/c<1
 .have m:=ana d
  rw[m.1,m.2.1,m.2.2];clear m;by_cases G:a<0
  .clear d
   go_enter Tryz.func148,Tryz.ntmps148;go_wp2;go_ret3;exact⟨rfl,by first|rfl|trivial⟩
  .by_cases F:b<0
   .clear d
    go_enter Tryz.func148,Tryz.ntmps148;go_wp2;go_ret3;exact⟨rfl,by first|rfl|trivial⟩
   .have C:c<1:=by omega
    clear d;go_enter Tryz.func148,Tryz.ntmps148;go_wp2;go_ret3;exact⟨rfl,by first|rfl|trivial⟩
 .have a0:0<=a:=by omega
  have b0:0<=b:=by omega
  have H:1<=c:=by omega
  have e:=SG a0 t b0 p;have p0:=a0q a0 b0;have o:=Fy a b;have h:=Ag a b;by_cases g:c<=kZ a b
  .have m:=ahx d (aka (by omega) e g)
   rw[m.1,m.2.1,m.2.2];clear m d e;go_enter Tryz.func148,Tryz.ntmps148;go_wp2_with (go_at_call 182;refine(zI _ _ _).mono ?_;rintro e w' ⟨rfl,rfl⟩);go_ret3;exact⟨rfl,by first|rfl|trivial⟩
  .have E:=Lib.hid e
   clear e;go_enter Tryz.func148,Tryz.ntmps148;go_wp2_with (go_at_call 182;refine(zI _ _ _).mono ?_;rintro e w' ⟨rfl,rfl⟩);go_loop [12,13,14] (fun r q i=>∃(k:Nat) (x y:Int),k<=64/\i=.int .i64 ((k:Int)-1)/\r=.int .u64 x/\q=.int .u64 y/\Dv (a*b/2 ^ k) c y x) (fun _ _ i=>(intOf i+1).toNat)
   case atStart=>exact⟨64,_,_,by omega,rfl,rfl,rfl,aib E.out (by omega) o h⟩
   case round =>
    obtain⟨k,r,q,B,rfl,rfl,rfl,D⟩:=hrel;match k with
    |0 =>
     have X:=ano D;obtain⟨f,A,z⟩:=D;have f:=Lib.hid f;have X:=Lib.hid X;go_wp2
     .go_ret3
      have m:=ahx d (by rw[X.out.1];assumption);exact⟨acO m.1.symm m.2.1.symm m.2.2.symm,by first|rfl|trivial⟩
     .go_ret3
      have m:=amp d (by rw[X.out.1];omega);exact⟨acO (by rw[m.1,X.out.1]) (by rw[m.2.1,X.out.2]) m.2.2.symm,by first|rfl|trivial⟩
    |j+1 =>
     have v:(((j+1:Nat):Int)-1)=(j:Int):=(by omega);rw[v];clear v;have X:=akz D E.out p0 g h (by omega) l;have X:=Lib.hid X;obtain⟨f,A,z⟩:=D;have f:=Lib.hid f;go_wp2
     .refine⟨⟨j,_,_,by omega,rfl,rfl,rfl,?_⟩,by simp[intOf];try omega⟩
      exact X.out.1 (by assumption)
     .refine⟨⟨j,_,_,by omega,rfl,rfl,rfl,?_⟩,by simp[intOf];try omega⟩
      exact X.out.2 (by assumption)
def O9 {v q n:Int} (a:0<=v) (g:v<=288230376151711744) (c:0<=q) (b:q<=n) (h:1<=n) :
  xD v q n=v*q/n/\0<=v*q/n/\v*q/n<=v:=by
 have f:=a0q a c;have e:v*q/n<=v:=by
  apply a25 (by omega);exact a11 b a
 have d:=a2o f (show 0<=n by omega);exact⟨(amp (by omega) (by omega)).1,d,e⟩
def aeA {v q n:Int} (h:n<1\/q<0\/q > n\/mJ v=false):dK v q n=0:=by simp only[dK,if_pos h]
def Ty {v q n:Int} (h:¬ (n<1\/q<0\/q > n\/mJ v=false)) (a:v<0):dK v q n=-(-v*q/n):=by simp only[dK,if_neg h,if_pos a]
def Tx {v q n:Int} (h:¬ (n<1\/q<0\/q > n\/mJ v=false)) (a:¬ v<0):dK v q n=v*q/n:=by simp only[dK,if_neg h,if_neg a]
def agj (v q n:Int) (w:World) (d:kS v) (f:kS q) (i:kS n) :
  Calls Tryz.prog 149 #[.int .i64 v,.int .i64 q,.int .i64 n] w fun e w'=>e=.returned (.int .i64 (dK v q n))/\w=w':=by
 by_cases h:n<1\/q<0\/q > n\/mJ v=false
 .rw[aeA h]
  by_cases m:n<1
  .clear h
   go_enter Tryz.func149,Tryz.ntmps149;go_wp2_with (go_at_call 144;refine(sZ _ _).mono ?_;rintro e w' ⟨rfl,rfl⟩);go_ret;exact⟨rfl,by first|rfl|trivial⟩
  .by_cases l:q<0
   .clear h
    go_enter Tryz.func149,Tryz.ntmps149;go_wp2_with (go_at_call 144;refine(sZ _ _).mono ?_;rintro e w' ⟨rfl,rfl⟩);go_ret;exact⟨rfl,by first|rfl|trivial⟩
   .by_cases k:n<q
    .clear h
     go_enter Tryz.func149,Tryz.ntmps149;go_wp2_with (go_at_call 144;refine(sZ _ _).mono ?_;rintro e w' ⟨rfl,rfl⟩);go_ret;exact⟨rfl,by first|rfl|trivial⟩
    .have j:mJ v=false:=by rcases h with h|h|h|h<;>first|exact h|omega
     clear h;go_enter Tryz.func149,Tryz.ntmps149;go_wp2_with (go_at_call 144;refine(sZ _ _).mono ?_;rintro e w' ⟨rfl,rfl⟩);go_ret;exact⟨rfl,by first|rfl|trivial⟩
 .have m:¬ n<1:=by omega
  have l:¬ q<0:=by omega
  have k:¬ n<q:=by omega
  have j:mJ v=true:=by cases g:mJ v with|true=>rfl|false=>exact absurd (Or.inr (Or.inr (Or.inr g))) h
  have b:=fG.1 j;by_cases c:v<0
  .rw[Ty h c]
   have P:=O9 (show 0<=-v by omega) (show -v<=288230376151711744 by omega) (show 0<=q by omega) (show q<=n by omega) (by omega);obtain⟨a,p,o⟩:=P;have a:=Lib.hid a;clear h;have s:=d.lo;have r:=d.hi;go_enter Tryz.func149,Tryz.ntmps149;go_wp2_with (first|(go_at_call 144;refine(sZ _ _).mono ?_;rintro e w' ⟨rfl,rfl⟩)|(go_at_call 148;refine(xS _ _ _ _ ⟨by omega,by omega⟩ f i).mono ?_;rw[a.out];rintro e w' ⟨rfl,rfl⟩));go_ret;exact⟨rfl,by first|rfl|trivial⟩
  .rw[Tx h c]
   have P:=O9 (show 0<=v by omega) b.2 (show 0<=q by omega) (show q<=n by omega) (by omega);obtain⟨a,p,o⟩:=P;have a:=Lib.hid a;clear h;go_enter Tryz.func149,Tryz.ntmps149;go_wp2_with (first|(go_at_call 144;refine(sZ _ _).mono ?_;rintro e w' ⟨rfl,rfl⟩)|(go_at_call 148;refine(xS _ _ _ _ d f i).mono ?_;rw[a.out];rintro e w' ⟨rfl,rfl⟩));go_ret;exact⟨rfl,by first|rfl|trivial⟩
def SR {m:Int} (h:k<zs.length) (H:dM 0 (zs.take k)=some m) (e:gD m (zs.getD k 0)=false):dP zs=0/\eB zs=2:=by
 have t:=xG h H;rw[e]at t;have:=Cy t;simp[dP,eB,this]
def SU {m:Int} (H:dM 0 (zs.take zs.length)=some m):dP zs=m/\eB zs=0:=by
 rw[a1g]at H;simp[dP,eB,H]
def aeF (a:Option Addr) (n cap:Nat) (zs:List Int) (w:World) (h:Row w 1 a n cap zs) :
  Calls Tryz.prog 72 #[.slice a n cap] w fun e w'=>e=.returned (.tuple #[.int .i64 (dP zs),.int .i64 (eB zs)])/\w=w':=by
 obtain⟨q,y,o,r,j⟩:=h;unfold maxLen at o;have q:zs.length=n:=by omega
 obtain rfl:zs.length=n:=q;clear q;go_enter Tryz.func72,Tryz.ntmps72;go_wp2;go_loop [4,10] (fun s i=>∃(k:Nat) (m:Int),k<=zs.length/\i=.int .i64 k/\s=.int .i64 m/\Hid (dM 0 (zs.take k)=some m)) (fun _ i=>zs.length-(intOf i).toNat)
 case atStart=>exact⟨0,0,by omega,rfl,rfl,rfl⟩
 case round =>
  obtain⟨k,m,C,rfl,rfl,H⟩:=hrel;by_cases f:k<zs.length
  .obtain⟨b,off,rfl,D,u⟩:∃b off,a=some ⟨b,off,none⟩/\b<w.heap.size/\cD w b off zs:=by
    rcases j with v|v
    .omega
    .exact v
   have x:=u k f;have B:=r.at_ k;have p:(k:Int)<(zs.length:Int):=(by omega);clear u j;generalize g:zs.getD k 0=z at *;have l:=Lib.hid g;clear g;by_cases c:gD m z=true
   .have d:=vD c
    have A:=Ac c;have d:=Lib.hid d;go_wp2_with (go_at_call 37;refine(As _ _ _).mono ?_;rw[d.out.1,d.out.2];rintro e w' ⟨rfl,rfl⟩);go_round
    case rel =>
     refine⟨k+1,_,by omega,by go_num,rfl,?_⟩;have t:=xG f H.out;rw[l.out,c]at t;exact t
    case measure=>simp[intOf];omega
   .have c:gD m z=false:=by simpa using c
    have d:=lJ c;have d:=Lib.hid d;have S:=SR f H.out (by rw[l.out];exact c);go_wp2_with (go_at_call 37;refine(As _ _ _).mono ?_;rw[d.out.1,d.out.2];rintro e w' ⟨rfl,rfl⟩);go_ret2
    first|exact⟨pM S.1.symm S.2.symm,by first|rfl|trivial⟩|exact⟨rfl,by first|rfl|trivial⟩
  .obtain rfl:k=zs.length:=by omega
   have S:=SU H.out;have p:¬ (zs.length:Int)<(zs.length:Int):=(by omega);go_wp2;go_ret2
   first|exact⟨pM S.1.symm S.2.symm,by first|rfl|trivial⟩|exact⟨rfl,by first|rfl|trivial⟩
def Rg (a:Option Addr) (n cap:Nat) (zs:List Int) (w:World) (h:Row w 1 a n cap zs) :
  Calls Tryz.prog 81 #[.slice a n cap] w fun e w'=>e=.returned (.tuple #[.int .i64 (dP zs),.int .i64 (eB zs)])/\w=w':=by
 obtain⟨q,y,o,r,j⟩:=h;unfold maxLen at o;have q:zs.length=n:=by omega
 obtain rfl:zs.length=n:=q;clear q;go_enter Tryz.func81,Tryz.ntmps81;go_wp2;go_loop [4,5] (fun s i=>∃(k:Nat) (m:Int),k<=zs.length/\i=.int .i64 k/\s=.int .i64 m/\Hid (dM 0 (zs.take k)=some m)) (fun _ i=>zs.length-(intOf i).toNat)
 case atStart=>exact⟨0,0,by omega,rfl,rfl,rfl⟩
 case round =>
  obtain⟨k,m,C,rfl,rfl,H⟩:=hrel;by_cases f:k<zs.length
  .obtain⟨b,off,rfl,D,u⟩:∃b off,a=some ⟨b,off,none⟩/\b<w.heap.size/\cD w b off zs:=by
    rcases j with v|v
    .omega
    .exact v
   have x:=u k f;have B:=r.at_ k;have p:(k:Int)<(zs.length:Int):=(by omega);clear u j;generalize g:zs.getD k 0=z at *;have l:=Lib.hid g;clear g;by_cases c:gD m z=true
   .have d:=vD c
    have A:=Ac c;have d:=Lib.hid d;go_wp2_with (go_at_call 83;refine(Am _ _ _).mono ?_;rw[d.out.1,d.out.2];rintro e w' ⟨rfl,rfl⟩);go_round
    case rel =>
     refine⟨k+1,_,by omega,by go_num,rfl,?_⟩;have t:=xG f H.out;rw[l.out,c]at t;exact t
    case measure=>simp[intOf];omega
   .have c:gD m z=false:=by simpa using c
    have d:=lJ c;have d:=Lib.hid d;have S:=SR f H.out (by rw[l.out];exact c);go_wp2_with (go_at_call 83;refine(Am _ _ _).mono ?_;rw[d.out.1,d.out.2];rintro e w' ⟨rfl,rfl⟩);go_ret2
    first|exact⟨pM S.1.symm S.2.symm,by first|rfl|trivial⟩|exact⟨rfl,by first|rfl|trivial⟩
  .obtain rfl:k=zs.length:=by omega
   have S:=SU H.out;have p:¬ (zs.length:Int)<(zs.length:Int):=(by omega);go_wp2;go_ret2
   first|exact⟨pM S.1.symm S.2.symm,by first|rfl|trivial⟩|exact⟨rfl,by first|rfl|trivial⟩
def ints (zs:List Int):List Value:=zs.map (Value.int .i64)
def zR (l m:List Int):ints (l++m)=ints l++ints m:=a03
def uY (l:List Int):(ints l).length=l.length:=a0w ..
def wP (l:List Int) (i:Nat):(ints l)[i]?=(l[i]?).map (Value.int .i64):=a0l ..
structure ai5 (P:Program) (t e:TypeId) (size:Nat):Prop where
 slice:P.underlying t=some (.slice e)
 info:∃(i:TypeInfo) (z:Value),P.info? e=some i/\i.zero=some z/\i.size=size/\i.bytes=size*8/\z.cells.size=size
 pos:0<size
def gZ (w:World) (base:Nat) (e:TypeId) (k:Nat) (v:Value) (n:Nat) (zs:List Int):Prop:=w.ownsRow base e k v n (ints zs)
def gZ.nil (w:World) (base:Nat) (e:TypeId) (k:Nat):gZ w base e k (.slice none 0 0) 0 []:=World.ownsRow_nil _ _ _ _
def gZ.alloc {w:World} {e:TypeId} {v:Value} {n:Nat} (h:gZ w base e k v n zs) (o:Obj):gZ (w.alloc o) base e k v n zs:=World.ownsRow.alloc h o
def gZ.below {w w':World} {base:Nat} {e:TypeId} {k:Nat} {v:Value} {n:Nat} {zs:List Int} (h:gZ w base e k v n zs) (g:Below w.heap.size w w'):gZ w' base e k v n zs:=by
 obtain⟨j,c⟩:=h;refine⟨j,?_⟩;rcases c with c|⟨b,cap,d,f,i,a,r⟩
 .exact .inl c
 .refine .inr ⟨b,cap,d,f,i,?_,r⟩
  have:b<w.heap.size:=by
   rcases a0z b w.heap.size with h|h
   .exact h
   .rw[a5c h]at a;cases a
  rw[g.block b this];exact a
def gZ.len {w:World} {e:TypeId} {v:Value} {n:Nat} (h:gZ w base e k v n zs):zs.length=n*k:=by
 have:=h.1;rwa[uY]at this
def gZ.row {w:World} {e:TypeId} {v:Value} {n:Nat} (h:gZ w base e k v n zs) (o:fM zs) :
  ∃a cap,v=.slice a n cap/\Row w k a n cap zs:=by
 have j:=h.len;obtain⟨t,s⟩:=h;rcases s with⟨rfl,rfl⟩|⟨b,cap,p,rfl,r,d,f,m,hs,q⟩
 .exact⟨_,_,rfl,j,a0g _,by omega,o,.inl rfl⟩
 .refine⟨_,_,rfl,j,f,m,o,.inr ⟨b,0,rfl,?_,?_⟩⟩
  .rcases a0z b w.heap.size with h|h
   .exact h
   .rw[a5c h]at d;cases d
  .intro i l
   have c:=World.ownsRow.cellAt (w:=w) (base:=base) (e:=e) (size:=k) (g:=b) (n:=n) (cap:=cap) (xs:=ints zs) ⟨t,.inr ⟨b,cap,p,rfl,r,d,f,m,hs,q⟩⟩ i (by omega);rw[a02,c,wP,a0f l,a0c,a0f l];rfl
def Row.cells {w:World} {f:Addr} {n cap:Nat} (h:Row w k (some f) n cap zs):∀j u,(ints zs)[j]?=some u->w.cell? (f.add j)=some u:=by
 intro j u a;rw[wP]at a;have c:j<zs.length:=by
  rcases a0z j zs.length with h|h
  .exact h
  .rw[a04 h]at a;cases a
 rcases h.at_ with d|⟨b,off,e,i,g⟩
 .have:=h.len
  rw[d]at this;omega
 .cases e
  have:=g j c;rw[a0f c]at a;rw[a0c,a0f c]at this;simp only[a0s,a0i]at a;subst a;by_cases d:j=0
  .subst d;simpa[Addr.add]using this
  .simpa[Addr.add,d]using this
def gZ.empty (w:World) (base:Nat) (e:TypeId) (k:Nat) (h:base<=w.heap.size):gZ (w.alloc (.cells #[] e)) base e k (.slice (some ⟨w.heap.size,0,none⟩) 0 0) 0 [] :=
 World.ownsRow_lit w #[] 0 h (by unfold maxLen;omega) (by simp)
section
variable {P:Program}
def uN (w:World) {ops:Array Oper} {m:List Oper} {o:Oper} {a:Act} {Q:Exit->Act->World->Prop} (D:o.guard=none) (s x:Operand) (t:TypeId)
  (L:o.op=.call { callee:=.builtin .append,args:=#[s,x],argTypes:=#[t,t] })
  (base:Nat) (e:TypeId) (size:Nat) (E:ai5 P t e size)
  (v:Value) (n:Nat) (zs:List Int) (hs:a.eval s=v) (p:gZ w base e size v n zs)
  (b off c:Nat) (g:List Int) (I:a.eval x=.slice (some ⟨b,off,none⟩) 1 c) (T:g.length=size) (S:cD w b off g)
  (M:(n+1)*(size*8)<=140737488355328) (f:base<=w.heap.size)
  (h:∀q w',gZ w' base e size q (n+1) (zs++g)->Below base w w'->wpList P ops Q m (a.put o.dst q) w'):wpList P ops Q (o::m) a w:=by
 obtain⟨J,⟨i,z,O,H,r,F,B⟩,K⟩:=E;have U:n+1<=(n+1)*(size*8):=a3x _ (by omega);refine wpList_append_own w D s x t L base e i z size (size*8) J O H r F B K v n (ints zs) hs p ⟨b,off,none⟩ 1 c (ints g) I (by rw[uY];omega) ?_ ?_ (by unfold maxLen;omega) M f ?_
 .intro j u l
  rw[wP]at l;have d:j<g.length:=by
   rcases a0z j g.length with h|h
   .exact h
   .rw[a04 h]at l;cases l
  have:=S j d;rw[a0f d]at l;rw[a0c,a0f d]at this;simp only[a0s,a0i]at l;subst l;by_cases G:j=0
  .subst G;simpa[Addr.add]using this
  .simpa[Addr.add,G]using this
 .intro u C
  simp only[ints,a0j]at C;obtain⟨y,-,rfl⟩:=C;rfl
 .intro q w' A R _
  refine h q w' ?_ ?_
  .rw[gZ,zR];exact A
  .have d:=World.ownsRow.lt p
   exact(Below.refl base w).grown R f fun k N=>(d k N).1
def PQ (w:World) {ops:Array Oper} {d:List Oper} {o:Oper} {a:Act} {Q:Exit->Act->World->Prop} (D:o.guard=none) (s x:Operand) (t:TypeId)
  (K:o.op=.call { callee:=.builtin .append,args:=#[s,x],argTypes:=#[t,t] })
  (base:Nat) (e:TypeId) (size:Nat) (E:ai5 P t e size)
  (v:Value) (n:Nat) (zs:List Int) (hs:a.eval s=v) (g:gZ w base e size v n zs)
  (r:Addr) (m c:Nat) (q:List Int) (H:a.eval x=.slice (some r) m c) (f:Row w size (some r) m c q)
  (L:(n+m)*(size*8)<=140737488355328) (b:base<=w.heap.size)
  (h:∀j w',gZ w' base e size j (n+m) (zs++q)->Below base w w'->wpList P ops Q d (a.put o.dst j) w'):wpList P ops Q (o::d) a w:=by
 obtain⟨I,⟨i,z,N,G,l,F,A⟩,J⟩:=E;have R:n+m<=(n+m)*(size*8):=a3x _ (by omega);refine wpList_append_own w D s x t K base e i z size (size*8) I N G l F A J v n (ints zs) hs g r m c (ints q) H (by rw[uY];exact f.len) f.cells ?_ (by unfold maxLen;omega) L b ?_
 .intro u B
  simp only[ints,a0j]at B;obtain⟨y,-,rfl⟩:=B;rfl
 .intro j w' p O _
  refine h j w' ?_ ?_
  .rw[gZ,zR];exact p
  .have C:=World.ownsRow.lt g
   exact(Below.refl base w).grown O b fun k M=>(C k M).1
end
end
section
def AE:ai5 Tryz.prog 36 44 2:=by
 refine⟨by kernel_rfl,?_,by decide⟩;obtain⟨i,d,c,b,a⟩:=info_parts (P:=Tryz.prog) (e:=44) (z:=.agg #[.int .i64 0,.int .i64 0]) (size:=2) (bytes:=16) (by kernel_rfl);exact⟨i,_,d,c,b,a,rfl⟩
def acs (a:Option Addr) (n cap:Nat) (zs:List Int) (w:World) (h:Row w 2 a n cap zs) (q:n*16<=140737488355328) :
  Calls Tryz.prog 134 #[.slice a n cap] w fun e w'=>(∃v,e=.returned v/\gZ w' w.heap.size 44 2 v n zs)/\Below w.heap.size w w':=by
 have f:=fun(wx:World) (a:Option Addr) (n c:Nat)=>Lib.run_eql_slice_nil (P:=Tryz.prog) wx 36 44 a n c 0 0 (by kernel_rfl);cases a with
 |none =>
  have k:n=0:=by
   rcases h.at_ with l|⟨b,off,e,-⟩
   .exact l
   .cases e
  subst k;have g:zs=[]:=a4s (by have:=h.len;omega);subst g;go_enter Tryz.func134,Tryz.ntmps134;go_wp2;go_ret;exact⟨⟨_,rfl,gZ.nil _ _ _ _⟩,Below.refl _ _⟩
 |some m =>
  go_enter Tryz.func134,Tryz.ntmps134;go_wp2_with (at_builtin;refine PQ _ rfl _ _ 36 rfl w.heap.size 44 2 AE _ 0 [] rfl (gZ.empty _ _ _ _ (a0g _)) m n cap zs rfl (h.below ((Below.refl _ _).alloc (a0g _) _)) (by omega) (by simp) ?_);intro p o d j;have i:=((Below.refl w.heap.size w).alloc (a0g _) _).trans j;clear j f;go_wp2;go_ret;exact⟨⟨_,rfl,by simpa using d⟩,i⟩
def Np:ai5 Tryz.prog 22 3 1:=by
 refine⟨by kernel_rfl,?_,by decide⟩;obtain⟨i,d,c,b,a⟩:=info_parts (P:=Tryz.prog) (e:=3) (z:=.int .i64 0) (size:=1) (bytes:=8) (by kernel_rfl);exact⟨i,_,d,c,b,a,rfl⟩
section
variable {P:Program} {Q:Exit->Act->World->Prop}
end
end
section
variable {o:Oper} {ρ:Operand->Value}
section
variable {P:Program} {Q:Exit->Act->World->Prop}
def Step (P:Program) (o:Oper) (ρ:Operand->Value) (w:World) (v:Value) (w':World):Prop :=
 ∀a:Act,execOp a.eval o=execOp ρ o->∀(K:Act->World->Prop) (Q:Exit->Act->World->Prop),K (a.put o.dst v) w'->o.wp P a w K Q
def Step.call {w d w':World} {v:Value} {f:FuncId} {args:Array Value} (h:(execOp ρ o).run P w=.ok (.enter f args) d) (c:Calls P f args d fun e b=>e=.returned v/\b=w'):Step P o ρ w v w':=by
 intro a e K Q g;unfold Oper.wp;rw[e,h];exact Calls.mono c fun e b ⟨j,i⟩=>by subst j;subst i;exact g
def adZ (P:Program) (o:Oper) (ρ:Operand->Value) (w:World) (v:Value) (B:World->Prop):Prop :=
 ∀a:Act,execOp a.eval o=execOp ρ o->∀(K:Act->World->Prop) (Q:Exit->Act->World->Prop),(∀w',B w'->K (a.put o.dst v) w')->o.wp P a w K Q
def adZ.call {w d:World} {v:Value} {B:World->Prop} {f:FuncId} {args:Array Value} (h:(execOp ρ o).run P w=.ok (.enter f args) d) (c:Calls P f args d fun e b=>e=.returned v/\B b):adZ P o ρ w v B:=by
 intro a e K Q g;unfold Oper.wp;rw[e,h];exact Calls.mono c fun e b ⟨j,i⟩=>by subst j;exact g b i
def Fm (P:Program) (W:Nat->World->Prop) (a:List Nat) (ρ:Operand->Value):List Oper->List Value->List (Nat×Nat)->Nat->Prop
 |[],_,_,_=>True
 |o::l,vs,ws,i=>(∀s w,(ws.headD (0,0)).1<=s->s<=(ws.headD (0,0)).2->W s w->adZ P o ρ w (vs.headD undef) (W (if a.contains i then s+1 else s)))/\Fm P W a ρ l vs.tail ws.tail (i+1)
def Fm.call {W:Nat->World->Prop} {a:List Nat} {l:List Oper} {v:Value} {vs:List Value} {b c:Nat} {ws:List (Nat×Nat)} {i:Nat} (hs:a.contains i=false)
  (h:∀s w,b<=s->s<=c->W s w->adZ P o ρ w v (W s)) (t:Fm P W a ρ l vs ws (i+1)):Fm P W a ρ (o::l) (v::vs) ((b,c)::ws) i:=by
 refine⟨fun s w f e d=>?_,t⟩;rw[hs];exact h s w f e d
end
end
section
variable {j k:Nat}
theorem gO {a b:World} (h:Below a.heap.size a b) (k:Nat) (v:Value):Below a.heap.size a (b.setCell ⟨a.heap.size,k,none⟩ v):=h.setCell (a0g _) v
def aoK {a b:World} {n:Nat} (h:Below a.heap.size a b) (c:a.heap.size<=n) (k:Nat) (v:Value):Below a.heap.size a (b.setCell ⟨n,k,none⟩ v):=h.setCell c v
def blw {P:Prop} (h:P:=by(repeat (first|assumption|exact Below.refl _ _|refine aoN ?_ _|refine aoM ?_|refine ND ?_ _|refine gO ?_ _ _|refine aoK ?_ (by omega) _ _|refine aoJ ?_ (by assumption)))):P:=h
structure bP where
 q:Int
 v:Int
 p:Int
def bP.val (x:bP):Value:=.agg #[.int .i64 x.q,.int .i64 x.v,.int .i64 x.p]
def bP.zero:bP:=⟨0,0,0⟩
def flat (l:List bP):List Int:=l.flatMap fun x=>[x.q,x.v,x.p]
def ah3 (l:List bP):(flat l).length=l.length*3:=by
 induction l with
 |nil=>rfl
 |cons x l a=>simp only[flat,a3i,a1o,a0v,a20]at a |-;omega
def flat_get (l:List bP):∀(i:Nat) (x:bP),l[i]?=some x->(flat l).getD (i*3) 0=x.q/\(flat l).getD (i*3+1) 0=x.v/\(flat l).getD (i*3+2) 0=x.p:=by
 induction l with
 |nil=>intro i x h;simp at h
 |cons y l b =>
  intro i x h;cases i with
  |zero=>simp at h;subst h;exact⟨rfl,rfl,rfl⟩
  |succ i =>
   have:=b i x (by simpa using h)
   have e:∀k,(flat (y::l)).getD ((i+1)*3+k) 0=(flat l).getD (i*3+k) 0:=by
    intro k;show([y.q,y.v,y.p]++flat l).getD ((i+1)*3+k) 0=_;rw[a0c,a14 (by simp;omega),<-a0c];congr 1;simp;omega
   have a:=e 0;have e1:=e 1;have e2:=e 2;simp only[a2q]at a;rw[a,e1,e2];exact this
def ah4 {l:List bP} (h:fM (flat l)):fM (l.map (·.q))/\fM (l.map (·.v))/\fM (l.map (·.p)):=by
 have H:∀x,x∈l->kS x.q/\kS x.v/\kS x.p:=fun x a =>
  ⟨h _ (a2d.2 ⟨x,a,by simp⟩),h _ (a2d.2 ⟨x,a,by simp⟩),h _ (a2d.2 ⟨x,a,by simp⟩)⟩
 refine⟨fun z b=>?_,fun z b=>?_,fun z b=>?_⟩ <;>
  (obtain⟨x,a,rfl⟩:=a0j.1 b;first|exact(H x a).1|exact(H x a).2.1|exact(H x a).2.2)
def qC (l:List bP):Bool:=decide (eB (l.map (·.q))=0)&&decide (eB (l.map (·.v))=0)&&decide (eB (l.map (·.p))=0)
def uL (l:List bP):bP:=if qC l then⟨dP (l.map (·.q)),dP (l.map (·.v)),dP (l.map (·.p))⟩else .zero
def N5 (l:List bP):Int:=if qC l then 0 else 2
def aay {l:List bP} (h:qC l=false):uL l=.zero/\N5 l=2:=by simp[uL,N5,h]
def Lt {l:List bP} (h:qC l=true):uL l=⟨dP (l.map (·.q)),dP (l.map (·.v)),dP (l.map (·.p))⟩/\N5 l=0:=by simp[uL,N5,h]
def kQ (x:bP):Bool:=decide (1<=x.q)&&decide (x.q<=288230376151711744)&&decide (0<=x.v)&&decide (x.v<=288230376151711744)&&decide (-288230376151711744<=x.p)&&decide (x.p<=288230376151711744)
def Ie {w wr:World} {b off:Nat} {l:List bP} {x:bP} (g:cD w b off (flat l)) (c:l[j]?=some x) (n:b<w.heap.size) (e:Below w.heap.size w wr) :
  wr.cell? ⟨b,off+j*3,none⟩=some (.int .i64 x.q)/\wr.cell? ⟨b,off+j*3+1,none⟩=some (.int .i64 x.v)/\wr.cell? ⟨b,off+j*3+2,none⟩=some (.int .i64 x.p):=by
 have d:=flat_get l j x c;have k:=ah3 l;have m:j<l.length:=by
  rcases a0z j l.length with h|h
  .exact h
  .rw[a04 h]at c;cases c
 have a:∀i,i<(flat l).length->wr.cell? ⟨b,off+i,none⟩=some (.int .i64 ((flat l).getD i 0)):=fun i f=>by
  rw[e.cell (by show b<_;omega)];exact g i f
 refine⟨by rw[a (j*3) (by omega),d.1],by rw[a2r,a (j*3+1) (by omega),d.2.1],by rw[a2r,a (j*3+2) (by omega),d.2.2]⟩
def aiS {l:List bP} {x:bP} {f:bP->Bool} (a:l[j]?=some x):(l.take (j+1)).all f=((l.take j).all f&&f x):=by
 rw[a0u,a];simp
def eE {x:bP}:kQ x=true↔1<=x.q/\x.q<=288230376151711744/\0<=x.v/\x.v<=288230376151711744/\-288230376151711744<=x.p/\x.p<=288230376151711744:=by
 simp[kQ,and_assoc]
def kO (x:bP):Int:=max x.p (-x.p)
def anS {l:List bP} {x:bP} {f:bP->Bool} (h:l.all f=true) (a:l[j]?=some x):f x=true:=a0k.1 h x (a0a a)
@[go_sem] theorem bP.ao4 (x:bP):x.val=.agg #[.int .i64 x.q,.int .i64 x.v,.int .i64 x.p]:=rfl
@[go_sem] theorem bP.ao2:bP.zero.q=0:=rfl
@[go_sem] theorem bP.ao1:bP.zero.v=0:=rfl
@[go_sem] theorem bP.ao3:bP.zero.p=0:=rfl
def lM (l:List bP):Bool:=decide (l.length<=30)&&l.all kQ&&qC l&&decide (eB (l.map kO)=0)
structure amC (w:World) (b:Nat) (x y z:Int):Prop where
 c0:w.cell? ⟨b,0,none⟩=some (.int .i64 x)
 c1:w.cell? ⟨b,1,none⟩=some (.int .i64 y)
 c2:w.cell? ⟨b,2,none⟩=some (.int .i64 z)
 f0:w.frozen? ⟨b,0,none⟩=false
 f1:w.frozen? ⟨b,1,none⟩=false
 f2:w.frozen? ⟨b,2,none⟩=false
def Et (a b:Int) (w:World):Calls Tryz.prog 83 #[.int .i64 a,.int .i64 b] w fun e w'=>e=.returned (.tuple #[.int .i64 (mY a b),.int .i64 (mZ a b)])/\w'=w :=
 (Am a b w).mono fun _ _ h=>⟨h.1,h.2.symm⟩
def Sn {zs:List Int} (e:dM 0 (zs.take k)=none):eB zs=2:=by simp[eB,Cy e]
def aoQ {l:List bP} (e:dM 0 ((l.map (·.q)).take k)=none):qC l=false:=by simp[qC,Sn e]
def aoP {l:List bP} (e:dM 0 ((l.map (·.v)).take k)=none):qC l=false:=by simp[qC,Sn e]
def aoO {l:List bP} (e:dM 0 ((l.map (·.p)).take k)=none):qC l=false:=by simp[qC,Sn e]
def Ak {l:List bP} {x:bP} {f:bP->Int} {n:Int} (a:l[j]?=some x) (e:dM 0 ((l.map f).take j)=some n) :
  dM 0 ((l.map f).take (j+1))=if gD n (f x)then some (n+f x)else none:=by
 have b:j<(l.map f).length:=by
  rcases a0z j l.length with h|h
  .simpa using h
  .rw[a04 h]at a;cases a
 rw[xG b e];have:(l.map f).getD j 0=f x:=by rw[a0c,a0l,a];rfl
 rw[this]
def MD (a:Option Addr) (cap:Nat) (l:List bP) (w:World) (h:Row w 3 a l.length cap (flat l)) :
  Calls Tryz.prog 198 #[.slice a l.length cap] w fun e w'=>e=.returned (.tuple #[(uL l).val,.int .i64 (N5 l)])/\Below w.heap.size w w':=by
 obtain⟨hl,Y,M,N,I⟩:=h;unfold maxLen at M;go_enter Tryz.func198,Tryz.ntmps198;obtain⟨hq,hv,hp⟩:=ah4 N;go_wp2
 go_loopw [5] (fun i wr=>∃(j:Nat) (q v p:Int),j<=l.length/\i=.int .i64 j/\dM 0 ((l.map (·.q)).take j)=some q/\dM 0 ((l.map (·.v)).take j)=some v/\dM 0 ((l.map (·.p)).take j)=some p /\
  amC wr w.heap.size 0 0 0/\amC wr (w.heap.size+1) q v p/\w.heap.size+2<=wr.heap.size/\Below w.heap.size w wr) (fun i _=>l.length-(intOf i).toNat)
 case atStart=>exact⟨0,0,0,0,by omega,rfl,rfl,rfl,rfl,⟨by simp,by simp,by simp,by simp,by simp,by simp⟩,⟨by simp,by simp,by simp,by simp,by simp,by simp⟩,by simp,blw⟩
 case round =>
  obtain⟨j,q,v,p,hj,rfl,D,C,B,⟨r0,r1,r2,m,k,g⟩,⟨L,K,J,A,z,y⟩,u,c⟩:=hrel;have t:=c.size;by_cases H:j<l.length
  .obtain⟨b,off,rfl,Z,V⟩:∃b off,a=some ⟨b,off,none⟩/\b<w.heap.size/\cD w b off (flat l):=by
    rcases I with W|W
    .omega
    .exact W
   obtain⟨x,s⟩:∃x,l[j]?=some x:=⟨l[j],by simp[H]⟩;obtain⟨R,Q,P⟩:=Ie V s Z c;have X:(j:Int)<(l.length:Int):=(by omega);have r:=Ak (f:=(·.q)) s D;have o:=Ak (f:=(·.v)) s C;have n:=Ak (f:=(·.p)) s B;have s:=Lib.hid s;clear V I D C B;have r:=Lib.hid r;have o:=Lib.hid o;have n:=Lib.hid n;go_wp2_with fail;go_quiet ((go_at_call 83;refine Calls.quiet_of_same (Et _ _ _)));change (wr.drewN nq).cell? _=_ at L K J r0 r1 r2 R Q P;change (wr.drewN nq).frozen? _=_ at A z y m k g;change _<=(wr.drewN nq).heap.size at u t;replace c:=ND c nq;generalize wr.drewN nq=wr at *;go_wp2_with fail;go_quiet ((go_at_call 83;refine Calls.quiet_of_same (Et _ _ _)));change (wr.drewN nq).cell? _=_ at L K J r0 r1 r2 R Q P;change (wr.drewN nq).frozen? _=_ at A z y m k g;change _<=(wr.drewN nq).heap.size at u t;replace c:=ND c nq;generalize wr.drewN nq=wr at *;go_wp2_with fail;go_quiet ((go_at_call 83;refine Calls.quiet_of_same (Et _ _ _)));change (wr.drewN nq).cell? _=_ at L K J r0 r1 r2 R Q P;change (wr.drewN nq).frozen? _=_ at A z y m k g;change _<=(wr.drewN nq).heap.size at u t;replace c:=ND c nq;generalize wr.drewN nq=wr at *;cases G:gD q x.q
   .have S:=lJ G
    go_wp2_with fail;have d:=aay (l:=l) (aoQ (by have:=r.out;rw[this,G];rfl));exact bodyPost_ret (v:=.tuple #[bP.zero.val,.int .i64 2]) (by simp[results,Tryz.results198,go_sem,r0,r1,r2,m,k,g]) rfl ⟨by rw[d.1,d.2],blw⟩
   have m1:=vD G;cases F:gD v x.v
   .have S:=lJ F
    go_wp2_with fail;have d:=aay (l:=l) (aoP (by have:=o.out;rw[this,F];rfl));exact bodyPost_ret (v:=.tuple #[bP.zero.val,.int .i64 2]) (by simp[results,Tryz.results198,go_sem,r0,r1,r2,m,k,g]) rfl ⟨by rw[d.1,d.2],blw⟩
   have m2:=vD F;cases E:gD p x.p
   .have S:=lJ E
    go_wp2_with fail;have d:=aay (l:=l) (aoO (by have:=n.out;rw[this,E];rfl));exact bodyPost_ret (v:=.tuple #[bP.zero.val,.int .i64 2]) (by simp[results,Tryz.results198,go_sem,r0,r1,r2,m,k,g]) rfl ⟨by rw[d.1,d.2],blw⟩
   have m3:=vD E;go_wp2_with fail
   case' roundEnd =>
    have r:=r.out;have o:=o.out;have n:=n.out;rw[G]at r;rw[F]at o;rw[E]at n;refine⟨⟨j+1,q+x.q,v+x.v,p+x.p,H,by simp,r,o,n,⟨by go_simp,by go_simp,by go_simp,by simp[m],by simp[k],by simp[g]⟩,⟨by go_simp,by go_simp,by go_simp,by simp[A],by simp[z],by simp[y]⟩,by simp;omega,blw⟩,?_⟩;simp[intOf];omega
  .have ej:j=l.length:=by omega
   subst ej;have aa:¬ ((l.length:Int)<(l.length:Int)):=by omega
   have e1:dM 0 (l.map (·.q))=some q:=(by rw[<-D,a1l (by simp)]);have e2:dM 0 (l.map (·.v))=some v:=(by rw[<-C,a1l (by simp)]);have O:dM 0 (l.map (·.p))=some p:=(by rw[<-B,a1l (by simp)]);have d:=Lt (l:=l) (by simp[qC,eB,e1,e2,O]);have U:uL l=⟨q,v,p⟩:=by rw[d.1];simp[dP,e1,e2,O]
   have T:=d.2;clear D C B e1 e2 O d;go_wp2_with fail;exact bodyPost_ret (v:=.tuple #[.agg #[.int .i64 q,.int .i64 v,.int .i64 p],.int .i64 0]) (by simp[results,Tryz.results198,go_sem,r0,r1,r2,m,k,g]) rfl ⟨by first|rfl|(rw[U,T];rfl),blw⟩
def OY (a:Option Addr) (cap:Nat) (l:List bP) (w:World) (h:Row w 3 a l.length cap (flat l)) (o:l.all kQ=true) :
  Calls Tryz.prog 197 #[.slice a l.length cap] w fun e w'=>e=.returned (.tuple #[.int .i64 (dP (l.map kO)),.int .i64 (eB (l.map kO))])/\Below w.heap.size w w':=by
 obtain⟨Q,E,t,F,s⟩:=h;unfold maxLen at t;go_enter Tryz.func197,Tryz.ntmps197;go_wp2;go_loopw [4,5] (fun n i wr=>∃(j:Nat) (q:Int),j<=l.length/\i=.int .i64 j/\n=.int .i64 q/\dM 0 ((l.map kO).take j)=some q/\Below w.heap.size w wr) (fun _ i _=>l.length-(intOf i).toNat)
 case atStart=>exact⟨0,0,by omega,rfl,rfl,rfl,blw⟩
 case round =>
  obtain⟨j,q,R,rfl,rfl,m,c⟩:=hrel;have y:=c.size;by_cases r:j<l.length
  .obtain⟨b,off,rfl,u,z⟩:∃b off,a=some ⟨b,off,none⟩/\b<w.heap.size/\cD w b off (flat l):=by
    rcases s with B|B
    .omega
    .exact B
   obtain⟨x,k⟩:∃x,l[j]?=some x:=⟨l[j],by simp[r]⟩;obtain⟨K,J,I⟩:=Ie z k u c;have D:(j:Int)<(l.length:Int):=(by omega);have d:=Ak (f:=kO) k m;obtain⟨-,-,-,-,N,M⟩:=eE.1 (anS o k);have v:IntKind.i64.wrap (-x.p)=-x.p:=IntWalk.i64_in _ (by omega);have k:=Lib.hid k;clear z s m o;have d:=Lib.hid d;go_wp2_with fail;go_quiet ((go_at_call 83;refine Calls.quiet_of_same (Et _ (kO x) _)));change (wr.drewN nq).cell? _=_ at K J I;change _<=(wr.drewN nq).heap.size at y;replace c:=ND c nq;generalize wr.drewN nq=wr at *;clear v;have L:¬ x.p < -288230376151711744:=by omega
   cases g:gD q (kO x)
   .have P:=lJ g
    go_wp2_with fail;have u:eB (l.map kO)=2:=Sn (by have:=d.out;rw[this,g];rfl)
    have A:dP (l.map kO)=0:=by
     have:dM 0 (l.map kO)=none:=Cy (by have:=d.out;rw[this,g];rfl);simp[dP,this]
    go_ret2;exact⟨by rw[u,A];rfl,blw⟩
   .have C:=vD g
    go_wp2_with fail
    case' roundEnd =>
     have d:=d.out;rw[g]at d;refine⟨⟨j+1,q+kO x,r,by simp,by rw[C.1],d,blw⟩,?_⟩;simp[intOf];omega
  .have G:j=l.length:=by omega
   subst G;have O:¬ ((l.length:Int)<(l.length:Int)):=by omega
   have e1:dM 0 (l.map kO)=some q:=(by rw[<-m,a1l (by simp)]);have e2:dP (l.map kO)=q:=(by simp[dP,e1]);have H:eB (l.map kO)=0:=(by simp[eB,e1]);clear m e1;go_wp2_with fail;go_ret2;exact⟨by first|rfl|rw[e2,H],blw⟩
def agd {l:List bP} {x:bP} (a:l[j]?=some x) (h:kQ x=false):lM l=false:=by
 have:l.all kQ=false:=List.all_eq_false.2 ⟨x,a0a a,by simp[h]⟩;simp[lM,this]
def My {l:List bP}:lM l=true↔(l.length:Int)<=30/\l.all kQ=true/\N5 l=0/\eB (l.map kO)=0:=by
 have k:qC l=decide (N5 l=0):=by unfold N5;split<;>simp_all
 have a:(l.length<=30)↔(l.length:Int)<=30:=by omega
 simp only[lM,k,a0e,decide_eq_true_eq,a,and_assoc]
def aaW (a:Option Addr) (cap:Nat) (l:List bP) (w:World) (h:Row w 3 a l.length cap (flat l)) (B:l.length<=1000) :
  Calls Tryz.prog 199 #[.slice a l.length cap] w fun e w'=>e=.returned (.bool (lM l))/\Below w.heap.size w w':=by
 have g:=h;obtain⟨C,r,n,t,m⟩:=h;unfold maxLen at n;go_enter Tryz.func199,Tryz.ntmps199
 try simp only[List.append_eq,a2a,a35]
 go_wp2;go_loopw [3] (fun i wr=>∃(j:Nat),j<=l.length/\i=.int .i64 j/\(l.take j).all kQ=true/\Below w.heap.size w wr) (fun i _=>l.length-(intOf i).toNat)
 case atStart=>exact⟨0,by omega,rfl,rfl,blw⟩
 case round =>
  obtain⟨j,D,rfl,T,f⟩:=hrel;have z:=f.size;by_cases k:j<l.length
  .obtain⟨b,off,rfl,s,o⟩:∃b off,a=some ⟨b,off,none⟩/\b<w.heap.size/\cD w b off (flat l):=by
    rcases m with g|g
    .omega
    .exact g
   obtain⟨x,c⟩:∃x,l[j]?=some x:=⟨l[j],by simp[k]⟩;obtain⟨G,F,E⟩:=Ie o c s f;have p:(j:Int)<(l.length:Int):=(by omega);have c:=Lib.hid c;clear o m;go_wp2_with (first|(go_at_call 144;refine(sZ _ _).mono ?_;rintro e w' ⟨rfl,rfl⟩))
   case' roundEnd =>
    have d:kQ x=true:=by
     rw[eE];simp_all [mJ]
     try omega
    have c:l[j]?=some x:=c;refine⟨⟨j+1,k,by simp,by rw[aiS c,T,d];rfl,blw⟩,?_⟩;simp[intOf];omega
   all_goals
    have d:kQ x=false:=by
     cases q:kQ x
     .rfl
     .exfalso
      rw[eE]at q;simp_all [mJ]
      try omega
    have c:l[j]?=some x:=c;go_ret;exact⟨lT (by rw[agd c d]),blw⟩
  .have u:j=l.length:=by omega
   subst u;have A:¬ ((l.length:Int)<(l.length:Int)):=by omega
   rw[a1g]at T;have hs:=fun w h=>OY a cap l w h T
   go_wp2_with (first|(go_at_call 198;refine(MD a cap l _ (g.below blw)).mono ?_;rintro e w' ⟨rfl,y⟩)|(go_at_call 197;refine(hs _ (g.below blw)).mono ?_;rintro e w' ⟨rfl,v⟩))
   all_goals (go_ret;refine⟨lT ?_,blw⟩;rw[a4a,My];simp_all<;>omega)
deriving instance DecidableEq for bP
def wG (l:List Int):∀(n s:Int),dM n l=some s->s=n+l.sum:=by
 induction l with
 |nil=>intro n s h;simp[dM]at h;simp[h]
 |cons z l a =>
  intro n s h;simp only[dM]at h;split at h
  .have:=a _ _ h
   rw[this,a0p];omega
  .cases h
def mW (x:bP) (q:Int):bP:=⟨q,dK x.v q x.q,dK x.p q x.q⟩
def mC (x y:bP):bP:=⟨x.q-y.q,x.v-y.v,x.p-y.p⟩
def lD (x y:bP):bP:=⟨x.q+y.q,x.v+y.v,x.p+y.p⟩
def jL:List bP->bP->Int->List bP×bP
 |[],a,_=>([],a)
 |x::r,a,q=>if q<=0 then(x::r,a)else if q<x.q then(mC x (mW x q)::r,lD a (mW x q))else jL r (lD a x) (q-x.q)
def FW {r:List bP} {a:bP} {q:Int} (h:q<=0):jL r a q=(r,a):=by
 cases r<;>simp[jL,h]
def uV {v q n:Int} (d:1<=n) (c:0<=q) (b:q<=n) (a:0<=v):0<=v*q/n/\v*q/n<=v:=by
 refine⟨a2o (a0q a c) (by omega),a25 (by omega) (a11 b a)⟩
def Ap {v q n:Int} (d:1<=n) (c:0<=q) (a:q<=n) (e:mJ v=true):(0<=v->0<=dK v q n/\dK v q n<=v)/\(v<0->v<=dK v q n/\dK v q n<=0):=by
 have h:¬ (n<1\/q<0\/q > n\/mJ v=false):=by rw[e];simp;omega
 refine⟨fun b=>?_,fun b=>?_⟩
 .rw[Tx h (by omega)]
  exact uV d c a b
 .rw[Ty h b]
  have:=uV (v:=-v) d c a (by omega);omega
structure aoY (x:bP) (q:Int):Prop where
 v0:0<=dK x.v q x.q
 v1:dK x.v q x.q<=x.v
 p0:-288230376151711744<=dK x.p q x.q
 p1:dK x.p q x.q<=288230376151711744
 d0:-288230376151711744<=x.p-dK x.p q x.q
 d1:x.p-dK x.p q x.q<=288230376151711744
def abS {x:bP} {q:Int} (h:kQ x=true) (d:0<=q) (h1:q<=x.q):aoY x q:=by
 obtain⟨c,k,e,j,i,g⟩:=eE.1 h;have a:=Ap (v:=x.v) c d h1 (fG.2 ⟨by omega,by omega⟩);have b:=Ap (v:=x.p) c d h1 (fG.2 ⟨by omega,by omega⟩)
 have l:=a.1 e;refine⟨by omega,by omega,?_,?_,?_,?_⟩ <;>
  (by_cases f:0<=x.p
   .have:=b.1 f;omega
   .have:=b.2 (by omega);omega)
def fN (l:List bP) (q:Int):List bP×bP×Int :=
 if q<1 then(l,.zero,1)else if(uL l).q<q then(l,.zero,5)else((jL l .zero q).1,(jL l .zero q).2,0)
def aaN {l:List bP} (h:lM l=true):∃d sv f,dM 0 (l.map (·.q))=some d/\dM 0 (l.map (·.v))=some sv/\dM 0 (l.map (·.p))=some f/\uL l=⟨d,sv,f⟩:=by
 have a:qC l=true:=by
  simp only[lM,a0e]at h;exact h.1.2
 have k:=(Lt a).1
 simp only[qC,a0e,decide_eq_true_eq]at a;have c:∀zs,eB zs=0->∃s,dM 0 zs=some s/\dP zs=s:=fun zs b=>by
  unfold eB at b;cases e:dM 0 zs with
  |none=>rw[e]at b;simp at b
  |some s=>exact⟨s,rfl,by simp[dP,e]⟩
 obtain⟨j,e1,o⟩:=c _ a.1.1;obtain⟨i,e2,n⟩:=c _ a.1.2;obtain⟨g,r,m⟩:=c _ a.2;exact⟨j,i,g,e1,e2,r,by rw[k,o,n,m]⟩
def eU (l:List Int):Int:=(l.map fun z=>max z (-z)).sum
def fX (z:Int) (l:List Int):eU (z::l)=max z (-z)+eU l:=by simp[eU]
def yK (l:List Int):0<=eU l:=by
 induction l with
 |nil=>simp[eU]
 |cons z l a=>rw[fX];omega
def IC {l:List Int} (h:∀z,z∈l->0<=z):eU l=l.sum:=by
 induction l with
 |nil=>rfl
 |cons z l a =>
  rw[fX,a0p,a fun y b=>h y (by simp[b])];have:=h z (by simp);omega
def PV (l:List Int):-eU l<=l.sum/\l.sum<=eU l:=by
 induction l with
 |nil=>simp[eU]
 |cons z l a=>rw[fX,a0p];omega
def mR (l:List Int):∀n:Int,max n (-n)+eU l<=288230376151711744->dM n l=some (n+l.sum):=by
 induction l with
 |nil=>intro n _;simp[dM]
 |cons z l b =>
  intro n h;rw[fX]at h;have:=yK l;have a:gD n z=true:=pR.2 ⟨fG.2 ⟨by omega,by omega⟩,fG.2 ⟨by omega,by omega⟩,fG.2 ⟨by omega,by omega⟩⟩;simp only[dM,a,if_true];rw[b _ (by omega),a0p];congr 1;omega
def Me (l:List Int):∀n s:Int,mJ n=true->dM n l=some s->mJ s=true:=by
 induction l with
 |nil=>intro n s a h;simp[dM]at h;subst h;exact a
 |cons z l b =>
  intro n s a h;simp only[dM]at h;split at h
  .rename_i k;exact b _ _ (pR.1 k).2.2 h
  .cases h
def aee {l:List Int} (h:eB l=0):dM 0 l=some l.sum/\mJ l.sum=true:=by
 unfold eB at h;cases e:dM 0 l with
 |none=>rw[e]at h;simp at h
 |some s =>
  have a:=wG _ _ _ e;have b:=Me l 0 s (by decide +kernel) e;have:s=l.sum:=by omega
  subst this;exact⟨rfl,b⟩
def Eg {l:List Int} (h:eU l<=288230376151711744):eB l=0/\dP l=l.sum:=by
 have:=mR l 0 (by simpa using h);simp[eB,dP,this]
def qs (l:List bP):Int:=(l.map (·.q)).sum
def vs (l:List bP):Int:=(l.map (·.v)).sum
def ps (l:List bP):Int:=(l.map (·.p)).sum
def yT (l:List bP):Int:=eU (l.map (·.p))
def gE (x:bP) (l:List bP):qs (x::l)=x.q+qs l:=by simp[qs]
def kD (x:bP) (l:List bP):vs (x::l)=x.v+vs l:=by simp[vs]
def LC (x:bP) (l:List bP):ps (x::l)=x.p+ps l:=by simp[ps]
def wW (x:bP) (l:List bP):yT (x::l)=max x.p (-x.p)+yT l:=by simp[yT,fX]
def NH (l:List bP):0<=yT l:=yK _
def Ew (l:List bP):-yT l<=ps l/\ps l<=yT l:=PV _
structure LR (l:List bP):Prop where
 len:l.length<=30
 ok:∀x,x∈l->kQ x=true
 q:qs l<=288230376151711744
 v:vs l<=288230376151711744
 p:yT l<=288230376151711744
def LR.at_ {l:List bP} (h:LR l) {x:bP} (a:x∈l):1<=x.q/\x.q<=288230376151711744/\0<=x.v/\x.v<=288230376151711744/\-288230376151711744<=x.p/\x.p<=288230376151711744:=eE.1 (h.ok x a)
def LR.tail {x:bP} {l:List bP} (h:LR (x::l)):LR l:=by
 obtain⟨a,b,c,d,e⟩:=h;have:=eE.1 (b x (by simp));rw[gE]at c;rw[kD]at d;rw[wW]at e;simp only[a0v]at a;exact⟨by omega,fun y f=>b y (by simp[f]),by omega,by omega,by omega⟩
def fQ {l:List bP} (h:∀x,x∈l->kQ x=true):0<=qs l/\0<=vs l/\(l.length:Int)<=qs l:=by
 induction l with
 |nil=>simp[qs,vs]
 |cons x l a =>
  have:=eE.1 (h x (by simp));have:=a fun y b=>h y (by simp[b]);rw[gE,kD,a0v];omega
def LR.FD {l:List bP} (h:LR l):dM 0 (l.map (·.q))=some (qs l)/\dM 0 (l.map (·.v))=some (vs l)/\dM 0 (l.map (·.p))=some (ps l)/\dM 0 (l.map kO)=some (yT l):=by
 have e1:eU (l.map (·.q))=qs l:=IC fun z a=>by obtain⟨x,b,rfl⟩:=a0j.1 a;have:=h.at_ b;omega
 have e2:eU (l.map (·.v))=vs l:=IC fun z a=>by obtain⟨x,b,rfl⟩:=a0j.1 a;have:=h.at_ b;omega
 have g:(l.map kO).sum=yT l:=by simp only[yT,eU,a16];rfl
 have m:eU (l.map kO)=yT l:=by rw[IC,g];intro z a;obtain⟨x,b,rfl⟩:=a0j.1 a;unfold kO;omega
 have k:=h.q;have j:=h.v;have i:=h.p;have f:=mR (l.map (·.q)) 0 (by omega);have e:=mR (l.map (·.v)) 0 (by omega);have d:=mR (l.map (·.p)) 0 (by unfold yT at i;omega);have c:=mR (l.map kO) 0 (by omega);rw[g]at c;simp only[a2v]at f e d c;exact⟨f,e,d,c⟩
def LR.uL {l:List bP} (h:LR l):uL l=⟨qs l,vs l,ps l⟩/\N5 l=0:=by
 obtain⟨a,b,c,-⟩:=h.FD;have d:qC l=true:=by simp[qC,eB,a,b,c]
 rw[(Lt d).1,(Lt d).2];simp[dP,a,b,c]
def LR.of {l:List bP} (h:lM l=true):LR l:=by
 obtain⟨a,b,c,d⟩:=My.1 h;obtain⟨g,sv,i,e1,e2,p,o⟩:=aaN h;have n:=fG.1 (Me _ 0 _ (by decide +kernel) e1);have m:=fG.1 (Me _ 0 _ (by decide +kernel) e2);have k:=wG _ _ _ e1;have j:=wG _ _ _ e2;have e:=(aee d).2;have f:(l.map kO).sum=yT l:=by simp only[yT,eU,a16];rfl
 rw[f]at e;have e:=fG.1 e;exact⟨by omega,a0k.1 b,by unfold qs;omega,by unfold vs;omega,by omega⟩
def LR.nil:LR []:=⟨by simp,fun x a=>by simp at a,by simp[qs],by simp[vs],by simp[yT,eU]⟩
def LR.one {x:bP} (h:kQ x=true):LR [x]:=by
 have k:=eE.1 h;refine⟨by simp,fun y a=>?_,by simp[qs];omega,by simp[vs];omega,by simp[yT,eU];omega⟩
 rw[a05.1 a];exact h
def ais {x:bP} {q:Int} (h:kQ x=true) (d:0<=q) (h1:q<=x.q) :
  max (x.p-dK x.p q x.q) (-(x.p-dK x.p q x.q))<=max x.p (-x.p)/\max (dK x.p q x.q) (-dK x.p q x.q)<=max x.p (-x.p):=by
 obtain⟨a,j,i,g,f,e⟩:=eE.1 h;have b:=Ap (v:=x.p) a d h1 (fG.2 ⟨by omega,by omega⟩);by_cases c:0<=x.p
 .have:=b.1 c;omega
 .have:=b.2 (by omega);omega
def anA {x:bP} {q:Int} (h:kQ x=true) (i:1<=q) (h1:q<x.q):kQ (mC x (mW x q))=true/\kQ (mW x q)=true:=by
 obtain⟨g,f,e,d,c,a⟩:=eE.1 h;have b:=abS h (q:=q) (by omega) (by omega);have:=b.v0;have:=b.v1;have:=b.p0;have:=b.p1;have:=b.d0;have:=b.d1;simp only[eE,mC,mW];omega
def adf (l:List bP):∀(a:bP) (q:Int),LR l->LR (jL l a q).1/\qs (jL l a q).1<=qs l/\vs (jL l a q).1<=vs l/\yT (jL l a q).1<=yT l:=by
 induction l with
 |nil=>intro a q h;exact⟨h,a0h _,a0h _,a0h _⟩
 |cons x r e =>
  intro a q h;simp only[jL];have b:=h.ok x (by simp);have t:=eE.1 b;split
  .exact⟨h,a0h _,a0h _,a0h _⟩
  .split
   .have c:=anA b (q:=q) (by omega) (by omega)
    have u:=ais b (q:=q) (by omega) (by omega);have i:=abS b (q:=q) (by omega) (by omega);have e1:qs (mC x (mW x q)::r)=qs (x::r)-q:=by rw[gE,gE];simp only[mC,mW];omega
    have e2:vs (mC x (mW x q)::r)=vs (x::r)-dK x.v q x.q:=by rw[kD,kD];simp only[mC,mW];omega
    have g:yT (mC x (mW x q)::r)<=yT (x::r):=by rw[wW,wW];simp only[mC,mW];omega
    have:=i.v0;have o:=h.q;have n:=h.v;have s:=h.p;dsimp only;exact⟨⟨h.len,fun y d=>by rcases a0d.1 d with rfl|d;exact c.1;exact h.ok y (by simp[d]),by omega,by omega,by omega⟩,by omega,by omega,g⟩
   .obtain⟨f,m,k,j⟩:=e (lD a x) (q-x.q) h.tail
    rw[gE,kD,wW];exact⟨f,by omega,by omega,by omega⟩
def tT (l:List bP):∀(a:bP) (q:Int),LR l->0<=q->q<=qs l ->
  (jL l a q).2.q=a.q+q/\qs (jL l a q).1=qs l-q/\(jL l a q).2.v+vs (jL l a q).1=a.v+vs l/\(jL l a q).2.p+ps (jL l a q).1=a.p+ps l:=by
 induction l with
 |nil=>intro a q h j b;simp[qs]at b;simp only[jL,qs,vs,ps];simp;omega
 |cons x r c =>
  intro a q h j b;simp only[jL];have i:=h.ok x (by simp);have k:=eE.1 i;split
  .dsimp only;exact⟨by omega,by omega,rfl,rfl⟩
  .split
   .dsimp only
    rw[gE,kD,LC,gE,kD,LC];dsimp only[lD,mC,mW];exact⟨by omega,by omega,by omega,by omega⟩
   .rw[gE]at b
    obtain⟨g,f,e,d⟩:=c (lD a x) (q-x.q) h.tail (by omega) (by omega);rw[gE,kD,LC,g,f,e,d];simp only[lD];exact⟨by omega,by omega,by omega,by omega⟩
def EA {l:List bP} {q:Int} (h:LR l) (a:1<=q) (h1:q<=qs l):fN l q=((jL l .zero q).1,(jL l .zero q).2,0):=by
 rw[fN,if_neg (by omega),if_neg (by rw[h.uL.1];simp only;omega)]
def CP {l:List bP} {q:Int} (h:LR l) (a:1<=q) (h1:qs l<q):fN l q=(l,.zero,5):=by
 rw[fN,if_neg (by omega),if_pos (by rw[h.uL.1];simp only;omega)]
def nL {l:List bP} {q:Int} (h:LR l):LR (fN l q).1:=by
 unfold fN;split
 .exact h
 .split
  .exact h
  .exact(adf l _ _ h).1
def CT (l:List bP) (x:bP):List bP×Int :=
 if x.q<1\/x.v<0 then(l,1)else if 30<=l.length then(l,6)else if lM (l++[x])then(l++[x],0)else(l,2)
def ahS {l:List bP} {x:bP} (h:LR l):LR (CT l x).1:=by
 unfold CT;split
 .exact h
 .split
  .exact h
  .split
   .exact LR.of (by assumption)
   .exact h
def FO (l m:List bP):qs (l++m)=qs l+qs m:=by simp[qs]
def Fz (l m:List bP):vs (l++m)=vs l+vs m:=by simp[vs]
def adx {l:List bP} (h:∀x,x∈l->kQ x=true):fM (flat l):=by
 intro z a;obtain⟨x,b,a⟩:=a2d.1 a;have:=eE.1 (h x b);simp at a;exact⟨by rcases a with rfl|rfl|rfl<;>omega,by rcases a with rfl|rfl|rfl<;>omega⟩
structure cU where
 a:Int
 n:Int
def cU.val (x:cU):Value:=.agg #[.int .i64 x.a,.int .i64 x.n]
def dV (l:List cU):List Int:=l.flatMap fun x=>[x.a,x.n]
def sK (l:List cU):(dV l).length=l.length*2:=by
 induction l with
 |nil=>rfl
 |cons x l a=>simp only[dV,a3i,a1o,a0v,a20]at a |-;omega
def Pm (l:List cU):∀(i:Nat) (x:cU),l[i]?=some x->(dV l).getD (i*2) 0=x.a/\(dV l).getD (i*2+1) 0=x.n:=by
 induction l with
 |nil=>intro i x h;simp at h
 |cons y l c =>
  intro i x h;cases i with
  |zero=>simp at h;subst h;exact⟨rfl,rfl⟩
  |succ i =>
   have:=c i x (by simpa using h)
   have e:∀k,(dV (y::l)).getD ((i+1)*2+k) 0=(dV l).getD (i*2+k) 0:=by
    intro k;show([y.a,y.n]++dV l).getD ((i+1)*2+k) 0=_;rw[a0c,a14 (by simp;omega),<-a0c];congr 1;simp;omega
   have b:=e 0;have e1:=e 1;simp only[a2q]at b;rw[b,e1];exact this
def aeQ {l:List cU} (h:fM (dV l)) {x:cU} (b:x∈l):kS x.a/\kS x.n :=
 ⟨h _ (a2d.2 ⟨x,b,by simp⟩),h _ (a2d.2 ⟨x,b,by simp⟩)⟩
def Nj {l:List cU} (h:∀x,x∈l->kS x.a/\kS x.n):fM (dV l):=by
 intro z b;obtain⟨x,c,b⟩:=a2d.1 b;simp at b;rcases b with rfl|rfl
 .exact(h x c).1
 .exact(h x c).2
structure kN (b:Nat) (w w':World):Prop where
 os:w'.os=w.os
 tape:w'.tape=w.tape
 output:w'.output=w.output
 size:w.heap.size<=w'.heap.size
 block:∀k,k<w.heap.size->k≠b->w'.heap[k]?=w.heap[k]?
 Xg:∀i,w'.frozen? ⟨b,i,none⟩=w.frozen? ⟨b,i,none⟩
def kN.refl (b:Nat) (w:World):kN b w w:=⟨rfl,rfl,rfl,a0g _,fun _ _ _=>rfl,fun _=>rfl⟩
def kN.trans {b:Nat} {u v w:World} (h:kN b u v) (k:kN b v w):kN b u w :=
 ⟨k.os.trans h.os,k.tape.trans h.tape,k.output.trans h.output,a1k h.size k.size,fun i c a=>(k.block i (a0x c h.size) a).trans (h.block i c a),fun i=>(k.Xg i).trans (h.Xg i)⟩
def kN.of {b:Nat} {w w':World} (h:Below w.heap.size w w') (c:b<w.heap.size):kN b w w' :=
 ⟨h.os,h.tape,h.output,h.size,fun i a _=>h.block i a,fun i=>h.frozen (p:=⟨b,i,none⟩) c⟩
def kN.then {b:Nat} {u v w:World} (h:kN b u v) (k:Below v.heap.size v w) (a:b<u.heap.size):kN b u w:=h.trans (kN.of k (a0x a h.size))
def kN.drew {b:Nat} {u v:World} (h:kN b u v):kN b u v.drew:=⟨h.os,h.tape,h.output,h.size,h.block,h.Xg⟩
def kN.drewN {b:Nat} {u v:World} (h:kN b u v) (n:Nat):kN b u (v.drewN n):=by
 have:=below_drewN (Below.refl v.heap.size v) n;exact⟨this.os.trans h.os,this.tape.trans h.tape,this.output.trans h.output,a1k h.size this.size,fun i a c=>(this.block i (a0x a h.size)).trans (h.block i a c),fun i=>(by simpa using h.Xg i)⟩
def kN.set {b:Nat} {u v:World} (h:kN b u v) (i:Nat) (x:Value):kN b u (v.setCell ⟨b,i,none⟩ x) :=
 ⟨h.os,h.tape,h.output,by simpa[World.setCell]using h.size,fun k c a=>(Below.heap_setCell _ _ _ _ a).trans (h.block k c a),fun j=>by rw[World.frozen?_setCell];exact h.Xg j⟩
def kN.below {b B:Nat} {w w':World} (h:kN b w w') (c:B<=w.heap.size) (d:B<=b):Below B w w' :=
 ⟨h.os,h.tape,h.output,h.size,fun k a=>h.block k (a0x a c) (by omega)⟩
def cD.line {w:World} {b off:Nat} {l:List cU} {x:cU} (e:cD w b off (dV l)) (c:l[j]?=some x) :
  w.cell? ⟨b,off+j*2,none⟩=some (.int .i64 x.a)/\w.cell? ⟨b,off+j*2+1,none⟩=some (.int .i64 x.n):=by
 have d:=Pm l j x c;have f:=sK l;have g:j<l.length:=by
  rcases a0z j l.length with h|h
  .exact h
  .rw[a04 h]at c;cases c
 exact⟨by rw[e (j*2) (by omega),d.1],by rw[a2r,e (j*2+1) (by omega),d.2]⟩
def cD.TG {w:World} {b off:Nat} {l:List cU} (h:∀j x,l[j]?=some x->w.cell? ⟨b,off+j*2,none⟩=some (.int .i64 x.a)/\w.cell? ⟨b,off+j*2+1,none⟩=some (.int .i64 x.n)):cD w b off (dV l):=by
 intro i o;have m:=sK l;have k:i/2<l.length:=by omega
 have d:l[i/2]?=some l[i/2]:=by simp[k]
 have f:=Pm l (i/2) _ d;have g:=h (i/2) _ d;by_cases e:i%2=0
 .have c:i=i/2*2:=by omega
  rw[show off+i=off+i/2*2 by omega,g.1,<-f.1,<-c]
 .have c:i=i/2*2+1:=by omega
  rw[show off+i=off+i/2*2+1 by omega,g.2,<-f.2,<-c]
def CB (w:World) (b off:Nat) (x:cU):World:=(w.setCell ⟨b,off,none⟩ (.int .i64 x.a)).setCell ⟨b,off+1,none⟩ (.int .i64 x.n)
def OS {w:World} {b off:Nat} {l:List cU} (c:cD w b off (dV l)) {i:Nat} (f:i<l.length) (x:cU):cD (CB w b (off+i*2) x) b off (dV (l.set i x)):=by
 refine cD.TG fun j y a=>?_;have d:=(c.line (j:=i) (x:=l[i]) (by simp[f]));by_cases e:i=j
 .subst e
  rw[a3j (by omega)]at a;cases a;unfold CB;refine⟨?_,?_⟩
  .rw[World.cell?_setCell_other _ _ _ _ (by intro e2;injection e2;omega),World.cell?_setCell_same _ _ _ d.1]
  .rw[World.cell?_setCell_same _ _ _ (by rw[World.cell?_setCell_other _ _ _ _ (by intro e2;injection e2;omega)];exact d.2)]
 .rw[a3a e]at a
  have:=c.line a;unfold CB;refine⟨?_,?_⟩
  .rw[World.cell?_setCell_other _ _ _ _ (by intro e2;injection e2;omega),World.cell?_setCell_other _ _ _ _ (by intro e2;injection e2;omega)];exact this.1
  .rw[World.cell?_setCell_other _ _ _ _ (by intro e2;injection e2;omega),World.cell?_setCell_other _ _ _ _ (by intro e2;injection e2;omega)];exact this.2
def kN.CB {b:Nat} {u v:World} (h:kN b u v) (i:Nat) (x:cU):kN b u (Go.Proofs.YtnepgggkgnckcaaGreat.CB v b i x):=(h.set _ _).set _ _
end
section
open Mc
structure vE where
 (aD item loc eX value vY dL back:Int)
structure kJ where
 (aD item loc eX back cost bW period:Int)
 waits:Bool
structure yX where
 (src dst item eX value bW:Int)
structure cY where
 aN:List bP
 (p0 p1 p2:Int)
structure EntC where
 now:Int
 closed:Bool
 bK:List cY
 cN:List Int
 aJ:List (List Int)
 bD:List Int
 down:List Int
structure dE extends EntC where
 ahead:List EntC
structure bF where
 (bJ bH:Int)
 weights:List Int
 methods:List (List Int)
 bT:List (List Int)
 aH:List dE
 aO:List vE
 aF:List kJ
 aG:List yX
 done:Int
def jH (l:List Int):List AV:=l.map AV.i
def Ib (k:Nat) (l:List (List Int)):AV:=.lit k (l.map jH)
def bP.r (x:bP):List Int:=[x.q,x.v,x.p]
def cU.r (x:cU):List Int:=[x.a,x.n]
def vE.r (x:vE):List Int:=[x.aD,x.item,x.loc,x.eX,x.value,x.vY,x.dL,x.back]
def yX.r (x:yX):List Int:=[x.src,x.dst,x.item,x.eX,x.value,x.bW]
def kJ.row (x:kJ):List AV:=[.i x.aD,.i x.item,.i x.loc,.i x.eX,.i x.back,.i x.cost,.i x.bW,.i x.period,.c (.bool x.waits)]
def aA (l:List Int):List (List AV):=l.map fun v=>[.i v]
def aM (l:List bP):List (List AV):=l.map fun x=>jH x.r
def bU (l:List cU):List (List AV):=l.map fun x=>jH x.r
def fU (l:List vE):List (List AV):=l.map fun x=>jH x.r
def eO (l:List yX):List (List AV):=l.map fun x=>jH x.r
def dN (l:List kJ):List (List AV):=l.map kJ.row
def bN (l:List (List Int)):List (List AV):=l.map jH
def aW (l:List (List Int)):List (List AV):=l.map fun x=>[.lit 1 (aA x)]
def cY.row (p:cY):List AV:=[.lit 3 (aM p.aN),.i p.p0,.i p.p1,.i p.p2]
def bS (l:List cY):List (List AV):=l.map cY.row
def EntC.row (x:EntC) (ahead:List (List AV)):List AV:=[.i x.now,.c (.bool x.closed),.lit 4 (bS x.bK),.lit 1 (aA x.cN),.lit 11 (bN x.aJ),.lit 1 (aA x.bD),.lit 1 (aA x.down),.lit 8 ahead]
def bX (l:List EntC):List (List AV):=l.map fun x=>x.row []
def dE.row (x:dE):List AV:=x.toEntC.row (bX x.ahead)
def aX (l:List dE):List (List AV):=l.map dE.row
def bF.av (s:bF):AV:=.agg [.i s.bJ,.i s.bH,.lit 1 (aA s.weights),.lit 1 (aW s.methods),.lit 1 (aW s.bT),.lit 8 (aX s.aH),.lit 8 (fU s.aO),.lit 9 (dN s.aF),.lit 6 (eO s.aG),.i s.done]
def bP.av (x:bP):AV:=.agg (jH x.r)
def cY.av (p:cY):AV:=.agg p.row
def qO (l:List (List AV)):Prop:=∀r∈l,∀x∈r,Cl x
def qO.lit {sz:Nat} {l:List (List AV)} (h:qO l):Cl (.lit sz l):=.lit sz l h
def qO.nil:qO []:=fun r h=>absurd h a0b
def yD (l:List Int):∀x∈jH l,Cl x:=by
 intro x a;obtain⟨v,-,rfl⟩:=a0j.1 a;exact .c _
def qO.map {α:Type} {f:α->List AV} (h:∀a x,x∈f a->Cl x) (l:List α):qO (l.map f):=by
 intro r c x b;obtain⟨a,-,rfl⟩:=a0j.1 c;exact h a x b
def kV (l:List Int):qO (aA l):=qO.map (fun v x a=>by rw[a05]at a;subst a;exact .c _) l
def Fa (l:List bP):qO (aM l):=qO.map (fun v x a=>yD _ x a) l
def AG (l:List cU):qO (bU l):=qO.map (fun v x a=>yD _ x a) l
def abX (l:List vE):qO (fU l):=qO.map (fun v x a=>yD _ x a) l
def abV (l:List yX):qO (eO l):=qO.map (fun v x a=>yD _ x a) l
def XA (l:List (List Int)):qO (bN l):=qO.map (fun v x a=>yD _ x a) l
def abW (l:List kJ):qO (dN l):=qO.map (fun v x a=>by simp only[kJ.row,a0d,a0b,or_false]at a;rcases a with rfl|rfl|rfl|rfl|rfl|rfl|rfl|rfl|rfl<;>exact .c _) l
def oY (l:List (List Int)):qO (aW l):=qO.map (fun v x a=>by rw[a05]at a;subst a;exact(kV v).lit) l
def CX (p:cY):∀x∈p.row,Cl x:=by
 intro x a;simp only[cY.row,a0d,a0b,or_false]at a;rcases a with rfl|rfl|rfl|rfl
 .exact(Fa _).lit
 all_goals exact .c _
def XB (l:List cY):qO (bS l):=qO.map (fun v x a=>CX v x a) l
def Pw (e:EntC) {b:List (List AV)} (d:qO b):∀x∈e.row b,Cl x:=by
 intro x a;simp only[EntC.row,a0d,a0b,or_false]at a;rcases a with rfl|rfl|rfl|rfl|rfl|rfl|rfl|rfl
 .exact .c _
 .exact .c _
 .exact(XB _).lit
 .exact(kV _).lit
 .exact(XA _).lit
 .exact(kV _).lit
 .exact(kV _).lit
 .exact d.lit
def XC (l:List EntC):qO (bX l):=qO.map (fun v x a=>Pw v qO.nil x a) l
def Sd (l:List dE):qO (aX l):=qO.map (fun v x a=>Pw _ (XC _) x a) l
def aoG (s:bF):Cl s.av:=by
 refine .agg _ fun x a=>?_;simp only[a0d,a0b,or_false]at a;rcases a with rfl|rfl|rfl|rfl|rfl|rfl|rfl|rfl|rfl|rfl
 .exact .c _
 .exact .c _
 .exact(kV _).lit
 .exact(oY _).lit
 .exact(oY _).lit
 .exact(Sd _).lit
 .exact(abX _).lit
 .exact(abW _).lit
 .exact(abV _).lit
 .exact .c _
def bL {x:AV} {l:List AV} (h:Cl x) (b:∀y∈l,Cl y):∀y∈x::l,Cl y:=by
 intro y a;rcases a0d.1 a with rfl|a
 .exact h
 .exact b y a
def fW:∀y∈([]:List AV),Cl y:=fun y h=>absurd h a0b
def aiG {r:List AV} {l:List (List AV)} (h:∀x∈r,Cl x) (b:qO l):qO (r::l):=by
 intro y a;rcases a0d.1 a with rfl|a
 .exact h
 .exact b y a
def abY {a b:List (List AV)} (h:qO a) (g:qO b):qO (a++b):=by
 intro y c;rcases a0m.1 c with c|c
 .exact h y c
 .exact g y c
def adK {a:List (List AV)} {i:Nat} {r:List AV} (h:qO a) (g:∀x∈r,Cl x):qO (a.set i r):=by
 intro y b;rcases a08 b with b|rfl
 .exact h y b
 .exact g
def zT {k:Nat}:∀(l:List (List Int)),(∀r∈l,r.length=k)->l.flatten.length=l.length*k
 |[],_=>by simp
 |r::l,h=>by
  rw[a2s,a1o,zT l (fun r a=>h r (a06 _ a)),h r a1b,a0v,a2h];omega
def zU {k:Nat}:∀(l:List (List Int)),(∀r∈l,r.length=k)->∀(i j:Nat) (r:List Int),l[i]?=some r->j<k->l.flatten.getD (i*k+j) 0=r.getD j 0
 |[],_,i,j,r,h,_=>by simp at h
 |x::l,a,0,j,r,h,b=>by
  simp only[a3s,a0i]at h;subst h;have:=a x a1b;rw[a2s,List.getD,a12 (by omega)];simp[List.getD]
 |x::l,a,i+1,j,r,h,b=>by
  have e:=a x a1b;have c:=zU l (fun r d=>a r (a06 _ d)) i j r (by simpa using h) b;rw[a2s,List.getD,a14 (by rw[a2h];omega),<-c,List.getD];congr 2;rw[a2h];omega
def CE {A:Nat->Prop} {w:World} {k:Nat} {l:List (List Int)} {v:Value} (h:@eC dY dZ A w (Ib k l) v) (q:fM l.flatten) (j:∀r∈l,r.length=k):∃a cap,v=.slice a l.length cap/\Row w k a l.length cap l.flatten:=by
 have c:l.flatten.length=l.length*k:=zT l j;generalize d:Ib k l=y at h;cases h with
 |lit s es b off cap vs G E m F H z B =>
  unfold Ib at d;cases d;have C:(l.map jH).length=l.length:=by simp
  rw[C]at m |-;refine⟨_,cap,rfl,⟨c,m.1,m.2,q,.inr ⟨b,off,rfl,E,?_⟩⟩⟩;intro i D;have e:i<l.length*k:=by rw[<-c];exact D
  have n:0<k:=by
   rcases a4b k with h|h
   .rw[h]at e;simp at e
   .exact h
  have f:i/k<l.length:=(a47 n).2 e;have g:i%k<k:=a3c _ n;have I:(l[i/k]).length=k:=j _ (a2w f);have x:i/k*k+i%k=i:=by rw[a2z];exact a3v i k
  have p:iE (l.map jH) (i/k) (i%k)=some (AV.i ((l[i/k]).getD (i%k) 0)):=by
   unfold iE jH;rw[a0l,a0f f];have o:i%k<(l[i/k]).length:=by omega
   simp only[a0s,a1p,a0l,List.getD,a0f o,a22]
  have e1:=z _ _ _ p;have e2:=B _ _ _ p;rw[x]at e1;rw[e1];have t:=zU l j (i/k) (i%k) _ (a0f f) g;rw[x]at t;rw[t];generalize vs (i/k) (i%k)=u at e2;cases e2;rfl
 |nQ s a cap g =>
  unfold Ib at d;injection d with e1 e2;rw[a3p]at e2;subst e2;exact⟨a,cap,rfl,⟨c,a0n _,g,q,.inl rfl⟩⟩
 |_=>unfold Ib at d;cases d
def CH {A:Nat->Prop} {w:World} {k:Nat} {l:List (List Int)} {a:Option Addr} {cap:Nat} (g:∀r∈l,r.length=k) (q:l.length<=cap) (o:cap<=maxLen)
  (h:l.length=0\/∃b off,a=some ⟨b,off,none⟩/\¬ A b/\b<w.heap.size/\cD w b off l.flatten):@eC dY dZ A w (Ib k l) (.slice a l.length cap):=by
 rcases h with h|⟨b,off,rfl,y,u,v⟩
 .have:l=[]:=a1f.1 h
  subst this;exact @eC.nQ dY dZ A w k a cap o
 .have s:(l.map jH).length=l.length:=by simp
  unfold Ib;rw[<-s]at q |-;have key:∀(i j:Nat) (x:AV),iE (l.map jH) i j=some x->i<l.length/\j<k/\x=AV.i (l.flatten.getD (i*k+j) 0):=by
   intro i j x d;unfold iE jH at d;rw[a0l]at d;cases f:l[i]? with
   |none=>rw[f]at d;cases d
   |some r =>
    rw[f]at d;simp only[a0s,a1p,a0l]at d;obtain⟨z,m,rfl⟩:=a1c.1 d;have n:=g r (a0a f);have p:j<k:=by rw[<-n];exact(a0y.1 m).1
    refine⟨(a0y.1 f).1,p,?_⟩;rw[zU l g i j r f p,List.getD,m];rfl
  refine @eC.lit dY dZ A w k _ b off cap (fun i j=>.int .i64 (l.flatten.getD (i*k+j) 0)) y u ⟨q,o⟩ ?_ ?_ ?_ ?_
  .intro e t
   obtain⟨r,f,rfl⟩:=a0j.1 t;unfold jH;rw[a0w];exact g r f
  .intro i j x d
   obtain⟨-,-,rfl⟩:=key i j x d;rfl
  .intro i j x d
   obtain⟨B,C,-⟩:=key i j x d;refine v _ ?_;rw[zT l g];have:(i+1)*k<=l.length*k:=a1q _ B;rw[a2h]at this;omega
  .intro i j x d
   obtain⟨-,-,rfl⟩:=key i j x d;exact @eC.c dY dZ A w _
def ah2 (l:List bP):(l.map bP.r).flatten=flat l:=by
 induction l with
 |nil=>rfl
 |cons x l a=>simp only[a0r,a2s,a,flat,a3i];rfl
def R6 (l:List cU):(l.map cU.r).flatten=dV l:=by
 induction l with
 |nil=>rfl
 |cons x l a=>simp only[a0r,a2s,a,dV,a3i];rfl
def LN (l:List Int):(l.map fun v=>[v]).flatten=l:=by
 induction l with
 |nil=>rfl
 |cons x l a=>simp only[a0r,a2s,a];rfl
def ahK (l:List bP):AV.lit 3 (aM l)=Ib 3 (l.map bP.r):=by unfold aM Ib;rw[a16];rfl
def TY (l:List cU):AV.lit 2 (bU l)=Ib 2 (l.map cU.r):=by unfold bU Ib;rw[a16];rfl
def M8 (l:List Int):AV.lit 1 (aA l)=Ib 1 (l.map fun v=>[v]):=by unfold aA Ib;rw[a16];rfl
end
section
variable {j:Nat}
def Sc (x y:Int):Int:=if x<y then -1 else if y<x then 1 else 0
def Xy {x y:Int}:Sc x y<0↔x<y:=by
 unfold Sc;by_cases h:x<y
 .simp[h]
 .by_cases a:y<x<;>simp[h,a]
def Ig (x:Int) (w:World):Calls Tryz.prog 206 #[.int .i64 x] w fun e w'=>e=.returned (.bool false)/\w=w':=by
 go_enter Tryz.func206,Tryz.ntmps206;go_wp2_with fail;go_ret;exact⟨rfl,rfl⟩
def akQ (x y:Int) (w:World):Calls Tryz.prog 166 #[.int .i64 x,.int .i64 y] w fun e w'=>e=.returned (.int .i64 (Sc x y))/\w=w':=by
 go_enter Tryz.func166,Tryz.ntmps166;by_cases h:x<y
 .go_wp2_with (go_at_call 206;refine(Ig _ _).mono ?_;rintro e w' ⟨rfl,rfl⟩)
  go_ret;exact⟨xQ (by simp[Sc,h]),rfl⟩
 .by_cases a:y<x
  .go_wp2_with (go_at_call 206;refine(Ig _ _).mono ?_;rintro e w' ⟨rfl,rfl⟩)
   go_ret;exact⟨xQ (by simp[Sc,h,a]),rfl⟩
  .go_wp2_with (go_at_call 206;refine(Ig _ _).mono ?_;rintro e w' ⟨rfl,rfl⟩)
   go_ret;exact⟨xQ (by simp only[Sc];rw[if_neg (by omega),if_neg (by omega)]),rfl⟩
def aiX (x:cU) (w:World):Calls Tryz.prog 136 #[x.val] w fun e w'=>e=.returned (.int .i64 x.a)/\Below w.heap.size w w':=by
 unfold cU.val;go_enter Tryz.func136,Tryz.ntmps136;go_wp2_with fail;go_ret;exact⟨rfl,blw⟩
def anG (x y:cU) (c:Nat) (w:World) (i:w.cell? ⟨c,0,none⟩=some (.func (.func 136) #[] #[])) (f:c<w.heap.size) :
  Calls Tryz.prog 185 #[x.val,y.val,.pointer (some ⟨c,0,none⟩)] w fun e w'=>e=.returned (.int .i64 (Sc x.a y.a))/\Below w.heap.size w w':=by
 unfold cU.val;go_enter Tryz.func185,Tryz.ntmps185;go_wp2_with fail;have l:c<w.heap.size+1:=by omega
 have k:c<w.heap.size+1+1:=by omega
 have g:((w.alloc (.cells #[.int .i64 x.a,.int .i64 x.n] 44)).alloc (.cells #[.int .i64 y.a,.int .i64 y.n] 44)).drew.cell? ⟨c,0,none⟩=some (.func (.func 136) #[] #[]):=(World.cell?_alloc_lt _ _ _ (by simp;omega)).trans ((World.cell?_alloc_lt _ _ _ f).trans i);have h:Below w.heap.size w ((w.alloc (.cells #[.int .i64 x.a,.int .i64 x.n] 44)).alloc (.cells #[.int .i64 y.a,.int .i64 y.n] 44)).drew:=(((Below.refl _ _).alloc (a0g _) _).alloc (by simp) _).drew
 go_region_held3 (fun w'=>Below w.heap.size w w'/\w.heap.size+1<w'.heap.size/\w'.cell? ⟨c,0,none⟩=some (.func (.func 136) #[] #[])/\w'.cell? ⟨w.heap.size,0,none⟩=some (.int .i64 x.a)/\w'.cell? ⟨w.heap.size,1,none⟩=some (.int .i64 x.n)/\w'.cell? ⟨w.heap.size+1,0,none⟩=some (.int .i64 y.a)/\w'.cell? ⟨w.heap.size+1,1,none⟩=some (.int .i64 y.n))
  (first
   |exact⟨h,by simp,g,by simp,by simp,by simp,by simp⟩
   |(go_split_ands;refine⟨?_,?_,?_,?_,?_,?_,?_⟩<;>first|assumption|(refine Below.trans ?_ (Below.mono b ?_)<;>first|assumption|omega)|(have:=b.size;omega)|(exact(b.cell (by simp only;omega)).trans (by assumption))))
  ((first
   |(go_at_call 136;refine(aiX x _).mono ?_;rintro e d ⟨rfl,b⟩)
   |(go_at_call 136;refine(aiX y _).mono ?_;rintro e d ⟨rfl,b⟩)
   |(go_at_call 166;refine(akQ _ _ _).mono ?_;rintro e d ⟨rfl,rfl⟩)))
 all_goals
  have j:=‹Below w.heap.size w _/\_›;go_wp2_with fail;go_ret;exact⟨rfl,j.1⟩
section
variable {α:Type} (key:α->Int)
def fP (l:List α):Prop:=l.Pairwise fun x y=>key x<=key y
def kR (l m:List α):Prop:=∀k,m.filter (fun x=>key x==k)=l.filter (fun x=>key x==k)
end
section
variable {α:Type} {key:α->Int}
def kR.refl (l:List α):kR key l l:=fun _=>rfl
def kR.trans {a b c:List α} (h:kR key a b) (k:kR key b c):kR key a c:=fun i=>(k i).trans (h i)
def kR.app {a b c d:List α} (h:kR key a b) (k:kR key c d):kR key (a++c) (b++d):=fun i=>by rw[a1a,a1a,h i,k i]
def kR.swap {a b:List α} (h:∀x,x∈a->∀y,y∈b->key x≠key y):kR key (a++b) (b++a):=by
 intro k;rw[a1a,a1a];by_cases d:a.filter (fun x=>key x==k)=[]
 .rw[d];simp
 .obtain⟨x,c⟩:=List.exists_mem_of_ne_nil _ d
  rw[List.mem_filter]at c;have f:b.filter (fun x=>key x==k)=[]:=by
   rw[a4c];intro y e;have e1:key x=k:=by simpa using c.2
   have:=h x c.1 y e;simp;omega
  rw[f];simp
def kR.mem {a b:List α} (h:kR key a b) {x:α}:x∈b↔x∈a:=by
 have:=h (key x);constructor
 .intro c
  have:x∈b.filter (fun y=>key y==key x):=List.mem_filter.2 ⟨c,by simp⟩;rw[h (key x)]at this;exact(List.mem_filter.1 this).1
 .intro c
  have:x∈a.filter (fun y=>key y==key x):=List.mem_filter.2 ⟨c,by simp⟩;rw[<-h (key x)]at this;exact(List.mem_filter.1 this).1
def fP.app {a b:List α}:fP key (a++b)↔fP key a/\fP key b/\∀x,x∈a->∀y,y∈b->key x<=key y:=a2c
def fP.one (x:α):fP key [x]:=by simp[fP]
def fP.nil:fP key ([]:List α):=List.Pairwise.nil
def fP.last {a:List α} {y:α} (h:fP key (a++[y])):∀x,x∈a++[y]->key x<=key y:=by
 intro x b;rcases a0m.1 b with b|b
 .exact(fP.app.1 h).2.2 x b y (by simp)
 .simp at b;subst b;exact a0h _
def ahP {P1 b:List α} {x y:α} (c:∀z,z∈b->key x<key z) (h:key x<key y):∀z,z∈y::b->key x<key z:=by
 intro z a;rcases a0d.1 a with rfl|a
 .exact h
 .exact c z a
def ahQ {P1 b:List α} {x:α} (g:fP key (P1++b)) (f:∀z,z∈b->key x<key z) (h1:∀z,z∈P1->key z<=key x) :
  fP key (P1++x::b)/\kR key (P1++b++[x]) (P1++x::b):=by
 have a:=fP.app.1 g;constructor
 .refine fP.app.2 ⟨a.1,a2b.2 ⟨fun z c=>Int.le_of_lt (f z c),a.2.1⟩,fun z c u d=>?_⟩
  rcases a0d.1 d with rfl|d
  .exact h1 z c
  .exact a.2.2 z c u d
 .have:kR key (b++[x]) ([x]++b):=kR.swap fun z c y e=>by simp at e;subst e;have:=f z c;omega
  have:=(kR.refl (key:=key) P1).app this;simpa using this
end
section
variable {α:Type} {key:α->Int}
def Pk {a P P1 b R:List α} {k:Nat} {x:α} (c:a.drop k=x::R) (m:P.length=k) (l:fP key P) (j:kR key (a.take k) P) (e:P=P1++b) (n:∀z,z∈b->key x<key z) (h1:∀z,z∈P1->key z<=key x) :
  (P1++x::b).length=k+1/\fP key (P1++x::b)/\kR key (a.take (k+1)) (P1++x::b)/\a.drop (k+1)=R/\k+1<=a.length:=by
 subst e;have d:=ahQ l n h1;have f:k<a.length:=by
  rcases a0z k a.length with h|h
  .exact h
  .rw[a4t h]at c;cases c
 have g:a[k]=x:=by
  have:=a38 f;rw[c]at this;exact(List.cons.inj this).1.symm
 have i:a.drop (k+1)=R:=by
  have:=a38 f;rw[c]at this;exact(List.cons.inj this).2.symm
 refine⟨by simp at m |-;omega,d.1,?_,i,f⟩;rw[a4r f,g];exact(j.app (kR.refl [x])).trans d.2
end
section
variable {α:Type}
def aec {A B:List α} {x y:α} (a:A.length+1=j):((A++y::x::B).set j y).set (j-1) x=A++x::y::B:=by
 subst a;simp[List.set_append]
def Cz (l:List α):l=[]\/∃A y,l=A++[y]:=by
 induction l with
 |nil=>exact .inl rfl
 |cons x l a =>
  right;rcases a with rfl|⟨A,y,rfl⟩
  .exact⟨[],x,rfl⟩
  .exact⟨x::A,y,rfl⟩
def akp {A B:List α} {x y:α} (a:A.length+1=j):(A++y::x::B)[j]?=some x:=by
 subst a;simp
def akq {A B:List α} {x y:α} (a:A.length+1=j):(A++y::x::B)[j-1]?=some y:=by
 subst a;simp
end
end
section
variable {x:cU} {F:FuncId} {k:Nat}
def Nw (c:Nat):Value:=.func (.func 185) #[] #[.pointer (some ⟨c,0,none⟩)]
structure sA (w:World) (b off c:Nat) (l:List cU):Prop where
 cells:cD w b off (dV l)
 fz:∀i,w.frozen? ⟨b,i,none⟩=false
 lt:b<w.heap.size
 adO:w.cell? ⟨c,0,none⟩=some (.func (.func 136) #[] #[])
 clt:c<w.heap.size
 ne:c≠b
def sA.drew {w:World} {b off c:Nat} {l:List cU} (h:sA w b off c l):sA w.drew b off c l:=⟨h.cells,h.fz,h.lt,h.adO,h.clt,h.ne⟩
def sA.below {w w':World} {b off c:Nat} {l:List cU} (h:sA w b off c l) (g:Below w.heap.size w w'):sA w' b off c l :=
 ⟨h.cells.below h.lt g,fun i=>(g.frozen (p:=⟨b,i,none⟩) h.lt).trans (h.fz i),a0x h.lt g.size,(g.cell (p:=⟨c,0,none⟩) h.clt).trans h.adO,a0x h.clt g.size,h.ne⟩
def sA.drewN {w:World} {b off c:Nat} {l:List cU} (h:sA w b off c l) (n:Nat):sA (w.drewN n) b off c l:=h.below (below_drewN (Below.refl _ _) n)
def sA.set {w:World} {b off c:Nat} {l:List cU} (h:sA w b off c l) {i:Nat} (a:i<l.length) (x:cU):sA (CB w b (off+i*2) x) b off c (l.set i x):=by
 refine⟨OS h.cells a x,fun j=>by unfold CB;rw[World.frozen?_setCell,World.frozen?_setCell];exact h.fz j,by unfold CB;simpa[World.setCell]using h.lt,?_,by unfold CB;simpa[World.setCell]using h.clt,h.ne⟩
 unfold CB;have e (u:World) (i:Nat) (v:Value):(u.setCell ⟨b,i,none⟩ v).cell? ⟨c,0,none⟩=u.cell? ⟨c,0,none⟩:=World.cell?_of_block (w:=u) (Below.heap_setCell _ _ _ _ (show c≠b from h.ne));rw[e,e];exact h.adO
def M9 (b off c cap a e:Nat) (d s post:List cU) (w:World) (h:sA w b off c (d++s++post)) (n:Nat) (hN:(d++s++post).length=n) (hn:n<=cap) (N:cap<=maxLen) (ap:n<=1000000)
  (ha:d.length=a) (he:a+s.length=e) :
  Calls Tryz.prog 236 #[.slice (some ⟨b,off,none⟩) n cap,.int .i64 a,.int .i64 e,Nw c] w
   fun r w'=>r=.returned (.tuple #[])/\∃C:List cU,C.length=s.length/\fP cU.a C/\kR cU.a s C/\sA w' b off c (d++C++post)/\kN b w w':=by
 unfold maxLen at N;have aK:e<=n:=by rw[<-hN,<-he,<-ha];simp
 have aL:=Lib.hid hN;have ah:=Lib.hid ha;have o:=Lib.hid he;clear hN ha he;unfold Nw;go_enter Tryz.func236,Tryz.ntmps236;cases s with
 |nil =>
  have ad:¬ (a:Int)+1<(e:Int):=by have:=o.out;simp at this;omega
  have ao:IntKind.i64.wrap ((a:Int)+1)=(a:Int)+1:=IntWalk.i64_in _ (by have:=o.out;simp at this;omega);have g:wrap64 ((a:Int)+1)=(a:Int)+1:=by unfold wrap64;have:=o.out;simp at this;omega
  go_wp2_with fail;refine wp_loop_rounds 1 ?_;rw[rounds_succ];go_wp2_with fail;exact bodyPost_end (v:=.tuple #[]) (by simp[results,Tryz.results236,go_sem]) rfl ⟨rfl,[],rfl,fP.nil,kR.refl _,h,kN.refl _ _⟩
 |cons E f =>
  have am:a+1<=e:=by have:=o.out;simp at this;omega
  go_wp2_with fail;go_loopw [8] (fun i wr=>∃(k K:Nat) (P:List cU),1<=k/\K<=e/\Hid (a+k=K)/\i=.int .i64 (K:Int)/\Hid (P.length=k)/\fP cU.a P/\kR cU.a ((E::f).take k) P/\sA wr b off c (d++P++(E::f).drop k++post)/\kN b w wr) (fun i _=>e-(intOf i).toNat)
  case atStart =>
   exact⟨1,a+1,[E],by omega,by omega,rfl,by go_num,rfl,fP.one _,kR.refl _,by simpa using h,kN.refl _ _⟩
  case round =>
   obtain⟨k,K,P,aw,av,q,rfl,S,Q,O,F,H⟩:=hrel;by_cases aq:K<e
   .have al:(K:Int)<(e:Int):=by omega
    obtain⟨x,R,hx⟩:∃x R,(E::f).drop k=x::R:=by
     cases hd:(E::f).drop k with
     |nil=>have:=o.out;have:=q.out;rw[a4u]at hd;omega
     |cons x R=>exact⟨x,R,rfl⟩
    have V:=Lib.hid hx;rw[hx]at F;clear hx;go_wp2_with fail;go_loopw [9] (fun j wr=>∃(J:Nat) (L l:List cU),Hid (P=L++l)/\(∀z,z∈l->x.a<z.a)/\j=.int .i64 (J:Int)/\Hid (a+L.length=J)/\J<=K/\sA wr b off c (d++L++x::(l++R++post))/\kN b w wr) (fun j _=>(intOf j).toNat)
    case atStart =>
     exact⟨K,P,[],by simp[Hid],by simp,rfl,by rw[Hid,S.out];exact q.out,by omega,by simpa using F,H⟩
    case round =>
     obtain⟨J,L,l,D,h2,rfl,T,ar,F,H⟩:=hrel;rcases Cz L with rfl|⟨A,y,rfl⟩
     .obtain rfl:a=J:=T.out
      clear T;go_wp2_with fail;go_quiet (fail);go_wp2_with fail
      case' roundEnd =>
       obtain⟨q1,q2,Z,Y,q5⟩:=Pk (key:=cU.a) V.out S.out Q O D.out h2 (by simp);refine⟨⟨k+1,K+1,[]++x::l,by omega,by omega,by have:=q.out;show _=_;omega,by go_num,q1,q2,Z,?_,?_⟩,?_⟩
       .rw[Y];have t:=F.drewN nq;simpa using t
       .exact H.drewN _
       .simp[intOf];omega
     .obtain⟨m,N⟩:∃m,a+A.length=m:=⟨_,rfl⟩
      obtain rfl:J=m+1:=by have:=T.out;simp at this;omega
      rw[show((m+1:Nat):Int)=(m:Int)+1 from by simp];have ak:m+1<n:=(by omega);have u:sA wr b off c ((d++A)++y::x::(l++R++post)):=(by simpa using F);have U:(d++A).length+1=m+1:=by have:=ah.out;simp;omega
      have aJ:(a:Int)<=(m:Int):=(by omega);have ab:=Lib.hid N;clear N T;have ag:=u.cells.line (akp (A:=d++A) (B:=l++R++post) (x:=x) (y:=y) U);have W:=u.cells.line (akq (A:=d++A) (B:=l++R++post) (x:=x) (y:=y) U);rw[Nat.add_sub_cancel]at W;obtain⟨x0,x1⟩:=ag;obtain⟨y0,y1⟩:=W;have aI:decide ((a:Int)<(m:Int)+1)=true:=decide_eq_true (by omega);have aG:IntKind.i64.wrap ((m:Int)+1-1)=(m:Int):=(IntWalk.i64_in _ (by omega)).trans (by omega);have an:IntKind.i64.wrap (m:Int)=(m:Int):=IntWalk.i64_in _ (by omega);have aF:(0:Int)<=(m:Int)+1:=(by omega);have aE:(0:Int)<=(m:Int):=(by omega);have aD:(m:Int)<(n:Int):=(by omega);have aC:((m:Int)+1).toNat=m+1:=(by omega);have aB:(m:Int).toNat=m:=(by omega);have aH:(a:Int)<(m:Int)+1:=(by omega);have aj:(m:Int)+1<(n:Int):=(by omega);have c0:=u.adO;have I:=u.clt;go_wp2_with fail
      go_region_held3 (fun w'=>sA w' b off c ((d++A)++y::x::(l++R++post))/\kN b w w'/\c<w'.heap.size/\w'.cell? ⟨c,0,none⟩=some (.func (.func 136) #[] #[])/\w'.cell? ⟨b,off+(m+1)*2,none⟩=some (.int .i64 x.a)/\w'.cell? ⟨b,off+(m+1)*2+1,none⟩=some (.int .i64 x.n)/\w'.cell? ⟨b,off+m*2,none⟩=some (.int .i64 y.a)/\w'.cell? ⟨b,off+m*2+1,none⟩=some (.int .i64 y.n))
       (first
        |exact⟨u.drew,H.drew,I,c0,x0,x1,y0,y1⟩
        |(go_split_ands;rename_i p M X s4 s5 s6 s7 s8;exact⟨p.below g,M.then g h.lt,a0x X g.size,(g.cell X).trans s4,(g.cell p.lt).trans s5,(g.cell p.lt).trans s6,(g.cell p.lt).trans s7,(g.cell p.lt).trans s8⟩))
       ((first
        |(go_at_call 185;refine(anG x y c _ (by assumption) (by assumption)).mono ?_;rintro e w2 ⟨rfl,g⟩)))
      have ai:=‹sA _ b off c _/\_›;clear F u H x0 x1 y0 y1 c0 I;obtain⟨p,M,X,s4,s5,s6,s7,s8⟩:=ai;have aA:=p.fz (off+(m+1)*2);have az:=p.fz (off+(m+1)*2+1);have ay:=p.fz (off+m*2);have ax:=p.fz (off+m*2+1);by_cases G:x.a<y.a
      .have af:Sc x.a y.a<0:=Xy.2 G
       go_wp2_with fail;go_region
       all_goals
        go_wp2_with fail
        case' roundEnd =>
         have ac:m+1<(d++A++y::x::(l++R++post)).length:=by simp at U |-;omega
         have t1:=(p.set (i:=m+1) ac y).set (i:=m) (by rw[a1d];omega) x;have t2:=aec (A:=d++A) (B:=l++R++post) (x:=x) (y:=y) U;rw[Nat.add_sub_cancel]at t2;rw[t2]at t1;have t3:=(M.CB (off+(m+1)*2) y).CB (off+m*2) x;refine⟨⟨m,A,y::l,by rw[Hid,D.out];simp,ahP (P1:=A) h2 G,by go_num,ab.out,by omega,?_,?_⟩,?_⟩
         .have t4:=t1.drew;unfold CB at t4;simpa using t4
         .have t5:=t3.drew;unfold CB at t5;exact t5
         .simp[intOf]
      .have af:¬ Sc x.a y.a<0:=fun h=>G (Xy.1 h)
       go_wp2_with fail
       case' roundEnd =>
        have h1:∀z,z∈A++[y]->z.a<=x.a:=fun z hz=>by
         have:=fP.last (key:=cU.a) (a:=A) (y:=y) ((fP.app.1 (show fP cU.a ((A++[y])++l)by rw[<-D.out];exact Q)).1) z hz;omega
        obtain⟨q1,q2,Z,Y,q5⟩:=Pk (key:=cU.a) V.out S.out Q O D.out h2 h1;refine⟨⟨k+1,K+1,(A++[y])++x::l,by omega,by omega,by have:=q.out;show _=_;omega,by go_num,q1,q2,Z,?_,?_⟩,?_⟩
        .rw[Y];exact(show sA w2 b off c _ by simpa using p)
        .exact M
        .simp[intOf];omega
   .have au:K=e:=by omega
    have ad:¬ (K:Int)<(e:Int):=(by omega);go_wp2_with fail;have ae:(E::f).drop k=[]:=by have:=o.out;have:=q.out;exact a4t (by omega)
    have aa:(E::f).take k=E::f:=by have:=o.out;have:=q.out;exact a1l (by omega)
    rw[aa]at O;rw[ae]at F;exact bodyPost_end (v:=.tuple #[]) (by simp[results,Tryz.results236,go_sem]) rfl ⟨rfl,P,by have:=o.out;have:=S.out;have:=q.out;simp at *;omega,Q,O,by simpa using F,H⟩
def ad0 (b off c:Nat) (l:List cU) (w:World) (r:Ending) (w':World):Prop :=
 r=.returned (.tuple #[])/\∃m:List cU,m.length=l.length/\fP cU.a m/\kR cU.a l m/\sA w' b off c m/\kN b w w'
def PZ (b off c cap:Nat) (l:List cU) (w:World) (h:sA w b off c l) (g:l.length<=cap) (i:cap<=maxLen) (x:l.length<=20) :
  Calls Tryz.prog 216 #[.slice (some ⟨b,off,none⟩) l.length cap,.int .i64 l.length,Nw c] w (ad0 b off c l w):=by
 unfold Nw;obtain⟨n,j⟩:∃n,l.length=n:=⟨_,rfl⟩;rw[j]at g x |-;have a:=Lib.hid j;clear j;go_enter Tryz.func216,Tryz.ntmps216;by_cases p:n=20
 .subst p
  go_wp2_with fail;refine wp_loop_rounds 2 ?_;rw[rounds_succ];go_wp2_with fail;refine(M9 b off c cap 0 20 [] l [] w (by simpa using h) 20 (by simpa using a.out) g i (by omega) rfl (by simp[a.out])).mono ?_;rintro r q ⟨rfl,m,d,f,e,k,o⟩;go_wp2_with fail;rw[rounds_succ];go_wp2_with fail;refine(M9 b off c cap 20 20 ([]++m++[]) [] [] q (by simpa using k) 20 (by simp[d,a.out]) g i (by omega) (by simp[d,a.out]) rfl).mono ?_;rintro r C ⟨rfl,y,s,-,-,t,u⟩;have e2:y=[]:=a4s s;subst e2;go_wp2_with fail;refine wp_loop_rounds 1 ?_;rw[rounds_succ];go_wp2_with fail;exact bodyPost_end (v:=.tuple #[]) (by simp[results,Tryz.results216,go_sem]) rfl ⟨rfl,m,d,f,e,by simpa using t,o.trans u⟩
 .have A:n<20:=by omega
  have B:¬ (20:Int)<=(n:Int):=by omega
  have z:¬ (20:Int)<(n:Int):=by omega
  go_wp2_with fail;refine wp_loop_rounds 1 ?_;rw[rounds_succ];go_wp2_with fail;refine(M9 b off c cap 0 n [] l [] w (by simpa using h) n (by simpa using a.out) g i (by omega) rfl (by simp[a.out])).mono ?_;rintro r q ⟨rfl,m,d,f,e,k,o⟩;go_wp2_with fail;refine wp_loop_rounds 1 ?_;rw[rounds_succ];go_wp2_with fail;exact bodyPost_end (v:=.tuple #[]) (by simp[results,Tryz.results216,go_sem]) rfl ⟨rfl,m,d,f,e,by simpa using k,o⟩
def SY (b off c cap:Nat) (l:List cU) (w:World) (h:sA w b off c l) (e:l.length<=cap) (f:cap<=maxLen) (a:l.length<=20) :
  Calls Tryz.prog 184 #[.slice (some ⟨b,off,none⟩) l.length cap,Nw c] w (ad0 b off c l w):=by
 have hs:=PZ b off c cap l w h e f a;unfold Nw at hs |-;go_enter Tryz.func184,Tryz.ntmps184;go_wp2_with fail;refine hs.mono ?_;rintro r g ⟨rfl,d⟩;go_wp2_with fail;exact bodyPost_end (v:=.tuple #[]) (by simp[results,Tryz.results184,go_sem]) rfl ⟨rfl,d⟩
def aiL (b off cap:Nat) (l:List cU) (w:World) (t:cD w b off (dV l)) (j:∀i,w.frozen? ⟨b,i,none⟩=false) (d:b<w.heap.size) (n:l.length<=cap) (o:cap<=maxLen) (k:l.length<=20) :
  Calls Tryz.prog 135 #[.slice (some ⟨b,off,none⟩) l.length cap,.func (.func 136) #[] #[]] w
   fun r w'=>r=.returned (.tuple #[])/\∃m:List cU,m.length=l.length/\fP cU.a m/\kR cU.a l m/\cD w' b off (dV m)/\kN b w w':=by
 have hs:=fun(W:World) (h:sA W b off w.heap.size l)=>SY b off w.heap.size cap l W h n o k;unfold Nw at hs;go_enter Tryz.func135,Tryz.ntmps135;go_wp2_with fail;have c:Below w.heap.size w (w.alloc (.cells #[.func (.func 136) #[] #[]] 186)):=(Below.refl _ _).alloc (a0g _) _;refine(hs _ ⟨t.below d c,fun i=>(c.frozen (p:=⟨b,i,none⟩) d).trans (j i),by simp;omega,by simp,by simp,by omega⟩).mono ?_;rintro r u ⟨rfl,m,g,f,e,q,s⟩;go_wp2_with fail;exact bodyPost_end (v:=.tuple #[]) (by simp[results,Tryz.results135,go_sem]) rfl ⟨rfl,m,g,f,e,q.cells,(kN.of c d).trans s⟩
def zQ (a:Int):Bool:=decide (0<=a)&&decide (a<17)
def wO {a:Int}:zQ a=true↔0<=a/\a<17:=by simp[zQ]
def amF (a:Int) (w:World):Calls Tryz.prog 132 #[.int .i64 a] w fun e w'=>e=.returned (.bool (zQ a))/\w=w':=by
 by_cases c:0<=a
 all_goals
  by_cases b:a<17
  all_goals
   go_enter Tryz.func132,Tryz.ntmps132;go_wp2_with fail;go_ret;exact⟨lT (by simp[zQ,c,b]),rfl⟩
def amG (v:Int) (w:World):Calls Tryz.prog 133 #[.int .i64 v] w fun e w'=>e=.returned (.bool (mJ v))/\w=w':=by
 go_enter Tryz.func133,Tryz.ntmps133;go_wp2
 all_goals (go_ret;exact⟨lT (by simp[mJ];try omega),rfl⟩)
structure Pred (F:FuncId) (p:cU->Bool):Prop where
 aB:∀(args:Array Value) (W:World),(callFunc F args).run Tryz.prog W=.ok (.enter F args) W
 ask:∀(x:cU) (W:World),Calls Tryz.prog F #[x.val] W fun e w'=>e=.returned (.bool (p x))/\Below W.heap.size W w'
def pB (x:cU):Bool:=!(zQ x.a)||!(mJ x.n)
def Oy (x:cU):Bool:=!(zQ x.a)||decide (x.n=0)||!(mJ x.n)
def jU (x:cU):Bool:=decide (x.n=0)
def ajL:Pred 131 pB:=by
 refine⟨fun args W=>by kernel_rfl,fun x W=>?_⟩;unfold cU.val;cases c:zQ x.a
 all_goals
  cases b:mJ x.n
  all_goals
   go_enter Tryz.func131,Tryz.ntmps131;go_wp2_with (first|(go_at_call 132;refine(amF _ _).mono ?_;rw[c];rintro e w' ⟨rfl,rfl⟩)|(go_at_call 133;refine(amG _ _).mono ?_;rw[b];rintro e w' ⟨rfl,rfl⟩));go_ret;exact⟨lT (by simp[pB,c,b]),blw⟩
def acU:Pred 138 jU:=by
 refine⟨fun args W=>by kernel_rfl,fun x W=>?_⟩;unfold cU.val;go_enter Tryz.func138,Tryz.ntmps138;go_wp2_with fail;go_ret;exact⟨lT (by rw[a4a];simp[jU]),blw⟩
def Lp (p:cU->Bool) (l:List cU):Int:=match l.findIdx? p with|some i=>(i:Int)|none=>-1
def afo {l:List cU} {j:Nat} {f:cU->Bool} (a:l[j]?=some x):(l.take (j+1)).all f=((l.take j).all f&&f x):=by
 rw[a0u,a];simp
def akm {p:cU->Bool} {l:List cU} {j:Nat} (a:l[j]?=some x) (c:p x=true) (b:(l.take j).all (fun y=>!p y)=true):Lp p l=j:=by
 have:l.findIdx? p=some j:=by
  rw[a4v];obtain⟨d,rfl⟩:=a0y.1 a;refine⟨d,c,fun i e=>?_⟩;have:=a0k.1 b l[i] (a5d.2 ⟨i,by omega,rfl⟩);simpa using this
 simp[Lp,this]
def aeL {p:cU->Bool} {l:List cU} (h:l.all (fun y=>!p y)=true):Lp p l=-1:=by
 have:l.findIdx? p=none:=by
  rw[a4w];intro x a;have:=a0k.1 h x a;simpa using this
 simp[Lp,this]
def Nc {p:cU->Bool} (hF:Pred F p) (a:Option Addr) (cap:Nat) (l:List cU) (w:World) (h:Row w 2 a l.length cap (dV l)) :
  Calls Tryz.prog 183 #[.slice a l.length cap,.func (.func F) #[] #[]] w fun e w'=>e=.returned (.int .i64 (Lp p l))/\Below w.heap.size w w':=by
 go_enter Tryz.func183,Tryz.ntmps183;obtain⟨E,v,n,A,m⟩:=h;unfold maxLen at n;have u:=hF.aB;have r:=Lib.hid hF.ask;clear hF;go_wp2_with fail;go_loopw [8] (fun i wr=>∃j:Nat,j<=l.length/\i=.int .i64 j/\Hid ((l.take j).all (fun y=>!p y)=true)/\Below w.heap.size w wr) (fun i _=>l.length-(intOf i).toNat)
 case atStart=>exact⟨0,by omega,rfl,rfl,Below.refl _ _⟩
 case round =>
  obtain⟨j,G,rfl,T,c⟩:=hrel;have g:=c.size;by_cases k:j<l.length
  .obtain⟨b,off,rfl,z,q⟩:∃b off,a=some ⟨b,off,none⟩/\b<w.heap.size/\cD w b off (dV l):=by
    rcases m with s|s
    .omega
    .exact s
   obtain⟨x,d⟩:∃x,l[j]?=some x:=⟨l[j],by simp[k]⟩;obtain⟨I,H⟩:=(q.below z c).line d;have t:(j:Int)<(l.length:Int):=(by omega);have d:=Lib.hid d;clear q m;go_wp2_with fail;refine(r.out x _).mono ?_;rintro e D ⟨rfl,f⟩;cases o:p x
   .go_wp2_with fail
    case' roundEnd =>
     refine⟨⟨j+1,k,by simp,by rw[Hid,afo d.out,T.out,o];rfl,c.trans (f.mono g)⟩,?_⟩;simp[intOf];omega
   .go_wp2_with fail
    go_ret;exact⟨xQ (akm d.out o T.out).symm,c.trans (f.mono g)⟩
  .have B:j=l.length:=by omega
   subst B;have C:¬ ((l.length:Int)<(l.length:Int)):=by omega
   go_wp2_with fail;go_ret;have T:=T.out;rw[a1g]at T;exact⟨xQ (aeL T).symm,c⟩
def Ov {p:cU->Bool} (hF:Pred F p) (a:Option Addr) (cap:Nat) (l:List cU) (w:World) (h:Row w 2 a l.length cap (dV l)) :
  Calls Tryz.prog 130 #[.slice a l.length cap,.func (.func F) #[] #[]] w fun e w'=>e=.returned (.bool (l.any p))/\Below w.heap.size w w':=by
 have b:(decide (0<=Lp p l))=l.any p:=by
  unfold Lp;cases g:l.findIdx? p with
  |none =>
   have:=a4w.1 g;have c:l.any p=false:=by rw[a1t];intro x j;simpa using this x j
   rw[c];rfl
  |some i =>
   obtain⟨b,k,-⟩:=a4v.1 g;have c:l.any p=true:=a1u.2 ⟨l[i],a2w b,k⟩;rw[c];simp
 have f:=Lib.hid b;clear b;go_enter Tryz.func130,Tryz.ntmps130;go_wp2_with fail;refine(Nc hF a cap l _ h).mono ?_;rintro e m ⟨rfl,d⟩;go_wp2_with fail;go_ret;exact⟨lT f.out,d⟩
def ane {w:World} {t n:Nat} (b:n=w.heap.size):cD (w.alloc (.cells #[.int .i64 x.a,.int .i64 x.n] t)) n 0 [x.a,x.n]:=by
 subst b;exact cD.new w [x.a,x.n] t
def eY (l:List cU):List Int:=l.map (·.n)
def kN.setCells {b:Nat} {u:World}:∀(vs:List Value) (o:Nat) (w:World),kN b u w->kN b u (w.setCells b o vs)
 |[],_,_,h=>h
 |v::r,o,w,h=>kN.setCells r (o+1) _ (h.set o v)
def cD.clear {w:World} {b off:Nat} {zs:List Int} {vs:List Value} (h:cD w b off zs) (c:zs.length<=k):cD (w.setCells b (off+k) vs) b off zs:=by
 intro i a;rw[World.cell?_setCells_out b vs (off+k) w ⟨b,off+i,none⟩ (fun _ _=>.inl (by simp only;omega))];exact h i a
def Ll (w:World) (f:TypeId) (g:∀w,(zeroValue 44).run Tryz.prog w=.ok (.agg #[.int .i64 0,.int .i64 0]) w) (b o n c:Nat) (q:0<n)
  (p:∀j,j<n*2->(w.cell? ⟨b,o+j,none⟩).isSome=true) (l:∀j,w.frozen? ⟨b,j,none⟩=false) :
  (Builtin.clear_ #[36] f #[.slice (some ⟨b,o,none⟩) n c]).run Tryz.prog w=.ok (.tuple #[]) (w.setCells b o (List.replicate (n*2) (.int .i64 0))):=by
 have d:(Builtin.zeroCells (Value.agg #[.int .i64 0,.int .i64 0]).cells n).toList=List.replicate (n*2) (.int .i64 0):=by
  simp only[Builtin.zeroCells,Value.cells];apply a26
  .simp
  .intro i t s
   simp;rcases Nat.mod_two_eq_zero_or_one i with h|h<;>simp[h]
 have a:=run_storeCells_cells (P:=Tryz.prog) b o (List.replicate (n*2) (.int .i64 0)) 0 w (by simpa using p) (by intro j r;exact l _) (by intro v e;rw[List.eq_of_mem_replicate e];rfl);simp only[a2q]at a;obtain⟨m,rfl⟩:∃m,n=m+1:=⟨n-1,by omega⟩;have k:Tryz.prog.underlying 36=some (.slice 44):=by kernel_rfl
 simp[Builtin.clear_,run_underlying k,g,d,a]
def ad3 (w:World):(zeroValue 44).run Tryz.prog w=.ok (.agg #[.int .i64 0,.int .i64 0]) w:=by kernel_rfl
def Xm {l L:List cU} {q:cU->Bool} {i j:Nat} (b:l[j]?=some x) (c:L.take i=(l.take j).filter q) (f:L.drop j=l.drop j) (g:i<j) (k:L.length=l.length) :
  (q x=false->L.take i=(l.take (j+1)).filter q/\L.drop (j+1)=l.drop (j+1)) /\
  (q x=true->(L.set i x).take (i+1)=(l.take (j+1)).filter q/\(L.set i x).drop (j+1)=l.drop (j+1))/\j<l.length:=by
 have e:j<l.length:=by
  rcases a0z j l.length with h|h
  .exact h
  .rw[a04 h]at b;cases b
 have a:L.drop (j+1)=l.drop (j+1):=by
  have:=congrArg (List.drop 1) f;simpa[List.drop_drop,Nat.add_comm]using this
 have d:(l.take (j+1)).filter q=(l.take j).filter q++[x].filter q:=by rw[a0u,b,a1a];rfl
 refine⟨fun h=>⟨by rw[d,c];simp[h],a⟩,fun h=>⟨?_,?_⟩,e⟩
 .rw[d,<-c,a0u,a3j (by omega)]
  simp[h,List.take_set];rw[List.set_eq_of_length_le (by simp;omega)]
 .rw[List.drop_set]
  simp only[a];split
  .rfl
  .omega
def Xu {p:cU->Bool} (hF:Pred F p) (b off cap:Nat) (l:List cU) (w:World) (V:cD w b off (dV l)) (N:∀i,w.frozen? ⟨b,i,none⟩=false) (u:b<w.heap.size) (X:l.length<=cap) (Y:cap<=maxLen) (hA:fM (dV l)) :
  Calls Tryz.prog 137 #[.slice (some ⟨b,off,none⟩) l.length cap,.func (.func F) #[] #[]] w
   fun e w'=>e=.returned (.slice (some ⟨b,off,none⟩) (l.filter (fun x=>!p x)).length cap)/\cD w' b off (dV (l.filter (fun x=>!p x)))/\kN b w w':=by
 have G:Row w 2 (some ⟨b,off,none⟩) l.length cap (dV l):=⟨sK l,X,Y,hA,.inr ⟨b,off,rfl,u,V⟩⟩;have q:=Nc hF (some ⟨b,off,none⟩) cap l;have aj:=Lib.hid hF.ask;have aq:=hF.aB;clear hF;obtain⟨n,H⟩:∃n,l.length=n:=⟨_,rfl⟩;rw[H]at X G q |-;have o:=Lib.hid H;unfold maxLen at Y;go_enter Tryz.func137,Tryz.ntmps137;cases v:l.findIdx? p with
 |none =>
  have r:Lp p l=-1:=by simp[Lp,v]
  have U:=a4w.1 v;have ad:l.filter (fun x=>!p x)=l:=List.filter_eq_self.2 fun x g=>by simp[U x g]
  clear v H;go_wp2_with fail;refine(q w G).mono ?_;rw[r];rintro e w1 ⟨rfl,m⟩;clear r;go_wp2_with fail;go_ret;rw[ad];exact⟨by rw[o.out];rfl,V.below u m,kN.of m u⟩
 |some k =>
  obtain⟨hk,M,A⟩:=a4v.1 v;have r:Lp p l=(k:Int):=by simp[Lp,v]
  have av:k<n:=by omega
  have ax:¬ (k:Int)=-1:=by omega
  have ay:((k:Int)==-1)=false:=by simp
  have ae:l.take k=(l.take (k+1)).filter (fun x=>!p x):=by
   rw[a4r hk,a1a];have h1:(l.take k).filter (fun x=>!p x)=l.take k:=List.filter_eq_self.2 fun x g=>by
    obtain⟨i,aA,rfl⟩:=a5d.1 g;have:=A i (by omega);simpa using this
   rw[h1];simp[M]
  clear v A H M;go_wp2_with fail;refine(q w G).mono ?_;rw[r];rintro e w1 ⟨rfl,m⟩;have T:=V.below u m;have ai:=kN.of m u;clear r q G m;go_wp2_with fail;go_loopw [5,6] (fun i j wr=>∃(c d:Nat) (L:List cU),i=.int .i64 (c:Int)/\j=.int .i64 (d:Int)/\c<d/\d<=n/\Hid (L.length=n)/\Hid (L.take c=(l.take d).filter (fun x=>!p x))/\Hid (L.drop d=l.drop d)/\cD wr b off (dV L)/\kN b w wr) (fun _ j _=>n-(intOf j).toNat)
  case atStart=>exact⟨k,k+1,l,rfl,by go_num,by omega,by omega,o.out,ae,rfl,T,ai⟩
  case round =>
   obtain⟨c,d,L,rfl,rfl,ac,az,s,hT,hD,J,I⟩:=hrel;have S:∀i,wr.frozen? ⟨b,i,none⟩=false:=fun i=>(I.Xg i).trans (N i);have af:b<wr.heap.size:=a0x u I.size;by_cases Z:d<n
   .have ao:(d:Int)<(n:Int):=by omega
    obtain⟨x,g⟩:∃x,l[d]?=some x:=⟨l[d]'(by rw[o.out];omega),by simp[o.out,Z]⟩
    have z:L[d]?=some x:=by
     have:=congrArg List.head? hD.out;rw[List.head?_drop,List.head?_drop,g]at this;exact this
    obtain⟨f1,f2,-⟩:=Xm g hT.out hD.out ac (by rw[s.out,o.out]);obtain⟨c0,c1⟩:=J.line z;have ar:=Lib.hid g;have am:=Lib.hid f1;have al:=Lib.hid f2;have an:=Lib.hid z;clear g f1 f2 z;go_wp2_with fail;refine(aj.out x _).mono ?_;rintro e y ⟨rfl,K⟩;have D:=J.below af (show Below wr.heap.size wr y from blw);have C:=I.then (show Below wr.heap.size wr y from blw) u;have v0:y.cell? ⟨wr.heap.size,0,none⟩=some (.int .i64 x.a):=(K.cell (by simp)).trans (by simp);have v1:y.cell? ⟨wr.heap.size,1,none⟩=some (.int .i64 x.n):=(K.cell (by simp)).trans (by simp);cases W:p x
    .have f:=al.out (by simp[W])
     have E:=Lib.hid f;clear f;have R:(c:Int)<(n:Int):=(by omega);have g0:=D.line (j:=c) (x:=L[c]'(by rw[s.out];omega)) (by simp[s.out]);have g1:∀i,y.frozen? ⟨b,i,none⟩=false:=fun i=>(C.Xg i).trans (N i);have Q:=OS D (i:=c) (by rw[s.out];omega) x;have ag:=C.CB (off+c*2) x;obtain⟨g2,g3⟩:=g0;go_wp2_with fail
     case' roundEnd =>
      refine⟨⟨c+1,d+1,L.set c x,by go_num,by go_num,by omega,by omega,by rw[Hid,a1d];exact s.out,E.out.1,E.out.2,Q,ag⟩,?_⟩;simp[intOf];omega
    .have f:=am.out (by simp[W])
     have E:=Lib.hid f;clear f;go_wp2_with fail
     case' roundEnd =>
      refine⟨⟨c,d+1,L,rfl,by go_num,by omega,by omega,s,E.out.1,E.out.2,D,C⟩,?_⟩;simp[intOf];omega
   .have ab:d=n:=by omega
    subst ab;have aC:¬ (d:Int)<(d:Int):=by omega
    have R:(c:Int)<=(d:Int):=(by omega);have au:¬ cap=c:=(by omega);have aw:c<=cap:=(by omega);have ap:(c:Int)<=(cap:Int):=(by omega);have B:L.take c=l.filter (fun x=>!p x):=by rw[hT.out,a1l (by rw[o.out];omega)]
    have t:(l.filter (fun x=>!p x)).length=c:=by rw[<-B,a17,s.out];omega
    have lS:∀P,(Builtin.clear_ #[36] P #[.slice (some ⟨b,off+c*2,none⟩) (d-c) (cap-c)]).run Tryz.prog wr=.ok (.tuple #[]) (wr.setCells b (off+c*2) (List.replicate ((d-c)*2) (.int .i64 0))):=fun P =>
     Ll wr P ad3 b (off+c*2) (d-c) (cap-c) (by omega) (fun j hj=>by rw[show off+c*2+j=off+(c*2+j)by omega,J (c*2+j) (by rw[sK,s.out];omega)];rfl) S
    have O:cD wr b off (dV (L.take c)):=by
     refine cD.TG fun j x g=>?_
     have hj:j<c:=by
      rcases a0z j c with h|h
      .exact h
      .rw[a04 (by rw[a17];omega)]at g;cases g
     rw[a5a hj]at g;exact J.line g
    rw[B]at O;have ak:=O.clear (k:=c*2) (vs:=List.replicate ((d-c)*2) (.int .i64 0)) (by rw[sK,t];omega);have ah:=I.setCells (List.replicate ((d-c)*2) (.int .i64 0)) (off+c*2);have aa:=Lib.hid t;clear t B;go_wp2_with fail;go_ret;exact⟨by rw[aa.out];rfl,ak,ah⟩
def gT (l:List cU) (a:Int):List Int:=eY (l.filter fun x=>x.a==a)
def cQ (l:List cU):List cU×Int :=
 if l.any pB then([],1)else if(List.range 17).any (fun(a:Nat)=>decide (eB (gT l (a:Int))≠0))then([],2)else
  (((List.range 17).map fun(a:Nat)=>(⟨(a:Int),dP (gT l (a:Int))⟩:cU)).filter (fun x=>!jU x),0)
def NR (l:List cU):Prop:=l.Pairwise fun x y=>x.a<y.a
structure qL (P out:List cU):Prop where
 strict:NR out
 acc:∀a,(∃y,y∈out/\y.a=a)↔∃x,x∈P/\x.a=a
 sum:∀y,y∈out->dM 0 (gT P y.a)=some y.n
 ao5:fP cU.a P
def qL.nil:qL [] []:=⟨List.Pairwise.nil,by simp,by simp,fP.nil⟩
def sM (P:List cU) (x:cU) (a:Int):gT (P++[x]) a=if x.a=a then gT P a++[x.n]else gT P a:=by
 unfold gT eY;by_cases h:x.a=a
 .simp[a1a,h]
 .simp[a1a,h]
def uO (l:List Int) (z n:Int) (h:dM 0 l=some n):dM 0 (l++[z])=if gD n z then some (n+z)else none:=by
 rw[Md,h];rfl
def qL.more {P out:List cU} (h:qL P out) (j:fP cU.a (P++[x])) (i:mJ x.n=true) (l:∀A y,out=A++[y]->y.a≠x.a):qL (P++[x]) (out++[x]):=by
 have d:∀y,y∈out->y.a<x.a:=by
  intro y b;have g:∀y,y∈out->y.a<=x.a:=fun y b=>by
   obtain⟨z,c,e⟩:=(h.acc y.a).1 ⟨y,b,rfl⟩;have:=(fP.app.1 j).2.2 z c x (by simp);omega
  rcases Cz out with rfl|⟨A,f,rfl⟩
  .simp at b
  .have o:=l A f rfl
   have m:=g f (by simp);rcases a0m.1 b with b|b
   .have:=(a2c.1 h.strict).2.2 y b f (by simp)
    omega
   .simp at b;subst b;omega
 have k:gT P x.a=[]:=by
  unfold gT eY;rw[a3p,a4c];intro z c;simp;intro e;obtain⟨y,b,p⟩:=(h.acc z.a).2 ⟨z,c,rfl⟩;have:=d y b;omega
 refine⟨a2c.2 ⟨h.strict,by simp,fun y b z c=>by simp at c;subst c;exact d y b⟩,fun a=>?_,fun y b=>?_,j⟩
 .constructor
  .rintro⟨y,b,rfl⟩
   rcases a0m.1 b with b|b
   .obtain⟨z,c,e⟩:=(h.acc y.a).1 ⟨y,b,rfl⟩
    exact⟨z,by simp[c],e⟩
   .exact⟨y,by simp at b;simp[b],rfl⟩
  .rintro⟨z,c,rfl⟩
   rcases a0m.1 c with c|c
   .obtain⟨y,b,e⟩:=(h.acc z.a).2 ⟨z,c,rfl⟩
    exact⟨y,by simp[b],e⟩
   .exact⟨z,by simp at c;simp[c],rfl⟩
 .rw[sM]
  rcases a0m.1 b with b|b
  .have:=d y b
   rw[if_neg (by omega)];exact h.sum y b
  .simp at b
   subst b;rw[if_pos rfl,k];have:gD 0 y.n=true:=pR.2 ⟨by decide +kernel,i,by rw[a2v];exact i⟩;simp[dM,this]
def qL.same {P A:List cU} {y:cU} (h:qL P (A++[y])) (f:fP cU.a (P++[x])) (e:y.a=x.a) (g:gD y.n x.n=true):qL (P++[x]) (A++[⟨y.a,y.n+x.n⟩]):=by
 have hs:=a2c.1 h.strict;refine⟨a2c.2 ⟨hs.1,by simp,fun z b u c=>by simp at c;subst c;exact hs.2.2 z b y (by simp)⟩,fun a=>?_,fun z b=>?_,f⟩
 .have:=h.acc a
  constructor
  .rintro⟨z,b,rfl⟩
   have:∃u,u∈P/\u.a=z.a:=this.1 (by
    rcases a0m.1 b with b|b
    .exact⟨z,by simp[b],rfl⟩
    .simp at b;exact⟨y,by simp,by rw[b]⟩)
   obtain⟨u,c,d⟩:=this;exact⟨u,by simp[c],d⟩
  .rintro⟨z,b,rfl⟩
   have i:∃u,u∈A++[y]/\u.a=z.a:=by
    rcases a0m.1 b with b|b
    .exact this.2 ⟨z,b,rfl⟩
    .simp at b;exact⟨y,by simp,by rw[b,e]⟩
   obtain⟨u,c,d⟩:=i;rcases a0m.1 c with c|c
   .exact⟨u,by simp[c],d⟩
   .simp at c;subst c;exact⟨⟨u.a,u.n+x.n⟩,by simp,d⟩
 .rw[sM]
  rcases a0m.1 b with b|b
  .have:=hs.2.2 z b y (by simp)
   rw[if_neg (by omega)];exact h.sum z (by simp[b])
  .simp at b
   subst b;rw[if_pos e.symm];rw[uO _ _ _ (h.sum y (by simp)),g];rfl
def qL.stop {P A m:List cU} {y:cU} (h:qL P (A++[y])) (e:y.a=x.a) (c:gD y.n x.n=false) (d:P=m.take k) (b:m[k]?=some x):dM 0 (gT m y.a)=none:=by
 have g:dM 0 (gT (P++[x]) y.a)=none:=by
  rw[sM,if_pos e.symm,uO _ _ _ (h.sum y (by simp)),c];rfl
 have f:gT m y.a=gT (P++[x]) y.a++gT (m.drop (k+1)) y.a:=by
  have e2:m.take (k+1)=P++[x]:=by rw[a0u,b,d];rfl
  conv=>lhs;rw[<-a2j (k+1) m,e2]
  unfold gT eY;rw[a1a,a03]
 rw[f,xH,g];rfl
def Mf (l:List Int):∀n s:Int,mJ n=true->dM n l=some s->mJ s=true:=by
 induction l with
 |nil=>intro n s a h;simp[dM]at h;subst h;exact a
 |cons z l b =>
  intro n s a h;simp only[dM]at h;split at h
  .rename_i k;exact b _ _ (pR.1 k).2.2 h
  .cases h
def AK {l m:List cU} (h:kR cU.a l m) (a:Int):gT m a=gT l a:=by
 unfold gT;rw[h a]
def aef {l:List Int} (h:dM 0 l=none):eB l=2:=by simp[eB,h]
def lX {l:List Int} {n:Int} (h:dM 0 l=some n):dP l=n/\eB l=0:=by simp[dP,eB,h]
def Mg:∀(l m:List cU),NR l->NR m->(∀x,x∈l↔x∈m)->l=m
 |[],[],_,_,_=>rfl
 |[],y::m,_,_,h=>absurd ((h y).2 (by simp)) (by simp)
 |x::l,[],_,_,h=>absurd ((h x).1 (by simp)) (by simp)
 |x::l,y::m,n,k,h=>by
  have g:=a2b.1 n;have f:=a2b.1 k;have e:x=y:=by
   rcases a0d.1 ((h x).1 (by simp))with e|j
   .exact e
   .rcases a0d.1 ((h y).2 (by simp))with e|i
    .exact e.symm
    .have a:=f.1 x j
     have b:=g.1 y i;omega
  subst e;congr 1;refine Mg l m g.2 f.2 fun z=>?_;constructor
  .intro d
   rcases a0d.1 ((h z).1 (by simp[d]))with e|c
   .subst e;have:=g.1 z d;omega
   .exact c
  .intro d
   rcases a0d.1 ((h z).2 (by simp[d]))with e|c
   .subst e;have:=f.1 z d;omega
   .exact c
def O6 {l:List cU} (h:l.any pB=true):cQ l=([],1):=by simp[cQ,h]
def LL {l:List cU} (h:l.any pB=false) (b:x∈l):0<=x.a/\x.a<17/\mJ x.n=true:=by
 have:=a1t.1 h x b;simp[pB]at this;exact⟨(wO.1 this.1).1,(wO.1 this.1).2,this.2⟩
def O5 {l m:List cU} {a:Int} (h:l.any pB=false) (hs:kR cU.a l m) (c:0<=a/\a<17) (b:dM 0 (gT m a)=none):cQ l=([],2):=by
 have:(List.range 17).any (fun(a:Nat)=>decide (eB (gT l (a:Int))≠0))=true:=by
  refine a1u.2 ⟨a.toNat,a0t.2 (by omega),?_⟩;rw[a1w c.1,<-AK hs,aef b];decide
 simp only[cQ,h,this];simp
def agu {l m out:List cU} (h:l.any pB=false) (hs:kR cU.a l m) (f:qL m out):cQ l=(out.filter (fun x=>!jU x),0):=by
 have p:∀a:Nat,eB (gT l a)=0/\((∃y,y∈out/\y.a=(a:Int)/\y.n=dP (gT l a))\/((∀y,y∈out->y.a≠(a:Int))/\dP (gT l a)=0)):=by
  intro a;by_cases i:∃y,y∈out/\y.a=(a:Int)
  .obtain⟨y,d,e⟩:=i
   have:=lX (f.sum y d);rw[e,AK hs]at this;exact⟨this.2,.inl ⟨y,d,e,this.1.symm⟩⟩
  .have o:gT l a=[]:=by
    rw[<-AK hs];unfold gT eY;rw[a3p,a4c];intro z c;simp;intro e;exact i ((f.acc a).2 ⟨z,c,e⟩)
   rw[o];exact⟨rfl,.inr ⟨fun y d e=>i ⟨y,d,e⟩,rfl⟩⟩
 have:(List.range 17).any (fun(a:Nat)=>decide (eB (gT l (a:Int))≠0))=false:=by
  rw[a1t];intro a _;simp[(p a).1]
 simp only[cQ,h,this];simp only[a2i,if_false,a13,and_true];refine Mg _ _ ?_ (f.strict.filter _) fun x=>?_
 .refine List.Pairwise.filter _ ?_
  rw[List.pairwise_map];refine(a23 (n:=17)).imp fun{a b} q=>?_
  simp only;omega
 .simp only[List.mem_filter,a0j,a0t]
  constructor
  .rintro⟨⟨a,t,rfl⟩,c⟩
   rcases(p a).2 with⟨y,d,e1,e2⟩|⟨-,e2⟩
   .refine⟨?_,c⟩
    obtain⟨s,r⟩:=y;simp only at e1 e2;subst e1;subst e2;exact d
   .simp[jU,e2]at c
  .rintro⟨k,c⟩
   refine⟨?_,c⟩;obtain⟨z,j,e⟩:=(f.acc x.a).1 ⟨x,k,rfl⟩;have g:=LL h ((kR.mem hs).1 j);refine⟨x.a.toNat,by omega,?_⟩;have en:(x.a.toNat:Int)=x.a:=a1w (by omega);rw[en];have:=lX (f.sum x k);rw[AK hs]at this;rw[this.1]
def PO (w:World) (base:Nat) (v:Value) (l:List cU):Prop :=
 ∃a cap,v=.slice a l.length cap/\l.length<=cap/\cap<=maxLen/\(l.length=0\/∃b off,a=some ⟨b,off,none⟩/\base<=b/\b<w.heap.size/\cD w b off (dV l)/\∀i,w.frozen? ⟨b,i,none⟩=false)
def PO.nil {w:World} {base:Nat} {a:Option Addr} {cap:Nat} (h:cap<=maxLen):PO w base (.slice a 0 cap) []:=⟨a,cap,rfl,by simp,h,.inl rfl⟩
def gZ.full {w:World} {base n:Nat} {e:TypeId} {v:Value} {l:List cU} (h:gZ w base e 2 v n (dV l)) (s:0<n) :
  ∃g cap,v=.slice (some ⟨g,0,none⟩) n cap/\base<=g/\g<w.heap.size/\n<=cap/\cap<=maxLen/\cD w g 0 (dV l)/\∀i,w.frozen? ⟨g,i,none⟩=false:=by
 have q:=h.len;obtain⟨r,m⟩:=id h;rcases m with⟨rfl,a⟩|⟨b,cap,o,rfl,k,f,a,j,hs,p⟩
 .omega
 .refine⟨b,cap,rfl,k,(a2p.1 f).1,a,j,?_,fun i=>World.ownsRow.frozenAt h i⟩
  intro i d;have c:=World.ownsRow.cellAt (w:=w) (base:=base) (e:=e) (size:=2) (g:=b) (n:=n) (cap:=cap) (xs:=ints (dV l)) h i (by omega);rw[a02,c,wP,a0f d,a0c,a0f d];rfl
def gZ.stored {w:World} {base n g cap:Nat} {e:TypeId} {zs:List Int} (h:gZ w base e k (.slice (some ⟨g,0,none⟩) n cap) n zs) (j:Nat) (z:Int) :
  gZ (w.setCell ⟨g,j,none⟩ (.int .i64 z)) base e k (.slice (some ⟨g,0,none⟩) n cap) n (zs.set j z):=by
 have:=(World.ownsRow.stored h j (.int .i64 z)).1;unfold gZ;rw[show ints (zs.set j z)=(ints zs).set j (.int .i64 z)by simp[ints,a09]];exact this
def tY (l:List cU) (x:cU):dV (l++[x])=dV l++[x.a,x.n]:=by simp[dV]
def abO (A:List cU) (y:cU) (z:Int):(dV (A++[y])).set (A.length*2+1) z=dV (A++[⟨y.a,z⟩]):=by
 rw[tY,tY,List.set_append];have:=sK A;rw[if_neg (by omega),this];simp
section
variable (a:Option Addr) (cap:Nat) (w:World)
def ahO (b:cap<=maxLen) (F:Value):Calls Tryz.prog 236 #[.slice a 0 cap,.int .i64 0,.int .i64 0,F] w fun r w'=>r=.returned (.tuple #[])/\w=w':=by
 go_enter Tryz.func236,Tryz.ntmps236;go_wp2_with fail;refine wp_loop_rounds 1 ?_;rw[rounds_succ];go_wp2_with fail;exact bodyPost_end (v:=.tuple #[]) (by simp[results,Tryz.results236,go_sem]) rfl ⟨rfl,rfl⟩
def SX (b:cap<=maxLen) (F:Value):Calls Tryz.prog 216 #[.slice a 0 cap,.int .i64 0,F] w fun r w'=>r=.returned (.tuple #[])/\w=w':=by
 go_enter Tryz.func216,Tryz.ntmps216;go_wp2_with fail;refine wp_loop_rounds 1 ?_;rw[rounds_succ];go_wp2_with fail;refine(ahO a cap _ b F).mono ?_;rintro r c ⟨rfl,rfl⟩;go_wp2_with fail;refine wp_loop_rounds 1 ?_;rw[rounds_succ];go_wp2_with fail;exact bodyPost_end (v:=.tuple #[]) (by simp[results,Tryz.results216,go_sem]) rfl ⟨rfl,rfl⟩
def aeO (b:cap<=maxLen) (F:Value):Calls Tryz.prog 184 #[.slice a 0 cap,F] w fun r w'=>r=.returned (.tuple #[])/\w=w':=by
 go_enter Tryz.func184,Tryz.ntmps184;go_wp2_with fail;refine(SX a cap _ b F).mono ?_;rintro r c ⟨rfl,rfl⟩;go_wp2_with fail;exact bodyPost_end (v:=.tuple #[]) (by simp[results,Tryz.results184,go_sem]) rfl ⟨rfl,rfl⟩
def akV (b:cap<=maxLen):Calls Tryz.prog 135 #[.slice a 0 cap,.func (.func 136) #[] #[]] w fun r w'=>r=.returned (.tuple #[])/\Below w.heap.size w w':=by
 go_enter Tryz.func135,Tryz.ntmps135;go_wp2_with fail;refine(aeO a cap _ b _).mono ?_;rintro r c ⟨rfl,rfl⟩;go_wp2_with fail;exact bodyPost_end (v:=.tuple #[]) (by simp[results,Tryz.results135,go_sem]) rfl ⟨rfl,(Below.refl _ _).alloc (a0g _) _⟩
end
def abR {p:cU->Bool} (hF:Pred F p) (w:World) :
  Calls Tryz.prog 137 #[.slice none 0 0,.func (.func F) #[] #[]] w fun e w'=>e=.returned (.slice none 0 0)/\Below w.heap.size w w':=by
 have a:=Nc hF none 0 [];go_enter Tryz.func137,Tryz.ntmps137;clear hF;go_wp2_with fail;refine(a w (Row.nil _ _)).mono ?_;rw[show Lp p []=-1 from rfl];rintro e c ⟨rfl,b⟩;go_wp2_with fail;go_ret;exact⟨rfl,b⟩
section
variable {P:Program} {f:FuncId} {args:Array Value} {w:World} {v:Value}
def oM {a n:Nat} (h:Calls P f args (w.drewN (a+n)) fun e w'=>e=.returned v/\w.drewN (a+n)=w') :
  Calls P f args (w.drewN (a+n)) fun e b=>e=.returned v/\∃m,b=w.drewN (a+m):=h.mono fun _ _ ⟨d,c⟩=>⟨d,n,c.symm⟩
def xT {n:Nat} (h:Calls P f args (w.drewN n) fun e w'=>e=.returned v/\w.drewN n=w'):Calls P f args (w.drewN n) fun e a=>e=.returned v/\∃m,a=w.drewN m:=h.mono fun _ _ ⟨c,b⟩=>⟨c,n,b.symm⟩
end
def aiU {x y:Int} (h:gD x y=true) (w:World):Calls Tryz.prog 37 #[.int .i64 x,.int .i64 y] w fun e w'=>e=.returned (.tuple #[.int .i64 (x+y),.int .i64 0])/\w=w':=by
 have:=As x y w;rw[(vD h).1,(vD h).2]at this;exact this
def aiV {x y:Int} (h:gD x y=false) (w:World):Calls Tryz.prog 37 #[.int .i64 x,.int .i64 y] w fun e w'=>e=.returned (.tuple #[.int .i64 0,.int .i64 2])/\w=w':=by
 have:=As x y w;rw[(lJ h).1,(lJ h).2]at this;exact this
def aoX (w:World) (r:List cU×Int) (e:Ending) (w':World):Prop:=∃v,e=.returned (.tuple #[v,.int .i64 r.2])/\PO w' w.heap.size v r.1/\Below w.heap.size w w'
def ad7 (a:Option Addr) (cap:Nat) (l:List cU) (w:World) (h:Row w 2 a l.length cap (dV l)) (aw:l.length<=20) :
  Calls Tryz.prog 77 #[.slice a l.length cap] w (aoX w (cQ l)):=by
 have aA:=h.all;generalize D:cQ l=r;have f:=Lib.hid D;clear D;go_enter Tryz.func77,Tryz.ntmps77;go_wp2_with fail;refine(Ov ajL a cap l _ h).mono ?_;rintro e w1 ⟨rfl,J⟩;have h1:=h.below J;cases I:l.any pB
 .clear h
  go_wp2_with fail;refine(acs a l.length cap (dV l) _ h1 (by omega)).mono ?_;rintro e w2 ⟨⟨v2,rfl,Y⟩,aq⟩;have af:Below w.heap.size w w2:=blw;by_cases h0:l=[]
  .subst h0
   have D:r=([],0):=by rw[<-f.out];rfl
   subst D;obtain⟨a2,c2,rfl,R2⟩:=Y.row (by intro z hz;simp[dV]at hz);clear f h1 J aq Y aA;go_wp2_with fail;refine(akV a2 c2 w2 R2.max).mono ?_;rintro e d ⟨rfl,aR⟩;go_wp2_with fail;refine wp_loop_rounds 1 ?_;rw[rounds_succ];go_wp2_with fail;refine(abR acU d).mono ?_;rintro e w4 ⟨rfl,aQ⟩;go_wp2_with fail;go_ret2;exact⟨_,rfl,PO.nil (by unfold maxLen;omega),blw⟩
  .have ak:0<l.length:=a3d.2 h0
   obtain⟨b,c2,rfl,aI,hb,ar,aH,CU,av⟩:=Y.full ak;clear Y h1;go_wp2_with fail;refine(aiL b 0 c2 l w2 CU av hb ar aH aw).mono ?_;rintro e d ⟨rfl,m,AP,au,qN,aE,hK⟩;have ad:∀x,x∈m->0<=x.a/\x.a<17/\mJ x.n=true:=fun x t=>LL I ((kR.mem qN).1 t);have H:Below w.heap.size w d:=af.trans (hK.below af.size (a1k J.size aI));have aJ:b<d.heap.size:=a0x hb hK.size;have ag:=Lib.hid ad;have S:=H.size;have G:=Lib.hid AP;have az:=Lib.hid au;obtain⟨n,hN⟩:∃n,l.length=n:=⟨_,rfl⟩;rw[hN]at ar ak aw |-;have ah:=Lib.hid hN;clear ad J aq CU av hK AP au hN h0;go_wp2_with fail;go_loopw [5,19] (fun o i wr=>∃(j:Nat) (c:List cU),j<=n/\i=.int .i64 j/\gZ wr d.heap.size 44 2 o c.length (dV c)/\Hid (qL (m.take j) c)/\c.length<=j/\Below d.heap.size d wr) (fun _ i _=>n-(intOf i).toNat)
   case atStart=>exact⟨0,[],by omega,rfl,gZ.nil _ _ _ _,qL.nil,by simp,Below.refl _ _⟩
   case round =>
    obtain⟨j,c,hj,rfl,O,E,aD,W⟩:=hrel;have ax:=W.size;by_cases aF:j<n
    .have aN:(j:Int)<(n:Int):=by omega
     obtain⟨x,t⟩:∃x,m[j]?=some x:=⟨m[j]'(by rw[G.out,ah.out];omega),by simp[G.out,ah.out,aF]⟩;obtain⟨c0,c1⟩:=(aE.below aJ W).line t;rw[a02]at c0 c1;have aj:m.take (j+1)=m.take j++[x]:=by rw[a0u,t];rfl
     have Z:fP cU.a (m.take j++[x]):=by rw[<-aj];exact List.Pairwise.take az.out
     have ap:=ag.out x (a0a t);have aB:=Lib.hid t;have R:=Lib.hid aj;have u:=Lib.hid Z;have Q:=Lib.hid ap;clear t aj Z ap;rcases Cz c with rfl|⟨A,y,rfl⟩
     .obtain⟨a5,c5,rfl,R5⟩:=O.row (by intro z hz;simp[dV]at hz)
      clear R5;go_wp2_with fail;go_quiet (fail);go_wp2_with (at_builtin;refine uN _ rfl _ _ 36 rfl d.heap.size 44 2 AE _ 0 (dV []) rfl (O.below blw) (wr.heap.size+1) 0 1 [x.a,x.n] rfl rfl (ane (x:=x) (by simp)) ?c1 ?c2 ?_)
      case c1=>omega
      case c2=>simp;omega
      .intro v' w4 F B
       have C:qL (m.take (j+1)) ([]++[x]):=by rw[R.out];exact E.out.more u.out Q.out.2.2 (by simp)
       have X:=Lib.hid C;have L:Below d.heap.size d w4:=Below.trans blw B;clear O B C;go_wp2;go_roundw
       case rel=>exact⟨j+1,[]++[x],by omega,by go_num,by rw[tY];exact F,X.out,by simp,L⟩
       case measure=>simp[intOf];omega
     .obtain⟨g,c5,rfl,ae,an,T,V,N,M⟩:=O.full (by simp)
      have am:=N.line (j:=A.length) (x:=y) (by simp);rw[a02]at am;obtain⟨q,hq⟩:∃q,A.length=q:=⟨_,rfl⟩;have U:(A++[y]).length=q+1:=by simp;omega
      rw[hq]at am;obtain⟨y0,y1⟩:=am;have aP:=M (q*2+1);have aC:(0:Int)<=(q:Int):=(by omega);have aW:IntKind.i64.wrap ((q:Int)+1-1)=(q:Int):=(IntWalk.i64_in _ (by omega)).trans (by omega);have aV:IntKind.i64.wrap (q:Int)=(q:Int):=IntWalk.i64_in _ (by omega);have aU:(q:Int)<(q:Int)+1:=(by omega);have aT:decide ((0:Int)<=(q:Int))=true:=decide_eq_true aC;have aO:g<wr.heap.size+1:=(by omega);have ab:=Lib.hid U;have aa:=Lib.hid hq;have aS:(q:Int)<=20:=(by omega);rw[U]at O |-;clear U hq N M;by_cases k:y.a=x.a
      .have B:(y.a==x.a)=true:=by simpa using k
       have aK:decide (y.a=x.a)=true:=(by simpa using k);have ai:=Lib.hid k;clear k;cases v:gD y.n x.n
       .have D:r=([],2):=by
         rw[<-f.out];have g:=Q.out;have e:=ai.out;exact O5 (a:=y.a) I qN (by omega) (E.out.stop e v rfl aB.out)
        subst D;clear f;go_wp2_with fail;go_quiet (fail);go_wp2_with fail;go_quiet ((go_at_call 37;first|exact oM (aiV v _)|exact xT (aiV v _)));go_wp2_with fail;go_ret2;exact⟨_,rfl,PO.nil (by unfold maxLen;omega),Below.trans H (Below.mono blw S)⟩
       .have aY:=Ac v
        go_wp2_with fail;go_quiet (fail);go_wp2_with fail;go_quiet ((go_at_call 37;first|exact oM (aiU v _)|exact xT (aiU v _)));go_wp2_with fail
        case' roundEnd =>
         have C:Hid (qL (m.take (j+1)) (A++[⟨y.a,y.n+x.n⟩])):=by rw[Hid];rw[R.out];exact E.out.same u.out ai.out v
         have Y:∀K,gZ _ _ _ _ _ _ _:=fun K=>(O.below (w':=(wr.alloc (.cells #[.int .i64 x.a,.int .i64 x.n] 44)).drewN K) blw).stored (q*2+1) (y.n+x.n);have aG:(dV (A++[y])).set (q*2+1) (y.n+x.n)=dV (A++[⟨y.a,y.n+x.n⟩]):=by rw[<-aa.out];exact abO A y _
         rw[aG]at Y;have L:∀K,Below d.heap.size d (((wr.alloc (.cells #[.int .i64 x.a,.int .i64 x.n] 44)).drewN K).setCell ⟨g,q*2+1,none⟩ (.int .i64 (y.n+x.n))):=fun K=>Below.setCell blw (p:=⟨g,q*2+1,none⟩) ae _;refine⟨⟨j+1,A++[⟨y.a,y.n+x.n⟩],by omega,by go_num,?_,C,by simp;have:=aa.out;have:=ab.out;simp at aD;omega,L _⟩,?_⟩
         .have ac:(A++[(⟨y.a,y.n+x.n⟩:cU)]).length=q+1:=by simp;exact aa.out
          rw[ac];exact Y _
         .simp[intOf];omega
      .have B:(y.a==x.a)=false:=by simpa using k
       have aK:decide (y.a=x.a)=false:=(by simpa using k)
       have C:qL (m.take (j+1)) ((A++[y])++[x]):=by
        rw[R.out];refine E.out.more u.out Q.out.2.2 fun A' y' e=>?_
        have:=List.append_inj' e rfl;simp at this;rw[<-this.2];exact k
       have X:=Lib.hid C;clear C;go_wp2_with fail;go_quiet (fail);go_wp2_with (at_builtin;refine uN _ rfl _ _ 36 rfl d.heap.size 44 2 AE _ (q+1) (dV (A++[y])) rfl (O.below blw) (wr.heap.size+1) 0 1 [x.a,x.n] rfl rfl (ane (x:=x) (by simp)) ?c1 ?c2 ?_)
       case c1=>omega
       case c2=>simp;omega
       .intro v' w4 F B
        have L:Below d.heap.size d w4:=Below.trans blw B;have ac:((A++[y])++[x]).length=q+1+1:=by simp;have:=aa.out;omega
        have al:=Lib.hid ac;clear O B ac;go_wp2;go_roundw
        case rel=>exact⟨j+1,(A++[y])++[x],by omega,by go_num,by rw[al.out,tY];exact F,X.out,by rw[al.out];have:=ab.out;omega,L⟩
        case measure=>simp[intOf];omega
    .have ej:j=n:=by omega
     subst ej;have aX:¬ (j:Int)<(j:Int):=by omega
     have P:qL m c:=by have:=E.out;rwa[a1l (by rw[G.out,ah.out];omega)]at this
     have ay:c≠[]:=by
      intro e;obtain⟨x,t⟩:∃x,x∈m:=⟨m[0]'(by rw[G.out,ah.out];omega),a2w _⟩;obtain⟨y,hy,-⟩:=(P.acc x.a).2 ⟨x,t,rfl⟩;rw[e]at hy;simp at hy
     obtain⟨g,c5,rfl,ae,an,T,V,N,M⟩:=O.full (a3d.2 ay);have D:r=(c.filter (fun x=>!jU x),0):=by rw[<-f.out];exact agu I qN P
     have aM:fM (dV c):=Nj fun y hy=>by
      obtain⟨x,t,e⟩:=(P.acc y.a).1 ⟨y,hy,rfl⟩;have g:=ag.out x t;have s:=Mf _ 0 y.n (by decide +kernel) (P.sum y hy);have s:=fG.1 s;exact⟨⟨by omega,by omega⟩,⟨by omega,by omega⟩⟩
     subst D;have hd:=Xu acU g 0 c5 c wr N M an T V aM;clear f P O N E;go_wp2_with fail;refine hd.mono ?_;rintro e w5 ⟨rfl,aL,ao⟩;go_wp2_with fail;go_ret2;refine⟨_,rfl,⟨_,c5,rfl,a1k (a4d _ _) T,V,.inr ⟨g,0,rfl,a1k S ae,a0x an ao.size,aL,fun i=>(ao.Xg i).trans (M i)⟩⟩,?_⟩;exact H.trans ((W.trans (ao.below ax ae)).mono S)
 .have D:r=([],1):=by rw[<-f.out];exact O6 I
  subst D;clear f;go_wp2_with fail;go_ret2;exact⟨_,rfl,PO.nil (by unfold maxLen;omega),J⟩
end
section
def pA (l:List cU):Bool:=decide (1<=l.length)&&decide (l.length<=12)&&!(l.any Oy)&&decide (dP (eY l)=0)&&decide (eB (eY l)=0)
def PX (l:List Int):-288230376151711744<=dP l/\dP l<=288230376151711744:=by
 unfold dP;cases h:dM 0 l with
 |none=>exact⟨by simp,by simp⟩
 |some s=>exact fG.1 (Mf l 0 s (by decide +kernel) h)
def FP (l:List cU):∀x,x∈(cQ l).1->0<=x.a/\x.a<17/\-288230376151711744<=x.n/\x.n<=288230376151711744:=by
 intro x b;unfold cQ at b;split at b
 .simp at b
 .split at b
  .simp at b
  .obtain⟨b,-⟩:=List.mem_filter.1 b
   obtain⟨a,c,rfl⟩:=a0j.1 b;have:=PX (gT l (a:Int));have:=a0t.1 c;exact⟨by simp only;omega,by simp only;omega,by simp only;omega,by simp only;omega⟩
def Rk (l:List cU):fM (dV (cQ l).1):=Nj fun x a=>by
 have:=FP l x a;exact⟨⟨by omega,by omega⟩,⟨by omega,by omega⟩⟩
def cD.put {w:World} {b off:Nat} {zs:List Int} (h:cD w b off zs) {j:Nat} (c:j<zs.length) (z:Int):cD (w.setCell ⟨b,off+j,none⟩ (.int .i64 z)) b off (zs.set j z):=by
 intro i a;rw[a1d]at a;have k:=h i a;by_cases e:i=j
 .subst e
  rw[World.cell?_setCell_same _ _ _ k,a0c,a3j a];rfl
 .rw[World.cell?_setCell_other _ _ _ _ (by intro e2;injection e2;omega),k,a0c,a0c,a3a (fun e2=>e e2.symm)]
def gK:List Int->List cU->Option (List Int)
 |cN,[]=>some cN
 |cN,x::m=>if gD (cN.getD x.a.toNat 0) x.n then gK (cN.set x.a.toNat (cN.getD x.a.toNat 0+x.n)) m else none
def CZ:∀(m:List cU) (cN next:List Int),gK cN m=some next->next.length=cN.length
 |[],cN,next,h=>by simp[gK]at h;rw[h]
 |x::m,cN,next,h=>by
  simp only[gK]at h;split at h
  .have:=CZ m _ _ h
   simpa using this
  .cases h
def Ld:∀(m:List cU) (cN:List Int) (x:cU),gK cN (m++[x])=(gK cN m).bind fun next=>if gD (next.getD x.a.toNat 0) x.n then some (next.set x.a.toNat (next.getD x.a.toNat 0+x.n))else none
 |[],cN,x=>by simp[gK]
 |y::m,cN,x=>by
  simp only[a2a,gK];split
  .exact Ld m _ x
  .rfl
def A5 (cN:List Int) (l:List cU):Int:=if(cQ l).2≠0\/(0<(cQ l).1.length/\pA (cQ l).1=false)then 10 else match gK cN (cQ l).1 with|some _=>0|none=>2
def ML (cN:List Int) (l:List cU):List Int:=(gK cN (cQ l).1).getD cN
def gZ.amu {w:World} {base n:Nat} {e:TypeId} {v:Value} {zs:List Int} (h:gZ w base e 1 v n zs) (r:0<n) :
  ∃g cap,v=.slice (some ⟨g,0,none⟩) n cap/\base<=g/\g<w.heap.size/\n<=cap/\cap<=maxLen/\cD w g 0 zs/\∀i,w.frozen? ⟨g,i,none⟩=false:=by
 have p:=h.len;obtain⟨q,l⟩:=id h;rcases l with⟨rfl,a⟩|⟨b,cap,m,rfl,k,f,a,j,hs,o⟩
 .omega
 .refine⟨b,cap,rfl,k,(a2p.1 f).1,a,j,?_,fun i=>World.ownsRow.frozenAt h i⟩
  intro i d;have c:=World.ownsRow.cellAt (w:=w) (base:=base) (e:=e) (size:=1) (g:=b) (n:=n) (cap:=cap) (xs:=ints zs) h i (by omega);rw[a02,c,wP,a0f d,a0c,a0f d];rfl
def nE (cN:List Int) (l:List cU):List Int×Int:=if A5 cN l=0 then(ML cN l,0)else(cN,A5 cN l)
def aez (cN:List Int) (l:List cU):(ML cN l).length=cN.length:=by
 unfold ML;cases h:gK cN (cQ l).1 with
 |none=>rfl
 |some next=>exact CZ _ _ _ h
def aey (cN:List Int) (l:List cU):(nE cN l).1.length=cN.length:=by
 unfold nE;split
 .exact aez cN l
 .rfl
abbrev gY (f:Int):Prop:=0<=f/\f<=20
def CN (l:List cU):gY (cQ l).2/\((cQ l).2≠0->(cQ l).1=[]):=by
 unfold cQ;split
 .exact⟨⟨by simp,by simp⟩,fun _=>rfl⟩
 .split
  .exact⟨⟨by simp,by simp⟩,fun _=>rfl⟩
  .exact⟨⟨by simp,by simp⟩,fun h=>absurd rfl h⟩
def O4 (l:List cU):(cQ l).1.length<=17:=by
 unfold cQ;split
 .simp
 .split
  .simp
  .exact a1k (a4d _ _) (by simp)
end
section
open Mc
variable {A:Nat->Prop}
def uX {vs:Array Value} {x:AV} (h:vs.size=[x].length):vs=#[vs.getD 0 Go.undef]:=by
 have h:vs.size=1:=h;apply Array.ext
 .simp[h]
 .intro i a b
  have:i=0:=by omega
  subst this;simp[a]
def SM {vs:Array Value} {x y:AV} (h:vs.size=[x,y].length):vs=#[vs.getD 0 Go.undef,vs.getD 1 Go.undef]:=by
 have h:vs.size=2:=h;apply Array.ext
 .simp[h]
 .intro i b a
  rcases(by omega:i=0\/i=1)with rfl|rfl<;>simp[h]
def mK {w:World} {x y:AV} {v u:Value} (h:@eC dY dZ A w x v) (g:@eC dY dZ A w y u):@eC dY dZ A w (.bE [x,y]) (.tuple #[v,u]):=by
 refine @eC.bE dY dZ A w [x,y] #[v,u] rfl ?_;intro i z a;match i,a with
 |0,a=>cases a;exact h
 |1,a=>cases a;exact g
def qD {w:World} {v:Int}:@eC dY dZ A w (.i v) (.int .i64 v):=@eC.c dY dZ A w _
def ajF {w:World} (x:bP):@eC dY dZ A w x.av x.val:=by
 unfold bP.av bP.val;refine @eC.agg dY dZ A w _ _ rfl ?_ ?_
 .intro i y a
  match i,a with
  |0,a=>cases a;rfl
  |1,a=>cases a;rfl
  |2,a=>cases a;rfl
 .intro i y a
  match i,a with
  |0,a=>cases a;exact qD
  |1,a=>cases a;exact qD
  |2,a=>cases a;exact qD
def aiE (x:bP):Cl x.av:=.agg _ (yD _)
def RQ {w:World} {l:List bP} {v:Value} (h:@eC dY dZ A w (.lit 3 (aM l)) v) (c:fM (flat l)):∃a cap,v=.slice a l.length cap/\Row w 3 a l.length cap (flat l):=by
 rw[ahK]at h;obtain⟨a,cap,rfl,R⟩:=CE h (by rw[ah2];exact c) (by intro r b;obtain⟨x,-,rfl⟩:=a0j.1 b;rfl);rw[ah2,a0w]at R;exact⟨a,cap,by rw[a0w],R⟩
def RP {w:World} {l:List cU} {v:Value} (h:@eC dY dZ A w (.lit 2 (bU l)) v) (c:fM (dV l)):∃a cap,v=.slice a l.length cap/\Row w 2 a l.length cap (dV l):=by
 rw[TY]at h;obtain⟨a,cap,rfl,R⟩:=CE h (by rw[R6];exact c) (by intro r b;obtain⟨x,-,rfl⟩:=a0j.1 b;rfl);rw[R6,a0w]at R;exact⟨a,cap,by rw[a0w],R⟩
def M6 {w w':World} {l:List cU} {a:Option Addr} {cap:Nat} (i:∀b,A b->b<w.heap.size) (d:l.length<=cap) (f:cap<=maxLen) (h:l.length=0\/∃b off,a=some ⟨b,off,none⟩/\w.heap.size<=b/\b<w'.heap.size/\cD w' b off (dV l)) :
  @eC dY dZ A w' (.lit 2 (bU l)) (.slice a l.length cap):=by
 rw[TY];have c:(l.map cU.r).length=l.length:=by simp
 rw[<-c]at d |-;refine CH (by intro r e;obtain⟨x,-,rfl⟩:=a0j.1 e;rfl) d f ?_;rw[c,R6];exact h.imp id fun⟨b,off,m,n,k,j⟩=>⟨b,off,m,fun g=>by have:=i b g;omega,k,j⟩
def LK {w:World} {l:List Int} {v:Value} (h:@eC dY dZ A w (.lit 1 (aA l)) v) (c:fM l):∃a cap,v=.slice a l.length cap/\Row w 1 a l.length cap l:=by
 rw[M8]at h;obtain⟨a,cap,rfl,R⟩:=CE h (by rw[LN];exact c) (by intro r b;obtain⟨x,-,rfl⟩:=a0j.1 b;rfl);rw[LN,a0w]at R;exact⟨a,cap,by rw[a0w],R⟩
def T7 {w w':World} {l:List Int} {a:Option Addr} {cap:Nat} (i:∀b,A b->b<w.heap.size) (d:l.length<=cap) (f:cap<=maxLen) (h:l.length=0\/∃b off,a=some ⟨b,off,none⟩/\w.heap.size<=b/\b<w'.heap.size/\cD w' b off l) :
  @eC dY dZ A w' (.lit 1 (aA l)) (.slice a l.length cap):=by
 rw[M8];have c:(l.map fun v=>[v]).length=l.length:=by simp
 rw[<-c]at d |-;refine CH (by intro r e;obtain⟨x,-,rfl⟩:=a0j.1 e;rfl) d f ?_;rw[c,LN];exact h.imp id fun⟨b,off,m,n,k,j⟩=>⟨b,off,m,fun g=>by have:=i b g;omega,k,j⟩
def aiK (l:List cU) (o:fM (dV l)) (f:l.length<=20):CK Tryz.prog 77 [.lit 2 (bU l)] (.bE [.lit 2 (bU (cQ l).1),.i (cQ l).2]):=by
 refine⟨bL (AG _).lit fW,.bE _ (bL (AG _).lit (bL (.c _) fW)),?_⟩;intro A w vs p x m k;have d:=uX m;generalize vs.getD 0 Go.undef=u at d;subst d;obtain⟨a,cap,rfl,R⟩:=RP (k 0 _ rfl) o;refine(ad7 a cap l w R f).mono ?_;rintro e w' ⟨v,rfl,⟨y,mX,rfl,j,h,g⟩,n⟩;refine⟨_,rfl,mK (M6 p j h ?_) qD,n⟩;exact g.imp id fun⟨b,off,t,s,r,q,_⟩=>⟨b,off,t,s,r,q⟩
def bF.aZ (s:bF) (e:Int) (x:dE):bF:={ s with aH:=s.aH.set e.toNat x }
def dE.sW (x:dE) (b:List Int):dE:={ x with cN:=b }
end
section
def zS (l:List bP) (x:bP):List bP×Int:=if(CT l x).2=0 then([uL (CT l x).1],0)else(l,(CT l x).2)
def ahR {l:List bP} {x:bP} (h:(CT l x).2≠0):(CT l x).1=l:=by
 unfold CT at h |-;split
 .rfl
 .split
  .rfl
  .split
   .rename_i c b a;rw[if_neg c,if_neg b,if_pos a]at h;exact absurd rfl h
   .rfl
def akk {l:List bP} {x:bP} (h:(CT l x).2=0):(CT l x).1=l++[x]/\LR (l++[x]):=by
 unfold CT at h |-;split
 .rename_i a;rw[if_pos a]at h;cases h
 .split
  .rename_i a b;rw[if_neg a,if_pos b]at h;cases h
  .split
   .rename_i a b c;exact⟨rfl,LR.of c⟩
   .rename_i a b c;rw[if_neg a,if_neg b,if_neg c]at h;cases h
def amJ {l:List bP} (h:LR l) (c:l≠[]):LR [uL l]:=by
 rw[h.uL.1];have a:=fQ h.ok;have b:=Ew l;have:=h.q;have:=h.v;have:=h.p;have:1<=l.length:=a3d.2 c;exact LR.one (eE.2 ⟨by simp only;omega,by simp only;omega,by simp only;omega,by simp only;omega,by simp only;omega,by simp only;omega⟩)
def RW {l:List bP} {x:bP} (h:LR l):LR (zS l x).1:=by
 unfold zS;split
 .rename_i b
  obtain⟨e,a⟩:=akk b;rw[e];exact amJ a (by simp)
 .exact h
def EC {l:List bP} {q:Int}:(fN l q).1.length<=l.length:=by
 have k:∀(l:List bP) (a:bP) (q:Int),(jL l a q).1.length<=l.length:=by
  intro l;induction l with
  |nil=>intro a q;simp[jL]
  |cons x r b =>
   intro a q;simp only[jL];split
   .exact a0g _
   .split
    .simp
    .have:=b (lD a x) (q-x.q);simp only[a0v];omega
 unfold fN;split
 .exact a0g _
 .split
  .exact a0g _
  .exact k _ _ _
end
section
open Mc
variable {S:bF} {k:Nat}
def qT (zs:List Int) (g:fM zs):CK Tryz.prog 72 [.lit 1 (aA zs)] (.bE [.i (dP zs),.i (eB zs)]):=by
 refine⟨bL (kV _).lit fW,.bE _ (bL (.c _) (bL (.c _) fW)),?_⟩;intro A w vs k j f d;have b:=uX f;generalize vs.getD 0 Go.undef=h at b;subst b;obtain⟨a,cap,rfl,R⟩:=LK (d 0 _ rfl) g;refine(aeF a _ cap zs w R).mono ?_;rintro e w' ⟨rfl,rfl⟩;exact⟨_,rfl,mK qD qD,Below.refl _ _⟩
def agl (rc:List vE) (x:vE):fU rc++[jH x.r]=fU (rc++[x]):=by simp[fU]
def af2 (a:List kJ) (x:kJ):dN a++[x.row]=dN (a++[x]):=by simp[dN]
def ajG (rc:List vE) (k:Nat) (x:vE):(fU rc).set k (jH x.r)=fU (rc.set k x):=by simp[fU,a09]
def ajA (a:List kJ) (k:Nat) (x:kJ):(dN a).set k x.row=dN (a.set k x):=by simp[dN,a09]
def bF.bM (S:bF) (E:List dE):bF:={ S with aH:=E }
def bF.avE (S:bF) (R:List (List AV)):AV:=.agg [.i S.bJ,.i S.bH,.lit 1 (aA S.weights),.lit 1 (aW S.methods),.lit 1 (aW S.bT),.lit 8 R,.lit 8 (fU S.aO),.lit 9 (dN S.aF),.lit 6 (eO S.aG),.i S.done]
def bF.anL (S:bF):S.av=S.avE (aX S.aH):=rfl
def anC {R:List (List AV)} (h:qO R):Cl (S.avE R) :=
 .agg _ (bL (.c _) (bL (.c _) (bL (kV _).lit (bL (oY _).lit (bL (oY _).lit (bL h.lit (bL (abX _).lit (bL (abW _).lit (bL (abV _).lit (bL (.c _) fW))))))))))
def zW (now:Int) (closed:Bool) (P B R a D A:List (List AV)):List AV:=[.i now,.c (.bool closed),.lit 4 P,.lit 1 B,.lit 11 R,.lit 1 a,.lit 1 D,.lit 8 A]
def aiF {now:Int} {closed:Bool} {P B R a D A:List (List AV)} (h1:qO P) (g:qO B) (f:qO R) (e:qO a) (d:qO D) (b:qO A):∀x∈zW now closed P B R a D A,Cl x :=
 bL (.c _) (bL (.c _) (bL h1.lit (bL g.lit (bL f.lit (bL e.lit (bL d.lit (bL b.lit fW)))))))
structure Wx (S:bF) (e item now:Int) (closed:Bool) (bK:List cY) (cN:List Int) (aJ:List (List Int)) (bD down:List Int) (ahead:List EntC) (ms cs:List Int) (m c:Int):Prop where
 hn:S.aH.length<=4
 e0:0<=e
 e1:e<S.aH.length
 hx:S.aH[e.toNat]?=some ⟨⟨now,closed,bK,cN,aJ,bD,down⟩,ahead⟩
 hw:S.weights.length<=5
 i0:0<=item
 i1:item<S.weights.length
 Nd:S.methods.length=S.aH.length
 ET:S.bT.length=S.aH.length
 qN:S.methods[e.toNat]?=some ms
 CU:S.bT[e.toNat]?=some cs
 AP:ms.length=S.weights.length
 lS:cs.length=S.weights.length
 Xc:bK.length=2*S.weights.length
 Xb:aJ.length=S.weights.length
 hm:ms[item.toNat]?=some m
 hc:cs[item.toNat]?=some c
 mb:kS m
 cb:kS c
def aia {l:List dE} {now:Int} {closed:Bool} {bK:List cY} {cN:List Int} {aJ:List (List Int)} {bD down:List Int} {ahead:List EntC} (h:l[k]?=some ⟨⟨now,closed,bK,cN,aJ,bD,down⟩,ahead⟩):(aX l)[k]?=some (zW now closed (bS bK) (aA cN) (bN aJ) (aA bD) (aA down) (bX ahead)):=by
 rw[aX,a0l,h];rfl
def RY {z:List Int} {v:Int} (h:z[k]?=some v):(aA z)[k]?=some [.i v]:=by
 rw[aA,a0l,h];rfl
def ah0 {z:List (List Int)} {v:List Int} (h:z[k]?=some v):(aW z)[k]?=some [.lit 1 (aA v)]:=by
 rw[aW,a0l,h];rfl
def acX {z:List cY} {p:cY} (h:z[k]?=some p):(bS z)[k]?=some [.lit 3 (aM p.aN),.i p.p0,.i p.p1,.i p.p2]:=by
 rw[bS,a0l,h];rfl
def ajC {z:List (List Int)} {v:List Int} (h:z[k]?=some v):(bN z)[k]?=some (jH v):=by
 rw[bN,a0l,h];rfl
def aos {z:List vE} {x:vE} (h:z[k]?=some x):(fU z)[k]?=some [.i x.aD,.i x.item,.i x.loc,.i x.eX,.i x.value,.i x.vY,.i x.dL,.i x.back]:=by
 rw[fU,a0l,h];rfl
def aoq {z:List kJ} {x:kJ} (h:z[k]?=some x):(dN z)[k]?=some [.i x.aD,.i x.item,.i x.loc,.i x.eX,.i x.back,.i x.cost,.i x.bW,.i x.period,.c (.bool x.waits)]:=by
 rw[dN,a0l,h];rfl
def anY {z:List yX} {x:yX} (h:z[k]?=some x):(eO z)[k]?=some [.i x.src,.i x.dst,.i x.item,.i x.eX,.i x.value,.i x.bW]:=by
 rw[eO,a0l,h];rfl
def MM (l:List cY) (k:Nat) (p:cY):bS (l.set k p)=(bS l).set k p.row:=by simp[bS,a09]
def aaM (l:List (List Int)) (k:Nat) (p:List Int):bN (l.set k p)=(bN l).set k (jH p):=by simp[bN,a09]
def aeS (l:List dE) (k:Nat) (x:dE):aX (l.set k x)=(aX l).set k x.row:=by simp[aX,a09]
def bF.setRow (S:bF) (e:Int) (r:List AV):AV:=S.avE ((aX S.aH).set e.toNat r)
def bF.nV (S:bF) (e:Int) (x:dE):(S.aZ e x).av=S.setRow e x.row:=by
 rw[bF.anL,bF.aZ,bF.setRow];show bF.avE S (aX (S.aH.set e.toNat x))=_;rw[aeS]
def ae0 {e:Int} {r:List AV} (h:∀x∈r,Cl x):Cl (S.setRow e r):=anC (adK (Sd _) h)
def bF.avX (S:bF) (R c b a:List (List AV)) (d:Int):AV:=.agg [.i S.bJ,.i S.bH,.lit 1 (aA S.weights),.lit 1 (aW S.methods),.lit 1 (aW S.bT),.lit 8 R,.lit 8 c,.lit 9 b,.lit 6 a,.i d]
def anB {R e b a:List (List AV)} {d:Int} (h:qO R) (i:qO e) (g:qO b) (f:qO a):Cl (S.avX R e b a d) :=
 .agg _ (bL (.c _) (bL (.c _) (bL (kV _).lit (bL (oY _).lit (bL (oY _).lit (bL h.lit (bL i.lit (bL g.lit (bL f.lit (bL (.c _) fW))))))))))
def aiB (x:kJ):∀y∈x.row,Cl y:=fun y a=>by simp only[kJ.row,a0d,a0b,or_false]at a;rcases a with rfl|rfl|rfl|rfl|rfl|rfl|rfl|rfl|rfl<;>exact .c _
def getD_some {α:Type} {l:List α} {d:α} (h:k<l.length):l[k]?=some (l.getD k d):=by
 rw[List.getD,a0f h];rfl
def dA {α:Type} {l:List α} {d:α} (h:k<l.length):l.getD k d∈l:=a0a (getD_some (d:=d) h)
def acw [Bk] [Ev] {A:Nat->Prop} {w:World} {us:Array Value} {vs:List Value} (b:us.size=(vs.map AV.c).length) (f:∀(i:Nat) (x:AV),(vs.map AV.c)[i]?=some x->eC A w x (us.getD i Go.undef)):us=vs.toArray:=by
 apply Array.ext';apply a3h;intro i;by_cases d:i<vs.length
 .have e:=f i (.c vs[i]) (by simp[d])
  cases a:us.toList[i]? with
  |none=>simp at a b;omega
  |some u =>
   have:us.getD i Go.undef=u:=by
    rw[Array.getElem?_toList]at a;rw[a5e,a];rfl
   rw[this]at e;cases e;simp[d]
 .have g:us.toList[i]?=none:=by simp at b |-;omega
  rw[g];simp;omega
def anf [Bk] [Ev] {k:FuncId} {vs:List Value} {r:Value} (d:∀w,Calls Tryz.prog k vs.toArray w fun e w'=>e=.returned r/\Below w.heap.size w w'):NV Tryz.prog k (vs.map .c) (.c r):=by
 intro A w g i h b a;have e:=acw b a;subst e;refine(d w).mono ?_;rintro e w' ⟨rfl,f⟩;exact⟨_,rfl,.c _,f⟩
def amq [Bk] [Ev] {k:FuncId} {vs rs:List Value} (g:∀w,Calls Tryz.prog k vs.toArray w fun e w'=>e=.returned (.tuple rs.toArray)/\Below w.heap.size w w') (_:rs.length≠1):NV Tryz.prog k (vs.map .c) (.bE (rs.map .c)):=by
 intro A w j m l f d;have e:=acw f d;subst e;refine(g w).mono ?_;rintro e w' ⟨rfl,h⟩;refine⟨_,rfl,.bE _ _ (by simp) fun i y a=>?_,h⟩;rw[a0l]at a;cases b:rs[i]? with
 |none=>rw[b]at a;cases a
 |some u =>
  rw[b]at a;cases a;have:rs.toArray.getD i Go.undef=u:=by simp[a5e,b]
  rw[this];exact .c _
structure OpD where
 (kind e item loc dst eX acm ref:Int)
def OpD.av (o:OpD):AV:=.agg [.i o.kind,.i o.e,.i o.item,.i o.loc,.i o.dst,.i o.eX,.i o.acm,.i o.ref,.emp]
def eM (k e item loc dst b a ref:Int):AV:=(OpD.mk k e item loc dst b a ref).av
def amz (o:OpD):Cl o.av:=.agg _ (bL (.c _) (bL (.c _) (bL (.c _) (bL (.c _) (bL (.c _) (bL (.c _) (bL (.c _) (bL (.c _) (bL .emp fW)))))))))
def ajO (v m:Int) (w:World) (h1:0<m) (a:m<=1099511627776):Calls Tryz.prog 14 #[.int .i64 v,.int .i64 m] w fun e w'=>e=.returned (.int .i64 (v%m))/\Below w.heap.size w w':=by
 refine(aam v m w h1 (by omega)).mono ?_;rintro e w' ⟨rfl,rfl⟩;exact⟨rfl,Below.refl _ _⟩
end
end Go.Proofs.YtnepgggkgnckcaaGreat
namespace Go.Value
abbrev I (x:Int):Go.Value:=.int .i64 x
end Go.Value
namespace Go.Proofs.YtnepgggkgnckcaaGreat
open Go.RowKit
section
open Mc
variable {ρ:Nat->Int} {P:Program} {xa':List AV} {r':AV}
abbrev Ck (k:FuncId) (a:List AV) (r:AV):Prop:=CK Tryz.prog k a r
abbrev Mc.AV.v (k:Nat):AV:=.e [([k],1)]
abbrev Mc.AV.q (sz k:Nat):AV:=.seq sz k [] []
abbrev sN (E d:AV):AV:=.agg [.o 0,.o 1,.q 1 1,.q 1 2,.q 1 3,E,.q 8 4,.q 9 5,.q 6 6,d]
class lW (l:List (List AV)):Prop where out:qO l
class ClS (ss:List (List (List AV))):Prop where out:∀l∈ss,∀r∈l,∀x∈r,Cl x
class Cw (l:List AV):Prop where out:∀x∈l,Cl x
class yY (x:AV):Prop where out:Cl x
instance:ClS []:=⟨ajs⟩
instance {l:List (List AV)} {ss:List (List (List AV))} [h:lW l] [g:ClS ss]:ClS (l::ss):=⟨afR h.out g.out⟩
instance:Cw []:=⟨fW⟩
instance {x:AV} {l:List AV} [h:yY x] [g:Cw l]:Cw (x::l):=⟨bL h.out g.out⟩
instance (v:Value):yY (.c v):=⟨.c v⟩
instance:yY .emp:=⟨.emp⟩
instance (l:List AV) [h:Cw l]:yY (.agg l):=⟨.agg _ h.out⟩
instance (l:List AV) [h:Cw l]:yY (.bE l):=⟨.bE _ h.out⟩
instance (k:Nat) (l:List (List AV)) [h:lW l]:yY (.lit k l):=⟨h.out.lit⟩
instance:lW []:=⟨qO.nil⟩
instance {r:List AV} {l:List (List AV)} [h:Cw r] [g:lW l]:lW (r::l):=⟨aiG h.out g.out⟩
instance {a b:List (List AV)} [h:lW a] [g:lW b]:lW (a++b):=⟨abY h.out g.out⟩
instance {a:List (List AV)} {k:Nat} {r:List AV} [h:lW a] [g:Cw r]:lW (a.set k r):=⟨adK h.out g.out⟩
instance (l:List Int):lW (aA l):=⟨kV l⟩
instance (l:List bP):lW (aM l):=⟨Fa l⟩
instance (l:List cU):lW (bU l):=⟨AG l⟩
instance (l:List vE):lW (fU l):=⟨abX l⟩
instance (l:List kJ):lW (dN l):=⟨abW l⟩
instance (l:List yX):lW (eO l):=⟨abV l⟩
instance (l:List (List Int)):lW (bN l):=⟨XA l⟩
instance (l:List (List Int)):lW (aW l):=⟨oY l⟩
instance (l:List cY):lW (bS l):=⟨XB l⟩
instance (l:List EntC):lW (bX l):=⟨XC l⟩
instance (l:List dE):lW (aX l):=⟨Sd l⟩
instance (l:List Int):Cw (jH l):=⟨yD l⟩
instance (p:cY):Cw p.row:=⟨CX p⟩
instance (p:kJ):Cw p.row:=⟨aiB p⟩
instance (p:cY):yY p.av:=⟨.agg _ (CX p)⟩
instance (x:bP):yY x.av:=⟨aiE x⟩
instance (S:bF):yY S.av:=⟨aoG S⟩
instance (a b c d e f g h:Int):yY (eM a b c d e f g h):=⟨amz _⟩
instance {now:Int} {closed:Bool} {P B R a D A:List (List AV)} [g:lW P] [f:lW B] [e:lW R] [d:lW a] [c:lW D] [b:lW A]:Cw (zW now closed P B R a D A):=⟨aiF g.out f.out e.out d.out c.out b.out⟩
instance {S:bF} {e:Int} {r:List AV} [h:Cw r]:yY (S.setRow e r):=⟨ae0 h.out⟩
instance {S:bF} {R c b a:List (List AV)} {d:Int} [h:lW R] [g:lW c] [f:lW b] [e:lW a]:yY (S.avX R c b a d):=⟨anB h.out g.out f.out e.out⟩
abbrev gV:List (Int×Int):=[(0,3),(1,4),(0,4),(1,5),(-9223372036854775808,9223372036854775807),(-9223372036854775808,9223372036854775807)]
abbrev gF:List (Poly×Int×Int):=[([([0],-1),([1],1)],1,4),([([2],-1),([3],1)],1,5)]
abbrev gL:List (Nat×Poly):=[(0,[([1],1)]),(1,[([3],1)]),(2,[([1],1)]),(3,[([1],1)]),(13,[([3],1)]),(14,[([3],1)]),(9,[([3],1)]),(7,[([3],2)])]
abbrev gAw (c:AV):List (Nat×Poly×List AV):=[(0,[([0],1)],[.o 3,c,.q 4 7,.q 1 8,.q 11 9,.q 1 10,.q 1 11,.q 8 12]),(2,[([0],1)],[.q 1 13]),(3,[([0],1)],[.q 1 14]),(13,[([2],1)],[.v 4]),(14,[([2],1)],[.v 5])]
abbrev gA:List (Nat×Poly×List AV):=gAw (.o 4)
abbrev gS (S:bF) (bK:List cY) (cN:List Int) (aJ:List (List Int)) (bD down:List Int) (ahead:List EntC) (ms cs:List Int) (l:List (List (List AV))):List (List (List AV)):=aX S.aH::aA S.weights::aW S.methods::aW S.bT::fU S.aO::dN S.aF::eO S.aG::bS bK::aA cN::bN aJ::aA bD::aA down::bX ahead::aA ms::aA cs::l
abbrev yU:Int×Int:=(-9223372036854775808,9223372036854775807)
abbrev N4:Int×Int:=(-1152921504606846976,1152921504606846976)
abbrev jB:Int×Int:=(-288230376151711744,288230376151711744)
abbrev Od (S:bF):Prop:=(0<=S.done/\S.done<=1000000)/\S.aO.length<=40/\S.aF.length<=40/\S.aG.length<=40
abbrev oS (S:bF) (l:List (List (List AV))):List (List (List AV)):=aX S.aH::aA S.weights::aW S.methods::aW S.bT::fU S.aO::dN S.aF::eO S.aG::l
def Wx.bd {S:bF} {e item now:Int} {closed:Bool} {bK:List cY} {cN:List Int} {aJ:List (List Int)} {bD down:List Int} {ahead:List EntC} {ms cs:List Int} {m c:Int} (H:Wx S e item now closed bK cN aJ bD down ahead ms cs m c) :
  S.aH.length<=4/\0<=e/\e<S.aH.length/\S.weights.length<=5/\0<=item/\item<S.weights.length/\S.methods.length=S.aH.length/\S.bT.length=S.aH.length/\ms.length=S.weights.length/\cs.length=S.weights.length/\bK.length=2*S.weights.length/\aJ.length=S.weights.length/\(-9223372036854775808<=m/\m<=9223372036854775807)/\(-9223372036854775808<=c/\c<=9223372036854775807) :=
 ⟨H.hn,H.e0,H.e1,H.hw,H.i0,H.i1,H.Nd,H.ET,H.AP,H.lS,H.Xc,H.Xb,⟨H.mb.lo,H.mb.hi⟩,⟨H.cb.lo,H.cb.hi⟩⟩
namespace Mc
def jI.c {a b x:Int} {l:List (Int×Int)} {xs:List Int} (h:jI l xs) (h1:a<=x:=by omega) (d:x<=b:=by omega):jI ((a,b)::l) (x::xs):=.cons h1 d h
def jT.c {ρ:Nat->Int} {p:Poly} {a b:Int} {l:List (Poly×Int×Int)} (h:jT ρ l) (h1:a<=cI ρ p:=by simp[cI,uJ];omega) (d:cI ρ p<=b:=by simp[cI,uJ];omega):jT ρ ((p,a,b)::l):=.cons h1 d h
def kM.c {ρ:Nat->Int} {ss:List (List (List AV))} {k:Nat} {p:Poly} {l:List (Nat×Poly)} (h:kM ρ ss l) (h1:((ss.getD k []).length:Int)=cI ρ p:=by simp[cI,uJ,aX,aA,bS,fU,dN,eO,bU,aM,bN,bX,aW];try omega):kM ρ ss ((k,p)::l):=.cons h1 h
def Af.d {a:Nat->Value} {ss:List (List (List AV))} {k:Nat} {p:Poly} {r r0:List AV} {l:List (Nat×Poly×List AV)} (h1:(ss.getD k [])[(cI ρ p).toNat]?=some r0) (h:Af ρ a ss l) (e:0<=cI ρ p:=by simp[cI,uJ];try omega) (c:r.map (AU ρ a (fun i=>ss.getD i []) 12)=r0:=by rfl) (b:r.all (mU 12)=true:=by rfl):Af ρ a ss ((k,p,r)::l):=.cons e h1 c b h
def eqv {a:Nat->Int} {c x:Int} (b:ρ=a) (h:c=x) (p:Poly) (d:x=cI a p:=by simp[cI,uJ]<;>omega):c=evP ρ p:=by rw[vQ,h,d,b]
def rh (l:List Int):∃ρ:Nat->Int,ρ=fun i=>l.getD i 0:=⟨_,rfl⟩
def jT.e {p:Poly} {a b:Int} {l:List (Poly×Int×Int)} (h:jT ρ l) (h1:a<=cI ρ p:=by first|(simp[cI,uJ]<;>omega)|omega) (c:cI ρ p<=b:=by first|(simp[cI,uJ]<;>omega)|omega):jT ρ ((p,a,b)::l):=.cons h1 c h
abbrev Ot (b:Bk) (xs:List Int) (vs:List Value) (ss:List (List (List AV))) [g:ClS ss] (l:jI b.vars xs) (f:jT (fun i=>xs.getD i 0) b.facts) (d:kM (fun i=>xs.getD i 0) ss b.lens) (m:Af (fun i=>xs.getD i 0) (fun i=>vs.getD i (.bool false)) ss b.iG) (j:xB (fun i=>xs.getD i 0) b.defs:=by exact .nil) (c:(vs.all Value.oneCell')=true:=by rfl) (e:b.kinds=[]:=by rfl) (k:∀t∈b.ae5,ss.getD t.2.2 []=ss.getD t.1 []++ss.getD t.2.1 []:=by exact fun t h=>nomatch h):@Ev b :=
 aoC b xs vs ss j l f (fun v a=>a0k.1 c v a) d m g.out e k
abbrev ev1 (b:Bk) (xs:List Int) (vs:List Value) (ss:List (List (List AV))) [g:ClS ss] (n:Af (fun i=>xs.getD i 0) (fun i=>vs.getD i (.bool false)) ss b.iG) (k:xB (fun i=>xs.getD i 0) b.defs:=by exact .nil) (a:(vs.all Value.oneCell')=true:=by rfl) (f:b.kinds=[]:=by rfl) (l:∀t∈b.ae5,ss.getD t.2.2 []=ss.getD t.1 []++ss.getD t.2.1 []:=by exact fun t h=>nomatch h) (m:jI b.vars xs:=by repeat (first|exact jI.nil|refine jI.c ?_ (by omega) (by omega))) (j:jT (fun i=>xs.getD i 0) b.facts:=by repeat (first|exact jT.nil|refine jT.e ?_)) (d:kM (fun i=>xs.getD i 0) ss b.lens:=by repeat (first|exact kM.nil|refine kM.c ?_)):@Ev b :=Ot b xs vs ss m j d n k a f l
def kc {b:Bk} {ev:@Ev b} {k:Nat} {a:List AV} {r:AV} {l:List (Nat×List AV×AV)} (h:CK P k xa' r') (d:@Sx b ev P l) (e:a.map (@den b ev 12)=xa':=by rfl) (er:@den b ev 12 r=r':=by rfl) (c:mU 12 r=true:=by rfl):@Sx b ev P ((k,a,r)::l):=anh b ev (CK.named b ev h e er c) d
def kn {b:Bk} {ev:@Ev b}:@Sx b ev P []:=aox b ev
def CK.sD (b:Bk) (ev:@Ev b) {k:FuncId} (a:List AV) (r:AV) [j:Cw xa'] [i:yY r'] (h:@Mw b P 100000 60 k a r=true) (f:@Sx b ev P b.bQ) (d:@aan b ev P b.ext:=by exact ah5 _ _) (c:@aak b ev P b.yes:=by exact afx _ _) (l:a.map (@den b ev 12)=xa':=by rfl) (er:@den b ev 12 r=r':=by rfl) (e:a.all (mU 12)=true:=by rfl) (g:b.mT=[]:=by rfl):CK P k xa' r' :=
 CK.ahk b ev h d c f l er j.out i.out e g
def fmo {P:Prop} (h:P:=by simp only[a1y,a0b,false_imp_iff,implies_true,and_true];omega):P:=h
def jI.b {a b x:Int} {l:List (Int×Int)} {xs:List Int} (h:jI l xs) (c:a<=x/\x<=b):jI ((a,b)::l) (x::xs):=.cons c.1 c.2 h
def xB.Q {r p q:Poly} {x n:Int} {l:List (Nat×Poly×Poly×Poly)} (y:Int) (h:x=y/n) (k:xB ρ l) (a:cI ρ r=x:=by first|exact lZ _ _|simp[cI,uJ,a27]) (c:cI ρ p=y:=by first|exact lZ _ _|simp[cI,uJ,a27]) (b:cI ρ q=n:=by first|exact agm _ _|exact lZ _ _|simp[cI,uJ,a27]) (d:0<=y:=by omega):xB ρ ((0,p,q,r)::l):=.quo (ajI a c b d h) k
def xB.R {r p q:Poly} {x n:Int} {l:List (Nat×Poly×Poly×Poly)} (y:Int) (h:x=y%n) (k:xB ρ l) (a:cI ρ r=x:=by first|exact lZ _ _|simp[cI,uJ,a27]) (c:cI ρ p=y:=by first|exact lZ _ _|simp[cI,uJ,a27]) (b:cI ρ q=n:=by first|exact agm _ _|exact lZ _ _|simp[cI,uJ,a27]) (d:0<=y:=by omega):xB ρ ((1,p,q,r)::l):=.rem (ajE a c b d h) k
def cw (b:Bk) (ev:@Ev b) {k:FuncId} (a:List AV) (r:AV) [j:Cw xa'] [i:yY r'] (f:@Sx b ev P b.bQ) (h:@Mw b P 100000 60 k a r=true:=by decide +kernel) (d:@aan b ev P b.ext:=by exact ah5 _ _) (c:@aak b ev P b.yes:=by exact afx _ _) (l:a.map (@den b ev 12)=xa':=by rfl) (er:@den b ev 12 r=r':=by rfl) (e:a.all (mU 12)=true:=by rfl) (g:b.mT=[]:=by rfl):CK P k xa' r':=CK.ahk b ev h d c f l er j.out i.out e g
abbrev sT (S:bF) (l:List (List (List AV))):List (List (List AV)):=aX S.aH::aA S.weights::aW S.methods::aW S.bT::fU S.aO::dN S.aF::eO S.aG::l
abbrev vT (S:bF) (l:List Value):List Value:=.int .i64 S.bJ::.int .i64 S.bH::.int .i64 S.done::l
end Mc
noncomputable abbrev yZ (b:Bk) (c:Code) (N:Nat) (f:List AV) (t:List Mc.dI) (n:Nat):Option (RT Out):=@oC b Tryz.prog (@lG b Tryz.prog 100000 60) 100000 100 c (Ft.of N f) (L8 t) n
noncomputable abbrev Oa (b:Bk) (c:Option (RT Out)) (k:Nat) (N:Nat) (f:List AV) (t:List Mc.dI) (n:Nat):Option (RT Out):=@uE b Tryz.prog (@lG b Tryz.prog 100000 60) 100000 (oK c) (.exit k) (Ft.of N f) (L8 t) n
def XN (v m:Int) (h1:0<m:=by omega) (a:m<=1099511627776:=by omega):Ck 14 [.i v,.i m] (.i (v%m)) :=
 ⟨bL (.c _) (bL (.c _) fW),.c _,@anf dY dZ _ [.int .i64 v,.int .i64 m] _ fun w=>ajO v m w h1 a⟩
def aE {xs:List Int} {i:Nat} {l:List dE} {now:Int} {closed:Bool} {bK:List cY} {cN:List Int} {aJ:List (List Int)} {bD down:List Int} {ahead:List EntC} (h:l[(xs.getD i 0).toNat]?=some ⟨⟨now,closed,bK,cN,aJ,bD,down⟩,ahead⟩):(aX l)[(cI (fun k=>xs.getD k 0) [([i],1)]).toNat]?=some (zW now closed (bS bK) (aA cN) (bN aJ) (aA bD) (aA down) (bX ahead)):=qH (lZ _ _) (aia h)
def aI {xs:List Int} {i:Nat} {z:List Int} {v:Int} (h:z[(xs.getD i 0).toNat]?=some v):(aA z)[(cI (fun k=>xs.getD k 0) [([i],1)]).toNat]?=some [.i v]:=qH (lZ _ _) (RY h)
def aS {xs:List Int} {i:Nat} {z:List (List Int)} {v:List Int} (h:z[(xs.getD i 0).toNat]?=some v):(aW z)[(cI (fun k=>xs.getD k 0) [([i],1)]).toNat]?=some [.lit 1 (aA v)]:=qH (lZ _ _) (ah0 h)
def aR {xs:List Int} {i:Nat} {z:List (List Int)} {v:List Int} (h:z[(xs.getD i 0).toNat]?=some v):(bN z)[(cI (fun k=>xs.getD k 0) [([i],1)]).toNat]?=some (jH v):=qH (lZ _ _) (ajC h)
def aC {xs:List Int} {i:Nat} {z:List vE} {x:vE} (h:z[(xs.getD i 0).toNat]?=some x):(fU z)[(cI (fun k=>xs.getD k 0) [([i],1)]).toNat]?=some [.i x.aD,.i x.item,.i x.loc,.i x.eX,.i x.value,.i x.vY,.i x.dL,.i x.back]:=qH (lZ _ _) (aos h)
def aV {xs:List Int} {i:Nat} {z:List kJ} {x:kJ} (h:z[(xs.getD i 0).toNat]?=some x):(dN z)[(cI (fun k=>xs.getD k 0) [([i],1)]).toNat]?=some [.i x.aD,.i x.item,.i x.loc,.i x.eX,.i x.back,.i x.cost,.i x.bW,.i x.period,.c (.bool x.waits)]:=qH (lZ _ _) (aoq h)
def aT {xs:List Int} {i:Nat} {z:List yX} {x:yX} (h:z[(xs.getD i 0).toNat]?=some x):(eO z)[(cI (fun k=>xs.getD k 0) [([i],1)]).toNat]?=some [.i x.src,.i x.dst,.i x.item,.i x.eX,.i x.value,.i x.bW]:=qH (lZ _ _) (anY h)
def aP {p:Poly} {z:List cY} {x:cY} (h:z[(evP ρ p).toNat]?=some x):(bS z)[(cI ρ p).toNat]?=some [.lit 3 (aM x.aN),.i x.p0,.i x.p1,.i x.p2]:=qH (vQ ρ p).symm (acX h)
def az {z:List Int} {v:Int} (h:z[0]?=some v):(aA z)[(cI ρ []).toNat]?=some [.i v]:=qH (x:=0) rfl (RY h)
abbrev tA:=List AV
abbrev tB:=List (List AV)
abbrev tC:=List (Poly×Int×Int)
abbrev tD:=List (Nat×Poly)
abbrev tE:=List (Nat×Poly×List AV)
abbrev tF:=List (Nat×List AV×AV)
abbrev tG:=List (Int×Int)
abbrev tH:=Nat×List AV×AV
abbrev tI:=Poly×Int×Int
abbrev tJ:=Nat×Poly×List AV
abbrev tK:=Nat×Poly×Poly×Poly
abbrev tN:=List (Nat×Poly×Poly×Poly)
abbrev tM:=List Mc.dI
abbrev Kev:AV:=(.c (.bool false))
abbrev Kb5:tA:=[(.lit 3 []),.i 0,.i 0,.i 0]
abbrev JW:AV:=(.lit 1 [[.i 0],[.i 0],[.i 0],[.i 0],[.i 0],[.i 0],[.i 0],[.i 0],[.i 0],[.i 0],[.i 0],[.i 0],[.i 0],[.i 0],[.i 0],[.i 0],[.i 0]])
abbrev Wy:tA:=[.i 0,.i 0,.i 0,.i 0,.i 0,.i 0,.i 0,.i 0,.i 0,.i 0,.i 0]
abbrev Ka:tA:=[.i 1,Kev,(.lit 4 [Kb5,Kb5,Kb5,Kb5,Kb5,Kb5,Kb5,Kb5]),JW,(.lit 11 [Wy,Wy,Wy,Wy]),(.lit 1 [[(.i (-1))],[(.i (-1))],[(.i (-1))],[(.i (-1))]]),(.lit 1 [[.i 0],[.i 0],[.i 0],[.i 0]]),(.lit 8 [])]
abbrev Keh:AV:=(sN (.q 8 0) (.v 7))
abbrev GX:tH:=(89,[Keh,.v 0,.v 1],(.i 0))
abbrev G1:tH:=(89,[Keh,.v 3,.v 1],(.i 0))
abbrev Gt:tA:=[Keh,.v 0,.v 1,.v 2,.i 3,.v 4]
abbrev Kei:AV:=(sN (.q 8 7) (.v 7))
abbrev J9:tH:=(217,Gt,(.bE [Kei,(.agg [.o 2,.v 14,.v 15]),.o 3,.i 0]))
abbrev Ke1:AV:=(.e [([5],-1)])
abbrev Kdz:tA:=[.i 15,Ke1]
abbrev Kdx:tA:=[.i 0,(.e [([14],-1)])]
abbrev Qv:tA:=[Kei,.v 0,(.lit 2 [[.i 13,.v 5],Kdz,[.i 16,.v 14],Kdx])]
abbrev Kej:AV:=(sN (.q 8 8) (.v 7))
abbrev Kaz:AV:=(.bE [Kej,.i 0])
abbrev Jj:tH:=(92,Qv,Kaz)
abbrev Uy:tA:=[Kej,.v 3,(.lit 2 [[.i 12,.v 5],[.i 14,Ke1]])]
abbrev Kek:AV:=(sN (.q 8 9) (.v 7))
abbrev KaA:AV:=(.bE [Kek,.i 0])
abbrev Qp:tH:=(92,Uy,KaA)
abbrev Zd:tA:=[Kek,.v 0,.v 1,(.agg [.i 0,.i 0,.i 0,.i 0,.i 0,.i 0,.v 14,.i 0,.i 0,.i 0,.i 0])]
abbrev KdX:AV:=(sN (.q 8 10) (.v 7))
abbrev Kah:AV:=(.bE [KdX,.i 0])
abbrev Kb:tF:=[GX,G1,J9,Jj,Qp,(124,Zd,Kah)]
abbrev Yd:Mc.dI:=(.cells 31 10 [[.o 0,.o 1,.q 1 1,.q 1 2,.q 1 3,.q 8 0,.q 8 4,.q 9 5,.q 6 6,.o 2]])
abbrev He:tB:=[[.i 0,.i 0,.emp,.emp,.emp,.emp,.emp,.emp,.emp,.i 0]]
abbrev Vn:Mc.dI:=(.cells 31 10 He)
abbrev QY:Mc.dI:=(.cells 31 10 [[.o 0,.o 1,.q 1 1,.q 1 2,.q 1 3,(.dD 76 8 3 [([0],1)]),.q 8 4,.q 9 5,.q 6 6,.o 2]])
abbrev KX:Mc.dI:=(.sc 76 8 0 [([([1],1)],[.o 3,.o 4,(.dD 161 4 4 [([2],2)]),(.dD 3 1 5 [([],17)]),(.dD 140 11 6 [([2],1)]),(.dD 3 1 7 [([2],1)]),(.dD 3 1 8 [([2],1)]),.q 8 12])] [] [([0],1)])
abbrev Kb0:Mc.dI:=(.sc 161 4 7 [] [] [([2],2)])
abbrev Kch:Mc.dI:=(.sc 3 1 8 [] [] [([],17)])
abbrev KbR:Mc.dI:=(.sc 140 11 9 [] [] [([2],1)])
abbrev Kb4:Mc.dI:=(.sc 3 1 10 [] [] [([2],1)])
abbrev Kc:tM:=[Yd,Vn,QY,KX,Kb0,Kch,KbR,Kb4,(.sc 3 1 13 [] [] [([2],1)]),(.sc 44 2 14 [] [] [([3],1)])]
abbrev Kd:tA:=[.i 1,Kev,(.lit 4 [Kb5,Kb5,Kb5,Kb5,Kb5,Kb5]),JW,(.lit 11 [Wy,Wy,Wy]),(.lit 1 [[(.i (-1))],[(.i (-1))],[(.i (-1))]]),(.lit 1 [[.i 0],[.i 0],[.i 0]]),(.lit 8 [])]
abbrev Ka5:tK:=(1,[([2],1)],[([],32)],[([3],1)])
abbrev Ka6:tK:=(0,[([2],1)],[([],32)],[([4],1)])
abbrev Ka7:tK:=(1,[([4],1)],[([0],1)],[([5],1)])
abbrev KaQ:tK:=(0,[([2],1)],[([],128)],[([6],1)])
abbrev Ka8:tK:=(1,[([6],1)],[([1],1)],[([7],1)])
abbrev Kap:tK:=(0,[([2],1)],[([],1024)],[([8],1)])
abbrev Kbt:tK:=(1,[([8],1)],[([],8)],[([9],1)])
abbrev Ka9:tK:=(0,[([9],1)],[([],7)],[([10],1)])
abbrev B7:tK:=(0,[([2],1)],[([],8192)],[([11],1)])
abbrev Kaq:tK:=(1,[([11],1)],[([],24)],[([12],1)])
abbrev Bw:tK:=(0,[([2],1)],[([],196608)],[([13],1)])
abbrev B8:tK:=(1,[([13],1)],[([],900)],[([14],1)])
abbrev Bh:tK:=(0,[([2],1)],[([],7000000)],[([15],1)])
abbrev Kar:tK:=(1,[([15],1)],[([],12)],[([16],1)])
abbrev KeI:Poly:=[([],1),([12],1)]
abbrev DX:tK:=(0,KeI,[([],3)],[([17],1)])
abbrev Ke:tN:=[Ka5,Ka6,Ka7,KaQ,Ka8,Kap,Kbt,Ka9,B7,Kaq,Bw,B8,Bh,Kar,DX]
abbrev Kf:tN:=[Ka5,Ka6,Ka7,KaQ,Ka8,Kap,Kbt,Ka9,B7,Kaq,Bw,B8,Bh,Kar,(0,KeI,[([],8)],[([17],1)])]
abbrev Kg:tN:=[Ka5,Ka6,Ka7,KaQ,Ka8,Kap,Kbt,Ka9,B7,Kaq,Bw,B8,Bh,Kar,(1,[([14],1)],[([],60)],[([17],1)])]
abbrev Kh:tN:=[Ka5,Ka6,Ka7,KaQ,Ka8,Kap,Kbt,Ka9,B7,Kaq,Bw,B8,Bh,Kar]
abbrev Bj:AV:=(.agg [.o 2,.o 3,.q 1 4,.q 1 5,.q 1 6])
abbrev Uu:AV:=(.agg [.o 4,.o 5,.q 1 8,.q 1 9,.q 1 10,.q 8 7,.q 8 11,.q 9 12,.q 6 13,.o 6])
abbrev U7:tA:=[.o 7,.o 8,.q 1 15,.q 1 16,.q 1 17,.q 8 14,.q 8 18,.q 9 19,.q 6 20,.o 9]
abbrev YC:AV:=(.agg U7)
abbrev Ki:tF:=[(11,[.o 1],Bj),(10,[Bj,.q 1 3],Uu),(9,[Uu],YC),(12,[YC],(.bE [(.agg [.o 0,.q 4 0,.q 2 1,.q 1 2]),.i 0]))]
abbrev Kj:tA:=[.i 1,Kev,(.lit 4 [Kb5,Kb5,Kb5,Kb5]),JW,(.lit 11 [Wy,Wy]),(.lit 1 [[(.i (-1))],[(.i (-1))]]),(.lit 1 [[.i 0],[.i 0]]),(.lit 8 [])]
abbrev H6:tA:=[.i 11,.i 0,.i 0,.i 0,.o 3,.i 0,.v 2,.i 0,.q 1 7]
abbrev VE:Mc.dI:=(.cells 50 9 [H6])
abbrev Wj:Mc.dI:=(.cells 110 8 [[.v 3,.v 4,.o 4,.o 5,.o 6,.o 7,.o 8,.o 9]])
abbrev Kk:tM:=[Yd,VE,Vn,Wj,(.cells 31 10 [[.o 0,.o 1,.q 1 1,.q 1 2,.q 1 3,.q 8 8,.q 8 4,.q 9 5,.q 6 6,.o 2]])]
abbrev KM:tA:=[(.agg [.o 0,.o 1,.q 1 1,.q 1 2,(.seq 1 3 [([([0],1)],[(.seq 1 14 [([([1],1)],[.v 5])] [])])] []),.q 8 13,.q 8 4,.q 9 5,.q 6 6,.v 7]),.v 0,(.lit 2 [[.i 0,(.e [([15],1),([16],1)])],[.i 6,(.e [([15],-1),([16],-1)])]])]
abbrev UO:AV:=(.agg [.o 0,.o 1,.q 1 1,.q 1 2,.q 1 15,.q 8 16,.q 8 4,.q 9 5,.q 6 6,.v 7])
abbrev Kl:tH:=(92,KM,(.bE [UO,.i 0]))
abbrev Kcl:Mc.dI:=(.sc 3 1 0 [] [] [([0],1)])
abbrev Kb8:Mc.dI:=(.sc 3 1 1 [] [] [([0],1)])
abbrev Kb9:Mc.dI:=(.sc 3 1 2 [] [] [([0],1)])
abbrev Kdi:AV:=(.dD 3 1 1 [([0],1)])
abbrev Kdj:AV:=(.dD 3 1 2 [([0],1)])
abbrev Kdk:AV:=(.dD 3 1 3 [([0],1)])
abbrev JE:Mc.dI:=(.cells 128 2 [[(.ptr 4 0 0 0),Kdi],[(.ptr 4 0 0 1),Kdj],[(.ptr 4 0 0 2),Kdk]])
abbrev KdE:tB:=[[.i 0,.i 0,.i 0,.i 0]]
abbrev BN:Mc.dI:=(.cells 46 4 KdE)
abbrev Km:tM:=[(.cells 46 4 [[.o 1,.i 0,.i 0,.o 0]]),Kcl,Kb8,Kb9,JE,BN]
abbrev Ko:tM:=[(.cells 46 4 [[.o 1,.o 2,.i 0,.o 0]]),Kcl,Kb8,Kb9,JE,BN]
abbrev Kp:tM:=[(.cells 46 4 [[.o 1,.o 2,.o 3,.o 0]]),Kcl,Kb8,Kb9,JE,BN]
abbrev KaS:Mc.dI:=(.cells 101 3 [[.i 0,.i 0,.i 0]])
abbrev JB:Mc.dI:=(.cells 238 2 [[(.ptr 3 1 0 0),Kdk],[(.ptr 3 1 0 1),(.dD 3 1 4 [([0],1)])],[(.ptr 3 1 0 2),(.dD 3 1 5 [([0],1)])]])
abbrev Kca:Mc.dI:=(.sc 3 1 3 [] [] [([0],1)])
abbrev Kq:tM:=[KaS,KaS,JB,Kb8,Kb9,Kca]
abbrev Kr:tM:=[KaS,(.cells 101 3 [[.o 0,.i 0,.i 0]]),JB,Kb8,Kb9,Kca]
abbrev Ks:tM:=[KaS,(.cells 101 3 [[.o 0,.o 1,.i 0]]),JB,Kb8,Kb9,Kca]
abbrev KeN:tA:=[.o 0,.o 1,.o 2]
abbrev KaT:Mc.dI:=(.cells 101 3 [KeN])
abbrev Kt:tM:=[KaS,KaT,JB,Kb8,Kb9,Kca]
abbrev Ka0:Mc.dI:=(.cells 101 3 [[.o 6,.o 7,.o 8]])
abbrev KeQ:Poly:=[([],1),([2],1)]
abbrev D6:Mc.dI:=(.sc 3 1 7 [] [[.v 1]] KeQ)
abbrev Kez:Poly:=[([3],1),([4],-1)]
abbrev Ku:tM:=[Yd,Ka0,Vn,D6,(.sc 3 1 8 [] [[(.e Kez)]] KeQ)]
abbrev Kv:tM:=[Yd,VE,Vn,Wj]
abbrev Hs:tH:=(149,[.v 16,.v 4,(.e [([14],1),([15],-1)])],(.v 19))
abbrev Ht:tH:=(149,[.v 17,.v 4,(.e [([14],1),([15],-1)])],(.v 20))
abbrev VT:tA:=[Keh,.v 0,.v 1,.v 2,(.agg [.v 4,.v 19,.v 20])]
abbrev GQ:AV:=(.bE [Keh,.i 0,.i 0,.v 13])
abbrev Kw:tF:=[GX,Hs,Ht,(145,VT,GQ)]
abbrev Kec:tA:=[.i 0,.emp,.emp,.emp]
abbrev BO:Mc.dI:=(.cells 38 4 [Kec])
abbrev Kdh:AV:=(.dD 46 4 3 [([0],1)])
abbrev Kb7:Mc.dI:=(.sc 46 4 7 [] [] [([0],1)])
abbrev Kx:tM:=[Yd,BO,(.cells 38 4 [[.o 3,Kdh,.q 2 8,(.dD 3 1 4 [([3],1)])]]),Kb7,(.sc 3 1 9 [] [] [([3],1)])]
abbrev Ky:tM:=[Yd,BO,(.cells 38 4 [[.o 3,Kdh,.q 2 8,(.dD 3 1 4 [([],17)])]]),Kb7,(.sc 3 1 9 [] [] [([],17)])]
abbrev Qa:Mc.dI:=(.cells 31 10 [[.o 0,.o 1,.q 1 1,.q 1 2,.q 1 3,(.dD 76 8 1 [([0],1)]),.q 8 4,(.dD 137 9 2 [([2],1)]),.q 6 6,.o 2]])
abbrev Kz:tM:=[Qa,(.sc 76 8 0 [] [] [([0],1)]),(.sc 137 9 7 [] [] [([2],1)]),Vn]
abbrev KaU:Mc.dI:=(.cells 101 3 [[.o 3,.o 4,.o 5]])
abbrev Kcg:Mc.dI:=(.sc 3 1 7 [] [] [([1],1)])
abbrev KA:tM:=[Yd,KaU,Vn,Kcg,(.sc 137 9 10 [] [] [([0],1)])]
abbrev KB:tM:=[Yd,Ka0,Vn,(.sc 3 1 7 [] [] [([2],1)]),(.sc 3 1 8 [] [] [([2],1)])]
abbrev KC:tM:=[Yd,Ka0,Vn,Kcg,(.sc 3 1 8 [] [] [([1],1)])]
abbrev Kbe:tB:=[[.i 14],[.i 13],[.i 15],[.i 16]]
abbrev GM:Mc.dI:=(.cells 3 1 Kbe)
abbrev KdK:tA:=[.i 14,(.e [([3],-1)])]
abbrev KdL:tA:=[.i 13,(.e [([4],-1)])]
abbrev Ke5:AV:=(.e [([6],-1)])
abbrev QD:Mc.dI:=(.cells 44 2 [KdK,KdL,Kdz,[.i 16,Ke5]])
abbrev KD:tM:=[Yd,GM,QD]
abbrev VF:tA:=[.o 0,.o 1,.q 1 1,.q 1 2,.q 1 3,.q 8 7,.q 8 4,.q 9 8,.q 6 6,.o 2]
abbrev KE:tM:=[Yd,Vn,(.cells 31 10 [VF])]
abbrev Kd8:Mc.dI:=(.cells 3 1 [[.v 0]])
abbrev Kci:Mc.dI:=(.sc 3 1 7 [] [] [([4],1)])
abbrev Kcj:Mc.dI:=(.sc 3 1 8 [] [] [([4],1)])
abbrev Kck:Mc.dI:=(.sc 3 1 9 [] [] [([4],1)])
abbrev KF:tM:=[Yd,Kd8,BN,Kci,Kcj,Kck]
abbrev KG:tM:=[Yd,Kd8,BN,(.sc 3 1 7 [] [] [([2],1)]),(.sc 3 1 8 [] [] [([2],1)]),(.sc 3 1 9 [] [] [([2],1)])]
abbrev KH:tM:=[Yd,QD,(.sc 3 1 7 [] [] [([7],1)])]
abbrev KJ:tM:=[Yd,VE,Vn]
abbrev KK:tM:=[Yd,GM,(.cells 44 2 [KdK,KdL,Kdz])]
abbrev Ke8:Int×Int:=(0,1073741824)
abbrev KdN:Int×Int:=(1,288230376151711744)
abbrev KdO:Int×Int:=(0,288230376151711744)
abbrev DZ:Int×Int:=(-576460752303423488,576460752303423488)
abbrev KL:tG:=[(0,30),Ke8,KdN,(0,3),(1,1),KdO,KdO,DZ,KdO,KdO,jB,KdO]
abbrev KN:tM:=[Yd,Ka0,Vn,Kcg]
abbrev Bi:AV:=(.agg [.o 0,.o 1,.q 1 0,.q 1 1,.q 1 2])
abbrev Yl:tA:=[.o 0,.o 1,.q 1 0,.q 1 1,.q 1 2,.q 8 4,(.lit 8 []),(.lit 9 []),(.lit 6 []),.i 0]
abbrev Gm:tA:=[Bi,.q 1 3]
abbrev KO:tF:=[(31,[Bi],(.bE [(.agg Yl),.i 0])),(32,Gm,(.q 9 5))]
abbrev KP:tM:=[Yd,BO,(.cells 38 4 [[.o 3,Kdh,.emp,.emp]]),Kb7]
abbrev KeJ:Int×Int:=(0,1099511627775)
abbrev KeK:Int×Int:=(0,1099511627776)
abbrev KQ:tG:=[(2,3),(2,4),KeJ,(24,24),KeK,(0,2),KeK,(0,3),KeK,(0,7),(0,1),KeK,(0,23),KeK,(0,899),KeK,(0,11),(0,11),(0,2)]
abbrev Gp:Mc.dI:=(.cells 25 5 [[.o 0,.o 1,.q 1 0,.q 1 1,.q 1 2]])
abbrev VB:tA:=[.o 2,.o 3,.q 1 4,.q 1 5,.q 1 6,.q 8 7,.q 8 8,.q 9 9,.q 6 10,.o 4]
abbrev KR:tM:=[Gp,Vn,(.cells 31 10 [VB])]
abbrev Kfa:Int×Int:=(0,1073741823)
abbrev KT:tG:=[Kfa,Ke8,Ke8,(0,3),Ke8,(0,6),Ke8,Ke8,(0,3),Ke8,(0,3),(0,39),(0,3),(0,39),(0,3),(0,39),(0,3),(0,39),(0,3),(0,39),(0,3),(0,39)]
abbrev KU:tM:=[Yd,GM,(.cells 44 2 [KdK,KdL])]
abbrev BI:tA:=[Keh,.v 0,.v 1,.v 2]
abbrev KbL:AV:=(.agg [.q 3 8,.o 7,.o 8,.o 9])
abbrev UP:tH:=(121,BI,KbL)
abbrev VY:tH:=(146,[KbL],(.agg [.v 17,.o 5,.o 6]))
abbrev WY:tH:=(149,[.v 18,(.e [([15],1),([16],-1)]),.v 15],(.v 19))
abbrev KV:tF:=[UP,VY,WY]
abbrev Jx:tA:=[(sN (.q 8 9) (.o 2)),.v 0,(.lit 2 [[.i 5,.v 6],[.i 7,.v 7],[.i 8,.v 8],[.i 0,Ke5],[.i 0,(.e [([7],-1)])],[.i 0,(.e [([8],-1)])]])]
abbrev Kd6:AV:=(sN (.q 8 10) (.o 2))
abbrev Kam:AV:=(.bE [Kd6,.i 0])
abbrev KW:tH:=(92,Jx,Kam)
abbrev B9:Int×Int:=(-1125899906842624,1125899906842624)
abbrev KY:tG:=[(1,5),(0,4),(0,40),B9,B9,B9,B9,(0,20),(0,3)]
abbrev Kdo:AV:=(.agg [.i 0,.i 0,.i 0])
abbrev YG:AV:=(.bE [Keh,Kdo,Kev,.v 13])
abbrev JP:tH:=(217,Gt,YG)
abbrev KZ:tF:=[GX,JP]
abbrev KaZ:tH:=(149,[.v 18,.v 17,.v 15],(.v 19))
abbrev K6:tF:=[UP,VY,KaZ]
abbrev K7:tM:=[Yd,GM,(.cells 44 2 [KdK])]
abbrev K8:tA:=[UO,.v 0,.v 1,(.agg [.i 0,.i 0,.i 0,.i 0,.i 0,.i 0,.i 0,.i 0,.i 0,.i 0,(.e [([15],1),([16],1)])])]
abbrev Kdt:AV:=(.agg [.v 5,.v 6,.v 7])
abbrev VI:tH:=(215,[.q 3 0,.v 2],(.bE [.q 3 1,Kdt,.i 0]))
abbrev WP:tH:=(198,[.q 3 0],(.bE [(.agg [.v 8,.v 9,.v 10]),.i 0]))
abbrev K9:tF:=[VI,WP,(148,[.v 2,.v 1,.i 1],(.bE [.v 11,.o 3,.i 0]))]
abbrev Ja:tG:=[(1,5),(0,4),(0,40),B9,B9,B9,B9]
abbrev KdY:AV:=(sN (.q 8 13) (.v 7))
abbrev KeS:AV:=(.e [([19],-1)])
abbrev Zm:AV:=(.lit 2 [[.i 4,.v 5],[.i 3,Ke1],[.i 0,.v 21],[.i 6,.v 22],[.i 5,KeS]])
abbrev J2:tA:=[KdY,.v 0,Zm]
abbrev KdZ:AV:=(sN (.q 8 14) (.v 7))
abbrev Jb:tH:=(92,J2,(.bE [KdZ,.i 0]))
abbrev Jc:tG:=[(0,3),(0,4),(0,1),KdO,KdO,KdO,KdO,KdO,KdO,(1,20)]
abbrev J3:tA:=[Kei,.v 0,Zm]
abbrev Jd:tH:=(92,J3,Kaz)
abbrev KcE:tI:=([([6],-1),([8],1)],1,40)
abbrev WV:tI:=([([4],1),([14],-1),([18],1)],-1152921504606846976,0)
abbrev KaD:tI:=([([16],1)],1,1152921504606846976)
abbrev GZ:tI:=([([4],1),([16],-1)],-1152921504606846976,0)
abbrev Je:tC:=[KcE,WV,KaD,GZ]
abbrev KcC:tI:=([([0],-1),([11],1)],1,4)
abbrev KcF:tI:=([([1],-1),([12],1)],1,5)
abbrev WA:tI:=([([15],-1),([16],1),([17],1)],-1152921504606846976,-1)
abbrev KeV:tI:=([([14],1)],1,3)
abbrev Jf:tC:=[KcC,KcF,WA,KeV,([([19],1)],1,1125899906842624)]
abbrev WX:tI:=([([15],-1),([16],1),([17],1)],0,1152921504606846976)
abbrev Jg:tC:=[KcC,KcF,WX,KeV,([([19],1)],1,1125899906842624)]
abbrev KeF:AV:=(.c (.bool true))
abbrev YH:tJ:=(5,[([6],1)],[.v 0,.v 1,.v 2,.v 14,.v 15,.v 16,.v 17,.v 18,KeF])
abbrev Jh:tE:=[YH,(0,[([0],1)],[.v 23,.o 2,.q 4 7,.q 1 8,.q 11 9,.q 1 10,.q 1 11,.q 8 12])]
abbrev Ji:tE:=[YH,(0,[([0],1)],[.v 19,.o 2,.q 4 7,.q 1 8,.q 11 9,.q 1 10,.q 1 11,.q 8 12])]
abbrev Jk:tM:=[Yd,Vn]
abbrev Ut:tJ:=(0,[([1],1)],[.v 6,.o 9,.q 4 8,.q 1 9,.q 11 10,.q 1 11,.q 1 12,(.lit 8 [])])
abbrev Jl:tE:=[(7,[([3],1)],[.v 4,.o 3,.o 4,.o 5,.o 6,.o 7,.o 8,.v 5,KeF]),Ut]
abbrev Kdp:Int×Int:=(1,9223372036854775807)
abbrev Jm:tG:=[(0,30),KdO,KdO,KdO,KdO,KdO,jB,Kdp]
abbrev Jn:AV:=(.bE [(.agg [(.lit 3 [[(.e [([2],(-1)),([8],1)]),.i 0,(.e [([7],(-1)),([10],1)])]]),.o 0,.o 1,.o 2]),(.agg [.v 5,.v 9,.v 7]),Kev,.i 0])
abbrev Jo:tG:=[(0,30),KdO,KdO,KdO,KdO,KdO,jB,KdN]
abbrev QE:tA:=[Kei,.v 0,(.lit 2 [[.i 3,.v 5],[.i 4,Ke1],[.i 5,.v 14],Kdx])]
abbrev Jp:tH:=(92,QE,Kaz)
abbrev Ker:Poly:=[([4],1),([15],-1)]
abbrev Dg:tI:=(Ker,1,1152921504606846976)
abbrev Kaj:tI:=([([16],1)],-1152921504606846976,0)
abbrev Jq:tC:=[KcC,KcF,KeV,Dg,Kaj]
abbrev Jr:tC:=[KcC,KcF,KeV,Dg,KaD]
abbrev QK:tA:=[Kei,.v 0,(.lit 2 [[.i 1,.v 20],[.i 6,(.e [([19],1),([20],-1)])],[.i 0,KeS]])]
abbrev Js:tH:=(92,QK,Kaz)
abbrev QL:tA:=[Kei,.v 0,(.lit 2 [[.i 2,.v 20],[.i 6,(.e [([19],1),([20],-1)])],[.i 0,KeS]])]
abbrev Jt:tH:=(92,QL,Kaz)
abbrev Ju:tM:=[Yd,GM,(.cells 44 2 [])]
abbrev D0:Mc.dI:=(.cells 161 4 [[.q 3 0,.o 0,.o 1,.o 2]])
abbrev Bt:Mc.dI:=(.cells 161 4 [[.emp,.i 0,.i 0,.i 0]])
abbrev Jv:tM:=[D0,Bt,(.sc 101 3 1 [] [] [([0],1)]),KaU]
abbrev G8:tA:=[(.lit 1 [[.v 17],[.v 18],[.v 19],[.v 20]])]
abbrev Jw:AV:=(.lit 1 [G8,[(.lit 1 [[.v 21],[.v 22],[.v 23],[.v 24]])],[(.lit 1 [[.v 25],[.v 26],[.v 27],[.v 28]])]])
abbrev Q5:tA:=[KdX,.v 0,.v 1,(.agg [.i 0,.i 0,.v 19,.i 0,.i 0,.i 0,.i 0,.i 0,.i 0,.i 0,.i 0])]
abbrev Kd1:AV:=(sN (.q 8 11) (.v 7))
abbrev BT:AV:=(.bE [Kd1,.v 13])
abbrev Jy:tH:=(124,Q5,BT)
abbrev Kak:AV:=(.bE [Kd1,.i 0])
abbrev Jz:tH:=(124,Q5,Kak)
abbrev D7:tA:=[(.lit 1 [[.v 5],[.v 6],[.v 7],[.v 8]])]
abbrev Dn:tA:=[(.lit 1 [[.v 9],[.v 10],[.v 11],[.v 12]])]
abbrev G7:tA:=[(.lit 1 [[.v 13],[.v 14],[.v 15],[.v 16]])]
abbrev JA:AV:=(.lit 1 [D7,Dn,G7])
abbrev Zc:tA:=[Kej,.v 0,.v 1,(.agg [.i 0,.i 0,.i 0,.i 0,.i 0,.i 0,.i 0,.v 19,.i 0,.i 0,.i 0])]
abbrev Kaf:AV:=(.bE [Kej,.v 13])
abbrev JC:tH:=(124,Zc,Kaf)
abbrev KdF:AV:=(.dD 3 1 3 [([4],1)])
abbrev JD:Mc.dI:=(.cells 128 2 [[(.ptr 4 0 0 0),(.dD 3 1 1 [([4],1)])],[(.ptr 4 0 0 1),(.dD 3 1 2 [([4],1)])],[(.ptr 4 0 0 2),KdF]])
abbrev JF:tH:=(124,Zc,KaA)
abbrev Vs:tA:=[Keh,.v 0,.v 1,.v 2,.i 2,(.e [([4],-1),([15],1)])]
abbrev KcW:AV:=(.agg [.o 2,.v 16,.o 3])
abbrev JG:tH:=(217,Vs,(.bE [Kek,KcW,.o 4,.i 0]))
abbrev KcD:tI:=([([6],-1),([9],1)],1,40)
abbrev WU:tI:=([([4],1),([14],-1),([15],1)],-1152921504606846976,0)
abbrev JH:tC:=[KcD,WU,KcC,([([18],-1),([23],1)],1,200)]
abbrev KcX:AV:=(.e Ker)
abbrev Yb:tA:=[Keh,.v 0,.v 1,.v 2,(.agg [KcX,.v 19,.i 0])]
abbrev JI:tH:=(145,Yb,(.bE [KdX,.v 20,.v 21,.i 0]))
abbrev Yc:tA:=[Keh,.v 0,.v 1,.v 2,(.agg [KcX,.v 18,.i 0])]
abbrev JJ:tH:=(145,Yc,(.bE [Kek,.v 19,.v 20,.i 0]))
abbrev Keg:AV:=(sN (.q 8 0) (.o 2))
abbrev G6:tH:=(89,[Keg,.v 3,.v 4],(.i 0))
abbrev KaH:tA:=[Keg,.q 1 7,.o 3]
abbrev Gf:tH:=(28,KaH,(.q 1 8))
abbrev JK:tF:=[G6,Gf,(90,[.v 2,.q 1 8],(.bE [.q 1 9,.i 0]))]
abbrev JL:tC:=[KcD,WU,KcC,([([18],-1),([19],1)],0,0)]
abbrev Yg:tA:=[Keh,.v 0,.v 1,.v 2,(.agg [KcX,.i 0,.i 0])]
abbrev JM:tH:=(145,Yg,(.bE [Kek,.v 18,.v 19,.i 0]))
abbrev JN:tM:=[KaS,KaT,(.cells 101 3 [[.v 4,.v 5,.v 6]]),(.sc 101 3 1 [] [] [([3],1)])]
abbrev JO:tM:=[KaS,KaT,KaU,(.sc 101 3 1 [] [] [([2],1)])]
abbrev JQ:tH:=(122,[(.agg [.q 3 7,.v 3,.v 4,.v 5])],(.bE [(.agg [.q 3 8,.i 0,.i 0,.i 0]),(.agg [.o 3,.v 6,.o 4,.o 5,.v 7,.o 6,.o 7,.v 8,.o 8])]))
abbrev VQ:tH:=(215,[.q 3 0,.v 0],(.bE [.q 3 1,(.agg KeN),.o 3]))
abbrev VR:tH:=(215,[.q 3 1,.v 1],(.bE [.q 3 2,(.agg [.o 4,.o 5,.o 6]),.o 7]))
abbrev JR:tF:=[VQ,VR]
abbrev ZF:tA:=[KdX,.v 0,(.lit 2 [[.i 0,.v 20],[.i 6,.v 21],[.i 8,KeS]])]
abbrev JS:tH:=(92,ZF,Kak)
abbrev Kfe:Nat×Poly:=(1,[([1],1)])
abbrev Kfk:Nat×Poly:=(0,[([2],1)])
abbrev Kfo:Nat×Poly:=(6,[([3],1)])
abbrev JT:tD:=[Kfe,Kfk,Kfo,(7,[([4],1)]),(8,[([4],1)]),(9,[([4],1)]),(14,[([1],1)]),(20,[([1],1)]),(26,[([1],1)])]
abbrev ZE:tA:=[Kei,.v 0,(.lit 2 [[.i 0,.v 19],[.i 6,.v 20],[.i 12,(.e [([17],-1)])]])]
abbrev JU:tH:=(92,ZE,Kaz)
abbrev ZK:tA:=[Kek,.v 0,(.lit 2 [[.i 0,.v 19],[.i 6,.v 20],[.i 8,(.e [([18],-1)])]])]
abbrev JV:tH:=(92,ZK,Kah)
abbrev Dr:Mc.dI:=(.cells 38 4 [[.o 0,.q 4 0,.q 2 1,.q 1 2]])
abbrev JX:tM:=[(.cells 31 10 [[.o 1,.o 2,.q 1 4,.q 1 5,.q 1 6,.q 8 3,.q 8 7,.q 9 8,.q 6 9,.o 3]]),Dr]
abbrev ZR:tA:=[Kei,.v 0,(.lit 2 [[.i 0,.v 14],[.i 6,.v 15],[.i 1,Ke1]])]
abbrev JY:tH:=(92,ZR,Kaz)
abbrev KeO:Poly:=[([],1),([1],1)]
abbrev JZ:tM:=[Yd,(.sc 3 1 8 [] [[.i 0]] KeO)]
abbrev Kbu:AV:=(.agg [.q 3 15,.o 5,.o 6,.o 7])
abbrev Vq:tA:=[.v 4,.v 5,Kbu,(.agg [.o 8,.v 7,.o 9])]
abbrev Kbv:AV:=(.agg [.q 3 16,.o 5,.o 6,.o 7])
abbrev J0:tH:=(196,Vq,(.bE [Kbv,.v 8,.i 0]))
abbrev Z1:tA:=[Kej,.v 0,(.lit 2 [[.i 0,(.e [([14],1),([16],-1)])],[.i 6,.v 15]])]
abbrev J1:tH:=(92,Z1,KaA)
abbrev HC:tA:=[.o 9,.o 10,.o 11,.v 3,.v 4,.o 12,.o 13,.o 14,.o 15]
abbrev Zf:tA:=[Keg,(.agg HC),.o 3,.o 4,.o 5]
abbrev J4:tF:=[(180,Zf,KeF)]
abbrev J5:tG:=[(1,4),KdO,KdO,KdO,Ke8,KdO,jB,jB]
abbrev B0:tA:=[(.lit 1 [[.v 13],[.v 14],[.v 15]])]
abbrev J6:AV:=(.lit 1 [B0,[(.lit 1 [[.v 16],[.v 17],[.v 18]])],[(.lit 1 [[.v 19],[.v 20],[.v 21]])]])
abbrev J7:tM:=[KaS,Kb8,Kb9,Kca]
abbrev J8:tG:=[(0,30),yU,(0,3),(0,30),KdO,KdO,DZ,(1,20)]
abbrev Gr:tA:=[Keh,.v 0,.v 1,.v 2,.i 0,.v 4]
abbrev VJ:AV:=(.bE [Kei,(.agg [.o 2,.v 14,.o 3]),.o 4,.i 0])
abbrev Qb:tH:=(217,Gr,VJ)
abbrev Gs:tA:=[Keh,.v 0,.v 1,.v 2,.i 1,.v 4]
abbrev Qc:tH:=(217,Gs,VJ)
abbrev Qd:tH:=(217,Gt,(.bE [Kei,KcW,.o 4,.i 0]))
abbrev Qe:tH:=(217,Gt,(.bE [Kei,(.agg [.o 2,.v 19,.o 3]),.o 4,.i 0]))
abbrev Qf:tA:=[Kek,.v 0,.v 1,(.agg [.i 0,.i 0,.i 0,.i 0,.i 0,.i 0,.i 0,.i 0,.i 0,.i 0,(.e [([14],1),([16],-1)])])]
abbrev Qg:tH:=(145,VT,(.bE [KdY,.v 21,.v 22,.i 0]))
abbrev Qh:tC:=[KcE,WV,Kaj]
abbrev Ue:tA:=[Kek,.v 0,(.lit 2 [[.i 0,.v 18],[.i 6,.v 19],[.i 8,.i 0]])]
abbrev Qi:tH:=(92,Ue,Kah)
abbrev Kfc:Nat×Poly:=(0,[([0],1)])
abbrev Kfh:Nat×Poly:=(8,[([],17)])
abbrev Qj:tD:=[Kfc,(7,[([2],2)]),Kfh,(9,[([2],1)]),(10,[([2],1)]),(11,[([2],1)]),(13,[([2],1)]),(14,[([3],1)])]
abbrev Qk:tH:=(145,VT,(.bE [Kei,.v 21,.v 22,.i 0]))
abbrev VX:tA:=[Keh,.v 0,.v 1,.v 2,(.agg [.v 4,.v 17,.v 18])]
abbrev Ql:tH:=(145,VX,(.bE [Kei,.v 19,.v 20,.i 0]))
abbrev Uz:tA:=[Kek,.v 0,(.lit 2 [[.i 8,.v 16],[.i 0,(.e [([16],-1)])]])]
abbrev Qm:tH:=(92,Uz,Kah)
abbrev Uw:tA:=[Kei,.v 0,(.lit 2 [[.i 7,.v 14],Kdx])]
abbrev Qn:tH:=(92,Uw,Kaz)
abbrev Qo:tH:=(145,[Kei,.v 0,.v 1,.v 3,KcW],(.bE [Kej,.v 14,.v 15,.i 0]))
abbrev Ka1:tA:=[(.lit 1 [[.v 4],[.v 5],[.v 6]])]
abbrev Ka2:tA:=[(.lit 1 [[.v 7],[.v 8],[.v 9]])]
abbrev BZ:tA:=[(.lit 1 [[.v 10],[.v 11],[.v 12]])]
abbrev Qq:AV:=(.lit 1 [Ka1,Ka2,BZ])
abbrev Qr:tD:=[Kfe,Kfk,Kfo,(7,[([4],1)]),(8,[([4],1)]),(9,[([4],1)]),(14,[([1],1)]),(20,[([1],1)])]
abbrev V7:tA:=[Keh,.v 0,.v 1,.v 2,(.agg [.v 4,.v 5,.i 0])]
abbrev Qs:tH:=(145,V7,(.bE [Kei,.v 14,.v 15,.i 0]))
abbrev Qt:tG:=[(1,4),KdO,KdO,KdO,Ke8,KdO]
abbrev KeU:tI:=([([14],1)],4,4)
abbrev Qu:tC:=[KcC,KcF,KeU,Dg]
abbrev Qw:tG:=[(0,30),yU,(0,3),(0,30),KdO,KdO,DZ]
abbrev Qx:tM:=[Yd,(.sc 3 1 8 [] [] [([0],1)])]
abbrev Qy:tM:=[Yd,(.sc 3 1 8 [] [] [([1],1)])]
abbrev Qz:tA:=[(sN (.seq 8 0 [([([1],1)],[.o 3,.o 4,.q 4 7,.q 1 8,.q 11 9,.q 1 10,.q 1 13,.q 8 12])] []) (.o 2)),.v 1,.q 2 14]
abbrev Kc7:tA:=[(.e [([],1),([10],1)])]
abbrev Kc8:tA:=[(.e KeI)]
abbrev Kc9:tA:=[(.e [([],1),([14],1)])]
abbrev Kda:tA:=[(.e [([],1),([16],1)])]
abbrev QA:tA:=[(.lit 1 [Kc7,Kc8,Kc9,Kda])]
abbrev Kdb:tA:=[(.e [([],1),([18],1)])]
abbrev Kdc:tA:=[(.e [([],1),([20],1)])]
abbrev QC:tA:=[(.lit 1 [Kdb,Kdc,[(.e [([],1),([22],1)])],[(.e [([],1),([24],1)])]])]
abbrev Kef:Int×Int:=(0,1125899906842624)
abbrev QG:tG:=[Ke8,Kef,Ke8,Kef,Ke8,Kef]
abbrev QH:tA:=[Kd1,.v 0,.v 1,(.agg [.i 0,.i 0,.i 0,.i 0,.i 0,.i 0,.i 0,.i 0,.i 0,(.e [([20],-1)]),.i 0])]
abbrev QI:tA:=[KdX,.v 0,.v 1,(.agg [.i 0,.i 0,.i 0,.i 0,.i 0,.i 0,.i 0,.i 0,.i 0,KeS,.i 0])]
abbrev QJ:tA:=[KdX,.v 0,.v 1,(.agg [.i 0,.i 0,.i 0,.i 0,.i 0,.i 0,.i 0,.i 0,.i 0,(.e [([18],-1)]),.i 0])]
abbrev H7:tA:=[.o 10,.o 11,.o 12,.o 13,.o 14,.o 15,.o 16,.o 17]
abbrev QM:tE:=[(7,[([5],1)],[.v 6]),(4,[([6],1)],H7),(9,[([5],1)],[.o 18])]
abbrev QN:tG:=[(0,30),KdN,(0,29),(0,29),KdO,jB,jB,KdN,jB,jB]
abbrev QO:tA:=[Keg,.v 0,.v 2,(.agg [.o 16,.o 17,.o 18,.o 19,.o 20,.o 21,.o 22,.o 23,.o 24,.o 25,.o 26])]
abbrev QP:tG:=[(1,4),KdO,KdO,KdO,KdO,jB,jB]
abbrev Kd4:AV:=(.e [([],1),([0],1)])
abbrev QQ:AV:=(.bE [(.agg [.o 8,.o 9,.q 1 8,.q 1 9,.q 1 10,.q 8 7,.q 8 11,.q 9 12,.q 6 13,Kd4]),.i 0])
abbrev QR:AV:=(.bE [(.agg [.o 6,.o 7,.q 1 8,.q 1 9,.q 1 10,.q 8 7,.q 8 11,.q 9 12,.q 6 13,Kd4]),.i 0])
abbrev QS:AV:=(.bE [(.agg [.o 7,.o 8,.q 1 8,.q 1 9,.q 1 10,.q 8 7,.q 8 11,.q 9 12,.q 6 13,Kd4]),.i 0])
abbrev QT:AV:=(.bE [(.agg [.o 4,.o 5,.q 1 8,.q 1 9,.q 1 10,.q 8 7,.q 8 11,.q 9 12,.q 6 13,Kd4]),.i 0])
abbrev QU:tA:=[Keh,.v 0,(.lit 2 [[.i 1,.v 19],[.i 6,(.e [([5],1),([19],-1)])],[.i 2,Ke1]])]
abbrev QV:tA:=[(sN (.q 8 8) (.o 2)),.v 3,(.lit 2 [[.i 0,.v 5],[.i 9,(.e [([2],1),([5],-1)])],[.i 2,(.e [([2],-1)])]])]
abbrev QW:tA:=[Keg,(.agg [.v 5,.v 6,.v 7,.o 5,.o 6,.o 7,.o 8,.v 8,KeF]),.v 1,.v 2,.v 3]
abbrev Ke9:Int×Int:=(1,1073741824)
abbrev QX:tG:=[(1,4),Ke9,Ke8,KdO,Kef,Kef]
abbrev QZ:AV:=(.lit 1 [G7,G8])
abbrev Q0:tC:=[KcC,KcF,(Ker,-1152921504606846976,-1)]
abbrev Q1:tG:=[(1,4),KdO,KdO,KdO,KdO]
abbrev VK:AV:=(.agg [.i 0,.i 0,.i 0,.i 0,.v 21,.i 0,.i 0,.i 0,.i 0,.i 0,.i 0])
abbrev Q2:tA:=[KdZ,.v 0,.v 1,VK]
abbrev Q3:tA:=[KdX,.v 0,.v 1,(.agg [.i 0,.i 0,.i 0,.i 0,.i 0,.i 0,.i 0,.i 0,.i 0,.v 16,.i 0])]
abbrev Q4:tH:=(123,[KdX,.v 0,.v 1,.i 1,(.agg [.q 3 12,.o 5,.o 6,.o 7])],KdY)
abbrev KdW:AV:=(sN (.q 8 17) (.o 2))
abbrev Q6:tH:=(123,[Keg,.v 0,.v 2,.v 6,Kbv],KdW)
abbrev Q7:tA:=[Kej,.v 0,.v 1,(.agg [.i 0,.v 14,.i 0,.i 0,.i 0,.i 0,.i 0,.i 0,.i 0,.i 0,.i 0])]
abbrev Q8:tA:=[Kej,.v 0,.v 1,(.agg [.i 0,.i 0,.i 0,.i 0,.i 0,.v 14,.i 0,.i 0,.i 0,.i 0,.i 0])]
abbrev Q9:tA:=[Kej,.v 0,.v 1,(.agg [.i 0,.i 0,.i 0,.i 0,.i 0,.i 0,.i 0,.i 0,.v 14,.i 0,.i 0])]
abbrev Za:tA:=[Kej,.v 0,.v 1,VK]
abbrev Zb:tH:=(123,[Keh,.v 0,.v 1,.v 2,(.agg [.q 3 13,.o 6,.o 4,.o 5])],KdZ)
abbrev Ze:tA:=[Kej,.v 0,.v 1,(.agg [.i 0,.i 0,.i 0,.v 19,.i 0,.i 0,.i 0,.i 0,.i 0,.i 0,.i 0])]
abbrev Zg:tA:=[Kd6,.v 0,.v 1,(.agg [.i 0,.i 0,.i 0,.i 0,.i 0,.v 6,.i 0,.i 0,.v 7,.v 8,.i 0])]
abbrev Zh:tG:=[Ke8,Kef,Ke8,Kef,Ke8,jB,jB]
abbrev Zi:tH:=(123,[Keh,.v 0,.v 1,.i 0,(.agg [.q 3 9,.o 2,.o 3,.o 4])],KdX)
abbrev G5:tA:=[.v 14,KbL,.v 19]
abbrev KbM:AV:=(.agg [.q 3 9,.o 7,.o 8,.o 9])
abbrev Zj:tH:=(150,G5,(.bE [KbM,.v 13]))
abbrev Zk:tH:=(123,[Keh,.v 0,.v 1,.v 2,KbM],KdX)
abbrev Zl:AV:=(.lit 1 [[(.lit 1 [[.v 9],[.v 10]])],[(.lit 1 [[.v 11],[.v 12]])],[(.lit 1 [[.v 13],[.v 14]])]])
abbrev Kbw:AV:=(.agg [.q 3 13,.o 3,.o 4,.o 5])
abbrev De:tA:=[Kbw,.i 0,.v 4]
abbrev Zn:tH:=(218,De,(.bE [(.agg [.q 3 13,.o 6,.o 4,.o 5]),.i 0]))
abbrev Zo:tH:=(150,G5,(.bE [KbM,.i 0]))
abbrev Zp:tH:=(123,[Keg,.v 0,.v 1,.v 2,(.agg [.q 3 8,.i 0,.i 0,.i 0])],(sN (.q 8 9) (.o 2)))
abbrev Zq:AV:=(.lit 1 [D7,Dn])
abbrev Zr:tG:=[Ke8,Kef,Ke8,Kef,Ke8,jB]
abbrev KdR:tJ:=(2,[([0],1)],[.q 1 7])
abbrev Kd0:tJ:=(7,[([1],1)],[.v 14])
abbrev Zs:tE:=[KdR,Kd0,(3,[([0],1)],[.q 1 14]),(14,[([1],1)],[.o 8])]
abbrev Zt:tE:=[KdR,Kd0,(3,[([0],1)],[.q 1 8]),(8,[([1],1)],[.v 18])]
abbrev Zu:tE:=[(0,[([1],1)],[.o 3,Kev,.q 4 7,.q 1 8,.q 11 9,.q 1 10,.q 1 11,(.lit 8 [])])]
abbrev Zv:AV:=(.lit 1 [[(.lit 1 [[.v 3],[.v 4]])],[(.lit 1 [[.v 5],[.v 6]])],[(.lit 1 [[.v 7],[.v 8]])]])
abbrev Zw:AV:=(.bE [(.agg [.o 8,.o 9,.q 1 8,.q 1 9,.q 1 10,.q 8 7,.q 8 11,.q 9 12,.q 6 13,.v 0]),.i 0])
abbrev Zx:AV:=(.bE [(.agg [.o 8,.o 9,.q 1 8,.q 1 9,.q 1 10,.q 8 7,.q 8 11,.q 9 12,.q 6 13,.v 1]),.v 0])
abbrev Zy:AV:=(.bE [(.agg [.o 6,.o 7,.q 1 8,.q 1 9,.q 1 10,.q 8 7,.q 8 11,.q 9 12,.q 6 13,.v 0]),.i 0])
abbrev Zz:AV:=(.bE [(.agg [.o 6,.o 7,.q 1 8,.q 1 9,.q 1 10,.q 8 7,.q 8 11,.q 9 12,.q 6 13,.v 1]),.v 0])
abbrev ZA:AV:=(.bE [(.agg [.o 7,.o 8,.q 1 8,.q 1 9,.q 1 10,.q 8 7,.q 8 11,.q 9 12,.q 6 13,.v 0]),.i 0])
abbrev ZB:AV:=(.bE [(.agg [.o 7,.o 8,.q 1 8,.q 1 9,.q 1 10,.q 8 7,.q 8 11,.q 9 12,.q 6 13,.v 1]),.v 0])
abbrev ZC:AV:=(.bE [(.agg [.o 4,.o 5,.q 1 8,.q 1 9,.q 1 10,.q 8 7,.q 8 11,.q 9 12,.q 6 13,.v 0]),.i 0])
abbrev ZD:AV:=(.bE [(.agg [.o 4,.o 5,.q 1 8,.q 1 9,.q 1 10,.q 8 7,.q 8 11,.q 9 12,.q 6 13,.v 1]),.v 0])
abbrev ZG:tG:=[(1,4),DZ,DZ]
abbrev U5:AV:=(.agg VF)
abbrev ZH:tA:=[U5,.v 1,.v 3,.v 4]
abbrev Kd2:AV:=(.e [([],1),([5],1)])
abbrev KdD:tA:=[Kd2]
abbrev ZI:AV:=(.lit 1 [[.v 5],KdD,[(.e [([],2),([5],1)])],[(.e [([],3),([5],1)])]])
abbrev ZJ:tG:=[Ke8,Kef,Ke8,Kef,Ke8]
abbrev ZL:AV:=(.bE [(.agg [.o 0,.o 1,.q 1 1,.q 1 2,.q 1 15,.q 8 17,.q 8 4,.q 9 5,.q 6 6,.v 7]),.i 0])
abbrev ZM:AV:=(.bE [(.agg [.o 0,.o 1,.q 1 1,.q 1 2,.q 1 3,.q 8 11,.q 8 4,.q 9 12,.q 6 6,.o 2]),.i 0])
abbrev KbF:AV:=(.agg [.q 3 1,.o 0,.o 1,.o 2])
abbrev Kds:AV:=(.agg [.v 4,.v 5,.v 6])
abbrev ZN:AV:=(.bE [KbF,Kds,Kev,.i 0])
abbrev KbE:AV:=(.agg [.q 3 0,.o 0,.o 1,.o 2])
abbrev ZO:AV:=(.bE [KbE,Kdo,Kev,.v 7])
abbrev ZP:AV:=(.bE [KbE,Kdo,Kev,.i 1])
abbrev KbG:AV:=(.agg [.q 3 0,.v 1,.v 2,.v 3])
abbrev ZQ:AV:=(.bE [KbG,Kdo,Kev,.i 5])
abbrev ZS:tD:=[Kfc,(7,[([2],2)]),Kfh,(9,[([2],1)]),(10,[([2],1)]),(11,[([2],1)])]
abbrev ZT:tA:=[(.lit 1 [Kc7,Kc8,Kc9])]
abbrev ZU:tA:=[(.lit 1 [Kda,Kdb,Kdc])]
abbrev ZV:tJ:=(0,[([],1)],[.v 1,KeF,.q 4 13,.q 1 14,.q 11 15,.q 1 16,.q 1 17,.q 8 18])
abbrev ZW:tJ:=(0,[([],2)],[.v 2,KeF,.q 4 19,.q 1 20,.q 11 21,.q 1 22,.q 1 23,.q 8 24])
abbrev ZX:tE:=[(7,[([5],1)],[.v 6]),(4,[([6],1)],[.v 7,.o 10,.o 11,.o 12,.o 13,.o 14,.o 15,.o 16])]
abbrev ZY:tA:=[(sN (.q 8 8) (.o 2)),(.agg H7),.o 18]
abbrev ZZ:tD:=[Kfe,Kfk,Kfo,(7,[([4],1)]),(8,[([4],1)]),(9,[([4],1)])]
abbrev Kfn:Nat×Poly:=(8,[([2],1)])
abbrev Z0:tD:=[Kfe,Kfk,Kfo,(7,[([2],1)]),Kfn,(9,[([2],1)])]
abbrev Z2:tG:=[(1,4),KdO,KdO,KdO,jB,jB]
abbrev Z3:tJ:=(0,[([1],1)],[.v 3,KeF,.q 4 7,.q 1 8,.q 11 9,.q 1 10,.q 1 11,.q 8 12])
abbrev U3:AV:=(.agg [.o 0,.v 0,.q 1 1,.q 1 2,.q 1 3,.q 8 0,.q 8 4,.q 9 5,.q 6 6,.o 2])
abbrev Z4:tA:=[U3,.v 1,.i 0]
abbrev Z5:tA:=[U3,.v 1,.i 1]
abbrev Z6:tA:=[U3,.v 1,.i 2]
abbrev Z7:tA:=[U3,.v 1,.i 3]
abbrev Vf:tA:=[.o 3,KeF,.q 4 7,.q 1 8,.q 11 9,.q 1 10,.q 1 11,.q 8 12]
abbrev Z8:tJ:=(0,[([1],1)],Vf)
abbrev Z9:tF:=[(181,[.o 7,.q 1 8],(.bE [.q 1 9,.i 0])),(181,[.o 8,.q 1 8],(.bE [.q 1 10,.i 0]))]
abbrev Ya:AV:=(.lit 1 [BZ,B0])
abbrev Ye:tC:=[KcD,WU]
abbrev Yf:tE:=[(5,[([6],1)],[.v 0,.v 1,.v 2,.v 14,.v 15,.v 16,.v 17,.v 18,Kev])]
abbrev Ww:AV:=(.agg [.i 11,.i 0,.i 0,.i 0,.o 3,.i 0,.o 4,.i 0,.q 1 7])
abbrev Yh:tH:=(22,[Ww],KeF)
abbrev Yi:tJ:=(9,[([],1)],[.o 14,.o 15,.o 16,.o 17,.o 18,.o 19,.o 20,.o 21,.o 22,.o 23,.o 24])
abbrev Yj:tJ:=(9,[([],2)],[.o 25,.o 26,.o 27,.o 28,.o 29,.o 30,.o 31,.o 32,.o 33,.o 34,.o 35])
abbrev Yk:tJ:=(9,[([],3)],[.o 36,.o 37,.o 38,.o 39,.o 40,.o 41,.o 42,.o 43,.o 44,.o 45,.o 46])
abbrev KaY:tA:=[KdW,.v 0,.v 2]
abbrev Ym:tH:=(88,KaY,(.bE [(.agg [.o 10,.o 11,.o 12]),.i 0]))
abbrev Yn:tH:=(121,[KdW,.v 0,.v 2,.i 0],(.agg [.q 3 18,.o 13,.o 14,.o 15]))
abbrev Yo:tH:=(121,[KdW,.v 0,.v 2,.i 1],(.agg [.q 3 19,.o 16,.o 17,.o 18]))
abbrev Yp:tA:=[Keh,(.agg [.v 0,.v 1,.v 2,.v 15,.o 2,.o 3,.o 4,.v 16]),.v 18]
abbrev Kel:tJ:=(7,[([1],1)],[.v 3])
abbrev Yq:tE:=[Kel,(4,[([3],1)],[.o 3,.o 4,.o 5,.o 6,.o 7,.o 8,.o 9,.o 10])]
abbrev WJ:AV:=(.agg [.i 10,.o 3,.o 4,.i 0,.i 0,.i 0,.o 5,.i 0,.emp])
abbrev Yr:tH:=(22,[WJ],KeF)
abbrev Ys:tA:=[Keg,Ww]
abbrev WK:AV:=(.agg [.i 12,.o 3,.o 4,.o 5,.o 6,.o 7,.o 8,.i 0,.emp])
abbrev Yt:tH:=(22,[WK],KeF)
abbrev WL:AV:=(.agg [.i 13,.i 0,.i 0,.o 3,.i 0,.o 4,.i 0,.o 5,.emp])
abbrev Yu:tH:=(22,[WL],KeF)
abbrev WM:AV:=(.agg [.i 14,.o 3,.i 0,.i 0,.i 0,.i 0,.i 0,.i 0,.emp])
abbrev Yv:tH:=(22,[WM],KeF)
abbrev WN:AV:=(.agg [.i 15,.o 3,.i 0,.i 0,.i 0,.i 0,.i 0,.i 0,.emp])
abbrev Yw:tH:=(22,[WN],KeF)
abbrev WO:AV:=(.agg [.i 16,.o 3,.i 0,.i 0,.i 0,.i 0,.i 0,.i 0,.emp])
abbrev Yx:tH:=(22,[WO],KeF)
abbrev Yy:tA:=[Keg,(.agg H6)]
abbrev Yz:tA:=[U3,.v 1]
abbrev YA:tA:=[U5,.v 1]
abbrev YB:tM:=[Gp,(.sc 50 9 4 [] [] [([1],1)])]
abbrev YD:AV:=(.agg [.o 6,.o 7,.q 1 12,.q 1 13,.q 1 14,.q 8 11,.q 8 15,.q 9 16,.q 6 17,.o 8])
abbrev YE:AV:=(.agg [.o 5,.o 6,.q 1 11,.q 1 12,.q 1 13,.q 8 10,.q 8 14,.q 9 15,.q 6 16,.o 7])
abbrev YF:tE:=[(9,[([2],1)],[.o 5,.o 6,.o 7,.o 8,.o 9,.o 10,.o 11,.o 12,.o 13,.o 14,.o 15])]
abbrev WZ:AV:=(.agg [.i 1,.o 3,.o 4,.o 5,.i 0,.o 6,.o 7,.i 0,.emp])
abbrev YI:tH:=(22,[WZ],KeF)
abbrev W5:AV:=(.agg [.i 2,.i 0,.i 0,.i 0,.i 0,.o 3,.o 4,.o 5,.emp])
abbrev YJ:tH:=(22,[W5],KeF)
abbrev W6:AV:=(.agg [.i 3,.i 0,.i 0,.i 0,.i 0,.o 3,.i 0,.o 4,.emp])
abbrev YK:tH:=(22,[W6],KeF)
abbrev W7:AV:=(.agg [.i 4,.o 3,.o 4,.o 5,.i 0,.o 6,.o 7,.i 0,.emp])
abbrev YL:tH:=(22,[W7],KeF)
abbrev W8:AV:=(.agg [.i 5,.i 0,.i 0,.i 0,.i 0,.o 3,.o 4,.o 5,.emp])
abbrev YM:tH:=(22,[W8],KeF)
abbrev W9:AV:=(.agg [.i 6,.o 3,.o 4,.o 5,.i 0,.o 6,.i 0,.i 0,.emp])
abbrev YN:tH:=(22,[W9],KeF)
abbrev Ha:AV:=(.agg [.i 7,.o 3,.o 4,.o 5,.i 0,.o 6,.i 0,.i 0,.emp])
abbrev YO:tH:=(22,[Ha],KeF)
abbrev Hb:AV:=(.agg [.i 8,.o 3,.o 4,.o 5,.o 6,.o 7,.i 0,.i 0,.emp])
abbrev YP:tH:=(22,[Hb],KeF)
abbrev Hc:AV:=(.agg [.i 9,.o 3,.o 4,.i 0,.i 0,.i 0,.o 5,.i 0,.emp])
abbrev YQ:tH:=(22,[Hc],KeF)
abbrev YR:tA:=[.o 3,Kev,.q 4 10,.q 1 11,.q 11 12,.q 1 13,.q 1 14,(.lit 8 [])]
abbrev YS:AV:=(.lit 1 [Ka1,Ka2])
abbrev BB:tA:=[Keg,.v 0,.v 1,.i 0]
abbrev KaW:AV:=(.agg [.q 3 7,.o 12,.o 13,.o 14])
abbrev YT:tH:=(112,BB,KaW)
abbrev BC:tA:=[Keg,.v 0,.v 1,.i 1]
abbrev KaX:AV:=(.agg [.q 3 8,.o 15,.o 16,.o 17])
abbrev YU:tH:=(112,BC,KaX)
abbrev YV:tH:=(121,BB,KaW)
abbrev YW:tH:=(121,BC,KaX)
abbrev WI:AV:=(.agg [.i 12,.v 0,.v 1,.v 2,.v 3,.v 4,.v 5,.i 0,.emp])
abbrev YX:tA:=[Keh,WI]
abbrev YY:tA:=[Keh,(.agg [.i 13,.i 0,.i 0,.v 2,.i 0,.v 4,.i 0,.v 6,.emp])]
abbrev YZ:tA:=[Keg,(.agg [.i 10,.v 0,.v 2,.i 0,.i 0,.i 0,.v 6,.i 0,.emp])]
abbrev Y0:tA:=[Keg,WJ]
abbrev Y1:tA:=[Keg,WK]
abbrev Y2:tA:=[Keg,WL]
abbrev Y3:tA:=[Keg,WM]
abbrev Y4:tA:=[Keg,WN]
abbrev Y5:tA:=[Keg,WO]
abbrev Y6:tA:=[Keh,(.agg [.i 1,.v 0,.v 1,.v 2,.i 0,.v 4,.v 5,.i 0,.emp])]
abbrev Y7:tA:=[Keh,(.agg [.i 4,.v 0,.v 1,.v 2,.i 0,.v 4,.v 5,.i 0,.emp])]
abbrev Y8:tA:=[Keh,(.agg [.i 6,.v 0,.v 1,.v 2,.i 0,.v 4,.i 0,.i 0,.emp])]
abbrev WS:AV:=(.agg [.i 8,.v 0,.v 1,.v 2,.v 3,.v 4,.i 0,.i 0,.emp])
abbrev Y9:tA:=[Keh,WS]
abbrev Ua:tA:=[Keh,(.agg [.i 5,.i 0,.i 0,.i 0,.i 0,.v 4,.v 5,.v 6,.emp])]
abbrev Ub:tA:=[Keh,(.agg [.i 2,.i 0,.i 0,.i 0,.i 0,.v 4,.v 5,.v 6,.emp])]
abbrev Uc:tA:=[Keh,(.agg [.i 3,.i 0,.i 0,.i 0,.i 0,.v 4,.i 0,.v 6,.emp])]
abbrev Ud:tA:=[Keh,(.agg [.i 7,.v 0,.v 1,.v 2,.i 0,.v 4,.i 0,.i 0,.emp])]
abbrev Uf:tA:=[Keh,(.agg [.i 9,.v 0,.v 1,.i 0,.i 0,.i 0,.v 5,.i 0,.emp])]
abbrev Ug:tH:=(121,[KdX,.v 0,.v 1,.i 1],(.agg [.q 3 11,.o 5,.o 6,.o 7]))
abbrev Uh:tA:=[(.agg [.i 11,.i 0,.i 0,.i 0,.v 0,.i 0,.v 1,.i 0,(.lit 1 [[.v 2],[.v 3]])])]
abbrev Ui:tA:=[Keg,WZ]
abbrev Uj:tA:=[Keg,W5]
abbrev Uk:tA:=[Keg,W6]
abbrev Ul:tA:=[Keg,W7]
abbrev Um:tA:=[Keg,W8]
abbrev Uo:tA:=[Keg,W9]
abbrev Uq:tA:=[Keg,Ha]
abbrev Ur:tA:=[Keg,Hb]
abbrev Us:tA:=[Keg,Hc]
abbrev BA:tA:=[Keg,.v 0,.v 2,.v 6]
abbrev Uv:tH:=(121,BA,Kbu)
abbrev Ux:tH:=(121,BI,Kbw)
abbrev UA:tA:=[.o 13,.o 14,.q 1 11,.q 1 12,.q 1 13,.q 8 14,.q 8 15,.q 9 16,.q 6 17,.o 15]
abbrev UB:tA:=[.o 13,.o 14,.q 1 12,.q 1 13,.q 1 14,.q 8 15,.q 8 16,.q 9 17,.q 6 18,.o 15]
abbrev GN:Poly:=[([1],-1),([2],-1),([3],-1),([4],1),([7],-1)]
abbrev UC:tC:=[(GN,-18446744073709551616,-1)]
abbrev UD:tG:=[Ke8,Ke8,jB,jB,(0,100),jB,jB,jB,jB,(-100,100)]
abbrev UE:tA:=[KdZ,.v 0,(.lit 2 [[.i 4,.v 5],[.i 3,Ke1]])]
abbrev GE:tA:=[.v 0,.v 1,.v 2,.v 14,.v 15,.v 16,.v 17,.v 18]
abbrev Wd:tA:=[(.agg GE),.v 4]
abbrev UF:tH:=(223,Wd,(.v 19))
abbrev UG:tH:=(223,Wd,(.v 20))
abbrev UH:tG:=[Ke8,Kef,jB,Kef,jB,jB,jB]
abbrev KbH:AV:=(.agg [.q 3 8,.o 2,.o 3,.o 4])
abbrev UI:tH:=(121,BI,KbH)
abbrev UJ:tH:=(121,BI,(.agg [.q 3 8,.o 5,.o 6,.o 7]))
abbrev KbI:AV:=(.agg [.q 3 9,.o 4,.o 5,.o 6])
abbrev UK:tH:=(121,BI,KbI)
abbrev KbJ:AV:=(.agg [.q 3 8,.o 4,.o 5,.o 6])
abbrev UL:tH:=(121,BI,KbJ)
abbrev KbK:AV:=(.agg [.q 3 8,.o 3,.o 4,.o 5])
abbrev UM:tH:=(121,BI,KbK)
abbrev UN:tH:=(121,[Keh,.v 0,.v 1,.i 0],KbH)
abbrev BL:tA:=[Keg,.v 0,.v 1,.v 2]
abbrev UQ:tH:=(121,BL,(.agg [.q 3 7,.v 3,.v 4,.v 5]))
abbrev Vt:tA:=[.o 0,.o 1,.q 1 1,.q 1 2,.q 1 3,.q 8 10,.q 8 4,.q 9 11,.q 6 6,.o 2]
abbrev UR:AV:=(.agg Vt)
abbrev US:tJ:=(0,[([],2)],[.o 9,.o 10,.q 4 22,.q 1 23,.q 11 24,.q 1 25,.q 1 26,.q 8 27])
abbrev U8:AV:=(.agg [.o 2,.o 3,.q 1 4,.q 1 5,.q 1 6,.q 8 3,.q 8 7,.q 9 8,.q 6 9,.o 4])
abbrev UT:tA:=[U8]
abbrev Kcq:tI:=([([6],-1),([10],1)],1,40)
abbrev UU:tC:=[Kcq,([([4],1),([14],-1)],-1152921504606846976,0)]
abbrev UV:tE:=[(0,[([1],1)],[.v 4,.o 4,.q 4 7,.q 1 8,.q 11 9,.q 1 10,.q 1 11,.q 8 12])]
abbrev Wn:tA:=[.o 3,.o 4,.q 4 7,.q 1 8,.q 11 9,.q 1 10,.q 1 11,.q 8 12]
abbrev Vb:tJ:=(0,[([1],1)],Wn)
abbrev UW:tE:=[Vb]
abbrev UX:AV:=(.agg VB)
abbrev UY:tJ:=(0,[([],1)],[.o 6,.o 7,.q 4 16,.q 1 17,.q 11 18,.q 1 19,.q 1 20,.q 8 21])
abbrev UZ:tJ:=(0,[([],1)],[.o 6,.o 7,.q 4 13,.q 1 14,.q 11 15,.q 1 16,.q 1 17,.q 8 18])
abbrev U0:AV:=(.agg [.o 3,.o 4,.q 1 5,.q 1 6,.q 1 7,.q 8 4,.q 8 8,.q 9 9,.q 6 10,.o 5])
abbrev U1:tC:=[KcE,GZ]
abbrev Ket:Poly:=[([0],1),([1],-1)]
abbrev KcI:tI:=(Ket,1,60)
abbrev KeA:Poly:=[([2],1),([3],-1)]
abbrev U2:tC:=[KcI,([([3],1)],0,100),(KeA,1,100)]
abbrev Kfm:Nat×Poly:=(5,[([0],1)])
abbrev U4:tD:=[Kfm,(7,[([1],1)]),(10,[([0],1)]),(8,[([1],1)]),(9,[([1],1)])]
abbrev U6:AV:=(.agg [.o 0,.o 1,.q 1 1,.q 1 2,.q 1 3,.q 8 9,.q 8 4,.q 9 8,.q 6 6,.o 2])
abbrev U9:tC:=[(GN,0,1152921504606846976)]
abbrev Va:tA:=[.o 3,Kev,.q 4 7,.q 1 8,.q 11 9,.q 1 10,.q 1 11,.q 8 12]
abbrev Kfd:Nat×Poly:=(1,[([0],1)])
abbrev Kfl:Nat×Poly:=(0,[([1],1)])
abbrev Kfi:Nat×Poly:=(7,[([0],1)])
abbrev Vc:tD:=[Kfd,Kfl,Kfi,Kfn,(9,[([3],1)])]
abbrev Vd:tD:=[Kfd,Kfl,Kfi,Kfn,(9,[([],17)])]
abbrev Ve:tC:=[KcC,KcF,KeU]
abbrev Vg:tA:=[.v 0,KeF,.q 4 7,.q 1 8,.q 11 9,.q 1 10,.q 1 11,.q 8 12]
abbrev Kat:tH:=(45,[.q 2 1],(.bE [.q 2 2,.i 0]))
abbrev Vh:tF:=[Kat,(200,[.q 2 2],KeF)]
abbrev Bs:tA:=[.v 17,KcX,.v 16]
abbrev Vi:tH:=(148,Bs,(.bE [.v 18,.o 3,.i 0]))
abbrev Vj:tG:=[(1,30),Ke8,KdO,KdO]
abbrev Vk:tG:=[(1,40),(0,40),Kef,(0,3),(0,4),Kef]
abbrev Vl:tA:=[.o 3,.o 4,.q 1 8,.q 1 9,.q 1 10,.q 8 7,.q 8 11,.q 9 12,.q 6 13,.o 5]
abbrev BJ:tA:=[KcX,.v 18,.i 1]
abbrev Vm:tH:=(148,BJ,(.bE [.v 19,.o 3,.i 0]))
abbrev Vo:tG:=[(1,40),(0,40),Kef,(0,3),(0,4),(0,39),(0,39),(0,3)]
abbrev Vp:tE:=[(5,[([1],1)],HC)]
abbrev Vr:tE:=[(5,[([6],1)],[.v 0,.v 1,.v 2,.v 14,.v 15,.v 16,.v 17,.v 18,.o 2])]
abbrev Kdr:AV:=(.agg [.o 3,.o 4,.o 6])
abbrev Vu:tA:=[.i 1,.o 5,KbE,Kdr]
abbrev Vv:tA:=[.i 2,.o 5,KbE,Kdr]
abbrev Vw:tA:=[.i 3,.o 5,KbE,Kdr]
abbrev Vx:tA:=[.i 4,.v 3,KbE,(.agg [.v 1,.v 2,.o 3])]
abbrev Kff:tA:=[.q 3 0,.v 1]
abbrev Vy:tF:=[(215,Kff,(.bE [.q 3 1,Kds,.i 0]))]
abbrev Vz:tF:=[(215,Kff,(.bE [.q 3 1,Kds,.v 7]))]
abbrev VA:tF:=[VQ]
abbrev Kdn:AV:=(.agg [.o 3,.o 4,.o 5])
abbrev VC:tH:=(146,[KaW],Kdn)
abbrev Kdw:AV:=(.agg [.o 6,.o 7,.o 8])
abbrev VD:tH:=(146,[KaX],Kdw)
abbrev VG:AV:=(.lit 1 [[(.lit 1 [[.v 7],[.v 8]])],[(.lit 1 [[.v 9],[.v 10]])]])
abbrev VH:AV:=(.lit 1 [[.v 5],KdD,[(.e [([],2),([5],1)])]])
abbrev KcG:AV:=(.agg [.v 16,.v 17,.o 2])
abbrev VL:tH:=(146,[KbI],KcG)
abbrev VM:tH:=(146,[KbJ],KcG)
abbrev VN:tH:=(146,[KbK],KcG)
abbrev VO:tF:=[(146,[KbE],Kdn)]
abbrev VP:tA:=[.o 4,.o 5,.q 4 13,.q 1 14,.q 11 15,.q 1 16,.q 1 17,(.lit 8 [])]
abbrev VS:AV:=(.lit 1 [[(.lit 1 [[.v 3],[.v 4]])],[(.lit 1 [[.v 5],[.v 6]])]])
abbrev VV:tG:=[Ke8,Ke8,jB,jB,(0,100),jB,jB,jB,jB]
abbrev VZ:tE:=[(4,[([6],1)],GE)]
abbrev V1:tA:=[(.lit 1 [Kc7,Kc8])]
abbrev V2:tA:=[(.lit 1 [Kc9,Kda])]
abbrev Kas:tA:=[(.seq 3 0 [] [[.v 1,.v 2,.o 0]])]
abbrev V3:tF:=[(199,Kas,Kev)]
abbrev Kbh:tA:=[.q 3 0,Kdr]
abbrev Kee:AV:=(.bE [.q 3 1,.i 0])
abbrev V4:tF:=[(226,Kbh,Kee)]
abbrev V5:tF:=[(226,Kbh,(.bE [.q 3 1,.v 2]))]
abbrev V6:tA:=[Keg,.v 0,.v 2,.v 6,(.agg [.o 8,.v 7,.o 9])]
abbrev V8:tG:=[(1,40),(0,40),Kef,(0,39),(0,3),(0,4),(0,1)]
abbrev V9:tG:=[(0,4),(0,3),(0,4),(-2,3),(0,100),(0,3),(0,4),(-2,3),(0,100)]
abbrev Wa:tA:=[Keg,.o 3,.o 4,.o 5,Kdw]
abbrev Wb:tF:=[(72,[(.lit 1 [[.o 5],[.o 8],[.o 11]])],(.bE [.o 12,.i 0]))]
abbrev Wc:tI:=([([7],-1),([10],1)],-288230376151711744,288230376151711744)
abbrev We:tA:=[.o 3,.o 4,.o 5,.o 6,.o 7,.o 8,.o 9,.o 10,.o 11,.o 12,.o 13]
abbrev Wf:tA:=[.o 3,.o 4,.q 4 10,.q 1 11,.q 11 12,.q 1 13,.q 1 14,.q 8 15]
abbrev KcA:Int×Int:=(-9223372036854775808,-1)
abbrev Wg:tG:=[(0,30),Kdp,KcA]
abbrev Wh:tH:=(199,Kas,KeF)
abbrev Wi:tG:=[Ke8,Ke8,jB,jB,(0,100),(-100,100)]
abbrev Wk:tD:=[Kfc,Kfe,(2,[([],17)]),(15,[([0],1)])]
abbrev Wl:tD:=[Kfc,Kfd,(2,[([0],1)]),(3,[([0],1)])]
abbrev Kcb:Mc.dI:=(.sc 3 1 0 [] [] [([],17)])
abbrev Wm:tM:=[Kcb,(.sc 3 1 2 [] [] [([],17)])]
abbrev Wo:tD:=[Kfc,(1,[([2],1)]),(2,[([0],1)]),(9,[([2],1)])]
abbrev Wp:tD:=[Kfd,Kfl,(6,[([2],1)]),(7,[([7],1)])]
abbrev Wq:tD:=[Kfd,Kfl,Kfi,Kfn]
abbrev Kdq:Int×Int:=(0,9223372036854775807)
abbrev Wr:tG:=[(0,29),Kdp,Kdq]
abbrev Ws:tG:=[(0,30),Kdp,Kdq]
abbrev Wu:tD:=[(18,[([9],1)]),(19,[([10],1)]),(20,[([9],1),([10],1)])]
abbrev Wv:tA:=[WI]
abbrev Wz:tA:=[(.agg [.o 0,.o 1,.o 2,.o 3,.o 4,.v 0,.v 2,.o 5]),.v 1]
abbrev WB:tA:=[(.agg [.i 7,.v 0,.v 1,.v 2,.i 0,.v 3,.i 0,.i 0,.emp])]
abbrev WC:tA:=[WS]
abbrev WD:tG:=[(0,3),(0,4),(0,1),(0,3),Ke9,Ke8]
abbrev DL:tA:=[.v 4,.v 5,.v 6,.o 4,.o 5,.o 6,.o 7,.o 8]
abbrev WE:tJ:=(4,[([3],1)],DL)
abbrev WF:tF:=[(198,[.q 3 0],(.bE [(.agg [.v 2,.o 0,.o 1]),.i 0]))]
abbrev Hk:tH:=(198,[.q 3 0],(.bE [Kds,.i 0]))
abbrev WG:tF:=[Hk]
abbrev Bz:AV:=(.bE [Kdn,.i 0])
abbrev WH:tF:=[(198,[.q 3 0],Bz)]
abbrev KcB:AV:=(.agg [.o 9,.o 10,.o 11])
abbrev WQ:AV:=(.bE [KcB,Kev])
abbrev WR:tA:=[.v 4,.v 5,Kbu,.v 7,.v 8]
abbrev WW:tC:=[KcC,KcF]
abbrev KcK:tI:=([([0],1),([5],-1)],1,40)
abbrev KcL:tI:=([([1],1),([6],-1)],1,40)
abbrev Hf:tC:=[KcK,KcL]
abbrev KcZ:tI:=([([1],-1),([2],1)],1,4)
abbrev Hg:tC:=[KcZ,([([0],1),([3],-1)],1,200)]
abbrev Hh:tF:=[(36,[Keg,.v 3],(.bE [.v 4,.i 0]))]
abbrev Hi:tA:=[.i 1,.o 3,KbE,.v 2,.v 1]
abbrev Hj:tA:=[.i 2,.o 3,KbE,.v 2,.v 1]
abbrev Hl:tA:=[.i 3,.o 0,KbG,.i 0,.v 7]
abbrev Hm:tA:=[.i 3,.o 0,KbG,.i 1,.v 7]
abbrev Hn:tA:=[.i 3,.o 0,KbG,.i 2,.v 7]
abbrev Ho:tA:=[.i 3,.o 0,KbG,.i 3,.v 7]
abbrev Hp:tA:=[.i 4,.v 1,KbE,.v 3,.v 2]
abbrev Hq:tH:=(169,[.q 3 7],Bz)
abbrev Hr:tH:=(169,[.q 3 8],(.bE [Kdw,.i 0]))
abbrev Hu:tG:=[Ke8,Ke8,Kef]
abbrev Hv:tH:=(221,[.v 14,KbH],(.v 15))
abbrev Hw:tH:=(221,[.v 14,(.agg [.q 3 8,.o 5,.o 6,.o 7])],(.v 15))
abbrev Hx:tH:=(221,[.v 14,KbI],(.v 15))
abbrev Hy:tH:=(221,[.v 14,KbJ],(.v 15))
abbrev Hz:tH:=(221,[.v 14,KbK],(.v 15))
abbrev HA:tH:=(198,[.q 3 0],(.bE [(.agg [.o 0,.v 2,.o 1]),.i 0]))
abbrev HB:tG:=[(0,40),(0,39),(0,40),Ke8,Ke8]
abbrev HD:tA:=[.o 5,.o 6,.o 7,.o 8,.o 9,.o 10,.o 11,.o 12,.q 1 11]
abbrev Kcp:tA:=[(.lit 1 [[.o 5],[.o 8]])]
abbrev Kex:AV:=(.bE [.o 9,.i 0])
abbrev HE:tF:=[(72,Kcp,Kex)]
abbrev Kco:tA:=[(.lit 1 [[.o 4],[.o 7]])]
abbrev HF:tH:=(72,Kco,(.bE [.o 10,.i 0]))
abbrev HG:tH:=(72,Kcp,(.bE [.o 11,.i 0]))
abbrev HH:tH:=(72,Kco,(.bE [.o 10,.i 2]))
abbrev HI:tH:=(72,Kcp,(.bE [.o 11,.i 2]))
abbrev HJ:tH:=(81,Kco,(.bE [.o 10,.i 0]))
abbrev HK:tH:=(81,Kcp,(.bE [.o 11,.i 0]))
abbrev HL:tH:=(81,Kcp,(.bE [.o 11,.i 2]))
abbrev HM:tH:=(81,Kco,(.bE [.o 10,.i 2]))
abbrev HN:tC:=[([([3],1),([4],1),([5],1)],1,1152921504606846976)]
abbrev Kc0:tI:=(Ket,1,4)
abbrev HO:tC:=[Kc0,([([2],1),([4],-1)],1,5)]
abbrev HP:tC:=[Kc0,(KeA,1,5)]
abbrev HQ:tC:=[([([0],1),([5],-1)],1,3),([([1],1),([7],-1)],1,4)]
abbrev Kcn:tA:=[(.lit 1 [[.o 3],[.o 6]])]
abbrev HR:tH:=(72,Kcn,Kex)
abbrev HS:tH:=(72,Kcn,(.bE [.o 9,.i 2]))
abbrev HT:tH:=(81,Kcn,Kex)
abbrev HU:tH:=(81,Kcn,(.bE [.o 9,.i 2]))
abbrev HV:tE:=[(6,[([6],1)],[.v 3,.v 0,.v 1,.v 14,.v 15,.v 16])]
abbrev HW:tG:=[(1,40),(0,40),Kef,(0,39),(0,39)]
abbrev KdT:tA:=[Keg]
abbrev Keo:AV:=(.bE [.q 2 8,.i 0])
abbrev HX:tF:=[(35,KdT,Keo)]
abbrev HY:AV:=(.bE [KbF,.i 0,.i 0])
abbrev HZ:AV:=(.bE [KbE,.i 0,.v 2])
abbrev H3:AV:=(.bE [KbE,.i 0,.i 1])
abbrev H4:AV:=(.bE [KbE,.i 0,.i 2])
abbrev H5:tG:=[(0,3),(0,4),(0,1),Ke9,Ke8]
abbrev H8:tG:=[(0,4),(0,3),(1,40),(0,39),(0,3),(0,100),(0,100)]
abbrev H9:tA:=[.o 3,.o 4,.o 5,.o 6,.o 7,.o 8,.o 9,.o 10,.q 1 5]
abbrev Ga:tA:=[.o 5,.o 6,.o 7,.o 8,.o 9,.o 10,.o 11,.o 12,.emp]
abbrev Gb:tE:=[(1,[([1],1)],[.v 2,.o 0]),(2,[([2],1)],[.o 1])]
abbrev KeG:Poly:=[([2],2),([6],1)]
abbrev Gc:tE:=[(7,KeG,[.q 3 15,.o 5,.o 6,.o 7])]
abbrev Gd:tH:=(222,[.q 3 11,.v 5],(.bE [.q 3 12,.v 16,.i 0]))
abbrev Ge:tG:=[(1,40),(0,40),Kef,(0,3),(0,4)]
abbrev Kc6:Poly:=[([],1),([6],1),([8],1)]
abbrev Gg:tK:=(1,Kc6,[([],4)],[([16],1)])
abbrev Gh:tK:=(1,Kc6,[([],4)],[([18],1)])
abbrev Gi:tK:=(1,[([],2),([6],1),([8],1)],[([],4)],[([20],1)])
abbrev Gj:tK:=(1,Kc6,[([],4)],[([20],1)])
abbrev Gk:tK:=(1,[([],2),([6],1),([8],1)],[([],4)],[([22],1)])
abbrev Gl:tK:=(1,[([],3),([6],1),([8],1)],[([],4)],[([24],1)])
abbrev Gq:tA:=[Keg,.v 0,.v 2,.v 6,.v 7,.v 8]
abbrev Gv:tG:=[Ke8,Ke8,jB,jB,(0,100)]
abbrev Gw:tG:=[KdN,KdN]
abbrev Gx:tA:=[.o 3,.o 4,.o 5,.o 6,.o 7,.o 8,.o 9,.o 10,.emp]
abbrev Gy:tE:=[(6,[([5],1)],[.o 3,.o 4,.v 6,.o 5,.o 6,.o 7])]
abbrev Gz:tH:=(148,[.v 1,.v 3,.i 1],(.bE [.v 4,.o 4,.i 0]))
abbrev GA:tG:=[(0,30),KdO,Ke9]
abbrev GB:tF:=[(89,[Keh,.v 0,.v 1],(.i 7))]
abbrev GD:tF:=[GX]
abbrev GG:tE:=[KdR,Kd0]
abbrev GH:tH:=(222,[.q 3 8,.v 5],(.bE [.q 3 9,.v 15,.i 0]))
abbrev GI:tA:=[(.agg [.v 0,.o 0,.q 1 0,.q 1 1,.q 1 2]),.o 1]
abbrev GJ:tA:=[Bi,.o 2]
abbrev GK:tG:=[(0,4),(1,5),(0,4),(0,40),(0,44),(0,39),(0,4)]
abbrev GP:tD:=[Kfh,(10,[([3],1)]),(11,[([3],1)])]
abbrev GR:tE:=[(2,[([1],1)],[.q 1 9]),(9,[([3],1)],[.i 3])]
abbrev GU:tE:=[(2,[([1],1)],[.q 1 9]),(9,[([3],1)],[.v 4])]
abbrev GV:tG:=[(1,5),(1,4),(0,12),(0,16),jB,(0,11),(0,16)]
abbrev GW:AV:=(.bE [Keg,.i 0,.i 0,.i 2])
abbrev GY:tC:=[([([6],1),([8],-1)],0,1152921504606846976)]
abbrev G4:AV:=(.bE [KbE,.i 2])
abbrev G9:tA:=[(.lit 1 [[.v 11],[.v 13],[.v 15],[.v 17]])]
abbrev Da:tA:=[(.lit 1 [[.v 19],[.v 21],[.v 23],[.v 25]])]
abbrev Db:tC:=[(Ket,1,9223372036854775807)]
abbrev Dc:tC:=[([([1],-1),([2],1)],0,288230376151711744)]
abbrev Dd:tD:=[(0,[([],17)]),(2,[([],17)]),Kfd]
abbrev Df:tI:=([([4],1),([16],-1)],1,1152921504606846976)
abbrev Dh:tD:=[Kfi,(8,[([1],1)]),(4,[([2],1)])]
abbrev Di:tD:=[Kfi,(4,[([1],1)]),(9,[([0],1)])]
abbrev Dj:tD:=[Kfc,(5,[([2],1)]),(12,[([],1)])]
abbrev Dk:tD:=[Kfc,(7,[([2],1)]),(5,[([2],1)])]
abbrev Dl:tD:=[Kfm,(7,[([2],1)]),Kfn]
abbrev Dm:tD:=[Kfm,(7,[([1],1)]),(8,[([1],1)])]
abbrev Do:tD:=[Kfe,Kfk,Kfo]
abbrev Dp:tD:=[Kfc,Kfd,(2,[([0],1)])]
abbrev Dq:tD:=[Kfd,Kfl,(6,[([2],1)])]
abbrev Dt:tD:=[Kfc,Kfe,(2,[([],17)])]
abbrev Du:tA:=[(.agg [.q 3 0,.v 1,.o 1,.o 2]),.i 0,.v 2]
abbrev Dw:tA:=[.v 1,KbE,.v 2]
abbrev Dx:AV:=(.bE [Kd1,.v 19,.v 13])
abbrev Dy:tK:=(1,[([],14),([9],1)],[([],40)],[([15],1)])
abbrev Dz:tK:=(1,[([],15),([9],1)],[([],40)],[([21],1)])
abbrev DA:tK:=(1,[([],21),([9],1)],[([],40)],[([17],1)])
abbrev DB:tK:=(1,[([],15),([9],1)],[([],40)],[([23],1)])
abbrev DC:tK:=(1,[([],22),([9],1)],[([],40)],[([25],1)])
abbrev DD:tK:=(1,[([],1),([16],1)],[([],12)],[([17],1)])
abbrev DE:AV:=(.bE [(.agg Kec),.i 9])
abbrev DG:AV:=(.bE [(.agg Kec),.i 8])
abbrev Keu:Poly:=[([1],1),([4],-1)]
abbrev DH:tI:=(Keu,1,288230376151711744)
abbrev DI:tI:=([([2],-1),([8],1)],0,288230376151711744)
abbrev DJ:tG:=[Ke8,Kef,jB]
abbrev DK:AV:=(.bE [Kd1,.v 19,.i 0])
abbrev DM:tK:=(1,[([],7),([9],1)],[([],40)],[([13],1)])
abbrev DN:tK:=(1,[([6],1),([8],1)],[([],4)],[([14],1)])
abbrev KeX:Poly:=[([],1),([9],1)]
abbrev DO:tK:=(1,KeX,[([],40)],[([15],1)])
abbrev DP:tK:=(1,[([],8),([9],1)],[([],40)],[([17],1)])
abbrev DQ:AV:=(.lit 1 [[.v 5],KdD])
abbrev DR:tK:=(1,[([6],1),([8],1)],[([],4)],[([16],1)])
abbrev DS:tK:=(1,KeX,[([],40)],[([17],1)])
abbrev DT:tK:=(1,[([],8),([9],1)],[([],40)],[([19],1)])
abbrev DU:tK:=(1,[([6],1),([8],1)],[([],4)],[([18],1)])
abbrev DV:tK:=(1,KeX,[([],40)],[([19],1)])
abbrev DW:tK:=(1,[([],8),([9],1)],[([],40)],[([21],1)])
abbrev DY:Int×Int:=(288230376151711745,9223372036854775807)
abbrev D4:AV:=(.bE [Keh,.i 0,.v 13])
abbrev D5:tG:=[(0,3),(0,4),(0,1),(0,1),Ke9]
abbrev D8:tK:=(1,[([],1),([6],1)],[([],4)],[([12],1)])
abbrev D9:tK:=(1,[([],2),([6],1)],[([],4)],[([14],1)])
abbrev Bb:tK:=(1,[([],3),([6],1)],[([],4)],[([16],1)])
abbrev Bc:AV:=(.bE [.agg Kec,.i 9])
abbrev Be:AV:=(.bE [.agg Kec,.i 8])
abbrev Bf:AV:=(.bE [KcB,.i 2])
abbrev Bg:AV:=(.bE [Keh,.i 0,.i 0])
abbrev Bl:AV:=(.agg [.o 1,.o 2,.q 1 1,.q 1 2,.q 1 3])
abbrev Bm:tG:=[(0,30),KdN,(0,30)]
abbrev Bn:tH:=(83,[.o 10,.o 21],(.bE [.o 32,.i 0]))
abbrev Bo:tH:=(83,[.o 11,.o 22],(.bE [.o 33,.i 0]))
abbrev Bp:tH:=(83,[.o 12,.o 23],(.bE [.o 34,.i 0]))
abbrev Bq:tH:=(83,[.o 13,.o 24],(.bE [.o 35,.i 0]))
abbrev Br:tH:=(83,[.o 14,.o 25],(.bE [.o 36,.i 0]))
abbrev Bu:tG:=[Ke9,Ke8,(0,39)]
abbrev Bv:AV:=(.lit 1 [[.v 1],[.v 2],[.v 3],[.v 4]])
abbrev Bx:AV:=(.bE [(.agg KeN),.i 0])
abbrev KcU:Int×Int:=(-9223372036854775808,0)
abbrev By:tG:=[(0,30),KcU,yU]
abbrev BD:tH:=(83,[.o 5,.o 16],(.bE [.o 27,.i 0]))
abbrev BE:tH:=(83,[.o 6,.o 17],(.bE [.o 28,.i 0]))
abbrev BF:tH:=(83,[.o 7,.o 18],(.bE [.o 29,.i 0]))
abbrev BG:tH:=(83,[.o 8,.o 19],(.bE [.o 30,.i 0]))
abbrev BH:tH:=(83,[.o 9,.o 20],(.bE [.o 31,.i 0]))
abbrev BK:tG:=[(1,30),(1,3),KdO]
abbrev BM:tF:=[(14,[.o 1,.i 1099511627776],(.v 2))]
abbrev BP:tC:=[([([2],-2),([3],2),([6],-1)],1,10)]
abbrev BQ:tH:=(45,[.q 2 15],(.bE [.q 2 16,.i 0]))
abbrev BR:AV:=(.bE [KdZ,.v 13])
abbrev BS:AV:=(.bE [KdX,.v 13])
abbrev BU:tG:=[(0,2),Ke8,(0,39),(0,39)]
abbrev BV:tG:=[(1,40),(0,40),Kef]
abbrev BW:AV:=((.bE [Keg,.i 1]))
abbrev KaG:AV:=(.bE [Keg,.i 7])
abbrev BX:AV:=(KaG)
abbrev BY:AV:=((.bE [Keg,.v 5]))
abbrev B5:tA:=[(.lit 1 [[.v 11],[.v 13],[.v 15]])]
abbrev B6:tA:=[(.lit 1 [[.v 17],[.v 19],[.v 21]])]
abbrev Kaa:tF:=[(33,KdT,(.i 0))]
abbrev Kab:tG:=[(0,30),KdN,jB]
abbrev Kac:tA:=[Keg,.v 0,.q 2 15]
abbrev Kad:AV:=(.bE [Keh,.v 13])
abbrev Kae:AV:=(.bE [Kei,.v 13])
abbrev Kag:AV:=(.bE [Kek,.v 13])
abbrev Kai:AV:=(.bE [(sN (.q 8 15) (.v 7)),.i 0])
abbrev Kal:AV:=(.bE [(sN (.q 8 12) (.v 7)),.i 0])
abbrev Kan:AV:=(.bE [(sN (.q 8 15) (.o 2)),.i 0])
abbrev Kao:tK:=(0,[([0],1)],[([],2688)],[([9],1)])
abbrev Kau:AV:=(.bE [Keg,.v 6])
abbrev Kav:AV:=(.agg [.q 3 16,.o 11,.o 12,.o 13])
abbrev Kaw:AV:=(.bE [Keg,.i 2])
abbrev Kax:AV:=(.bE [Keh,.i 7])
abbrev Kay:AV:=(.bE [Keh,.i 6])
abbrev KaB:AV:=(.bE [Keh,.i 4])
abbrev KaC:AV:=(.bE [Keh,.i 5])
abbrev KaE:AV:=(.bE [Keh,.i 2])
abbrev KaF:tG:=[(1,4),KdO,jB]
abbrev KaI:tG:=[(0,3),(0,4),(0,1),Ke8]
abbrev Kcd:tA:=[Keg,.v 0]
abbrev KaJ:AV:=(.bE Kcd)
abbrev KaK:AV:=(.bE [Keg,.i 0])
abbrev KaL:AV:=(.bE [Keg,.v 9])
abbrev KaM:tK:=(0,[([0],1)],[([],168)],[([6],1)])
abbrev KaN:tK:=(0,[([0],1)],[([],672)],[([7],1)])
abbrev KaO:tK:=(1,[([9],1)],[([],40)],[([11],1)])
abbrev KaP:tF:=[(14,[.o 0,.i 1073741824],(.v 0))]
abbrev KaR:tK:=(1,[([14],1)],[([],3)],[([18],1)])
abbrev KaV:tG:=[(0,30),KcU]
abbrev Ka3:tK:=(0,[([0],1)],[([],24)],[([4],1)])
abbrev Ka4:tK:=(1,[([6],1)],[([],4)],[([10],1)])
abbrev Kba:tG:=[Kdq,(0,119)]
abbrev Kbb:tG:=[Kdq,(0,120)]
abbrev Kbc:tG:=[(0,4),(1,5),(2,2),(0,40),(0,44)]
abbrev Kbd:tG:=[(0,4),(1,5),(3,3),(0,40),(0,44)]
abbrev Kbf:tE:=[(0,[([2],1)],[.v 7,.v 8,.v 9])]
abbrev Kbg:tA:=[.q 3 0,(.agg [.v 1,.v 2,.o 0])]
abbrev Kbi:tA:=[Keg,.v 0,.v 1]
abbrev Kbj:tA:=[Keg,.v 0,.v 2]
abbrev Kbk:tH:=(149,[.v 15,.v 4,.v 14],(.v 20))
abbrev Kbl:tH:=(149,[.v 15,.v 4,.v 14],(.v 17))
abbrev Kbm:tH:=(149,[.v 16,.v 4,.v 14],(.v 18))
abbrev Kbn:tD:=[(7,[([12],1)]),(14,[([12],1)])]
abbrev Kbo:tK:=(0,[([0],1)],[([],2)],[([1],1)])
abbrev Kbp:tK:=(0,[([0],1)],[([],6)],[([2],1)])
abbrev Kbq:tK:=(1,[([2],1)],[([],4)],[([3],1)])
abbrev Kbr:tK:=(1,[([4],1)],[([],7)],[([5],1)])
abbrev Kbs:tK:=(1,[([7],1)],[([],4)],[([8],1)])
abbrev Kbx:tH:=(149,[.v 15,.v 4,.v 14],(.o 5))
abbrev Kby:tD:=[(7,[([12],1)]),(8,[([12],1)])]
abbrev Kbz:tG:=[(1,30),KdO]
abbrev KbA:AV:=(.lit 1 [[.v 1],[.v 2],[.v 3]])
abbrev KbB:tK:=(1,[([0],1)],[([],2)],[([],1)])
abbrev KbC:tG:=[(1,5),(1,4),(0,12),(0,16),jB]
abbrev KbD:AV:=(.dD 3 1 1 KeO)
abbrev KbN:AV:=(.agg [.q 3 1,.i 0,.i 0,.i 0])
abbrev KbO:AV:=(.agg [.q 3 2,.i 0,.i 0,.i 0])
abbrev KbP:AV:=(.dD 3 1 3 KeQ)
abbrev KbQ:AV:=(.dD 3 1 4 KeQ)
abbrev KbS:tD:=[Kfc,(1,[([3],1)])]
abbrev KbT:tD:=[Kfc,(1,[([2],1)])]
abbrev KbU:tD:=[Kfc,Kfe]
abbrev KbV:tD:=[Kfc,(1,[([4],1)])]
abbrev KbW:tD:=[(0,[([],17)]),(2,[([0],1)])]
abbrev KbX:tD:=[Kfc,Kfd]
abbrev KbY:tD:=[Kfi,(4,[([1],1)])]
abbrev KbZ:tG:=[(0,100),(0,3),(0,4),(0,100)]
abbrev Kb1:tD:=[(3,[([0],1)]),(4,[([1],1)])]
abbrev Kb2:tM:=[Kb8]
abbrev Kb3:Poly:=[([5],1),([14],-1),([15],1)]
abbrev Kb6:tG:=[(1,12),(1,12),(1,12),(3,3)]
abbrev Kcc:AV:=(.e [([17],1),([20],(-1))])
abbrev Kce:tA:=[Keg,.o 3]
abbrev Kcf:tA:=[Keg,.v 1]
abbrev Kcm:Poly:=[([1],-1),([4],1),([7],1)]
abbrev Kcr:tG:=[(1,60),(0,59),(0,40),yU]
abbrev KeB:Poly:=[([2],-1),([3],1)]
abbrev Kcs:tI:=(KeB,1,100)
abbrev Kct:tC:=[Kc0]
abbrev Kcu:tG:=[(0,4),(1,5),(0,4),(0,40)]
abbrev KeE:Poly:=[([0],-1),([1],1)]
abbrev Kdf:tI:=(KeE,1,5)
abbrev Kcv:tC:=[Kdf]
abbrev Kcw:tC:=[([([1],1),([8],-1)],1,4)]
abbrev Kcx:tI:=([([0],1),([2],-1)],1,30)
abbrev Kcy:AV:=(.dD 101 3 3 [([3],1)])
abbrev Kcz:AV:=(.dD 101 3 3 [([2],1)])
abbrev KcH:AV:=(.dD 101 3 2 [([0],1)])
abbrev KcJ:tI:=([([0],1),([3],-1)],1,40)
abbrev KcM:tI:=(KeA,1,40)
abbrev KcN:tI:=(Ket,1,40)
abbrev Kew:Poly:=[([1],1),([2],-1)]
abbrev KcO:tI:=(Kew,0,40)
abbrev KcP:AV:=(.dD 137 9 4 [([0],1)])
abbrev KcQ:tG:=[(0,4),(0,3),(1,5),(0,4)]
abbrev KcR:tG:=[Kdq]
abbrev KcS:tI:=([([3],1),([5],-1)],1,40)
abbrev KcT:tI:=([([2],1),([5],-1)],1,12)
abbrev KcV:AV:=(.agg [.o 8,.o 9,.o 10])
abbrev KeC:Poly:=[([3],-1),([7],1)]
abbrev KcY:tI:=(KeC,0,0)
abbrev Kc1:tI:=([([1],-1),([5],1)],0,0)
abbrev Kc2:tI:=([([2],-1),([6],1)],0,0)
abbrev Kc3:tG:=[KdN]
abbrev Kc4:AV:=(.dD 44 2 9 [([3],1)])
abbrev Kc5:AV:=(.lit 1 [[.v 1],[.v 2]])
abbrev Kdd:Poly:=[([],1),([6],1),([8],2)]
abbrev Kde:AV:=(.dD 50 9 1 [([1],1)])
abbrev Kdg:tI:=(KeE,0,0)
abbrev Kdl:AV:=(.dD 3 1 1 [([1],1)])
abbrev Kdm:AV:=(.dD 3 1 3 [([1],1)])
abbrev Kdu:AV:=(.dD 3 1 0 [([],17)])
abbrev Kdv:AV:=(.dD 3 1 1 [([],17)])
abbrev Kdy:AV:=(.e [([4],1),([15],1)])
abbrev KdA:AV:=(.dD 3 1 3 [([2],1)])
abbrev KdB:AV:=(.dD 3 1 4 [([2],1)])
abbrev KdC:AV:=(.dD 3 1 4 [([1],1)])
abbrev KdG:AV:=(.dD 3 1 4 [([4],1)])
abbrev KdH:AV:=(.dD 3 1 5 [([4],1)])
abbrev KdI:AV:=(.dD 3 1 5 [([2],1)])
abbrev KdJ:AV:=(.dD 3 1 0 [([0],1)])
abbrev KdM:AV:=(.dD 3 1 2 [([7],1)])
abbrev KdP:AV:=(.e [([4],1),([7],1)])
abbrev KdQ:tG:=[(0,30),(0,30),(1,20)]
abbrev KdS:AV:=(.e [([],1),([17],1)])
abbrev KdU:AV:=(.e KeO)
abbrev KdV:AV:=(.e KeQ)
abbrev KeW:Poly:=[([],1),([4],1)]
abbrev Kd3:AV:=(.e KeW)
abbrev KeP:Poly:=[([],1),([3],1)]
abbrev Kd5:AV:=(.e KeP)
abbrev Kd7:AV:=(sN (.q 8 11) (.o 2))
abbrev Kd9:tJ:=(14,[([0],1)],[.o 5])
abbrev Kea:tJ:=(20,[([0],1)],[.o 8])
abbrev Keb:tG:=[(1,12),(1,12),(2,2)]
abbrev Ked:AV:=(.bE [.q 3 0,.i 1])
abbrev Kem:tG:=[(1,20),(0,1000000)]
abbrev Ken:tG:=[(0,4),(0,3),(1,40)]
abbrev Kep:tG:=[(1,5),(1,4),(0,12)]
abbrev KeH:tI:=([([10],1)],0,39)
abbrev Keq:tC:=[KeH]
abbrev Kes:tG:=[(0,4),(0,3),(1,5)]
abbrev Key:tC:=[([([8],1)],0,39)]
abbrev KeD:Poly:=[([1],-1),([4],1)]
abbrev KeL:AV:=(.own 44 2 2 0 0)
abbrev KeM:AV:=(.own 44 2 2 0 4)
abbrev KeR:tI:=([([9],1)],0,39)
abbrev KeT:tD:=[(7,[([12],1)])]
abbrev KeY:tD:=[Kfc]
abbrev KeZ:Mc.dI:=(.cells 3 1 [])
abbrev Ke0:tA:=[.q 1 0,.q 2 1]
abbrev Ke2:tD:=[Kfk]
abbrev Ke3:tD:=[Kfl]
abbrev Ke4:tG:=[(0,40),(0,40)]
abbrev Ke6:tD:=[(3,[([0],1)])]
abbrev Ke7:tD:=[(0,[([3],1)])]
abbrev Kfb:tG:=[(1,5),(0,17)]
abbrev Kfg:tG:=[(0,3),(0,4)]
abbrev Kfj:tG:=[(0,1000000)]
end
namespace Mc
variable {x:AV} {B:dI} {A:Nat->Prop} {m:Nat->St} {bs:List dI} {ids:pZ}
section
variable {b1:Bk} {e1:@Ev b1} {b2:Bk} {e2:@Ev b2} {ids:pZ}
def Slot.afS {T sz id c:Nat} {n:Poly} {k:Nat} (h:ids[c]?=some (some id)) (i:k=(cI (@Ev.eW b1 e1) n).toNat):Slot b1 e1 b2 e2 ids (.dD T sz id n) (.own T sz c 0 k):=by
 intro m A w v e;have f:=tW (m:=m) h;cases e with
 |pure _ _ h=>cases h
 |dD _ _ _ _ b len cap d p l g o e =>
  have:k=len:=by rw[i,l];rfl
  subst this;have:=@Rd.own b2 e2 _ A w T sz c 0 k b cap (f.trans d) p g o (by rw[a02];exact e);rwa[a3t]at this
 |uP _ _ _ _ a d q =>
  have:k=0:=by rw[i,q];rfl
  subst this;exact @Rd.vN b2 e2 _ A w T sz c 0 a (f.trans d)
 |uQ _ _ _ _ a j cap d=>exact @Rd.wK b2 e2 _ A w T sz c 0 k a j cap (f.trans d)
def Rd.fn0 [Bk] [Ev] {m:Nat->St} {A:Nat->Prop} {w:World} {q:FuncId} {v:Value} (d:Rd m A w (.fn (.func q) [] []) v):v=.func (.func q) #[] #[]:=by
 cases d with
 |pure _ _ h=>cases h with|fn _ _ _ vs c a b=>rw[a4e a,a4e b]
 |fn _ _ _ vs c a b=>rw[a4e a,a4e b]
def eC.fn0 [Bk] [Ev] {A:Nat->Prop} {w:World} {q:FuncId}:eC A w (.fn (.func q) [] []) (.func (.func q) #[] #[]):=.fn _ [] [] #[] #[] rfl rfl (by intro i x h;simp at h) (by intro i x h;simp at h)
def Slot.fnC {q:FuncId}:Slot b1 e1 b2 e2 ids (.fn (.func q) [] []) (.c (.func (.func q) #[] #[])):=by
 intro m A w v a;obtain rfl:=@Rd.fn0 b1 e1 _ _ _ _ _ a;exact .pure _ _ (.c _)
def Slot.cFn {q:FuncId}:Slot b1 e1 b2 e2 ids (.c (.func (.func q) #[] #[])) (.fn (.func q) [] []):=by
 intro m A w v a;cases a with|pure _ _ h=>cases h;exact .pure _ _ eC.fn0
def Slot.fnF {q:FuncId}:Slot b1 e1 b2 e2 ids (.fn (.func q) [] []) (.fn (.func q) [] []):=by
 intro m A w v a;obtain rfl:=@Rd.fn0 b1 e1 _ _ _ _ _ a;exact .pure _ _ eC.fn0
def Slot.aky {k:Nat}:Slot b1 e1 b2 e2 ids .emp (.lit k []):=by
 intro m A w v b;cases b with
 |pure _ _ b=>cases b with|emp a=>exact .pure _ _ (.nQ k a 0 (a0n _))
def Slot.akx {T sz b:Nat} (h:ids[b]?=some none):Slot b1 e1 b2 e2 ids .emp (.own T sz b 0 0):=by
 intro m A w v c;have d:=TT (m:=m) h;cases c with
 |pure _ _ c=>cases c with|emp a=>exact @Rd.vN b2 e2 _ A w T sz b 0 a d
end
def lH [Bk] [Ev] (x:AV):AV:=match x with
 | .dD T a id n=>.own T a id 0 (evP Ev.eW n).toNat
 | .own T a id i n=>.own T a id i n
 | .ptr a id i off=>.ptr a id i off
 | .fn (.func q) [] []=>.c (.func (.func q) #[] #[])
 | .pP=>.pP
 |x=>den 12 x
def vR [Bk] [Ev] (B:dI):dI:=match B with
 | .cells T a bG=>.cells T a (bG.map (·.map lH))
 | .sc T a base bZ tail _=>.cells T a (afm ((bZ.map fun q=>(q.1,q.2.map lH)).foldl (fun l q=>l.set (evP Ev.eW q.1).toNat q.2) (Ev.seq base)) (tail.map (·.map lH)))
 |B=>B
def sO (n:Nat) (x:AV):Bool:=match x with
 | .ptr _ id _ _=>decide (id<n)
 | .dD _ _ id _=>decide (id<n)
 | .own _ _ id _ _=>decide (id<n)
 | .fn (.func _) [] []=>true
 | .pP=>true
 |x=>F8 12 x
def sI (b:Bk) (n:Nat) (x:AV):Bool:=match x with
 | .ptr _ id _ _=>decide (id<n)
 | .dD _ _ id p=>decide (id<n)&&b.lens.any fun t=>t.2==p
 | .own _ _ id _ _=>decide (id<n)
 | .fn (.func _) [] []=>true
 | .pP=>true
 |x=>F8 12 x&&mU 12 x
def bO (n:Nat) (B:dI):Bool:=match B with
 | .cells _ _ bG=>bG.all (·.all (sO n))
 | .sc _ _ _ bZ tail _=>bZ.all (fun q=>q.2.all (sO n))&&tail.all (·.all (sO n))
 |_=>false
def bI (b:Bk) (n:Nat) (B:dI):Bool:=match B with
 | .cells _ _ bG=>bG.all (·.all (sI b n))
 | .sc _ _ base bZ tail p=>(bZ.all fun q=>q.2.all (sI b n)&&b.iG.any fun t=>t.1==base&&t.2.1==q.1)&&tail.isEmpty&&b.lens.any fun t=>t.1==base&&t.2==p
 |_=>false
def E8 [Bk] [Ev] (x:AV):(lH x).one=x.one:=by
 cases x with
 |fn f a b=>cases f<;>cases a<;>cases b<;>first|rfl|exact oU 12 _
 |_=>first|rfl|exact oU 12 _
def Sa [Bk] [Ev] {x:AV} (h:Cl x):lH x=x:=by
 cases x<;>first|rfl|exact h.den 12|(cases h;done)
def OX [Bk] [Ev] (base:Nat) (bZ:List (Poly×List AV)) (tail:List (List AV)):afm ((bZ.map fun q=>(q.1,q.2.map lH)).foldl (fun l q=>l.set (evP Ev.eW q.1).toNat q.2) (Ev.seq base)) (tail.map (·.map lH))=(rowsOf base bZ tail).map (·.map lH):=by
 have f:(Ev.seq base).map (·.map lH)=Ev.seq base:=by
  conv=>rhs;rw[<-a2f (Ev.seq base)]
  refine a01 fun e d=>?_;show e.map lH=id e
  conv=>rhs;rw[id,<-a2f e]
  exact a01 fun x b=>Sa (Ev.vI base e d x b)
 have c:∀(bZ:List (Poly×List AV)) (l:List (List AV)),(bZ.map fun q=>(q.1,q.2.map lH)).foldl (fun l q=>l.set (evP Ev.eW q.1).toNat q.2) (l.map (·.map lH))=(bZ.foldl (fun l q=>l.set (cI Ev.eW q.1).toNat q.2) l).map (·.map lH):=by
  intro bZ;induction bZ with
  |nil=>intro l;rfl
  |cons q bZ a =>
   intro l;simp only[a0r,a2l];rw[<-a,a09,vQ]
 rw[Ss];unfold rowsOf;rw[a03,<-c,f]
section
variable {b:Bk} {ev:@Ev b} {n:Nat}
def acJ (h:sO n x=true):Slot b ev dY dZ (Xa n) x (@lH b ev x):=by
 have data:F8 12 x=true->Slot b ev dY dZ (Xa n) x (@den b ev 12 x):=fun h=>by
  have c:=@R9 b ev 12 x h;exact Slot.data rfl (c.den 12) c (uC 12 _ c)
 cases x with
 |ptr d id i off=>exact Slot.ptr (Aw (of_decide_eq_true h))
 |own T d id i k=>exact Slot.own (Aw (of_decide_eq_true h))
 |dD T d id p=>exact Slot.afS (Aw (of_decide_eq_true h)) (by rw[vQ])
 |pP=>exact Slot.pP
 |fn f a b=>cases f<;>cases a<;>cases b<;>first|exact Slot.fnC|exact data h
 |_=>exact data h
def aga (h:sI b n x=true):Slot dY dZ b ev (Xa n) (@lH b ev x) x:=by
 have data:(F8 12 x&&mU 12 x)=true->Slot dY dZ b ev (Xa n) (@den b ev 12 x) x:=fun h=>by
  rw[a0e]at h;have e:=@R9 b ev 12 x h.1;exact Slot.data (e.den 12) rfl e h.2
 cases x with
 |ptr d id i off=>exact Slot.ptr (Aw (of_decide_eq_true h))
 |own T d id i k=>exact Slot.own (Aw (of_decide_eq_true h))
 |dD T d id p =>
  simp only[sI,a0e]at h;obtain⟨t,g,c⟩:=a1u.1 h.2;have c:t.2=p:=eq_of_beq c;have:=@Ev.amU b ev t g;rw[c]at this;refine Slot.ag3 (Aw (of_decide_eq_true h.1)) ?_;rw[vQ];show((cI (@Ev.eW b ev) p).toNat:Int)=cI (@Ev.eW b ev) p;have:cI (@Ev.eW b ev) p=(((@Ev.Ej b ev).getD t.1 []).length:Int):=this.symm;omega
 |pP=>exact Slot.pP
 |fn f a b=>cases f<;>cases a<;>cases b<;>first|exact Slot.cFn|exact data h
 |_=>exact data h
def af8:∀{l:List AV},l.all (sO n)=true->Ad b ev dY dZ (Xa n) l (l.map (@lH b ev))
 |[],_=>.nil
 |x::l,h=>by
  rw[a4o,a0e]at h;exact .cons (acJ h.1) (af8 h.2)
def af9:∀{l:List AV},l.all (sI b n)=true->Ad dY dZ b ev (Xa n) (l.map (@lH b ev)) l
 |[],_=>.nil
 |x::l,h=>by
  rw[a4o,a0e]at h;exact .cons (aga h.1) (af9 h.2)
def XX [Bk] [Ev] {bG:List (List AV)} {i j:Nat} {y:AV} (h:iE (bG.map (·.map lH)) i j=some y):∃x,iE bG i j=some x/\y=lH x:=by
 rw[rT]at h;obtain⟨x,a,rfl⟩:=a1c.1 h;exact⟨x,a,rfl⟩
def aoR {h1:AH} {i:Nat} (s:h1 i=B) (h:bO n B=true):OG b ev dY dZ (Xa n) h1 (some i) (@vR b ev B):=by
 cases B with
 |cells T g bG =>
  refine⟨trivial,T,g,bG,bG.map (·.map (@lH b ev)),by rw[s];rfl,rfl,by simp,?_,?_⟩
  .intro i j y k
   obtain⟨x,c,rfl⟩:=@XX b ev _ _ _ _ k;obtain⟨r,a,o⟩:=pX c;exact⟨x,c,(@E8 b ev x).symm,acJ (a0k.1 (a0k.1 h r a) x o)⟩
  .intro h e l
   obtain⟨r,a,rfl⟩:=a0j.1 l;rw[a0w];exact h r a
 |sc T g base bZ tail p =>
  have a:=@OX b ev base bZ tail;refine⟨trivial,T,g,@rowsOf b ev base bZ tail,(@rowsOf b ev base bZ tail).map (·.map (@lH b ev)),by rw[s];rfl,by simp only[vR];rw[a];rfl,by simp,?_,?_⟩
  .intro i j y k
   obtain⟨x,c,rfl⟩:=@XX b ev _ _ _ _ k;refine⟨x,c,(@E8 b ev x).symm,?_⟩;obtain⟨r,f,m⟩:=pX c;simp only[bO,a0e]at h;rcases @CC b ev _ _ _ _ f with f|⟨q,t,rfl⟩|f
   .have d:=@Ev.vI b ev base r f _ m
    rw[@Sa b ev x d];exact Slot.data (d.den 12) (d.den 12) d (uC 12 _ d)
   .exact acJ (a0k.1 (a0k.1 h.1 q t) x m)
   .exact acJ (a0k.1 (a0k.1 h.2 r f) x m)
  .intro h e l
   obtain⟨r,a,rfl⟩:=a0j.1 l;rw[a0w];exact h r a
 |_=>cases h
def aoS {h1:AH} {i:Nat} (F:h1 i=@vR b ev B) (h:bI b n B=true):OG dY dZ b ev (Xa n) h1 (some i) B:=by
 cases B with
 |cells T g bG =>
  refine⟨trivial,T,g,bG.map (·.map (@lH b ev)),bG,by rw[F];rfl,rfl,by simp,?_,?_⟩
  .intro i j y c
   obtain⟨r,l,x⟩:=pX c;exact⟨_,by rw[rT,c];rfl,@E8 b ev y,aga (a0k.1 (a0k.1 h r l) y x)⟩
  .intro h e s
   have:=h _ (a0j.2 ⟨e,s,rfl⟩);rwa[a0w]at this
 |sc T g base bZ tail p =>
  simp only[bI,a0e,a3q]at h;obtain⟨⟨A,rfl⟩,h⟩:=h;obtain⟨t,I,o⟩:=a1u.1 h;rw[a0e]at o;have D:t.1=base:=eq_of_beq o.1;have C:t.2=p:=eq_of_beq o.2;have E:=@Ev.amU b ev t I;rw[D,C]at E;have l:=@OX b ev base bZ [];refine⟨⟨?_,?_⟩,T,g,(@rowsOf b ev base bZ []).map (·.map (@lH b ev)),@rowsOf b ev base bZ [],?_,rfl,by simp,?_,?_⟩
  .rw[@iU b ev]
   simp only[a20,a2q];exact E.symm
  .intro q m
   have:=a0k.1 A q m;simp only[a0e]at this;obtain⟨z,H,a⟩:=a1u.1 this.2;rw[a0e]at a;have w:z.1=base:=eq_of_beq a.1;have v:z.2.1=q.1:=eq_of_beq a.2;obtain⟨u,k,-⟩:=@Ev.sat b ev z H;rw[v]at u k;rw[w]at k;exact⟨u,(a0y.1 k).1⟩
  .rw[F];simp only[vR];rw[l];rfl
  .intro i j y c
   refine⟨@lH b ev y,by rw[rT,c];rfl,@E8 b ev y,?_⟩;obtain⟨r,f,G⟩:=pX c;rcases @CC b ev _ _ _ _ f with f|⟨q,m,rfl⟩|f
   .have d:=@Ev.vI b ev base r f _ G
    rw[@Sa b ev y d];exact Slot.data (d.den 12) (d.den 12) d (uC 12 _ d)
   .have:=a0k.1 A q m
    simp only[a0e]at this;exact aga (a0k.1 this.1 y G)
   .exact absurd f a0b
  .intro h e s
   have:=h _ (a0j.2 ⟨e,s,rfl⟩);rwa[a0w]at this
 |_=>cases h
def ahV {n:Nat}:∀(i j k:Nat),(Xa n)[i]?=some (some k)->(Xa n)[j]?=some (some k)->i=j:=by
 intro i j k b a;unfold Xa at b a;rw[a0l]at b a;obtain⟨x,d,e⟩:=a1c.1 b;obtain⟨y,c,f⟩:=a1c.1 a;cases e;cases f;obtain⟨g,a2⟩:=a0y.1 d;obtain⟨b1,b2⟩:=a0y.1 c;rw[List.getElem_range]at a2 b2;omega
end
def Tq (b:Bk) (ev:@Ev b) {w0:World} {a0:Act} {w:World} {a:Act} {f:List AV} (e:@fD b ev A w0 a0 m w a f (fH bs)) (c:(f.all (sO bs.length)&&bs.all (bO bs.length))=true) :
  ∃g,@fD dY dZ A w0 a0 g w a (f.map (@lH b ev)) (fH (bs.map (@vR b ev))):=by
 rw[a0e]at c;refine⟨_,fD.to (ids:=Xa bs.length) e (af8 c.1) ?_ ahV⟩;have:=adQ b ev dY dZ (Xa bs.length) (h1:=fH bs) (bs:=bs.map (@vR b ev)) some ?_
 .rw[a0w]at this;exact this
 .intro i B d
  rw[a0l]at d;obtain⟨h,h',rfl⟩:=a1c.1 d;exact aoR (by unfold fH;rw[List.getD,h'];rfl) (a0k.1 c.2 h (a0a h'))
def uU (b:Bk) (ev:@Ev b) {w0:World} {a0:Act} {w:World} {a:Act} {f fc:List AV} {bc:List dI} (e:@fD dY dZ A w0 a0 m w a fc (fH bc)) (j:f.map (@lH b ev)=fc) (eb:bs.map (@vR b ev)=bc) (c:(f.all (sI b bs.length)&&bs.all (bI b bs.length))=true) (h:b.mT=[]:=by rfl) :
  ∃g,@fD b ev A w0 a0 g w a f (fH bs):=by
 subst j;subst eb;rw[a0e]at c;refine⟨_,fD.to (ids:=Xa bs.length) e (af9 c.1) ?_ ahV h⟩;refine adQ dY dZ b ev (Xa bs.length) (bs:=bs) some ?_;intro i B d;exact aoS (by unfold fH;rw[List.getD,a0l,d];rfl) (a0k.1 c.2 B (a0a d))
def A3 (ids:pZ) (x y:AV):Bool:=match x,y with
 | .emp,.own _ _ id 0 0=>decide (ids[id]?=some none)
 | .emp,.lit _ []=>true
 | .fn (.func q) [] [],.fn (.func a) [] []=>decide (q=a)
 |x,y=>IG ids 16 x y
def ajd (ids:pZ):List (Poly×List AV)->List (Poly×List AV)->Bool
 |[],[]=>true
 |a::b,q::l=>decide (a.1=q.1)&&LQ (A3 ids) a.2 q.2&&q.2.all (fun x=>x.one)&&ajd ids b l
 |_,_=>false
def anH (ids:pZ) (h:AH) (o:Option Nat) (B:dI):Bool:=match o,B with
 |some i,.sc T d base bZ [] n=>(match h i with | .sc e c a b [] n'=>decide (e=T/\c=d/\a=base/\n'=n)&&ajd ids b bZ|_=>false)
 |_,_=>false
def anI (ids:pZ) (h:AH) (o:Option Nat) (B:dI):Bool:=anH ids h o B||match o,B with
 |none,.cells _ _ []=>true
 |some i,.cells T c bG=>(match h i with | .cells d b a=>decide (d=T/\b=c)&&(Im (A3 ids) a bG&&bG.all (·.all fun x=>x.one))|_=>false)
 |o,B=>anJ ids h o B
def XR (ids:pZ) (h:AH):pZ->List dI->Bool
 |[],[]=>true
 |o::l,B::bs=>anI ids h o B&&XR ids h l bs
 |_,_=>false
def Mj [b:Bk] [e:Ev] {y:AV} (h:A3 ids x y=true):Slot b e b e ids x y:=by
 unfold A3 at h;split at h
 .exact Slot.akx (of_decide_eq_true h)
 .exact Slot.aky
 .rw[of_decide_eq_true h];exact Slot.fnF
 .exact Mk h
def FH [b:Bk] [e:Ev] {ids:pZ}:∀{l l':List AV},LQ (A3 ids) l l'=true->Ad b e b e ids l l'
 |[],[],_=>.nil
 |[],_::_,h=>by cases h
 |_::_,[],h=>by cases h
 |x::l,y::m,h=>by
  unfold LQ at h;rw[a0e]at h;exact .cons (Mj h.1) (FH h.2)
def OL {y:AV} (h:A3 ids x y=true) (a:y.one=true):x.one=true:=by
 unfold A3 at h;split at h
 .rfl
 .rfl
 .rfl
 .exact OM h a
def ai2 (b:Bk) (e:@Ev b) (ids:pZ) (r' r:List AV):Prop:=r'.length=r.length/\∀(j:Nat) (y:AV),r[j]?=some y->∃x,r'[j]?=some x/\x.one=y.one/\Slot b e b e ids x y
def ai2.of [b:Bk] [e:Ev] {r' r:List AV} (h:LQ (A3 ids) r' r=true) (h1:r.all (fun x=>x.one)=true):ai2 b e ids r' r:=by
 obtain⟨l,g⟩:=uZ h;refine⟨l,fun j y c=>?_⟩
 obtain⟨x,d,hs⟩:=g j y c;have a:=a0k.1 h1 y (a0a c);exact⟨x,d,by rw[a];exact OL hs a,Mj hs⟩
def acy [b:Bk] [e:Ev] {ids:pZ}:∀{a bZ:List (Poly×List AV)},ajd ids a bZ=true->∀(l' l:List (List AV)),l'.length=l.length->(∀(i:Nat) (r' r:List AV),l'[i]?=some r'->l[i]?=some r->ai2 b e ids r' r) ->
  (∀q∈bZ,∃f∈a,f.1=q.1)/\(a.foldl (fun l q=>l.set (cI Ev.eW q.1).toNat q.2) l').length=(bZ.foldl (fun l q=>l.set (cI Ev.eW q.1).toNat q.2) l).length/\∀(i:Nat) (r' r:List AV),(a.foldl (fun l q=>l.set (cI Ev.eW q.1).toNat q.2) l')[i]?=some r'->(bZ.foldl (fun l q=>l.set (cI Ev.eW q.1).toNat q.2) l)[i]?=some r->ai2 b e ids r' r
 |[],[],_,l',l,g,k=>⟨fun q v=>absurd v a0b,g,k⟩
 |[],_::_,h,_,_,_,_=>by cases h
 |_::_,[],h,_,_,_,_=>by cases h
 |f::a,q::bZ,h,l',l,g,k=>by
  unfold ajd at h;simp only[a0e,decide_eq_true_eq]at h;obtain⟨⟨⟨o,A⟩,x⟩,w⟩:=h
  obtain⟨t,s,p⟩:=acy w (l'.set (cI Ev.eW f.1).toNat f.2) (l.set (cI Ev.eW q.1).toNat q.2) (by simp[g]) (by
   intro i r' r c d;rw[o,a0o]at c;rw[a0o]at d;split at c
   .rename_i m
    rw[if_pos m]at d;rw[g]at c;split at c
    .rename_i n
     rw[if_pos n]at d;cases c;cases d;exact ai2.of A x
    .cases c
   .rename_i m
    rw[if_neg m]at d;exact k i r' r c d)
  refine⟨?_,s,p⟩;intro z j;rcases a0d.1 j with rfl|j
  .exact⟨f,by simp,o⟩
  .obtain⟨y,u,e⟩:=t z j
   exact⟨y,by simp[u],e⟩
def akX [b:Bk] [e:Ev] {h:AH} (hs:∀i,rW (h i)) {o:Option Nat} (m:anH ids h o B=true):OG b e b e ids h o B:=by
 unfold anH at m;split at m
 .rename_i i T O base bZ n
  split at m
  .rename_i N w a u n' p
   rw[a0e,decide_eq_true_eq]at m;obtain⟨⟨rfl,rfl,rfl,rfl⟩,M⟩:=m
   obtain⟨K,A,z⟩:=acy M (Ev.seq a) (Ev.seq a) rfl (fun i r' r p D=>by
    rw[p]at D;cases D;exact⟨rfl,fun j y c=>⟨y,c,rfl,Slot.cl (Ev.vI a r' (a0a p) y (a0a c))⟩⟩)
   have s:=hs i;rw[p]at s;obtain⟨F,E⟩:=s;refine⟨⟨?_,?_⟩,N,w,rowsOf a u [],rowsOf a bZ [],by rw[p];rfl,rfl,?_,?_,?_⟩
   .rw[F,iU,iU]
   .intro q L
    obtain⟨J,C,e⟩:=K q L;rw[<-e];exact E J C
   .rw[iU,iU]
   .intro i j y c
    unfold rowsOf at c |-;rw[a1r]at c |-;unfold iE at c |-;cases f:(bZ.foldl (fun l q=>l.set (cI Ev.eW q.1).toNat q.2) (Ev.seq a))[i]? with
    |none=>rw[f]at c;cases c
    |some r =>
     rw[f]at c;have k:=(a0y.1 f).1;rw[<-A]at k;have d:=a0f k;obtain⟨-,g⟩:=z i _ r d f;obtain⟨x,I,H,G⟩:=g j y c;exact⟨x,by rw[d];exact I,H,G⟩
   .intro v r f
    unfold rowsOf at v f;rw[a1r]at v f;obtain⟨i,t⟩:=a1s.1 f;have k:=(a0y.1 t).1;rw[<-A]at k;have d:=a0f k;rw[<-(z i _ r d t).1];exact v _ (a0a d)
  .cases m
 .cases m
def akY [b:Bk] [e:Ev] {h:AH} (hs:∀i,rW (h i)) {o:Option Nat} (a:anI ids h o B=true):OG b e b e ids h o B:=by
 unfold anI at a;rw[a15]at a;rcases a with a|a
 .exact akX hs a
 split at a
 .exact⟨trivial,_,_,rfl⟩
 .rename_i i T u bG
  split at a
  .rename_i t f d q
   rw[a0e,a0e,decide_eq_true_eq]at a;obtain⟨⟨rfl,rfl⟩,m,s⟩:=a;obtain⟨l1,l2⟩:=adD m;refine⟨trivial,t,f,d,bG,by rw[q];rfl,rfl,l1,?_,adC m⟩;intro i j y l;obtain⟨x,n,g⟩:=l2 i j y l;obtain⟨r,p,k⟩:=pX l;have c:y.one=true:=a0k.1 (a0k.1 s r p) y k;exact⟨x,n,by rw[c];exact OL g c,Mj g⟩
  .cases a
 .exact akZ hs a
def NC [b:Bk] [e:Ev] {ids:pZ} {h:AH} (hs:∀i,rW (h i)):∀{l:pZ} {bs:List dI},XR ids h l bs=true->aap b e b e ids h l bs
 |[],[],_=>.nil
 |[],_::_,h=>by cases h
 |_::_,[],h=>by cases h
 |o::l,B::bs,h=>by
  unfold XR at h;rw[a0e]at h;exact .cons (akY hs h.1) (NC hs h.2)
def ndC (ids:pZ):Bool:=decide (ids.filterMap id).Nodup
def ahq:∀{ids:pZ},ndC ids=true->∀(i j k:Nat),ids[i]?=some (some k)->ids[j]?=some (some k)->i=j:=by
 intro ids h;have b:(ids.filterMap id).Nodup:=of_decide_eq_true h;clear h;induction ids with
 |nil=>intro i j k a;simp at a
 |cons o l d =>
  have mem:∀k i,l[i]?=some (some k)->k∈l.filterMap id:=fun k i h=>List.mem_filterMap.2 ⟨_,a0a h,rfl⟩;cases o with
  |none =>
   intro i j k a c;cases i with
   |zero=>cases a
   |succ i=>cases j with
    |zero=>cases c
    |succ j=>exact congrArg Nat.succ (d b i j k a c)
  |some o =>
   have b:(o::l.filterMap id).Nodup:=b;rw[a3z]at b;intro i j k a c;cases i with
   |zero=>cases j with
    |zero=>rfl
    |succ j=>cases a;exact absurd (mem _ j c) b.1
   |succ i=>cases j with
    |zero=>cases c;exact absurd (mem _ i a) b.1
    |succ j=>exact congrArg Nat.succ (d b.2 i j k a c)
abbrev lC (ids:pZ) (o:Option (RT Out)) (f:List AV) (t:List Mc.dI):Bool:=LQ (A3 ids) (LH o) f&&XR ids (oT o).get ids t&&ndC ids&&(f.all (sO t.length)&&t.all (bO t.length))
def P6 (b:Bk) (ev:@Ev b) {w0:World} {a0:Act} {w:World} {a:Act} {o:Option (RT Out)} {e:List AV} (d:@fD b ev A w0 a0 m w a (LH o) (oT o).get) (c:lC ids o e bs=true) (g:b.mT=[]) :
  ∃f,@fD dY dZ A w0 a0 f w a (e.map (@lH b ev)) (fH (bs.map (@vR b ev))):=by
 simp only[lC,a0e]at c;refine Tq b ev (d.to (FH c.1.1.1) (NC d.rel.scs c.1.1.2) (ahq c.1.2) g) ?_;rw[a0e];exact c.2
def fr (N:Nat) (l:List (Nat×AV)):List AV:=(List.range N).map fun i=>((l.find? fun t=>t.1==i).map (·.2)).getD .pP
end Mc
section
open Mc
variable {fi:List AV} {bi:List Mc.dI} {fn:Func} {o:Option (RT Out)}
def uG (b:Bk) (c:Code) (fi:List AV) (bi:List Mc.dI) (ids:pZ) (fo:List AV) (bo:List Mc.dI) (o:Option (RT Out)):Prop:=yZ b c fi.length fi bi bi.length=o/\(fi.all (sI b bi.length)&&bi.all (bI b bi.length))=true/\(OK o&&lC ids o fo bo)=true
def eA (b:Bk) (c:Code) (fi:List AV) (bi:List Mc.dI) (x:Nat) (ids:pZ) (fo:List AV) (bo:List Mc.dI):Prop:=∃o,yZ b c fi.length fi bi bi.length=o/\(fi.all (sI b bi.length)&&bi.all (bI b bi.length))=true/\(pF o x&&lC ids o fo bo)=true
def wZ (b:Bk) (c:Option (RT Out)) (k:Nat) (fi:List AV) (bi:List Mc.dI) (ids:pZ) (fo:List AV) (bo:List Mc.dI) (o:Option (RT Out)):Prop:=Oa b c k fi.length fi bi bi.length=o/\(fi.all (sI b bi.length)&&bi.all (bI b bi.length))=true/\(OK o&&lC ids o fo bo)=true
def NT (b:Bk) (c:Option (RT Out)) (k:Nat) (fi:List AV) (bi:List Mc.dI) (x:Nat) (ids:pZ) (fo:List AV) (bo:List Mc.dI):Prop:=∃o,Oa b c k fi.length fi bi bi.length=o/\(fi.all (sI b bi.length)&&bi.all (bI b bi.length))=true/\(pF o x&&lC ids o fo bo)=true
def ai1 (b:Bk) (fn:Func) (c:Code) (fi:List AV) (bi:List Mc.dI) (r:AV):Prop:=∃o,yZ b c fi.length fi bi bi.length=o/\(fi.all (sI b bi.length)&&bi.all (bI b bi.length))=true/\(pF o 1||pF o 0)=true/\((fF Tryz.prog fn (LH o) (oT o).get).bind fun x=>(wA (oT o).get 16 x).map (·.1))=some r
def kH (b:Bk) (fn:Func) (c:Option (RT Out)) (k:Nat) (fi:List AV) (bi:List Mc.dI) (r:AV):Prop:=∃o,Oa b c k fi.length fi bi bi.length=o/\(fi.all (sI b bi.length)&&bi.all (bI b bi.length))=true/\(pF o 1||pF o 0)=true/\((fF Tryz.prog fn (LH o) (oT o).get).bind fun x=>(wA (oT o).get 16 x).map (·.1))=some r
def OE (b:Bk) (fn:Func) (c:Code) (fi:List AV) (bi:List Mc.dI) (r:AV):Prop:=∃o,yZ b c fi.length fi bi bi.length=o/\(fi.all (sI b bi.length)&&bi.all (bI b bi.length))=true/\pF o 1=true/\((fF Tryz.prog fn (LH o) (oT o).get).bind fun x=>(wA (oT o).get 16 x).map (·.1))=some r
def eA.of {b:Bk} {c:Code} {ids:pZ} {fo:List AV} {bo:List Mc.dI} {x:Nat} (h:(fi.all (sI b bi.length) && bi.all (bI b bi.length))=true:=by decide +kernel) (g:(pF (yZ b c fi.length fi bi bi.length) x && lC ids (yZ b c fi.length fi bi bi.length) fo bo)=true:=by decide +kernel):eA b c fi bi x ids fo bo:=⟨_,rfl,h,g⟩
def NT.of {b:Bk} {c:Option (RT Out)} {ids:pZ} {fo:List AV} {bo:List Mc.dI} {x:Nat} {k:Nat} (h:(fi.all (sI b bi.length) && bi.all (bI b bi.length))=true:=by decide +kernel) (g:(pF (Oa b c k fi.length fi bi bi.length) x && lC ids (Oa b c k fi.length fi bi bi.length) fo bo)=true:=by decide +kernel):NT b c k fi bi x ids fo bo:=⟨_,rfl,h,g⟩
def ai1.of {b:Bk} {c:Code} {r:AV} (h:(fi.all (sI b bi.length) && bi.all (bI b bi.length))=true:=by decide +kernel) (g:(pF (yZ b c fi.length fi bi bi.length) 1 || pF (yZ b c fi.length fi bi bi.length) 0)=true:=by decide +kernel) (e:((fF Tryz.prog fn (LH (yZ b c fi.length fi bi bi.length)) (oT (yZ b c fi.length fi bi bi.length)).get).bind fun x=>(wA (oT (yZ b c fi.length fi bi bi.length)).get 16 x).map (·.1))=some r:=by kernel_rfl):ai1 b fn c fi bi r:=⟨_,rfl,h,g,e⟩
def kH.of {b:Bk} {c:Option (RT Out)} {r:AV} {k:Nat} (h:(fi.all (sI b bi.length) && bi.all (bI b bi.length))=true:=by decide +kernel) (g:(pF (Oa b c k fi.length fi bi bi.length) 1 || pF (Oa b c k fi.length fi bi bi.length) 0)=true:=by decide +kernel) (e:((fF Tryz.prog fn (LH (Oa b c k fi.length fi bi bi.length)) (oT (Oa b c k fi.length fi bi bi.length)).get).bind fun x=>(wA (oT (Oa b c k fi.length fi bi bi.length)).get 16 x).map (·.1))=some r:=by kernel_rfl):kH b fn c k fi bi r:=⟨_,rfl,h,g,e⟩
def OE.of {b:Bk} {c:Code} {r:AV} (h:(fi.all (sI b bi.length) && bi.all (bI b bi.length))=true:=by decide +kernel) (g:pF (yZ b c fi.length fi bi bi.length) 1=true:=by decide +kernel) (e:((fF Tryz.prog fn (LH (yZ b c fi.length fi bi bi.length)) (oT (yZ b c fi.length fi bi bi.length)).get).bind fun x=>(wA (oT (yZ b c fi.length fi bi bi.length)).get 16 x).map (·.1))=some r:=by kernel_rfl):OE b fn c fi bi r:=⟨_,rfl,h,g,e⟩
def vW {Φ:kI} {a:Act} {w:World} (h:Φ .ret a w):∀k:List KI,KS Tryz.prog k Φ .ret a w
 |[]=>h
 | .seq y::k=>vW h k
 | .blk id::k=>vW h k
 | .scope::k=>⟨fun l h=>(by cases h),vW h k⟩
section
variable {b:Bk} {ev:@Ev b} {A:Nat->Prop} {w0:World} {a0:Act} {mm:Nat->St} {w:World} {a:Act} {Φ:kI} {c:Code} {oA:Option (RT Out)} {fi fo fc fd:List AV} {bi bo bc bd:List Mc.dI} {ids:pZ} {k x:Nat}
def uG.go (s:uG b c fi bi ids fo bo o) (ev:@Ev b) (i:@lL b ev Tryz.prog) (e:@fD dY dZ A w0 a0 mm w a fc (fH bc)) (h:∀mm w a,@fD dY dZ A w0 a0 mm w a fd (fH bd)->(Code.loop (bB o)).wpIn (fw none) 9 Tryz.prog (KS Tryz.prog (oK o) Φ) a w)
  (p:fi.map (@lH b ev)=fc:=by rfl) (eb:bi.map (@vR b ev)=bc:=by rfl) (n:fo.map (@lH b ev)=fd:=by rfl) (m:bo.map (@vR b ev)=bd:=by rfl) (g:b.mT=[]:=by rfl):c.wpIn (fw none) 9 Tryz.prog Φ a w:=by
 obtain⟨l,j,f⟩:=s;rw[a0e]at f;obtain⟨r,e⟩:=uU b ev e p eb j g;refine agb b ev i (L:=100000) (d:=60) (k:=100) o l f.1 (a0g _) e ?_;intro mm w a e;obtain⟨q,e⟩:=P6 b ev e f.2 g;rw[n,m]at e;exact h _ _ _ e
def eA.go (s:eA b c fi bi x ids fo bo) (ev:@Ev b) (i:@lL b ev Tryz.prog) (e:@fD dY dZ A w0 a0 mm w a fc (fH bc)) (h:∀mm w a,@fD dY dZ A w0 a0 mm w a fd (fH bd)->Φ (xOf x).to a w)
  (p:fi.map (@lH b ev)=fc:=by rfl) (eb:bi.map (@vR b ev)=bc:=by rfl) (n:fo.map (@lH b ev)=fd:=by rfl) (m:bo.map (@vR b ev)=bd:=by rfl) (g:b.mT=[]:=by rfl):c.wpIn (fw none) 9 Tryz.prog Φ a w:=by
 obtain⟨o,l,j,f⟩:=s;rw[a0e]at f;obtain⟨r,e⟩:=uU b ev e p eb j g;refine Ep b ev i (L:=100000) (d:=60) (k:=100) o l f.1 (a0g _) e ?_;intro mm w a e;obtain⟨q,e⟩:=P6 b ev e f.2 g;rw[n,m]at e;exact h _ _ _ e
def wZ.go (s:wZ b oA k fi bi ids fo bo o) (ev:@Ev b) (h:@lL b ev Tryz.prog) (c:@fD dY dZ A w0 a0 mm w a fc (fH bc)) (g:∀mm w a,@fD dY dZ A w0 a0 mm w a fd (fH bd)->(Code.loop (bB o)).wpIn (fw none) 9 Tryz.prog (KS Tryz.prog (oK o) Φ) a w)
  (n:fi.map (@lH b ev)=fc:=by rfl) (eb:bi.map (@vR b ev)=bc:=by rfl) (m:fo.map (@lH b ev)=fd:=by rfl) (l:bo.map (@vR b ev)=bd:=by rfl) (f:b.mT=[]:=by rfl):KS Tryz.prog (oK oA) Φ (AX.exit k).to a w:=by
 obtain⟨j,i,e⟩:=s;rw[a0e]at e;obtain⟨q,c⟩:=uU b ev c n eb i f;refine age b ev h (L:=100000) (d:=60) o j e.1 (a0g _) c ?_;intro mm w a c;obtain⟨p,c⟩:=P6 b ev c e.2 f;rw[m,l]at c;exact g _ _ _ c
def NT.go (s:NT b oA k fi bi x ids fo bo) (ev:@Ev b) (h:@lL b ev Tryz.prog) (c:@fD dY dZ A w0 a0 mm w a fc (fH bc)) (g:∀mm w a,@fD dY dZ A w0 a0 mm w a fd (fH bd)->Φ (xOf x).to a w)
  (n:fi.map (@lH b ev)=fc:=by rfl) (eb:bi.map (@vR b ev)=bc:=by rfl) (m:fo.map (@lH b ev)=fd:=by rfl) (l:bo.map (@vR b ev)=bd:=by rfl) (f:b.mT=[]:=by rfl):KS Tryz.prog (oK oA) Φ (AX.exit k).to a w:=by
 obtain⟨o,j,i,e⟩:=s;rw[a0e]at e;obtain⟨q,c⟩:=uU b ev c n eb i f;refine Mz b ev h (L:=100000) (d:=60) o j e.1 (a0g _) c ?_;intro mm w a c;obtain⟨p,c⟩:=P6 b ev c e.2 f;rw[m,l]at c;exact g _ _ _ c
def Nl {r r':AV} (ev:@Ev b) (c:((fF Tryz.prog fn (LH o) (oT o).get).bind fun x=>(wA (oT o).get 16 x).map (·.1))=some r) (er:@den b ev 12 r=r') (g:@fD b ev A w0 a0 mm w a (LH o) (oT o).get) {e:Exit} (i:e=.normal\/e=.ret):Fin Tryz.prog fn A w0 a0 r' e a w:=by
 cases f:fF Tryz.prog fn (LH o) (oT o).get with
 |none=>rw[f]at c;cases c
 |some x =>
  rw[f]at c;cases d:wA (oT o).get 16 x with
  |none=>simp[d]at c
  |some y =>
   obtain⟨y,h⟩:=y;simp only[a1p,d,a0s,a0i]at c;subst c;exact⟨i,b,ev,mm,LH o,(oT o).get,x,y,h,g,f,d,er⟩
def ai1.go {r r':AV} (s:ai1 b fn c fi bi r) (ev:@Ev b) (g:@lL b ev Tryz.prog) (e:@fD dY dZ A w0 a0 mm w a fc (fH bc))
  (m:fi.map (@lH b ev)=fc:=by rfl) (eb:bi.map (@vR b ev)=bc:=by rfl) (er:@den b ev 12 r=r':=by rfl) (j:b.mT=[]:=by rfl):c.wpIn (fw none) 9 Tryz.prog (Fin Tryz.prog fn A w0 a0 r') a w:=by
 obtain⟨o,i,l,f,h⟩:=s;obtain⟨n,e⟩:=uU b ev e m eb l j;rw[a15]at f;rcases f with f|f
 .exact Ep b ev g (L:=100000) (d:=60) (k:=100) o i f (a0g _) e fun mm w a e=>Nl ev h er e (.inr rfl)
 .exact Ep b ev g (L:=100000) (d:=60) (k:=100) o i f (a0g _) e fun mm w a e=>Nl ev h er e (.inl rfl)
def kH.go {r r':AV} (s:kH b fn oA k fi bi r) (ev:@Ev b) (f:@lL b ev Tryz.prog) (c:@fD dY dZ A w0 a0 mm w a fc (fH bc))
  (l:fi.map (@lH b ev)=fc:=by rfl) (eb:bi.map (@vR b ev)=bc:=by rfl) (er:@den b ev 12 r=r':=by rfl) (i:b.mT=[]:=by rfl):KS Tryz.prog (oK oA) (Fin Tryz.prog fn A w0 a0 r') (AX.exit k).to a w:=by
 obtain⟨o,h,j,e,g⟩:=s;obtain⟨m,c⟩:=uU b ev c l eb j i;rw[a15]at e;rcases e with e|e
 .exact Mz b ev f (L:=100000) (d:=60) o h e (a0g _) c fun mm w a c=>Nl ev g er c (.inr rfl)
 .exact Mz b ev f (L:=100000) (d:=60) o h e (a0g _) c fun mm w a c=>Nl ev g er c (.inl rfl)
def OE.go {r r':AV} (s:OE b fn c fi bi r) (ev:@Ev b) (h:@lL b ev Tryz.prog) (e:@fD dY dZ A w0 a0 mm w a fc (fH bc)) (f:∀a w,Fin Tryz.prog fn A w0 a0 r' .ret a w->Φ .ret a w)
  (n:fi.map (@lH b ev)=fc:=by rfl) (eb:bi.map (@vR b ev)=bc:=by rfl) (er:@den b ev 12 r=r':=by rfl) (g:b.mT=[]:=by rfl):c.wpIn (fw none) 9 Tryz.prog Φ a w:=by
 obtain⟨o,m,l,j,i⟩:=s;obtain⟨p,e⟩:=uU b ev e n eb l g;exact Ep b ev h (L:=100000) (d:=60) (k:=100) o m j (a0g _) e fun mm w a e=>f _ _ (Nl ev i er e (.inr rfl))
def xK {b:Bk} {ev:@Ev b} (a:@Sx b ev Tryz.prog b.bQ) (h1:b.ext=[]:=by rfl) (c:b.yes=[]:=by rfl):@lL b ev Tryz.prog:=xKn b ev a h1 c
end
def aQ {ρ:Nat->Int} {p:Poly} {z:List cY} {x:cY} {k:Int} (h:z[k.toNat]?=some x) (a:cI ρ p=k:=by simp[cI,uJ]):(bS z)[(cI ρ p).toNat]?=some [.lit 3 (aM x.aN),.i x.p0,.i x.p1,.i x.p2]:=qH a (acX h)
def aL {xs:List Int} {i:Nat} {z:List cU} {x:cU} (h:z[(xs.getD i 0).toNat]?=some x):(bU z)[(cI (fun k=>xs.getD k 0) [([i],1)]).toNat]?=some [.i x.a,.i x.n]:=qH (lZ _ _) (by rw[bU,a0l,h];rfl)
def aY {xs:List Int} {i:Nat} {z:List bP} {x:bP} (h:z[(xs.getD i 0).toNat]?=some x):(aM z)[(cI (fun k=>xs.getD k 0) [([i],1)]).toNat]?=some [.i x.q,.i x.v,.i x.p]:=qH (lZ _ _) (by rw[aM,a0l,h];rfl)
def _root_.Go.Proofs.YtnepgggkgnckcaaGreat.Mc.jT.d {ρ:Nat->Int} {p:Poly} {a b:Int} {l:List (Poly×Int×Int)} (h:jT ρ l) (h1:a<=cI ρ p:=by simp[cI,uJ]<;>omega) (c:cI ρ p<=b:=by simp[cI,uJ]<;>omega):jT ρ ((p,a,b)::l):=.cons h1 c h
end
section
variable {x:bP}
def yR (r:Int):Bool:=decide (0<=r)&&decide (r<=1073741824)
def C8 (r q:Int):Int:=xD (max q 0) r 1
def ofE (r q:Int):Int:=Lo (max q 0) r 1
def Ik {r:Int}:yR r=true↔0<=r/\r<=1073741824:=by simp[yR]
def ahl {r q:Int} (a:yR r=true):0<=C8 r q/\C8 r q<=288230376151711744/\(ofE r q=0\/ofE r q=2):=by
 have a:=Ik.1 a;have:=a0q (show 0<=max q 0 by omega) a.1;simp only[C8,ofE,xD,Lo,a4x];have b:¬ (max q 0<0\/r<0\/(1:Int)<1):=by omega
 simp only[if_neg b];by_cases h:max q 0*r > 288230376151711744
 .simp only[if_pos h];exact⟨by omega,by omega,.inr trivial⟩
 .simp only[if_neg h];exact⟨this,by omega,.inl trivial⟩
def inC (l:List bP) (x:bP) (c:Int):List bP×Int×Int :=
 if yR c=false\/x.q<1\/x.v<0 then(l,0,1)else if ofE c x.q≠0\/288230376151711744<x.v then(l,0,2)else
  if(zS l ⟨x.q,C8 c x.q,x.p⟩).2=0 then((zS l ⟨x.q,C8 c x.q,x.p⟩).1,x.v-C8 c x.q,0)else(l,0,(zS l ⟨x.q,C8 c x.q,x.p⟩).2)
def CQ (l:List bP) (q c:Int):List bP×bP×Int :=
 if yR c=false then(l,.zero,1)else match fN l q with
  |([],y,e)=>([],y,e)
  |(z::t,y,e)=>if e≠0 then(z::t,y,e)else
   let v:=if ofE c q≠0\/z.v+y.v<C8 c q then z.v+y.v else C8 c q
   (⟨z.q,z.v+(y.v-v),z.p⟩::t,⟨y.q,v,y.p⟩,0)
def TC {l m:List bP} {y:bP} {q:Int} (h:LR l) (c:fN l q=(m,y,0)):0<=y.v/\y.v<=288230376151711744/\y.v+vs m=vs l:=by
 by_cases e:q<1
 .rw[fN,if_pos e]at c;cases c
 by_cases d:q<=qs l
 .rw[EA h (by omega) d]at c
  have s:=(tT l .zero q h (by omega) d).2.2.1;have t:=adf l .zero q h;generalize jL l .zero q=r at *;cases c;have a:=fQ t.1.ok;have b:=h.v;simp[bP.zero]at s;have:=t.2.2.1;omega
 .rw[CP h (by omega) (by omega)]at c;cases c
structure uH where
 a:Int
 b:Int
 c:Int
structure ad1 (d:uH):Prop where
 a0:0<=d.a
 b0:0<=d.b
 c0:0<=d.c
 a1:d.a<=288230376151711744
 b1:d.b<=288230376151711744
 c1:d.c<=288230376151711744
def wS (l:List bP) (d:uH):Int:=qs l-d.a-d.b-d.c
def uH.get (d:uH) (k:Int):Int:=if k=0 then d.a else if k=1 then d.b else d.c
def uH.add (d:uH) (k q:Int):uH:=if k=0 then⟨d.a+q,d.b,d.c⟩else if k=1 then⟨d.a,d.b+q,d.c⟩else⟨d.a,d.b,d.c+q⟩
def qB (l:List bP) (d:uH) (k q:Int):uH×Int:=if k<0\/3<=k\/q<1 then(d,1)else if wS l d<q then(d,5)else(d.add k q,0)
def AO (l:List bP) (d:uH) (q:Int):List bP×bP×Int:=if q<1 then(l,.zero,1)else if wS l d<q then(l,.zero,5)else fN l q
def anl {l:List bP} {c:Int} (h:LR l):LR (inC l x c).1:=by
 unfold inC;split
 .exact h
 .split
  .exact h
  .split
   .exact RW h
   .exact h
def ajT {l:List bP} {q c:Int} (h:LR l):LR (CQ l q c).1:=by
 unfold CQ;split
 .exact h
 .have d:=nL (q:=q) h
  split
  .exact LR.nil
  .rename_i z t y e j
   rw[j]at d;split
   .exact d
   .rename_i o
    have i:e=0:=(by simpa using o);subst i;obtain⟨w,u,n⟩:=TC h j;have A:=d.at_ (x:=z) (by simp);have r:=h.v;have s:=(fQ d.tail.ok).2.1
    rw[kD]at n;have key:∀v:Int,(0<=v/\v<=z.v+y.v)->LR (⟨z.q,z.v+(y.v-v),z.p⟩::t):=by
     intro v B;obtain⟨a,b,m,E,k⟩:=d;refine⟨by simpa using a,fun x f=>?_,?_,?_,?_⟩
     .rcases a0d.1 f with rfl|f
      .exact eE.2 ⟨by simp only;omega,by simp only;omega,by simp only;omega,by simp only;omega,by simp only;omega,by simp only;omega⟩
      .exact b x (by simp[f])
     .rw[gE]at m |-;exact m
     .rw[kD];simp only;omega
     .rw[wW]at k |-;exact k
    simp only;apply key;split
    .omega
    .rename_i C
     have g:yR c=true:=by cases D:yR c<;>simp_all
     have:=(ahl (q:=q) g).1;omega
def ajQ {l:List bP} {d:uH} {q:Int} (h:LR l):LR (AO l d q).1:=by
 unfold AO;split
 .exact h
 .split
  .exact h
  .exact nL h
def eR (m c:Int) (l:List bP) (x:bP):List bP×Int×Int :=
 if m=1 then((CT l x).1,0,(CT l x).2)else if m=2 then((zS l x).1,0,(zS l x).2)else if m=3 then((zS l x).1,0,(zS l x).2)else if m=4 then inC l x c else(l,0,12)
def abL {l:List bP} {x:bP} (h:(zS l x).2≠0):(zS l x).1=l:=by
 unfold zS at h |-;split
 .rw[if_pos ‹_›]at h;exact absurd rfl h
 .rfl
def ank {l:List bP} {c:Int} (h:(inC l x c).2.2≠0):(inC l x c).1=l/\(inC l x c).2.1=0:=by
 unfold inC at h |-;split
 .exact⟨rfl,rfl⟩
 .rw[if_neg ‹_›]at h
  split
  .exact⟨rfl,rfl⟩
  .rw[if_neg ‹_›]at h
   split
   .rw[if_pos ‹_›]at h;exact absurd rfl h
   .exact⟨rfl,rfl⟩
def MN {m c:Int} {l:List bP} {x:bP} (h:(eR m c l x).2.2≠0):(eR m c l x).1=l/\(eR m c l x).2.1=0:=by
 unfold eR at h |-;split
 .rw[if_pos ‹_›]at h;exact⟨ahR h,rfl⟩
 .rw[if_neg ‹_›]at h
  split
  .rw[if_pos ‹_›]at h;exact⟨abL h,rfl⟩
  .rw[if_neg ‹_›]at h
   split
   .rw[if_pos ‹_›]at h;exact⟨abL h,rfl⟩
   .rw[if_neg ‹_›]at h
    split
    .rw[if_pos ‹_›]at h;exact ank h
    .exact⟨rfl,rfl⟩
def aa4 {m c:Int} {l:List bP} (h:LR l):LR (eR m c l x).1:=by
 unfold eR;split
 .exact ahS h
 .split
  .exact RW h
  .split
   .exact RW h
   .split
    .exact anl h
    .exact h
def Aq {l:List bP} {q:Int} (h:(fN l q).2.2≠0):(fN l q).1=l/\(fN l q).2.1=.zero:=by
 unfold fN at h |-;split
 .exact⟨rfl,rfl⟩
 .rw[if_neg ‹_›]at h
  split
  .exact⟨rfl,rfl⟩
  .rw[if_neg ‹_›]at h;exact absurd rfl h
def ajP {l:List bP} {d:uH} {q:Int} (h:(AO l d q).2.2≠0):(AO l d q).1=l/\(AO l d q).2.1=.zero:=by
 unfold AO at h |-;split
 .exact⟨rfl,rfl⟩
 .rw[if_neg ‹_›]at h
  split
  .exact⟨rfl,rfl⟩
  .rw[if_neg ‹_›]at h;exact Aq h
def ajS {l:List bP} {q c:Int} (h:(CQ l q c).2.2≠0):(CQ l q c).1=l/\(CQ l q c).2.1=.zero:=by
 unfold CQ at h |-;split
 .exact⟨rfl,rfl⟩
 .rename_i b
  rw[if_neg b]at h;split
  .rename_i y e a
   rw[a]at h;have:=Aq (l:=l) (q:=q) (by rw[a];exact h);rw[a]at this;exact this
  .rename_i z t y e a
   rw[a]at h;simp only at h |-;split
   .rename_i d
    have:=Aq (l:=l) (q:=q) (by rw[a];exact d);rw[a]at this;exact this
   .rw[if_neg ‹_›]at h
    exact absurd rfl h
def fR (m c:Int) (l:List bP) (d:uH) (q:Int):List bP×bP×Int:=if m=3 then AO l d q else if m=4 then CQ l q c else fN l q
def cX (m c:Int) (l:List bP) (d:uH) (kind q:Int):List bP×uH×bP×Bool×Int :=
 if m<1\/4<m then(l,d,.zero,false,12)else if kind<0\/3<kind then(l,d,.zero,false,1)
 else if m=3/\kind≠3 then(l,(qB l d kind q).1,.zero,decide ((qB l d kind q).2=0),(qB l d kind q).2)
 else((fR m c l d q).1,d,(fR m c l d q).2.1,false,(fR m c l d q).2.2)
def abz {m c:Int} {l:List bP} {d:uH} {q:Int} (h:LR l):LR (fR m c l d q).1:=by
 unfold fR;split
 .exact ajQ h
 .split
  .exact ajT h
  .exact nL h
def aby {m c:Int} {l:List bP} {d:uH} {q:Int} (h:(fR m c l d q).2.2≠0):(fR m c l d q).1=l/\(fR m c l d q).2.1=.zero:=by
 unfold fR at h |-;split
 .rw[if_pos ‹_›]at h;exact ajP h
 .rw[if_neg ‹_›]at h
  split
  .rw[if_pos ‹_›]at h;exact ajS h
  .rw[if_neg ‹_›]at h;exact Aq h
def Tu {m c:Int} {l:List bP} {d:uH} {kind q:Int} (h:LR l):LR (cX m c l d kind q).1:=by
 unfold cX;split
 .exact h
 .split
  .exact h
  .split
   .exact h
   .exact abz h
end
section
open Mc
namespace Fr
end Fr
namespace Fr
end Fr
end
section
end
section
open Mc
namespace FT
abbrev tF (a b c l n i:AV):List AV:=fr 67 [(2,.ptr 3 0 0 0),(3,.i 0),(4,a),(5,b),(6,c),(14,l),(15,n),(16,i)]
abbrev SP (i:AV):List AV:=fr 67 [(2,.ptr 3 0 0 0),(3,.i 0),(9,.ptr 3 1 0 0),(45,.own 238 2 2 0 3),(46,.i 3),(47,i)]
abbrev zB:Mc.dI:=.cells 101 3 [[.i 0,.i 0,.i 0]]
abbrev cB (R:List (List AV)):Mc.dI:=.cells 3 1 R
abbrev tB (Q V P:List (List AV)):List Mc.dI:=[zB,cB Q,cB V,cB P]
abbrev tB2 (n:Nat) (a b c:Int) (Q V P:List (List AV)):List Mc.dI:=[zB,.cells 101 3 [[.i a,.i b,.i c]],.cells 238 2 [[.ptr 3 1 0 0,.own 3 1 3 0 n],[.ptr 3 1 0 1,.own 3 1 4 0 n],[.ptr 3 1 0 2,.own 3 1 5 0 n]],cB Q,cB V,cB P]
abbrev fT (L:List bP) (j:Nat) (i:Int):List AV:=tF (.own 3 1 1 0 j) (.own 3 1 2 0 j) (.own 3 1 3 0 j) (.lit 3 (aM L)) (.i (L.length:Int)) (.i i)
noncomputable def body:Code:=(Tryz.f169).body.getD .skip
abbrev al7 (c:Code) (r:Option (RT Out)):Prop:=uG { vars:=[(0,30)],lens:=KeY } c ([.q 3 0]++List.replicate 66 .undef) [] [some 0,none,none,none] (tF (.own 3 1 1 0 0) (.own 3 1 2 0 0) (.own 3 1 3 0 0) (.q 3 0) (.v 0) (.i 0)) [KaS,KeZ,KeZ,KeZ] r
noncomputable def Te:Option (RT Out):=yZ { vars:=[(0,30)],lens:=KeY } body ([.q 3 0]++List.replicate 66 .undef:List AV).length ([.q 3 0]++List.replicate 66 .undef) [] 0
def aog:al7 body Te:=⟨by unfold Te;rfl,by decide +kernel,by decide +kernel⟩
abbrev abi (o:Option (RT Out)) (r:Option (RT Out)):Prop:=wZ { vars:=[(0,30)],lens:=Wl } o 0 (tF Kdi Kdj Kdk (.q 3 0) (.v 0) (.v 0)) J7 [some 0,some 4,some 5,some 1,some 2,some 3] (SP (.i 0)) Kq r
noncomputable def aaJ:Option (RT Out):=Oa { vars:=[(0,30)],lens:=Wl } Te 0 (tF Kdi Kdj Kdk (.q 3 0) (.v 0) (.v 0):List AV).length (tF Kdi Kdj Kdk (.q 3 0) (.v 0) (.v 0)) J7 4
def amR:abi Te aaJ:=⟨by unfold aaJ;rfl,by decide +kernel,by decide +kernel⟩
abbrev ama (c:Code):Prop:=eA { vars:=[(0,30)],lens:=Wl,bQ:=[(72,[.q 1 1],(.bE [.o 0,.i 0]))] } c (SP (.i 0)) Kq 0 [some 0,some 1,some 2,some 3,some 4,some 5] (SP (.i 1)) Kr
abbrev al9 (c:Code):Prop:=eA { vars:=[(0,30)],lens:=Wl,bQ:=[(72,[.q 1 2],(.bE [.o 1,.i 0]))] } c (SP (.i 1)) Kr 0 [some 0,some 1,some 2,some 3,some 4,some 5] (SP (.i 2)) Ks
abbrev al8 (c:Code):Prop:=eA { vars:=[(0,30)],lens:=Wl,bQ:=[(72,[.q 1 3],(.bE [.o 2,.i 0]))] } c (SP (.i 2)) Ks 0 [some 0,some 1,some 2,some 3,some 4,some 5] (SP (.i 3)) Kt
abbrev agU (c:Code):Prop:=eA { vars:=[(0,30)],lens:=Wl } c (SP (.i 3)) Kt 4 [some 0,some 1,some 2,some 3,some 4,some 5] (SP (.i 3)) Kt
abbrev al6 (o:Option (RT Out)):Prop:=kH { vars:=[(0,30)],lens:=Wl } Tryz.f169 o 2 (SP (.i 3)) Kt (Bx)
section
variable {A:Nat->Prop} {w0:World} {a0:Act} {L:List bP} {Q V P:List Int} {tq tv tp:Int}
def FD {o:Option (RT Out)} (r0:ama (bB o)) (r1:al9 (bB o)) (r2:al8 (bB o)) (d:agU (bB o)) (c:al6 o) (p:L.length<=30) (l:Q.length=L.length) (k:V.length=L.length) (m:P.length=L.length)
  (h:Ck 72 [.lit 1 (aA Q)] (.bE [.i tq,.i 0])) (g:Ck 72 [.lit 1 (aA V)] (.bE [.i tv,.i 0])) (f:Ck 72 [.lit 1 (aA P)] (.bE [.i tp,.i 0]))
  (mm:Nat->St) (w:World) (a:Act) (b:@fD dY dZ A w0 a0 mm w a (SP (.i 0)) (fH (tB2 L.length 0 0 0 (aA Q) (aA V) (aA P)))):(Code.loop (bB o)).wpIn (fw none) 9 Tryz.prog (KS Tryz.prog (oK o) (Fin Tryz.prog Tryz.f169 A w0 a0 (.bE [.agg [.i tq,.i tv,.i tp],.i 0]))) a w:=by
 have q:(aM L).length=L.length:=by simp[aM]
 refine dQ (fun n a w=>∃(j:Nat) (x y z:Int),n=3-j/\(j=0/\x=0/\y=0/\z=0\/j=1/\tq=x/\y=0/\z=0\/j=2/\tq=x/\tv=y/\z=0\/j=3/\tq=x/\tv=y/\tp=z)/\∃mm,@fD dY dZ A w0 a0 mm w a (SP (.i (j:Int))) (fH (tB2 L.length x y z (aA Q) (aA V) (aA P)))) ?_ (n:=3) ⟨0,0,0,0,rfl,.inl ⟨rfl,rfl,rfl,rfl⟩,mm,b⟩;rintro n a w ⟨j,x,y,z,rfl,e,mm,b⟩;rcases e with⟨rfl,rfl,rfl,rfl⟩|⟨rfl,rfl,rfl,rfl⟩|⟨rfl,rfl,rfl,rfl⟩|⟨rfl,rfl,rfl,rfl⟩
 .refine r0.go (ev1 _ [(L.length:Int)] [.I tq,.I tv,.I tp] [aM L,aA Q,aA V,aA P] .nil) (xK (kc h kn)) b (fd:=SP (.i 1)) (bd:=tB2 L.length tq 0 0 (aA Q) (aA V) (aA P)) ?_
  exact fun mm w a b=>⟨_,by omega,1,_,_,_,rfl,.inr (.inl ⟨rfl,rfl,rfl,rfl⟩),mm,b⟩
 .refine r1.go (ev1 _ [(L.length:Int)] [.I tq,.I tv,.I tp] [aM L,aA Q,aA V,aA P] .nil) (xK (kc g kn)) b (fd:=SP (.i 2)) (bd:=tB2 L.length tq tv 0 (aA Q) (aA V) (aA P)) ?_
  exact fun mm w a b=>⟨_,by omega,2,_,_,_,rfl,.inr (.inr (.inl ⟨rfl,rfl,rfl,rfl⟩)),mm,b⟩
 .refine r2.go (ev1 _ [(L.length:Int)] [.I tq,.I tv,.I tp] [aM L,aA Q,aA V,aA P] .nil) (xK (kc f kn)) b (fd:=SP (.i 3)) (bd:=tB2 L.length tq tv tp (aA Q) (aA V) (aA P)) ?_
  exact fun mm w a b=>⟨_,by omega,3,_,_,_,rfl,.inr (.inr (.inr ⟨rfl,rfl,rfl,rfl⟩)),mm,b⟩
 .refine d.go (ev1 _ [(L.length:Int)] [.I tq,.I tv,.I tp] [aM L,aA Q,aA V,aA P] .nil) (xK kn) b ?_
  intro mm w a b;exact c.go (ev1 _ [(L.length:Int)] [.I tq,.I tv,.I tp] [aM L,aA Q,aA V,aA P] .nil) (xK kn) b
def next {o b:Option (RT Out)} (c:abi o b) (j:L.length<=30) (g:Q.length=L.length) (f:V.length=L.length) (h:P.length=L.length) {Φ:kI}
  (e:∀mm w a,@fD dY dZ A w0 a0 mm w a (SP (.i 0)) (fH (tB2 L.length 0 0 0 (aA Q) (aA V) (aA P)))->(Code.loop (bB b)).wpIn (fw none) 9 Tryz.prog (KS Tryz.prog (oK b) Φ) a w)
  (mm:Nat->St) (w:World) (a:Act) (d:@fD dY dZ A w0 a0 mm w a (fT L L.length L.length) (fH (tB (aA Q) (aA V) (aA P)))):KS Tryz.prog (oK o) Φ (AX.exit 0).to a w:=by
 have k:(aM L).length=L.length:=by simp[aM]
 exact c.go (ev1 _ [(L.length:Int)] [] [aM L,aA Q,aA V,aA P] .nil) (xK kn) d (fd:=SP (.i 0)) (bd:=tB2 L.length 0 0 0 (aA Q) (aA V) (aA P)) e
end
def walk (oA l:Option (RT Out)) (K:al7 body oA) (J:eA { vars:=[(0,30),(0,29)],facts:=[(Ket,1,30)],lens:=[Kfc,Kfe,(2,[([1],1)]),(3,[([1],1)])],iG:=[(0,[([1],1)],KeN)] } (bB oA) (tF Kdl (.dD 3 1 2 [([1],1)]) Kdm (.q 3 0) (.v 0) (.v 1)) [KaS,(.sc 3 1 1 [] [] [([1],1)]),(.sc 3 1 2 [] [] [([1],1)]),(.sc 3 1 3 [] [] [([1],1)])] 0 [some 0,some 6,some 8,some 10] (tF KbD (.dD 3 1 2 KeO) (.dD 3 1 3 KeO) (.q 3 0) (.v 0) KdU) [KaS,(.sc 3 1 1 [] [[.o 0]] KeO),(.sc 3 1 2 [] [[.o 1]] KeO),(.sc 3 1 3 [] [[.o 2]] KeO)]) (H:eA { vars:=[(0,30)],lens:=Wl } (bB oA) (tF Kdi Kdj Kdk (.q 3 0) (.v 0) (.v 0)) J7 2 [some 0,some 1,some 2,some 3] (tF Kdi Kdj Kdk (.q 3 0) (.v 0) (.v 0)) J7) (z:abi oA l) (r0:ama (bB l)) (r1:al9 (bB l)) (r2:al8 (bB l)) (y:agU (bB l)) (G:al6 l) {L:List bP} (h:LR L) :
  Ck 169 [.lit 3 (aM L)] (.bE [(⟨qs L,vs L,ps L⟩:bP).av,.i 0]):=by
 have B:=h.len;have X:(aM L).length=L.length:=by simp[aM]
 obtain⟨F,E,D,-⟩:=h.FD;have r:∀{f:bP->Int} {s:Int},dM 0 (L.map f)=some s->(∀x∈L,kS (f x))->Ck 72 [.lit 1 (aA (L.map f))] (.bE [.i s,.i 0]):=by
  intro f s e N;have:=qT (L.map f) (fun v M=>by obtain⟨x,g,rfl⟩:=a0j.1 M;exact N x g);unfold dP eB at this;rw[e]at this;exact this
 have W:=r F (fun x g=>by have:=h.at_ g;exact⟨by omega,by omega⟩);have U:=r E (fun x g=>by have:=h.at_ g;exact⟨by omega,by omega⟩);have T:=r D (fun x g=>by have:=h.at_ g;exact⟨by omega,by omega⟩);refine CK.hY Tryz.func169 (c:=body) (by kernel_rfl) (Cw.out) (yY.out) fun A w0 a0=>?_;intro mm w a b;rw[Tryz.ntmps169]at b;refine K.go (ev1 _ [(L.length:Int)] [] [aM L] .nil) (xK kn) b (fd:=fT L 0 0) (bd:=tB [] [] []) ?_;intro mm w a b;refine dQ (fun n a w=>∃j:Nat,n=L.length-j/\j<=L.length/\∃mm,@fD dY dZ A w0 a0 mm w a (fT L j j) (fH (tB (aA ((L.take j).map (·.q))) (aA ((L.take j).map (·.v))) (aA ((L.take j).map (·.p)))))) ?_ (n:=L.length) ⟨0,rfl,a0n _,mm,b⟩;rintro n a w ⟨j,rfl,Y,mm,b⟩;rcases(by omega:j=L.length\/j<L.length)with rfl|C
 .rw[a1g]at b
  have k:∀f:bP->Int,(L.map f).length=L.length:=fun f=>by simp
  have e1:=k (·.q);have e2:=k (·.v);have u:=k (·.p);generalize L.map (·.q)=Q at *;generalize L.map (·.v)=V at *;generalize L.map (·.p)=P at *;refine H.go (ev1 _ [(L.length:Int)] [] [aM L,aA Q,aA V,aA P] .nil) (xK kn) b ?_;exact next z B e1 e2 u (FD r0 r1 r2 y G B e1 e2 u W U T)
 .obtain⟨x,m⟩:∃x,L[j]?=some x:=⟨_,a0f C⟩
  have g:L[(j:Int).toNat]?=some x:=by simpa using m
  have k:∀f:bP->Int,((L.take j).map f).length=j:=fun f=>by simp;omega
  have t:∀f:bP->Int,aA ((L.take j).map f)++[[.i (f x)]]=aA ((L.take (j+1)).map f):=fun f=>by rw[a0u,m];simp[aA]
  have e1:=k (·.q);have e2:=k (·.v);have u:=k (·.p);have S:=t (·.q);have R:=t (·.v);have O:=t (·.p)
  have nx:∀mm w a,@fD dY dZ A w0 a0 mm w a (fT L (1+(j:Int)).toNat (1+(j:Int))) (fH (tB (aA ((L.take (j+1)).map (·.q))) (aA ((L.take (j+1)).map (·.v))) (aA ((L.take (j+1)).map (·.p)))))->∃n',n'<L.length-j/\∃j:Nat,n'=L.length-j/\j<=L.length/\∃mm,@fD dY dZ A w0 a0 mm w a (fT L j j) (fH (tB (aA ((L.take j).map (·.q))) (aA ((L.take j).map (·.v))) (aA ((L.take j).map (·.p))))):=by
   intro mm w a b;rw[show(1+(j:Int))=((j+1:Nat):Int)by omega,a00]at b;exact⟨_,by omega,j+1,rfl,by omega,mm,b⟩
  rw[<-S,<-R,<-O]at nx;generalize (L.take j).map (·.q)=Q at *;generalize (L.take j).map (·.v)=V at *;generalize (L.take j).map (·.p)=P at *;exact J.go (ev1 _ [(L.length:Int),(j:Int)] [.I x.q,.I x.v,.I x.p] [aM L,aA Q,aA V,aA P] (.d (aY g) .nil)) (xK kn) b (fd:=fT L (1+(j:Int)).toNat (1+(j:Int))) (bd:=tB (aA Q++[[.i x.q]]) (aA V++[[.i x.v]]) (aA P++[[.i x.p]])) nx
end FT
def PA {l:List bP} (h:LR l):Ck 169 [.lit 3 (aM l)] (.bE [(⟨qs l,vs l,ps l⟩:bP).av,.i 0]) :=
 FT.walk FT.Te FT.aaJ FT.aog .of .of FT.amR .of .of .of .of .of h
end
section
open Mc
def cY.pn (p:cY):uH:=⟨p.p0,p.p1,p.p2⟩
def T9 {l:List bP} {x:bP}:0<=(CT l x).2/\(CT l x).2<=20:=by
 unfold CT;split
 .exact⟨by simp,by simp⟩
 .split
  .exact⟨by simp,by simp⟩
  .split<;>exact⟨by simp,by simp⟩
end
section
variable {x:bP}
def ajN (d:uH) (k q:Int):(d.add k q).a+(d.add k q).b+(d.add k q).c=d.a+d.b+d.c+q:=by
 unfold uH.add;split
 .simp only;omega
 .split<;>(simp only;omega)
def aa5 {d:uH} (h:ad1 d) (k:Int):0<=d.get k/\d.get k<=d.a+d.b+d.c:=by
 have g:=h.a0;have f:=h.b0;have e:=h.c0;unfold uH.get;split
 .omega
 .split<;>omega
structure jS (m:Int) (l:List bP) (d:uH):Prop where
 lr:LR l
 one:m=1\/l.length<=1
 a0:0<=d.a
 b0:0<=d.b
 c0:0<=d.c
 sum:d.a+d.b+d.c<=qs l
 zero:m=3\/(d.a=0/\d.b=0/\d.c=0)
def jS.pnd {m:Int} {l:List bP} {d:uH} (h:jS m l d):ad1 d:=by
 have:=h.lr.q;have:=h.sum;have:=h.a0;have:=h.b0;have:=h.c0;exact⟨by omega,by omega,by omega,by omega,by omega,by omega⟩
def ER {l m:List bP} (h:CT l x=(m,0)):m=l++[x]/\qs m=qs l+x.q/\vs m=vs l+x.v/\LR m/\1<=x.q:=by
 unfold CT at h;split at h
 .cases h
 .rename_i b
  split at h
  .cases h
  .split at h
   .rename_i a
    cases h;exact⟨rfl,by rw[FO];simp[qs],by rw[Fz];simp[vs],LR.of a,by omega⟩
   .cases h
def wQ {l m:List bP} (h:zS l x=(m,0)):m.length=1/\qs m=qs l+x.q/\vs m=vs l+x.v/\1<=x.q:=by
 unfold zS at h;split at h
 .rename_i a
  cases h;obtain⟨k,e,b⟩:∃k e,CT l x=(k,e):=⟨_,_,rfl⟩;rw[b]at a |-;simp only at a |-;subst a;obtain⟨-,f,d,c,g⟩:=ER b;refine⟨rfl,?_,?_,g⟩
  .rw[c.uL.1];simp[qs]at f |-;exact f
  .rw[c.uL.1];simp[vs]at d |-;exact d
 .rename_i a
  exact absurd (congrArg Prod.snd h) a
def jS.in_ {m c:Int} {l l':List bP} {d:uH} {up e':Int} (h:jS m l d) (A:1<=m/\m<=4) (a:eR m c l x=(l',up,e')) :
  jS m l' d/\(e'=0->vs l'=vs l+x.v-up)/\(e'≠0->l'=l):=by
 have i:LR (eR m c l x).1:=aa4 h.lr;have g:=@MN m c l x;rw[a]at i g;simp only at i g;by_cases s:e'=0
 .subst s
  have key:qs l'=qs l+x.q/\vs l'=vs l+x.v-up/\1<=x.q/\(m=1\/l'.length<=1):=by
   unfold eR at a;split at a
   .have f:CT l x=(l',0):=Prod.ext (congrArg (fun r=>r.1) a) (congrArg (fun r=>r.2.2) a)
    have o:up=0:=(congrArg (fun r=>r.2.1) a).symm;obtain⟨-,e,j,-,b⟩:=ER f;exact⟨e,by omega,b,.inl ‹_›⟩
   .split at a
    .have f:zS l x=(l',0):=Prod.ext (congrArg (fun r=>r.1) a) (congrArg (fun r=>r.2.2) a)
     have o:up=0:=(congrArg (fun r=>r.2.1) a).symm;obtain⟨t,e,j,b⟩:=wQ f;exact⟨e,by omega,b,.inr (by omega)⟩
    .split at a
     .have f:zS l x=(l',0):=Prod.ext (congrArg (fun r=>r.1) a) (congrArg (fun r=>r.2.2) a)
      have o:up=0:=(congrArg (fun r=>r.2.1) a).symm;obtain⟨t,e,j,b⟩:=wQ f;exact⟨e,by omega,b,.inr (by omega)⟩
     .split at a
      .unfold inC at a
       split at a
       .cases a
       .split at a
        .cases a
        .split at a
         .rename_i k
          have f:zS l ⟨x.q,C8 c x.q,x.p⟩=(l',0):=Prod.ext (congrArg (fun r=>r.1) a) k;have o:up=x.v-C8 c x.q:=(congrArg (fun r=>r.2.1) a).symm;obtain⟨t,e,j,b⟩:=wQ f;simp only at e j b;exact⟨e,by omega,b,.inr (by omega)⟩
         .rename_i k
          exact absurd (congrArg (fun r=>r.2.2) a) k
      .cases a
  obtain⟨z,w,y,u⟩:=key;have:=h.sum;exact⟨⟨i,u,h.a0,h.b0,h.c0,by omega,h.zero⟩,fun _=>w,fun n=>absurd rfl n⟩
 .obtain⟨rfl,-⟩:=g s
  exact⟨h,fun n=>absurd n s,fun _=>rfl⟩
def wM {l m:List bP} {y:bP} {q:Int} (h:LR l) (a:fN l q=(m,y,0)):1<=q/\q<=qs l/\qs m=qs l-q/\y.v+vs m=vs l/\m.length<=l.length/\0<=y.v:=by
 have f:¬ q<1:=fun h=>by rw[fN,if_pos h]at a;cases a
 have c:q<=qs l:=by
  rcases(by omega:qs l<q\/q<=qs l)with h'|h'
  .rw[CP h (by omega) h']at a;cases a
  .exact h'
 have hs:=TC h a;have b:=EC (l:=l) (q:=q);rw[a]at b;have d:=tT l .zero q h (by omega) c;rw[EA h (by omega) c]at a;have e:m=(jL l .zero q).1:=(congrArg (fun r=>r.1) a).symm;rw[<-e]at d;exact⟨by omega,c,d.2.1,by omega,b,hs.1⟩
def ag8 {l m:List bP} {y:bP} {q c:Int} (h:LR l) (f:CQ l q c=(m,y,0)):1<=q/\q<=qs l/\qs m=qs l-q/\y.v+vs m=vs l/\m.length<=l.length:=by
 unfold CQ at f;split at f
 .exact absurd (congrArg (fun r=>r.2.2) f) (by simp)
 .split at f
  .rename_i g s o
   have n:s=0:=congrArg (fun r=>r.2.2) f;have k:[]=m:=congrArg (fun r=>r.1) f;have j:g=y:=congrArg (fun r=>r.2.1) f;subst n k j;obtain⟨a,b,c,d,e,-⟩:=wM h o;exact⟨a,b,c,d,e⟩
  .rename_i z t g s o
   split at f
   .rename_i i
    exact absurd (congrArg (fun r=>r.2.2) f) i
   .rename_i i
    have n:s=0:=(by simpa using i);subst n;obtain⟨a,b,u,d,e,-⟩:=wM h o;simp only at f;generalize (if ofE c q≠0\/z.v+g.v<C8 c q then z.v+g.v else C8 c q)=V at f;have k:(⟨z.q,z.v+(g.v-V),z.p⟩:bP)::t=m:=congrArg (fun r=>r.1) f;have j:(⟨g.q,V,g.p⟩:bP)=y:=congrArg (fun r=>r.2.1) f;subst k j;rw[gE]at u;rw[kD]at d;refine⟨a,b,?_,?_,by simpa using e⟩
    .rw[gE];exact u
    .rw[kD];simp only;omega
def jS.am1 {m c:Int} {l l':List bP} {d d':uH} {y:bP} {wt:Bool} {kind q e':Int} (h:jS m l d) (I:1<=m/\m<=4) (J:0<=kind/\kind<=3) (e:cX m c l d kind q=(l',d',y,wt,e')) :
  jS m l' d'/\y.v+vs l'=vs l:=by
 have i:LR (cX m c l d kind q).1:=Tu h.lr;rw[e]at i;simp only at i;unfold cX at e;rw[if_neg (by omega),if_neg (by omega)]at e;by_cases t:m=3/\kind≠3
 .rw[if_pos t]at e
  obtain⟨rfl,D⟩:=t;have e1:l=l':=congrArg (fun r=>r.1) e;have e2:(qB l d kind q).1=d':=congrArg (fun r=>r.2.1) e;have k:bP.zero=y:=congrArg (fun r=>r.2.2.1) e;subst e1 k;refine⟨?_,by simp[bP.zero]⟩;unfold qB at e2;split at e2
  .subst e2;exact h
  .split at e2
   .subst e2;exact h
   .rename_i L w
    subst e2;have j:wS l d=qs l-d.a-d.b-d.c:=rfl;rw[j]at w;have hs:=ajN d kind q;have K:=aa5 h.pnd kind;have z:=h.a0;have p:=h.b0;have o:=h.c0
    have g:0<=(d.add kind q).a/\0<=(d.add kind q).b/\0<=(d.add kind q).c:=by
     unfold uH.add;split
     .exact⟨by simp only;omega,p,o⟩
     .split
      .exact⟨z,by simp only;omega,o⟩
      .exact⟨z,p,by simp only;omega⟩
    have u:(d.add kind q).a+(d.add kind q).b+(d.add kind q).c<=qs l:=(by omega);exact⟨h.lr,h.one,g.1,g.2.1,g.2.2,u,.inl rfl⟩
 .rw[if_neg t]at e
  have e1:(fR m c l d q).1=l':=congrArg (fun r=>r.1) e;have e2:d=d':=congrArg (fun r=>r.2.1) e;have k:(fR m c l d q).2.1=y:=congrArg (fun r=>r.2.2.1) e;subst e2;by_cases x:(fR m c l d q).2.2=0
  .have f:fR m c l d q=(l',y,0):=Prod.ext e1 (Prod.ext k x)
   have key:qs l'=qs l-q/\y.v+vs l'=vs l/\l'.length<=l.length/\d.a+d.b+d.c<=qs l-q:=by
    unfold fR at f;split at f
    .unfold AO at f
     split at f
     .exact absurd (congrArg (fun r=>r.2.2) f) (by simp)
     .split at f
      .exact absurd (congrArg (fun r=>r.2.2) f) (by simp)
      .rename_i w
       obtain⟨-,-,a,b,n,-⟩:=wM h.lr f;have j:wS l d=qs l-d.a-d.b-d.c:=rfl;rw[j]at w;exact⟨a,b,n,by omega⟩
    .rename_i A
     have H:d.a=0/\d.b=0/\d.c=0:=by
      rcases h.zero with h'|h'
      .exact absurd h' A
      .exact h'
     split at f
     .obtain⟨-,s,a,b,n⟩:=ag8 h.lr f
      exact⟨a,b,n,by omega⟩
     .obtain⟨-,s,a,b,n,-⟩:=wM h.lr f
      exact⟨a,b,n,by omega⟩
   obtain⟨G,s,F,E⟩:=key;refine⟨⟨i,?_,h.a0,h.b0,h.c0,by omega,h.zero⟩,s⟩;rcases h.one with h'|h'
   .exact .inl h'
   .exact .inr (by omega)
  .obtain⟨C,B⟩:=aby x
   rw[C]at e1;rw[B]at k;subst e1 k;exact⟨h,by simp[bP.zero]⟩
def TB {l:List bP} (a:LR l) {q:Int}:0<=(fN l q).2.1.v/\(fN l q).2.1.v<=288230376151711744:=by
 by_cases h:(fN l q).2.2=0
 .have b:=a.v
  have:=wM a (m:=(fN l q).1) (y:=(fN l q).2.1) (by rw[<-h]);have:=(fQ (nL (q:=q) a).ok).2.1;omega
 .rw[(Aq h).2];simp[bP.zero]
def ag5 {l:List bP} (a:LR l) {q:Int}:(0<=(fN l q).2.1.q/\(fN l q).2.1.q<=288230376151711744)/\-576460752303423488<=(fN l q).2.1.p/\(fN l q).2.1.p<=576460752303423488:=by
 by_cases h:(fN l q).2.2=0
 .have g:=a.q
  obtain⟨f,b,-⟩:=wM a (m:=(fN l q).1) (y:=(fN l q).2.1) (by rw[<-h]);have e:=nL (q:=q) a;have i:=Ew l;have a2:=a.p;have d:=Ew (fN l q).1;have c:=e.p;rw[EA a f b]at d c |-;have s:=tT l .zero q a (by omega) b;simp only[bP.zero]at s d c |-;omega
 .rw[(Aq h).2];simp[bP.zero]
def abj {l:List bP} (h:LR l) {q:Int}:((fN l q).2.2=0/\1<=q/\q<=qs l/\(fN l q).2.1.q=q/\qs (fN l q).1=qs l-q/\(fN l q).2.1.v+vs (fN l q).1=vs l/\(fN l q).2.1.p+ps (fN l q).1=ps l)\/(((fN l q).2.2=1/\q<1\/(fN l q).2.2=5/\qs l<q)/\(fN l q).1=l/\(fN l q).2.1=.zero):=by
 by_cases b:q<1
 .right;unfold fN;rw[if_pos b];exact⟨.inl ⟨rfl,b⟩,rfl,rfl⟩
 by_cases a:q<=qs l
 .left
  rw[EA h (by omega) a];have s:=tT l .zero q h (by omega) a;simp only[bP.zero]at s |-;exact⟨trivial,by omega,a,by omega,s.2.1,by omega,by omega⟩
 .right;rw[CP h (by omega) (by omega)];exact⟨.inr ⟨rfl,by omega⟩,rfl,rfl⟩
def LR.bds {l:List bP} (h:LR l):kS (qs l)/\kS (vs l)/\kS (ps l):=by
 have e:=fQ h.ok;have d:=h.q;have c:=h.v;have b:=h.p;have a:=Ew l;exact⟨⟨by omega,by omega⟩,⟨by omega,by omega⟩,⟨by omega,by omega⟩⟩
end
section
open Mc
variable {L:List bP}
def mP {l:List bP} (h:fM (flat l)):Ck 198 [.lit 3 (aM l)] (.bE [(uL l).av,.i (N5 l)]):=by
 refine⟨bL (Fa _).lit fW,.bE _ (bL (aiE _) (bL (.c _) fW)),?_⟩;intro A w vs m k f d;have b:=uX f;generalize vs.getD 0 Go.undef=j at b;subst b;obtain⟨a,cap,rfl,R⟩:=RQ (d 0 _ rfl) h;refine(MD a cap l w R).mono ?_;rintro e w' ⟨rfl,g⟩;exact⟨_,rfl,mK (ajF _) qD,g⟩
def kL {v q n:Int} (a:kS v) (b:kS q) (d:kS n):Ck 149 [.i v,.i q,.i n] (.i (dK v q n)) :=
 ⟨bL (.c _) (bL (.c _) (bL (.c _) fW)),.c _,@anf dY dZ _ [.int .i64 v,.int .i64 q,.int .i64 n] _ fun w=>(agj v q n w a b d).mono fun e w' h=>⟨h.1,h.2▸Below.refl _ _⟩⟩
namespace D9O
abbrev oF (l q m i:AV):List AV:=fr 107 [(0,l),(1,q),(4,.emp),(5,.ptr 3 0 0 0),(6,.i 0),(7,.ptr 3 1 0 0),(8,.i 0),(9,.ptr 3 2 0 0),(10,m),(11,i)]
abbrev lB (a b c:Int):Mc.dI:=.cells 101 3 [[.i a,.i b,.i c]]
abbrev oB (t g:bP) (m:List (List AV)):List Mc.dI:=[lB 0 0 0,lB t.q t.v t.p,lB g.q g.v g.p,.cells 101 3 m]
abbrev fO (L:List bP) (q:Int) (k j:Nat):List AV:=oF (.lit 3 (aM L)) (.i q) (.own 101 3 3 0 k) (.i (j:Int))
noncomputable def body:Code:=(Tryz.f215).body.getD .skip
abbrev agV (c:Code) (r:Option (RT Out)):Prop:=uG { vars:=Kab,facts:=Dc,lens:=KeY,bQ:=WF } c (Kff++List.replicate 105 .undef) [] [some 0,some 1,some 2,none] (oF (.q 3 0) (.v 1) (.own 101 3 3 0 0) (.i 0)) [KaS,(.cells 101 3 [[.v 2,.o 0,.o 1]]),KaS,(.cells 101 3 [])] r
noncomputable def aaK:Option (RT Out):=yZ { vars:=Kab,facts:=Dc,lens:=KeY,bQ:=WF } body (Kff++List.replicate 105 .undef:List AV).length (Kff++List.replicate 105 .undef) [] 0
def amS:agV body aaK:=⟨by unfold aaK;rfl,by decide +kernel,by decide +kernel⟩
structure Inv (L:List bP) (q:Int) (j:Nat) (m:List bP) (g:bP):Prop where
 r:m++(jL (L.drop j) g (q-g.q)).1=(jL L .zero q).1/\(jL (L.drop j) g (q-g.q)).2=(jL L .zero q).2
 ml:m.length<=j
 gq:0<=g.q/\g.q<=qs (L.take j)
 gv:0<=g.v/\g.v<=vs (L.take j)
 gp:-(yT (L.take j))<=g.p/\g.p<=yT (L.take j)
def ak6 (a b:List bP):yT (a++b)=yT a+yT b:=by
 unfold yT eU;simp only[a03,a1h]
def aji (h:LR L) (j:Nat):qs (L.take j)<=288230376151711744/\vs (L.take j)<=288230376151711744/\yT (L.take j)<=288230376151711744:=by
 have e:∀x∈L.drop j,kQ x=true:=fun x a=>h.ok x (a21 a);have k:=fQ e;have b:=NH (L.drop j);have f:qs (L.take j)+qs (L.drop j)=qs L:=by rw[<-FO,a2j]
 have d:vs (L.take j)+vs (L.drop j)=vs L:=by rw[<-Fz,a2j]
 have c:yT (L.take j)+yT (L.drop j)=yT L:=by rw[<-ak6,a2j]
 have:=h.q;have:=h.v;have:=h.p;omega
def Inv.next {q:Int} {j:Nat} {m f:List bP} {g d x:bP} (i:L[j]?=some x) (I:Inv L q j m g) (h:f++(jL (L.drop (j+1)) d (q-d.q)).1=m++(jL (x::L.drop (j+1)) g (q-g.q)).1/\(jL (L.drop (j+1)) d (q-d.q)).2=(jL (x::L.drop (j+1)) g (q-g.q)).2)
  (ml:f.length<=m.length+1) (a:0<=d.q/\d.q<=g.q+x.q) (b:0<=d.v/\d.v<=g.v+x.v) (c:-(max x.p (-x.p))<=d.p-g.p/\d.p-g.p<=max x.p (-x.p)):Inv L q (j+1) f d:=by
 obtain⟨⟨r1,r2⟩,l,⟨q0,t⟩,⟨s,r⟩,p0,p1⟩:=I;have e:=(a0y.1 i).1;have n:L.drop j=x::L.drop (j+1):=by rw[<-a2x e];congr 1;exact Option.some.inj (by rw[<-a0f e,i])
 have k:L.take (j+1)=L.take j++[x]:=by rw[a0u,i];rfl
 have o:yT (L.take j++[x])=yT (L.take j)+max x.p (-x.p):=by unfold yT;simp[eU]
 have e1:qs (L.take j++[x])=qs (L.take j)+x.q:=by rw[FO];simp[qs]
 have e2:vs (L.take j++[x])=vs (L.take j)+x.v:=by rw[Fz];simp[vs]
 rw[n]at r1 r2;refine⟨⟨h.1.trans r1,h.2.trans r2⟩,by omega,?_,?_,?_⟩
 .rw[k,e1];omega
 .rw[k,e2];omega
 .rw[k,o];omega
def walk (oA:Option (RT Out)) (U:agV body oA) (K:eA { vars:=QN,facts:=[Kcx,(Keu,-288230376151711744,0)],lens:=KbS,iG:=Kbf } (bB oA) (oF (.q 3 0) (.v 1) Kcy (.v 2)) JN 0 [some 0,some 1,some 2,some 6] (oF (.q 3 0) (.v 1) (.dD 101 3 3 KeP) KdV) [KaS,KaT,(.cells 101 3 [[.v 4,.v 5,.v 6]]),(.sc 101 3 1 [] [[.v 7,.v 8,.v 9]] KeP)]) (rc:eA { vars:=[(0,30),KdN,(0,29),(0,29),KdO,jB,jB,KdN,jB,jB,jB,jB],facts:=[Kcx,DH,(Kcm,1,576460752303423488)],lens:=KbS,iG:=Kbf,bQ:=[(149,[.v 8,(.e Keu),.v 7],(.v 10)),(149,[.v 9,(.e Keu),.v 7],(.v 11))] } (bB oA) (oF (.q 3 0) (.v 1) Kcy (.v 2)) JN 0 [some 0,some 1,some 2,some 7] (oF (.q 3 0) (.v 1) (.dD 101 3 3 KeP) KdV) [KaS,KaT,(.cells 101 3 [[.v 1,(.e [([5],1),([10],1)]),(.e [([6],1),([11],1)])]]),(.sc 101 3 1 [] [[(.e Kcm),(.e [([8],1),([10],-1)]),(.e [([9],1),([11],-1)])]] KeP)]) (Q:eA { vars:=QN,facts:=[Kcx,DH,(Kcm,-576460752303423488,0)],lens:=KbS,iG:=Kbf } (bB oA) (oF (.q 3 0) (.v 1) Kcy (.v 2)) JN 0 [some 0,some 1,some 2,some 3] (oF (.q 3 0) (.v 1) Kcy KdV) [KaS,KaT,(.cells 101 3 [[KdP,(.e [([5],1),([8],1)]),(.e [([6],1),([9],1)])]]),(.sc 101 3 1 [] [] [([3],1)])]) (T:eA { vars:=Bm,lens:=KbT } (bB oA) (oF (.q 3 0) (.v 1) Kcz (.v 0)) JO 3 [some 0,some 1,some 2,some 3] (oF (.q 3 0) (.v 1) Kcz (.v 0)) JO) (S:kH { vars:=Bm,lens:=KbT } Tryz.f215 oA 1 (oF (.q 3 0) (.v 1) Kcz (.v 0)) JO ((.bE [.q 3 1,Kdn,.i 0]))) {q:Int} (h:LR L) (h1:1<=q) (W:q<=qs L) :
  Ck 215 [.lit 3 (aM L),.i q] (.bE [.lit 3 (aM (jL L .zero q).1),(jL L .zero q).2.av,.i 0]):=by
 have hn:=h.len;have hl:(aM L).length=L.length:=by simp[aM]
 have B:=mP (l:=L) (adx h.ok);rw[h.uL.1,h.uL.2]at B;have J:=h.q;obtain⟨tq,u⟩:∃x,x=qs L:=⟨_,rfl⟩;obtain⟨tv,C⟩:∃x,x=vs L:=⟨_,rfl⟩;obtain⟨tp,D⟩:∃x,x=ps L:=⟨_,rfl⟩;have B:Ck 198 [.lit 3 (aM L)] (.bE [.agg [.i tq,.i tv,.i tp],.i 0]):=by rw[u,C,D];exact B
 rw[<-u]at W J;clear u C D;obtain⟨R,O⟩:∃R,R=jL L .zero q:=⟨_,rfl⟩;have I0:Inv L q 0 [] .zero:=⟨⟨by simp[bP.zero],by simp[bP.zero]⟩,a0g _,⟨by simp[bP.zero],by simp[bP.zero,qs]⟩,⟨by simp[bP.zero],by simp[bP.zero,vs]⟩,⟨by simp[bP.zero,yT,eU],by simp[bP.zero,yT,eU]⟩⟩;rw[<-O];refine CK.hY Tryz.func215 (c:=body) (by kernel_rfl) (Cw.out) (yY.out) fun A w0 a0=>?_
 intro mm w a b;rw[Tryz.ntmps215]at b;refine U.go (ev1 _ [(L.length:Int),q,tq] [.I tv,.I tp] [aM L] .nil) (xK (kc B kn)) b (fd:=fO L q 0 0) (bd:=oB ⟨tq,tv,tp⟩ .zero []) ?_;intro mm w a b;refine dQ (fun n a w=>∃(j k:Nat) (m:List bP) (g:bP),n=L.length-j/\j<=L.length/\m.length=k/\Inv L q j m g/\∃mm,@fD dY dZ A w0 a0 mm w a (fO L q k j) (fH (oB ⟨tq,tv,tp⟩ g (aM m)))) ?_ (n:=L.length) ⟨0,0,[],.zero,rfl,a0n _,rfl,I0,mm,b⟩;rintro n a w ⟨j,k,m,g,rfl,hj,V,I,mm,b⟩;have AP:(aM m).length=m.length:=by simp[aM]
 have:=I.ml;rcases(by omega:j=L.length\/j<L.length)with rfl|M
 .obtain⟨e1,e2⟩:=I.r
  rw[a3k]at e1 e2;simp only[jL,a1r]at e1 e2;rw[<-O]at e1 e2;rw[<-e1,<-e2];refine T.go (ev1 _ [(L.length:Int),q,(k:Int)] [.I tq,.I tv,.I tp,.I g.q,.I g.v,.I g.p] [aM L,aM m] .nil) (xK kn) b ?_;intro mm w a b;exact S.go (ev1 _ [(L.length:Int),q,(k:Int)] [.I tq,.I tv,.I tp,.I g.q,.I g.v,.I g.p] [aM L,aM m] .nil) (xK kn) b
 .obtain⟨x,o⟩:∃x,L[j]?=some x:=⟨_,a0f M⟩
  have H:L[(j:Int).toNat]?=some x:=by simpa using o
  have E:=h.ok x (a0a o);obtain⟨x1,x2,x3,x4,x5,x6⟩:=eE.1 E;have tl:=aji h j;have gq:=I.gq;have gv:=I.gv;have gp:=I.gp
  have nx:∀(t:List bP) (z:bP),Inv L q (j+1) t z->∀k':Nat,t.length=k'->∀mm w a,@fD dY dZ A w0 a0 mm w a (oF (.lit 3 (aM L)) (.i q) (.own 101 3 3 0 k') (.i (1+(j:Int)))) (fH (oB ⟨tq,tv,tp⟩ z (aM t)))->∃n',n'<L.length-j/\∃(j k:Nat) (m:List bP) (g:bP),n'=L.length-j/\j<=L.length/\m.length=k/\Inv L q j m g/\∃mm,@fD dY dZ A w0 a0 mm w a (fO L q k j) (fH (oB ⟨tq,tv,tp⟩ g (aM m))):=by
   intro t z f k' N mm w a b;rw[show(1+(j:Int))=((j+1:Nat):Int)by omega]at b;exact⟨_,by omega,j+1,k',t,z,rfl,by omega,N,f,mm,b⟩
  have s:∀y:bP,aM m++[[.i y.q,.i y.v,.i y.p]]=aM (m++[y]):=fun y=>by simp[aM,jH,bP.r]
  rcases(by omega:q-g.q<=0\/(0<q-g.q/\q-g.q<x.q)\/(0<q-g.q/\x.q<=q-g.q))with c|⟨c,P⟩|⟨c,P⟩
  .have f:Inv L q (j+1) (m++[x]) g:=I.next o (by rw[FW c,FW c];simp) (by simp) (by omega) (by omega) (by omega)
   have nx:=nx _ _ f (1+(k:Int)).toNat (by simp;omega);rw[<-s]at nx;clear I f s;exact K.go (ev1 _ [(L.length:Int),q,(j:Int),(k:Int),g.q,g.v,g.p,x.q,x.v,x.p] [.I tq,.I tv,.I tp] [aM L,aM m] (.d (aY H) .nil)) (xK kn) b (fd:=oF (.lit 3 (aM L)) (.i q) (.own 101 3 3 0 (1+(k:Int)).toNat) (.i (1+(j:Int)))) (bd:=oB ⟨tq,tv,tp⟩ g (aM m++[[.i x.q,.i x.v,.i x.p]])) nx
  .have Y:=kL (v:=x.v) (q:=q-g.q) (n:=x.q) ⟨by omega,by omega⟩ ⟨by omega,by omega⟩ ⟨by omega,by omega⟩
   have Z:=kL (v:=x.p) (q:=q-g.q) (n:=x.q) ⟨by omega,by omega⟩ ⟨by omega,by omega⟩ ⟨by omega,by omega⟩;have X:=abS E (q:=q-g.q) (by omega) (by omega);obtain⟨b1,b2,b3,b4,b5,b6⟩:=X;have cp:=ais E (q:=q-g.q) (by omega) (by omega)
   have f:Inv L q (j+1) (m++[mC x (mW x (q-g.q))]) (lD g (mW x (q-g.q))):=I.next o (by
    have e:q-(lD g (mW x (q-g.q))).q=0:=by simp only[lD,mW];omega
    rw[e,FW (a0h _)];simp only[jL];rw[if_neg (by omega),if_pos P];simp) (by simp) (by simp only[lD,mW];omega) (by simp only[lD,mW];omega) (by simp only[lD,mW];omega)
   have nx:=nx _ _ f (1+(k:Int)).toNat (by simp;omega);rw[<-s]at nx;simp only[lD,mW,mC]at nx;rw[show g.q+(q-g.q)=q by omega,show x.q-(q-g.q)=-q+g.q+x.q by omega]at nx;generalize dK x.v (q-g.q) x.q=F at *;generalize dK x.p (q-g.q) x.q=G at *;clear I f s;exact rc.go (ev1 _ [(L.length:Int),q,(j:Int),(k:Int),g.q,g.v,g.p,x.q,x.v,x.p,F,G] [.I tq,.I tv,.I tp] [aM L,aM m] (.d (aY H) .nil)) (xK (kc Y (kc Z kn))) b (fd:=oF (.lit 3 (aM L)) (.i q) (.own 101 3 3 0 (1+(k:Int)).toNat) (.i (1+(j:Int)))) (bd:=oB ⟨tq,tv,tp⟩ ⟨q,g.v+F,g.p+G⟩ (aM m++[[.i (-q+g.q+x.q),.i (x.v-F),.i (x.p-G)]])) nx
  .have f:Inv L q (j+1) m (lD g x):=I.next o (by
    have e:q-(lD g x).q=q-g.q-x.q:=by simp only[lD];omega
    rw[e];simp only[jL];rw[if_neg (by omega),if_neg (by omega)];exact⟨rfl,rfl⟩) (by omega) (by simp only[lD];omega) (by simp only[lD];omega) (by simp only[lD];omega)
   have nx:=nx _ _ f k V;simp only[lD]at nx;clear I f s;exact Q.go (ev1 _ [(L.length:Int),q,(j:Int),(k:Int),g.q,g.v,g.p,x.q,x.v,x.p] [.I tq,.I tv,.I tp] [aM L,aM m] (.d (aY H) .nil)) (xK kn) b (fd:=oF (.lit 3 (aM L)) (.i q) (.own 101 3 3 0 k) (.i (1+(j:Int)))) (bd:=oB ⟨tq,tv,tp⟩ ⟨g.q+x.q,g.v+x.v,g.p+x.p⟩ (aM m)) nx
end D9O
def PC (h:LR L) {q:Int} (c:kS q):Ck 215 [.lit 3 (aM L),.i q] (.bE [.lit 3 (aM (fN L q).1),(fN L q).2.1.av,.i (fN L q).2.2]):=by
 have b:=mP (l:=L) (adx h.ok);have:=c.lo;have:=c.hi;have e:=h.q;have q0:=(fQ h.ok).1;unfold fN;by_cases d:q<1
 .rw[if_pos d]
  rw[h.uL.2]at b;generalize uL L=t at *;exact cw _ (ev1 { vars:=[KcU],bQ:=[(198,[.q 3 0],Bx)] } [q] [.I t.q,.I t.v,.I t.p] [aM L] .nil) [.q 3 0,.v 0] (.bE [.q 3 0,Kdo,.i 1]) (kc b kn)
 rw[if_neg d];by_cases a:(uL L).q<q
 .rw[if_pos a]
  have f:(uL L).q=qs L:=by rw[h.uL.1]
  rw[h.uL.2]at b;generalize uL L=t at *;exact cw _ (ev1 { vars:=[Kdp,jB],facts:=[(Ket,1,18446744073709551616)],bQ:=[(198,[.q 3 0],(.bE [(.agg [.v 1,.o 0,.o 1]),.i 0]))] } [q,t.q] [.I t.v,.I t.p] [aM L] .nil) [.q 3 0,.v 0] (.bE [.q 3 0,Kdo,.i 5]) (kc b kn)
 rw[if_neg a];rw[h.uL.1]at a;exact D9O.walk D9O.aaK D9O.amS .of .of .of .of .of h (by omega) (by simp only at a;omega)
end
end Go.Proofs.YtnepgggkgnckcaaGreat
