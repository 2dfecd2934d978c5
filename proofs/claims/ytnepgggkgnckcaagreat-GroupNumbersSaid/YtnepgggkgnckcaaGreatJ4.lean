/-
 Texts joined and made small by wip/small.sh.
-/
import Derived.Test.YtnepgggkgnckcaaGreatJ3
import Derived.WalkKit
import Derived.Test.YtnepgggkgnckcaaGreatProg
import Derived.Lib.BitFns
import Derived.Lib.ItoaNum
import Derived.Lib.Small
import Derived.Lib.Strings
import Derived.Lib.Slices
import Derived.Lib.Walk
import Derived.WalkSpells
import Derived.WalkLawsBesides
import Derived.Deep.QuietTactic
import Derived.BigQuiet
import Derived.Lib.Hide
import Derived.WalkSmall
import Derived.Lib.SliceRun
import Derived.Orders
import Derived.Deep.AppendLies
import Derived.Below
import Derived.LoopN
import Derived.IntWalk
import Derived.Deep.RegionHeld3
import Derived.RegionTactic
import Derived.ChangeAlike
import Derived.Deep.RegionLaw
import Derived.StillTailTactics
import Derived.Deep.Cut
import Derived.Lib.Bytealg
set_option linter.all false
set_option maxHeartbeats 4000000
set_option maxRecDepth 1000000
namespace Go.Proofs.YtnepgggkgnckcaaGreat
open Go.RowKit
section
variable {zs:List Int} {k base:Nat}
def mD (v:Int):Bool:=decide (-288230376151711744<=v)&&decide (v<=288230376151711744)
def fK {v:Int}:mD v=true↔-288230376151711744<=v/\v<=288230376151711744:=by simp[mD]
structure fW (v:Int):Prop where
 lo:-9223372036854775808<=v
 hi:v<=9223372036854775807
def abU {v:Int} (h:(Lit.int .i64 v).wf=true):fW v:=by
 simp[Lit.wf,IntKind.min,IntKind.max,IntKind.signed,IntKind.bits]at h;exact⟨by omega,by omega⟩
def gH (a b:Int):Bool:=mD a&&mD b&&mD (wrap64 (a+b))
def pV {a b:Int}:gH a b=true↔mD a=true/\mD b=true/\mD (a+b)=true:=by
 simp only[gH,a0e,fK];unfold wrap64;omega
def nT (a b:Int):Int:=if gH a b then a+b else 0
def nI (a b:Int):Int:=if gH a b then 0 else 2
def dO (n:Int):List Int->Option Int
 |[]=>some n
 |z::zs=>if gH n z then dO (n+z) zs else none
def dJ (l:List Int):Int:=(dO 0 l).getD 0
def dW (l:List Int):Int:=if(dO 0 l).isSome then 0 else 2
def ahP {a b n m:Int} (e:0<=a) (h1:a<=n) (c:0<=b) (d:b<=m):0<=a*b/\a*b<=n*m :=
 ⟨a0p e c,Int.mul_le_mul h1 d c (by omega)⟩
def aeU (b d a c:Int):(b*4294967296+d)*(a*4294967296+c)=b*a*18446744073709551616+(b*c+d*a)*4294967296+d*c:=by
 rw[a2m,a16,a16];have e1:b*4294967296*(a*4294967296)=b*a*18446744073709551616:=by
  rw[a02,a10 4294967296 (a*4294967296),a02,<-a02 b a];rfl
 have e2:b*4294967296*c=b*c*4294967296:=by
  rw[a02,a10 4294967296 c,<-a02]
 have e:d*(a*4294967296)=d*a*4294967296:=by rw[<-a02]
 rw[e1,e2,e,a2m];omega
structure acz (x y l0 l1 l2 l3:Int):Prop where
 e:x*y=l3*18446744073709551616+(l1+l2)*4294967296+l0
 b0:0<=l0/\l0<=18446744065119617025
 b1:0<=l1/\l1<=18446744065119617025
 b2:0<=l2/\l2<=18446744065119617025
 b3:0<=l3/\l3<=18446744065119617025
def anQ (x y:Int) (k:0<=x) (i:x<18446744073709551616) (j:0<=y) (h:y<18446744073709551616) :
  acz x y (x%4294967296*(y%4294967296)) (x/4294967296*(y%4294967296)) (x%4294967296*(y/4294967296)) (x/4294967296*(y/4294967296)):=by
 have b (a c:Int) (g:0<=a) (f:a<=4294967295) (e:0<=c) (d:c<=4294967295):0<=a*c/\a*c<=18446744065119617025:=ahP g f e d;refine⟨?_,b _ _ (by omega) (by omega) (by omega) (by omega),b _ _ (by omega) (by omega) (by omega) (by omega),b _ _ (by omega) (by omega) (by omega) (by omega),b _ _ (by omega) (by omega) (by omega) (by omega)⟩;rw[<-aeU];congr 1<;>omega
def u64 (v:Int):Int:=v%18446744073709551616
def lA (a b:Int):Int:=u64 a*u64 b/18446744073709551616
def kZ (a b:Int):Int:=u64 a*u64 b%18446744073709551616
def Fq (v:Int):0<=u64 v/\u64 v<18446744073709551616:=by unfold u64;omega
def SN {v:Int} (h:0<=v) (h':v<18446744073709551616):u64 v=v:=by unfold u64;omega
def Fm (a b:Int):0<=lA a b/\lA a b<18446744073709551616:=by
 have h:=ahP (Fq a).1 (show u64 a<=18446744073709551615 by have:=(Fq a).2;omega) (Fq b).1 (show u64 b<=18446744073709551615 by have:=(Fq b).2;omega);unfold lA;omega
def Ab (a b:Int):0<=kZ a b/\kZ a b<18446744073709551616:=by unfold kZ;omega
def afM (a b:Int):lA a b*18446744073709551616+kZ a b=u64 a*u64 b:=by unfold lA kZ;omega
def SK {x y d b a c:Int} (h:acz x y d b a c) :
  c+b/4294967296+a/4294967296+(d/4294967296+b%4294967296+a%4294967296)/4294967296=x*y/18446744073709551616:=by
 obtain⟨e,b0,b1,b2,b3⟩:=h;generalize x*y=t at *;omega
def SJ {x y a c b d:Int} (h:acz x y a c b d) :
  (a/4294967296+c%4294967296+b%4294967296)*4294967296%18446744073709551616+a%4294967296=x*y%18446744073709551616:=by
 obtain⟨e,b0,b1,b2,b3⟩:=h;generalize x*y=t at *;omega
def Lh (a b c:Int):Int:=if a<0\/b<0\/c<1 then 1 else if a*b/c > 288230376151711744 then 2 else 0
def yJ (a b c:Int):Int:=if a<0\/b<0\/c<1 then 0 else if a*b/c > 288230376151711744 then 0 else a*b/c
def mdR (a b c:Int):Int:=if a<0\/b<0\/c<1 then 0 else if a*b/c > 288230376151711744 then 0 else a*b%c
def dM (v q n:Int):Int :=
 if n<1\/q<0\/q > n\/mD v=false then 0 else if v<0 then -(-v*q/n)else v*q/n
def lR {a b:Bool} (h:a=b):Ending.returned (.bool a)=.returned (.bool b):=by rw[h]
def xJ {k:IntKind} {a b:Int} (h:a=b):Ending.returned (.int k a)=.returned (.int k b):=by rw[h]
def pQ {k j:IntKind} {a b c d:Int} (h1:a=c) (e:b=d):Ending.returned (.tuple #[.int k a,.int j b])=.returned (.tuple #[.int k c,.int j d]):=by rw[h1,e]
def acZ {k j i:IntKind} {a b c d e f:Int} (h1:a=c) (h:b=d) (g:e=f):Ending.returned (.tuple #[.int k a,.int j b,.int i e])=.returned (.tuple #[.int k c,.int j d,.int i f]):=by rw[h1,h,g]
def ahR (v:Int) (w:World) :
  Calls Tryz.prog 79 #[.int .i64 v] w fun e w'=>e=.returned (.bool (mD v))/\w=w':=by
 go_enter Tryz.func79,Tryz.ntmps79;go_wp2
 all_goals (go_ret;exact⟨lR (by simp[mD];try omega),rfl⟩)
def sU (v:Int) (w:World) :
  Calls Tryz.prog 144 #[.int .i64 v] w fun e w'=>e=.returned (.bool (mD v))/\w=w':=by
 go_enter Tryz.func144,Tryz.ntmps144;go_wp2
 all_goals (go_ret;exact⟨lR (by simp[mD];try omega),rfl⟩)
def tmod_neg (v n:Int) (a:0<n) (d:n<=9223372036854775807) (h:v.tmod n<0):wrap64 (v.tmod n+n)=v%n:=by
 have c:=Int.tmod_def v n;have e:-n<v.tmod n:=Int.lt_tmod_of_pos v a
 have b:(v.tmod n+n)%n=v%n:=by
  rw[Int.add_emod_right,c,a4z]
 rw[<-b,a4j (by omega) (by omega)];unfold wrap64;omega
def afN (v n:Int) (a:0<n) (h:0<=v.tmod n):v.tmod n=v%n:=by
 have c:=Int.tmod_def v n;have d:v.tmod n<n:=Int.tmod_lt_of_pos v a
 have b:(v.tmod n)%n=v%n:=by
  rw[c,a4z]
 rw[<-b,a4j h (by omega)]
def aap (v n:Int) (w:World) (b:0<n) (a:n<=9223372036854775807) :
  Calls Tryz.prog 14 #[.int .i64 v,.int .i64 n] w fun e w'=>e=.returned (.int .i64 (v%n))/\w=w':=by
 go_enter Tryz.func14,Tryz.ntmps14;go_wp2
 .go_ret;exact⟨xJ (tmod_neg v n b a ‹_›),by first|rfl|trivial⟩
 .go_ret;exact⟨xJ (afN v n b ‹_›),by first|rfl|trivial⟩
def X9 {a b:Int} (h1:mD a=true) (c:mD b=true) (h:(!mD (wrap64 (a+b)))=false):wrap64 (a+b)=nT a b/\(0:Int)=nI a b:=by
 have h':mD (wrap64 (a+b))=true:=by simpa using h
 have:gH a b=true:=by simp[gH,h1,c,h']
 simp only[nT,nI,this,if_true];rw[fK]at h1 c;refine⟨?_,trivial⟩;unfold wrap64;omega
def AE {a b:Int} (h:mD a=false\/mD b=false\/mD (wrap64 (a+b))=false):(0:Int)=nT a b/\(2:Int)=nI a b:=by
 have:gH a b=false:=by
  rcases h with h|h|h<;>simp[gH,h]
 simp[nT,nI,this]
def Am (a b:Int) (w:World) :
  Calls Tryz.prog 37 #[.int .i64 a,.int .i64 b] w fun e w'=>e=.returned (.tuple #[.int .i64 (nT a b),.int .i64 (nI a b)])/\w=w':=by
 go_enter Tryz.func37,Tryz.ntmps37;go_wp2_with (go_at_call 79;refine(ahR _ _).mono ?_;rintro e w' ⟨rfl,rfl⟩)
 .go_ret2;have h:=@AE a b (.inr (.inr (by simpa using ‹(!mD (wrap64 (a+b)))=true›)));exact⟨pQ h.1 h.2,by first|rfl|trivial⟩
 .go_ret2;have h:=X9 ‹mD a=true› ‹mD b=true› ‹_›;exact⟨pQ h.1 h.2,by first|rfl|trivial⟩
 .go_ret2;have h:=@AE a b (.inr (.inl (by simpa using ‹¬mD b=true›)));exact⟨pQ h.1 h.2,by first|rfl|trivial⟩
 .go_ret2;have h:=@AE a b (.inl (by simpa using ‹¬mD a=true›));exact⟨pQ h.1 h.2,by first|rfl|trivial⟩
def Ah (a b:Int) (w:World) :
  Calls Tryz.prog 83 #[.int .i64 a,.int .i64 b] w fun e w'=>e=.returned (.tuple #[.int .i64 (nT a b),.int .i64 (nI a b)])/\w=w':=by
 go_enter Tryz.func83,Tryz.ntmps83;go_wp2_with (go_at_call 144;refine(sU _ _).mono ?_;rintro e w' ⟨rfl,rfl⟩)
 .go_ret2;have h:=@AE a b (.inr (.inr (by simpa using ‹(!mD (wrap64 (a+b)))=true›)));exact⟨pQ h.1 h.2,by first|rfl|trivial⟩
 .go_ret2;have h:=X9 ‹mD a=true› ‹mD b=true› ‹_›;exact⟨pQ h.1 h.2,by first|rfl|trivial⟩
 .go_ret2;have h:=@AE a b (.inr (.inl (by simpa using ‹¬mD b=true›)));exact⟨pQ h.1 h.2,by first|rfl|trivial⟩
 .go_ret2;have h:=@AE a b (.inl (by simpa using ‹¬mD a=true›));exact⟨pQ h.1 h.2,by first|rfl|trivial⟩
def wrap_small {x:Int} (h:0<=x) (h':x<18446744073709551616):IntKind.u64.wrap x=x:=by rw[IntKind.wrap_u64];omega
def tX (x:Int) (h:0<=x) (h':x<18446744073709551616):bits BinOp.and IntKind.u64 x 4294967295=x%4294967296:=by
 have e:=bits_and_u64_nat x.toNat 4294967295 (by omega) (by omega);rw[show(4294967295:Nat)=2 ^ 32-1 from rfl,Nat.and_two_pow_sub_one_eq_mod]at e;rw[a1h h]at e;refine e.trans ?_;omega
def abt (x y:Int) (h:0<=x) (h':x<18446744073709551616) (d:x%4294967296=0) (a:0<=y) (c:y<4294967296):bits BinOp.or IntKind.u64 x y=x+y:=by
 have e:=bits_or_u64_nat x.toNat y.toNat (by omega) (by omega);rw[a1h h,a1h a]at e;refine e.trans ?_;obtain⟨k,b⟩:∃k:Nat,x.toNat=2 ^ 32*k:=⟨x.toNat/4294967296,by omega⟩;rw[b,<-a40 (by omega)];omega
def yV (a b:Int) (w:World) :
  Calls Tryz.prog 182 #[.int .i64 a,.int .i64 b] w fun e w'=>e=.returned (.tuple #[.int .u64 (lA a b),.int .u64 (kZ a b)])/\w=w':=by
 go_enter Tryz.func182,Tryz.ntmps182;go_wp2;go_ret2;have h:=Fq a;have g:=Fq b;have H:=anQ (u64 a) (u64 b) h.1 h.2 g.1 g.2;have e1:=SK H;have e2:=SJ H;refine⟨pQ ?_ ?_,by first|rfl|trivial⟩
 all_goals
  rw[show IntKind.u64.wrap a=u64 a from IntKind.wrap_u64 a,show IntKind.u64.wrap b=u64 b from IntKind.wrap_u64 b];rw[tX (u64 a) h.1 h.2,tX (u64 b) g.1 g.2];first|unfold lA;rw[<-e1]|unfold kZ;rw[<-e2]
  clear e1 e2;obtain⟨-,b0,b1,b2,b3⟩:=H;generalize u64 a%4294967296*(u64 b%4294967296)=d at *;generalize u64 a/4294967296*(u64 b%4294967296)=f at *;generalize u64 a%4294967296*(u64 b/4294967296)=c at *;generalize u64 a/4294967296*(u64 b/4294967296)=i at *;simp only[wrap_small b0.1 (by omega),wrap_small b1.1 (by omega),wrap_small b2.1 (by omega),wrap_small b3.1 (by omega),tX d b0.1 (by omega),tX f b1.1 (by omega),tX c b2.1 (by omega)]
 .rw[wrap_small (x:=d/4294967296+c%4294967296) (by omega) (by omega),wrap_small (x:=d/4294967296+c%4294967296+f%4294967296) (by omega) (by omega)]
  rw[wrap_small (x:=i+c/4294967296) (by omega) (by omega)];rw[wrap_small (x:=i+c/4294967296+f/4294967296) (by omega) (by omega)];rw[wrap_small (by omega) (by omega)];omega
 .rw[wrap_small (x:=d/4294967296+c%4294967296) (by omega) (by omega),wrap_small (x:=d/4294967296+c%4294967296+f%4294967296) (by omega) (by omega)]
  rw[IntKind.wrap_u64,abt _ _ (by omega) (by omega) (by omega) (by omega) (by omega)];omega
def apl {a b c:World} (h:Below a.heap.size a b) (k:Below b.heap.size b c):Below a.heap.size a c:=h.trans (k.mono h.size)
def apr {a b:World} (h:Below a.heap.size a b) (o:Obj):Below a.heap.size a (b.alloc o):=h.alloc h.size o
def apq {a b:World} (h:Below a.heap.size a b):Below a.heap.size a b.drew:=h.drew
def Ny {a b:World} (h:Below a.heap.size a b) (n:Nat):Below a.heap.size a (b.drewN n):=below_drewN h n
def cK (w:World) (b off:Nat) (zs:List Int):Prop:=∀i,i<zs.length->w.cell? ⟨b,off+i,none⟩=some (.int .i64 (zs.getD i 0))
def eW (zs:List Int):Prop:=∀z,z∈zs->fW z
structure Row (w:World) (k:Nat) (a:Option Addr) (n cap:Nat) (zs:List Int):Prop where
 len:zs.length=n*k
 le:n<=cap
 max:cap<=maxLen
 all:eW zs
 at_:n=0\/∃b off,a=some ⟨b,off,none⟩/\b<w.heap.size/\cK w b off zs
def cK.below {w w':World} {b off:Nat} {zs:List Int} (h:cK w b off zs) (c:b<w.heap.size) (g:Below w.heap.size w w'):cK w' b off zs :=
 fun i a=>by rw[g.cell (p:=⟨b,off+i,none⟩) c];exact h i a
def Row.below {w w':World} {k:Nat} {a:Option Addr} {n cap:Nat} {zs:List Int} (h:Row w k a n cap zs) (g:Below w.heap.size w w'):Row w' k a n cap zs:=by
 refine⟨h.len,h.le,h.max,h.all,?_⟩;rcases h.at_ with f|⟨b,off,e,c,d⟩
 .exact .inl f
 .exact .inr ⟨b,off,e,a0s c g.size,d.below c g⟩
def eW.at_ (h:eW zs) (i:Nat):fW (zs.getD i 0):=by
 rw[a0k];cases a:zs[i]? with
 |none=>exact⟨by simp,by simp⟩
 |some z=>exact h z (a0a a)
def Row.nil (w:World) (k:Nat):Row w k none 0 0 []:=⟨by simp,by omega,by omega,fun z a=>by simp at a,.inl rfl⟩
def cK.new (w:World) (zs:List Int) (t:TypeId):cK (w.alloc (.cells (zs.map (Value.int .i64)).toArray t)) w.heap.size 0 zs:=by
 intro i a;rw[a00,World.cell?_alloc_new];simp[a,a0k]
def apM {w:World} {y:Int} {t n:Nat} (a:n=w.heap.size):cK (w.alloc (.cells #[.int .i64 y] t)) n 0 [y]:=by
 subst a;exact cK.new w [y] t
def Row.adv {w:World} {a:Option Addr} {n cap:Nat}
  (h:(a=none/\n=0/\cap=0/\zs=[])\/∃x,a=some x/\n<=cap/\cap<=maxLen/\zs.length=cap/\(∀i,i<zs.length->w.cell? (x.add i)=some (.int .i64 (zs.getD i 0)))/\∀z∈zs,(Lit.int .i64 z).wf=true) :
  Row w 1 a n cap (zs.take n):=by
 rcases h with⟨rfl,rfl,rfl,rfl⟩|⟨x,rfl,g,m,q,j,f⟩
 .exact Row.nil w 1
 .refine⟨by simp;omega,g,m,fun z e=>abU (f z (a2h e)),?_⟩
  by_cases p:n=0
  .exact .inl p
  .refine .inr ?_
   obtain⟨b,off,c⟩:=x;have l:=j 0 (by omega);have hs:c=none:=(by simpa[Addr.add]using World.cell?_spot l);subst hs;refine⟨b,off,rfl,?_,?_⟩
   .have:=World.block_lt_of_cell? _ _ l
    simpa[Addr.add]using this
   .intro i o
    simp at o;have k:=j i (by omega);rw[a0k,a41 (by omega),<-a0k];by_cases d:i=0
    .subst d;simpa[Addr.add]using k
    .simpa[Addr.add,d]using k
def L6 (l:List Int):∀n z,dO n (l++[z])=(dO n l).bind fun m=>if gH m z then some (m+z)else none:=by
 induction l with
 |nil=>intro n z;simp[dO]
 |cons y l a =>
  intro n z;simp only[a2a,dO];by_cases h:gH n y=true
  .simp only[h,if_true];exact a _ _
  .simp[h]
theorem Fu {l:List Int} (h:k<l.length):l.take (k+1)=l.take k++[l.getD k 0]:=by
 rw[a4k h,a0k,a0d h];rfl
def xA {l:List Int} {n:Int} (h:k<l.length) (e:dO 0 (l.take k)=some n):dO 0 (l.take (k+1))=if gH n (l.getD k 0)then some (n+l.getD k 0)else none:=by
 rw[Fu h,L6,e];rfl
def xB (l m:List Int):∀n,dO n (l++m)=(dO n l).bind fun x=>dO x m:=by
 induction l with
 |nil=>intro n;rfl
 |cons y l a =>
  intro n;simp only[a2a,dO];by_cases h:gH n y=true
  .simp only[h,if_true];exact a _
  .simp[h]
def A5 {l:List Int} (e:dO 0 (l.take k)=none):dO 0 l=none:=by
 conv=>lhs;rw[<-a2c k l]
 rw[xB,e];rfl
def zW {a b:Int} (h:gH a b=true):-288230376151711744<=a+b/\a+b<=288230376151711744:=fK.1 (pV.1 h).2.2
def vB {a b:Int} (h:gH a b=true):nT a b=a+b/\nI a b=0:=by simp[nT,nI,h]
def lJ {a b:Int} (h:gH a b=false):nT a b=0/\nI a b=2:=by simp[nT,nI,h]
def SI {a b:Int} (d:0<=a) (f:a<=9223372036854775807) (c:0<=b) (e:b<=9223372036854775807):lA a b*18446744073709551616+kZ a b=a*b:=by
 rw[afM,SN d (by omega),SN c (by omega)]
def anH {a b c:Int} (h:a<0\/b<0\/c<1):yJ a b c=0/\mdR a b c=0/\Lh a b c=1:=by simp[yJ,mdR,Lh,h]
def ahV {a b c:Int} (h:¬ (a<0\/b<0\/c<1)) (g:288230376151711744<a*b/c):yJ a b c=0/\mdR a b c=0/\Lh a b c=2:=by simp[yJ,mdR,Lh,h,g]
def amO {a b c:Int} (h:¬ (a<0\/b<0\/c<1)) (g:¬ 288230376151711744<a*b/c):yJ a b c=a*b/c/\mdR a b c=a*b%c/\Lh a b c=0:=by simp[yJ,mdR,Lh,h,g]
def akn {a b c:Int} (d:0<c) (e:lA a b*18446744073709551616+kZ a b=a*b) (g:c<=lA a b):288230376151711744<a*b/c:=by
 have l:=(Ab a b).1;have f:c*18446744073709551616<=a*b:=by omega
 have:=a42 d (show 18446744073709551616*c<=a*b by omega);omega
structure Dv (N c q r:Int):Prop where
 e:q*c+r=N
 r:0<=r/\r<c
 q:0<=q/\q<18446744073709551616
def aiv {a b c:Int} (e:lA a b*18446744073709551616+kZ a b=a*b) (g:lA a b<c) (h:0<=lA a b/\lA a b<18446744073709551616) (l:0<=kZ a b/\kZ a b<18446744073709551616) :
  Dv (a*b/2 ^ 64) c 0 (lA a b):=by
 have p:(2:Int) ^ 64=18446744073709551616:=rfl;refine⟨?_,by omega,by omega⟩;rw[p,<-e];omega
def anS {T c q r:Int} (D:Dv (T/2 ^ 0) c q r):T/c=q/\T%c=r:=by
 obtain⟨e,a,-⟩:=D;rw[show T/2 ^ 0=T by simp]at e;rw[<-e,a10];constructor
 .rw[Int.mul_add_ediv_left _ _ (by omega),Int.ediv_eq_zero_of_lt a.1 a.2];omega
 .rw[Int.mul_add_emod_self_left,a4j a.1 a.2]
def ahw (x:Int) (h:0<=x) (h':x<9223372036854775808) (b:Int) (a:b=0\/b=1):bits BinOp.or IntKind.u64 (x*2) b=x*2+b:=by
 have e:=bits_or_u64_nat (x*2).toNat b.toNat (by omega) (by omega);rw[a1h (by omega),a1h (by omega)]at e;refine e.trans ?_;rw[show(x*2).toNat=2 ^ 1*x.toNat by omega,<-a40 (by omega)];omega
def akH {T c q r b a:Int} {j:Nat} (D:Dv (T/2 ^ (j+1)) c q r) (e:b*18446744073709551616+a=T) (G:0<=T) (g:b<c) (o:0<=a/\a<18446744073709551616) (E:j<=63) (F:c<=9223372036854775807) :
  (c<=bits BinOp.or IntKind.u64 (r*2) (bits BinOp.and IntKind.u64 (a/2 ^ j) 1) ->
   Dv (T/2 ^ j) c (bits BinOp.or IntKind.u64 (IntKind.u64.wrap (q*2)) 1) (IntKind.u64.wrap (bits BinOp.or IntKind.u64 (r*2) (bits BinOp.and IntKind.u64 (a/2 ^ j) 1)-c))) /\
  (bits BinOp.or IntKind.u64 (r*2) (bits BinOp.and IntKind.u64 (a/2 ^ j) 1)<c ->
   Dv (T/2 ^ j) c (IntKind.u64.wrap (q*2)) (bits BinOp.or IntKind.u64 (r*2) (bits BinOp.and IntKind.u64 (a/2 ^ j) 1))):=by
 obtain⟨w,v,u⟩:=D;have B:(0:Int)<2 ^ j:=Int.pow_pos (by omega);have y:(0:Int)<2 ^ (j+1):=Int.pow_pos (by omega);have s:(2:Int) ^ j*2 ^ (63-j)=9223372036854775808:=by rw[<-Int.pow_add,show j+(63-j)=63 by omega];rfl
 have d:q<9223372036854775808:=by
  rcases a20 q 9223372036854775808 with h|h
  .exact h
  .exfalso
   have m:=a2g h (show 0<=c by omega);have n:=a3y T (2 ^ (j+1));have C:=a2d T (show(2:Int) ^ (j+1)≠0 by omega);have A:(2:Int) ^ (j+1)=2 ^ j*2:=(by rw[Int.pow_succ]);have k:=a2g (show(2:Int)<=2 ^ (j+1)by omega) (show 0<=T/2 ^ (j+1)by omega);omega
 have f:0<=a/2 ^ j:=a2j o.1 (by omega);have z:a/2 ^ j<=a:=Int.ediv_le_self _ o.1;have p:bits BinOp.and IntKind.u64 (a/2 ^ j) 1=a/2 ^ j%2:=and_one_u64 _ f (by omega)
 have N:T/2 ^ j=2*(T/2 ^ (j+1))+a/2 ^ j%2:=by
  have t:T/2 ^ (j+1)=T/2 ^ j/2:=by rw[Int.pow_succ,Int.ediv_ediv_of_nonneg (by omega)]
  have a2:T/2 ^ j%2=a/2 ^ j%2:=by
   rw[<-e,show b*18446744073709551616+a=a+2 ^ j*(2 ^ (63-j)*2*b)by
    rw[<-a02,<-a02,s];omega]
   rw[Int.add_mul_ediv_left _ _ (by omega)];rw[show(2:Int) ^ (63-j)*2*b=2*(2 ^ (63-j)*b)by rw[a10 _ 2,a02]];rw[Int.add_mul_emod_self_left]
  rw[t,<-a2];omega
 rw[p,ahw r v.1 (by omega) _ (by omega),wrap_small (x:=q*2) (by omega) (by omega),ahw q u.1 d 1 (.inr rfl),N,<-w];have l:(q*2+1)*c=q*c*2+c:=by rw[a2m,Int.one_mul,a02,a10 2 c,<-a02]
 have i:q*2*c=q*c*2:=by rw[a02,a10 2 c,<-a02]
 constructor
 .intro h
  rw[wrap_small (by omega) (by omega)];refine⟨?_,by omega,by omega⟩;rw[l];omega
 .intro h
  refine⟨?_,by omega,by omega⟩;rw[i];omega
def xL (a b c:Int) (w:World) (u:fW a) (s:fW b) (n:fW c) :
  Calls Tryz.prog 148 #[.int .i64 a,.int .i64 b,.int .i64 c] w fun e w'=>e=.returned (.tuple #[.int .i64 (yJ a b c),.int .i64 (mdR a b c),.int .i64 (Lh a b c)])/\w=w':=by
 obtain⟨u,t⟩:=u;obtain⟨s,p⟩:=s;obtain⟨n,l⟩:=n;by_cases d:a<0\/b<0\/c<1
 .have m:=anH d
  rw[m.1,m.2.1,m.2.2];clear m;by_cases G:a<0
  .clear d
   go_enter Tryz.func148,Tryz.ntmps148;go_wp2;go_ret3;exact⟨rfl,by first|rfl|trivial⟩
  .by_cases F:b<0
   .clear d
    go_enter Tryz.func148,Tryz.ntmps148;go_wp2;go_ret3;exact⟨rfl,by first|rfl|trivial⟩
   .have C:c<1:=by omega
    clear d;go_enter Tryz.func148,Tryz.ntmps148;go_wp2;go_ret3;exact⟨rfl,by first|rfl|trivial⟩
 .have a0:0<=a:=by omega
  have b0:0<=b:=by omega
  have H:1<=c:=by omega
  have e:=SI a0 t b0 p;have p0:=a0p a0 b0;have o:=Fm a b;have h:=Ab a b;by_cases g:c<=lA a b
  .have m:=ahV d (akn (by omega) e g)
   rw[m.1,m.2.1,m.2.2];clear m d e;go_enter Tryz.func148,Tryz.ntmps148;go_wp2_with (go_at_call 182;refine(yV _ _ _).mono ?_;rintro e w' ⟨rfl,rfl⟩);go_ret3;exact⟨rfl,by first|rfl|trivial⟩
  .have E:=Lib.hid e
   clear e;go_enter Tryz.func148,Tryz.ntmps148;go_wp2_with (go_at_call 182;refine(yV _ _ _).mono ?_;rintro e w' ⟨rfl,rfl⟩);go_loop [12,13,14] (fun r q i=>∃(k:Nat) (x y:Int),k<=64/\i=.int .i64 ((k:Int)-1)/\r=.int .u64 x/\q=.int .u64 y/\Dv (a*b/2 ^ k) c y x) (fun _ _ i=>(intOf i+1).toNat)
   case atStart=>exact⟨64,_,_,by omega,rfl,rfl,rfl,aiv E.out (by omega) o h⟩
   case round =>
    obtain⟨k,r,q,B,rfl,rfl,rfl,D⟩:=hrel;match k with
    |0 =>
     have X:=anS D;obtain⟨f,A,z⟩:=D;have f:=Lib.hid f;have X:=Lib.hid X;go_wp2
     .go_ret3
      have m:=ahV d (by rw[X.out.1];assumption);exact⟨acZ m.1.symm m.2.1.symm m.2.2.symm,by first|rfl|trivial⟩
     .go_ret3
      have m:=amO d (by rw[X.out.1];omega);exact⟨acZ (by rw[m.1,X.out.1]) (by rw[m.2.1,X.out.2]) m.2.2.symm,by first|rfl|trivial⟩
    |j+1 =>
     have v:(((j+1:Nat):Int)-1)=(j:Int):=(by omega);rw[v];clear v;have X:=akH D E.out p0 g h (by omega) l;have X:=Lib.hid X;obtain⟨f,A,z⟩:=D;have f:=Lib.hid f;go_wp2
     .refine⟨⟨j,_,_,by omega,rfl,rfl,rfl,?_⟩,by simp[intOf];try omega⟩
      exact X.out.1 (by assumption)
     .refine⟨⟨j,_,_,by omega,rfl,rfl,rfl,?_⟩,by simp[intOf];try omega⟩
      exact X.out.2 (by assumption)
def O0 {v q n:Int} (a:0<=v) (g:v<=288230376151711744) (c:0<=q) (b:q<=n) (h:1<=n) :
  yJ v q n=v*q/n/\0<=v*q/n/\v*q/n<=v:=by
 have f:=a0p a c;have e:v*q/n<=v:=by
  apply a21 (by omega);exact a1s b a
 have d:=a2j f (show 0<=n by omega);exact⟨(amO (by omega) (by omega)).1,d,e⟩
def aeQ {v q n:Int} (h:n<1\/q<0\/q > n\/mD v=false):dM v q n=0:=by simp only[dM,if_pos h]
def TB {v q n:Int} (h:¬ (n<1\/q<0\/q > n\/mD v=false)) (a:v<0):dM v q n=-(-v*q/n):=by simp only[dM,if_neg h,if_pos a]
def TA {v q n:Int} (h:¬ (n<1\/q<0\/q > n\/mD v=false)) (a:¬ v<0):dM v q n=v*q/n:=by simp only[dM,if_neg h,if_neg a]
def agu (v q n:Int) (w:World) (d:fW v) (f:fW q) (i:fW n) :
  Calls Tryz.prog 149 #[.int .i64 v,.int .i64 q,.int .i64 n] w fun e w'=>e=.returned (.int .i64 (dM v q n))/\w=w':=by
 by_cases h:n<1\/q<0\/q > n\/mD v=false
 .rw[aeQ h]
  by_cases m:n<1
  .clear h
   go_enter Tryz.func149,Tryz.ntmps149;go_wp2_with (go_at_call 144;refine(sU _ _).mono ?_;rintro e w' ⟨rfl,rfl⟩);go_ret;exact⟨rfl,by first|rfl|trivial⟩
  .by_cases l:q<0
   .clear h
    go_enter Tryz.func149,Tryz.ntmps149;go_wp2_with (go_at_call 144;refine(sU _ _).mono ?_;rintro e w' ⟨rfl,rfl⟩);go_ret;exact⟨rfl,by first|rfl|trivial⟩
   .by_cases k:n<q
    .clear h
     go_enter Tryz.func149,Tryz.ntmps149;go_wp2_with (go_at_call 144;refine(sU _ _).mono ?_;rintro e w' ⟨rfl,rfl⟩);go_ret;exact⟨rfl,by first|rfl|trivial⟩
    .have j:mD v=false:=by rcases h with h|h|h|h<;>first|exact h|omega
     clear h;go_enter Tryz.func149,Tryz.ntmps149;go_wp2_with (go_at_call 144;refine(sU _ _).mono ?_;rintro e w' ⟨rfl,rfl⟩);go_ret;exact⟨rfl,by first|rfl|trivial⟩
 .have m:¬ n<1:=by omega
  have l:¬ q<0:=by omega
  have k:¬ n<q:=by omega
  have j:mD v=true:=by cases g:mD v with|true=>rfl|false=>exact absurd (Or.inr (Or.inr (Or.inr g))) h
  have b:=fK.1 j;by_cases c:v<0
  .rw[TB h c]
   have P:=O0 (show 0<=-v by omega) (show -v<=288230376151711744 by omega) (show 0<=q by omega) (show q<=n by omega) (by omega);obtain⟨a,p,o⟩:=P;have a:=Lib.hid a;clear h;have s:=d.lo;have r:=d.hi;go_enter Tryz.func149,Tryz.ntmps149;go_wp2_with (first|(go_at_call 144;refine(sU _ _).mono ?_;rintro e w' ⟨rfl,rfl⟩)|(go_at_call 148;refine(xL _ _ _ _ ⟨by omega,by omega⟩ f i).mono ?_;rw[a.out];rintro e w' ⟨rfl,rfl⟩));go_ret;exact⟨rfl,by first|rfl|trivial⟩
  .rw[TA h c]
   have P:=O0 (show 0<=v by omega) b.2 (show 0<=q by omega) (show q<=n by omega) (by omega);obtain⟨a,p,o⟩:=P;have a:=Lib.hid a;clear h;go_enter Tryz.func149,Tryz.ntmps149;go_wp2_with (first|(go_at_call 144;refine(sU _ _).mono ?_;rintro e w' ⟨rfl,rfl⟩)|(go_at_call 148;refine(xL _ _ _ _ d f i).mono ?_;rw[a.out];rintro e w' ⟨rfl,rfl⟩));go_ret;exact⟨rfl,by first|rfl|trivial⟩
def SS {m:Int} (h:k<zs.length) (H:dO 0 (zs.take k)=some m) (e:gH m (zs.getD k 0)=false):dJ zs=0/\dW zs=2:=by
 have t:=xA h H;rw[e]at t;have:=A5 t;simp[dJ,dW,this]
def SU {m:Int} (H:dO 0 (zs.take zs.length)=some m):dJ zs=m/\dW zs=0:=by
 rw[a04]at H;simp[dJ,dW,H]
def aeV (a:Option Addr) (n cap:Nat) (zs:List Int) (w:World) (h:Row w 1 a n cap zs) :
  Calls Tryz.prog 72 #[.slice a n cap] w fun e w'=>e=.returned (.tuple #[.int .i64 (dJ zs),.int .i64 (dW zs)])/\w=w':=by
 obtain⟨q,y,o,r,j⟩:=h;unfold maxLen at o;have q:zs.length=n:=by omega
 obtain rfl:zs.length=n:=q;clear q;go_enter Tryz.func72,Tryz.ntmps72;go_wp2;go_loop [4,10] (fun s i=>∃(k:Nat) (m:Int),k<=zs.length/\i=.int .i64 k/\s=.int .i64 m/\Hid (dO 0 (zs.take k)=some m)) (fun _ i=>zs.length-(intOf i).toNat)
 case atStart=>exact⟨0,0,by omega,rfl,rfl,rfl⟩
 case round =>
  obtain⟨k,m,C,rfl,rfl,H⟩:=hrel;by_cases f:k<zs.length
  .obtain⟨b,off,rfl,D,u⟩:∃b off,a=some ⟨b,off,none⟩/\b<w.heap.size/\cK w b off zs:=by
    rcases j with v|v
    .omega
    .exact v
   have x:=u k f;have B:=r.at_ k;have p:(k:Int)<(zs.length:Int):=(by omega);clear u j;generalize g:zs.getD k 0=z at *;have l:=Lib.hid g;clear g;by_cases c:gH m z=true
   .have d:=vB c
    have A:=zW c;have d:=Lib.hid d;go_wp2_with (go_at_call 37;refine(Am _ _ _).mono ?_;rw[d.out.1,d.out.2];rintro e w' ⟨rfl,rfl⟩);go_round
    case rel =>
     refine⟨k+1,_,by omega,by go_num,rfl,?_⟩;have t:=xA f H.out;rw[l.out,c]at t;exact t
    case measure=>simp[intOf];omega
   .have c:gH m z=false:=by simpa using c
    have d:=lJ c;have d:=Lib.hid d;have S:=SS f H.out (by rw[l.out];exact c);go_wp2_with (go_at_call 37;refine(Am _ _ _).mono ?_;rw[d.out.1,d.out.2];rintro e w' ⟨rfl,rfl⟩);go_ret2
    first|exact⟨pQ S.1.symm S.2.symm,by first|rfl|trivial⟩|exact⟨rfl,by first|rfl|trivial⟩
  .obtain rfl:k=zs.length:=by omega
   have S:=SU H.out;have p:¬ (zs.length:Int)<(zs.length:Int):=(by omega);go_wp2;go_ret2
   first|exact⟨pQ S.1.symm S.2.symm,by first|rfl|trivial⟩|exact⟨rfl,by first|rfl|trivial⟩
def Rc (a:Option Addr) (n cap:Nat) (zs:List Int) (w:World) (h:Row w 1 a n cap zs) :
  Calls Tryz.prog 81 #[.slice a n cap] w fun e w'=>e=.returned (.tuple #[.int .i64 (dJ zs),.int .i64 (dW zs)])/\w=w':=by
 obtain⟨q,y,o,r,j⟩:=h;unfold maxLen at o;have q:zs.length=n:=by omega
 obtain rfl:zs.length=n:=q;clear q;go_enter Tryz.func81,Tryz.ntmps81;go_wp2;go_loop [4,5] (fun s i=>∃(k:Nat) (m:Int),k<=zs.length/\i=.int .i64 k/\s=.int .i64 m/\Hid (dO 0 (zs.take k)=some m)) (fun _ i=>zs.length-(intOf i).toNat)
 case atStart=>exact⟨0,0,by omega,rfl,rfl,rfl⟩
 case round =>
  obtain⟨k,m,C,rfl,rfl,H⟩:=hrel;by_cases f:k<zs.length
  .obtain⟨b,off,rfl,D,u⟩:∃b off,a=some ⟨b,off,none⟩/\b<w.heap.size/\cK w b off zs:=by
    rcases j with v|v
    .omega
    .exact v
   have x:=u k f;have B:=r.at_ k;have p:(k:Int)<(zs.length:Int):=(by omega);clear u j;generalize g:zs.getD k 0=z at *;have l:=Lib.hid g;clear g;by_cases c:gH m z=true
   .have d:=vB c
    have A:=zW c;have d:=Lib.hid d;go_wp2_with (go_at_call 83;refine(Ah _ _ _).mono ?_;rw[d.out.1,d.out.2];rintro e w' ⟨rfl,rfl⟩);go_round
    case rel =>
     refine⟨k+1,_,by omega,by go_num,rfl,?_⟩;have t:=xA f H.out;rw[l.out,c]at t;exact t
    case measure=>simp[intOf];omega
   .have c:gH m z=false:=by simpa using c
    have d:=lJ c;have d:=Lib.hid d;have S:=SS f H.out (by rw[l.out];exact c);go_wp2_with (go_at_call 83;refine(Ah _ _ _).mono ?_;rw[d.out.1,d.out.2];rintro e w' ⟨rfl,rfl⟩);go_ret2
    first|exact⟨pQ S.1.symm S.2.symm,by first|rfl|trivial⟩|exact⟨rfl,by first|rfl|trivial⟩
  .obtain rfl:k=zs.length:=by omega
   have S:=SU H.out;have p:¬ (zs.length:Int)<(zs.length:Int):=(by omega);go_wp2;go_ret2
   first|exact⟨pQ S.1.symm S.2.symm,by first|rfl|trivial⟩|exact⟨rfl,by first|rfl|trivial⟩
def ints (zs:List Int):List Value:=zs.map (Value.int .i64)
def zI (l m:List Int):ints (l++m)=ints l++ints m:=a09
def uV (l:List Int):(ints l).length=l.length:=a0z ..
def wJ (l:List Int) (i:Nat):(ints l)[i]?=(l[i]?).map (Value.int .i64):=a0o ..
structure ajq (P:Program) (t e:TypeId) (size:Nat):Prop where
 slice:P.underlying t=some (.slice e)
 info:∃(i:TypeInfo) (z:Value),P.info? e=some i/\i.zero=some z/\i.size=size/\i.bytes=size*8/\z.cells.size=size
 pos:0<size
def hY (w:World) (base:Nat) (e:TypeId) (k:Nat) (v:Value) (n:Nat) (zs:List Int):Prop:=w.ownsRow base e k v n (ints zs)
def hY.nil (w:World) (base:Nat) (e:TypeId) (k:Nat):hY w base e k (.slice none 0 0) 0 []:=World.ownsRow_nil _ _ _ _
def hY.alloc {w:World} {e:TypeId} {v:Value} {n:Nat} (h:hY w base e k v n zs) (o:Obj):hY (w.alloc o) base e k v n zs:=World.ownsRow.alloc h o
def hY.below {w w':World} {base:Nat} {e:TypeId} {k:Nat} {v:Value} {n:Nat} {zs:List Int} (h:hY w base e k v n zs) (g:Below w.heap.size w w'):hY w' base e k v n zs:=by
 obtain⟨j,c⟩:=h;refine⟨j,?_⟩;rcases c with c|⟨b,cap,d,f,i,a,r⟩
 .exact .inl c
 .refine .inr ⟨b,cap,d,f,i,?_,r⟩
  have:b<w.heap.size:=by
   rcases a0u b w.heap.size with h|h
   .exact h
   .rw[a43 h]at a;cases a
  rw[g.block b this];exact a
def hY.len {w:World} {e:TypeId} {v:Value} {n:Nat} (h:hY w base e k v n zs):zs.length=n*k:=by
 have:=h.1;rwa[uV]at this
def hY.row {w:World} {e:TypeId} {v:Value} {n:Nat} (h:hY w base e k v n zs) (o:eW zs) :
  ∃a cap,v=.slice a n cap/\Row w k a n cap zs:=by
 have j:=h.len;obtain⟨t,s⟩:=h;rcases s with⟨rfl,rfl⟩|⟨b,cap,p,rfl,r,d,f,m,hs,q⟩
 .exact⟨_,_,rfl,j,a0h _,by omega,o,.inl rfl⟩
 .refine⟨_,_,rfl,j,f,m,o,.inr ⟨b,0,rfl,?_,?_⟩⟩
  .rcases a0u b w.heap.size with h|h
   .exact h
   .rw[a43 h]at d;cases d
  .intro i l
   have c:=World.ownsRow.cellAt (w:=w) (base:=base) (e:=e) (size:=k) (g:=b) (n:=n) (cap:=cap) (xs:=ints zs) ⟨t,.inr ⟨b,cap,p,rfl,r,d,f,m,hs,q⟩⟩ i (by omega);rw[a00,c,wJ,a0d l,a0k,a0d l];rfl
def Row.cells {w:World} {f:Addr} {n cap:Nat} (h:Row w k (some f) n cap zs):∀j u,(ints zs)[j]?=some u->w.cell? (f.add j)=some u:=by
 intro j u a;rw[wJ]at a;have c:j<zs.length:=by
  rcases a0u j zs.length with h|h
  .exact h
  .rw[a1k h]at a;cases a
 rcases h.at_ with d|⟨b,off,e,i,g⟩
 .have:=h.len
  rw[d]at this;omega
 .cases e
  have:=g j c;rw[a0d c]at a;rw[a0k,a0d c]at this;simp only[a0q,a0g]at a;subst a;by_cases d:j=0
  .subst d;simpa[Addr.add]using this
  .simpa[Addr.add,d]using this
def hY.empty (w:World) (base:Nat) (e:TypeId) (k:Nat) (h:base<=w.heap.size):hY (w.alloc (.cells #[] e)) base e k (.slice (some ⟨w.heap.size,0,none⟩) 0 0) 0 [] :=
 World.ownsRow_lit w #[] 0 h (by unfold maxLen;omega) (by simp)
section
variable {P:Program}
def uE (w:World) {ops:Array Oper} {m:List Oper} {o:Oper} {a:Act} {Q:Exit->Act->World->Prop} (D:o.guard=none) (s x:Operand) (t:TypeId)
  (L:o.op=.call { callee:=.builtin .append,args:=#[s,x],argTypes:=#[t,t] })
  (base:Nat) (e:TypeId) (size:Nat) (E:ajq P t e size)
  (v:Value) (n:Nat) (zs:List Int) (hs:a.eval s=v) (p:hY w base e size v n zs)
  (b off c:Nat) (g:List Int) (I:a.eval x=.slice (some ⟨b,off,none⟩) 1 c) (T:g.length=size) (S:cK w b off g)
  (M:(n+1)*(size*8)<=140737488355328) (f:base<=w.heap.size)
  (h:∀q w',hY w' base e size q (n+1) (zs++g)->Below base w w'->wpList P ops Q m (a.put o.dst q) w'):wpList P ops Q (o::m) a w:=by
 obtain⟨J,⟨i,z,O,H,r,F,B⟩,K⟩:=E;have U:n+1<=(n+1)*(size*8):=a3q _ (by omega);refine wpList_append_own w D s x t L base e i z size (size*8) J O H r F B K v n (ints zs) hs p ⟨b,off,none⟩ 1 c (ints g) I (by rw[uV];omega) ?_ ?_ (by unfold maxLen;omega) M f ?_
 .intro j u l
  rw[wJ]at l;have d:j<g.length:=by
   rcases a0u j g.length with h|h
   .exact h
   .rw[a1k h]at l;cases l
  have:=S j d;rw[a0d d]at l;rw[a0k,a0d d]at this;simp only[a0q,a0g]at l;subst l;by_cases G:j=0
  .subst G;simpa[Addr.add]using this
  .simpa[Addr.add,G]using this
 .intro u C
  simp only[ints,a0l]at C;obtain⟨y,-,rfl⟩:=C;rfl
 .intro q w' A R _
  refine h q w' ?_ ?_
  .rw[hY,zI];exact A
  .have d:=World.ownsRow.lt p
   exact(Below.refl base w).grown R f fun k N=>(d k N).1
def PK (w:World) {ops:Array Oper} {d:List Oper} {o:Oper} {a:Act} {Q:Exit->Act->World->Prop} (D:o.guard=none) (s x:Operand) (t:TypeId)
  (K:o.op=.call { callee:=.builtin .append,args:=#[s,x],argTypes:=#[t,t] })
  (base:Nat) (e:TypeId) (size:Nat) (E:ajq P t e size)
  (v:Value) (n:Nat) (zs:List Int) (hs:a.eval s=v) (g:hY w base e size v n zs)
  (r:Addr) (m c:Nat) (q:List Int) (H:a.eval x=.slice (some r) m c) (f:Row w size (some r) m c q)
  (L:(n+m)*(size*8)<=140737488355328) (b:base<=w.heap.size)
  (h:∀j w',hY w' base e size j (n+m) (zs++q)->Below base w w'->wpList P ops Q d (a.put o.dst j) w'):wpList P ops Q (o::d) a w:=by
 obtain⟨I,⟨i,z,N,G,l,F,A⟩,J⟩:=E;have R:n+m<=(n+m)*(size*8):=a3q _ (by omega);refine wpList_append_own w D s x t K base e i z size (size*8) I N G l F A J v n (ints zs) hs g r m c (ints q) H (by rw[uV];exact f.len) f.cells ?_ (by unfold maxLen;omega) L b ?_
 .intro u B
  simp only[ints,a0l]at B;obtain⟨y,-,rfl⟩:=B;rfl
 .intro j w' p O _
  refine h j w' ?_ ?_
  .rw[hY,zI];exact p
  .have C:=World.ownsRow.lt g
   exact(Below.refl base w).grown O b fun k M=>(C k M).1
end
end
section
def Aw:ajq Tryz.prog 36 44 2:=by
 refine⟨by kernel_rfl,?_,by decide⟩;obtain⟨i,d,c,b,a⟩:=info_parts (P:=Tryz.prog) (e:=44) (z:=.agg #[.int .i64 0,.int .i64 0]) (size:=2) (bytes:=16) (by kernel_rfl);exact⟨i,_,d,c,b,a,rfl⟩
def acA (a:Option Addr) (n cap:Nat) (zs:List Int) (w:World) (h:Row w 2 a n cap zs) (q:n*16<=140737488355328) :
  Calls Tryz.prog 134 #[.slice a n cap] w fun e w'=>(∃v,e=.returned v/\hY w' w.heap.size 44 2 v n zs)/\Below w.heap.size w w':=by
 have f:=fun(wx:World) (a:Option Addr) (n c:Nat)=>Lib.run_eql_slice_nil (P:=Tryz.prog) wx 36 44 a n c 0 0 (by kernel_rfl);cases a with
 |none =>
  have k:n=0:=by
   rcases h.at_ with l|⟨b,off,e,-⟩
   .exact l
   .cases e
  subst k;have g:zs=[]:=a4l (by have:=h.len;omega);subst g;go_enter Tryz.func134,Tryz.ntmps134;go_wp2;go_ret;exact⟨⟨_,rfl,hY.nil _ _ _ _⟩,Below.refl _ _⟩
 |some m =>
  go_enter Tryz.func134,Tryz.ntmps134;go_wp2_with (at_builtin;refine PK _ rfl _ _ 36 rfl w.heap.size 44 2 Aw _ 0 [] rfl (hY.empty _ _ _ _ (a0h _)) m n cap zs rfl (h.below ((Below.refl _ _).alloc (a0h _) _)) (by omega) (by simp) ?_);intro p o d j;have i:=((Below.refl w.heap.size w).alloc (a0h _) _).trans j;clear j f;go_wp2;go_ret;exact⟨⟨_,rfl,by simpa using d⟩,i⟩
def Ni:ajq Tryz.prog 22 3 1:=by
 refine⟨by kernel_rfl,?_,by decide⟩;obtain⟨i,d,c,b,a⟩:=info_parts (P:=Tryz.prog) (e:=3) (z:=.int .i64 0) (size:=1) (bytes:=8) (by kernel_rfl);exact⟨i,_,d,c,b,a,rfl⟩
section
variable {P:Program} {Q:Exit->Act->World->Prop}
end
end
section
variable {o:Oper} {ρ:Operand->Value}
section
variable {P:Program} {Q:Exit->Act->World->Prop}
def Step (P:Program) (o:Oper) (ρ:Operand->Value) (w:World) (v:Value) (w':World):Prop :=
 ∀a:Act,execOp a.eval o=execOp ρ o->∀(K:Act->World->Prop) (Q:Exit->Act->World->Prop),K (a.put o.dst v) w'->o.wp P a w K Q
def Step.call {w d w':World} {v:Value} {f:FuncId} {args:Array Value} (h:(execOp ρ o).run P w=.ok (.enter f args) d) (c:Calls P f args d fun e b=>e=.returned v/\b=w'):Step P o ρ w v w':=by
 intro a e K Q g;unfold Oper.wp;rw[e,h];exact Calls.mono c fun e b ⟨j,i⟩=>by subst j;subst i;exact g
def aeg (P:Program) (o:Oper) (ρ:Operand->Value) (w:World) (v:Value) (B:World->Prop):Prop :=
 ∀a:Act,execOp a.eval o=execOp ρ o->∀(K:Act->World->Prop) (Q:Exit->Act->World->Prop),(∀w',B w'->K (a.put o.dst v) w')->o.wp P a w K Q
def aeg.call {w d:World} {v:Value} {B:World->Prop} {f:FuncId} {args:Array Value} (h:(execOp ρ o).run P w=.ok (.enter f args) d) (c:Calls P f args d fun e b=>e=.returned v/\B b):aeg P o ρ w v B:=by
 intro a e K Q g;unfold Oper.wp;rw[e,h];exact Calls.mono c fun e b ⟨j,i⟩=>by subst j;exact g b i
def Fe (P:Program) (W:Nat->World->Prop) (a:List Nat) (ρ:Operand->Value):List Oper->List Value->List (Nat×Nat)->Nat->Prop
 |[],_,_,_=>True
 |o::l,vs,ws,i=>(∀s w,(ws.headD (0,0)).1<=s->s<=(ws.headD (0,0)).2->W s w->aeg P o ρ w (vs.headD undef) (W (if a.contains i then s+1 else s)))/\Fe P W a ρ l vs.tail ws.tail (i+1)
def Fe.call {W:Nat->World->Prop} {a:List Nat} {l:List Oper} {v:Value} {vs:List Value} {b c:Nat} {ws:List (Nat×Nat)} {i:Nat} (hs:a.contains i=false)
  (h:∀s w,b<=s->s<=c->W s w->aeg P o ρ w v (W s)) (t:Fe P W a ρ l vs ws (i+1)):Fe P W a ρ (o::l) (v::vs) ((b,c)::ws) i:=by
 refine⟨fun s w f e d=>?_,t⟩;rw[hs];exact h s w f e d
end
end
section
variable {j k:Nat}
theorem gO {a b:World} (h:Below a.heap.size a b) (k:Nat) (v:Value):Below a.heap.size a (b.setCell ⟨a.heap.size,k,none⟩ v):=h.setCell (a0h _) v
def apm {a b:World} {n:Nat} (h:Below a.heap.size a b) (c:a.heap.size<=n) (k:Nat) (v:Value):Below a.heap.size a (b.setCell ⟨n,k,none⟩ v):=h.setCell c v
def blw {P:Prop} (h:P:=by(repeat (first|assumption|exact Below.refl _ _|refine apr ?_ _|refine apq ?_|refine Ny ?_ _|refine gO ?_ _ _|refine apm ?_ (by omega) _ _|refine apl ?_ (by assumption)))):P:=h
structure bV where
 q:Int
 v:Int
 p:Int
def bV.val (x:bV):Value:=.agg #[.int .i64 x.q,.int .i64 x.v,.int .i64 x.p]
def bV.zero:bV:=⟨0,0,0⟩
def flat (l:List bV):List Int:=l.flatMap fun x=>[x.q,x.v,x.p]
def aio (l:List bV):(flat l).length=l.length*3:=by
 induction l with
 |nil=>rfl
 |cons x l a=>simp only[flat,a3b,a1r,a0t,a2w]at a |-;omega
def flat_get (l:List bV):∀(i:Nat) (x:bV),l[i]?=some x->(flat l).getD (i*3) 0=x.q/\(flat l).getD (i*3+1) 0=x.v/\(flat l).getD (i*3+2) 0=x.p:=by
 induction l with
 |nil=>intro i x h;simp at h
 |cons y l b =>
  intro i x h;cases i with
  |zero=>simp at h;subst h;exact⟨rfl,rfl,rfl⟩
  |succ i =>
   have:=b i x (by simpa using h)
   have e:∀k,(flat (y::l)).getD ((i+1)*3+k) 0=(flat l).getD (i*3+k) 0:=by
    intro k;show([y.q,y.v,y.p]++flat l).getD ((i+1)*3+k) 0=_;rw[a0k,a1u (by simp;omega),<-a0k];congr 1;simp;omega
   have a:=e 0;have e1:=e 1;have e2:=e 2;simp only[a2o]at a;rw[a,e1,e2];exact this
def aip {l:List bV} (h:eW (flat l)):eW (l.map (·.q))/\eW (l.map (·.v))/\eW (l.map (·.p)):=by
 have H:∀x,x∈l->fW x.q/\fW x.v/\fW x.p:=fun x a =>
  ⟨h _ (a1v.2 ⟨x,a,by simp⟩),h _ (a1v.2 ⟨x,a,by simp⟩),h _ (a1v.2 ⟨x,a,by simp⟩)⟩
 refine⟨fun z b=>?_,fun z b=>?_,fun z b=>?_⟩ <;>
  (obtain⟨x,a,rfl⟩:=a0l.1 b;first|exact(H x a).1|exact(H x a).2.1|exact(H x a).2.2)
def qE (l:List bV):Bool:=decide (dW (l.map (·.q))=0)&&decide (dW (l.map (·.v))=0)&&decide (dW (l.map (·.p))=0)
def uF (l:List bV):bV:=if qE l then⟨dJ (l.map (·.q)),dJ (l.map (·.v)),dJ (l.map (·.p))⟩else .zero
def NY (l:List bV):Int:=if qE l then 0 else 2
def aaC {l:List bV} (h:qE l=false):uF l=.zero/\NY l=2:=by simp[uF,NY,h]
def Lp {l:List bV} (h:qE l=true):uF l=⟨dJ (l.map (·.q)),dJ (l.map (·.v)),dJ (l.map (·.p))⟩/\NY l=0:=by simp[uF,NY,h]
def kS (x:bV):Bool:=decide (1<=x.q)&&decide (x.q<=288230376151711744)&&decide (0<=x.v)&&decide (x.v<=288230376151711744)&&decide (-288230376151711744<=x.p)&&decide (x.p<=288230376151711744)
def F3 {w wr:World} {b off:Nat} {l:List bV} {x:bV} (g:cK w b off (flat l)) (c:l[j]?=some x) (n:b<w.heap.size) (e:Below w.heap.size w wr) :
  wr.cell? ⟨b,off+j*3,none⟩=some (.int .i64 x.q)/\wr.cell? ⟨b,off+j*3+1,none⟩=some (.int .i64 x.v)/\wr.cell? ⟨b,off+j*3+2,none⟩=some (.int .i64 x.p):=by
 have d:=flat_get l j x c;have k:=aio l;have m:j<l.length:=by
  rcases a0u j l.length with h|h
  .exact h
  .rw[a1k h]at c;cases c
 have a:∀i,i<(flat l).length->wr.cell? ⟨b,off+i,none⟩=some (.int .i64 ((flat l).getD i 0)):=fun i f=>by
  rw[e.cell (by show b<_;omega)];exact g i f
 refine⟨by rw[a (j*3) (by omega),d.1],by rw[a2p,a (j*3+1) (by omega),d.2.1],by rw[a2p,a (j*3+2) (by omega),d.2.2]⟩
def aje {l:List bV} {x:bV} {f:bV->Bool} (a:l[j]?=some x):(l.take (j+1)).all f=((l.take j).all f&&f x):=by
 rw[a0n,a];simp
def eI {x:bV}:kS x=true↔1<=x.q/\x.q<=288230376151711744/\0<=x.v/\x.v<=288230376151711744/\-288230376151711744<=x.p/\x.p<=288230376151711744:=by
 simp[kS,and_assoc]
def kR (x:bV):Int:=max x.p (-x.p)
def aok {l:List bV} {x:bV} {f:bV->Bool} (h:l.all f=true) (a:l[j]?=some x):f x=true:=a0i.1 h x (a0a a)
@[go_sem] theorem bV.apJ (x:bV):x.val=.agg #[.int .i64 x.q,.int .i64 x.v,.int .i64 x.p]:=rfl
@[go_sem] theorem bV.apH:bV.zero.q=0:=rfl
@[go_sem] theorem bV.apG:bV.zero.v=0:=rfl
@[go_sem] theorem bV.apI:bV.zero.p=0:=rfl
def lM (l:List bV):Bool:=decide (l.length<=30)&&l.all kS&&qE l&&decide (dW (l.map kR)=0)
structure am1 (w:World) (b:Nat) (x y z:Int):Prop where
 c0:w.cell? ⟨b,0,none⟩=some (.int .i64 x)
 c1:w.cell? ⟨b,1,none⟩=some (.int .i64 y)
 c2:w.cell? ⟨b,2,none⟩=some (.int .i64 z)
 f0:w.frozen? ⟨b,0,none⟩=false
 f1:w.frozen? ⟨b,1,none⟩=false
 f2:w.frozen? ⟨b,2,none⟩=false
def Ei (a b:Int) (w:World):Calls Tryz.prog 83 #[.int .i64 a,.int .i64 b] w fun e w'=>e=.returned (.tuple #[.int .i64 (nT a b),.int .i64 (nI a b)])/\w'=w :=
 (Ah a b w).mono fun _ _ h=>⟨h.1,h.2.symm⟩
def Sp {zs:List Int} (e:dO 0 (zs.take k)=none):dW zs=2:=by simp[dW,A5 e]
def apv {l:List bV} (e:dO 0 ((l.map (·.q)).take k)=none):qE l=false:=by simp[qE,Sp e]
def apu {l:List bV} (e:dO 0 ((l.map (·.v)).take k)=none):qE l=false:=by simp[qE,Sp e]
def apt {l:List bV} (e:dO 0 ((l.map (·.p)).take k)=none):qE l=false:=by simp[qE,Sp e]
def Ad {l:List bV} {x:bV} {f:bV->Int} {n:Int} (a:l[j]?=some x) (e:dO 0 ((l.map f).take j)=some n) :
  dO 0 ((l.map f).take (j+1))=if gH n (f x)then some (n+f x)else none:=by
 have b:j<(l.map f).length:=by
  rcases a0u j l.length with h|h
  .simpa using h
  .rw[a1k h]at a;cases a
 rw[xA b e];have:(l.map f).getD j 0=f x:=by rw[a0k,a0o,a];rfl
 rw[this]
def Mx (a:Option Addr) (cap:Nat) (l:List bV) (w:World) (h:Row w 3 a l.length cap (flat l)) :
  Calls Tryz.prog 198 #[.slice a l.length cap] w fun e w'=>e=.returned (.tuple #[(uF l).val,.int .i64 (NY l)])/\Below w.heap.size w w':=by
 obtain⟨hl,Y,M,N,I⟩:=h;unfold maxLen at M;go_enter Tryz.func198,Tryz.ntmps198;obtain⟨hq,hv,hp⟩:=aip N;go_wp2
 go_loopw [5] (fun i wr=>∃(j:Nat) (q v p:Int),j<=l.length/\i=.int .i64 j/\dO 0 ((l.map (·.q)).take j)=some q/\dO 0 ((l.map (·.v)).take j)=some v/\dO 0 ((l.map (·.p)).take j)=some p /\
  am1 wr w.heap.size 0 0 0/\am1 wr (w.heap.size+1) q v p/\w.heap.size+2<=wr.heap.size/\Below w.heap.size w wr) (fun i _=>l.length-(intOf i).toNat)
 case atStart=>exact⟨0,0,0,0,by omega,rfl,rfl,rfl,rfl,⟨by simp,by simp,by simp,by simp,by simp,by simp⟩,⟨by simp,by simp,by simp,by simp,by simp,by simp⟩,by simp,blw⟩
 case round =>
  obtain⟨j,q,v,p,hj,rfl,D,C,B,⟨r0,r1,r2,m,k,g⟩,⟨L,K,J,A,z,y⟩,u,c⟩:=hrel;have t:=c.size;by_cases H:j<l.length
  .obtain⟨b,off,rfl,Z,V⟩:∃b off,a=some ⟨b,off,none⟩/\b<w.heap.size/\cK w b off (flat l):=by
    rcases I with W|W
    .omega
    .exact W
   obtain⟨x,s⟩:∃x,l[j]?=some x:=⟨l[j],by simp[H]⟩;obtain⟨R,Q,P⟩:=F3 V s Z c;have X:(j:Int)<(l.length:Int):=(by omega);have r:=Ad (f:=(·.q)) s D;have o:=Ad (f:=(·.v)) s C;have n:=Ad (f:=(·.p)) s B;have s:=Lib.hid s;clear V I D C B;have r:=Lib.hid r;have o:=Lib.hid o;have n:=Lib.hid n;go_wp2_with fail;go_quiet ((go_at_call 83;refine Calls.quiet_of_same (Ei _ _ _)));change (wr.drewN nq).cell? _=_ at L K J r0 r1 r2 R Q P;change (wr.drewN nq).frozen? _=_ at A z y m k g;change _<=(wr.drewN nq).heap.size at u t;replace c:=Ny c nq;generalize wr.drewN nq=wr at *;go_wp2_with fail;go_quiet ((go_at_call 83;refine Calls.quiet_of_same (Ei _ _ _)));change (wr.drewN nq).cell? _=_ at L K J r0 r1 r2 R Q P;change (wr.drewN nq).frozen? _=_ at A z y m k g;change _<=(wr.drewN nq).heap.size at u t;replace c:=Ny c nq;generalize wr.drewN nq=wr at *;go_wp2_with fail;go_quiet ((go_at_call 83;refine Calls.quiet_of_same (Ei _ _ _)));change (wr.drewN nq).cell? _=_ at L K J r0 r1 r2 R Q P;change (wr.drewN nq).frozen? _=_ at A z y m k g;change _<=(wr.drewN nq).heap.size at u t;replace c:=Ny c nq;generalize wr.drewN nq=wr at *;cases G:gH q x.q
   .have S:=lJ G
    go_wp2_with fail;have d:=aaC (l:=l) (apv (by have:=r.out;rw[this,G];rfl));exact bodyPost_ret (v:=.tuple #[bV.zero.val,.int .i64 2]) (by simp[results,Tryz.results198,go_sem,r0,r1,r2,m,k,g]) rfl ⟨by rw[d.1,d.2],blw⟩
   have m1:=vB G;cases F:gH v x.v
   .have S:=lJ F
    go_wp2_with fail;have d:=aaC (l:=l) (apu (by have:=o.out;rw[this,F];rfl));exact bodyPost_ret (v:=.tuple #[bV.zero.val,.int .i64 2]) (by simp[results,Tryz.results198,go_sem,r0,r1,r2,m,k,g]) rfl ⟨by rw[d.1,d.2],blw⟩
   have m2:=vB F;cases E:gH p x.p
   .have S:=lJ E
    go_wp2_with fail;have d:=aaC (l:=l) (apt (by have:=n.out;rw[this,E];rfl));exact bodyPost_ret (v:=.tuple #[bV.zero.val,.int .i64 2]) (by simp[results,Tryz.results198,go_sem,r0,r1,r2,m,k,g]) rfl ⟨by rw[d.1,d.2],blw⟩
   have m3:=vB E;go_wp2_with fail
   case' roundEnd =>
    have r:=r.out;have o:=o.out;have n:=n.out;rw[G]at r;rw[F]at o;rw[E]at n;refine⟨⟨j+1,q+x.q,v+x.v,p+x.p,H,by simp,r,o,n,⟨by go_simp,by go_simp,by go_simp,by simp[m],by simp[k],by simp[g]⟩,⟨by go_simp,by go_simp,by go_simp,by simp[A],by simp[z],by simp[y]⟩,by simp;omega,blw⟩,?_⟩;simp[intOf];omega
  .have ej:j=l.length:=by omega
   subst ej;have aa:¬ ((l.length:Int)<(l.length:Int)):=by omega
   have e1:dO 0 (l.map (·.q))=some q:=(by rw[<-D,a1l (by simp)]);have e2:dO 0 (l.map (·.v))=some v:=(by rw[<-C,a1l (by simp)]);have O:dO 0 (l.map (·.p))=some p:=(by rw[<-B,a1l (by simp)]);have d:=Lp (l:=l) (by simp[qE,dW,e1,e2,O]);have U:uF l=⟨q,v,p⟩:=by rw[d.1];simp[dJ,e1,e2,O]
   have T:=d.2;clear D C B e1 e2 O d;go_wp2_with fail;exact bodyPost_ret (v:=.tuple #[.agg #[.int .i64 q,.int .i64 v,.int .i64 p],.int .i64 0]) (by simp[results,Tryz.results198,go_sem,r0,r1,r2,m,k,g]) rfl ⟨by first|rfl|(rw[U,T];rfl),blw⟩
def OO (a:Option Addr) (cap:Nat) (l:List bV) (w:World) (h:Row w 3 a l.length cap (flat l)) (o:l.all kS=true) :
  Calls Tryz.prog 197 #[.slice a l.length cap] w fun e w'=>e=.returned (.tuple #[.int .i64 (dJ (l.map kR)),.int .i64 (dW (l.map kR))])/\Below w.heap.size w w':=by
 obtain⟨Q,E,t,F,s⟩:=h;unfold maxLen at t;go_enter Tryz.func197,Tryz.ntmps197;go_wp2;go_loopw [4,5] (fun n i wr=>∃(j:Nat) (q:Int),j<=l.length/\i=.int .i64 j/\n=.int .i64 q/\dO 0 ((l.map kR).take j)=some q/\Below w.heap.size w wr) (fun _ i _=>l.length-(intOf i).toNat)
 case atStart=>exact⟨0,0,by omega,rfl,rfl,rfl,blw⟩
 case round =>
  obtain⟨j,q,R,rfl,rfl,m,c⟩:=hrel;have y:=c.size;by_cases r:j<l.length
  .obtain⟨b,off,rfl,u,z⟩:∃b off,a=some ⟨b,off,none⟩/\b<w.heap.size/\cK w b off (flat l):=by
    rcases s with B|B
    .omega
    .exact B
   obtain⟨x,k⟩:∃x,l[j]?=some x:=⟨l[j],by simp[r]⟩;obtain⟨K,J,I⟩:=F3 z k u c;have D:(j:Int)<(l.length:Int):=(by omega);have d:=Ad (f:=kR) k m;obtain⟨-,-,-,-,N,M⟩:=eI.1 (aok o k);have v:IntKind.i64.wrap (-x.p)=-x.p:=IntWalk.i64_in _ (by omega);have k:=Lib.hid k;clear z s m o;have d:=Lib.hid d;go_wp2_with fail;go_quiet ((go_at_call 83;refine Calls.quiet_of_same (Ei _ (kR x) _)));change (wr.drewN nq).cell? _=_ at K J I;change _<=(wr.drewN nq).heap.size at y;replace c:=Ny c nq;generalize wr.drewN nq=wr at *;clear v;have L:¬ x.p < -288230376151711744:=by omega
   cases g:gH q (kR x)
   .have P:=lJ g
    go_wp2_with fail;have u:dW (l.map kR)=2:=Sp (by have:=d.out;rw[this,g];rfl)
    have A:dJ (l.map kR)=0:=by
     have:dO 0 (l.map kR)=none:=A5 (by have:=d.out;rw[this,g];rfl);simp[dJ,this]
    go_ret2;exact⟨by rw[u,A];rfl,blw⟩
   .have C:=vB g
    go_wp2_with fail
    case' roundEnd =>
     have d:=d.out;rw[g]at d;refine⟨⟨j+1,q+kR x,r,by simp,by rw[C.1],d,blw⟩,?_⟩;simp[intOf];omega
  .have G:j=l.length:=by omega
   subst G;have O:¬ ((l.length:Int)<(l.length:Int)):=by omega
   have e1:dO 0 (l.map kR)=some q:=(by rw[<-m,a1l (by simp)]);have e2:dJ (l.map kR)=q:=(by simp[dJ,e1]);have H:dW (l.map kR)=0:=(by simp[dW,e1]);clear m e1;go_wp2_with fail;go_ret2;exact⟨by first|rfl|rw[e2,H],blw⟩
def agp {l:List bV} {x:bV} (a:l[j]?=some x) (h:kS x=false):lM l=false:=by
 have:l.all kS=false:=List.all_eq_false.2 ⟨x,a0a a,by simp[h]⟩;simp[lM,this]
def Ms {l:List bV}:lM l=true↔(l.length:Int)<=30/\l.all kS=true/\NY l=0/\dW (l.map kR)=0:=by
 have k:qE l=decide (NY l=0):=by unfold NY;split<;>simp_all
 have a:(l.length<=30)↔(l.length:Int)<=30:=by omega
 simp only[lM,k,a0e,decide_eq_true_eq,a,and_assoc]
def aa0 (a:Option Addr) (cap:Nat) (l:List bV) (w:World) (h:Row w 3 a l.length cap (flat l)) (B:l.length<=1000) :
  Calls Tryz.prog 199 #[.slice a l.length cap] w fun e w'=>e=.returned (.bool (lM l))/\Below w.heap.size w w':=by
 have g:=h;obtain⟨C,r,n,t,m⟩:=h;unfold maxLen at n;go_enter Tryz.func199,Tryz.ntmps199
 try simp only[List.append_eq,a2a,a3v]
 go_wp2;go_loopw [3] (fun i wr=>∃(j:Nat),j<=l.length/\i=.int .i64 j/\(l.take j).all kS=true/\Below w.heap.size w wr) (fun i _=>l.length-(intOf i).toNat)
 case atStart=>exact⟨0,by omega,rfl,rfl,blw⟩
 case round =>
  obtain⟨j,D,rfl,T,f⟩:=hrel;have z:=f.size;by_cases k:j<l.length
  .obtain⟨b,off,rfl,s,o⟩:∃b off,a=some ⟨b,off,none⟩/\b<w.heap.size/\cK w b off (flat l):=by
    rcases m with g|g
    .omega
    .exact g
   obtain⟨x,c⟩:∃x,l[j]?=some x:=⟨l[j],by simp[k]⟩;obtain⟨G,F,E⟩:=F3 o c s f;have p:(j:Int)<(l.length:Int):=(by omega);have c:=Lib.hid c;clear o m;go_wp2_with (first|(go_at_call 144;refine(sU _ _).mono ?_;rintro e w' ⟨rfl,rfl⟩))
   case' roundEnd =>
    have d:kS x=true:=by
     rw[eI];simp_all [mD]
     try omega
    have c:l[j]?=some x:=c;refine⟨⟨j+1,k,by simp,by rw[aje c,T,d];rfl,blw⟩,?_⟩;simp[intOf];omega
   all_goals
    have d:kS x=false:=by
     cases q:kS x
     .rfl
     .exfalso
      rw[eI]at q;simp_all [mD]
      try omega
    have c:l[j]?=some x:=c;go_ret;exact⟨lR (by rw[agp c d]),blw⟩
  .have u:j=l.length:=by omega
   subst u;have A:¬ ((l.length:Int)<(l.length:Int)):=by omega
   rw[a04]at T;have hs:=fun w h=>OO a cap l w h T
   go_wp2_with (first|(go_at_call 198;refine(Mx a cap l _ (g.below blw)).mono ?_;rintro e w' ⟨rfl,y⟩)|(go_at_call 197;refine(hs _ (g.below blw)).mono ?_;rintro e w' ⟨rfl,v⟩))
   all_goals (go_ret;refine⟨lR ?_,blw⟩;rw[a3z,Ms];simp_all<;>omega)
deriving instance DecidableEq for bV
def vV (l:List Int):∀(n s:Int),dO n l=some s->s=n+l.sum:=by
 induction l with
 |nil=>intro n s h;simp[dO]at h;simp[h]
 |cons z l a =>
  intro n s h;simp only[dO]at h;split at h
  .have:=a _ _ h
   rw[this,a0x];omega
  .cases h
def mZ (x:bV) (q:Int):bV:=⟨q,dM x.v q x.q,dM x.p q x.q⟩
def lX (x y:bV):bV:=⟨x.q-y.q,x.v-y.v,x.p-y.p⟩
def lD (x y:bV):bV:=⟨x.q+y.q,x.v+y.v,x.p+y.p⟩
def jL:List bV->bV->Int->List bV×bV
 |[],a,_=>([],a)
 |x::r,a,q=>if q<=0 then(x::r,a)else if q<x.q then(lX x (mZ x q)::r,lD a (mZ x q))else jL r (lD a x) (q-x.q)
def FJ {r:List bV} {a:bV} {q:Int} (h:q<=0):jL r a q=(r,a):=by
 cases r<;>simp[jL,h]
def uQ {v q n:Int} (d:1<=n) (c:0<=q) (b:q<=n) (a:0<=v):0<=v*q/n/\v*q/n<=v:=by
 refine⟨a2j (a0p a c) (by omega),a21 (by omega) (a1s b a)⟩
def Aj {v q n:Int} (d:1<=n) (c:0<=q) (a:q<=n) (e:mD v=true):(0<=v->0<=dM v q n/\dM v q n<=v)/\(v<0->v<=dM v q n/\dM v q n<=0):=by
 have h:¬ (n<1\/q<0\/q > n\/mD v=false):=by rw[e];simp;omega
 refine⟨fun b=>?_,fun b=>?_⟩
 .rw[TA h (by omega)]
  exact uQ d c a b
 .rw[TB h b]
  have:=uQ (v:=-v) d c a (by omega);omega
structure apD (x:bV) (q:Int):Prop where
 v0:0<=dM x.v q x.q
 v1:dM x.v q x.q<=x.v
 p0:-288230376151711744<=dM x.p q x.q
 p1:dM x.p q x.q<=288230376151711744
 d0:-288230376151711744<=x.p-dM x.p q x.q
 d1:x.p-dM x.p q x.q<=288230376151711744
def abZ {x:bV} {q:Int} (h:kS x=true) (d:0<=q) (h1:q<=x.q):apD x q:=by
 obtain⟨c,k,e,j,i,g⟩:=eI.1 h;have a:=Aj (v:=x.v) c d h1 (fK.2 ⟨by omega,by omega⟩);have b:=Aj (v:=x.p) c d h1 (fK.2 ⟨by omega,by omega⟩)
 have l:=a.1 e;refine⟨by omega,by omega,?_,?_,?_,?_⟩ <;>
  (by_cases f:0<=x.p
   .have:=b.1 f;omega
   .have:=b.2 (by omega);omega)
def fU (l:List bV) (q:Int):List bV×bV×Int :=
 if q<1 then(l,.zero,1)else if(uF l).q<q then(l,.zero,5)else((jL l .zero q).1,(jL l .zero q).2,0)
def aaS {l:List bV} (h:lM l=true):∃d sv f,dO 0 (l.map (·.q))=some d/\dO 0 (l.map (·.v))=some sv/\dO 0 (l.map (·.p))=some f/\uF l=⟨d,sv,f⟩:=by
 have a:qE l=true:=by
  simp only[lM,a0e]at h;exact h.1.2
 have k:=(Lp a).1
 simp only[qE,a0e,decide_eq_true_eq]at a;have c:∀zs,dW zs=0->∃s,dO 0 zs=some s/\dJ zs=s:=fun zs b=>by
  unfold dW at b;cases e:dO 0 zs with
  |none=>rw[e]at b;simp at b
  |some s=>exact⟨s,rfl,by simp[dJ,e]⟩
 obtain⟨j,e1,f1⟩:=c _ a.1.1;obtain⟨i,e2,f2⟩:=c _ a.1.2;obtain⟨g,n,m⟩:=c _ a.2;exact⟨j,i,g,e1,e2,n,by rw[k,f1,f2,m]⟩
def eR (l:List Int):Int:=(l.map fun z=>max z (-z)).sum
theorem fL (z:Int) (l:List Int):eR (z::l)=max z (-z)+eR l:=by simp[eR]
def E5 (l:List Int):0<=eR l:=by
 induction l with
 |nil=>simp[eR]
 |cons z l a=>rw[fL];omega
def Ir {l:List Int} (h:∀z,z∈l->0<=z):eR l=l.sum:=by
 induction l with
 |nil=>rfl
 |cons z l a =>
  rw[fL,a0x,a fun y b=>h y (by simp[b])];have:=h z (by simp);omega
def PO (l:List Int):-eR l<=l.sum/\l.sum<=eR l:=by
 induction l with
 |nil=>simp[eR]
 |cons z l a=>rw[fL,a0x];omega
def mP (l:List Int):∀n:Int,max n (-n)+eR l<=288230376151711744->dO n l=some (n+l.sum):=by
 induction l with
 |nil=>intro n _;simp[dO]
 |cons z l b =>
  intro n h;rw[fL]at h;have:=E5 l;have a:gH n z=true:=pV.2 ⟨fK.2 ⟨by omega,by omega⟩,fK.2 ⟨by omega,by omega⟩,fK.2 ⟨by omega,by omega⟩⟩;simp only[dO,a,if_true];rw[b _ (by omega),a0x];congr 1;omega
def L7 (l:List Int):∀n s:Int,mD n=true->dO n l=some s->mD s=true:=by
 induction l with
 |nil=>intro n s a h;simp[dO]at h;subst h;exact a
 |cons z l b =>
  intro n s a h;simp only[dO]at h;split at h
  .rename_i k;exact b _ _ (pV.1 k).2.2 h
  .cases h
def aet {l:List Int} (h:dW l=0):dO 0 l=some l.sum/\mD l.sum=true:=by
 unfold dW at h;cases e:dO 0 l with
 |none=>rw[e]at h;simp at h
 |some s =>
  have a:=vV _ _ _ e;have b:=L7 l 0 s (by decide +kernel) e;have:s=l.sum:=by omega
  subst this;exact⟨rfl,b⟩
def CY {l:List Int} (h:eR l<=288230376151711744):dW l=0/\dJ l=l.sum:=by
 have:=mP l 0 (by simpa using h);simp[dW,dJ,this]
def qs (l:List bV):Int:=(l.map (·.q)).sum
def vs (l:List bV):Int:=(l.map (·.v)).sum
def ps (l:List bV):Int:=(l.map (·.p)).sum
def yN (l:List bV):Int:=eR (l.map (·.p))
def gQ (x:bV) (l:List bV):qs (x::l)=x.q+qs l:=by simp[qs]
def mO (x:bV) (l:List bV):vs (x::l)=x.v+vs l:=by simp[vs]
def Lw (x:bV) (l:List bV):ps (x::l)=x.p+ps l:=by simp[ps]
def wR (x:bV) (l:List bV):yN (x::l)=max x.p (-x.p)+yN l:=by simp[yN,fL]
def NA (l:List bV):0<=yN l:=E5 _
def Ej (l:List bV):-yN l<=ps l/\ps l<=yN l:=PO _
structure LR (l:List bV):Prop where
 len:l.length<=30
 ok:∀x,x∈l->kS x=true
 q:qs l<=288230376151711744
 v:vs l<=288230376151711744
 p:yN l<=288230376151711744
def LR.at_ {l:List bV} (h:LR l) {x:bV} (a:x∈l):1<=x.q/\x.q<=288230376151711744/\0<=x.v/\x.v<=288230376151711744/\-288230376151711744<=x.p/\x.p<=288230376151711744:=eI.1 (h.ok x a)
def LR.tail {x:bV} {l:List bV} (h:LR (x::l)):LR l:=by
 obtain⟨a,b,c,d,e⟩:=h;have:=eI.1 (b x (by simp));rw[gQ]at c;rw[mO]at d;rw[wR]at e;simp only[a0t]at a;exact⟨by omega,fun y f=>b y (by simp[f]),by omega,by omega,by omega⟩
def gG {l:List bV} (h:∀x,x∈l->kS x=true):0<=qs l/\0<=vs l/\(l.length:Int)<=qs l:=by
 induction l with
 |nil=>simp[qs,vs]
 |cons x l a =>
  have:=eI.1 (h x (by simp));have:=a fun y b=>h y (by simp[b]);rw[gQ,mO,a0t];omega
def LR.I9 {l:List bV} (h:LR l):dO 0 (l.map (·.q))=some (qs l)/\dO 0 (l.map (·.v))=some (vs l)/\dO 0 (l.map (·.p))=some (ps l)/\dO 0 (l.map kR)=some (yN l):=by
 have e1:eR (l.map (·.q))=qs l:=Ir fun z a=>by obtain⟨x,b,rfl⟩:=a0l.1 a;have:=h.at_ b;omega
 have e2:eR (l.map (·.v))=vs l:=Ir fun z a=>by obtain⟨x,b,rfl⟩:=a0l.1 a;have:=h.at_ b;omega
 have d:(l.map kR).sum=yN l:=by simp only[yN,eR,a2i];rfl
 have i:eR (l.map kR)=yN l:=by rw[Ir,d];intro z a;obtain⟨x,b,rfl⟩:=a0l.1 a;unfold kR;omega
 have g:=h.q;have f:=h.v;have e:=h.p;have f1:=mP (l.map (·.q)) 0 (by omega);have f2:=mP (l.map (·.v)) 0 (by omega);have c:=mP (l.map (·.p)) 0 (by unfold yN at e;omega);have f4:=mP (l.map kR) 0 (by omega);rw[d]at f4;simp only[a2s]at f1 f2 c f4;exact⟨f1,f2,c,f4⟩
def LR.uF {l:List bV} (h:LR l):uF l=⟨qs l,vs l,ps l⟩/\NY l=0:=by
 obtain⟨a,b,c,-⟩:=h.I9;have d:qE l=true:=by simp[qE,dW,a,b,c]
 rw[(Lp d).1,(Lp d).2];simp[dJ,a,b,c]
def LR.of {l:List bV} (h:lM l=true):LR l:=by
 obtain⟨a,b,c,d⟩:=Ms.1 h;obtain⟨g,sv,i,e1,e2,p,o⟩:=aaS h;have n:=fK.1 (L7 _ 0 _ (by decide +kernel) e1);have m:=fK.1 (L7 _ 0 _ (by decide +kernel) e2);have k:=vV _ _ _ e1;have j:=vV _ _ _ e2;have e:=(aet d).2;have f:(l.map kR).sum=yN l:=by simp only[yN,eR,a2i];rfl
 rw[f]at e;have e:=fK.1 e;exact⟨by omega,a0i.1 b,by unfold qs;omega,by unfold vs;omega,by omega⟩
def LR.nil:LR []:=⟨by simp,fun x a=>by simp at a,by simp[qs],by simp[vs],by simp[yN,eR]⟩
theorem LR.one {x:bV} (h:kS x=true):LR [x]:=by
 have k:=eI.1 h;refine⟨by simp,fun y a=>?_,by simp[qs];omega,by simp[vs];omega,by simp[yN,eR];omega⟩
 rw[a07.1 a];exact h
def aiL {x:bV} {q:Int} (h:kS x=true) (d:0<=q) (h1:q<=x.q) :
  max (x.p-dM x.p q x.q) (-(x.p-dM x.p q x.q))<=max x.p (-x.p)/\max (dM x.p q x.q) (-dM x.p q x.q)<=max x.p (-x.p):=by
 obtain⟨a,j,i,g,f,e⟩:=eI.1 h;have b:=Aj (v:=x.p) a d h1 (fK.2 ⟨by omega,by omega⟩);by_cases c:0<=x.p
 .have:=b.1 c;omega
 .have:=b.2 (by omega);omega
def an3 {x:bV} {q:Int} (h:kS x=true) (i:1<=q) (h1:q<x.q):kS (lX x (mZ x q))=true/\kS (mZ x q)=true:=by
 obtain⟨g,f,e,d,c,a⟩:=eI.1 h;have b:=abZ h (q:=q) (by omega) (by omega);have:=b.v0;have:=b.v1;have:=b.p0;have:=b.p1;have:=b.d0;have:=b.d1;simp only[eI,lX,mZ];omega
def adt (l:List bV):∀(a:bV) (q:Int),LR l->LR (jL l a q).1/\qs (jL l a q).1<=qs l/\vs (jL l a q).1<=vs l/\yN (jL l a q).1<=yN l:=by
 induction l with
 |nil=>intro a q h;exact⟨h,a0f _,a0f _,a0f _⟩
 |cons x r e =>
  intro a q h;simp only[jL];have b:=h.ok x (by simp);have t:=eI.1 b;split
  .exact⟨h,a0f _,a0f _,a0f _⟩
  .split
   .have c:=an3 b (q:=q) (by omega) (by omega)
    have u:=aiL b (q:=q) (by omega) (by omega);have i:=abZ b (q:=q) (by omega) (by omega);have e1:qs (lX x (mZ x q)::r)=qs (x::r)-q:=by rw[gQ,gQ];simp only[lX,mZ];omega
    have e2:vs (lX x (mZ x q)::r)=vs (x::r)-dM x.v q x.q:=by rw[mO,mO];simp only[lX,mZ];omega
    have g:yN (lX x (mZ x q)::r)<=yN (x::r):=by rw[wR,wR];simp only[lX,mZ];omega
    have:=i.v0;have o:=h.q;have n:=h.v;have s:=h.p;dsimp only;exact⟨⟨h.len,fun y d=>by rcases a0c.1 d with rfl|d;exact c.1;exact h.ok y (by simp[d]),by omega,by omega,by omega⟩,by omega,by omega,g⟩
   .obtain⟨f,m,k,j⟩:=e (lD a x) (q-x.q) h.tail
    rw[gQ,mO,wR];exact⟨f,by omega,by omega,by omega⟩
def wE (l:List bV):∀(a:bV) (q:Int),LR l->0<=q->q<=qs l ->
  (jL l a q).2.q=a.q+q/\qs (jL l a q).1=qs l-q/\(jL l a q).2.v+vs (jL l a q).1=a.v+vs l/\(jL l a q).2.p+ps (jL l a q).1=a.p+ps l:=by
 induction l with
 |nil=>intro a q h j b;simp[qs]at b;simp only[jL,qs,vs,ps];simp;omega
 |cons x r c =>
  intro a q h j b;simp only[jL];have i:=h.ok x (by simp);have k:=eI.1 i;split
  .dsimp only;exact⟨by omega,by omega,rfl,rfl⟩
  .split
   .dsimp only
    rw[gQ,mO,Lw,gQ,mO,Lw];dsimp only[lD,lX,mZ];exact⟨by omega,by omega,by omega,by omega⟩
   .rw[gQ]at b
    obtain⟨g,f,e,d⟩:=c (lD a x) (q-x.q) h.tail (by omega) (by omega);rw[gQ,mO,Lw,g,f,e,d];simp only[lD];exact⟨by omega,by omega,by omega,by omega⟩
def Em {l:List bV} {q:Int} (h:LR l) (a:1<=q) (h1:q<=qs l):fU l q=((jL l .zero q).1,(jL l .zero q).2,0):=by
 rw[fU,if_neg (by omega),if_neg (by rw[h.uF.1];simp only;omega)]
def Cs {l:List bV} {q:Int} (h:LR l) (a:1<=q) (h1:qs l<q):fU l q=(l,.zero,5):=by
 rw[fU,if_neg (by omega),if_pos (by rw[h.uF.1];simp only;omega)]
def nL {l:List bV} {q:Int} (h:LR l):LR (fU l q).1:=by
 unfold fU;split
 .exact h
 .split
  .exact h
  .exact(adt l _ _ h).1
def Cy (l:List bV) (x:bV):List bV×Int :=
 if x.q<1\/x.v<0 then(l,1)else if 30<=l.length then(l,6)else if lM (l++[x])then(l++[x],0)else(l,2)
def aie {l:List bV} {x:bV} (h:LR l):LR (Cy l x).1:=by
 unfold Cy;split
 .exact h
 .split
  .exact h
  .split
   .exact LR.of (by assumption)
   .exact h
def FD (l m:List bV):qs (l++m)=qs l+qs m:=by simp[qs]
def Fo (l m:List bV):vs (l++m)=vs l+vs m:=by simp[vs]
def adM {l:List bV} (h:∀x,x∈l->kS x=true):eW (flat l):=by
 intro z a;obtain⟨x,b,a⟩:=a1v.1 a;have:=eI.1 (h x b);simp at a;exact⟨by rcases a with rfl|rfl|rfl<;>omega,by rcases a with rfl|rfl|rfl<;>omega⟩
structure dE where
 a:Int
 n:Int
def dE.val (x:dE):Value:=.agg #[.int .i64 x.a,.int .i64 x.n]
def dY (l:List dE):List Int:=l.flatMap fun x=>[x.a,x.n]
def sJ (l:List dE):(dY l).length=l.length*2:=by
 induction l with
 |nil=>rfl
 |cons x l a=>simp only[dY,a3b,a1r,a0t,a2w]at a |-;omega
def Pf (l:List dE):∀(i:Nat) (x:dE),l[i]?=some x->(dY l).getD (i*2) 0=x.a/\(dY l).getD (i*2+1) 0=x.n:=by
 induction l with
 |nil=>intro i x h;simp at h
 |cons y l c =>
  intro i x h;cases i with
  |zero=>simp at h;subst h;exact⟨rfl,rfl⟩
  |succ i =>
   have:=c i x (by simpa using h)
   have e:∀k,(dY (y::l)).getD ((i+1)*2+k) 0=(dY l).getD (i*2+k) 0:=by
    intro k;show([y.a,y.n]++dY l).getD ((i+1)*2+k) 0=_;rw[a0k,a1u (by simp;omega),<-a0k];congr 1;simp;omega
   have b:=e 0;have e1:=e 1;simp only[a2o]at b;rw[b,e1];exact this
def ae4 {l:List dE} (h:eW (dY l)) {x:dE} (b:x∈l):fW x.a/\fW x.n :=
 ⟨h _ (a1v.2 ⟨x,b,by simp⟩),h _ (a1v.2 ⟨x,b,by simp⟩)⟩
def Nb {l:List dE} (h:∀x,x∈l->fW x.a/\fW x.n):eW (dY l):=by
 intro z b;obtain⟨x,c,b⟩:=a1v.1 b;simp at b;rcases b with rfl|rfl
 .exact(h x c).1
 .exact(h x c).2
structure kQ (b:Nat) (w w':World):Prop where
 os:w'.os=w.os
 tape:w'.tape=w.tape
 output:w'.output=w.output
 size:w.heap.size<=w'.heap.size
 block:∀k,k<w.heap.size->k≠b->w'.heap[k]?=w.heap[k]?
 Xl:∀i,w'.frozen? ⟨b,i,none⟩=w.frozen? ⟨b,i,none⟩
def kQ.refl (b:Nat) (w:World):kQ b w w:=⟨rfl,rfl,rfl,a0h _,fun _ _ _=>rfl,fun _=>rfl⟩
def kQ.trans {b:Nat} {u v w:World} (h:kQ b u v) (k:kQ b v w):kQ b u w :=
 ⟨k.os.trans h.os,k.tape.trans h.tape,k.output.trans h.output,a1e h.size k.size,fun i c a=>(k.block i (a0s c h.size) a).trans (h.block i c a),fun i=>(k.Xl i).trans (h.Xl i)⟩
def kQ.of {b:Nat} {w w':World} (h:Below w.heap.size w w') (c:b<w.heap.size):kQ b w w' :=
 ⟨h.os,h.tape,h.output,h.size,fun i a _=>h.block i a,fun i=>h.frozen (p:=⟨b,i,none⟩) c⟩
def kQ.then {b:Nat} {u v w:World} (h:kQ b u v) (k:Below v.heap.size v w) (a:b<u.heap.size):kQ b u w:=h.trans (kQ.of k (a0s a h.size))
def kQ.drew {b:Nat} {u v:World} (h:kQ b u v):kQ b u v.drew:=⟨h.os,h.tape,h.output,h.size,h.block,h.Xl⟩
def kQ.drewN {b:Nat} {u v:World} (h:kQ b u v) (n:Nat):kQ b u (v.drewN n):=by
 have:=below_drewN (Below.refl v.heap.size v) n;exact⟨this.os.trans h.os,this.tape.trans h.tape,this.output.trans h.output,a1e h.size this.size,fun i a c=>(this.block i (a0s a h.size)).trans (h.block i a c),fun i=>(by simpa using h.Xl i)⟩
def kQ.set {b:Nat} {u v:World} (h:kQ b u v) (i:Nat) (x:Value):kQ b u (v.setCell ⟨b,i,none⟩ x) :=
 ⟨h.os,h.tape,h.output,by simpa[World.setCell]using h.size,fun k c a=>(Below.heap_setCell _ _ _ _ a).trans (h.block k c a),fun j=>by rw[World.frozen?_setCell];exact h.Xl j⟩
def kQ.below {b B:Nat} {w w':World} (h:kQ b w w') (c:B<=w.heap.size) (d:B<=b):Below B w w' :=
 ⟨h.os,h.tape,h.output,h.size,fun k a=>h.block k (a0s a c) (by omega)⟩
def cK.line {w:World} {b off:Nat} {l:List dE} {x:dE} (e:cK w b off (dY l)) (c:l[j]?=some x) :
  w.cell? ⟨b,off+j*2,none⟩=some (.int .i64 x.a)/\w.cell? ⟨b,off+j*2+1,none⟩=some (.int .i64 x.n):=by
 have d:=Pf l j x c;have f:=sJ l;have g:j<l.length:=by
  rcases a0u j l.length with h|h
  .exact h
  .rw[a1k h]at c;cases c
 exact⟨by rw[e (j*2) (by omega),d.1],by rw[a2p,e (j*2+1) (by omega),d.2]⟩
def cK.TJ {w:World} {b off:Nat} {l:List dE} (h:∀j x,l[j]?=some x->w.cell? ⟨b,off+j*2,none⟩=some (.int .i64 x.a)/\w.cell? ⟨b,off+j*2+1,none⟩=some (.int .i64 x.n)):cK w b off (dY l):=by
 intro i o;have m:=sJ l;have k:i/2<l.length:=by omega
 have d:l[i/2]?=some l[i/2]:=by simp[k]
 have f:=Pf l (i/2) _ d;have g:=h (i/2) _ d;by_cases e:i%2=0
 .have c:i=i/2*2:=by omega
  rw[show off+i=off+i/2*2 by omega,g.1,<-f.1,<-c]
 .have c:i=i/2*2+1:=by omega
  rw[show off+i=off+i/2*2+1 by omega,g.2,<-f.2,<-c]
def A7 (w:World) (b off:Nat) (x:dE):World:=(w.setCell ⟨b,off,none⟩ (.int .i64 x.a)).setCell ⟨b,off+1,none⟩ (.int .i64 x.n)
def OI {w:World} {b off:Nat} {l:List dE} (c:cK w b off (dY l)) {i:Nat} (f:i<l.length) (x:dE):cK (A7 w b (off+i*2) x) b off (dY (l.set i x)):=by
 refine cK.TJ fun j y a=>?_;have d:=(c.line (j:=i) (x:=l[i]) (by simp[f]));by_cases e:i=j
 .subst e
  rw[a3c (by omega)]at a;cases a;unfold A7;refine⟨?_,?_⟩
  .rw[World.cell?_setCell_other _ _ _ _ (by intro e2;injection e2;omega),World.cell?_setCell_same _ _ _ d.1]
  .rw[World.cell?_setCell_same _ _ _ (by rw[World.cell?_setCell_other _ _ _ _ (by intro e2;injection e2;omega)];exact d.2)]
 .rw[a3l e]at a
  have:=c.line a;unfold A7;refine⟨?_,?_⟩
  .rw[World.cell?_setCell_other _ _ _ _ (by intro e2;injection e2;omega),World.cell?_setCell_other _ _ _ _ (by intro e2;injection e2;omega)];exact this.1
  .rw[World.cell?_setCell_other _ _ _ _ (by intro e2;injection e2;omega),World.cell?_setCell_other _ _ _ _ (by intro e2;injection e2;omega)];exact this.2
def kQ.A7 {b:Nat} {u v:World} (h:kQ b u v) (i:Nat) (x:dE):kQ b u (Go.Proofs.YtnepgggkgnckcaaGreat.A7 v b i x):=(h.set _ _).set _ _
end
section
open Mc
structure wU where
 (aU item loc eU value wG dQ back:Int)
structure kU where
 (aU item loc eU back cost bY period:Int)
 waits:Bool
structure Fh where
 (src dst item eU value bY:Int)
structure dI where
 aX:List bV
 (p0 p1 p2:Int)
structure EntC where
 now:Int
 closed:Bool
 bH:List dI
 cU:List Int
 aM:List (List Int)
 aZ:List Int
 down:List Int
structure dL extends EntC where
 ahead:List EntC
structure bK where
 (bU bT:Int)
 weights:List Int
 methods:List (List Int)
 cI:List (List Int)
 aD:List dL
 bB:List wU
 aN:List kU
 aH:List Fh
 done:Int
def jF (l:List Int):List AV:=l.map AV.i
def FZ (k:Nat) (l:List (List Int)):AV:=.lit k (l.map jF)
def bV.r (x:bV):List Int:=[x.q,x.v,x.p]
def dE.r (x:dE):List Int:=[x.a,x.n]
def wU.r (x:wU):List Int:=[x.aU,x.item,x.loc,x.eU,x.value,x.wG,x.dQ,x.back]
def Fh.r (x:Fh):List Int:=[x.src,x.dst,x.item,x.eU,x.value,x.bY]
def kU.row (x:kU):List AV:=[.i x.aU,.i x.item,.i x.loc,.i x.eU,.i x.back,.i x.cost,.i x.bY,.i x.period,.c (.bool x.waits)]
def aA (l:List Int):List (List AV):=l.map fun v=>[.i v]
def aO (l:List bV):List (List AV):=l.map fun x=>jF x.r
def bS (l:List dE):List (List AV):=l.map fun x=>jF x.r
def hH (l:List wU):List (List AV):=l.map fun x=>jF x.r
def fM (l:List Fh):List (List AV):=l.map fun x=>jF x.r
def dX (l:List kU):List (List AV):=l.map kU.row
def bM (l:List (List Int)):List (List AV):=l.map jF
def bF (l:List (List Int)):List (List AV):=l.map fun x=>[.lit 1 (aA x)]
def dI.row (p:dI):List AV:=[.lit 3 (aO p.aX),.i p.p0,.i p.p1,.i p.p2]
def bP (l:List dI):List (List AV):=l.map dI.row
def EntC.row (x:EntC) (ahead:List (List AV)):List AV:=[.i x.now,.c (.bool x.closed),.lit 4 (bP x.bH),.lit 1 (aA x.cU),.lit 11 (bM x.aM),.lit 1 (aA x.aZ),.lit 1 (aA x.down),.lit 8 ahead]
def bW (l:List EntC):List (List AV):=l.map fun x=>x.row []
def dL.row (x:dL):List AV:=x.toEntC.row (bW x.ahead)
def bD (l:List dL):List (List AV):=l.map dL.row
def bK.av (s:bK):AV:=.agg [.i s.bU,.i s.bT,.lit 1 (aA s.weights),.lit 1 (bF s.methods),.lit 1 (bF s.cI),.lit 8 (bD s.aD),.lit 8 (hH s.bB),.lit 9 (dX s.aN),.lit 6 (fM s.aH),.i s.done]
def bV.av (x:bV):AV:=.agg (jF x.r)
def dI.av (p:dI):AV:=.agg p.row
def qU (l:List (List AV)):Prop:=∀r∈l,∀x∈r,Cl x
def qU.lit {sz:Nat} {l:List (List AV)} (h:qU l):Cl (.lit sz l):=.lit sz l h
def qU.nil:qU []:=fun r h=>absurd h a0b
def xZ (l:List Int):∀x∈jF l,Cl x:=by
 intro x a;obtain⟨v,-,rfl⟩:=a0l.1 a;exact .c _
def qU.map {α:Type} {f:α->List AV} (h:∀a x,x∈f a->Cl x) (l:List α):qU (l.map f):=by
 intro r c x b;obtain⟨a,-,rfl⟩:=a0l.1 c;exact h a x b
def kX (l:List Int):qU (aA l):=qU.map (fun v x a=>by rw[a07]at a;subst a;exact .c _) l
def EU (l:List bV):qU (aO l):=qU.map (fun v x a=>xZ _ x a) l
def Ax (l:List dE):qU (bS l):=qU.map (fun v x a=>xZ _ x a) l
def ab4 (l:List wU):qU (hH l):=qU.map (fun v x a=>xZ _ x a) l
def ab2 (l:List Fh):qU (fM l):=qU.map (fun v x a=>xZ _ x a) l
def XD (l:List (List Int)):qU (bM l):=qU.map (fun v x a=>xZ _ x a) l
def ab3 (l:List kU):qU (dX l):=qU.map (fun v x a=>by simp only[kU.row,a0c,a0b,or_false]at a;rcases a with rfl|rfl|rfl|rfl|rfl|rfl|rfl|rfl|rfl<;>exact .c _) l
def oY (l:List (List Int)):qU (bF l):=qU.map (fun v x a=>by rw[a07]at a;subst a;exact(kX v).lit) l
def CC (p:dI):∀x∈p.row,Cl x:=by
 intro x a;simp only[dI.row,a0c,a0b,or_false]at a;rcases a with rfl|rfl|rfl|rfl
 .exact(EU _).lit
 all_goals exact .c _
def XE (l:List dI):qU (bP l):=qU.map (fun v x a=>CC v x a) l
def Pp (e:EntC) {b:List (List AV)} (d:qU b):∀x∈e.row b,Cl x:=by
 intro x a;simp only[EntC.row,a0c,a0b,or_false]at a;rcases a with rfl|rfl|rfl|rfl|rfl|rfl|rfl|rfl
 .exact .c _
 .exact .c _
 .exact(XE _).lit
 .exact(kX _).lit
 .exact(XD _).lit
 .exact(kX _).lit
 .exact(kX _).lit
 .exact d.lit
def XF (l:List EntC):qU (bW l):=qU.map (fun v x a=>Pp v qU.nil x a) l
def Sf (l:List dL):qU (bD l):=qU.map (fun v x a=>Pp _ (XF _) x a) l
def api (s:bK):Cl s.av:=by
 refine .agg _ fun x a=>?_;simp only[a0c,a0b,or_false]at a;rcases a with rfl|rfl|rfl|rfl|rfl|rfl|rfl|rfl|rfl|rfl
 .exact .c _
 .exact .c _
 .exact(kX _).lit
 .exact(oY _).lit
 .exact(oY _).lit
 .exact(Sf _).lit
 .exact(ab4 _).lit
 .exact(ab3 _).lit
 .exact(ab2 _).lit
 .exact .c _
def bN {x:AV} {l:List AV} (h:Cl x) (b:∀y∈l,Cl y):∀y∈x::l,Cl y:=by
 intro y a;rcases a0c.1 a with rfl|a
 .exact h
 .exact b y a
def fY:∀y∈([]:List AV),Cl y:=fun y h=>absurd h a0b
def aiY {r:List AV} {l:List (List AV)} (h:∀x∈r,Cl x) (b:qU l):qU (r::l):=by
 intro y a;rcases a0c.1 a with rfl|a
 .exact h
 .exact b y a
def ab5 {a b:List (List AV)} (h:qU a) (g:qU b):qU (a++b):=by
 intro y c;rcases a0m.1 c with c|c
 .exact h y c
 .exact g y c
def ad0 {a:List (List AV)} {i:Nat} {r:List AV} (h:qU a) (g:∀x∈r,Cl x):qU (a.set i r):=by
 intro y b;rcases a05 b with b|rfl
 .exact h y b
 .exact g
def zK {k:Nat}:∀(l:List (List Int)),(∀r∈l,r.length=k)->l.flatten.length=l.length*k
 |[],_=>by simp
 |r::l,h=>by
  rw[a2q,a1r,zK l (fun r a=>h r (a03 _ a)),h r a1d,a0t,a19];omega
def zL {k:Nat}:∀(l:List (List Int)),(∀r∈l,r.length=k)->∀(i j:Nat) (r:List Int),l[i]?=some r->j<k->l.flatten.getD (i*k+j) 0=r.getD j 0
 |[],_,i,j,r,h,_=>by simp at h
 |x::l,a,0,j,r,h,b=>by
  simp only[a35,a0g]at h;subst h;have:=a x a1d;rw[a2q,List.getD,a18 (by omega)];simp[List.getD]
 |x::l,a,i+1,j,r,h,b=>by
  have e:=a x a1d;have c:=zL l (fun r d=>a r (a03 _ d)) i j r (by simpa using h) b;rw[a2q,List.getD,a1u (by rw[a19];omega),<-c,List.getD];congr 2;rw[a19];omega
def A9 {A:Nat->Prop} {w:World} {k:Nat} {l:List (List Int)} {v:Value} (h:@eE dK dN A w (FZ k l) v) (q:eW l.flatten) (j:∀r∈l,r.length=k):∃a cap,v=.slice a l.length cap/\Row w k a l.length cap l.flatten:=by
 have c:l.flatten.length=l.length*k:=zK l j;generalize d:FZ k l=y at h;cases h with
 |lit s es b off cap vs G E m F H z B =>
  unfold FZ at d;cases d;have C:(l.map jF).length=l.length:=by simp
  rw[C]at m |-;refine⟨_,cap,rfl,⟨c,m.1,m.2,q,.inr ⟨b,off,rfl,E,?_⟩⟩⟩;intro i D;have e:i<l.length*k:=by rw[<-c];exact D
  have n:0<k:=by
   rcases a30 k with h|h
   .rw[h]at e;simp at e
   .exact h
  have f:i/k<l.length:=(a4x n).2 e;have g:i%k<k:=a27 _ n;have I:(l[i/k]).length=k:=j _ (a3d f);have x:i/k*k+i%k=i:=by rw[a2v];exact a3o i k
  have p:iE (l.map jF) (i/k) (i%k)=some (AV.i ((l[i/k]).getD (i%k) 0)):=by
   unfold iE jF;rw[a0o,a0d f];have o:i%k<(l[i/k]).length:=by omega
   simp only[a0q,a1f,a0o,List.getD,a0d o,a2y]
  have e1:=z _ _ _ p;have e2:=B _ _ _ p;rw[x]at e1;rw[e1];have t:=zL l j (i/k) (i%k) _ (a0d f) g;rw[x]at t;rw[t];generalize vs (i/k) (i%k)=u at e2;cases e2;rfl
 |nR s a cap g =>
  unfold FZ at d;injection d with e1 e2;rw[a3j]at e2;subst e2;exact⟨a,cap,rfl,⟨c,a0j _,g,q,.inl rfl⟩⟩
 |_=>unfold FZ at d;cases d
def Cg {A:Nat->Prop} {w:World} {k:Nat} {l:List (List Int)} {a:Option Addr} {cap:Nat} (g:∀r∈l,r.length=k) (q:l.length<=cap) (o:cap<=maxLen)
  (h:l.length=0\/∃b off,a=some ⟨b,off,none⟩/\¬ A b/\b<w.heap.size/\cK w b off l.flatten):@eE dK dN A w (FZ k l) (.slice a l.length cap):=by
 rcases h with h|⟨b,off,rfl,y,u,v⟩
 .have:l=[]:=a14.1 h
  subst this;exact @eE.nR dK dN A w k a cap o
 .have s:(l.map jF).length=l.length:=by simp
  unfold FZ;rw[<-s]at q |-;have key:∀(i j:Nat) (x:AV),iE (l.map jF) i j=some x->i<l.length/\j<k/\x=AV.i (l.flatten.getD (i*k+j) 0):=by
   intro i j x d;unfold iE jF at d;rw[a0o]at d;cases f:l[i]? with
   |none=>rw[f]at d;cases d
   |some r =>
    rw[f]at d;simp only[a0q,a1f,a0o]at d;obtain⟨z,m,rfl⟩:=a1b.1 d;have n:=g r (a0a f);have p:j<k:=by rw[<-n];exact(a0y.1 m).1
    refine⟨(a0y.1 f).1,p,?_⟩;rw[zL l g i j r f p,List.getD,m];rfl
  refine @eE.lit dK dN A w k _ b off cap (fun i j=>.int .i64 (l.flatten.getD (i*k+j) 0)) y u ⟨q,o⟩ ?_ ?_ ?_ ?_
  .intro e t
   obtain⟨r,f,rfl⟩:=a0l.1 t;unfold jF;rw[a0z];exact g r f
  .intro i j x d
   obtain⟨-,-,rfl⟩:=key i j x d;rfl
  .intro i j x d
   obtain⟨B,C,-⟩:=key i j x d;refine v _ ?_;rw[zK l g];have:(i+1)*k<=l.length*k:=a1a _ B;rw[a19]at this;omega
  .intro i j x d
   obtain⟨-,-,rfl⟩:=key i j x d;exact @eE.c dK dN A w _
def ain (l:List bV):(l.map bV.r).flatten=flat l:=by
 induction l with
 |nil=>rfl
 |cons x l a=>simp only[a01,a2q,a,flat,a3b];rfl
def R7 (l:List dE):(l.map dE.r).flatten=dY l:=by
 induction l with
 |nil=>rfl
 |cons x l a=>simp only[a01,a2q,a,dY,a3b];rfl
def LI (l:List Int):(l.map fun v=>[v]).flatten=l:=by
 induction l with
 |nil=>rfl
 |cons x l a=>simp only[a01,a2q,a];rfl
def ah6 (l:List bV):AV.lit 3 (aO l)=FZ 3 (l.map bV.r):=by unfold aO FZ;rw[a2i];rfl
def T5 (l:List dE):AV.lit 2 (bS l)=FZ 2 (l.map dE.r):=by unfold bS FZ;rw[a2i];rfl
def MZ (l:List Int):AV.lit 1 (aA l)=FZ 1 (l.map fun v=>[v]):=by unfold aA FZ;rw[a2i];rfl
end
section
variable {j:Nat}
def Se (x y:Int):Int:=if x<y then -1 else if y<x then 1 else 0
def XB {x y:Int}:Se x y<0↔x<y:=by
 unfold Se;by_cases h:x<y
 .simp[h]
 .by_cases a:y<x<;>simp[h,a]
def F4 (x:Int) (w:World):Calls Tryz.prog 206 #[.int .i64 x] w fun e w'=>e=.returned (.bool false)/\w=w':=by
 go_enter Tryz.func206,Tryz.ntmps206;go_wp2_with fail;go_ret;exact⟨rfl,rfl⟩
def akY (x y:Int) (w:World):Calls Tryz.prog 166 #[.int .i64 x,.int .i64 y] w fun e w'=>e=.returned (.int .i64 (Se x y))/\w=w':=by
 go_enter Tryz.func166,Tryz.ntmps166;by_cases h:x<y
 .go_wp2_with (go_at_call 206;refine(F4 _ _).mono ?_;rintro e w' ⟨rfl,rfl⟩)
  go_ret;exact⟨xJ (by simp[Se,h]),rfl⟩
 .by_cases a:y<x
  .go_wp2_with (go_at_call 206;refine(F4 _ _).mono ?_;rintro e w' ⟨rfl,rfl⟩)
   go_ret;exact⟨xJ (by simp[Se,h,a]),rfl⟩
  .go_wp2_with (go_at_call 206;refine(F4 _ _).mono ?_;rintro e w' ⟨rfl,rfl⟩)
   go_ret;exact⟨xJ (by simp only[Se];rw[if_neg (by omega),if_neg (by omega)]),rfl⟩
def aji (x:dE) (w:World):Calls Tryz.prog 136 #[x.val] w fun e w'=>e=.returned (.int .i64 x.a)/\Below w.heap.size w w':=by
 unfold dE.val;go_enter Tryz.func136,Tryz.ntmps136;go_wp2_with fail;go_ret;exact⟨rfl,blw⟩
def an8 (x y:dE) (c:Nat) (w:World) (i:w.cell? ⟨c,0,none⟩=some (.func (.func 136) #[] #[])) (f:c<w.heap.size) :
  Calls Tryz.prog 185 #[x.val,y.val,.pointer (some ⟨c,0,none⟩)] w fun e w'=>e=.returned (.int .i64 (Se x.a y.a))/\Below w.heap.size w w':=by
 unfold dE.val;go_enter Tryz.func185,Tryz.ntmps185;go_wp2_with fail;have l:c<w.heap.size+1:=by omega
 have k:c<w.heap.size+1+1:=by omega
 have g:((w.alloc (.cells #[.int .i64 x.a,.int .i64 x.n] 44)).alloc (.cells #[.int .i64 y.a,.int .i64 y.n] 44)).drew.cell? ⟨c,0,none⟩=some (.func (.func 136) #[] #[]):=(World.cell?_alloc_lt _ _ _ (by simp;omega)).trans ((World.cell?_alloc_lt _ _ _ f).trans i);have h:Below w.heap.size w ((w.alloc (.cells #[.int .i64 x.a,.int .i64 x.n] 44)).alloc (.cells #[.int .i64 y.a,.int .i64 y.n] 44)).drew:=(((Below.refl _ _).alloc (a0h _) _).alloc (by simp) _).drew
 go_region_held3 (fun w'=>Below w.heap.size w w'/\w.heap.size+1<w'.heap.size/\w'.cell? ⟨c,0,none⟩=some (.func (.func 136) #[] #[])/\w'.cell? ⟨w.heap.size,0,none⟩=some (.int .i64 x.a)/\w'.cell? ⟨w.heap.size,1,none⟩=some (.int .i64 x.n)/\w'.cell? ⟨w.heap.size+1,0,none⟩=some (.int .i64 y.a)/\w'.cell? ⟨w.heap.size+1,1,none⟩=some (.int .i64 y.n))
  (first
   |exact⟨h,by simp,g,by simp,by simp,by simp,by simp⟩
   |(go_split_ands;refine⟨?_,?_,?_,?_,?_,?_,?_⟩<;>first|assumption|(refine Below.trans ?_ (Below.mono b ?_)<;>first|assumption|omega)|(have:=b.size;omega)|(exact(b.cell (by simp only;omega)).trans (by assumption))))
  ((first
   |(go_at_call 136;refine(aji x _).mono ?_;rintro e d ⟨rfl,b⟩)
   |(go_at_call 136;refine(aji y _).mono ?_;rintro e d ⟨rfl,b⟩)
   |(go_at_call 166;refine(akY _ _ _).mono ?_;rintro e d ⟨rfl,rfl⟩)))
 all_goals
  have j:=‹Below w.heap.size w _/\_›;go_wp2_with fail;go_ret;exact⟨rfl,j.1⟩
section
variable {α:Type} (key:α->Int)
def fR (l:List α):Prop:=l.Pairwise fun x y=>key x<=key y
def kT (l m:List α):Prop:=∀k,m.filter (fun x=>key x==k)=l.filter (fun x=>key x==k)
end
section
variable {α:Type} {key:α->Int}
def kT.refl (l:List α):kT key l l:=fun _=>rfl
def kT.trans {a b c:List α} (h:kT key a b) (k:kT key b c):kT key a c:=fun i=>(k i).trans (h i)
def kT.app {a b c d:List α} (h:kT key a b) (k:kT key c d):kT key (a++c) (b++d):=fun i=>by rw[a08,a08,h i,k i]
def kT.swap {a b:List α} (h:∀x,x∈a->∀y,y∈b->key x≠key y):kT key (a++b) (b++a):=by
 intro k;rw[a08,a08];by_cases d:a.filter (fun x=>key x==k)=[]
 .rw[d];simp
 .obtain⟨x,c⟩:=List.exists_mem_of_ne_nil _ d
  rw[List.mem_filter]at c;have f:b.filter (fun x=>key x==k)=[]:=by
   rw[a31];intro y e;have e1:key x=k:=by simpa using c.2
   have:=h x c.1 y e;simp;omega
  rw[f];simp
def kT.mem {a b:List α} (h:kT key a b) {x:α}:x∈b↔x∈a:=by
 have:=h (key x);constructor
 .intro c
  have:x∈b.filter (fun y=>key y==key x):=List.mem_filter.2 ⟨c,by simp⟩;rw[h (key x)]at this;exact(List.mem_filter.1 this).1
 .intro c
  have:x∈a.filter (fun y=>key y==key x):=List.mem_filter.2 ⟨c,by simp⟩;rw[<-h (key x)]at this;exact(List.mem_filter.1 this).1
def fR.app {a b:List α}:fR key (a++b)↔fR key a/\fR key b/\∀x,x∈a->∀y,y∈b->key x<=key y:=a13
theorem fR.one (x:α):fR key [x]:=by simp[fR]
def fR.nil:fR key ([]:List α):=List.Pairwise.nil
def fR.last {a:List α} {y:α} (h:fR key (a++[y])):∀x,x∈a++[y]->key x<=key y:=by
 intro x b;rcases a0m.1 b with b|b
 .exact(fR.app.1 h).2.2 x b y (by simp)
 .simp at b;subst b;exact a0f _
def aib {P1 b:List α} {x y:α} (c:∀z,z∈b->key x<key z) (h:key x<key y):∀z,z∈y::b->key x<key z:=by
 intro z a;rcases a0c.1 a with rfl|a
 .exact h
 .exact c z a
def aic {P1 b:List α} {x:α} (g:fR key (P1++b)) (f:∀z,z∈b->key x<key z) (h1:∀z,z∈P1->key z<=key x) :
  fR key (P1++x::b)/\kT key (P1++b++[x]) (P1++x::b):=by
 have a:=fR.app.1 g;constructor
 .refine fR.app.2 ⟨a.1,a12.2 ⟨fun z c=>Int.le_of_lt (f z c),a.2.1⟩,fun z c u d=>?_⟩
  rcases a0c.1 d with rfl|d
  .exact h1 z c
  .exact a.2.2 z c u d
 .have:kT key (b++[x]) ([x]++b):=kT.swap fun z c y e=>by simp at e;subst e;have:=f z c;omega
  have:=(kT.refl (key:=key) P1).app this;simpa using this
end
section
variable {α:Type} {key:α->Int}
def Pc {a P P1 b R:List α} {k:Nat} {x:α} (c:a.drop k=x::R) (m:P.length=k) (l:fR key P) (j:kT key (a.take k) P) (e:P=P1++b) (n:∀z,z∈b->key x<key z) (h1:∀z,z∈P1->key z<=key x) :
  (P1++x::b).length=k+1/\fR key (P1++x::b)/\kT key (a.take (k+1)) (P1++x::b)/\a.drop (k+1)=R/\k+1<=a.length:=by
 subst e;have d:=aic l n h1;have f:k<a.length:=by
  rcases a0u k a.length with h|h
  .exact h
  .rw[a4m h]at c;cases c
 have g:a[k]=x:=by
  have:=a3x f;rw[c]at this;exact(List.cons.inj this).1.symm
 have i:a.drop (k+1)=R:=by
  have:=a3x f;rw[c]at this;exact(List.cons.inj this).2.symm
 refine⟨by simp at m |-;omega,d.1,?_,i,f⟩;rw[a4k f,g];exact(j.app (kT.refl [x])).trans d.2
end
section
variable {α:Type}
def aer {A B:List α} {x y:α} (a:A.length+1=j):((A++y::x::B).set j y).set (j-1) x=A++x::y::B:=by
 subst a;simp[List.set_append]
def A6 (l:List α):l=[]\/∃A y,l=A++[y]:=by
 induction l with
 |nil=>exact .inl rfl
 |cons x l a =>
  right;rcases a with rfl|⟨A,y,rfl⟩
  .exact⟨[],x,rfl⟩
  .exact⟨x::A,y,rfl⟩
def akx {A B:List α} {x y:α} (a:A.length+1=j):(A++y::x::B)[j]?=some x:=by
 subst a;simp
def aky {A B:List α} {x y:α} (a:A.length+1=j):(A++y::x::B)[j-1]?=some y:=by
 subst a;simp
end
end
section
variable {x:dE} {F:FuncId} {k:Nat}
def Ns (c:Nat):Value:=.func (.func 185) #[] #[.pointer (some ⟨c,0,none⟩)]
structure sD (w:World) (b off c:Nat) (l:List dE):Prop where
 cells:cK w b off (dY l)
 fz:∀i,w.frozen? ⟨b,i,none⟩=false
 lt:b<w.heap.size
 ad4:w.cell? ⟨c,0,none⟩=some (.func (.func 136) #[] #[])
 clt:c<w.heap.size
 ne:c≠b
def sD.drew {w:World} {b off c:Nat} {l:List dE} (h:sD w b off c l):sD w.drew b off c l:=⟨h.cells,h.fz,h.lt,h.ad4,h.clt,h.ne⟩
def sD.below {w w':World} {b off c:Nat} {l:List dE} (h:sD w b off c l) (g:Below w.heap.size w w'):sD w' b off c l :=
 ⟨h.cells.below h.lt g,fun i=>(g.frozen (p:=⟨b,i,none⟩) h.lt).trans (h.fz i),a0s h.lt g.size,(g.cell (p:=⟨c,0,none⟩) h.clt).trans h.ad4,a0s h.clt g.size,h.ne⟩
def sD.drewN {w:World} {b off c:Nat} {l:List dE} (h:sD w b off c l) (n:Nat):sD (w.drewN n) b off c l:=h.below (below_drewN (Below.refl _ _) n)
def sD.set {w:World} {b off c:Nat} {l:List dE} (h:sD w b off c l) {i:Nat} (a:i<l.length) (x:dE):sD (A7 w b (off+i*2) x) b off c (l.set i x):=by
 refine⟨OI h.cells a x,fun j=>by unfold A7;rw[World.frozen?_setCell,World.frozen?_setCell];exact h.fz j,by unfold A7;simpa[World.setCell]using h.lt,?_,by unfold A7;simpa[World.setCell]using h.clt,h.ne⟩
 unfold A7;have e (u:World) (i:Nat) (v:Value):(u.setCell ⟨b,i,none⟩ v).cell? ⟨c,0,none⟩=u.cell? ⟨c,0,none⟩:=World.cell?_of_block (w:=u) (Below.heap_setCell _ _ _ _ (show c≠b from h.ne));rw[e,e];exact h.ad4
def M3 (b off c cap a e:Nat) (d s post:List dE) (w:World) (h:sD w b off c (d++s++post)) (n:Nat) (hN:(d++s++post).length=n) (hn:n<=cap) (N:cap<=maxLen) (ap:n<=1000000)
  (ha:d.length=a) (he:a+s.length=e) :
  Calls Tryz.prog 236 #[.slice (some ⟨b,off,none⟩) n cap,.int .i64 a,.int .i64 e,Ns c] w
   fun r w'=>r=.returned (.tuple #[])/\∃C:List dE,C.length=s.length/\fR dE.a C/\kT dE.a s C/\sD w' b off c (d++C++post)/\kQ b w w':=by
 unfold maxLen at N;have aK:e<=n:=by rw[<-hN,<-he,<-ha];simp
 have aL:=Lib.hid hN;have ah:=Lib.hid ha;have o:=Lib.hid he;clear hN ha he;unfold Ns;go_enter Tryz.func236,Tryz.ntmps236;cases s with
 |nil =>
  have ad:¬ (a:Int)+1<(e:Int):=by have:=o.out;simp at this;omega
  have ao:IntKind.i64.wrap ((a:Int)+1)=(a:Int)+1:=IntWalk.i64_in _ (by have:=o.out;simp at this;omega);have g:wrap64 ((a:Int)+1)=(a:Int)+1:=by unfold wrap64;have:=o.out;simp at this;omega
  go_wp2_with fail;refine wp_loop_rounds 1 ?_;rw[rounds_succ];go_wp2_with fail;exact bodyPost_end (v:=.tuple #[]) (by simp[results,Tryz.results236,go_sem]) rfl ⟨rfl,[],rfl,fR.nil,kT.refl _,h,kQ.refl _ _⟩
 |cons E f =>
  have am:a+1<=e:=by have:=o.out;simp at this;omega
  go_wp2_with fail;go_loopw [8] (fun i wr=>∃(k K:Nat) (P:List dE),1<=k/\K<=e/\Hid (a+k=K)/\i=.int .i64 (K:Int)/\Hid (P.length=k)/\fR dE.a P/\kT dE.a ((E::f).take k) P/\sD wr b off c (d++P++(E::f).drop k++post)/\kQ b w wr) (fun i _=>e-(intOf i).toNat)
  case atStart =>
   exact⟨1,a+1,[E],by omega,by omega,rfl,by go_num,rfl,fR.one _,kT.refl _,by simpa using h,kQ.refl _ _⟩
  case round =>
   obtain⟨k,K,P,aw,av,q,rfl,S,Q,O,F,H⟩:=hrel;by_cases aq:K<e
   .have al:(K:Int)<(e:Int):=by omega
    obtain⟨x,R,hx⟩:∃x R,(E::f).drop k=x::R:=by
     cases hd:(E::f).drop k with
     |nil=>have:=o.out;have:=q.out;rw[a4n]at hd;omega
     |cons x R=>exact⟨x,R,rfl⟩
    have V:=Lib.hid hx;rw[hx]at F;clear hx;go_wp2_with fail;go_loopw [9] (fun j wr=>∃(J:Nat) (L l:List dE),Hid (P=L++l)/\(∀z,z∈l->x.a<z.a)/\j=.int .i64 (J:Int)/\Hid (a+L.length=J)/\J<=K/\sD wr b off c (d++L++x::(l++R++post))/\kQ b w wr) (fun j _=>(intOf j).toNat)
    case atStart =>
     exact⟨K,P,[],by simp[Hid],by simp,rfl,by rw[Hid,S.out];exact q.out,by omega,by simpa using F,H⟩
    case round =>
     obtain⟨J,L,l,D,h2,rfl,T,ar,F,H⟩:=hrel;rcases A6 L with rfl|⟨A,y,rfl⟩
     .obtain rfl:a=J:=T.out
      clear T;go_wp2_with fail;go_quiet (fail);go_wp2_with fail
      case' roundEnd =>
       obtain⟨q1,q2,Z,Y,q5⟩:=Pc (key:=dE.a) V.out S.out Q O D.out h2 (by simp);refine⟨⟨k+1,K+1,[]++x::l,by omega,by omega,by have:=q.out;show _=_;omega,by go_num,q1,q2,Z,?_,?_⟩,?_⟩
       .rw[Y];have t:=F.drewN nq;simpa using t
       .exact H.drewN _
       .simp[intOf];omega
     .obtain⟨m,N⟩:∃m,a+A.length=m:=⟨_,rfl⟩
      obtain rfl:J=m+1:=by have:=T.out;simp at this;omega
      rw[show((m+1:Nat):Int)=(m:Int)+1 from by simp];have ak:m+1<n:=(by omega);have u:sD wr b off c ((d++A)++y::x::(l++R++post)):=(by simpa using F);have U:(d++A).length+1=m+1:=by have:=ah.out;simp;omega
      have aJ:(a:Int)<=(m:Int):=(by omega);have ab:=Lib.hid N;clear N T;have ag:=u.cells.line (akx (A:=d++A) (B:=l++R++post) (x:=x) (y:=y) U);have W:=u.cells.line (aky (A:=d++A) (B:=l++R++post) (x:=x) (y:=y) U);rw[Nat.add_sub_cancel]at W;obtain⟨x0,x1⟩:=ag;obtain⟨y0,y1⟩:=W;have aI:decide ((a:Int)<(m:Int)+1)=true:=decide_eq_true (by omega);have aG:IntKind.i64.wrap ((m:Int)+1-1)=(m:Int):=(IntWalk.i64_in _ (by omega)).trans (by omega);have an:IntKind.i64.wrap (m:Int)=(m:Int):=IntWalk.i64_in _ (by omega);have aF:(0:Int)<=(m:Int)+1:=(by omega);have aE:(0:Int)<=(m:Int):=(by omega);have aD:(m:Int)<(n:Int):=(by omega);have aC:((m:Int)+1).toNat=m+1:=(by omega);have aB:(m:Int).toNat=m:=(by omega);have aH:(a:Int)<(m:Int)+1:=(by omega);have aj:(m:Int)+1<(n:Int):=(by omega);have c0:=u.ad4;have I:=u.clt;go_wp2_with fail
      go_region_held3 (fun w'=>sD w' b off c ((d++A)++y::x::(l++R++post))/\kQ b w w'/\c<w'.heap.size/\w'.cell? ⟨c,0,none⟩=some (.func (.func 136) #[] #[])/\w'.cell? ⟨b,off+(m+1)*2,none⟩=some (.int .i64 x.a)/\w'.cell? ⟨b,off+(m+1)*2+1,none⟩=some (.int .i64 x.n)/\w'.cell? ⟨b,off+m*2,none⟩=some (.int .i64 y.a)/\w'.cell? ⟨b,off+m*2+1,none⟩=some (.int .i64 y.n))
       (first
        |exact⟨u.drew,H.drew,I,c0,x0,x1,y0,y1⟩
        |(go_split_ands;rename_i p M X s4 s5 s6 s7 s8;exact⟨p.below g,M.then g h.lt,a0s X g.size,(g.cell X).trans s4,(g.cell p.lt).trans s5,(g.cell p.lt).trans s6,(g.cell p.lt).trans s7,(g.cell p.lt).trans s8⟩))
       ((first
        |(go_at_call 185;refine(an8 x y c _ (by assumption) (by assumption)).mono ?_;rintro e w2 ⟨rfl,g⟩)))
      have ai:=‹sD _ b off c _/\_›;clear F u H x0 x1 y0 y1 c0 I;obtain⟨p,M,X,s4,s5,s6,s7,s8⟩:=ai;have aA:=p.fz (off+(m+1)*2);have az:=p.fz (off+(m+1)*2+1);have ay:=p.fz (off+m*2);have ax:=p.fz (off+m*2+1);by_cases G:x.a<y.a
      .have af:Se x.a y.a<0:=XB.2 G
       go_wp2_with fail;go_region
       all_goals
        go_wp2_with fail
        case' roundEnd =>
         have ac:m+1<(d++A++y::x::(l++R++post)).length:=by simp at U |-;omega
         have t1:=(p.set (i:=m+1) ac y).set (i:=m) (by rw[a1m];omega) x;have t2:=aer (A:=d++A) (B:=l++R++post) (x:=x) (y:=y) U;rw[Nat.add_sub_cancel]at t2;rw[t2]at t1;have t3:=(M.A7 (off+(m+1)*2) y).A7 (off+m*2) x;refine⟨⟨m,A,y::l,by rw[Hid,D.out];simp,aib (P1:=A) h2 G,by go_num,ab.out,by omega,?_,?_⟩,?_⟩
         .have t4:=t1.drew;unfold A7 at t4;simpa using t4
         .have t5:=t3.drew;unfold A7 at t5;exact t5
         .simp[intOf]
      .have af:¬ Se x.a y.a<0:=fun h=>G (XB.1 h)
       go_wp2_with fail
       case' roundEnd =>
        have h1:∀z,z∈A++[y]->z.a<=x.a:=fun z hz=>by
         have:=fR.last (key:=dE.a) (a:=A) (y:=y) ((fR.app.1 (show fR dE.a ((A++[y])++l)by rw[<-D.out];exact Q)).1) z hz;omega
        obtain⟨q1,q2,Z,Y,q5⟩:=Pc (key:=dE.a) V.out S.out Q O D.out h2 h1;refine⟨⟨k+1,K+1,(A++[y])++x::l,by omega,by omega,by have:=q.out;show _=_;omega,by go_num,q1,q2,Z,?_,?_⟩,?_⟩
        .rw[Y];exact(show sD w2 b off c _ by simpa using p)
        .exact M
        .simp[intOf];omega
   .have au:K=e:=by omega
    have ad:¬ (K:Int)<(e:Int):=(by omega);go_wp2_with fail;have ae:(E::f).drop k=[]:=by have:=o.out;have:=q.out;exact a4m (by omega)
    have aa:(E::f).take k=E::f:=by have:=o.out;have:=q.out;exact a1l (by omega)
    rw[aa]at O;rw[ae]at F;exact bodyPost_end (v:=.tuple #[]) (by simp[results,Tryz.results236,go_sem]) rfl ⟨rfl,P,by have:=o.out;have:=S.out;have:=q.out;simp at *;omega,Q,O,by simpa using F,H⟩
def aeh (b off c:Nat) (l:List dE) (w:World) (r:Ending) (w':World):Prop :=
 r=.returned (.tuple #[])/\∃m:List dE,m.length=l.length/\fR dE.a m/\kT dE.a l m/\sD w' b off c m/\kQ b w w'
def PT (b off c cap:Nat) (l:List dE) (w:World) (h:sD w b off c l) (g:l.length<=cap) (i:cap<=maxLen) (x:l.length<=20) :
  Calls Tryz.prog 216 #[.slice (some ⟨b,off,none⟩) l.length cap,.int .i64 l.length,Ns c] w (aeh b off c l w):=by
 unfold Ns;obtain⟨n,j⟩:∃n,l.length=n:=⟨_,rfl⟩;rw[j]at g x |-;have a:=Lib.hid j;clear j;go_enter Tryz.func216,Tryz.ntmps216;by_cases p:n=20
 .subst p
  go_wp2_with fail;refine wp_loop_rounds 2 ?_;rw[rounds_succ];go_wp2_with fail;refine(M3 b off c cap 0 20 [] l [] w (by simpa using h) 20 (by simpa using a.out) g i (by omega) rfl (by simp[a.out])).mono ?_;rintro r q ⟨rfl,m,d,f,e,k,o⟩;go_wp2_with fail;rw[rounds_succ];go_wp2_with fail;refine(M3 b off c cap 20 20 ([]++m++[]) [] [] q (by simpa using k) 20 (by simp[d,a.out]) g i (by omega) (by simp[d,a.out]) rfl).mono ?_;rintro r C ⟨rfl,y,s,-,-,t,u⟩;have e2:y=[]:=a4l s;subst e2;go_wp2_with fail;refine wp_loop_rounds 1 ?_;rw[rounds_succ];go_wp2_with fail;exact bodyPost_end (v:=.tuple #[]) (by simp[results,Tryz.results216,go_sem]) rfl ⟨rfl,m,d,f,e,by simpa using t,o.trans u⟩
 .have A:n<20:=by omega
  have B:¬ (20:Int)<=(n:Int):=by omega
  have z:¬ (20:Int)<(n:Int):=by omega
  go_wp2_with fail;refine wp_loop_rounds 1 ?_;rw[rounds_succ];go_wp2_with fail;refine(M3 b off c cap 0 n [] l [] w (by simpa using h) n (by simpa using a.out) g i (by omega) rfl (by simp[a.out])).mono ?_;rintro r q ⟨rfl,m,d,f,e,k,o⟩;go_wp2_with fail;refine wp_loop_rounds 1 ?_;rw[rounds_succ];go_wp2_with fail;exact bodyPost_end (v:=.tuple #[]) (by simp[results,Tryz.results216,go_sem]) rfl ⟨rfl,m,d,f,e,by simpa using k,o⟩
def SY (b off c cap:Nat) (l:List dE) (w:World) (h:sD w b off c l) (e:l.length<=cap) (f:cap<=maxLen) (a:l.length<=20) :
  Calls Tryz.prog 184 #[.slice (some ⟨b,off,none⟩) l.length cap,Ns c] w (aeh b off c l w):=by
 have hs:=PT b off c cap l w h e f a;unfold Ns at hs |-;go_enter Tryz.func184,Tryz.ntmps184;go_wp2_with fail;refine hs.mono ?_;rintro r g ⟨rfl,d⟩;go_wp2_with fail;exact bodyPost_end (v:=.tuple #[]) (by simp[results,Tryz.results184,go_sem]) rfl ⟨rfl,d⟩
def ai7 (b off cap:Nat) (l:List dE) (w:World) (t:cK w b off (dY l)) (j:∀i,w.frozen? ⟨b,i,none⟩=false) (d:b<w.heap.size) (n:l.length<=cap) (o:cap<=maxLen) (k:l.length<=20) :
  Calls Tryz.prog 135 #[.slice (some ⟨b,off,none⟩) l.length cap,.func (.func 136) #[] #[]] w
   fun r w'=>r=.returned (.tuple #[])/\∃m:List dE,m.length=l.length/\fR dE.a m/\kT dE.a l m/\cK w' b off (dY m)/\kQ b w w':=by
 have hs:=fun(W:World) (h:sD W b off w.heap.size l)=>SY b off w.heap.size cap l W h n o k;unfold Ns at hs;go_enter Tryz.func135,Tryz.ntmps135;go_wp2_with fail;have c:Below w.heap.size w (w.alloc (.cells #[.func (.func 136) #[] #[]] 186)):=(Below.refl _ _).alloc (a0h _) _;refine(hs _ ⟨t.below d c,fun i=>(c.frozen (p:=⟨b,i,none⟩) d).trans (j i),by simp;omega,by simp,by simp,by omega⟩).mono ?_;rintro r u ⟨rfl,m,g,f,e,q,s⟩;go_wp2_with fail;exact bodyPost_end (v:=.tuple #[]) (by simp[results,Tryz.results135,go_sem]) rfl ⟨rfl,m,g,f,e,q.cells,(kQ.of c d).trans s⟩
def zH (a:Int):Bool:=decide (0<=a)&&decide (a<17)
def wI {a:Int}:zH a=true↔0<=a/\a<17:=by simp[zH]
def am4 (a:Int) (w:World):Calls Tryz.prog 132 #[.int .i64 a] w fun e w'=>e=.returned (.bool (zH a))/\w=w':=by
 by_cases c:0<=a
 all_goals
  by_cases b:a<17
  all_goals
   go_enter Tryz.func132,Tryz.ntmps132;go_wp2_with fail;go_ret;exact⟨lR (by simp[zH,c,b]),rfl⟩
def am5 (v:Int) (w:World):Calls Tryz.prog 133 #[.int .i64 v] w fun e w'=>e=.returned (.bool (mD v))/\w=w':=by
 go_enter Tryz.func133,Tryz.ntmps133;go_wp2
 all_goals (go_ret;exact⟨lR (by simp[mD];try omega),rfl⟩)
structure Pred (F:FuncId) (p:dE->Bool):Prop where
 aJ:∀(args:Array Value) (W:World),(callFunc F args).run Tryz.prog W=.ok (.enter F args) W
 ask:∀(x:dE) (W:World),Calls Tryz.prog F #[x.val] W fun e w'=>e=.returned (.bool (p x))/\Below W.heap.size W w'
def pC (x:dE):Bool:=!(zH x.a)||!(mD x.n)
def Oq (x:dE):Bool:=!(zH x.a)||decide (x.n=0)||!(mD x.n)
def jU (x:dE):Bool:=decide (x.n=0)
def aj1:Pred 131 pC:=by
 refine⟨fun args W=>by kernel_rfl,fun x W=>?_⟩;unfold dE.val;cases c:zH x.a
 all_goals
  cases b:mD x.n
  all_goals
   go_enter Tryz.func131,Tryz.ntmps131;go_wp2_with (first|(go_at_call 132;refine(am4 _ _).mono ?_;rw[c];rintro e w' ⟨rfl,rfl⟩)|(go_at_call 133;refine(am5 _ _).mono ?_;rw[b];rintro e w' ⟨rfl,rfl⟩));go_ret;exact⟨lR (by simp[pC,c,b]),blw⟩
def ac5:Pred 138 jU:=by
 refine⟨fun args W=>by kernel_rfl,fun x W=>?_⟩;unfold dE.val;go_enter Tryz.func138,Tryz.ntmps138;go_wp2_with fail;go_ret;exact⟨lR (by rw[a3z];simp[jU]),blw⟩
def Li (p:dE->Bool) (l:List dE):Int:=match l.findIdx? p with|some i=>(i:Int)|none=>-1
def afB {l:List dE} {j:Nat} {f:dE->Bool} (a:l[j]?=some x):(l.take (j+1)).all f=((l.take j).all f&&f x):=by
 rw[a0n,a];simp
def akw {p:dE->Bool} {l:List dE} {j:Nat} (a:l[j]?=some x) (c:p x=true) (b:(l.take j).all (fun y=>!p y)=true):Li p l=j:=by
 have:l.findIdx? p=some j:=by
  rw[a4o];obtain⟨d,rfl⟩:=a0y.1 a;refine⟨d,c,fun i e=>?_⟩;have:=a0i.1 b l[i] (a44.2 ⟨i,by omega,rfl⟩);simpa using this
 simp[Li,this]
def ae1 {p:dE->Bool} {l:List dE} (h:l.all (fun y=>!p y)=true):Li p l=-1:=by
 have:l.findIdx? p=none:=by
  rw[a4p];intro x a;have:=a0i.1 h x a;simpa using this
 simp[Li,this]
def M6 {p:dE->Bool} (hF:Pred F p) (a:Option Addr) (cap:Nat) (l:List dE) (w:World) (h:Row w 2 a l.length cap (dY l)) :
  Calls Tryz.prog 183 #[.slice a l.length cap,.func (.func F) #[] #[]] w fun e w'=>e=.returned (.int .i64 (Li p l))/\Below w.heap.size w w':=by
 go_enter Tryz.func183,Tryz.ntmps183;obtain⟨E,v,n,A,m⟩:=h;unfold maxLen at n;have u:=hF.aJ;have r:=Lib.hid hF.ask;clear hF;go_wp2_with fail;go_loopw [8] (fun i wr=>∃j:Nat,j<=l.length/\i=.int .i64 j/\Hid ((l.take j).all (fun y=>!p y)=true)/\Below w.heap.size w wr) (fun i _=>l.length-(intOf i).toNat)
 case atStart=>exact⟨0,by omega,rfl,rfl,Below.refl _ _⟩
 case round =>
  obtain⟨j,G,rfl,T,c⟩:=hrel;have g:=c.size;by_cases k:j<l.length
  .obtain⟨b,off,rfl,z,q⟩:∃b off,a=some ⟨b,off,none⟩/\b<w.heap.size/\cK w b off (dY l):=by
    rcases m with s|s
    .omega
    .exact s
   obtain⟨x,d⟩:∃x,l[j]?=some x:=⟨l[j],by simp[k]⟩;obtain⟨I,H⟩:=(q.below z c).line d;have t:(j:Int)<(l.length:Int):=(by omega);have d:=Lib.hid d;clear q m;go_wp2_with fail;refine(r.out x _).mono ?_;rintro e D ⟨rfl,f⟩;cases o:p x
   .go_wp2_with fail
    case' roundEnd =>
     refine⟨⟨j+1,k,by simp,by rw[Hid,afB d.out,T.out,o];rfl,c.trans (f.mono g)⟩,?_⟩;simp[intOf];omega
   .go_wp2_with fail
    go_ret;exact⟨xJ (akw d.out o T.out).symm,c.trans (f.mono g)⟩
  .have B:j=l.length:=by omega
   subst B;have C:¬ ((l.length:Int)<(l.length:Int)):=by omega
   go_wp2_with fail;go_ret;have T:=T.out;rw[a04]at T;exact⟨xJ (ae1 T).symm,c⟩
def Ol {p:dE->Bool} (hF:Pred F p) (a:Option Addr) (cap:Nat) (l:List dE) (w:World) (h:Row w 2 a l.length cap (dY l)) :
  Calls Tryz.prog 130 #[.slice a l.length cap,.func (.func F) #[] #[]] w fun e w'=>e=.returned (.bool (l.any p))/\Below w.heap.size w w':=by
 have b:(decide (0<=Li p l))=l.any p:=by
  unfold Li;cases g:l.findIdx? p with
  |none =>
   have:=a4p.1 g;have c:l.any p=false:=by rw[a2e];intro x j;simpa using this x j
   rw[c];rfl
  |some i =>
   obtain⟨b,k,-⟩:=a4o.1 g;have c:l.any p=true:=a1n.2 ⟨l[i],a3d b,k⟩;rw[c];simp
 have f:=Lib.hid b;clear b;go_enter Tryz.func130,Tryz.ntmps130;go_wp2_with fail;refine(M6 hF a cap l _ h).mono ?_;rintro e m ⟨rfl,d⟩;go_wp2_with fail;go_ret;exact⟨lR f.out,d⟩
def anJ {w:World} {t n:Nat} (b:n=w.heap.size):cK (w.alloc (.cells #[.int .i64 x.a,.int .i64 x.n] t)) n 0 [x.a,x.n]:=by
 subst b;exact cK.new w [x.a,x.n] t
def iG (l:List dE):List Int:=l.map (·.n)
def kQ.setCells {b:Nat} {u:World}:∀(vs:List Value) (o:Nat) (w:World),kQ b u w->kQ b u (w.setCells b o vs)
 |[],_,_,h=>h
 |v::r,o,w,h=>kQ.setCells r (o+1) _ (h.set o v)
def cK.clear {w:World} {b off:Nat} {zs:List Int} {vs:List Value} (h:cK w b off zs) (c:zs.length<=k):cK (w.setCells b (off+k) vs) b off zs:=by
 intro i a;rw[World.cell?_setCells_out b vs (off+k) w ⟨b,off+i,none⟩ (fun _ _=>.inl (by simp only;omega))];exact h i a
def Lf (w:World) (f:TypeId) (g:∀w,(zeroValue 44).run Tryz.prog w=.ok (.agg #[.int .i64 0,.int .i64 0]) w) (b o n c:Nat) (q:0<n)
  (p:∀j,j<n*2->(w.cell? ⟨b,o+j,none⟩).isSome=true) (l:∀j,w.frozen? ⟨b,j,none⟩=false) :
  (Builtin.clear_ #[36] f #[.slice (some ⟨b,o,none⟩) n c]).run Tryz.prog w=.ok (.tuple #[]) (w.setCells b o (List.replicate (n*2) (.int .i64 0))):=by
 have d:(Builtin.zeroCells (Value.agg #[.int .i64 0,.int .i64 0]).cells n).toList=List.replicate (n*2) (.int .i64 0):=by
  simp only[Builtin.zeroCells,Value.cells];apply a22
  .simp
  .intro i t s
   simp;rcases Nat.mod_two_eq_zero_or_one i with h|h<;>simp[h]
 have a:=run_storeCells_cells (P:=Tryz.prog) b o (List.replicate (n*2) (.int .i64 0)) 0 w (by simpa using p) (by intro j r;exact l _) (by intro v e;rw[List.eq_of_mem_replicate e];rfl);simp only[a2o]at a;obtain⟨m,rfl⟩:∃m,n=m+1:=⟨n-1,by omega⟩;have k:Tryz.prog.underlying 36=some (.slice 44):=by kernel_rfl
 simp[Builtin.clear_,run_underlying k,g,d,a]
def aek (w:World):(zeroValue 44).run Tryz.prog w=.ok (.agg #[.int .i64 0,.int .i64 0]) w:=by kernel_rfl
def Xq {l L:List dE} {q:dE->Bool} {i j:Nat} (b:l[j]?=some x) (c:L.take i=(l.take j).filter q) (f:L.drop j=l.drop j) (g:i<j) (k:L.length=l.length) :
  (q x=false->L.take i=(l.take (j+1)).filter q/\L.drop (j+1)=l.drop (j+1)) /\
  (q x=true->(L.set i x).take (i+1)=(l.take (j+1)).filter q/\(L.set i x).drop (j+1)=l.drop (j+1))/\j<l.length:=by
 have e:j<l.length:=by
  rcases a0u j l.length with h|h
  .exact h
  .rw[a1k h]at b;cases b
 have a:L.drop (j+1)=l.drop (j+1):=by
  have:=congrArg (List.drop 1) f;simpa[List.drop_drop,Nat.add_comm]using this
 have d:(l.take (j+1)).filter q=(l.take j).filter q++[x].filter q:=by rw[a0n,b,a08];rfl
 refine⟨fun h=>⟨by rw[d,c];simp[h],a⟩,fun h=>⟨?_,?_⟩,e⟩
 .rw[d,<-c,a0n,a3c (by omega)]
  simp[h,List.take_set];rw[List.set_eq_of_length_le (by simp;omega)]
 .rw[List.drop_set]
  simp only[a];split
  .rfl
  .omega
def Xx {p:dE->Bool} (hF:Pred F p) (b off cap:Nat) (l:List dE) (w:World) (V:cK w b off (dY l)) (N:∀i,w.frozen? ⟨b,i,none⟩=false) (u:b<w.heap.size) (X:l.length<=cap) (Y:cap<=maxLen) (hA:eW (dY l)) :
  Calls Tryz.prog 137 #[.slice (some ⟨b,off,none⟩) l.length cap,.func (.func F) #[] #[]] w
   fun e w'=>e=.returned (.slice (some ⟨b,off,none⟩) (l.filter (fun x=>!p x)).length cap)/\cK w' b off (dY (l.filter (fun x=>!p x)))/\kQ b w w':=by
 have G:Row w 2 (some ⟨b,off,none⟩) l.length cap (dY l):=⟨sJ l,X,Y,hA,.inr ⟨b,off,rfl,u,V⟩⟩;have q:=M6 hF (some ⟨b,off,none⟩) cap l;have aj:=Lib.hid hF.ask;have aq:=hF.aJ;clear hF;obtain⟨n,H⟩:∃n,l.length=n:=⟨_,rfl⟩;rw[H]at X G q |-;have o:=Lib.hid H;unfold maxLen at Y;go_enter Tryz.func137,Tryz.ntmps137;cases v:l.findIdx? p with
 |none =>
  have r:Li p l=-1:=by simp[Li,v]
  have U:=a4p.1 v;have ad:l.filter (fun x=>!p x)=l:=List.filter_eq_self.2 fun x g=>by simp[U x g]
  clear v H;go_wp2_with fail;refine(q w G).mono ?_;rw[r];rintro e w1 ⟨rfl,m⟩;clear r;go_wp2_with fail;go_ret;rw[ad];exact⟨by rw[o.out];rfl,V.below u m,kQ.of m u⟩
 |some k =>
  obtain⟨hk,M,A⟩:=a4o.1 v;have r:Li p l=(k:Int):=by simp[Li,v]
  have av:k<n:=by omega
  have ax:¬ (k:Int)=-1:=by omega
  have ay:((k:Int)==-1)=false:=by simp
  have ae:l.take k=(l.take (k+1)).filter (fun x=>!p x):=by
   rw[a4k hk,a08];have h1:(l.take k).filter (fun x=>!p x)=l.take k:=List.filter_eq_self.2 fun x g=>by
    obtain⟨i,aA,rfl⟩:=a44.1 g;have:=A i (by omega);simpa using this
   rw[h1];simp[M]
  clear v A H M;go_wp2_with fail;refine(q w G).mono ?_;rw[r];rintro e w1 ⟨rfl,m⟩;have T:=V.below u m;have ai:=kQ.of m u;clear r q G m;go_wp2_with fail;go_loopw [5,6] (fun i j wr=>∃(c d:Nat) (L:List dE),i=.int .i64 (c:Int)/\j=.int .i64 (d:Int)/\c<d/\d<=n/\Hid (L.length=n)/\Hid (L.take c=(l.take d).filter (fun x=>!p x))/\Hid (L.drop d=l.drop d)/\cK wr b off (dY L)/\kQ b w wr) (fun _ j _=>n-(intOf j).toNat)
  case atStart=>exact⟨k,k+1,l,rfl,by go_num,by omega,by omega,o.out,ae,rfl,T,ai⟩
  case round =>
   obtain⟨c,d,L,rfl,rfl,ac,az,s,hT,hD,J,I⟩:=hrel;have S:∀i,wr.frozen? ⟨b,i,none⟩=false:=fun i=>(I.Xl i).trans (N i);have af:b<wr.heap.size:=a0s u I.size;by_cases Z:d<n
   .have ao:(d:Int)<(n:Int):=by omega
    obtain⟨x,g⟩:∃x,l[d]?=some x:=⟨l[d]'(by rw[o.out];omega),by simp[o.out,Z]⟩
    have z:L[d]?=some x:=by
     have:=congrArg List.head? hD.out;rw[List.head?_drop,List.head?_drop,g]at this;exact this
    obtain⟨f1,f2,-⟩:=Xq g hT.out hD.out ac (by rw[s.out,o.out]);obtain⟨c0,c1⟩:=J.line z;have ar:=Lib.hid g;have am:=Lib.hid f1;have al:=Lib.hid f2;have an:=Lib.hid z;clear g f1 f2 z;go_wp2_with fail;refine(aj.out x _).mono ?_;rintro e y ⟨rfl,K⟩;have D:=J.below af (show Below wr.heap.size wr y from blw);have C:=I.then (show Below wr.heap.size wr y from blw) u;have v0:y.cell? ⟨wr.heap.size,0,none⟩=some (.int .i64 x.a):=(K.cell (by simp)).trans (by simp);have v1:y.cell? ⟨wr.heap.size,1,none⟩=some (.int .i64 x.n):=(K.cell (by simp)).trans (by simp);cases W:p x
    .have f:=al.out (by simp[W])
     have E:=Lib.hid f;clear f;have R:(c:Int)<(n:Int):=(by omega);have g0:=D.line (j:=c) (x:=L[c]'(by rw[s.out];omega)) (by simp[s.out]);have g1:∀i,y.frozen? ⟨b,i,none⟩=false:=fun i=>(C.Xl i).trans (N i);have Q:=OI D (i:=c) (by rw[s.out];omega) x;have ag:=C.A7 (off+c*2) x;obtain⟨g2,g3⟩:=g0;go_wp2_with fail
     case' roundEnd =>
      refine⟨⟨c+1,d+1,L.set c x,by go_num,by go_num,by omega,by omega,by rw[Hid,a1m];exact s.out,E.out.1,E.out.2,Q,ag⟩,?_⟩;simp[intOf];omega
    .have f:=am.out (by simp[W])
     have E:=Lib.hid f;clear f;go_wp2_with fail
     case' roundEnd =>
      refine⟨⟨c,d+1,L,rfl,by go_num,by omega,by omega,s,E.out.1,E.out.2,D,C⟩,?_⟩;simp[intOf];omega
   .have ab:d=n:=by omega
    subst ab;have aB:¬ (d:Int)<(d:Int):=by omega
    have R:(c:Int)<=(d:Int):=(by omega);have au:¬ cap=c:=(by omega);have aw:c<=cap:=(by omega);have ap:(c:Int)<=(cap:Int):=(by omega);have B:L.take c=l.filter (fun x=>!p x):=by rw[hT.out,a1l (by rw[o.out];omega)]
    have t:(l.filter (fun x=>!p x)).length=c:=by rw[<-B,a2f,s.out];omega
    have mE:∀P,(Builtin.clear_ #[36] P #[.slice (some ⟨b,off+c*2,none⟩) (d-c) (cap-c)]).run Tryz.prog wr=.ok (.tuple #[]) (wr.setCells b (off+c*2) (List.replicate ((d-c)*2) (.int .i64 0))):=fun P =>
     Lf wr P aek b (off+c*2) (d-c) (cap-c) (by omega) (fun j hj=>by rw[show off+c*2+j=off+(c*2+j)by omega,J (c*2+j) (by rw[sJ,s.out];omega)];rfl) S
    have O:cK wr b off (dY (L.take c)):=by
     refine cK.TJ fun j x g=>?_
     have hj:j<c:=by
      rcases a0u j c with h|h
      .exact h
      .rw[a1k (by rw[a2f];omega)]at g;cases g
     rw[a41 hj]at g;exact J.line g
    rw[B]at O;have ak:=O.clear (k:=c*2) (vs:=List.replicate ((d-c)*2) (.int .i64 0)) (by rw[sJ,t];omega);have ah:=I.setCells (List.replicate ((d-c)*2) (.int .i64 0)) (off+c*2);have aa:=Lib.hid t;clear t B;go_wp2_with fail;go_ret;exact⟨by rw[aa.out];rfl,ak,ah⟩
def gY (l:List dE) (a:Int):List Int:=iG (l.filter fun x=>x.a==a)
def dA (l:List dE):List dE×Int :=
 if l.any pC then([],1)else if(List.range 17).any (fun(a:Nat)=>decide (dW (gY l (a:Int))≠0))then([],2)else
  (((List.range 17).map fun(a:Nat)=>(⟨(a:Int),dJ (gY l (a:Int))⟩:dE)).filter (fun x=>!jU x),0)
def NN (l:List dE):Prop:=l.Pairwise fun x y=>x.a<y.a
structure qR (P out:List dE):Prop where
 strict:NN out
 acc:∀a,(∃y,y∈out/\y.a=a)↔∃x,x∈P/\x.a=a
 sum:∀y,y∈out->dO 0 (gY P y.a)=some y.n
 apK:fR dE.a P
def qR.nil:qR [] []:=⟨List.Pairwise.nil,by simp,by simp,fR.nil⟩
def sL (P:List dE) (x:dE) (a:Int):gY (P++[x]) a=if x.a=a then gY P a++[x.n]else gY P a:=by
 unfold gY iG;by_cases h:x.a=a
 .simp[a08,h]
 .simp[a08,h]
def uG (l:List Int) (z n:Int) (h:dO 0 l=some n):dO 0 (l++[z])=if gH n z then some (n+z)else none:=by
 rw[L6,h];rfl
def qR.more {P out:List dE} (h:qR P out) (j:fR dE.a (P++[x])) (i:mD x.n=true) (l:∀A y,out=A++[y]->y.a≠x.a):qR (P++[x]) (out++[x]):=by
 have d:∀y,y∈out->y.a<x.a:=by
  intro y b;have g:∀y,y∈out->y.a<=x.a:=fun y b=>by
   obtain⟨z,c,e⟩:=(h.acc y.a).1 ⟨y,b,rfl⟩;have:=(fR.app.1 j).2.2 z c x (by simp);omega
  rcases A6 out with rfl|⟨A,f,rfl⟩
  .simp at b
  .have o:=l A f rfl
   have m:=g f (by simp);rcases a0m.1 b with b|b
   .have:=(a13.1 h.strict).2.2 y b f (by simp)
    omega
   .simp at b;subst b;omega
 have k:gY P x.a=[]:=by
  unfold gY iG;rw[a3j,a31];intro z c;simp;intro e;obtain⟨y,b,p⟩:=(h.acc z.a).2 ⟨z,c,rfl⟩;have:=d y b;omega
 refine⟨a13.2 ⟨h.strict,by simp,fun y b z c=>by simp at c;subst c;exact d y b⟩,fun a=>?_,fun y b=>?_,j⟩
 .constructor
  .rintro⟨y,b,rfl⟩
   rcases a0m.1 b with b|b
   .obtain⟨z,c,e⟩:=(h.acc y.a).1 ⟨y,b,rfl⟩
    exact⟨z,by simp[c],e⟩
   .exact⟨y,by simp at b;simp[b],rfl⟩
  .rintro⟨z,c,rfl⟩
   rcases a0m.1 c with c|c
   .obtain⟨y,b,e⟩:=(h.acc z.a).2 ⟨z,c,rfl⟩
    exact⟨y,by simp[b],e⟩
   .exact⟨z,by simp at c;simp[c],rfl⟩
 .rw[sL]
  rcases a0m.1 b with b|b
  .have:=d y b
   rw[if_neg (by omega)];exact h.sum y b
  .simp at b
   subst b;rw[if_pos rfl,k];have:gH 0 y.n=true:=pV.2 ⟨by decide +kernel,i,by rw[a2s];exact i⟩;simp[dO,this]
def qR.same {P A:List dE} {y:dE} (h:qR P (A++[y])) (f:fR dE.a (P++[x])) (e:y.a=x.a) (g:gH y.n x.n=true):qR (P++[x]) (A++[⟨y.a,y.n+x.n⟩]):=by
 have hs:=a13.1 h.strict;refine⟨a13.2 ⟨hs.1,by simp,fun z b u c=>by simp at c;subst c;exact hs.2.2 z b y (by simp)⟩,fun a=>?_,fun z b=>?_,f⟩
 .have:=h.acc a
  constructor
  .rintro⟨z,b,rfl⟩
   have:∃u,u∈P/\u.a=z.a:=this.1 (by
    rcases a0m.1 b with b|b
    .exact⟨z,by simp[b],rfl⟩
    .simp at b;exact⟨y,by simp,by rw[b]⟩)
   obtain⟨u,c,d⟩:=this;exact⟨u,by simp[c],d⟩
  .rintro⟨z,b,rfl⟩
   have i:∃u,u∈A++[y]/\u.a=z.a:=by
    rcases a0m.1 b with b|b
    .exact this.2 ⟨z,b,rfl⟩
    .simp at b;exact⟨y,by simp,by rw[b,e]⟩
   obtain⟨u,c,d⟩:=i;rcases a0m.1 c with c|c
   .exact⟨u,by simp[c],d⟩
   .simp at c;subst c;exact⟨⟨u.a,u.n+x.n⟩,by simp,d⟩
 .rw[sL]
  rcases a0m.1 b with b|b
  .have:=hs.2.2 z b y (by simp)
   rw[if_neg (by omega)];exact h.sum z (by simp[b])
  .simp at b
   subst b;rw[if_pos e.symm];rw[uG _ _ _ (h.sum y (by simp)),g];rfl
def qR.stop {P A m:List dE} {y:dE} (h:qR P (A++[y])) (e:y.a=x.a) (c:gH y.n x.n=false) (d:P=m.take k) (b:m[k]?=some x):dO 0 (gY m y.a)=none:=by
 have g:dO 0 (gY (P++[x]) y.a)=none:=by
  rw[sL,if_pos e.symm,uG _ _ _ (h.sum y (by simp)),c];rfl
 have f:gY m y.a=gY (P++[x]) y.a++gY (m.drop (k+1)) y.a:=by
  have e2:m.take (k+1)=P++[x]:=by rw[a0n,b,d];rfl
  conv=>lhs;rw[<-a2c (k+1) m,e2]
  unfold gY iG;rw[a08,a09]
 rw[f,xB,g];rfl
def L8 (l:List Int):∀n s:Int,mD n=true->dO n l=some s->mD s=true:=by
 induction l with
 |nil=>intro n s a h;simp[dO]at h;subst h;exact a
 |cons z l b =>
  intro n s a h;simp only[dO]at h;split at h
  .rename_i k;exact b _ _ (pV.1 k).2.2 h
  .cases h
def AF {l m:List dE} (h:kT dE.a l m) (a:Int):gY m a=gY l a:=by
 unfold gY;rw[h a]
def aeu {l:List Int} (h:dO 0 l=none):dW l=2:=by simp[dW,h]
def lV {l:List Int} {n:Int} (h:dO 0 l=some n):dJ l=n/\dW l=0:=by simp[dJ,dW,h]
def L9:∀(l m:List dE),NN l->NN m->(∀x,x∈l↔x∈m)->l=m
 |[],[],_,_,_=>rfl
 |[],y::m,_,_,h=>absurd ((h y).2 (by simp)) (by simp)
 |x::l,[],_,_,h=>absurd ((h x).1 (by simp)) (by simp)
 |x::l,y::m,n,k,h=>by
  have g:=a12.1 n;have f:=a12.1 k;have e:x=y:=by
   rcases a0c.1 ((h x).1 (by simp))with e|j
   .exact e
   .rcases a0c.1 ((h y).2 (by simp))with e|i
    .exact e.symm
    .have a:=f.1 x j
     have b:=g.1 y i;omega
  subst e;congr 1;refine L9 l m g.2 f.2 fun z=>?_;constructor
  .intro d
   rcases a0c.1 ((h z).1 (by simp[d]))with e|c
   .subst e;have:=g.1 z d;omega
   .exact c
  .intro d
   rcases a0c.1 ((h z).2 (by simp[d]))with e|c
   .subst e;have:=f.1 z d;omega
   .exact c
def OX {l:List dE} (h:l.any pC=true):dA l=([],1):=by simp[dA,h]
def LH {l:List dE} (h:l.any pC=false) (b:x∈l):0<=x.a/\x.a<17/\mD x.n=true:=by
 have:=a2e.1 h x b;simp[pC]at this;exact⟨(wI.1 this.1).1,(wI.1 this.1).2,this.2⟩
def OW {l m:List dE} {a:Int} (h:l.any pC=false) (hs:kT dE.a l m) (c:0<=a/\a<17) (b:dO 0 (gY m a)=none):dA l=([],2):=by
 have:(List.range 17).any (fun(a:Nat)=>decide (dW (gY l (a:Int))≠0))=true:=by
  refine a1n.2 ⟨a.toNat,a0v.2 (by omega),?_⟩;rw[a1h c.1,<-AF hs,aeu b];decide
 simp only[dA,h,this];simp
def agD {l m out:List dE} (h:l.any pC=false) (hs:kT dE.a l m) (f:qR m out):dA l=(out.filter (fun x=>!jU x),0):=by
 have p:∀a:Nat,dW (gY l a)=0/\((∃y,y∈out/\y.a=(a:Int)/\y.n=dJ (gY l a))\/((∀y,y∈out->y.a≠(a:Int))/\dJ (gY l a)=0)):=by
  intro a;by_cases i:∃y,y∈out/\y.a=(a:Int)
  .obtain⟨y,d,e⟩:=i
   have:=lV (f.sum y d);rw[e,AF hs]at this;exact⟨this.2,.inl ⟨y,d,e,this.1.symm⟩⟩
  .have o:gY l a=[]:=by
    rw[<-AF hs];unfold gY iG;rw[a3j,a31];intro z c;simp;intro e;exact i ((f.acc a).2 ⟨z,c,e⟩)
   rw[o];exact⟨rfl,.inr ⟨fun y d e=>i ⟨y,d,e⟩,rfl⟩⟩
 have:(List.range 17).any (fun(a:Nat)=>decide (dW (gY l (a:Int))≠0))=false:=by
  rw[a2e];intro a _;simp[(p a).1]
 simp only[dA,h,this];simp only[a2b,if_false,a1t,and_true];refine L9 _ _ ?_ (f.strict.filter _) fun x=>?_
 .refine List.Pairwise.filter _ ?_
  rw[List.pairwise_map];refine(a2z (n:=17)).imp fun{a b} q=>?_
  simp only;omega
 .simp only[List.mem_filter,a0l,a0v]
  constructor
  .rintro⟨⟨a,t,rfl⟩,c⟩
   rcases(p a).2 with⟨y,d,e1,e2⟩|⟨-,e2⟩
   .refine⟨?_,c⟩
    obtain⟨s,r⟩:=y;simp only at e1 e2;subst e1;subst e2;exact d
   .simp[jU,e2]at c
  .rintro⟨k,c⟩
   refine⟨?_,c⟩;obtain⟨z,j,e⟩:=(f.acc x.a).1 ⟨x,k,rfl⟩;have g:=LH h ((kT.mem hs).1 j);refine⟨x.a.toNat,by omega,?_⟩;have en:(x.a.toNat:Int)=x.a:=a1h (by omega);rw[en];have:=lV (f.sum x k);rw[AF hs]at this;rw[this.1]
def PJ (w:World) (base:Nat) (v:Value) (l:List dE):Prop :=
 ∃a cap,v=.slice a l.length cap/\l.length<=cap/\cap<=maxLen/\(l.length=0\/∃b off,a=some ⟨b,off,none⟩/\base<=b/\b<w.heap.size/\cK w b off (dY l)/\∀i,w.frozen? ⟨b,i,none⟩=false)
def PJ.nil {w:World} {base:Nat} {a:Option Addr} {cap:Nat} (h:cap<=maxLen):PJ w base (.slice a 0 cap) []:=⟨a,cap,rfl,by simp,h,.inl rfl⟩
def hY.full {w:World} {base n:Nat} {e:TypeId} {v:Value} {l:List dE} (h:hY w base e 2 v n (dY l)) (s:0<n) :
  ∃g cap,v=.slice (some ⟨g,0,none⟩) n cap/\base<=g/\g<w.heap.size/\n<=cap/\cap<=maxLen/\cK w g 0 (dY l)/\∀i,w.frozen? ⟨g,i,none⟩=false:=by
 have q:=h.len;obtain⟨r,m⟩:=id h;rcases m with⟨rfl,a⟩|⟨b,cap,o,rfl,k,f,a,j,hs,p⟩
 .omega
 .refine⟨b,cap,rfl,k,(a2n.1 f).1,a,j,?_,fun i=>World.ownsRow.frozenAt h i⟩
  intro i d;have c:=World.ownsRow.cellAt (w:=w) (base:=base) (e:=e) (size:=2) (g:=b) (n:=n) (cap:=cap) (xs:=ints (dY l)) h i (by omega);rw[a00,c,wJ,a0d d,a0k,a0d d];rfl
def hY.stored {w:World} {base n g cap:Nat} {e:TypeId} {zs:List Int} (h:hY w base e k (.slice (some ⟨g,0,none⟩) n cap) n zs) (j:Nat) (z:Int) :
  hY (w.setCell ⟨g,j,none⟩ (.int .i64 z)) base e k (.slice (some ⟨g,0,none⟩) n cap) n (zs.set j z):=by
 have:=(World.ownsRow.stored h j (.int .i64 z)).1;unfold hY;rw[show ints (zs.set j z)=(ints zs).set j (.int .i64 z)by simp[ints,a06]];exact this
def tQ (l:List dE) (x:dE):dY (l++[x])=dY l++[x.a,x.n]:=by simp[dY]
def abW (A:List dE) (y:dE) (z:Int):(dY (A++[y])).set (A.length*2+1) z=dY (A++[⟨y.a,z⟩]):=by
 rw[tQ,tQ,List.set_append];have:=sJ A;rw[if_neg (by omega),this];simp
section
variable (a:Option Addr) (cap:Nat) (w:World)
def aia (b:cap<=maxLen) (F:Value):Calls Tryz.prog 236 #[.slice a 0 cap,.int .i64 0,.int .i64 0,F] w fun r w'=>r=.returned (.tuple #[])/\w=w':=by
 go_enter Tryz.func236,Tryz.ntmps236;go_wp2_with fail;refine wp_loop_rounds 1 ?_;rw[rounds_succ];go_wp2_with fail;exact bodyPost_end (v:=.tuple #[]) (by simp[results,Tryz.results236,go_sem]) rfl ⟨rfl,rfl⟩
def SX (b:cap<=maxLen) (F:Value):Calls Tryz.prog 216 #[.slice a 0 cap,.int .i64 0,F] w fun r w'=>r=.returned (.tuple #[])/\w=w':=by
 go_enter Tryz.func216,Tryz.ntmps216;go_wp2_with fail;refine wp_loop_rounds 1 ?_;rw[rounds_succ];go_wp2_with fail;refine(aia a cap _ b F).mono ?_;rintro r c ⟨rfl,rfl⟩;go_wp2_with fail;refine wp_loop_rounds 1 ?_;rw[rounds_succ];go_wp2_with fail;exact bodyPost_end (v:=.tuple #[]) (by simp[results,Tryz.results216,go_sem]) rfl ⟨rfl,rfl⟩
def ae2 (b:cap<=maxLen) (F:Value):Calls Tryz.prog 184 #[.slice a 0 cap,F] w fun r w'=>r=.returned (.tuple #[])/\w=w':=by
 go_enter Tryz.func184,Tryz.ntmps184;go_wp2_with fail;refine(SX a cap _ b F).mono ?_;rintro r c ⟨rfl,rfl⟩;go_wp2_with fail;exact bodyPost_end (v:=.tuple #[]) (by simp[results,Tryz.results184,go_sem]) rfl ⟨rfl,rfl⟩
def ak2 (b:cap<=maxLen):Calls Tryz.prog 135 #[.slice a 0 cap,.func (.func 136) #[] #[]] w fun r w'=>r=.returned (.tuple #[])/\Below w.heap.size w w':=by
 go_enter Tryz.func135,Tryz.ntmps135;go_wp2_with fail;refine(ae2 a cap _ b _).mono ?_;rintro r c ⟨rfl,rfl⟩;go_wp2_with fail;exact bodyPost_end (v:=.tuple #[]) (by simp[results,Tryz.results135,go_sem]) rfl ⟨rfl,(Below.refl _ _).alloc (a0h _) _⟩
end
def abY {p:dE->Bool} (hF:Pred F p) (w:World) :
  Calls Tryz.prog 137 #[.slice none 0 0,.func (.func F) #[] #[]] w fun e w'=>e=.returned (.slice none 0 0)/\Below w.heap.size w w':=by
 have a:=M6 hF none 0 [];go_enter Tryz.func137,Tryz.ntmps137;clear hF;go_wp2_with fail;refine(a w (Row.nil _ _)).mono ?_;rw[show Li p []=-1 from rfl];rintro e c ⟨rfl,b⟩;go_wp2_with fail;go_ret;exact⟨rfl,b⟩
section
variable {P:Program} {f:FuncId} {args:Array Value} {w:World} {v:Value}
def oN {a n:Nat} (h:Calls P f args (w.drewN (a+n)) fun e w'=>e=.returned v/\w.drewN (a+n)=w') :
  Calls P f args (w.drewN (a+n)) fun e b=>e=.returned v/\∃m,b=w.drewN (a+m):=h.mono fun _ _ ⟨d,c⟩=>⟨d,n,c.symm⟩
def xM {n:Nat} (h:Calls P f args (w.drewN n) fun e w'=>e=.returned v/\w.drewN n=w'):Calls P f args (w.drewN n) fun e a=>e=.returned v/\∃m,a=w.drewN m:=h.mono fun _ _ ⟨c,b⟩=>⟨c,n,b.symm⟩
end
def ajg {x y:Int} (h:gH x y=true) (w:World):Calls Tryz.prog 37 #[.int .i64 x,.int .i64 y] w fun e w'=>e=.returned (.tuple #[.int .i64 (x+y),.int .i64 0])/\w=w':=by
 have:=Am x y w;rw[(vB h).1,(vB h).2]at this;exact this
def ajh {x y:Int} (h:gH x y=false) (w:World):Calls Tryz.prog 37 #[.int .i64 x,.int .i64 y] w fun e w'=>e=.returned (.tuple #[.int .i64 0,.int .i64 2])/\w=w':=by
 have:=Am x y w;rw[(lJ h).1,(lJ h).2]at this;exact this
def apC (w:World) (r:List dE×Int) (e:Ending) (w':World):Prop:=∃v,e=.returned (.tuple #[v,.int .i64 r.2])/\PJ w' w.heap.size v r.1/\Below w.heap.size w w'
def aen (a:Option Addr) (cap:Nat) (l:List dE) (w:World) (h:Row w 2 a l.length cap (dY l)) (aw:l.length<=20) :
  Calls Tryz.prog 77 #[.slice a l.length cap] w (apC w (dA l)):=by
 have aA:=h.all;generalize D:dA l=r;have f:=Lib.hid D;clear D;go_enter Tryz.func77,Tryz.ntmps77;go_wp2_with fail;refine(Ol aj1 a cap l _ h).mono ?_;rintro e w1 ⟨rfl,J⟩;have h1:=h.below J;cases I:l.any pC
 .clear h
  go_wp2_with fail;refine(acA a l.length cap (dY l) _ h1 (by omega)).mono ?_;rintro e w2 ⟨⟨v2,rfl,Y⟩,aq⟩;have af:Below w.heap.size w w2:=blw;by_cases h0:l=[]
  .subst h0
   have D:r=([],0):=by rw[<-f.out];rfl
   subst D;obtain⟨a2,c2,rfl,R2⟩:=Y.row (by intro z hz;simp[dY]at hz);clear f h1 J aq Y aA;go_wp2_with fail;refine(ak2 a2 c2 w2 R2.max).mono ?_;rintro e d ⟨rfl,aR⟩;go_wp2_with fail;refine wp_loop_rounds 1 ?_;rw[rounds_succ];go_wp2_with fail;refine(abY ac5 d).mono ?_;rintro e w4 ⟨rfl,aQ⟩;go_wp2_with fail;go_ret2;exact⟨_,rfl,PJ.nil (by unfold maxLen;omega),blw⟩
  .have ak:0<l.length:=a28.2 h0
   obtain⟨b,c2,rfl,aI,hb,ar,aH,Cz,av⟩:=Y.full ak;clear Y h1;go_wp2_with fail;refine(ai7 b 0 c2 l w2 Cz av hb ar aH aw).mono ?_;rintro e d ⟨rfl,m,wY,au,qT,aE,hK⟩;have ad:∀x,x∈m->0<=x.a/\x.a<17/\mD x.n=true:=fun x t=>LH I ((kT.mem qT).1 t);have H:Below w.heap.size w d:=af.trans (hK.below af.size (a1e J.size aI));have aJ:b<d.heap.size:=a0s hb hK.size;have ag:=Lib.hid ad;have S:=H.size;have G:=Lib.hid wY;have az:=Lib.hid au;obtain⟨n,hN⟩:∃n,l.length=n:=⟨_,rfl⟩;rw[hN]at ar ak aw |-;have ah:=Lib.hid hN;clear ad J aq Cz av hK wY au hN h0;go_wp2_with fail;go_loopw [5,19] (fun o i wr=>∃(j:Nat) (c:List dE),j<=n/\i=.int .i64 j/\hY wr d.heap.size 44 2 o c.length (dY c)/\Hid (qR (m.take j) c)/\c.length<=j/\Below d.heap.size d wr) (fun _ i _=>n-(intOf i).toNat)
   case atStart=>exact⟨0,[],by omega,rfl,hY.nil _ _ _ _,qR.nil,by simp,Below.refl _ _⟩
   case round =>
    obtain⟨j,c,hj,rfl,O,E,aD,W⟩:=hrel;have ax:=W.size;by_cases aF:j<n
    .have aN:(j:Int)<(n:Int):=by omega
     obtain⟨x,t⟩:∃x,m[j]?=some x:=⟨m[j]'(by rw[G.out,ah.out];omega),by simp[G.out,ah.out,aF]⟩;obtain⟨c0,c1⟩:=(aE.below aJ W).line t;rw[a00]at c0 c1;have aj:m.take (j+1)=m.take j++[x]:=by rw[a0n,t];rfl
     have Z:fR dE.a (m.take j++[x]):=by rw[<-aj];exact List.Pairwise.take az.out
     have ap:=ag.out x (a0a t);have aB:=Lib.hid t;have R:=Lib.hid aj;have u:=Lib.hid Z;have Q:=Lib.hid ap;clear t aj Z ap;rcases A6 c with rfl|⟨A,y,rfl⟩
     .obtain⟨a5,c5,rfl,R5⟩:=O.row (by intro z hz;simp[dY]at hz)
      clear R5;go_wp2_with fail;go_quiet (fail);go_wp2_with (at_builtin;refine uE _ rfl _ _ 36 rfl d.heap.size 44 2 Aw _ 0 (dY []) rfl (O.below blw) (wr.heap.size+1) 0 1 [x.a,x.n] rfl rfl (anJ (x:=x) (by simp)) ?c1 ?c2 ?_)
      case c1=>omega
      case c2=>simp;omega
      .intro v' w4 F B
       have C:qR (m.take (j+1)) ([]++[x]):=by rw[R.out];exact E.out.more u.out Q.out.2.2 (by simp)
       have X:=Lib.hid C;have L:Below d.heap.size d w4:=Below.trans blw B;clear O B C;go_wp2;go_roundw
       case rel=>exact⟨j+1,[]++[x],by omega,by go_num,by rw[tQ];exact F,X.out,by simp,L⟩
       case measure=>simp[intOf];omega
     .obtain⟨g,c5,rfl,ae,an,T,V,N,M⟩:=O.full (by simp)
      have am:=N.line (j:=A.length) (x:=y) (by simp);rw[a00]at am;obtain⟨q,hq⟩:∃q,A.length=q:=⟨_,rfl⟩;have U:(A++[y]).length=q+1:=by simp;omega
      rw[hq]at am;obtain⟨y0,y1⟩:=am;have aP:=M (q*2+1);have aC:(0:Int)<=(q:Int):=(by omega);have aW:IntKind.i64.wrap ((q:Int)+1-1)=(q:Int):=(IntWalk.i64_in _ (by omega)).trans (by omega);have aV:IntKind.i64.wrap (q:Int)=(q:Int):=IntWalk.i64_in _ (by omega);have aU:(q:Int)<(q:Int)+1:=(by omega);have aT:decide ((0:Int)<=(q:Int))=true:=decide_eq_true aC;have aO:g<wr.heap.size+1:=(by omega);have ab:=Lib.hid U;have aa:=Lib.hid hq;have aS:(q:Int)<=20:=(by omega);rw[U]at O |-;clear U hq N M;by_cases k:y.a=x.a
      .have B:(y.a==x.a)=true:=by simpa using k
       have aK:decide (y.a=x.a)=true:=(by simpa using k);have ai:=Lib.hid k;clear k;cases v:gH y.n x.n
       .have D:r=([],2):=by
         rw[<-f.out];have g:=Q.out;have e:=ai.out;exact OW (a:=y.a) I qT (by omega) (E.out.stop e v rfl aB.out)
        subst D;clear f;go_wp2_with fail;go_quiet (fail);go_wp2_with fail;go_quiet ((go_at_call 37;first|exact oN (ajh v _)|exact xM (ajh v _)));go_wp2_with fail;go_ret2;exact⟨_,rfl,PJ.nil (by unfold maxLen;omega),Below.trans H (Below.mono blw S)⟩
       .have aY:=zW v
        go_wp2_with fail;go_quiet (fail);go_wp2_with fail;go_quiet ((go_at_call 37;first|exact oN (ajg v _)|exact xM (ajg v _)));go_wp2_with fail
        case' roundEnd =>
         have C:Hid (qR (m.take (j+1)) (A++[⟨y.a,y.n+x.n⟩])):=by rw[Hid];rw[R.out];exact E.out.same u.out ai.out v
         have Y:∀K,hY _ _ _ _ _ _ _:=fun K=>(O.below (w':=(wr.alloc (.cells #[.int .i64 x.a,.int .i64 x.n] 44)).drewN K) blw).stored (q*2+1) (y.n+x.n);have aG:(dY (A++[y])).set (q*2+1) (y.n+x.n)=dY (A++[⟨y.a,y.n+x.n⟩]):=by rw[<-aa.out];exact abW A y _
         rw[aG]at Y;have L:∀K,Below d.heap.size d (((wr.alloc (.cells #[.int .i64 x.a,.int .i64 x.n] 44)).drewN K).setCell ⟨g,q*2+1,none⟩ (.int .i64 (y.n+x.n))):=fun K=>Below.setCell blw (p:=⟨g,q*2+1,none⟩) ae _;refine⟨⟨j+1,A++[⟨y.a,y.n+x.n⟩],by omega,by go_num,?_,C,by simp;have:=aa.out;have:=ab.out;simp at aD;omega,L _⟩,?_⟩
         .have ac:(A++[(⟨y.a,y.n+x.n⟩:dE)]).length=q+1:=by simp;exact aa.out
          rw[ac];exact Y _
         .simp[intOf];omega
      .have B:(y.a==x.a)=false:=by simpa using k
       have aK:decide (y.a=x.a)=false:=(by simpa using k)
       have C:qR (m.take (j+1)) ((A++[y])++[x]):=by
        rw[R.out];refine E.out.more u.out Q.out.2.2 fun A' y' e=>?_
        have:=List.append_inj' e rfl;simp at this;rw[<-this.2];exact k
       have X:=Lib.hid C;clear C;go_wp2_with fail;go_quiet (fail);go_wp2_with (at_builtin;refine uE _ rfl _ _ 36 rfl d.heap.size 44 2 Aw _ (q+1) (dY (A++[y])) rfl (O.below blw) (wr.heap.size+1) 0 1 [x.a,x.n] rfl rfl (anJ (x:=x) (by simp)) ?c1 ?c2 ?_)
       case c1=>omega
       case c2=>simp;omega
       .intro v' w4 F B
        have L:Below d.heap.size d w4:=Below.trans blw B;have ac:((A++[y])++[x]).length=q+1+1:=by simp;have:=aa.out;omega
        have al:=Lib.hid ac;clear O B ac;go_wp2;go_roundw
        case rel=>exact⟨j+1,(A++[y])++[x],by omega,by go_num,by rw[al.out,tQ];exact F,X.out,by rw[al.out];have:=ab.out;omega,L⟩
        case measure=>simp[intOf];omega
    .have ej:j=n:=by omega
     subst ej;have aX:¬ (j:Int)<(j:Int):=by omega
     have P:qR m c:=by have:=E.out;rwa[a1l (by rw[G.out,ah.out];omega)]at this
     have ay:c≠[]:=by
      intro e;obtain⟨x,t⟩:∃x,x∈m:=⟨m[0]'(by rw[G.out,ah.out];omega),a3d _⟩;obtain⟨y,hy,-⟩:=(P.acc x.a).2 ⟨x,t,rfl⟩;rw[e]at hy;simp at hy
     obtain⟨g,c5,rfl,ae,an,T,V,N,M⟩:=O.full (a28.2 ay);have D:r=(c.filter (fun x=>!jU x),0):=by rw[<-f.out];exact agD I qT P
     have aM:eW (dY c):=Nb fun y hy=>by
      obtain⟨x,t,e⟩:=(P.acc y.a).1 ⟨y,hy,rfl⟩;have g:=ag.out x t;have s:=L8 _ 0 y.n (by decide +kernel) (P.sum y hy);have s:=fK.1 s;exact⟨⟨by omega,by omega⟩,⟨by omega,by omega⟩⟩
     subst D;have hd:=Xx ac5 g 0 c5 c wr N M an T V aM;clear f P O N E;go_wp2_with fail;refine hd.mono ?_;rintro e w5 ⟨rfl,aL,ao⟩;go_wp2_with fail;go_ret2;refine⟨_,rfl,⟨_,c5,rfl,a1e (a32 _ _) T,V,.inr ⟨g,0,rfl,a1e S ae,a0s an ao.size,aL,fun i=>(ao.Xl i).trans (M i)⟩⟩,?_⟩;exact H.trans ((W.trans (ao.below ax ae)).mono S)
 .have D:r=([],1):=by rw[<-f.out];exact OX I
  subst D;clear f;go_wp2_with fail;go_ret2;exact⟨_,rfl,PJ.nil (by unfold maxLen;omega),J⟩
end
section
def pA (l:List dE):Bool:=decide (1<=l.length)&&decide (l.length<=12)&&!(l.any Oq)&&decide (dJ (iG l)=0)&&decide (dW (iG l)=0)
def PR (l:List Int):-288230376151711744<=dJ l/\dJ l<=288230376151711744:=by
 unfold dJ;cases h:dO 0 l with
 |none=>exact⟨by simp,by simp⟩
 |some s=>exact fK.1 (L8 l 0 s (by decide +kernel) h)
def FE (l:List dE):∀x,x∈(dA l).1->0<=x.a/\x.a<17/\-288230376151711744<=x.n/\x.n<=288230376151711744:=by
 intro x b;unfold dA at b;split at b
 .simp at b
 .split at b
  .simp at b
  .obtain⟨b,-⟩:=List.mem_filter.1 b
   obtain⟨a,c,rfl⟩:=a0l.1 b;have:=PR (gY l (a:Int));have:=a0v.1 c;exact⟨by simp only;omega,by simp only;omega,by simp only;omega,by simp only;omega⟩
def Rh (l:List dE):eW (dY (dA l).1):=Nb fun x a=>by
 have:=FE l x a;exact⟨⟨by omega,by omega⟩,⟨by omega,by omega⟩⟩
def cK.put {w:World} {b off:Nat} {zs:List Int} (h:cK w b off zs) {j:Nat} (c:j<zs.length) (z:Int):cK (w.setCell ⟨b,off+j,none⟩ (.int .i64 z)) b off (zs.set j z):=by
 intro i a;rw[a1m]at a;have k:=h i a;by_cases e:i=j
 .subst e
  rw[World.cell?_setCell_same _ _ _ k,a0k,a3c a];rfl
 .rw[World.cell?_setCell_other _ _ _ _ (by intro e2;injection e2;omega),k,a0k,a0k,a3l (fun e2=>e e2.symm)]
def gM:List Int->List dE->Option (List Int)
 |cU,[]=>some cU
 |cU,x::m=>if gH (cU.getD x.a.toNat 0) x.n then gM (cU.set x.a.toNat (cU.getD x.a.toNat 0+x.n)) m else none
def CG:∀(m:List dE) (cU next:List Int),gM cU m=some next->next.length=cU.length
 |[],cU,next,h=>by simp[gM]at h;rw[h]
 |x::m,cU,next,h=>by
  simp only[gM]at h;split at h
  .have:=CG m _ _ h
   simpa using this
  .cases h
def I3:∀(m:List dE) (cU:List Int) (x:dE),gM cU (m++[x])=(gM cU m).bind fun next=>if gH (next.getD x.a.toNat 0) x.n then some (next.set x.a.toNat (next.getD x.a.toNat 0+x.n))else none
 |[],cU,x=>by simp[gM]
 |y::m,cU,x=>by
  simp only[a2a,gM];split
  .exact I3 m _ x
  .rfl
def AQ (cU:List Int) (l:List dE):Int:=if(dA l).2≠0\/(0<(dA l).1.length/\pA (dA l).1=false)then 10 else match gM cU (dA l).1 with|some _=>0|none=>2
def MD (cU:List Int) (l:List dE):List Int:=(gM cU (dA l).1).getD cU
def hY.amS {w:World} {base n:Nat} {e:TypeId} {v:Value} {zs:List Int} (h:hY w base e 1 v n zs) (r:0<n) :
  ∃g cap,v=.slice (some ⟨g,0,none⟩) n cap/\base<=g/\g<w.heap.size/\n<=cap/\cap<=maxLen/\cK w g 0 zs/\∀i,w.frozen? ⟨g,i,none⟩=false:=by
 have p:=h.len;obtain⟨q,l⟩:=id h;rcases l with⟨rfl,a⟩|⟨b,cap,m,rfl,k,f,a,j,hs,o⟩
 .omega
 .refine⟨b,cap,rfl,k,(a2n.1 f).1,a,j,?_,fun i=>World.ownsRow.frozenAt h i⟩
  intro i d;have c:=World.ownsRow.cellAt (w:=w) (base:=base) (e:=e) (size:=1) (g:=b) (n:=n) (cap:=cap) (xs:=ints zs) h i (by omega);rw[a00,c,wJ,a0d d,a0k,a0d d];rfl
def nE (cU:List Int) (l:List dE):List Int×Int:=if AQ cU l=0 then(MD cU l,0)else(cU,AQ cU l)
def aeP (cU:List Int) (l:List dE):(MD cU l).length=cU.length:=by
 unfold MD;cases h:gM cU (dA l).1 with
 |none=>rfl
 |some next=>exact CG _ _ _ h
def aeO (cU:List Int) (l:List dE):(nE cU l).1.length=cU.length:=by
 unfold nE;split
 .exact aeP cU l
 .rfl
abbrev gZ (f:Int):Prop:=0<=f/\f<=20
def Co (l:List dE):gZ (dA l).2/\((dA l).2≠0->(dA l).1=[]):=by
 unfold dA;split
 .exact⟨⟨by simp,by simp⟩,fun _=>rfl⟩
 .split
  .exact⟨⟨by simp,by simp⟩,fun _=>rfl⟩
  .exact⟨⟨by simp,by simp⟩,fun h=>absurd rfl h⟩
def OV (l:List dE):(dA l).1.length<=17:=by
 unfold dA;split
 .simp
 .split
  .simp
  .exact a1e (a32 _ _) (by simp)
end
section
open Mc
variable {A:Nat->Prop}
def uS {vs:Array Value} {x:AV} (h:vs.size=[x].length):vs=#[vs.getD 0 Go.undef]:=by
 have h:vs.size=1:=h;apply Array.ext
 .simp[h]
 .intro i a b
  have:i=0:=by omega
  subst this;simp[a]
def SO {vs:Array Value} {x y:AV} (h:vs.size=[x,y].length):vs=#[vs.getD 0 Go.undef,vs.getD 1 Go.undef]:=by
 have h:vs.size=2:=h;apply Array.ext
 .simp[h]
 .intro i b a
  rcases(by omega:i=0\/i=1)with rfl|rfl<;>simp[h]
def mI {w:World} {x y:AV} {v u:Value} (h:@eE dK dN A w x v) (g:@eE dK dN A w y u):@eE dK dN A w (.bG [x,y]) (.tuple #[v,u]):=by
 refine @eE.bG dK dN A w [x,y] #[v,u] rfl ?_;intro i z a;match i,a with
 |0,a=>cases a;exact h
 |1,a=>cases a;exact g
def qJ {w:World} {v:Int}:@eE dK dN A w (.i v) (.int .i64 v):=@eE.c dK dN A w _
def ajV {w:World} (x:bV):@eE dK dN A w x.av x.val:=by
 unfold bV.av bV.val;refine @eE.agg dK dN A w _ _ rfl ?_ ?_
 .intro i y a
  match i,a with
  |0,a=>cases a;rfl
  |1,a=>cases a;rfl
  |2,a=>cases a;rfl
 .intro i y a
  match i,a with
  |0,a=>cases a;exact qJ
  |1,a=>cases a;exact qJ
  |2,a=>cases a;exact qJ
def aiW (x:bV):Cl x.av:=.agg _ (xZ _)
def RQ {w:World} {l:List bV} {v:Value} (h:@eE dK dN A w (.lit 3 (aO l)) v) (c:eW (flat l)):∃a cap,v=.slice a l.length cap/\Row w 3 a l.length cap (flat l):=by
 rw[ah6]at h;obtain⟨a,cap,rfl,R⟩:=A9 h (by rw[ain];exact c) (by intro r b;obtain⟨x,-,rfl⟩:=a0l.1 b;rfl);rw[ain,a0z]at R;exact⟨a,cap,by rw[a0z],R⟩
def RP {w:World} {l:List dE} {v:Value} (h:@eE dK dN A w (.lit 2 (bS l)) v) (c:eW (dY l)):∃a cap,v=.slice a l.length cap/\Row w 2 a l.length cap (dY l):=by
 rw[T5]at h;obtain⟨a,cap,rfl,R⟩:=A9 h (by rw[R7];exact c) (by intro r b;obtain⟨x,-,rfl⟩:=a0l.1 b;rfl);rw[R7,a0z]at R;exact⟨a,cap,by rw[a0z],R⟩
def MX {w w':World} {l:List dE} {a:Option Addr} {cap:Nat} (i:∀b,A b->b<w.heap.size) (d:l.length<=cap) (f:cap<=maxLen) (h:l.length=0\/∃b off,a=some ⟨b,off,none⟩/\w.heap.size<=b/\b<w'.heap.size/\cK w' b off (dY l)) :
  @eE dK dN A w' (.lit 2 (bS l)) (.slice a l.length cap):=by
 rw[T5];have c:(l.map dE.r).length=l.length:=by simp
 rw[<-c]at d |-;refine Cg (by intro r e;obtain⟨x,-,rfl⟩:=a0l.1 e;rfl) d f ?_;rw[c,R7];exact h.imp id fun⟨b,off,m,n,k,j⟩=>⟨b,off,m,fun g=>by have:=i b g;omega,k,j⟩
def LG {w:World} {l:List Int} {v:Value} (h:@eE dK dN A w (.lit 1 (aA l)) v) (c:eW l):∃a cap,v=.slice a l.length cap/\Row w 1 a l.length cap l:=by
 rw[MZ]at h;obtain⟨a,cap,rfl,R⟩:=A9 h (by rw[LI];exact c) (by intro r b;obtain⟨x,-,rfl⟩:=a0l.1 b;rfl);rw[LI,a0z]at R;exact⟨a,cap,by rw[a0z],R⟩
def Xb {w w':World} {l:List Int} {a:Option Addr} {cap:Nat} (i:∀b,A b->b<w.heap.size) (d:l.length<=cap) (f:cap<=maxLen) (h:l.length=0\/∃b off,a=some ⟨b,off,none⟩/\w.heap.size<=b/\b<w'.heap.size/\cK w' b off l) :
  @eE dK dN A w' (.lit 1 (aA l)) (.slice a l.length cap):=by
 rw[MZ];have c:(l.map fun v=>[v]).length=l.length:=by simp
 rw[<-c]at d |-;refine Cg (by intro r e;obtain⟨x,-,rfl⟩:=a0l.1 e;rfl) d f ?_;rw[c,LI];exact h.imp id fun⟨b,off,m,n,k,j⟩=>⟨b,off,m,fun g=>by have:=i b g;omega,k,j⟩
def ai6 (l:List dE) (o:eW (dY l)) (f:l.length<=20):CK Tryz.prog 77 [.lit 2 (bS l)] (.bG [.lit 2 (bS (dA l).1),.i (dA l).2]):=by
 refine⟨bN (Ax _).lit fY,.bG _ (bN (Ax _).lit (bN (.c _) fY)),?_⟩;intro A w vs p x m k;have d:=uS m;generalize vs.getD 0 Go.undef=u at d;subst d;obtain⟨a,cap,rfl,R⟩:=RP (k 0 _ rfl) o;refine(aen a cap l w R f).mono ?_;rintro e w' ⟨v,rfl,⟨y,nA,rfl,j,h,g⟩,n⟩;refine⟨_,rfl,mI (MX p j h ?_) qJ,n⟩;exact g.imp id fun⟨b,off,t,s,r,q,_⟩=>⟨b,off,t,s,r,q⟩
def bK.bJ (s:bK) (e:Int) (x:dL):bK:={ s with aD:=s.aD.set e.toNat x }
def dL.xI (x:dL) (b:List Int):dL:={ x with cU:=b }
end
section
def zJ (l:List bV) (x:bV):List bV×Int:=if(Cy l x).2=0 then([uF (Cy l x).1],0)else(l,(Cy l x).2)
def aid {l:List bV} {x:bV} (h:(Cy l x).2≠0):(Cy l x).1=l:=by
 unfold Cy at h |-;split
 .rfl
 .split
  .rfl
  .split
   .rename_i c b a;rw[if_neg c,if_neg b,if_pos a]at h;exact absurd rfl h
   .rfl
def aku {l:List bV} {x:bV} (h:(Cy l x).2=0):(Cy l x).1=l++[x]/\LR (l++[x]):=by
 unfold Cy at h |-;split
 .rename_i a;rw[if_pos a]at h;cases h
 .split
  .rename_i a b;rw[if_neg a,if_pos b]at h;cases h
  .split
   .rename_i a b c;exact⟨rfl,LR.of c⟩
   .rename_i a b c;rw[if_neg a,if_neg b,if_neg c]at h;cases h
def am8 {l:List bV} (h:LR l) (c:l≠[]):LR [uF l]:=by
 rw[h.uF.1];have a:=gG h.ok;have b:=Ej l;have:=h.q;have:=h.v;have:=h.p;have:1<=l.length:=a28.2 c;exact LR.one (eI.2 ⟨by simp only;omega,by simp only;omega,by simp only;omega,by simp only;omega,by simp only;omega,by simp only;omega⟩)
def RV {l:List bV} {x:bV} (h:LR l):LR (zJ l x).1:=by
 unfold zJ;split
 .rename_i b
  obtain⟨e,a⟩:=aku b;rw[e];exact am8 a (by simp)
 .exact h
def En {l:List bV} {q:Int}:(fU l q).1.length<=l.length:=by
 have k:∀(l:List bV) (a:bV) (q:Int),(jL l a q).1.length<=l.length:=by
  intro l;induction l with
  |nil=>intro a q;simp[jL]
  |cons x r b =>
   intro a q;simp only[jL];split
   .exact a0h _
   .split
    .simp
    .have:=b (lD a x) (q-x.q);simp only[a0t];omega
 unfold fU;split
 .exact a0h _
 .split
  .exact a0h _
  .exact k _ _ _
end
section
open Mc
variable {S:bK} {k:Nat}
def qZ (zs:List Int) (g:eW zs):CK Tryz.prog 72 [.lit 1 (aA zs)] (.bG [.i (dJ zs),.i (dW zs)]):=by
 refine⟨bN (kX _).lit fY,.bG _ (bN (.c _) (bN (.c _) fY)),?_⟩;intro A w vs k j f d;have b:=uS f;generalize vs.getD 0 Go.undef=h at b;subst b;obtain⟨a,cap,rfl,R⟩:=LG (d 0 _ rfl) g;refine(aeV a _ cap zs w R).mono ?_;rintro e w' ⟨rfl,rfl⟩;exact⟨_,rfl,mI qJ qJ,Below.refl _ _⟩
def agw (rc:List wU) (x:wU):hH rc++[jF x.r]=hH (rc++[x]):=by simp[hH]
def aga (a:List kU) (x:kU):dX a++[x.row]=dX (a++[x]):=by simp[dX]
def ajW (rc:List wU) (k:Nat) (x:wU):(hH rc).set k (jF x.r)=hH (rc.set k x):=by simp[hH,a06]
def ajQ (a:List kU) (k:Nat) (x:kU):(dX a).set k x.row=dX (a.set k x):=by simp[dX,a06]
def bK.bQ (S:bK) (E:List dL):bK:={ S with aD:=E }
def bK.avE (S:bK) (R:List (List AV)):AV:=.agg [.i S.bU,.i S.bT,.lit 1 (aA S.weights),.lit 1 (bF S.methods),.lit 1 (bF S.cI),.lit 8 R,.lit 8 (hH S.bB),.lit 9 (dX S.aN),.lit 6 (fM S.aH),.i S.done]
def bK.aod (S:bK):S.av=S.avE (bD S.aD):=rfl
def an5 {R:List (List AV)} (h:qU R):Cl (S.avE R) :=
 .agg _ (bN (.c _) (bN (.c _) (bN (kX _).lit (bN (oY _).lit (bN (oY _).lit (bN h.lit (bN (ab4 _).lit (bN (ab3 _).lit (bN (ab2 _).lit (bN (.c _) fY))))))))))
def zO (now:Int) (closed:Bool) (P B R a D A:List (List AV)):List AV:=[.i now,.c (.bool closed),.lit 4 P,.lit 1 B,.lit 11 R,.lit 1 a,.lit 1 D,.lit 8 A]
def aiX {now:Int} {closed:Bool} {P B R a D A:List (List AV)} (h1:qU P) (g:qU B) (f:qU R) (e:qU a) (d:qU D) (b:qU A):∀x∈zO now closed P B R a D A,Cl x :=
 bN (.c _) (bN (.c _) (bN h1.lit (bN g.lit (bN f.lit (bN e.lit (bN d.lit (bN b.lit fY)))))))
structure Wx (S:bK) (e item now:Int) (closed:Bool) (bH:List dI) (cU:List Int) (aM:List (List Int)) (aZ down:List Int) (ahead:List EntC) (ms cs:List Int) (m c:Int):Prop where
 hn:S.aD.length<=4
 e0:0<=e
 e1:e<S.aD.length
 hx:S.aD[e.toNat]?=some ⟨⟨now,closed,bH,cU,aM,aZ,down⟩,ahead⟩
 hw:S.weights.length<=5
 i0:0<=item
 i1:item<S.weights.length
 M7:S.methods.length=S.aD.length
 Fg:S.cI.length=S.aD.length
 qT:S.methods[e.toNat]?=some ms
 Cz:S.cI[e.toNat]?=some cs
 wY:ms.length=S.weights.length
 mE:cs.length=S.weights.length
 Xg:bH.length=2*S.weights.length
 Xf:aM.length=S.weights.length
 hm:ms[item.toNat]?=some m
 hc:cs[item.toNat]?=some c
 mb:fW m
 cb:fW c
def aiu {l:List dL} {now:Int} {closed:Bool} {bH:List dI} {cU:List Int} {aM:List (List Int)} {aZ down:List Int} {ahead:List EntC} (h:l[k]?=some ⟨⟨now,closed,bH,cU,aM,aZ,down⟩,ahead⟩):(bD l)[k]?=some (zO now closed (bP bH) (aA cU) (bM aM) (aA aZ) (aA down) (bW ahead)):=by
 rw[bD,a0o,h];rfl
def adI {z:List Int} {v:Int} (h:z[k]?=some v):(aA z)[k]?=some [.i v]:=by
 rw[aA,a0o,h];rfl
def ail {z:List (List Int)} {v:List Int} (h:z[k]?=some v):(bF z)[k]?=some [.lit 1 (aA v)]:=by
 rw[bF,a0o,h];rfl
def ac7 {z:List dI} {p:dI} (h:z[k]?=some p):(bP z)[k]?=some [.lit 3 (aO p.aX),.i p.p0,.i p.p1,.i p.p2]:=by
 rw[bP,a0o,h];rfl
def ajS {z:List (List Int)} {v:List Int} (h:z[k]?=some v):(bM z)[k]?=some (jF v):=by
 rw[bM,a0o,h];rfl
def ao0 {z:List wU} {x:wU} (h:z[k]?=some x):(hH z)[k]?=some [.i x.aU,.i x.item,.i x.loc,.i x.eU,.i x.value,.i x.wG,.i x.dQ,.i x.back]:=by
 rw[hH,a0o,h];rfl
def aoZ {z:List kU} {x:kU} (h:z[k]?=some x):(dX z)[k]?=some [.i x.aU,.i x.item,.i x.loc,.i x.eU,.i x.back,.i x.cost,.i x.bY,.i x.period,.c (.bool x.waits)]:=by
 rw[dX,a0o,h];rfl
def aos {z:List Fh} {x:Fh} (h:z[k]?=some x):(fM z)[k]?=some [.i x.src,.i x.dst,.i x.item,.i x.eU,.i x.value,.i x.bY]:=by
 rw[fM,a0o,h];rfl
def MF (l:List dI) (k:Nat) (p:dI):bP (l.set k p)=(bP l).set k p.row:=by simp[bP,a06]
def aaR (l:List (List Int)) (k:Nat) (p:List Int):bM (l.set k p)=(bM l).set k (jF p):=by simp[bM,a06]
def ae6 (l:List dL) (k:Nat) (x:dL):bD (l.set k x)=(bD l).set k x.row:=by simp[bD,a06]
def bK.setRow (S:bK) (e:Int) (r:List AV):AV:=S.avE ((bD S.aD).set e.toNat r)
def bK.nY (S:bK) (e:Int) (x:dL):(S.bJ e x).av=S.setRow e x.row:=by
 rw[bK.aod,bK.bJ,bK.setRow];show bK.avE S (bD (S.aD.set e.toNat x))=_;rw[ae6]
def afe {e:Int} {r:List AV} (h:∀x∈r,Cl x):Cl (S.setRow e r):=an5 (ad0 (Sf _) h)
def bK.avX (S:bK) (R c b a:List (List AV)) (d:Int):AV:=.agg [.i S.bU,.i S.bT,.lit 1 (aA S.weights),.lit 1 (bF S.methods),.lit 1 (bF S.cI),.lit 8 R,.lit 8 c,.lit 9 b,.lit 6 a,.i d]
def an4 {R e b a:List (List AV)} {d:Int} (h:qU R) (i:qU e) (g:qU b) (f:qU a):Cl (S.avX R e b a d) :=
 .agg _ (bN (.c _) (bN (.c _) (bN (kX _).lit (bN (oY _).lit (bN (oY _).lit (bN h.lit (bN i.lit (bN g.lit (bN f.lit (bN (.c _) fY))))))))))
def aiT (x:kU):∀y∈x.row,Cl y:=fun y a=>by simp only[kU.row,a0c,a0b,or_false]at a;rcases a with rfl|rfl|rfl|rfl|rfl|rfl|rfl|rfl|rfl<;>exact .c _
def getD_some {α:Type} {l:List α} {d:α} (h:k<l.length):l[k]?=some (l.getD k d):=by
 rw[List.getD,a0d h];rfl
def dR {α:Type} {l:List α} {d:α} (h:k<l.length):l.getD k d∈l:=a0a (getD_some (d:=d) h)
def acE [Bk] [Ev] {A:Nat->Prop} {w:World} {us:Array Value} {vs:List Value} (b:us.size=(vs.map AV.c).length) (f:∀(i:Nat) (x:AV),(vs.map AV.c)[i]?=some x->eE A w x (us.getD i Go.undef)):us=vs.toArray:=by
 apply Array.ext';apply a3w;intro i;by_cases d:i<vs.length
 .have e:=f i (.c vs[i]) (by simp[d])
  cases a:us.toList[i]? with
  |none=>simp at a b;omega
  |some u =>
   have:us.getD i Go.undef=u:=by
    rw[Array.getElem?_toList]at a;rw[a45,a];rfl
   rw[this]at e;cases e;simp[d]
 .have g:us.toList[i]?=none:=by simp at b |-;omega
  rw[g];simp;omega
def anK [Bk] [Ev] {k:FuncId} {vs:List Value} {r:Value} (d:∀w,Calls Tryz.prog k vs.toArray w fun e w'=>e=.returned r/\Below w.heap.size w w'):NR Tryz.prog k (vs.map .c) (.c r):=by
 intro A w g i h b a;have e:=acE b a;subst e;refine(d w).mono ?_;rintro e w' ⟨rfl,f⟩;exact⟨_,rfl,.c _,f⟩
def amP [Bk] [Ev] {k:FuncId} {vs rs:List Value} (g:∀w,Calls Tryz.prog k vs.toArray w fun e w'=>e=.returned (.tuple rs.toArray)/\Below w.heap.size w w') (_:rs.length≠1):NR Tryz.prog k (vs.map .c) (.bG (rs.map .c)):=by
 intro A w j m l f d;have e:=acE f d;subst e;refine(g w).mono ?_;rintro e w' ⟨rfl,h⟩;refine⟨_,rfl,.bG _ _ (by simp) fun i y a=>?_,h⟩;rw[a0o]at a;cases b:rs[i]? with
 |none=>rw[b]at a;cases a
 |some u =>
  rw[b]at a;cases a;have:rs.toArray.getD i Go.undef=u:=by simp[a45,b]
  rw[this];exact .c _
structure OpD where
 (kind e item loc dst eU acv ref:Int)
def OpD.av (o:OpD):AV:=.agg [.i o.kind,.i o.e,.i o.item,.i o.loc,.i o.dst,.i o.eU,.i o.acv,.i o.ref,.emp]
def eS (k e item loc dst b a ref:Int):AV:=(OpD.mk k e item loc dst b a ref).av
def amY (o:OpD):Cl o.av:=.agg _ (bN (.c _) (bN (.c _) (bN (.c _) (bN (.c _) (bN (.c _) (bN (.c _) (bN (.c _) (bN (.c _) (bN .emp fY)))))))))
def aj3 (v m:Int) (w:World) (h1:0<m) (a:m<=1099511627776):Calls Tryz.prog 14 #[.int .i64 v,.int .i64 m] w fun e w'=>e=.returned (.int .i64 (v%m))/\Below w.heap.size w w':=by
 refine(aap v m w h1 (by omega)).mono ?_;rintro e w' ⟨rfl,rfl⟩;exact⟨rfl,Below.refl _ _⟩
end
end Go.Proofs.YtnepgggkgnckcaaGreat
namespace Go.Value
abbrev I (x:Int):Go.Value:=.int .i64 x
end Go.Value
namespace Go.Proofs.YtnepgggkgnckcaaGreat
open Go.RowKit
section
open Mc
variable {ρ:Nat->Int} {P:Program} {xa':List AV} {r':AV}
abbrev Ck (k:FuncId) (a:List AV) (r:AV):Prop:=CK Tryz.prog k a r
abbrev Mc.AV.v (k:Nat):AV:=.e [([k],1)]
abbrev Mc.AV.q (sz k:Nat):AV:=.seq sz k [] []
abbrev sN (E d:AV):AV:=.agg [.o 0,.o 1,.q 1 1,.q 1 2,.q 1 3,E,.q 8 4,.q 9 5,.q 6 6,d]
class lU (l:List (List AV)):Prop where out:qU l
class ClS (ss:List (List (List AV))):Prop where out:∀l∈ss,∀r∈l,∀x∈r,Cl x
class yO (l:List AV):Prop where out:∀x∈l,Cl x
class uD (x:AV):Prop where out:Cl x
instance:ClS []:=⟨ajK⟩
instance {l:List (List AV)} {ss:List (List (List AV))} [h:lU l] [g:ClS ss]:ClS (l::ss):=⟨af0 h.out g.out⟩
instance:yO []:=⟨fY⟩
instance {x:AV} {l:List AV} [h:uD x] [g:yO l]:yO (x::l):=⟨bN h.out g.out⟩
instance (v:Value):uD (.c v):=⟨.c v⟩
instance:uD .emp:=⟨.emp⟩
instance (l:List AV) [h:yO l]:uD (.agg l):=⟨.agg _ h.out⟩
instance (l:List AV) [h:yO l]:uD (.bG l):=⟨.bG _ h.out⟩
instance (k:Nat) (l:List (List AV)) [h:lU l]:uD (.lit k l):=⟨h.out.lit⟩
instance:lU []:=⟨qU.nil⟩
instance {r:List AV} {l:List (List AV)} [h:yO r] [g:lU l]:lU (r::l):=⟨aiY h.out g.out⟩
instance {a b:List (List AV)} [h:lU a] [g:lU b]:lU (a++b):=⟨ab5 h.out g.out⟩
instance {a:List (List AV)} {k:Nat} {r:List AV} [h:lU a] [g:yO r]:lU (a.set k r):=⟨ad0 h.out g.out⟩
instance (l:List Int):lU (aA l):=⟨kX l⟩
instance (l:List bV):lU (aO l):=⟨EU l⟩
instance (l:List dE):lU (bS l):=⟨Ax l⟩
instance (l:List wU):lU (hH l):=⟨ab4 l⟩
instance (l:List kU):lU (dX l):=⟨ab3 l⟩
instance (l:List Fh):lU (fM l):=⟨ab2 l⟩
instance (l:List (List Int)):lU (bM l):=⟨XD l⟩
instance (l:List (List Int)):lU (bF l):=⟨oY l⟩
instance (l:List dI):lU (bP l):=⟨XE l⟩
instance (l:List EntC):lU (bW l):=⟨XF l⟩
instance (l:List dL):lU (bD l):=⟨Sf l⟩
instance (l:List Int):yO (jF l):=⟨xZ l⟩
instance (p:dI):yO p.row:=⟨CC p⟩
instance (p:kU):yO p.row:=⟨aiT p⟩
instance (p:dI):uD p.av:=⟨.agg _ (CC p)⟩
instance (x:bV):uD x.av:=⟨aiW x⟩
instance (S:bK):uD S.av:=⟨api S⟩
instance (a b c d e f g h:Int):uD (eS a b c d e f g h):=⟨amY _⟩
instance {now:Int} {closed:Bool} {P B R a D A:List (List AV)} [g:lU P] [f:lU B] [e:lU R] [d:lU a] [c:lU D] [b:lU A]:yO (zO now closed P B R a D A):=⟨aiX g.out f.out e.out d.out c.out b.out⟩
instance {S:bK} {e:Int} {r:List AV} [h:yO r]:uD (S.setRow e r):=⟨afe h.out⟩
instance {S:bK} {R c b a:List (List AV)} {d:Int} [h:lU R] [g:lU c] [f:lU b] [e:lU a]:uD (S.avX R c b a d):=⟨an4 h.out g.out f.out e.out⟩
abbrev gV:List (Int×Int):=[(0,3),(1,4),(0,4),(1,5),(-9223372036854775808,9223372036854775807),(-9223372036854775808,9223372036854775807)]
abbrev gF:List (Poly×Int×Int):=[([([0],-1),([1],1)],1,4),([([2],-1),([3],1)],1,5)]
abbrev gL:List (Nat×Poly):=[(0,[([1],1)]),(1,[([3],1)]),(2,[([1],1)]),(3,[([1],1)]),(13,[([3],1)]),(14,[([3],1)]),(9,[([3],1)]),(7,[([3],2)])]
abbrev gAw (c:AV):List (Nat×Poly×List AV):=[(0,[([0],1)],[.o 3,c,.q 4 7,.q 1 8,.q 11 9,.q 1 10,.q 1 11,.q 8 12]),(2,[([0],1)],[.q 1 13]),(3,[([0],1)],[.q 1 14]),(13,[([2],1)],[.v 4]),(14,[([2],1)],[.v 5])]
abbrev gA:List (Nat×Poly×List AV):=gAw (.o 4)
abbrev gS (S:bK) (bH:List dI) (cU:List Int) (aM:List (List Int)) (aZ down:List Int) (ahead:List EntC) (ms cs:List Int) (l:List (List (List AV))):List (List (List AV)):=bD S.aD::aA S.weights::bF S.methods::bF S.cI::hH S.bB::dX S.aN::fM S.aH::bP bH::aA cU::bM aM::aA aZ::aA down::bW ahead::aA ms::aA cs::l
abbrev nB:Int×Int:=(-9223372036854775808,9223372036854775807)
abbrev w60:Int×Int:=(-1152921504606846976,1152921504606846976)
abbrev iK:Int×Int:=(-288230376151711744,288230376151711744)
abbrev Od (S:bK):Prop:=(0<=S.done/\S.done<=1000000)/\S.bB.length<=40/\S.aN.length<=40/\S.aH.length<=40
abbrev oS (S:bK) (l:List (List (List AV))):List (List (List AV)):=bD S.aD::aA S.weights::bF S.methods::bF S.cI::hH S.bB::dX S.aN::fM S.aH::l
def Wx.bd {S:bK} {e item now:Int} {closed:Bool} {bH:List dI} {cU:List Int} {aM:List (List Int)} {aZ down:List Int} {ahead:List EntC} {ms cs:List Int} {m c:Int} (H:Wx S e item now closed bH cU aM aZ down ahead ms cs m c) :
  S.aD.length<=4/\0<=e/\e<S.aD.length/\S.weights.length<=5/\0<=item/\item<S.weights.length/\S.methods.length=S.aD.length/\S.cI.length=S.aD.length/\ms.length=S.weights.length/\cs.length=S.weights.length/\bH.length=2*S.weights.length/\aM.length=S.weights.length/\(-9223372036854775808<=m/\m<=9223372036854775807)/\(-9223372036854775808<=c/\c<=9223372036854775807) :=
 ⟨H.hn,H.e0,H.e1,H.hw,H.i0,H.i1,H.M7,H.Fg,H.wY,H.mE,H.Xg,H.Xf,⟨H.mb.lo,H.mb.hi⟩,⟨H.cb.lo,H.cb.hi⟩⟩
namespace Mc
def jH.c {a b x:Int} {l:List (Int×Int)} {xs:List Int} (h:jH l xs) (h1:a<=x:=by omega) (d:x<=b:=by omega):jH ((a,b)::l) (x::xs):=.cons h1 d h
def jT.c {ρ:Nat->Int} {p:Poly} {a b:Int} {l:List (Poly×Int×Int)} (h:jT ρ l) (h1:a<=cQ ρ p:=by simp[cQ,uA];omega) (d:cQ ρ p<=b:=by simp[cQ,uA];omega):jT ρ ((p,a,b)::l):=.cons h1 d h
def kP.c {ρ:Nat->Int} {ss:List (List (List AV))} {k:Nat} {p:Poly} {l:List (Nat×Poly)} (h:kP ρ ss l) (h1:((ss.getD k []).length:Int)=cQ ρ p:=by simp[cQ,uA,bD,aA,bP,hH,dX,fM,bS,aO,bM,bW,bF];try omega):kP ρ ss ((k,p)::l):=.cons h1 h
def Aa.d {a:Nat->Value} {ss:List (List (List AV))} {k:Nat} {p:Poly} {r r0:List AV} {l:List (Nat×Poly×List AV)} (h1:(ss.getD k [])[(cQ ρ p).toNat]?=some r0) (h:Aa ρ a ss l) (e:0<=cQ ρ p:=by simp[cQ,uA];try omega) (c:r.map (AM ρ a (fun i=>ss.getD i []) 12)=r0:=by rfl) (b:r.all (mW 12)=true:=by rfl):Aa ρ a ss ((k,p,r)::l):=.cons e h1 c b h
def eqv {a:Nat->Int} {c x:Int} (b:ρ=a) (h:c=x) (p:Poly) (d:x=cQ a p:=by simp[cQ,uA]<;>omega):c=evP ρ p:=by rw[xV,h,d,b]
def rh (l:List Int):∃ρ:Nat->Int,ρ=fun i=>l.getD i 0:=⟨_,rfl⟩
def jT.e {p:Poly} {a b:Int} {l:List (Poly×Int×Int)} (h:jT ρ l) (h1:a<=cQ ρ p:=by first|(simp[cQ,uA]<;>omega)|omega) (c:cQ ρ p<=b:=by first|(simp[cQ,uA]<;>omega)|omega):jT ρ ((p,a,b)::l):=.cons h1 c h
abbrev Oj (b:Bk) (xs:List Int) (vs:List Value) (ss:List (List (List AV))) [g:ClS ss] (l:jH b.vars xs) (f:jT (fun i=>xs.getD i 0) b.facts) (d:kP (fun i=>xs.getD i 0) ss b.lens) (m:Aa (fun i=>xs.getD i 0) (fun i=>vs.getD i (.bool false)) ss b.gI) (j:wW (fun i=>xs.getD i 0) b.defs:=by exact .nil) (c:(vs.all Value.oneCell')=true:=by rfl) (e:b.kinds=[]:=by rfl) (k:∀t∈b.afj,ss.getD t.2.2 []=ss.getD t.1 []++ss.getD t.2.1 []:=by exact fun t h=>nomatch h):@Ev b :=
 apf b xs vs ss j l f (fun v a=>a0i.1 c v a) d m g.out e k
abbrev ev1 (b:Bk) (xs:List Int) (vs:List Value) (ss:List (List (List AV))) [g:ClS ss] (n:Aa (fun i=>xs.getD i 0) (fun i=>vs.getD i (.bool false)) ss b.gI) (k:wW (fun i=>xs.getD i 0) b.defs:=by exact .nil) (a:(vs.all Value.oneCell')=true:=by rfl) (f:b.kinds=[]:=by rfl) (l:∀t∈b.afj,ss.getD t.2.2 []=ss.getD t.1 []++ss.getD t.2.1 []:=by exact fun t h=>nomatch h) (m:jH b.vars xs:=by repeat (first|exact jH.nil|refine jH.c ?_ (by omega) (by omega))) (j:jT (fun i=>xs.getD i 0) b.facts:=by repeat (first|exact jT.nil|refine jT.e ?_)) (d:kP (fun i=>xs.getD i 0) ss b.lens:=by repeat (first|exact kP.nil|refine kP.c ?_)):@Ev b :=Oj b xs vs ss m j d n k a f l
def kc {b:Bk} {ev:@Ev b} {k:Nat} {a:List AV} {r:AV} {l:List (Nat×List AV×AV)} (h:CK P k xa' r') (d:@SB b ev P l) (e:a.map (@den b ev 12)=xa':=by rfl) (er:@den b ev 12 r=r':=by rfl) (c:mW 12 r=true:=by rfl):@SB b ev P ((k,a,r)::l):=anM b ev (CK.named b ev h e er c) d
def kn {b:Bk} {ev:@Ev b}:@SB b ev P []:=apa b ev
def CK.mN (b:Bk) (ev:@Ev b) {k:FuncId} (a:List AV) (r:AV) [g1:yO xa'] [g2:uD r'] (h:@Mq b P 100000 60 k a r=true) (f:@SB b ev P b.bR) (d:@aaq b ev P b.ext:=by exact amW _ _) (c:@aan b ev P b.yes:=by exact aly _ _) (i:a.map (@den b ev 12)=xa':=by rfl) (er:@den b ev 12 r=r':=by rfl) (e:a.all (mW 12)=true:=by rfl) (g:b.mS=[]:=by rfl):CK P k xa' r' :=
 CK.ahH b ev h d c f i er g1.out g2.out e g
def fmo {P:Prop} (h:P:=by simp only[a1o,a0b,false_imp_iff,implies_true,and_true];omega):P:=h
def jH.b {a b x:Int} {l:List (Int×Int)} {xs:List Int} (h:jH l xs) (c:a<=x/\x<=b):jH ((a,b)::l) (x::xs):=.cons c.1 c.2 h
def wW.Q {r p q:Poly} {x n:Int} {l:List (Nat×Poly×Poly×Poly)} (y:Int) (h:x=y/n) (k:wW ρ l) (a:cQ ρ r=x:=by first|exact lW _ _|simp[cQ,uA,a23]) (c:cQ ρ p=y:=by first|exact lW _ _|simp[cQ,uA,a23]) (b:cQ ρ q=n:=by first|exact agx _ _|exact lW _ _|simp[cQ,uA,a23]) (d:0<=y:=by omega):wW ρ ((0,p,q,r)::l):=.quo (ajY a c b d h) k
def wW.R {r p q:Poly} {x n:Int} {l:List (Nat×Poly×Poly×Poly)} (y:Int) (h:x=y%n) (k:wW ρ l) (a:cQ ρ r=x:=by first|exact lW _ _|simp[cQ,uA,a23]) (c:cQ ρ p=y:=by first|exact lW _ _|simp[cQ,uA,a23]) (b:cQ ρ q=n:=by first|exact agx _ _|exact lW _ _|simp[cQ,uA,a23]) (d:0<=y:=by omega):wW ρ ((1,p,q,r)::l):=.rem (ajU a c b d h) k
def cw (b:Bk) (ev:@Ev b) {k:FuncId} (a:List AV) (r:AV) [g1:yO xa'] [g2:uD r'] (f:@SB b ev P b.bR) (h:@Mq b P 100000 60 k a r=true:=by decide +kernel) (d:@aaq b ev P b.ext:=by exact amW _ _) (c:@aan b ev P b.yes:=by exact aly _ _) (i:a.map (@den b ev 12)=xa':=by rfl) (er:@den b ev 12 r=r':=by rfl) (e:a.all (mW 12)=true:=by rfl) (g:b.mS=[]:=by rfl):CK P k xa' r':=CK.ahH b ev h d c f i er g1.out g2.out e g
abbrev sT (S:bK) (l:List (List (List AV))):List (List (List AV)):=bD S.aD::aA S.weights::bF S.methods::bF S.cI::hH S.bB::dX S.aN::fM S.aH::l
abbrev vT (S:bK) (l:List Value):List Value:=.int .i64 S.bU::.int .i64 S.bT::.int .i64 S.done::l
end Mc
noncomputable abbrev uL (b:Bk) (c:Code) (N:Nat) (f:List AV) (t:List Mc.dC) (n:Nat):Option (RT Out):=@oG b Tryz.prog (@lG b Tryz.prog 100000 60) 100000 100 c (Ft.of N f) (LY t) n
noncomputable abbrev IF (b:Bk) (c:Option (RT Out)) (k:Nat) (N:Nat) (f:List AV) (t:List Mc.dC) (n:Nat):Option (RT Out):=@tW b Tryz.prog (@lG b Tryz.prog 100000 60) 100000 (oK c) (.exit k) (Ft.of N f) (LY t) n
def Np (v m:Int) (h1:0<m:=by omega) (a:m<=1099511627776:=by omega):Ck 14 [.i v,.i m] (.i (v%m)) :=
 ⟨bN (.c _) (bN (.c _) fY),.c _,@anK dK dN _ [.int .i64 v,.int .i64 m] _ fun w=>aj3 v m w h1 a⟩
def aE {xs:List Int} {i:Nat} {l:List dL} {now:Int} {closed:Bool} {bH:List dI} {cU:List Int} {aM:List (List Int)} {aZ down:List Int} {ahead:List EntC} (h:l[(xs.getD i 0).toNat]?=some ⟨⟨now,closed,bH,cU,aM,aZ,down⟩,ahead⟩):(bD l)[(cQ (fun k=>xs.getD k 0) [([i],1)]).toNat]?=some (zO now closed (bP bH) (aA cU) (bM aM) (aA aZ) (aA down) (bW ahead)):=rH (lW _ _) (aiu h)
def aI {xs:List Int} {i:Nat} {z:List Int} {v:Int} (h:z[(xs.getD i 0).toNat]?=some v):(aA z)[(cQ (fun k=>xs.getD k 0) [([i],1)]).toNat]?=some [.i v]:=rH (lW _ _) (adI h)
def aS {xs:List Int} {i:Nat} {z:List (List Int)} {v:List Int} (h:z[(xs.getD i 0).toNat]?=some v):(bF z)[(cQ (fun k=>xs.getD k 0) [([i],1)]).toNat]?=some [.lit 1 (aA v)]:=rH (lW _ _) (ail h)
def aR {xs:List Int} {i:Nat} {z:List (List Int)} {v:List Int} (h:z[(xs.getD i 0).toNat]?=some v):(bM z)[(cQ (fun k=>xs.getD k 0) [([i],1)]).toNat]?=some (jF v):=rH (lW _ _) (ajS h)
def aC {xs:List Int} {i:Nat} {z:List wU} {x:wU} (h:z[(xs.getD i 0).toNat]?=some x):(hH z)[(cQ (fun k=>xs.getD k 0) [([i],1)]).toNat]?=some [.i x.aU,.i x.item,.i x.loc,.i x.eU,.i x.value,.i x.wG,.i x.dQ,.i x.back]:=rH (lW _ _) (ao0 h)
def aV {xs:List Int} {i:Nat} {z:List kU} {x:kU} (h:z[(xs.getD i 0).toNat]?=some x):(dX z)[(cQ (fun k=>xs.getD k 0) [([i],1)]).toNat]?=some [.i x.aU,.i x.item,.i x.loc,.i x.eU,.i x.back,.i x.cost,.i x.bY,.i x.period,.c (.bool x.waits)]:=rH (lW _ _) (aoZ h)
def aT {xs:List Int} {i:Nat} {z:List Fh} {x:Fh} (h:z[(xs.getD i 0).toNat]?=some x):(fM z)[(cQ (fun k=>xs.getD k 0) [([i],1)]).toNat]?=some [.i x.src,.i x.dst,.i x.item,.i x.eU,.i x.value,.i x.bY]:=rH (lW _ _) (aos h)
def aP {p:Poly} {z:List dI} {x:dI} (h:z[(evP ρ p).toNat]?=some x):(bP z)[(cQ ρ p).toNat]?=some [.lit 3 (aO x.aX),.i x.p0,.i x.p1,.i x.p2]:=rH (xV ρ p).symm (ac7 h)
def az {z:List Int} {v:Int} (h:z[0]?=some v):(aA z)[(cQ ρ []).toNat]?=some [.i v]:=rH (x:=0) rfl (adI h)
abbrev tA:=List AV
abbrev tB:=List (List AV)
abbrev tC:=List (Poly×Int×Int)
abbrev tD:=List (Nat×Poly)
abbrev tE:=List (Nat×Poly×List AV)
abbrev tF:=List (Nat×List AV×AV)
abbrev tG:=List (Int×Int)
abbrev tH:=Nat×List AV×AV
abbrev tI:=Poly×Int×Int
abbrev tJ:=Nat×Poly×List AV
abbrev tK:=Nat×Poly×Poly×Poly
abbrev tN:=List (Nat×Poly×Poly×Poly)
abbrev tM:=List Mc.dC
abbrev Kgb:AV:=(.c (.bool false))
abbrev Kdq:tA:=[(.lit 3 []),.i 0,.i 0,.i 0]
abbrev Qe:AV:=(.lit 1 [[.i 0],[.i 0],[.i 0],[.i 0],[.i 0],[.i 0],[.i 0],[.i 0],[.i 0],[.i 0],[.i 0],[.i 0],[.i 0],[.i 0],[.i 0],[.i 0],[.i 0]])
abbrev Ho:tA:=[.i 0,.i 0,.i 0,.i 0,.i 0,.i 0,.i 0,.i 0,.i 0,.i 0,.i 0]
abbrev Ka:tA:=[.i 1,Kgb,(.lit 4 [Kdq,Kdq,Kdq,Kdq,Kdq,Kdq,Kdq,Kdq]),Qe,(.lit 11 [Ho,Ho,Ho,Ho]),(.lit 1 [[(.i (-1))],[(.i (-1))],[(.i (-1))],[(.i (-1))]]),(.lit 1 [[.i 0],[.i 0],[.i 0],[.i 0]]),(.lit 8 [])]
abbrev KfZ:AV:=(sN (.q 8 0) (.v 7))
abbrev DW:tH:=(89,[KfZ,.v 0,.v 1],(.i 0))
abbrev DZ:tH:=(89,[KfZ,.v 3,.v 1],(.i 0))
abbrev Dx:tA:=[KfZ,.v 0,.v 1,.v 2,.i 3,.v 4]
abbrev Kf0:AV:=(sN (.q 8 7) (.v 7))
abbrev Qr:tH:=(217,Dx,(.bG [Kf0,(.agg [.o 2,.v 14,.v 15]),.o 3,.i 0]))
abbrev KgU:AV:=(.e [([5],-1)])
abbrev Kfi:tA:=[.i 15,KgU]
abbrev Kfl:tA:=[.i 0,(.e [([14],-1)])]
abbrev QQ:tA:=[Kf0,.v 0,(.lit 2 [[.i 13,.v 5],Kfi,[.i 16,.v 14],Kfl])]
abbrev Kf1:AV:=(sN (.q 8 8) (.v 7))
abbrev KbD:AV:=(.bG [Kf1,.i 0])
abbrev Jz:tH:=(92,QQ,KbD)
abbrev U7:tA:=[Kf1,.v 3,(.lit 2 [[.i 12,.v 5],[.i 14,KgU]])]
abbrev Kf2:AV:=(sN (.q 8 9) (.v 7))
abbrev KbE:AV:=(.bG [Kf2,.i 0])
abbrev QL:tH:=(92,U7,KbE)
abbrev ZE:tA:=[Kf2,.v 0,.v 1,(.agg [.i 0,.i 0,.i 0,.i 0,.i 0,.i 0,.v 14,.i 0,.i 0,.i 0,.i 0])]
abbrev KfL:AV:=(sN (.q 8 10) (.v 7))
abbrev Kbl:AV:=(.bG [KfL,.i 0])
abbrev Kb:tF:=[DW,DZ,Qr,Jz,QL,(124,ZE,Kbl)]
abbrev YH:Mc.dC:=(.cells 31 10 [[.o 0,.o 1,.q 1 1,.q 1 2,.q 1 3,.q 8 0,.q 8 4,.q 9 5,.q 6 6,.o 2]])
abbrev H4:tB:=[[.i 0,.i 0,.emp,.emp,.emp,.emp,.emp,.emp,.emp,.i 0]]
abbrev V3:Mc.dC:=(.cells 31 10 H4)
abbrev Zo:Mc.dC:=(.cells 31 10 [[.o 0,.o 1,.q 1 1,.q 1 2,.q 1 3,(.cZ 76 8 3 [([0],1)]),.q 8 4,.q 9 5,.q 6 6,.o 2]])
abbrev Jg:Mc.dC:=(.sc 76 8 0 [([([1],1)],[.o 3,.o 4,(.cZ 161 4 4 [([2],2)]),(.cZ 3 1 5 [([],17)]),(.cZ 140 11 6 [([2],1)]),(.cZ 3 1 7 [([2],1)]),(.cZ 3 1 8 [([2],1)]),.q 8 12])] [] [([0],1)])
abbrev Kdf:Mc.dC:=(.sc 161 4 7 [] [] [([2],2)])
abbrev KdO:Mc.dC:=(.sc 3 1 8 [] [] [([],17)])
abbrev Kc4:Mc.dC:=(.sc 140 11 9 [] [] [([2],1)])
abbrev Kdj:Mc.dC:=(.sc 3 1 10 [] [] [([2],1)])
abbrev Kc:tM:=[YH,V3,Zo,Jg,Kdf,KdO,Kc4,Kdj,(.sc 3 1 13 [] [] [([2],1)]),(.sc 44 2 14 [] [] [([3],1)])]
abbrev Kd:tA:=[.i 1,Kgb,(.lit 4 [Kdq,Kdq,Kdq,Kdq,Kdq,Kdq]),Qe,(.lit 11 [Ho,Ho,Ho]),(.lit 1 [[(.i (-1))],[(.i (-1))],[(.i (-1))]]),(.lit 1 [[.i 0],[.i 0],[.i 0]]),(.lit 8 [])]
abbrev Kcf:tK:=(1,[([2],1)],[([],32)],[([3],1)])
abbrev Kcg:tK:=(0,[([2],1)],[([],32)],[([4],1)])
abbrev Kch:tK:=(1,[([4],1)],[([0],1)],[([5],1)])
abbrev KbU:tK:=(0,[([2],1)],[([],128)],[([6],1)])
abbrev Kci:tK:=(1,[([6],1)],[([1],1)],[([7],1)])
abbrev Kbt:tK:=(0,[([2],1)],[([],1024)],[([8],1)])
abbrev KcB:tK:=(1,[([8],1)],[([],8)],[([9],1)])
abbrev Kcj:tK:=(0,[([9],1)],[([],7)],[([10],1)])
abbrev Kbd:tK:=(0,[([2],1)],[([],8192)],[([11],1)])
abbrev Kbu:tK:=(1,[([11],1)],[([],24)],[([12],1)])
abbrev KaC:tK:=(0,[([2],1)],[([],196608)],[([13],1)])
abbrev Kbe:tK:=(1,[([13],1)],[([],900)],[([14],1)])
abbrev Kap:tK:=(0,[([2],1)],[([],7000000)],[([15],1)])
abbrev Kbv:tK:=(1,[([15],1)],[([],12)],[([16],1)])
abbrev Kgu:Poly:=[([],1),([12],1)]
abbrev BZ:tK:=(0,Kgu,[([],3)],[([17],1)])
abbrev Ke:tN:=[Kcf,Kcg,Kch,KbU,Kci,Kbt,KcB,Kcj,Kbd,Kbu,KaC,Kbe,Kap,Kbv,BZ]
abbrev Kf:tN:=[Kcf,Kcg,Kch,KbU,Kci,Kbt,KcB,Kcj,Kbd,Kbu,KaC,Kbe,Kap,Kbv,(0,Kgu,[([],8)],[([17],1)])]
abbrev Kg:tN:=[Kcf,Kcg,Kch,KbU,Kci,Kbt,KcB,Kcj,Kbd,Kbu,KaC,Kbe,Kap,Kbv,(1,[([14],1)],[([],60)],[([17],1)])]
abbrev KfI:tA:=[.i 0,.emp,.emp,.emp]
abbrev KaP:Mc.dC:=(.cells 38 4 [KfI])
abbrev Ka0:Mc.dC:=(.cells 86 1 [[Kgb]])
abbrev Kex:AV:=(.cZ 46 4 4 [([1],1)])
abbrev Hf:Mc.dC:=(.cells 38 4 [[.o 3,Kex,.emp,.emp]])
abbrev Kdo:Mc.dC:=(.sc 46 4 7 [] [] [([1],1)])
abbrev KgX:AV:=(.e [([2],-1)])
abbrev KgS:AV:=(.e [([3],-1)])
abbrev KgT:AV:=(.e [([4],-1)])
abbrev KgV:AV:=(.e [([6],-1)])
abbrev Kfw:tA:=[.i 0,KgV]
abbrev KgY:AV:=(.e [([7],-1)])
abbrev Ju:Mc.dC:=(.cells 44 2 [[.i 14,KgX],[.i 13,KgS],[.i 15,KgT],[.i 16,KgU],Kfw,[.i 12,KgY]])
abbrev Kgs:tA:=[KgX]
abbrev Kgp:tA:=[KgS]
abbrev Kgq:tA:=[KgT]
abbrev Kgr:tA:=[KgU]
abbrev Q2:tB:=[Kgs,Kgp,Kgq,Kgr,[KgV],[KgY]]
abbrev Kh:tM:=[YH,KaP,Ka0,Hf,Kdo,Ju,(.cells 3 1 Q2)]
abbrev Ki:tM:=[YH,KaP,Ka0,Hf,Kdo,Ju,(.cells 3 1 [Kgs,Kgp,Kgq,Kgr,[KgV]])]
abbrev Kj:tN:=[Kcf,Kcg,Kch,KbU,Kci,Kbt,KcB,Kcj,Kbd,Kbu,KaC,Kbe,Kap,Kbv]
abbrev Kk:tM:=[YH,KaP,Ka0,Hf,Kdo,Ju,(.cells 3 1 [Kgs,Kgp,Kgq,Kgr])]
abbrev Kl:tA:=[.i 1,Kgb,(.lit 4 [Kdq,Kdq,Kdq,Kdq]),Qe,(.lit 11 [Ho,Ho]),(.lit 1 [[(.i (-1))],[(.i (-1))]]),(.lit 1 [[.i 0],[.i 0]]),(.lit 8 [])]
abbrev Km:tM:=[YH,KaP,Ka0,Hf,Kdo,Ju,(.cells 3 1 [Kgs,Kgp,Kgq])]
abbrev Ko:tM:=[YH,KaP,Ka0,Hf,Kdo,Ju,(.cells 3 1 [Kgs,Kgp])]
abbrev Kp:tM:=[YH,KaP,Ka0,Hf,Kdo,Ju,(.cells 3 1 [Kgs])]
abbrev KgO:Mc.dC:=(.cells 3 1 [])
abbrev Kq:tM:=[YH,KaP,Ka0,Hf,Kdo,Ju,KgO]
abbrev G8:tA:=[.i 11,.i 0,.i 0,.i 0,.o 3,.i 0,.v 2,.i 0,.q 1 7]
abbrev Wl:Mc.dC:=(.cells 50 9 [G8])
abbrev W6:Mc.dC:=(.cells 110 8 [[.v 3,.v 4,.o 4,.o 5,.o 6,.o 7,.o 8,.o 9]])
abbrev Kr:tM:=[YH,Wl,V3,W6,(.cells 31 10 [[.o 0,.o 1,.q 1 1,.q 1 2,.q 1 3,.q 8 8,.q 8 4,.q 9 5,.q 6 6,.o 2]])]
abbrev Kar:AV:=(.agg [.o 1,.o 2,.q 1 1,.q 1 2,.q 1 3])
abbrev Wi:tA:=[.o 3,.o 4,.q 1 5,.q 1 6,.q 1 7,.q 8 4,.q 8 8,.q 9 9,.q 6 10,.o 5]
abbrev VA:AV:=(.agg Wi)
abbrev Ks:tF:=[(11,[.o 0],Kar),(10,[Kar,.q 1 0],VA),(9,[VA],(.agg [.o 6,.o 7,.q 1 12,.q 1 13,.q 1 14,.q 8 11,.q 8 15,.q 9 16,.q 6 17,.o 8]))]
abbrev KZ:tA:=[(.agg [.o 0,.o 1,.q 1 1,.q 1 2,(.seq 1 3 [([([0],1)],[(.seq 1 14 [([([1],1)],[.v 5])] [])])] []),.q 8 13,.q 8 4,.q 9 5,.q 6 6,.v 7]),.v 0,(.lit 2 [[.i 0,(.e [([15],1),([16],1)])],[.i 6,(.e [([15],-1),([16],-1)])]])]
abbrev Vp:AV:=(.agg [.o 0,.o 1,.q 1 1,.q 1 2,.q 1 15,.q 8 16,.q 8 4,.q 9 5,.q 6 6,.v 7])
abbrev Kt:tH:=(92,KZ,(.bG [Vp,.i 0]))
abbrev KdD:Mc.dC:=(.sc 3 1 0 [] [] [([0],1)])
abbrev Kdu:Mc.dC:=(.sc 3 1 1 [] [] [([0],1)])
abbrev Kdv:Mc.dC:=(.sc 3 1 2 [] [] [([0],1)])
abbrev KeT:AV:=(.cZ 3 1 1 [([0],1)])
abbrev KeU:AV:=(.cZ 3 1 2 [([0],1)])
abbrev KeV:AV:=(.cZ 3 1 3 [([0],1)])
abbrev JU:Mc.dC:=(.cells 128 2 [[(.ptr 4 0 0 0),KeT],[(.ptr 4 0 0 1),KeU],[(.ptr 4 0 0 2),KeV]])
abbrev KeY:tB:=[[.i 0,.i 0,.i 0,.i 0]]
abbrev KaI:Mc.dC:=(.cells 46 4 KeY)
abbrev Ku:tM:=[(.cells 46 4 [[.o 1,.i 0,.i 0,.o 0]]),KdD,Kdu,Kdv,JU,KaI]
abbrev Kv:tM:=[(.cells 46 4 [[.o 1,.o 2,.i 0,.o 0]]),KdD,Kdu,Kdv,JU,KaI]
abbrev Kw:tM:=[(.cells 46 4 [[.o 1,.o 2,.o 3,.o 0]]),KdD,Kdu,Kdv,JU,KaI]
abbrev Kx:tM:=[YH,KaP,Ka0,(.cells 38 4 [[.o 3,Kex,.q 2 8,(.cZ 3 1 5 [([3],1)])]]),Kdo,(.sc 3 1 9 [] [] [([3],1)])]
abbrev Ky:tM:=[YH,KaP,Ka0,(.cells 38 4 [[.o 3,Kex,.q 2 8,(.cZ 3 1 5 [([],17)])]]),Kdo,(.sc 3 1 9 [] [] [([],17)])]
abbrev KbZ:Mc.dC:=(.cells 101 3 [[.i 0,.i 0,.i 0]])
abbrev JS:Mc.dC:=(.cells 238 2 [[(.ptr 3 1 0 0),KeV],[(.ptr 3 1 0 1),(.cZ 3 1 4 [([0],1)])],[(.ptr 3 1 0 2),(.cZ 3 1 5 [([0],1)])]])
abbrev Kdw:Mc.dC:=(.sc 3 1 3 [] [] [([0],1)])
abbrev Kz:tM:=[KbZ,KbZ,JS,Kdu,Kdv,Kdw]
abbrev KA:tM:=[KbZ,(.cells 101 3 [[.o 0,.i 0,.i 0]]),JS,Kdu,Kdv,Kdw]
abbrev KB:tM:=[KbZ,(.cells 101 3 [[.o 0,.o 1,.i 0]]),JS,Kdu,Kdv,Kdw]
abbrev KgA:tA:=[.o 0,.o 1,.o 2]
abbrev Kb0:Mc.dC:=(.cells 101 3 [KgA])
abbrev KC:tM:=[KbZ,Kb0,JS,Kdu,Kdv,Kdw]
abbrev Kca:Mc.dC:=(.cells 101 3 [[.o 6,.o 7,.o 8]])
abbrev KgF:Poly:=[([],1),([2],1)]
abbrev Kag:Mc.dC:=(.sc 3 1 7 [] [[.v 1]] KgF)
abbrev Kgi:Poly:=[([3],1),([4],-1)]
abbrev KD:tM:=[YH,Kca,V3,Kag,(.sc 3 1 8 [] [[(.e Kgi)]] KgF)]
abbrev KE:tM:=[YH,Wl,V3,W6]
abbrev Gi:tH:=(149,[.v 16,.v 4,(.e [([14],1),([15],-1)])],(.v 19))
abbrev Gj:tH:=(149,[.v 17,.v 4,(.e [([14],1),([15],-1)])],(.v 20))
abbrev WC:tA:=[KfZ,.v 0,.v 1,.v 2,(.agg [.v 4,.v 19,.v 20])]
abbrev DR:AV:=(.bG [KfZ,.i 0,.i 0,.v 13])
abbrev KF:tF:=[DW,Gi,Gj,(145,WC,DR)]
abbrev Kev:AV:=(.cZ 46 4 3 [([0],1)])
abbrev Kdm:Mc.dC:=(.sc 46 4 7 [] [] [([0],1)])
abbrev KG:tM:=[YH,KaP,(.cells 38 4 [[.o 3,Kev,.q 2 8,(.cZ 3 1 4 [([3],1)])]]),Kdm,(.sc 3 1 9 [] [] [([3],1)])]
abbrev KH:tM:=[YH,KaP,(.cells 38 4 [[.o 3,Kev,.q 2 8,(.cZ 3 1 4 [([],17)])]]),Kdm,(.sc 3 1 9 [] [] [([],17)])]
abbrev Qs:Mc.dC:=(.cells 31 10 [[.o 0,.o 1,.q 1 1,.q 1 2,.q 1 3,(.cZ 76 8 1 [([0],1)]),.q 8 4,(.cZ 137 9 2 [([2],1)]),.q 6 6,.o 2]])
abbrev KJ:tM:=[Qs,(.sc 76 8 0 [] [] [([0],1)]),(.sc 137 9 7 [] [] [([2],1)]),V3]
abbrev KK:tM:=[YH,KaP,Ka0,Hf,Kdo]
abbrev Kb4:Mc.dC:=(.cells 101 3 [[.o 3,.o 4,.o 5]])
abbrev KdN:Mc.dC:=(.sc 3 1 7 [] [] [([1],1)])
abbrev KL:tM:=[YH,Kb4,V3,KdN,(.sc 137 9 10 [] [] [([0],1)])]
abbrev Kb7:tB:=[[.i 14],[.i 13],[.i 15],[.i 16]]
abbrev DE:Mc.dC:=(.cells 3 1 Kb7)
abbrev Kfg:tA:=[.i 14,KgS]
abbrev Kfh:tA:=[.i 13,KgT]
abbrev QZ:Mc.dC:=(.cells 44 2 [Kfg,Kfh,Kfi,[.i 16,KgV]])
abbrev KM:tM:=[YH,DE,QZ]
abbrev KdB:Mc.dC:=(.sc 3 1 7 [] [] [([2],1)])
abbrev KdC:Mc.dC:=(.sc 3 1 8 [] [] [([2],1)])
abbrev KN:tM:=[YH,Kca,V3,KdB,KdC]
abbrev KO:tM:=[YH,Kca,V3,KdN,(.sc 3 1 8 [] [] [([1],1)])]
abbrev Wm:tA:=[.o 0,.o 1,.q 1 1,.q 1 2,.q 1 3,.q 8 7,.q 8 4,.q 9 8,.q 6 6,.o 2]
abbrev KP:tM:=[YH,V3,(.cells 31 10 [Wm])]
abbrev KQ:tM:=[YH,KaI,KdB,KdC,(.sc 3 1 9 [] [] [([2],1)]),Kdj]
abbrev Kdy:Mc.dC:=(.sc 3 1 7 [] [] [([4],1)])
abbrev Kdz:Mc.dC:=(.sc 3 1 8 [] [] [([4],1)])
abbrev KdA:Mc.dC:=(.sc 3 1 9 [] [] [([4],1)])
abbrev KR:tM:=[YH,KaI,Kdy,Kdz,KdA,Kdj]
abbrev KfA:Mc.dC:=(.cells 3 1 [[.v 0]])
abbrev KT:tM:=[YH,KfA,KaI,Kdy,Kdz,KdA]
abbrev KU:tM:=[YH,KfA,KaI,KdB,KdC,(.sc 3 1 9 [] [] [([2],1)])]
abbrev KV:tM:=[YH,QZ,(.sc 3 1 7 [] [] [([7],1)])]
abbrev KW:tM:=[YH,DE,(.cells 44 2 [Kfg,Kfh,Kfi])]
abbrev KX:tM:=[YH,Wl,V3]
abbrev Kg3:Int×Int:=(0,1073741824)
abbrev Kfr:Int×Int:=(1,288230376151711744)
abbrev Kfs:Int×Int:=(0,288230376151711744)
abbrev Kab:Int×Int:=(-576460752303423488,576460752303423488)
abbrev KY:tG:=[(0,30),Kg3,Kfr,(0,3),(1,1),Kfs,Kfs,Kab,Kfs,Kfs,iK,Kfs]
abbrev K6:tM:=[YH,Kca,V3,KdN]
abbrev Kaq:AV:=(.agg [.o 0,.o 1,.q 1 0,.q 1 1,.q 1 2])
abbrev YS:tA:=[.o 0,.o 1,.q 1 0,.q 1 1,.q 1 2,.q 8 4,(.lit 8 []),(.lit 9 []),(.lit 6 []),.i 0]
abbrev Dp:tA:=[Kaq,.q 1 3]
abbrev K7:tF:=[(31,[Kaq],(.bG [(.agg YS),.i 0])),(32,Dp,(.q 9 5))]
abbrev K8:tM:=[YH,KaP,(.cells 38 4 [[.o 3,Kev,.emp,.emp]]),Kdm]
abbrev Kgv:Int×Int:=(0,1099511627775)
abbrev Kgw:Int×Int:=(0,1099511627776)
abbrev K9:tG:=[(2,3),(2,4),Kgv,(24,24),Kgw,(0,2),Kgw,(0,3),Kgw,(0,7),(0,1),Kgw,(0,23),Kgw,(0,899),Kgw,(0,11),(0,11),(0,2)]
abbrev KgW:AV:=(.e [([8],-1)])
abbrev KfX:AV:=(.bG [.q 2 8,.i 0])
abbrev Ja:tH:=(45,[(.lit 2 [[.i 14,KgX],[.i 13,KgS],[.i 15,KgT],[.i 16,KgU],Kfw,[.i 12,KgY],[.i 5,KgW]])],KfX)
abbrev Dq:Mc.dC:=(.cells 25 5 [[.o 0,.o 1,.q 1 0,.q 1 1,.q 1 2]])
abbrev Wh:tA:=[.o 2,.o 3,.q 1 4,.q 1 5,.q 1 6,.q 8 7,.q 8 8,.q 9 9,.q 6 10,.o 4]
abbrev Jb:tM:=[Dq,V3,(.cells 31 10 [Wh])]
abbrev Kg6:Int×Int:=(0,1073741823)
abbrev Jc:tG:=[Kg6,Kg3,Kg3,(0,3),Kg3,(0,6),Kg3,Kg3,(0,3),Kg3,(0,3),(0,39),(0,3),(0,39),(0,3),(0,39),(0,3),(0,39),(0,3),(0,39),(0,3),(0,39)]
abbrev Jd:tM:=[YH,DE,(.cells 44 2 [Kfg,Kfh])]
abbrev KaQ:tA:=[KfZ,.v 0,.v 1,.v 2]
abbrev KcY:AV:=(.agg [.q 3 8,.o 7,.o 8,.o 9])
abbrev Vq:tH:=(121,KaQ,KcY)
abbrev WF:tH:=(146,[KcY],(.agg [.v 17,.o 5,.o 6]))
abbrev HR:tH:=(149,[.v 18,(.e [([15],1),([16],-1)]),.v 15],(.v 19))
abbrev Je:tF:=[Vq,WF,HR]
abbrev JN:tA:=[(sN (.q 8 9) (.o 2)),.v 0,(.lit 2 [[.i 5,.v 6],[.i 7,.v 7],[.i 8,.v 8],Kfw,[.i 0,KgY],[.i 0,KgW]])]
abbrev KfR:AV:=(sN (.q 8 10) (.o 2))
abbrev Kbq:AV:=(.bG [KfR,.i 0])
abbrev Jf:tH:=(92,JN,Kbq)
abbrev KaY:Int×Int:=(-1125899906842624,1125899906842624)
abbrev Jh:tG:=[(1,5),(0,4),(0,40),KaY,KaY,KaY,KaY,(0,20),(0,3)]
abbrev Ji:tG:=[(1,4),(1,5),KaY,KaY,KaY,KaY,iK,iK,iK,(0,12)]
abbrev Ke6:AV:=(.agg [.i 0,.i 0,.i 0])
abbrev Uc:AV:=(.bG [KfZ,Ke6,Kgb,.v 13])
abbrev J7:tH:=(217,Dx,Uc)
abbrev Jj:tF:=[DW,J7]
abbrev Kb9:tH:=(149,[.v 18,.v 17,.v 15],(.v 19))
abbrev Jk:tF:=[Vq,WF,Kb9]
abbrev Jl:tM:=[YH,DE,(.cells 44 2 [Kfg])]
abbrev Jm:tA:=[Vp,.v 0,.v 1,(.agg [.i 0,.i 0,.i 0,.i 0,.i 0,.i 0,.i 0,.i 0,.i 0,.i 0,(.e [([15],1),([16],1)])])]
abbrev Jn:tG:=[(1,4),(1,5),KaY,KaY,KaY,KaY,iK,iK]
abbrev Kfb:AV:=(.agg [.v 5,.v 6,.v 7])
abbrev Wp:tH:=(215,[.q 3 0,.v 2],(.bG [.q 3 1,Kfb,.i 0]))
abbrev HI:tH:=(198,[.q 3 0],(.bG [(.agg [.v 8,.v 9,.v 10]),.i 0]))
abbrev Jo:tF:=[Wp,HI,(148,[.v 2,.v 1,.i 1],(.bG [.v 11,.o 3,.i 0]))]
abbrev Jp:tG:=[(1,5),(0,4),(0,40),KaY,KaY,KaY,KaY]
abbrev KfM:AV:=(sN (.q 8 13) (.v 7))
abbrev KgJ:AV:=(.e [([19],-1)])
abbrev ZN:AV:=(.lit 2 [[.i 4,.v 5],[.i 3,KgU],[.i 0,.v 21],[.i 6,.v 22],[.i 5,KgJ]])
abbrev Qj:tA:=[KfM,.v 0,ZN]
abbrev KfN:AV:=(sN (.q 8 14) (.v 7))
abbrev Jq:tH:=(92,Qj,(.bG [KfN,.i 0]))
abbrev Jr:tG:=[(0,3),(0,4),(0,1),Kfs,Kfs,Kfs,Kfs,Kfs,Kfs,(1,20)]
abbrev Qk:tA:=[Kf0,.v 0,ZN]
abbrev Js:tH:=(92,Qk,KbD)
abbrev Ked:tI:=([([6],-1),([8],1)],1,40)
abbrev HO:tI:=([([4],1),([14],-1),([18],1)],-1152921504606846976,0)
abbrev KbH:tI:=([([16],1)],1,1152921504606846976)
abbrev DY:tI:=([([4],1),([16],-1)],-1152921504606846976,0)
abbrev Jt:tC:=[Ked,HO,KbH,DY]
abbrev Keb:tI:=([([0],-1),([11],1)],1,4)
abbrev Kee:tI:=([([1],-1),([12],1)],1,5)
abbrev Hr:tI:=([([15],-1),([16],1),([17],1)],-1152921504606846976,-1)
abbrev KgM:tI:=([([14],1)],1,3)
abbrev Jv:tC:=[Keb,Kee,Hr,KgM,([([19],1)],1,1125899906842624)]
abbrev HQ:tI:=([([15],-1),([16],1),([17],1)],0,1152921504606846976)
abbrev Jw:tC:=[Keb,Kee,HQ,KgM,([([19],1)],1,1125899906842624)]
abbrev Kgm:AV:=(.c (.bool true))
abbrev Ud:tJ:=(5,[([6],1)],[.v 0,.v 1,.v 2,.v 14,.v 15,.v 16,.v 17,.v 18,Kgm])
abbrev Jx:tE:=[Ud,(0,[([0],1)],[.v 23,.o 2,.q 4 7,.q 1 8,.q 11 9,.q 1 10,.q 1 11,.q 8 12])]
abbrev Jy:tE:=[Ud,(0,[([0],1)],[.v 19,.o 2,.q 4 7,.q 1 8,.q 11 9,.q 1 10,.q 1 11,.q 8 12])]
abbrev JA:tM:=[YH,V3]
abbrev U2:tJ:=(0,[([1],1)],[.v 6,.o 9,.q 4 8,.q 1 9,.q 11 10,.q 1 11,.q 1 12,(.lit 8 [])])
abbrev JB:tE:=[(7,[([3],1)],[.v 4,.o 3,.o 4,.o 5,.o 6,.o 7,.o 8,.v 5,Kgm]),U2]
abbrev Ke7:Int×Int:=(1,9223372036854775807)
abbrev JC:tG:=[(0,30),Kfs,Kfs,Kfs,Kfs,Kfs,iK,Ke7]
abbrev JD:AV:=(.bG [(.agg [(.lit 3 [[(.e [([2],(-1)),([8],1)]),.i 0,(.e [([7],(-1)),([10],1)])]]),.o 0,.o 1,.o 2]),(.agg [.v 5,.v 9,.v 7]),Kgb,.i 0])
abbrev JE:tG:=[(0,30),Kfs,Kfs,Kfs,Kfs,Kfs,iK,Kfr]
abbrev Q1:tA:=[Kf0,.v 0,(.lit 2 [[.i 3,.v 5],[.i 4,KgU],[.i 5,.v 14],Kfl])]
abbrev JF:tH:=(92,Q1,KbD)
abbrev Kf7:Poly:=[([4],1),([15],-1)]
abbrev Bn:tI:=(Kf7,1,1152921504606846976)
abbrev Kbn:tI:=([([16],1)],-1152921504606846976,0)
abbrev JG:tC:=[Keb,Kee,KgM,Bn,Kbn]
abbrev JH:tC:=[Keb,Kee,KgM,Bn,KbH]
abbrev JI:tM:=[YH,DE,(.cells 44 2 [])]
abbrev Q7:tA:=[Kf0,.v 0,(.lit 2 [[.i 1,.v 20],[.i 6,(.e [([19],1),([20],-1)])],[.i 0,KgJ]])]
abbrev JJ:tH:=(92,Q7,KbD)
abbrev Q8:tA:=[Kf0,.v 0,(.lit 2 [[.i 2,.v 20],[.i 6,(.e [([19],1),([20],-1)])],[.i 0,KgJ]])]
abbrev JK:tH:=(92,Q8,KbD)
abbrev Kad:Mc.dC:=(.cells 161 4 [[.q 3 0,.o 0,.o 1,.o 2]])
abbrev Kaz:Mc.dC:=(.cells 161 4 [[.emp,.i 0,.i 0,.i 0]])
abbrev JL:tM:=[Kad,Kaz,(.sc 101 3 1 [] [] [([0],1)]),Kb4]
abbrev D7:tA:=[(.lit 1 [[.v 17],[.v 18],[.v 19],[.v 20]])]
abbrev JM:AV:=(.lit 1 [D7,[(.lit 1 [[.v 21],[.v 22],[.v 23],[.v 24]])],[(.lit 1 [[.v 25],[.v 26],[.v 27],[.v 28]])]])
abbrev Zw:tA:=[KfL,.v 0,.v 1,(.agg [.i 0,.i 0,.v 19,.i 0,.i 0,.i 0,.i 0,.i 0,.i 0,.i 0,.i 0])]
abbrev KfP:AV:=(sN (.q 8 11) (.v 7))
abbrev Ka3:AV:=(.bG [KfP,.v 13])
abbrev JO:tH:=(124,Zw,Ka3)
abbrev KdF:Mc.dC:=(.sc 3 1 7 [] [] [([3],1)])
abbrev JP:tM:=[YH,KdF,KdC]
abbrev Kbo:AV:=(.bG [KfP,.i 0])
abbrev JQ:tH:=(124,Zw,Kbo)
abbrev Kah:tA:=[(.lit 1 [[.v 5],[.v 6],[.v 7],[.v 8]])]
abbrev Bu:tA:=[(.lit 1 [[.v 9],[.v 10],[.v 11],[.v 12]])]
abbrev D6:tA:=[(.lit 1 [[.v 13],[.v 14],[.v 15],[.v 16]])]
abbrev JR:AV:=(.lit 1 [Kah,Bu,D6])
abbrev Ke5:AV:=(.cZ 3 1 2 [([4],1)])
abbrev KeZ:AV:=(.cZ 3 1 3 [([4],1)])
abbrev JT:Mc.dC:=(.cells 128 2 [[(.ptr 4 0 0 0),(.cZ 3 1 1 [([4],1)])],[(.ptr 4 0 0 1),Ke5],[(.ptr 4 0 0 2),KeZ]])
abbrev ZD:tA:=[Kf1,.v 0,.v 1,(.agg [.i 0,.i 0,.i 0,.i 0,.i 0,.i 0,.i 0,.v 19,.i 0,.i 0,.i 0])]
abbrev Kbj:AV:=(.bG [Kf1,.v 13])
abbrev JV:tH:=(124,ZD,Kbj)
abbrev JW:tH:=(124,ZD,KbE)
abbrev V8:tA:=[KfZ,.v 0,.v 1,.v 2,.i 2,(.e [([4],-1),([15],1)])]
abbrev Key:AV:=(.agg [.o 2,.v 16,.o 3])
abbrev JX:tH:=(217,V8,(.bG [Kf2,Key,.o 4,.i 0]))
abbrev Kec:tI:=([([6],-1),([9],1)],1,40)
abbrev HN:tI:=([([4],1),([14],-1),([15],1)],-1152921504606846976,0)
abbrev JY:tC:=[Kec,HN,Keb,([([18],-1),([23],1)],1,200)]
abbrev Kez:AV:=(.e Kf7)
abbrev YI:tA:=[KfZ,.v 0,.v 1,.v 2,(.agg [Kez,.v 19,.i 0])]
abbrev JZ:tH:=(145,YI,(.bG [KfL,.v 20,.v 21,.i 0]))
abbrev YJ:tA:=[KfZ,.v 0,.v 1,.v 2,(.agg [Kez,.v 18,.i 0])]
abbrev J0:tH:=(145,YJ,(.bG [Kf2,.v 19,.v 20,.i 0]))
abbrev KfT:AV:=(sN (.q 8 0) (.o 2))
abbrev D5:tH:=(89,[KfT,.v 3,.v 4],(.i 0))
abbrev KbL:tA:=[KfT,.q 1 7,.o 3]
abbrev Di:tH:=(28,KbL,(.q 1 8))
abbrev J1:tF:=[D5,Di,(90,[.v 2,.q 1 8],(.bG [.q 1 9,.i 0]))]
abbrev J2:tC:=[Kec,HN,Keb,([([18],-1),([19],1)],0,0)]
abbrev YN:tA:=[KfZ,.v 0,.v 1,.v 2,(.agg [Kez,.i 0,.i 0])]
abbrev J3:tH:=(145,YN,(.bG [Kf2,.v 18,.v 19,.i 0]))
abbrev J4:tM:=[KbZ,Kb0,(.cells 101 3 [[.v 4,.v 5,.v 6]]),(.sc 101 3 1 [] [] [([3],1)])]
abbrev J5:tM:=[KbZ,Kb0,Kb4,(.sc 101 3 1 [] [] [([2],1)])]
abbrev J6:tA:=[.o 0,.o 1,.q 1 1,.q 1 2,.q 1 3,.q 8 0,.q 8 4,.q 9 5,.q 6 6,.o 2,.o 3,.o 4,.q 1 8,.q 1 9,.q 1 10,.q 8 7,.q 8 11,.q 9 12,.q 6 13,.o 5]
abbrev J8:tH:=(122,[(.agg [.q 3 7,.v 3,.v 4,.v 5])],(.bG [(.agg [.q 3 8,.i 0,.i 0,.i 0]),(.agg [.o 3,.v 6,.o 4,.o 5,.v 7,.o 6,.o 7,.v 8,.o 8])]))
abbrev Wz:tH:=(215,[.q 3 0,.v 0],(.bG [.q 3 1,(.agg KgA),.o 3]))
abbrev WA:tH:=(215,[.q 3 1,.v 1],(.bG [.q 3 2,(.agg [.o 4,.o 5,.o 6]),.o 7]))
abbrev J9:tF:=[Wz,WA]
abbrev Kg9:Nat×Poly:=(1,[([1],1)])
abbrev Kha:Nat×Poly:=(0,[([2],1)])
abbrev Khb:Nat×Poly:=(6,[([3],1)])
abbrev Khc:Nat×Poly:=(7,[([4],1)])
abbrev Khd:Nat×Poly:=(8,[([4],1)])
abbrev Khe:Nat×Poly:=(9,[([4],1)])
abbrev Qa:tD:=[Kg9,Kha,Khb,Khc,Khd,Khe,(14,[([1],1)]),(20,[([1],1)]),(26,[([1],1)])]
abbrev Z6:tA:=[KfL,.v 0,(.lit 2 [[.i 0,.v 20],[.i 6,.v 21],[.i 8,KgJ]])]
abbrev Qb:tH:=(92,Z6,Kbo)
abbrev Z5:tA:=[Kf0,.v 0,(.lit 2 [[.i 0,.v 19],[.i 6,.v 20],[.i 12,(.e [([17],-1)])]])]
abbrev Qc:tH:=(92,Z5,KbD)
abbrev Yc:tA:=[Kf2,.v 0,(.lit 2 [[.i 0,.v 19],[.i 6,.v 20],[.i 8,(.e [([18],-1)])]])]
abbrev Qd:tH:=(92,Yc,Kbl)
abbrev Yj:tA:=[Kf0,.v 0,(.lit 2 [[.i 0,.v 14],[.i 6,.v 15],[.i 1,KgU]])]
abbrev Qf:tH:=(92,Yj,KbD)
abbrev KgB:Poly:=[([],1),([1],1)]
abbrev Qg:tM:=[YH,(.sc 3 1 8 [] [[.i 0]] KgB)]
abbrev KcC:AV:=(.agg [.q 3 15,.o 5,.o 6,.o 7])
abbrev V6:tA:=[.v 4,.v 5,KcC,(.agg [.o 8,.v 7,.o 9])]
abbrev KcD:AV:=(.agg [.q 3 16,.o 5,.o 6,.o 7])
abbrev Qh:tH:=(196,V6,(.bG [KcD,.v 8,.i 0]))
abbrev Yv:tA:=[Kf1,.v 0,(.lit 2 [[.i 0,(.e [([14],1),([16],-1)])],[.i 6,.v 15]])]
abbrev Qi:tH:=(92,Yv,KbE)
abbrev Gv:tA:=[.o 9,.o 10,.o 11,.v 3,.v 4,.o 12,.o 13,.o 14,.o 15]
abbrev ZG:tA:=[KfT,(.agg Gv),.o 3,.o 4,.o 5]
abbrev Ql:tF:=[(180,ZG,Kgm)]
abbrev Qm:tM:=[YH,KaP]
abbrev Qn:tG:=[(1,4),Kfs,Kfs,Kfs,Kg3,Kfs,iK,iK]
abbrev Kba:tA:=[(.lit 1 [[.v 13],[.v 14],[.v 15]])]
abbrev Qo:AV:=(.lit 1 [Kba,[(.lit 1 [[.v 16],[.v 17],[.v 18]])],[(.lit 1 [[.v 19],[.v 20],[.v 21]])]])
abbrev Qp:tM:=[KbZ,Kdu,Kdv,Kdw]
abbrev Qq:tG:=[(0,30),nB,(0,3),(0,30),Kfs,Kfs,Kab,(1,20)]
abbrev Qt:AV:=(.lit 1 Q2)
abbrev Du:tA:=[KfZ,.v 0,.v 1,.v 2,.i 0,.v 4]
abbrev Wq:AV:=(.bG [Kf0,(.agg [.o 2,.v 14,.o 3]),.o 4,.i 0])
abbrev Qu:tH:=(217,Du,Wq)
abbrev Dw:tA:=[KfZ,.v 0,.v 1,.v 2,.i 1,.v 4]
abbrev Qv:tH:=(217,Dw,Wq)
abbrev Qw:tH:=(217,Dx,(.bG [Kf0,Key,.o 4,.i 0]))
abbrev Qx:tH:=(217,Dx,(.bG [Kf0,(.agg [.o 2,.v 19,.o 3]),.o 4,.i 0]))
abbrev Qy:tA:=[Kf2,.v 0,.v 1,(.agg [.i 0,.i 0,.i 0,.i 0,.i 0,.i 0,.i 0,.i 0,.i 0,.i 0,(.e [([14],1),([16],-1)])])]
abbrev Qz:tH:=(145,WC,(.bG [KfM,.v 21,.v 22,.i 0]))
abbrev QA:tC:=[Ked,HO,Kbn]
abbrev UP:tA:=[Kf2,.v 0,(.lit 2 [[.i 0,.v 18],[.i 6,.v 19],[.i 8,.i 0]])]
abbrev QC:tH:=(92,UP,Kbl)
abbrev Kg7:Nat×Poly:=(0,[([0],1)])
abbrev Khk:Nat×Poly:=(8,[([],17)])
abbrev Khh:Nat×Poly:=(9,[([2],1)])
abbrev QD:tD:=[Kg7,(7,[([2],2)]),Khk,Khh,(10,[([2],1)]),(11,[([2],1)]),(13,[([2],1)]),(14,[([3],1)])]
abbrev QE:tH:=(145,WC,(.bG [Kf0,.v 21,.v 22,.i 0]))
abbrev WE:tA:=[KfZ,.v 0,.v 1,.v 2,(.agg [.v 4,.v 17,.v 18])]
abbrev QG:tH:=(145,WE,(.bG [Kf0,.v 19,.v 20,.i 0]))
abbrev U8:tA:=[Kf2,.v 0,(.lit 2 [[.i 8,.v 16],[.i 0,(.e [([16],-1)])]])]
abbrev QH:tH:=(92,U8,Kbl)
abbrev QI:tD:=[Kg9,Kha,Khb,Khc,Khd,Khe,(14,[([1],1)]),(20,[([1],1)])]
abbrev U5:tA:=[Kf0,.v 0,(.lit 2 [[.i 7,.v 14],Kfl])]
abbrev QJ:tH:=(92,U5,KbD)
abbrev QK:tH:=(145,[Kf0,.v 0,.v 1,.v 3,Key],(.bG [Kf1,.v 14,.v 15,.i 0]))
abbrev Kcb:tA:=[(.lit 1 [[.v 4],[.v 5],[.v 6]])]
abbrev Kcc:tA:=[(.lit 1 [[.v 7],[.v 8],[.v 9]])]
abbrev Ka9:tA:=[(.lit 1 [[.v 10],[.v 11],[.v 12]])]
abbrev QM:AV:=(.lit 1 [Kcb,Kcc,Ka9])
abbrev WO:tA:=[KfZ,.v 0,.v 1,.v 2,(.agg [.v 4,.v 5,.i 0])]
abbrev QN:tH:=(145,WO,(.bG [Kf0,.v 14,.v 15,.i 0]))
abbrev QO:tG:=[(1,4),Kfs,Kfs,Kfs,Kg3,Kfs]
abbrev KgL:tI:=([([14],1)],4,4)
abbrev QP:tC:=[Keb,Kee,KgL,Bn]
abbrev QR:tG:=[(0,30),nB,(0,3),(0,30),Kfs,Kfs,Kab]
abbrev QS:tM:=[YH,(.sc 3 1 7 [] [] [([0],1)])]
abbrev QT:tM:=[YH,KdF]
abbrev QU:tM:=[YH,(.sc 3 1 8 [] [] [([0],1)])]
abbrev QV:tM:=[YH,(.sc 3 1 8 [] [] [([1],1)])]
abbrev QW:tA:=[(sN (.seq 8 0 [([([1],1)],[.o 3,.o 4,.q 4 7,.q 1 8,.q 11 9,.q 1 10,.q 1 13,.q 8 12])] []) (.o 2)),.v 1,.q 2 14]
abbrev KeI:tA:=[(.e [([],1),([10],1)])]
abbrev KeJ:tA:=[(.e Kgu)]
abbrev KeK:tA:=[(.e [([],1),([14],1)])]
abbrev KeL:tA:=[(.e [([],1),([16],1)])]
abbrev QX:tA:=[(.lit 1 [KeI,KeJ,KeK,KeL])]
abbrev KeM:tA:=[(.e [([],1),([18],1)])]
abbrev KeN:tA:=[(.e [([],1),([20],1)])]
abbrev QY:tA:=[(.lit 1 [KeM,KeN,[(.e [([],1),([22],1)])],[(.e [([],1),([24],1)])]])]
abbrev Kea:tI:=([([2],1),([5],-1)],1,12)
abbrev Q0:tC:=[Kea,([([3],-1),([6],1)],0,0),([([4],1),([7],1)],-288230376151711744,288230376151711744)]
abbrev KfW:Int×Int:=(0,1125899906842624)
abbrev Q3:tG:=[Kg3,KfW,Kg3,KfW,Kg3,KfW]
abbrev Q4:tA:=[KfP,.v 0,.v 1,(.agg [.i 0,.i 0,.i 0,.i 0,.i 0,.i 0,.i 0,.i 0,.i 0,(.e [([20],-1)]),.i 0])]
abbrev Q5:tA:=[KfL,.v 0,.v 1,(.agg [.i 0,.i 0,.i 0,.i 0,.i 0,.i 0,.i 0,.i 0,.i 0,KgJ,.i 0])]
abbrev Q6:tA:=[KfL,.v 0,.v 1,(.agg [.i 0,.i 0,.i 0,.i 0,.i 0,.i 0,.i 0,.i 0,.i 0,(.e [([18],-1)]),.i 0])]
abbrev G9:tA:=[.o 10,.o 11,.o 12,.o 13,.o 14,.o 15,.o 16,.o 17]
abbrev Q9:tE:=[(7,[([5],1)],[.v 6]),(4,[([6],1)],G9),(9,[([5],1)],[.o 18])]
abbrev Za:tG:=[(0,30),Kfr,(0,29),(0,29),Kfs,iK,iK,Kfr,iK,iK]
abbrev Zb:tA:=[KfT,.v 0,.v 2,(.agg [.o 16,.o 17,.o 18,.o 19,.o 20,.o 21,.o 22,.o 23,.o 24,.o 25,.o 26])]
abbrev Zc:tG:=[(1,4),Kfs,Kfs,Kfs,Kfs,iK,iK]
abbrev KfQ:AV:=(.e [([],1),([0],1)])
abbrev Zd:AV:=(.bG [(.agg [.o 8,.o 9,.q 1 8,.q 1 9,.q 1 10,.q 8 7,.q 8 11,.q 9 12,.q 6 13,KfQ]),.i 0])
abbrev Ze:AV:=(.bG [(.agg [.o 6,.o 7,.q 1 8,.q 1 9,.q 1 10,.q 8 7,.q 8 11,.q 9 12,.q 6 13,KfQ]),.i 0])
abbrev Zf:AV:=(.bG [(.agg [.o 7,.o 8,.q 1 8,.q 1 9,.q 1 10,.q 8 7,.q 8 11,.q 9 12,.q 6 13,KfQ]),.i 0])
abbrev Zg:AV:=(.bG [(.agg [.o 4,.o 5,.q 1 8,.q 1 9,.q 1 10,.q 8 7,.q 8 11,.q 9 12,.q 6 13,KfQ]),.i 0])
abbrev Zh:tA:=[KfZ,.v 0,(.lit 2 [[.i 1,.v 19],[.i 6,(.e [([5],1),([19],-1)])],[.i 2,KgU]])]
abbrev Zi:tA:=[(sN (.q 8 8) (.o 2)),.v 3,(.lit 2 [[.i 0,.v 5],[.i 9,(.e [([2],1),([5],-1)])],[.i 2,KgX]])]
abbrev Zj:tA:=[KfT,(.agg [.v 5,.v 6,.v 7,.o 5,.o 6,.o 7,.o 8,.v 8,Kgm]),.v 1,.v 2,.v 3]
abbrev Kg4:Int×Int:=(1,1073741824)
abbrev Zk:tG:=[(1,4),Kg4,Kg3,Kfs,KfW,KfW]
abbrev Khf:Nat×Poly:=(7,[([2],1)])
abbrev Khg:Nat×Poly:=(8,[([2],1)])
abbrev Zl:tD:=[Kg9,Kha,Khb,Khf,Khg,Khh,(10,[([2],1)])]
abbrev Zm:tD:=[Kg9,Kha,Khb,Khc,Khd,Khe,(10,[([2],1)])]
abbrev Zn:tM:=[YH,KgO]
abbrev Zp:AV:=(.lit 1 [D6,D7])
abbrev KaV:AV:=(.agg [.o 6,.q 4 14,.q 2 15,.q 1 16])
abbrev Zq:tH:=(18,[KaV,KaV],Kgm)
abbrev Zr:tC:=[Keb,Kee,(Kf7,-1152921504606846976,-1)]
abbrev Zs:tG:=[(1,4),Kfs,Kfs,Kfs,Kfs]
abbrev Wr:AV:=(.agg [.i 0,.i 0,.i 0,.i 0,.v 21,.i 0,.i 0,.i 0,.i 0,.i 0,.i 0])
abbrev Zt:tA:=[KfN,.v 0,.v 1,Wr]
abbrev Zu:tA:=[KfL,.v 0,.v 1,(.agg [.i 0,.i 0,.i 0,.i 0,.i 0,.i 0,.i 0,.i 0,.i 0,.v 16,.i 0])]
abbrev Zv:tH:=(123,[KfL,.v 0,.v 1,.i 1,(.agg [.q 3 12,.o 5,.o 6,.o 7])],KfM)
abbrev KfG:AV:=(sN (.q 8 17) (.o 2))
abbrev Zx:tH:=(123,[KfT,.v 0,.v 2,.v 6,KcD],KfG)
abbrev Zy:tA:=[Kf1,.v 0,.v 1,(.agg [.i 0,.v 14,.i 0,.i 0,.i 0,.i 0,.i 0,.i 0,.i 0,.i 0,.i 0])]
abbrev Zz:tA:=[Kf1,.v 0,.v 1,(.agg [.i 0,.i 0,.i 0,.i 0,.i 0,.v 14,.i 0,.i 0,.i 0,.i 0,.i 0])]
abbrev ZA:tA:=[Kf1,.v 0,.v 1,(.agg [.i 0,.i 0,.i 0,.i 0,.i 0,.i 0,.i 0,.i 0,.v 14,.i 0,.i 0])]
abbrev ZB:tA:=[Kf1,.v 0,.v 1,Wr]
abbrev ZC:tH:=(123,[KfZ,.v 0,.v 1,.v 2,(.agg [.q 3 13,.o 6,.o 4,.o 5])],KfN)
abbrev ZF:tA:=[Kf1,.v 0,.v 1,(.agg [.i 0,.i 0,.i 0,.v 19,.i 0,.i 0,.i 0,.i 0,.i 0,.i 0,.i 0])]
abbrev ZH:tA:=[KfR,.v 0,.v 1,(.agg [.i 0,.i 0,.i 0,.i 0,.i 0,.v 6,.i 0,.i 0,.v 7,.v 8,.i 0])]
abbrev ZI:tG:=[Kg3,KfW,Kg3,KfW,Kg3,iK,iK]
abbrev ZJ:tH:=(123,[KfZ,.v 0,.v 1,.i 0,(.agg [.q 3 9,.o 2,.o 3,.o 4])],KfL)
abbrev D4:tA:=[.v 14,KcY,.v 19]
abbrev KcZ:AV:=(.agg [.q 3 9,.o 7,.o 8,.o 9])
abbrev ZK:tH:=(150,D4,(.bG [KcZ,.v 13]))
abbrev ZL:tH:=(123,[KfZ,.v 0,.v 1,.v 2,KcZ],KfL)
abbrev ZM:AV:=(.lit 1 [[(.lit 1 [[.v 9],[.v 10]])],[(.lit 1 [[.v 11],[.v 12]])],[(.lit 1 [[.v 13],[.v 14]])]])
abbrev KcG:AV:=(.agg [.q 3 13,.o 3,.o 4,.o 5])
abbrev Bl:tA:=[KcG,.i 0,.v 4]
abbrev ZO:tH:=(218,Bl,(.bG [(.agg [.q 3 13,.o 6,.o 4,.o 5]),.i 0]))
abbrev ZP:tH:=(150,D4,(.bG [KcZ,.i 0]))
abbrev ZQ:tH:=(123,[KfT,.v 0,.v 1,.v 2,(.agg [.q 3 8,.i 0,.i 0,.i 0])],(sN (.q 8 9) (.o 2)))
abbrev ZR:AV:=(.lit 1 [Kah,Bu])
abbrev ZS:tG:=[Kg3,KfW,Kg3,KfW,Kg3,iK]
abbrev Kfx:tJ:=(2,[([0],1)],[.q 1 7])
abbrev KfO:tJ:=(7,[([1],1)],[.v 14])
abbrev ZT:tE:=[Kfx,KfO,(3,[([0],1)],[.q 1 14]),(14,[([1],1)],[.o 8])]
abbrev ZU:tE:=[Kfx,KfO,(3,[([0],1)],[.q 1 8]),(8,[([1],1)],[.v 18])]
abbrev ZV:tE:=[(0,[([1],1)],[.o 3,Kgb,.q 4 7,.q 1 8,.q 11 9,.q 1 10,.q 1 11,(.lit 8 [])])]
abbrev ZW:AV:=(.lit 1 [[(.lit 1 [[.v 3],[.v 4]])],[(.lit 1 [[.v 5],[.v 6]])],[(.lit 1 [[.v 7],[.v 8]])]])
abbrev ZX:AV:=(.bG [(.agg [.o 8,.o 9,.q 1 8,.q 1 9,.q 1 10,.q 8 7,.q 8 11,.q 9 12,.q 6 13,.v 0]),.i 0])
abbrev ZY:AV:=(.bG [(.agg [.o 8,.o 9,.q 1 8,.q 1 9,.q 1 10,.q 8 7,.q 8 11,.q 9 12,.q 6 13,.v 1]),.v 0])
abbrev ZZ:AV:=(.bG [(.agg [.o 6,.o 7,.q 1 8,.q 1 9,.q 1 10,.q 8 7,.q 8 11,.q 9 12,.q 6 13,.v 0]),.i 0])
abbrev Z0:AV:=(.bG [(.agg [.o 6,.o 7,.q 1 8,.q 1 9,.q 1 10,.q 8 7,.q 8 11,.q 9 12,.q 6 13,.v 1]),.v 0])
abbrev Z1:AV:=(.bG [(.agg [.o 7,.o 8,.q 1 8,.q 1 9,.q 1 10,.q 8 7,.q 8 11,.q 9 12,.q 6 13,.v 0]),.i 0])
abbrev Z2:AV:=(.bG [(.agg [.o 7,.o 8,.q 1 8,.q 1 9,.q 1 10,.q 8 7,.q 8 11,.q 9 12,.q 6 13,.v 1]),.v 0])
abbrev Z3:AV:=(.bG [(.agg [.o 4,.o 5,.q 1 8,.q 1 9,.q 1 10,.q 8 7,.q 8 11,.q 9 12,.q 6 13,.v 0]),.i 0])
abbrev Z4:AV:=(.bG [(.agg [.o 4,.o 5,.q 1 8,.q 1 9,.q 1 10,.q 8 7,.q 8 11,.q 9 12,.q 6 13,.v 1]),.v 0])
abbrev Z7:tG:=[(1,4),Kab,Kab]
abbrev VF:AV:=(.agg Wm)
abbrev Z8:tA:=[VF,.v 1,.v 3,.v 4]
abbrev KfC:AV:=(.e [([],1),([5],1)])
abbrev Kfo:tA:=[KfC]
abbrev Z9:AV:=(.lit 1 [[.v 5],Kfo,[(.e [([],2),([5],1)])],[(.e [([],3),([5],1)])]])
abbrev Bv:Mc.dC:=(.cells 38 4 [[.v 0,.q 4 0,.q 2 1,.q 1 2]])
abbrev Ya:tM:=[Bv,Bv]
abbrev Yb:tG:=[Kg3,KfW,Kg3,KfW,Kg3]
abbrev Yd:AV:=(.bG [(.agg [.o 0,.o 1,.q 1 1,.q 1 2,.q 1 15,.q 8 17,.q 8 4,.q 9 5,.q 6 6,.v 7]),.i 0])
abbrev Ye:AV:=(.bG [(.agg [.o 0,.o 1,.q 1 1,.q 1 2,.q 1 3,.q 8 11,.q 8 4,.q 9 12,.q 6 6,.o 2]),.i 0])
abbrev KcR:AV:=(.agg [.q 3 1,.o 0,.o 1,.o 2])
abbrev Kfa:AV:=(.agg [.v 4,.v 5,.v 6])
abbrev Yf:AV:=(.bG [KcR,Kfa,Kgb,.i 0])
abbrev KcQ:AV:=(.agg [.q 3 0,.o 0,.o 1,.o 2])
abbrev Yg:AV:=(.bG [KcQ,Ke6,Kgb,.v 7])
abbrev Yh:AV:=(.bG [KcQ,Ke6,Kgb,.i 1])
abbrev KcS:AV:=(.agg [.q 3 0,.v 1,.v 2,.v 3])
abbrev Yi:AV:=(.bG [KcS,Ke6,Kgb,.i 5])
abbrev Yk:tD:=[Kg7,(7,[([2],2)]),Khk,Khh,(10,[([2],1)]),(11,[([2],1)])]
abbrev Yl:tA:=[(.lit 1 [KeI,KeJ,KeK])]
abbrev Ym:tA:=[(.lit 1 [KeL,KeM,KeN])]
abbrev Yn:tJ:=(0,[([],1)],[.v 1,Kgm,.q 4 13,.q 1 14,.q 11 15,.q 1 16,.q 1 17,.q 8 18])
abbrev Yo:tJ:=(0,[([],2)],[.v 2,Kgm,.q 4 19,.q 1 20,.q 11 21,.q 1 22,.q 1 23,.q 8 24])
abbrev VS:tA:=[.o 3,Kgm,.q 4 7,.q 1 8,.q 11 9,.q 1 10,.q 1 11,.q 8 12]
abbrev Yu:tJ:=(0,[([1],1)],VS)
abbrev Yp:tE:=[Yu]
abbrev Yq:tD:=[Kg9,Kha,Khb,Khc,Khd,Khe]
abbrev Yr:tD:=[Kg9,Kha,Khb,Khf,Khg,Khh]
abbrev Ys:tE:=[(7,[([5],1)],[.v 6]),(4,[([6],1)],[.v 7,.o 10,.o 11,.o 12,.o 13,.o 14,.o 15,.o 16])]
abbrev Yt:tA:=[(sN (.q 8 8) (.o 2)),(.agg G9),.o 18]
abbrev Yw:tG:=[(1,4),Kfs,Kfs,Kfs,iK,iK]
abbrev Yx:tJ:=(0,[([1],1)],[.v 3,Kgm,.q 4 7,.q 1 8,.q 11 9,.q 1 10,.q 1 11,.q 8 12])
abbrev VD:AV:=(.agg [.o 0,.v 0,.q 1 1,.q 1 2,.q 1 3,.q 8 0,.q 8 4,.q 9 5,.q 6 6,.o 2])
abbrev Yy:tA:=[VD,.v 1,.i 0]
abbrev Yz:tA:=[VD,.v 1,.i 1]
abbrev YA:tA:=[VD,.v 1,.i 2]
abbrev YB:tA:=[VD,.v 1,.i 3]
abbrev YC:tF:=[(181,[.o 7,.q 1 8],(.bG [.q 1 9,.i 0])),(181,[.o 8,.q 1 8],(.bG [.q 1 10,.i 0]))]
abbrev YD:AV:=(.lit 1 [Ka9,Kba])
abbrev YE:tM:=[YH]
abbrev V1:tA:=[.o 3,.o 4,.q 1 8,.q 1 9,.q 1 10,.q 8 7,.q 8 11,.q 9 12,.q 6 13,.o 5]
abbrev U3:AV:=(.agg V1)
abbrev YF:tA:=[U3,.v 0]
abbrev YG:tA:=[U3,.v 2]
abbrev Kdn:AV:=(.agg KfI)
abbrev WX:tA:=[Kdn,Kdn]
abbrev YK:tH:=(18,WX,Kgm)
abbrev YL:tC:=[Kec,HN]
abbrev YM:tE:=[(5,[([6],1)],[.v 0,.v 1,.v 2,.v 14,.v 15,.v 16,.v 17,.v 18,Kgb])]
abbrev Hn:AV:=(.agg [.i 11,.i 0,.i 0,.i 0,.o 3,.i 0,.o 4,.i 0,.q 1 7])
abbrev YO:tH:=(22,[Hn],Kgm)
abbrev YP:tJ:=(9,[([],1)],[.o 14,.o 15,.o 16,.o 17,.o 18,.o 19,.o 20,.o 21,.o 22,.o 23,.o 24])
abbrev YQ:tJ:=(9,[([],2)],[.o 25,.o 26,.o 27,.o 28,.o 29,.o 30,.o 31,.o 32,.o 33,.o 34,.o 35])
abbrev YR:tJ:=(9,[([],3)],[.o 36,.o 37,.o 38,.o 39,.o 40,.o 41,.o 42,.o 43,.o 44,.o 45,.o 46])
abbrev Kgd:Poly:=[([0],-1),([1],1)]
abbrev Ker:tI:=(Kgd,1,5)
abbrev Kd4:tI:=([([3],1),([5],-1)],1,40)
abbrev YT:tC:=[Ker,Kd4,([([0],-1),([6],1)],-9,-1)]
abbrev Kb6:tA:=[KfG,.v 0,.v 2]
abbrev YU:tH:=(88,Kb6,(.bG [(.agg [.o 10,.o 11,.o 12]),.i 0]))
abbrev YV:tH:=(121,[KfG,.v 0,.v 2,.i 0],(.agg [.q 3 18,.o 13,.o 14,.o 15]))
abbrev YW:tH:=(121,[KfG,.v 0,.v 2,.i 1],(.agg [.q 3 19,.o 16,.o 17,.o 18]))
abbrev YX:tA:=[KfZ,(.agg [.v 0,.v 1,.v 2,.v 15,.o 2,.o 3,.o 4,.v 16]),.v 18]
abbrev Kf3:tJ:=(7,[([1],1)],[.v 3])
abbrev YY:tE:=[Kf3,(4,[([3],1)],[.o 3,.o 4,.o 5,.o 6,.o 7,.o 8,.o 9,.o 10])]
abbrev HB:AV:=(.agg [.i 10,.o 3,.o 4,.i 0,.i 0,.i 0,.o 5,.i 0,.emp])
abbrev YZ:tH:=(22,[HB],Kgm)
abbrev Y0:tA:=[KfT,Hn]
abbrev HC:AV:=(.agg [.i 12,.o 3,.o 4,.o 5,.o 6,.o 7,.o 8,.i 0,.emp])
abbrev Y1:tH:=(22,[HC],Kgm)
abbrev HD:AV:=(.agg [.i 13,.i 0,.i 0,.o 3,.i 0,.o 4,.i 0,.o 5,.emp])
abbrev Y2:tH:=(22,[HD],Kgm)
abbrev HE:AV:=(.agg [.i 14,.o 3,.i 0,.i 0,.i 0,.i 0,.i 0,.i 0,.emp])
abbrev Y3:tH:=(22,[HE],Kgm)
abbrev HF:AV:=(.agg [.i 15,.o 3,.i 0,.i 0,.i 0,.i 0,.i 0,.i 0,.emp])
abbrev Y4:tH:=(22,[HF],Kgm)
abbrev HG:AV:=(.agg [.i 16,.o 3,.i 0,.i 0,.i 0,.i 0,.i 0,.i 0,.emp])
abbrev Y5:tH:=(22,[HG],Kgm)
abbrev Y6:tA:=[KfT,(.agg G8)]
abbrev Y7:tA:=[VD,.v 1]
abbrev Y8:tA:=[VF,.v 1]
abbrev Y9:tM:=[Dq,(.sc 50 9 4 [] [] [([1],1)])]
abbrev Ua:AV:=(.agg [.o 5,.o 6,.q 1 11,.q 1 12,.q 1 13,.q 8 10,.q 8 14,.q 9 15,.q 6 16,.o 7])
abbrev Ub:tE:=[(9,[([2],1)],[.o 5,.o 6,.o 7,.o 8,.o 9,.o 10,.o 11,.o 12,.o 13,.o 14,.o 15])]
abbrev HS:AV:=(.agg [.i 1,.o 3,.o 4,.o 5,.i 0,.o 6,.o 7,.i 0,.emp])
abbrev Ue:tH:=(22,[HS],Kgm)
abbrev HT:AV:=(.agg [.i 2,.i 0,.i 0,.i 0,.i 0,.o 3,.o 4,.o 5,.emp])
abbrev Uf:tH:=(22,[HT],Kgm)
abbrev HU:AV:=(.agg [.i 3,.i 0,.i 0,.i 0,.i 0,.o 3,.i 0,.o 4,.emp])
abbrev Ug:tH:=(22,[HU],Kgm)
abbrev HV:AV:=(.agg [.i 4,.o 3,.o 4,.o 5,.i 0,.o 6,.o 7,.i 0,.emp])
abbrev Uh:tH:=(22,[HV],Kgm)
abbrev HW:AV:=(.agg [.i 5,.i 0,.i 0,.i 0,.i 0,.o 3,.o 4,.o 5,.emp])
abbrev Ui:tH:=(22,[HW],Kgm)
abbrev HX:AV:=(.agg [.i 6,.o 3,.o 4,.o 5,.i 0,.o 6,.i 0,.i 0,.emp])
abbrev Uj:tH:=(22,[HX],Kgm)
abbrev HY:AV:=(.agg [.i 7,.o 3,.o 4,.o 5,.i 0,.o 6,.i 0,.i 0,.emp])
abbrev Uk:tH:=(22,[HY],Kgm)
abbrev HZ:AV:=(.agg [.i 8,.o 3,.o 4,.o 5,.o 6,.o 7,.i 0,.i 0,.emp])
abbrev Ul:tH:=(22,[HZ],Kgm)
abbrev H3:AV:=(.agg [.i 9,.o 3,.o 4,.i 0,.i 0,.i 0,.o 5,.i 0,.emp])
abbrev Um:tH:=(22,[H3],Kgm)
abbrev Uo:tA:=[.o 3,Kgb,.q 4 10,.q 1 11,.q 11 12,.q 1 13,.q 1 14,(.lit 8 [])]
abbrev Uq:AV:=(.lit 1 [Kcb,Kcc])
abbrev Ur:tA:=[U3]
abbrev KaE:tA:=[KfT,.v 0,.v 1,.i 0]
abbrev KbX:AV:=(.agg [.q 3 7,.o 12,.o 13,.o 14])
abbrev Us:tH:=(112,KaE,KbX)
abbrev KaG:tA:=[KfT,.v 0,.v 1,.i 1]
abbrev KbY:AV:=(.agg [.q 3 8,.o 15,.o 16,.o 17])
abbrev Ut:tH:=(112,KaG,KbY)
abbrev Uu:tC:=[Ker,Kd4,([([0],-1),([6],1)],0,0)]
abbrev Uv:tC:=[Ker,Kd4,([([0],-1),([6],1)],1,9)]
abbrev Uw:tH:=(121,KaE,KbX)
abbrev Ux:tH:=(121,KaG,KbY)
abbrev HA:AV:=(.agg [.i 12,.v 0,.v 1,.v 2,.v 3,.v 4,.v 5,.i 0,.emp])
abbrev Uy:tA:=[KfZ,HA]
abbrev Uz:tA:=[KfZ,(.agg [.i 13,.i 0,.i 0,.v 2,.i 0,.v 4,.i 0,.v 6,.emp])]
abbrev UA:tA:=[KfT,(.agg [.i 10,.v 0,.v 2,.i 0,.i 0,.i 0,.v 6,.i 0,.emp])]
abbrev UB:tA:=[KfT,HB]
abbrev UC:tA:=[KfT,HC]
abbrev UD:tA:=[KfT,HD]
abbrev UE:tA:=[KfT,HE]
abbrev UF:tA:=[KfT,HF]
abbrev UG:tA:=[KfT,HG]
abbrev UH:tA:=[KfZ,(.agg [.i 1,.v 0,.v 1,.v 2,.i 0,.v 4,.v 5,.i 0,.emp])]
abbrev UI:tA:=[KfZ,(.agg [.i 4,.v 0,.v 1,.v 2,.i 0,.v 4,.v 5,.i 0,.emp])]
abbrev UJ:tA:=[KfZ,(.agg [.i 6,.v 0,.v 1,.v 2,.i 0,.v 4,.i 0,.i 0,.emp])]
abbrev HM:AV:=(.agg [.i 8,.v 0,.v 1,.v 2,.v 3,.v 4,.i 0,.i 0,.emp])
abbrev UK:tA:=[KfZ,HM]
abbrev UL:tA:=[KfZ,(.agg [.i 5,.i 0,.i 0,.i 0,.i 0,.v 4,.v 5,.v 6,.emp])]
abbrev UM:tA:=[KfZ,(.agg [.i 2,.i 0,.i 0,.i 0,.i 0,.v 4,.v 5,.v 6,.emp])]
abbrev UN:tA:=[KfZ,(.agg [.i 3,.i 0,.i 0,.i 0,.i 0,.v 4,.i 0,.v 6,.emp])]
abbrev UO:tA:=[KfZ,(.agg [.i 7,.v 0,.v 1,.v 2,.i 0,.v 4,.i 0,.i 0,.emp])]
abbrev UQ:tA:=[KfZ,(.agg [.i 9,.v 0,.v 1,.i 0,.i 0,.i 0,.v 5,.i 0,.emp])]
abbrev UR:tH:=(121,[KfL,.v 0,.v 1,.i 1],(.agg [.q 3 11,.o 5,.o 6,.o 7]))
abbrev US:tA:=[(.agg [.i 11,.i 0,.i 0,.i 0,.v 0,.i 0,.v 1,.i 0,(.lit 1 [[.v 2],[.v 3]])])]
abbrev UT:tA:=[KfT,HS]
abbrev UU:tA:=[KfT,HT]
abbrev UV:tA:=[KfT,HU]
abbrev UW:tA:=[KfT,HV]
abbrev UX:tA:=[KfT,HW]
abbrev UY:tA:=[KfT,HX]
abbrev UZ:tA:=[KfT,HY]
abbrev U0:tA:=[KfT,HZ]
abbrev U1:tA:=[KfT,H3]
abbrev KaD:tA:=[KfT,.v 0,.v 2,.v 6]
abbrev U4:tH:=(121,KaD,KcC)
abbrev U6:tH:=(121,KaQ,KcG)
abbrev U9:tA:=[.o 13,.o 14,.q 1 11,.q 1 12,.q 1 13,.q 8 14,.q 8 15,.q 9 16,.q 6 17,.o 15]
abbrev Va:tA:=[.o 13,.o 14,.q 1 12,.q 1 13,.q 1 14,.q 8 15,.q 8 16,.q 9 17,.q 6 18,.o 15]
abbrev Vb:tJ:=(0,[([],2)],[.o 9,.o 10,.q 4 22,.q 1 23,.q 11 24,.q 1 25,.q 1 26,.q 8 27])
abbrev DN:Poly:=[([1],-1),([2],-1),([3],-1),([4],1),([7],-1)]
abbrev Vc:tC:=[(DN,-18446744073709551616,-1)]
abbrev Vd:tJ:=(0,[([1],1)],[.v 3,.o 4,.q 4 13,.q 1 14,.q 11 15,.q 1 16,.q 1 17,.q 8 18])
abbrev Ve:tG:=[Kg3,Kg3,iK,iK,(0,100),iK,iK,iK,iK,(-100,100)]
abbrev Vf:tA:=[KfN,.v 0,(.lit 2 [[.i 4,.v 5],[.i 3,KgU]])]
abbrev DI:tA:=[.v 0,.v 1,.v 2,.v 14,.v 15,.v 16,.v 17,.v 18]
abbrev WV:tA:=[(.agg DI),.v 4]
abbrev Vg:tH:=(223,WV,(.v 19))
abbrev Vh:tH:=(223,WV,(.v 20))
abbrev Vi:tG:=[Kg3,KfW,iK,KfW,iK,iK,iK]
abbrev KcU:AV:=(.agg [.q 3 8,.o 2,.o 3,.o 4])
abbrev Vj:tH:=(121,KaQ,KcU)
abbrev Vk:tH:=(121,KaQ,(.agg [.q 3 8,.o 5,.o 6,.o 7]))
abbrev KcV:AV:=(.agg [.q 3 9,.o 4,.o 5,.o 6])
abbrev Vl:tH:=(121,KaQ,KcV)
abbrev KcW:AV:=(.agg [.q 3 8,.o 4,.o 5,.o 6])
abbrev Vm:tH:=(121,KaQ,KcW)
abbrev KcX:AV:=(.agg [.q 3 8,.o 3,.o 4,.o 5])
abbrev Vn:tH:=(121,KaQ,KcX)
abbrev Vo:tH:=(121,[KfZ,.v 0,.v 1,.i 0],KcU)
abbrev KaT:tA:=[KfT,.v 0,.v 1,.v 2]
abbrev Vr:tH:=(121,KaT,(.agg [.q 3 7,.v 3,.v 4,.v 5]))
abbrev V9:tA:=[.o 0,.o 1,.q 1 1,.q 1 2,.q 1 3,.q 8 10,.q 8 4,.q 9 11,.q 6 6,.o 2]
abbrev Vs:AV:=(.agg V9)
abbrev VH:AV:=(.agg [.o 2,.o 3,.q 1 4,.q 1 5,.q 1 6,.q 8 3,.q 8 7,.q 9 8,.q 6 9,.o 4])
abbrev Vt:tA:=[VH]
abbrev Vu:tJ:=(0,[([],1)],[.o 6,.o 7,.q 4 16,.q 1 17,.q 11 18,.q 1 19,.q 1 20,.q 8 21])
abbrev Vv:tJ:=(0,[([],1)],[.o 6,.o 7,.q 4 13,.q 1 14,.q 11 15,.q 1 16,.q 1 17,.q 8 18])
abbrev KdZ:tI:=([([6],-1),([10],1)],1,40)
abbrev Vw:tC:=[KdZ,([([4],1),([14],-1)],-1152921504606846976,0)]
abbrev Vx:tE:=[(0,[([1],1)],[.v 4,.o 4,.q 4 7,.q 1 8,.q 11 9,.q 1 10,.q 1 11,.q 8 12])]
abbrev W9:tA:=[.o 3,.o 4,.q 4 7,.q 1 8,.q 11 9,.q 1 10,.q 1 11,.q 8 12]
abbrev VP:tJ:=(0,[([1],1)],W9)
abbrev Vy:tE:=[VP]
abbrev Vz:AV:=(.agg Wh)
abbrev VB:tC:=[Ked,DY]
abbrev Kgc:Poly:=[([0],1),([1],-1)]
abbrev Keh:tI:=(Kgc,1,60)
abbrev Kd1:tI:=([([2],1),([3],-1)],1,100)
abbrev VC:tC:=[Keh,([([3],1)],0,100),Kd1]
abbrev Khq:Nat×Poly:=(5,[([0],1)])
abbrev Kho:Nat×Poly:=(7,[([1],1)])
abbrev VE:tD:=[Khq,Kho,(10,[([0],1)]),(8,[([1],1)]),(9,[([1],1)])]
abbrev VG:AV:=(.agg [.o 0,.o 1,.q 1 1,.q 1 2,.q 1 3,.q 8 9,.q 8 4,.q 9 8,.q 6 6,.o 2])
abbrev VI:tC:=[(DN,0,1152921504606846976)]
abbrev Khm:Nat×Poly:=(6,[([2],1)])
abbrev VJ:tD:=[Kg7,Kg9,Khm,(7,[([3],1)]),Khg]
abbrev Kg8:Nat×Poly:=(1,[([0],1)])
abbrev Khl:Nat×Poly:=(0,[([1],1)])
abbrev Khn:Nat×Poly:=(7,[([0],1)])
abbrev VK:tD:=[Kg8,Khl,Khn,Khg,(9,[([3],1)])]
abbrev VL:tD:=[Kg8,Khl,Khn,Khg,(9,[([],17)])]
abbrev VM:tA:=[.o 3,Kgb,.q 4 7,.q 1 8,.q 11 9,.q 1 10,.q 1 11,.q 8 12]
abbrev VN:tD:=[Kg7,Kg9,Kho,Khg,(9,[([3],1)])]
abbrev VO:tD:=[Kg7,Kg9,Kho,Khg,(9,[([],17)])]
abbrev KbW:AV:=(.agg [.v 0,.q 4 0,.q 2 1,.q 1 2])
abbrev VQ:tA:=[KbW,KbW]
abbrev VR:tA:=[.v 0,Kgm,.q 4 7,.q 1 8,.q 11 9,.q 1 10,.q 1 11,.q 8 12]
abbrev VT:tC:=[Keb,Kee,KgL]
abbrev Kbx:tH:=(45,[.q 2 1],(.bG [.q 2 2,.i 0]))
abbrev VV:tF:=[Kbx,(200,[.q 2 2],Kgm)]
abbrev Kay:tA:=[.v 17,Kez,.v 16]
abbrev VX:tH:=(148,Kay,(.bG [.v 18,.o 3,.i 0]))
abbrev VY:tG:=[(1,30),Kg3,Kfs,Kfs]
abbrev VZ:tG:=[(1,40),(0,40),KfW,(0,3),(0,4),KfW]
abbrev KaR:tA:=[Kez,.v 18,.i 1]
abbrev V2:tH:=(148,KaR,(.bG [.v 19,.o 3,.i 0]))
abbrev V4:tG:=[(1,40),(0,40),KfW,(0,3),(0,4),(0,39),(0,39),(0,3)]
abbrev V5:tE:=[(5,[([1],1)],Gv)]
abbrev V7:tE:=[(5,[([6],1)],[.v 0,.v 1,.v 2,.v 14,.v 15,.v 16,.v 17,.v 18,.o 2])]
abbrev Ke9:AV:=(.agg [.o 3,.o 4,.o 6])
abbrev Wa:tA:=[.i 1,.o 5,KcQ,Ke9]
abbrev Wb:tA:=[.i 2,.o 5,KcQ,Ke9]
abbrev Wc:tA:=[.i 3,.o 5,KcQ,Ke9]
abbrev Wd:tA:=[.i 4,.v 3,KcQ,(.agg [.v 1,.v 2,.o 3])]
abbrev Khi:tA:=[.q 3 0,.v 1]
abbrev We:tF:=[(215,Khi,(.bG [.q 3 1,Kfa,.i 0]))]
abbrev Wf:tF:=[(215,Khi,(.bG [.q 3 1,Kfa,.v 7]))]
abbrev Wg:tF:=[Wz]
abbrev KeR:AV:=(.agg [.o 3,.o 4,.o 5])
abbrev Wj:tH:=(146,[KbX],KeR)
abbrev KeS:AV:=(.agg [.o 6,.o 7,.o 8])
abbrev Wk:tH:=(146,[KbY],KeS)
abbrev Wn:AV:=(.lit 1 [[(.lit 1 [[.v 7],[.v 8]])],[(.lit 1 [[.v 9],[.v 10]])]])
abbrev Wo:AV:=(.lit 1 [[.v 5],Kfo,[(.e [([],2),([5],1)])]])
abbrev Kef:AV:=(.agg [.v 16,.v 17,.o 2])
abbrev Ws:tH:=(146,[KcV],Kef)
abbrev Wu:tH:=(146,[KcW],Kef)
abbrev Wv:tH:=(146,[KcX],Kef)
abbrev Ww:tF:=[(146,[KcQ],KeR)]
abbrev Wy:tA:=[.o 4,.o 5,.q 4 13,.q 1 14,.q 11 15,.q 1 16,.q 1 17,(.lit 8 [])]
abbrev WB:AV:=(.lit 1 [[(.lit 1 [[.v 3],[.v 4]])],[(.lit 1 [[.v 5],[.v 6]])]])
abbrev WD:tG:=[Kg3,Kg3,iK,iK,(0,100),iK,iK,iK,iK]
abbrev WG:tE:=[(4,[([6],1)],DI)]
abbrev WH:tA:=[(.lit 1 [KeI,KeJ])]
abbrev WI:tA:=[(.lit 1 [KeK,KeL])]
abbrev WJ:tF:=[(72,[(.lit 1 [[.o 5],[.o 8],[.o 11]])],(.bG [.o 12,.i 0]))]
abbrev Kbw:tA:=[(.seq 3 0 [] [[.v 1,.v 2,.o 0]])]
abbrev WK:tF:=[(199,Kbw,Kgb)]
abbrev Kcq:tA:=[.q 3 0,Ke9]
abbrev KfV:AV:=(.bG [.q 3 1,.i 0])
abbrev WL:tF:=[(226,Kcq,KfV)]
abbrev WM:tF:=[(226,Kcq,(.bG [.q 3 1,.v 2]))]
abbrev WN:tA:=[KfT,.v 0,.v 2,.v 6,(.agg [.o 8,.v 7,.o 9])]
abbrev WP:tG:=[(1,40),(0,40),KfW,(0,39),(0,3),(0,4),(0,1)]
abbrev WQ:tG:=[(0,4),(0,3),(0,4),(-2,3),(0,100),(0,3),(0,4),(-2,3),(0,100)]
abbrev WR:tA:=[KfT,.o 3,.o 4,.o 5,KeS]
abbrev WS:tA:=[.o 3,.o 4,.q 4 10,.q 1 11,.q 11 12,.q 1 13,.q 1 14,.q 8 15]
abbrev WU:tI:=([([7],-1),([10],1)],-288230376151711744,288230376151711744)
abbrev WW:tA:=[.o 3,.o 4,.o 5,.o 6,.o 7,.o 8,.o 9,.o 10,.o 11,.o 12,.o 13]
abbrev Kd8:Int×Int:=(-9223372036854775808,-1)
abbrev WY:tG:=[(0,30),Ke7,Kd8]
abbrev WZ:tH:=(199,Kbw,Kgm)
abbrev W5:tG:=[Kg3,Kg3,iK,iK,(0,100),(-100,100)]
abbrev W7:tD:=[Kg7,Kg8,(2,[([0],1)]),(3,[([0],1)])]
abbrev KdE:Mc.dC:=(.sc 3 1 0 [] [] [([],17)])
abbrev W8:tM:=[KdE,(.sc 3 1 2 [] [] [([],17)])]
abbrev Ha:tD:=[Kg8,Khl,Khm,(7,[([7],1)])]
abbrev Hb:tD:=[Kg7,Kg9,Khm,(7,[([3],1)])]
abbrev Hc:tD:=[Kg8,Khl,Khn,Khg]
abbrev He:tA:=[.v 2,.o 3,.q 4 7,.q 1 8,.q 11 9,.q 1 10,.q 1 11,.q 8 12]
abbrev Hg:tD:=[Kg7,Kg9,Kho,(8,[([9],1)])]
abbrev Hh:tD:=[Kg7,(1,[([2],1)]),(2,[([0],1)]),Khh]
abbrev Ke8:Int×Int:=(0,9223372036854775807)
abbrev Hi:tG:=[(0,29),Ke7,Ke8]
abbrev Hj:tG:=[(0,30),Ke7,Ke8]
abbrev Hk:tD:=[(18,[([9],1)]),(19,[([10],1)]),(20,[([9],1),([10],1)])]
abbrev KfJ:tA:=[.o 4,.o 5,.o 6,.o 7]
abbrev Hl:Mc.dC:=(.sc 46 4 7 [] [KfJ] KgF)
abbrev Hm:tA:=[HA]
abbrev Hp:tC:=[Kea,([([3],-1),([6],1)],-99,-1)]
abbrev Hq:tA:=[(.agg [.o 0,.o 1,.o 2,.o 3,.o 4,.v 0,.v 2,.o 5]),.v 1]
abbrev Hs:tA:=[(.agg [.i 7,.v 0,.v 1,.v 2,.i 0,.v 3,.i 0,.i 0,.emp])]
abbrev Ht:tA:=[HM]
abbrev Hu:tG:=[(0,3),(0,4),(0,1),(0,3),Kg4,Kg3]
abbrev BL:tA:=[.v 4,.v 5,.v 6,.o 4,.o 5,.o 6,.o 7,.o 8]
abbrev Hv:tJ:=(4,[([3],1)],BL)
abbrev Hw:tG:=[nB,(1,5),(0,4),(1,9),nB,nB,nB,nB,nB,nB,nB,nB]
abbrev Hx:tF:=[(198,[.q 3 0],(.bG [(.agg [.v 2,.o 0,.o 1]),.i 0]))]
abbrev Gc:tH:=(198,[.q 3 0],(.bG [Kfa,.i 0]))
abbrev Hy:tF:=[Gc]
abbrev KaF:AV:=(.bG [KeR,.i 0])
abbrev Hz:tF:=[(198,[.q 3 0],KaF)]
abbrev Kd3:AV:=(.agg [.o 9,.o 10,.o 11])
abbrev HH:AV:=(.bG [Kd3,Kgb])
abbrev HJ:tA:=[.v 4,.v 5,KcC,.v 7,.v 8]
abbrev HK:tF:=[(36,[KfT,.v 3],(.bG [.v 4,.i 0]))]
abbrev HL:tC:=[Kea,([([3],-1),([6],1)],1,99)]
abbrev HP:tC:=[Keb,Kee]
abbrev Kej:tI:=([([0],1),([5],-1)],1,40)
abbrev Kek:tI:=([([1],1),([6],-1)],1,40)
abbrev H5:tC:=[Kej,Kek]
abbrev KeB:tI:=([([1],-1),([2],1)],1,4)
abbrev H6:tC:=[KeB,([([0],1),([3],-1)],1,200)]
abbrev H7:tH:=(169,[.q 3 7],KaF)
abbrev H8:tH:=(169,[.q 3 8],(.bG [KeS,.i 0]))
abbrev KdR:tA:=[(.lit 1 [[.o 5],[.o 8]])]
abbrev Kga:AV:=(.bG [.o 9,.i 0])
abbrev H9:tF:=[(72,KdR,Kga)]
abbrev Ga:tA:=[.i 1,.o 3,KcQ,.v 2,.v 1]
abbrev Gb:tA:=[.i 2,.o 3,KcQ,.v 2,.v 1]
abbrev Gd:tA:=[.i 3,.o 0,KcS,.i 0,.v 7]
abbrev Ge:tA:=[.i 3,.o 0,KcS,.i 1,.v 7]
abbrev Gf:tA:=[.i 3,.o 0,KcS,.i 2,.v 7]
abbrev Gg:tA:=[.i 3,.o 0,KcS,.i 3,.v 7]
abbrev Gh:tA:=[.i 4,.v 1,KcQ,.v 3,.v 2]
abbrev Gk:tG:=[Kg3,Kg3,KfW]
abbrev Gl:tH:=(221,[.v 14,KcU],(.v 15))
abbrev Gm:tH:=(221,[.v 14,(.agg [.q 3 8,.o 5,.o 6,.o 7])],(.v 15))
abbrev Gp:tH:=(221,[.v 14,KcV],(.v 15))
abbrev Gq:tH:=(221,[.v 14,KcW],(.v 15))
abbrev Gr:tH:=(221,[.v 14,KcX],(.v 15))
abbrev Gs:tH:=(198,[.q 3 0],(.bG [(.agg [.o 0,.v 2,.o 1]),.i 0]))
abbrev Gt:tG:=[(0,40),(0,39),(0,40),Kg3,Kg3]
abbrev Gw:tA:=[.o 5,.o 6,.o 7,.o 8,.o 9,.o 10,.o 11,.o 12,.q 1 11]
abbrev KdQ:tA:=[(.lit 1 [[.o 4],[.o 7]])]
abbrev Gx:tH:=(72,KdQ,(.bG [.o 10,.i 0]))
abbrev Gy:tH:=(72,KdR,(.bG [.o 11,.i 0]))
abbrev Gz:tH:=(72,KdQ,(.bG [.o 10,.i 2]))
abbrev GA:tH:=(72,KdR,(.bG [.o 11,.i 2]))
abbrev GB:tC:=[Ker,([([2],1),([4],-1)],1,4)]
abbrev GD:tH:=(81,KdQ,(.bG [.o 10,.i 0]))
abbrev GE:tH:=(81,KdR,(.bG [.o 11,.i 0]))
abbrev GG:tH:=(81,KdR,(.bG [.o 11,.i 2]))
abbrev GH:tH:=(81,KdQ,(.bG [.o 10,.i 2]))
abbrev GI:tC:=[([([3],1),([4],1),([5],1)],1,1152921504606846976)]
abbrev Kew:tI:=(Kgc,1,4)
abbrev GJ:tC:=[Kew,([([2],1),([4],-1)],1,5)]
abbrev GK:tC:=[Kew,([([2],1),([3],-1)],1,5)]
abbrev GM:tC:=[([([0],1),([5],-1)],1,3),([([1],1),([7],-1)],1,4)]
abbrev GP:AV:=(.bG [KaV,.i 0])
abbrev KdP:tA:=[(.lit 1 [[.o 3],[.o 6]])]
abbrev GQ:tH:=(72,KdP,Kga)
abbrev GR:tH:=(72,KdP,(.bG [.o 9,.i 2]))
abbrev GU:tH:=(81,KdP,Kga)
abbrev GV:tH:=(81,KdP,(.bG [.o 9,.i 2]))
abbrev Kfv:tA:=[KfT]
abbrev GW:tF:=[(35,Kfv,KfX)]
abbrev GX:AV:=((.bG [(.agg [.o 3,.q 4 7,.q 2 8,.q 1 9]),.i 0]))
abbrev GY:tE:=[(6,[([6],1)],[.v 3,.v 0,.v 1,.v 14,.v 15,.v 16])]
abbrev GZ:tG:=[(1,40),(0,40),KfW,(0,39),(0,39)]
abbrev G1:AV:=(.bG [KcR,.i 0,.i 0])
abbrev G4:AV:=(.bG [KcQ,.i 0,.v 2])
abbrev G5:AV:=(.bG [KcQ,.i 0,.i 1])
abbrev G6:AV:=(.bG [KcQ,.i 0,.i 2])
abbrev G7:tG:=[(0,3),(0,4),(0,1),Kg4,Kg3]
abbrev Da:tG:=[(0,4),(0,3),(1,40),(0,39),(0,3),(0,100),(0,100)]
abbrev Db:tA:=[.o 3,.o 4,.o 5,.o 6,.o 7,.o 8,.o 9,.o 10,.q 1 5]
abbrev Dc:tA:=[.o 5,.o 6,.o 7,.o 8,.o 9,.o 10,.o 11,.o 12,.emp]
abbrev Dd:tG:=[nB,(1,5),(0,4),nB,nB,nB,nB,nB,nB,nB,nB]
abbrev Kgl:Poly:=[([2],2),([6],1)]
abbrev De:tE:=[(7,Kgl,[.q 3 15,.o 5,.o 6,.o 7])]
abbrev Df:tE:=[(1,[([1],1)],[.v 2,.o 0]),(2,[([2],1)],[.o 1])]
abbrev Dg:tH:=(222,[.q 3 11,.v 5],(.bG [.q 3 12,.v 16,.i 0]))
abbrev Dh:tG:=[(1,40),(0,40),KfW,(0,3),(0,4)]
abbrev KeH:Poly:=[([],1),([6],1),([8],1)]
abbrev Dj:tK:=(1,KeH,[([],4)],[([16],1)])
abbrev Dk:tK:=(1,KeH,[([],4)],[([18],1)])
abbrev Dl:tK:=(1,[([],2),([6],1),([8],1)],[([],4)],[([20],1)])
abbrev Dm:tK:=(1,KeH,[([],4)],[([20],1)])
abbrev Dn:tK:=(1,[([],2),([6],1),([8],1)],[([],4)],[([22],1)])
abbrev Do:tK:=(1,[([],3),([6],1),([8],1)],[([],4)],[([24],1)])
abbrev Dr:tE:=[(6,[([5],1)],[.o 3,.o 4,.v 6,.o 5,.o 6,.o 7])]
abbrev Dt:tA:=[KfT,.v 0,.v 2,.v 6,.v 7,.v 8]
abbrev Dy:tG:=[Kg3,Kg3,iK,iK,(0,100)]
abbrev Dz:tG:=[Kfr,Kfr]
abbrev DA:tA:=[.o 3,.o 4,.o 5,.o 6,.o 7,.o 8,.o 9,.o 10,.emp]
abbrev DB:tG:=[(0,4),(1,5),(0,4),(0,40),(0,44),(0,39),(0,4)]
abbrev DC:tH:=(148,[.v 1,.v 3,.i 1],(.bG [.v 4,.o 4,.i 0]))
abbrev DD:tG:=[(0,30),Kfs,Kg4]
abbrev DG:tF:=[(89,[KfZ,.v 0,.v 1],(.i 7))]
abbrev DH:tF:=[DW]
abbrev DJ:tE:=[Kfx,KfO]
abbrev DK:tH:=(222,[.q 3 8,.v 5],(.bG [.q 3 9,.v 15,.i 0]))
abbrev DL:tA:=[(.agg [.v 0,.o 0,.q 1 0,.q 1 1,.q 1 2]),.o 1]
abbrev DM:tA:=[Kaq,.o 2]
abbrev DO:tD:=[Khk,(10,[([3],1)]),(11,[([3],1)])]
abbrev DP:tG:=[(1,5),(1,4),(0,12),(0,16),iK,(0,11),(0,16)]
abbrev DQ:tG:=[(1,4),(1,5),(0,12),(0,16),iK,(0,11),(0,16)]
abbrev DS:tE:=[(2,[([1],1)],[.q 1 9]),(9,[([3],1)],[.i 3])]
abbrev DT:tE:=[(2,[([1],1)],[.q 1 9]),(9,[([3],1)],[.v 4])]
abbrev DU:AV:=(.bG [KfT,.i 0,.i 0,.i 2])
abbrev DV:AV:=((.bG [Kdn,.i 9]))
abbrev DX:tC:=[([([6],1),([8],-1)],0,1152921504606846976)]
abbrev D0:AV:=(.bG [KcQ,.i 2])
abbrev D8:tA:=[(.lit 1 [[.v 11],[.v 13],[.v 15],[.v 17]])]
abbrev D9:tA:=[(.lit 1 [[.v 19],[.v 21],[.v 23],[.v 25]])]
abbrev Ba:tC:=[(Kgc,1,9223372036854775807)]
abbrev Bb:tC:=[(Kgc,0,9223372036854775808)]
abbrev Bc:tD:=[Kg9,Kha,Khb]
abbrev Be:tD:=[Kg7,Kg8,(2,[([0],1)])]
abbrev Bf:tC:=[([([1],-1),([2],1)],0,288230376151711744)]
abbrev Bg:tD:=[(0,[([],17)]),(2,[([],17)]),Kg8]
abbrev Bh:tD:=[Kg8,Khl,Khm]
abbrev Bi:tD:=[Kg7,Kg9,Khm]
abbrev Bj:tD:=[Kg7,Kg9,Kho]
abbrev Bm:tI:=([([4],1),([16],-1)],1,1152921504606846976)
abbrev Bo:tD:=[Khn,(8,[([1],1)]),(4,[([2],1)])]
abbrev Bp:tD:=[Khn,(4,[([1],1)]),(9,[([0],1)])]
abbrev Bq:tD:=[Kg7,(5,[([2],1)]),(12,[([],1)])]
abbrev Br:tD:=[Kg7,Khf,(5,[([2],1)])]
abbrev Bs:tD:=[Khq,Khf,Khg]
abbrev Bt:tD:=[Khq,Kho,(8,[([1],1)])]
abbrev Bw:tA:=[(.agg [.q 3 0,.v 1,.o 1,.o 2]),.i 0,.v 2]
abbrev Bx:AV:=(.bG [Kdn,.i 8])
abbrev By:tA:=[.v 1,KcQ,.v 2]
abbrev Bz:AV:=(.bG [KfP,.v 19,.v 13])
abbrev BA:tK:=(1,[([],14),([9],1)],[([],40)],[([15],1)])
abbrev BB:tK:=(1,[([],15),([9],1)],[([],40)],[([21],1)])
abbrev BC:tK:=(1,[([],21),([9],1)],[([],40)],[([17],1)])
abbrev BD:tK:=(1,[([],15),([9],1)],[([],40)],[([23],1)])
abbrev BE:tK:=(1,[([],22),([9],1)],[([],40)],[([25],1)])
abbrev BF:tK:=(1,[([],1),([16],1)],[([],12)],[([17],1)])
abbrev BG:AV:=(.bG [Kdn,.v 3])
abbrev Kge:Poly:=[([1],1),([4],-1)]
abbrev BH:tI:=(Kge,1,288230376151711744)
abbrev BI:tI:=([([2],-1),([8],1)],0,288230376151711744)
abbrev BJ:tG:=[Kg3,KfW,iK]
abbrev BK:AV:=(.bG [KfP,.v 19,.i 0])
abbrev BM:tK:=(1,[([],7),([9],1)],[([],40)],[([13],1)])
abbrev BN:tK:=(1,[([6],1),([8],1)],[([],4)],[([14],1)])
abbrev KgG:Poly:=[([],1),([9],1)]
abbrev BO:tK:=(1,KgG,[([],40)],[([15],1)])
abbrev BP:tK:=(1,[([],8),([9],1)],[([],40)],[([17],1)])
abbrev BQ:AV:=(.lit 1 [[.v 5],Kfo])
abbrev BR:tK:=(1,[([6],1),([8],1)],[([],4)],[([16],1)])
abbrev BU:tK:=(1,KgG,[([],40)],[([17],1)])
abbrev BV:tK:=(1,[([],8),([9],1)],[([],40)],[([19],1)])
abbrev BW:tK:=(1,[([6],1),([8],1)],[([],4)],[([18],1)])
abbrev BX:tK:=(1,KgG,[([],40)],[([19],1)])
abbrev BY:tK:=(1,[([],8),([9],1)],[([],40)],[([21],1)])
abbrev KgD:Poly:=[([],1),([4],1)]
abbrev B0:Mc.dC:=(.sc 3 1 7 [] [[.o 3]] KgD)
abbrev B2:Mc.dC:=(.sc 3 1 8 [] [[.o 4]] KgD)
abbrev B6:Mc.dC:=(.sc 3 1 9 [] [[.o 5]] KgD)
abbrev B7:Mc.dC:=(.sc 3 1 7 [] [[.o 5]] KgD)
abbrev B8:Mc.dC:=(.sc 3 1 8 [] [[.o 6]] KgD)
abbrev B9:Mc.dC:=(.sc 3 1 9 [] [[.o 7]] KgD)
abbrev Kaa:Int×Int:=(288230376151711745,9223372036854775807)
abbrev KgE:Poly:=[([],1),([3],1)]
abbrev Kac:Mc.dC:=(.sc 3 1 9 [] [[.v 4]] KgE)
abbrev Kae:AV:=(.bG [KfZ,.i 0,.v 13])
abbrev Kaf:tG:=[(0,3),(0,4),(0,1),(0,1),Kg4]
abbrev Kai:tK:=(1,[([],1),([6],1)],[([],4)],[([12],1)])
abbrev Kaj:tK:=(1,[([],2),([6],1)],[([],4)],[([14],1)])
abbrev Kak:tK:=(1,[([],3),([6],1)],[([],4)],[([16],1)])
abbrev Kal:AV:=(.bG [.agg KfI,.i 8])
abbrev Kam:tF:=[(46,[.q 2 1,.q 2 1],Kgm)]
abbrev Kan:AV:=(.bG [Kd3,.i 2])
abbrev Kao:AV:=(.bG [KfZ,.i 0,.i 0])
abbrev Kas:tG:=[(0,30),Kfr,(0,30)]
abbrev Kat:tH:=(83,[.o 10,.o 21],(.bG [.o 32,.i 0]))
abbrev Kau:tH:=(83,[.o 11,.o 22],(.bG [.o 33,.i 0]))
abbrev Kav:tH:=(83,[.o 12,.o 23],(.bG [.o 34,.i 0]))
abbrev Kaw:tH:=(83,[.o 13,.o 24],(.bG [.o 35,.i 0]))
abbrev Kax:tH:=(83,[.o 14,.o 25],(.bG [.o 36,.i 0]))
abbrev KaA:tG:=[Kg4,Kg3,(0,39)]
abbrev KaB:AV:=(.lit 1 [[.v 1],[.v 2],[.v 3],[.v 4]])
abbrev KaH:AV:=(.bG [(.agg KgA),.i 0])
abbrev Kes:Int×Int:=(-9223372036854775808,0)
abbrev KaJ:tG:=[(0,30),Kes,nB]
abbrev KaK:tH:=(83,[.o 5,.o 16],(.bG [.o 27,.i 0]))
abbrev KaL:tH:=(83,[.o 6,.o 17],(.bG [.o 28,.i 0]))
abbrev KaM:tH:=(83,[.o 7,.o 18],(.bG [.o 29,.i 0]))
abbrev KaN:tH:=(83,[.o 8,.o 19],(.bG [.o 30,.i 0]))
abbrev KaO:tH:=(83,[.o 9,.o 20],(.bG [.o 31,.i 0]))
abbrev KaS:tG:=[(1,30),(1,3),Kfs]
abbrev KaU:tF:=[(14,[.o 1,.i 1099511627776],(.v 2))]
abbrev KaW:tC:=[([([2],-2),([3],2),([6],-1)],1,10)]
abbrev KaX:tH:=(45,[.q 2 15],(.bG [.q 2 16,.i 0]))
abbrev KaZ:tF:=[(33,Kfv,(.i 0))]
abbrev Ka1:AV:=(.bG [KfN,.v 13])
abbrev Ka2:AV:=(.bG [KfL,.v 13])
abbrev Ka4:tG:=[(0,2),Kg3,(0,39),(0,39)]
abbrev Ka5:tG:=[(1,40),(0,40),KfW]
abbrev Ka6:AV:=((.bG [KfT,.i 1]))
abbrev KbK:AV:=(.bG [KfT,.i 7])
abbrev Ka7:AV:=(KbK)
abbrev Ka8:AV:=((.bG [KfT,.v 5]))
abbrev Kbb:tA:=[(.lit 1 [[.v 11],[.v 13],[.v 15]])]
abbrev Kbc:tA:=[(.lit 1 [[.v 17],[.v 19],[.v 21]])]
abbrev Kbf:tG:=[(0,30),Kfr,iK]
abbrev Kbg:tA:=[KfT,.v 0,.q 2 15]
abbrev Kbh:AV:=(.bG [KfZ,.v 13])
abbrev Kbi:AV:=(.bG [Kf0,.v 13])
abbrev Kbk:AV:=(.bG [Kf2,.v 13])
abbrev Kbm:AV:=(.bG [(sN (.q 8 15) (.v 7)),.i 0])
abbrev Kbp:AV:=(.bG [(sN (.q 8 12) (.v 7)),.i 0])
abbrev Kbr:AV:=(.bG [(sN (.q 8 15) (.o 2)),.i 0])
abbrev Kbs:tK:=(0,[([0],1)],[([],2688)],[([9],1)])
abbrev Kby:AV:=(.bG [KfT,.v 6])
abbrev Kbz:AV:=(.agg [.q 3 16,.o 11,.o 12,.o 13])
abbrev KbA:AV:=(.bG [KfT,.i 2])
abbrev KbB:AV:=(.bG [KfZ,.i 7])
abbrev KbC:AV:=(.bG [KfZ,.i 6])
abbrev KbF:AV:=(.bG [KfZ,.i 4])
abbrev KbG:AV:=(.bG [KfZ,.i 5])
abbrev KbI:AV:=(.bG [KfZ,.i 2])
abbrev KbJ:tG:=[(1,4),Kfs,iK]
abbrev KbM:tG:=[(0,3),(0,4),(0,1),Kg3]
abbrev Kdx:tA:=[KfT,.v 0]
abbrev KbN:AV:=(.bG Kdx)
abbrev KbO:AV:=(.bG [KfT,.i 0])
abbrev KbP:AV:=(.bG [KfT,.v 9])
abbrev KbQ:tK:=(0,[([0],1)],[([],168)],[([6],1)])
abbrev KbR:tK:=(0,[([0],1)],[([],672)],[([7],1)])
abbrev KbS:tK:=(1,[([9],1)],[([],40)],[([11],1)])
abbrev KbT:tF:=[(14,[.o 0,.i 1073741824],(.v 0))]
abbrev KbV:tK:=(1,[([14],1)],[([],3)],[([18],1)])
abbrev Kb1:tG:=[(0,4),(1,5),(0,4),(0,40),(0,44)]
abbrev Kb2:tG:=[(0,4),(1,5),(2,2),(0,40),(0,44)]
abbrev Kb3:tG:=[(0,4),(1,5),(3,3),(0,40),(0,44)]
abbrev Kb5:tG:=[(0,30),Kes]
abbrev Kb8:tG:=[(0,4),(1,5),(0,40),(0,20),(0,3)]
abbrev Kcd:tK:=(0,[([0],1)],[([],24)],[([4],1)])
abbrev Kce:tK:=(1,[([6],1)],[([],4)],[([10],1)])
abbrev Kck:tG:=[Ke8,(0,119)]
abbrev Kcl:tG:=[Ke8,(0,120)]
abbrev Kcm:tG:=[Kd8,(1,5)]
abbrev Kcn:tA:=[KfT,.v 0,.v 1]
abbrev Kco:tE:=[(0,[([2],1)],[.v 7,.v 8,.v 9])]
abbrev Kcp:tA:=[.q 3 0,(.agg [.v 1,.v 2,.o 0])]
abbrev Kcr:tA:=[KfT,.v 0,.v 2]
abbrev Kcs:tH:=(149,[.v 15,.v 4,.v 14],(.v 20))
abbrev Kct:tH:=(149,[.v 15,.v 4,.v 14],(.v 17))
abbrev Kcu:tH:=(149,[.v 16,.v 4,.v 14],(.v 18))
abbrev Kcv:tD:=[(7,[([12],1)]),(14,[([12],1)])]
abbrev Kcw:tK:=(0,[([0],1)],[([],2)],[([1],1)])
abbrev Kcx:tK:=(0,[([0],1)],[([],6)],[([2],1)])
abbrev Kcy:tK:=(1,[([2],1)],[([],4)],[([3],1)])
abbrev Kcz:tK:=(1,[([4],1)],[([],7)],[([5],1)])
abbrev KcA:tK:=(1,[([7],1)],[([],4)],[([8],1)])
abbrev KcE:tG:=[(1,5),(1,4),(0,12),(0,16),iK]
abbrev KcF:tG:=[(1,4),(1,5),(0,12),(0,16),iK]
abbrev KcH:tH:=(149,[.v 15,.v 4,.v 14],(.o 5))
abbrev KcI:tD:=[(7,[([12],1)]),(8,[([12],1)])]
abbrev KcJ:tG:=[(1,30),Kfs]
abbrev KcK:AV:=(.lit 1 [[.v 1],[.v 2],[.v 3]])
abbrev KcL:tK:=(1,[([0],1)],[([],2)],[([],1)])
abbrev KcM:AV:=(.cZ 3 1 1 KgB)
abbrev KcN:AV:=(.cZ 3 1 3 KgD)
abbrev KcO:AV:=(.cZ 3 1 4 KgD)
abbrev KcP:AV:=(.cZ 3 1 5 KgD)
abbrev KcT:AV:=(.cZ 3 1 2 KgD)
abbrev Kc0:AV:=(.agg [.q 3 1,.i 0,.i 0,.i 0])
abbrev Kc1:AV:=(.agg [.q 3 2,.i 0,.i 0,.i 0])
abbrev Kc2:AV:=(.cZ 3 1 3 KgF)
abbrev Kc3:AV:=(.cZ 3 1 4 KgF)
abbrev Kc5:AV:=(.agg [.v 8,.v 9,.v 10,.v 11])
abbrev Kc6:tD:=[Kg7,(1,[([3],1)])]
abbrev Kc7:tD:=[Kg7,(1,[([2],1)])]
abbrev Kc8:tD:=[Kg7,Kg9]
abbrev Kc9:tD:=[Kg7,(1,[([4],1)])]
abbrev Kda:tD:=[(0,[([],17)]),(2,[([0],1)])]
abbrev Kdb:tD:=[Kg7,Kg8]
abbrev Kdc:tM:=[Kdu]
abbrev Kdd:tD:=[Khn,(4,[([1],1)])]
abbrev Kde:tG:=[(0,100),(0,3),(0,4),(0,100)]
abbrev Kdg:tD:=[(3,[([0],1)]),(4,[([1],1)])]
abbrev Kdh:tD:=[Khl,(2,[([2],1)])]
abbrev Kdi:AV:=(.agg [.v 7,.v 8,.v 9,.v 10])
abbrev Kdk:AV:=(.agg [.o 3,.o 4,.o 5,.o 6])
abbrev Kdl:tG:=[(1,12),(1,12),(1,12),(3,3)]
abbrev Kdp:Poly:=[([5],1),([14],-1),([15],1)]
abbrev Kdr:AV:=(.agg [.i 0,.i 0,.i 0,.i 0])
abbrev Kds:AV:=(.agg [.v 3,.v 4,.v 5,.v 6])
abbrev Kdt:AV:=(.agg [.v 4,.v 5,.v 6,.v 7])
abbrev KdG:tG:=[(0,4),(1,5),(0,40),(0,20)]
abbrev KdH:tA:=[KfT,.v 2]
abbrev KdI:tE:=[(8,[([5],1)],[.v 6,.o 4])]
abbrev KdJ:tG:=[(1,4),(0,3),(1,12),(1,12)]
abbrev KdK:AV:=(.e [([17],1),([20],(-1))])
abbrev KdL:tA:=[KfT,.o 3]
abbrev KdM:tA:=[KfT,.v 1]
abbrev KdS:tG:=[(0,4),(1,5),(0,4),(0,40)]
abbrev KdT:tC:=[Ker]
abbrev KdU:Poly:=[([1],-1),([4],1),([7],1)]
abbrev KdV:tC:=[([([1],1),([8],-1)],1,4)]
abbrev KdW:tC:=[([([0],1),([4],-1)],1,4)]
abbrev KdX:tC:=[Kew]
abbrev Kgf:Poly:=[([1],1),([2],-1)]
abbrev KdY:tC:=[(Kgf,1,5)]
abbrev Kd0:tG:=[(1,60),(0,59),(0,40),nB]
abbrev Kgg:Poly:=[([2],-1),([3],1)]
abbrev Kd2:tI:=(Kgg,1,100)
abbrev Kd5:tI:=([([0],1),([2],-1)],1,30)
abbrev Kd6:AV:=(.cZ 101 3 3 [([3],1)])
abbrev Kd7:AV:=(.cZ 101 3 3 [([2],1)])
abbrev Kd9:tI:=(Kgc,1,40)
abbrev Keg:AV:=(.cZ 101 3 2 [([0],1)])
abbrev Kei:tI:=([([0],1),([3],-1)],1,40)
abbrev Kel:tI:=([([2],1),([3],-1)],1,40)
abbrev Kem:tI:=(Kgf,0,40)
abbrev Ken:AV:=(.cZ 137 9 4 [([0],1)])
abbrev Keo:tG:=[(0,4),(0,3),(1,5),(0,4)]
abbrev Kep:tG:=[Ke8]
abbrev Kfp:Int×Int:=(0,4611686018427387904)
abbrev Keq:tG:=[Kfp]
abbrev Ket:AV:=(.agg [.o 8,.o 9,.o 10])
abbrev Keu:tI:=(Kgd,0,0)
abbrev Kgj:Poly:=[([3],-1),([7],1)]
abbrev KeA:tI:=(Kgj,0,0)
abbrev KeC:tI:=([([1],-1),([5],1)],0,0)
abbrev KeD:tI:=([([2],-1),([6],1)],0,0)
abbrev KeE:tG:=[Kfr]
abbrev KeF:AV:=(.cZ 44 2 9 [([3],1)])
abbrev KeG:AV:=(.lit 1 [[.v 1],[.v 2]])
abbrev KeO:Poly:=[([],1),([6],1),([8],2)]
abbrev KeP:AV:=(.cZ 50 9 1 [([1],1)])
abbrev KeQ:tG:=[(0,12),(0,100),(0,100)]
abbrev KeW:AV:=(.cZ 3 1 1 [([1],1)])
abbrev KeX:AV:=(.cZ 3 1 3 [([1],1)])
abbrev Ke0:AV:=(.cZ 3 1 4 [([4],1)])
abbrev Ke1:AV:=(.cZ 3 1 5 [([4],1)])
abbrev Ke2:AV:=(.cZ 3 1 3 [([2],1)])
abbrev Ke3:AV:=(.cZ 3 1 4 [([2],1)])
abbrev Ke4:AV:=(.cZ 3 1 5 [([2],1)])
abbrev Kfc:AV:=(.cZ 3 1 0 [([],17)])
abbrev Kfd:AV:=(.cZ 3 1 1 [([],17)])
abbrev Kfe:AV:=(.cZ 3 1 2 [([2],1)])
abbrev Kff:AV:=(.cZ 3 1 0 [([0],1)])
abbrev Kfj:AV:=(.cZ 3 1 2 [([7],1)])
abbrev Kfk:AV:=(.cZ 3 1 1 [([3],1)])
abbrev Kfm:AV:=(.e [([4],1),([15],1)])
abbrev Kfn:AV:=(.cZ 3 1 4 [([1],1)])
abbrev Kfq:tH:=(14,[.v 0,.v 1],(.v 2))
abbrev Kft:AV:=(.e [([4],1),([7],1)])
abbrev Kfu:tG:=[(0,30),(0,30),(1,20)]
abbrev Kfy:AV:=(.e [([],1),([17],1)])
abbrev Kfz:AV:=(.e KgB)
abbrev KfB:AV:=(.e KgD)
abbrev KfD:tJ:=(14,[([0],1)],[.o 5])
abbrev KfE:tJ:=(20,[([0],1)],[.o 8])
abbrev KfF:AV:=(.e KgF)
abbrev KfH:tG:=[(1,12),(1,12),(2,2)]
abbrev KfK:AV:=(.e KgE)
abbrev KfS:AV:=(sN (.q 8 11) (.o 2))
abbrev KfU:AV:=(.bG [.q 3 0,.i 1])
abbrev KfY:tG:=[(1,5),(1,4),(0,12)]
abbrev Kf4:tG:=[(1,20),(0,1000000)]
abbrev Kf5:tG:=[(0,4),(0,3),(1,40)]
abbrev Kgt:tI:=([([10],1)],0,39)
abbrev Kf6:tC:=[Kgt]
abbrev Kf8:tG:=[(0,4),(0,3),(1,5)]
abbrev Kf9:AV:=(Kgm)
abbrev Kgh:tC:=[([([8],1)],0,39)]
abbrev Kgk:Poly:=[([1],-1),([4],1)]
abbrev Kgn:AV:=(.own 44 2 2 0 0)
abbrev Kgo:AV:=(.own 44 2 2 0 4)
abbrev Kgx:AV:=(.own 3 1 1 0 0)
abbrev Kgy:AV:=(.own 3 1 2 0 0)
abbrev Kgz:AV:=(.own 3 1 3 0 0)
abbrev KgC:AV:=(.own 3 1 4 0 0)
abbrev KgH:AV:=(.own 3 1 6 0 6)
abbrev KgI:tI:=([([9],1)],0,39)
abbrev KgK:tD:=[(7,[([12],1)])]
abbrev KgN:tD:=[Kg7]
abbrev KgP:tA:=[.q 1 0,.q 2 1]
abbrev KgQ:tD:=[Kha]
abbrev KgR:tD:=[(0,[([3],1)])]
abbrev KgZ:tD:=[Khl]
abbrev Kg0:tG:=[(0,40),(0,40)]
abbrev Kg1:tD:=[(3,[([0],1)])]
abbrev Kg2:tD:=[Kg9]
abbrev Kg5:tG:=[(0,4),(0,16)]
abbrev Khj:tG:=[(0,3),(0,4)]
abbrev Khp:tG:=[(0,1000000)]
end
namespace Mc
variable {x:AV} {B:dC} {A:Nat->Prop} {m:Nat->St} {bs:List dC} {ids:qB}
section
variable {b1:Bk} {e1:@Ev b1} {b2:Bk} {e2:@Ev b2} {ids:qB}
def Slot.af1 {T sz id c:Nat} {n:Poly} {k:Nat} (h:ids[c]?=some (some id)) (o:k=(cQ (@Ev.eZ b1 e1) n).toNat):Slot b1 e1 b2 e2 ids (.cZ T sz id n) (.own T sz c 0 k):=by
 intro m A w v f;have e:=sZ (m:=m) h;cases f with
 |pure _ _ h=>cases h
 |cZ _ _ _ _ b len cap d l p g j f =>
  have:k=len:=by omega
  subst this;have:=@Rd.own b2 e2 _ A w T sz c 0 k b cap (e.trans d) l g j (by simp_all)
  simp_all
 |uH _ _ _ _ a d q =>
  have:k=0:=by omega
  subst this;exact @Rd.vJ b2 e2 _ A w T sz c 0 a (e.trans d)
 |uI _ _ _ _ a i cap d=>exact @Rd.wC b2 e2 _ A w T sz c 0 k a i cap (e.trans d)
def Rd.fn0 [Bk] [Ev] {m:Nat->St} {A:Nat->Prop} {w:World} {q:FuncId} {v:Value} (a:Rd m A w (.fn (.func q) [] []) v):v=.func (.func q) #[] #[]:=by
 cases a with
 |pure _ _ h=>cases h<;>simp_all
 |fn _ _ _ vs b c d=>simp_all
def eE.fn0 [Bk] [Ev] {A:Nat->Prop} {w:World} {q:FuncId}:eE A w (.fn (.func q) [] []) (.func (.func q) #[] #[]):=.fn _ [] [] #[] #[] rfl rfl (by simp_all) (by simp_all)
def Slot.fnC {q:FuncId}:Slot b1 e1 b2 e2 ids (.fn (.func q) [] []) (.c (.func (.func q) #[] #[])):=by
 intro m A w v a;obtain rfl:=@Rd.fn0 b1 e1 _ _ _ _ _ a;exact .pure _ _ (.c _)
def Slot.cFn {q:FuncId}:Slot b1 e1 b2 e2 ids (.c (.func (.func q) #[] #[])) (.fn (.func q) [] []):=by
 intro m A w v a;cases a with|pure _ _ h=>cases h;exact .pure _ _ eE.fn0
def Slot.fnF {q:FuncId}:Slot b1 e1 b2 e2 ids (.fn (.func q) [] []) (.fn (.func q) [] []):=by
 intro m A w v a;obtain rfl:=@Rd.fn0 b1 e1 _ _ _ _ _ a;exact .pure _ _ eE.fn0
def Slot.akG {k:Nat}:Slot b1 e1 b2 e2 ids .emp (.lit k []):=by
 intro m A w v b;cases b with
 |pure _ _ b=>cases b with|emp a=>exact .pure _ _ (.nR k a 0 (a0j _))
def Slot.akF {T sz b:Nat} (h:ids[b]?=some none):Slot b1 e1 b2 e2 ids .emp (.own T sz b 0 0):=by
 intro m A w v c;have d:=TV (m:=m) h;cases c with
 |pure _ _ c=>cases c with|emp a=>exact @Rd.vJ b2 e2 _ A w T sz b 0 a d
end
def lH [Bk] [Ev] (x:AV):AV:=match x with
 | .cZ T a id n=>.own T a id 0 (evP Ev.eZ n).toNat
 | .own T a id i n=>.own T a id i n
 | .ptr a id i off=>.ptr a id i off
 | .fn (.func q) [] []=>.c (.func (.func q) #[] #[])
 | .pT=>.pT
 |x=>den 12 x
def vN [Bk] [Ev] (B:dC):dC:=match B with
 | .cells T a bL=>.cells T a (bL.map (·.map lH))
 | .sc T a base cJ tail _=>.cells T a (afz ((cJ.map fun q=>(q.1,q.2.map lH)).foldl (fun l q=>l.set (evP Ev.eZ q.1).toNat q.2) (Ev.seq base)) (tail.map (·.map lH)))
 |B=>B
def sO (n:Nat) (x:AV):Bool:=match x with
 | .ptr _ id _ _=>decide (id<n)
 | .cZ _ _ id _=>decide (id<n)
 | .own _ _ id _ _=>decide (id<n)
 | .fn (.func _) [] []=>true
 | .pT=>true
 |x=>FW 12 x
def sI (b:Bk) (n:Nat) (x:AV):Bool:=match x with
 | .ptr _ id _ _=>decide (id<n)
 | .cZ _ _ id p=>decide (id<n)&&b.lens.any fun t=>t.2==p
 | .own _ _ id _ _=>decide (id<n)
 | .fn (.func _) [] []=>true
 | .pT=>true
 |x=>FW 12 x&&mW 12 x
def bO (n:Nat) (B:dC):Bool:=match B with
 | .cells _ _ bL=>bL.all (·.all (sO n))
 | .sc _ _ _ cJ tail _=>cJ.all (fun q=>q.2.all (sO n))&&tail.all (·.all (sO n))
 |_=>false
def bI (b:Bk) (n:Nat) (B:dC):Bool:=match B with
 | .cells _ _ bL=>bL.all (·.all (sI b n))
 | .sc _ _ base cJ tail p=>(cJ.all fun q=>q.2.all (sI b n)&&b.gI.any fun t=>t.1==base&&t.2.1==q.1)&&tail.isEmpty&&b.lens.any fun t=>t.1==base&&t.2==p
 |_=>false
def ES [Bk] [Ev] (x:AV):(lH x).one=x.one:=by
 cases x with
 |fn f a b=>cases f<;>cases a<;>cases b<;>first|rfl|exact oU 12 _
 |_=>first|rfl|exact oU 12 _
def Sd [Bk] [Ev] {x:AV} (h:Cl x):lH x=x:=by
 cases x<;>first|rfl|exact h.den 12|(cases h;done)
def ON [Bk] [Ev] (base:Nat) (cJ:List (Poly×List AV)) (tail:List (List AV)):afz ((cJ.map fun q=>(q.1,q.2.map lH)).foldl (fun l q=>l.set (evP Ev.eZ q.1).toNat q.2) (Ev.seq base)) (tail.map (·.map lH))=(rowsOf base cJ tail).map (·.map lH):=by
 have d:(Ev.seq base).map (·.map lH)=Ev.seq base:=by
  conv=>rhs;rw[<-a2u (Ev.seq base)]
  refine a1c fun e b=>?_;show e.map lH=id e
  conv=>rhs;rw[id,<-a2u e]
  exact a1c fun x a=>Sd (Ev.vF base e b x a)
 have c:∀(cJ:List (Poly×List AV)) (l:List (List AV)),(cJ.map fun q=>(q.1,q.2.map lH)).foldl (fun l q=>l.set (evP Ev.eZ q.1).toNat q.2) (l.map (·.map lH))=(cJ.foldl (fun l q=>l.set (cQ Ev.eZ q.1).toNat q.2) l).map (·.map lH):=by
  intro cJ;induction cJ<;>grind[List.map_set,xV]
 grind[Sw,rowsOf]
section
variable {b:Bk} {ev:@Ev b} {n:Nat}
def acU (h:sO n x=true):Slot b ev dK dN (Xe n) x (@lH b ev x):=by
 have data:FW 12 x=true->Slot b ev dK dN (Xe n) x (@den b ev 12 x):=fun h=>by
  have c:=@Sc b ev 12 x h;exact Slot.data rfl (c.den 12) c (tU 12 _ c)
 cases x with
 |ptr d id i off=>exact Slot.ptr (Ap (of_decide_eq_true h))
 |own T d id i k=>exact Slot.own (Ap (of_decide_eq_true h))
 |cZ T d id p=>exact Slot.af1 (Ap (of_decide_eq_true h)) (by rw[xV])
 |pT=>exact Slot.pT
 |fn f a b=>cases f<;>cases a<;>cases b<;>first|exact Slot.fnC|exact data h
 |_=>exact data h
def agm (h:sI b n x=true):Slot dK dN b ev (Xe n) (@lH b ev x) x:=by
 have data:(FW 12 x&&mW 12 x)=true->Slot dK dN b ev (Xe n) (@den b ev 12 x) x:=fun h=>by
  rw[a0e]at h;have e:=@Sc b ev 12 x h.1;exact Slot.data (e.den 12) rfl e h.2
 cases x with
 |ptr d id i off=>exact Slot.ptr (Ap (of_decide_eq_true h))
 |own T d id i k=>exact Slot.own (Ap (of_decide_eq_true h))
 |cZ T d id p =>
  simp only[sI,a0e]at h;obtain⟨t,g,c⟩:=a1n.1 h.2;have c:t.2=p:=eq_of_beq c;have:=@Ev.anp b ev t g;rw[c]at this;refine Slot.ahq (Ap (of_decide_eq_true h.1)) ?_;rw[xV];show((cQ (@Ev.eZ b ev) p).toNat:Int)=cQ (@Ev.eZ b ev) p;have:cQ (@Ev.eZ b ev) p=(((@Ev.C7 b ev).getD t.1 []).length:Int):=this.symm;omega
 |pT=>exact Slot.pT
 |fn f a b=>cases f<;>cases a<;>cases b<;>first|exact Slot.cFn|exact data h
 |_=>exact data h
def agk:∀{l:List AV},l.all (sO n)=true->zY b ev dK dN (Xe n) l (l.map (@lH b ev))
 |[],_=>.nil
 |x::l,h=>by
  rw[a4i,a0e]at h;exact .cons (acU h.1) (agk h.2)
def agl:∀{l:List AV},l.all (sI b n)=true->zY dK dN b ev (Xe n) (l.map (@lH b ev)) l
 |[],_=>.nil
 |x::l,h=>by
  rw[a4i,a0e]at h;exact .cons (agm h.1) (agl h.2)
def XZ [Bk] [Ev] {bL:List (List AV)} {i j:Nat} {y:AV} (h:iE (bL.map (·.map lH)) i j=some y):∃x,iE bL i j=some x/\y=lH x:=by
 rw[rV]at h;obtain⟨x,a,rfl⟩:=a1b.1 h;simp_all
def apw {h1:AH} {i:Nat} (m:h1 i=B) (h:bO n B=true):Oy b ev dK dN (Xe n) h1 (some i) (@vN b ev B):=by
 cases B with
 |cells T e bL =>
  refine⟨trivial,T,e,bL,bL.map (·.map (@lH b ev)),by rw[m];rfl,rfl,by simp,?_,?_⟩
  .intro i j y f
   obtain⟨x,a,rfl⟩:=@XZ b ev _ _ _ _ f;obtain⟨r,g,l⟩:=pZ a;exact⟨x,a,(@ES b ev x).symm,acU (a0i.1 (a0i.1 h r g) x l)⟩
  simp_all
 |sc T e base cJ tail p =>
  have g:=@ON b ev base cJ tail;refine⟨trivial,T,e,@rowsOf b ev base cJ tail,(@rowsOf b ev base cJ tail).map (·.map (@lH b ev)),by rw[m];rfl,by simp only[vN];rw[g];rfl,by simp,?_,?_⟩
  .intro i j y f
   obtain⟨x,a,rfl⟩:=@XZ b ev _ _ _ _ f;refine⟨x,a,(@ES b ev x).symm,?_⟩;obtain⟨r,d,k⟩:=pZ a;simp only[bO,a0e]at h;rcases @A8 b ev _ _ _ _ d with d|⟨q,o,rfl⟩|d
   .have c:=@Ev.vF b ev base r d _ k
    rw[@Sd b ev x c];exact Slot.data (c.den 12) (c.den 12) c (tU 12 _ c)
   .exact acU (a0i.1 (a0i.1 h.1 q o) x k)
   .exact acU (a0i.1 (a0i.1 h.2 r d) x k)
  simp_all
 |_=>cases h
def apx {h1:AH} {i:Nat} (D:h1 i=@vN b ev B) (h:bI b n B=true):Oy dK dN b ev (Xe n) h1 (some i) B:=by
 cases B with
 |cells T e bL =>
  refine⟨trivial,T,e,bL.map (·.map (@lH b ev)),bL,by rw[D];rfl,rfl,by simp,?_,?_⟩
  .intro i j y g
   obtain⟨r,k,v⟩:=pZ g;exact⟨_,by simp_all[rV],@ES b ev y,agm (a0i.1 (a0i.1 h r k) y v)⟩
  simp_all
 |sc T e base cJ tail p =>
  simp only[bI,a0e,a3k]at h;obtain⟨⟨w,rfl⟩,h⟩:=h;obtain⟨t,G,m⟩:=a1n.1 h;rw[a0e]at m;have A:t.1=base:=eq_of_beq m.1;have x:t.2=p:=eq_of_beq m.2;have C:=@Ev.anp b ev t G;rw[A,x]at C;have k:=@ON b ev base cJ [];refine⟨⟨?_,?_⟩,T,e,(@rowsOf b ev base cJ []).map (·.map (@lH b ev)),@rowsOf b ev base cJ [],?_,rfl,by simp,?_,?_⟩
  .rw[@kM b ev]
   simp only[a2w,a2o];exact C.symm
  .intro q l
   have:=a0i.1 w q l;simp only[a0e]at this;obtain⟨z,F,a⟩:=a1n.1 this.2;rw[a0e]at a;have u:z.1=base:=eq_of_beq a.1;have s:z.2.1=q.1:=eq_of_beq a.2;obtain⟨o,f,-⟩:=@Ev.sat b ev z F;rw[s]at o f;rw[u]at f;exact⟨o,(a0y.1 f).1⟩
  .rw[D];simp only[vN];rw[k];rfl
  .intro i j y g
   refine⟨@lH b ev y,by simp_all[rV],@ES b ev y,?_⟩;obtain⟨r,d,E⟩:=pZ g;rcases @A8 b ev _ _ _ _ d with d|⟨q,l,rfl⟩|d
   .have c:=@Ev.vF b ev base r d _ E
    rw[@Sd b ev y c];exact Slot.data (c.den 12) (c.den 12) c (tU 12 _ c)
   .have:=a0i.1 w q l
    simp only[a0e]at this;exact agm (a0i.1 this.1 y E)
   simp_all
  simp_all
 |_=>cases h
def aii {n:Nat}:∀(i j k:Nat),(Xe n)[i]?=some (some k)->(Xe n)[j]?=some (some k)->i=j:=by
 grind[Xe]
end
def Tt (b:Bk) (ev:@Ev b) {w0:World} {a0:Act} {w:World} {a:Act} {f:List AV} (e:@dZ b ev A w0 a0 m w a f (eB bs)) (c:(f.all (sO bs.length)&&bs.all (bO bs.length))=true) :
  ∃g,@dZ dK dN A w0 a0 g w a (f.map (@lH b ev)) (eB (bs.map (@vN b ev))):=by
 rw[a0e]at c;refine⟨_,dZ.to (ids:=Xe bs.length) e (agk c.1) ?_ aii⟩;have:=ad7 b ev dK dN (Xe bs.length) (h1:=eB bs) (bs:=bs.map (@vN b ev)) some ?_
 .rw[a0z]at this;exact this
 .intro i B d
  rw[a0o]at d;obtain⟨h,h',rfl⟩:=a1b.1 d;exact apw (by simp_all[eB]) (a0i.1 c.2 h (a0a h'))
def uP (b:Bk) (ev:@Ev b) {w0:World} {a0:Act} {w:World} {a:Act} {f fc:List AV} {bc:List dC} (d:@dZ dK dN A w0 a0 m w a fc (eB bc)) (j:f.map (@lH b ev)=fc) (eb:bs.map (@vN b ev)=bc) (c:(f.all (sI b bs.length)&&bs.all (bI b bs.length))=true) (g:b.mS=[]:=by rfl) :
  ∃e,@dZ b ev A w0 a0 e w a f (eB bs):=by
 subst j;subst eb;rw[a0e]at c;refine⟨_,dZ.to (ids:=Xe bs.length) d (agl c.1) ?_ aii g⟩;refine ad7 dK dN b ev (Xe bs.length) (bs:=bs) some ?_;intro i B h;exact apx (by simp_all[eB]) (a0i.1 c.2 B (a0a h))
def AO (ids:qB) (x y:AV):Bool:=match x,y with
 | .emp,.own _ _ id 0 0=>decide (ids[id]?=some none)
 | .emp,.lit _ []=>true
 | .fn (.func q) [] [],.fn (.func a) [] []=>decide (q=a)
 |x,y=>Iw ids 16 x y
def ajx (ids:qB):List (Poly×List AV)->List (Poly×List AV)->Bool
 |[],[]=>true
 |a::b,q::l=>decide (a.1=q.1)&&LL (AO ids) a.2 q.2&&q.2.all (fun x=>x.one)&&ajx ids b l
 |_,_=>false
def an9 (ids:qB) (h:AH) (o:Option Nat) (B:dC):Bool:=match o,B with
 |some i,.sc T d base cJ [] n=>(match h i with | .sc e c a b [] n'=>decide (e=T/\c=d/\a=base/\n'=n)&&ajx ids b cJ|_=>false)
 |_,_=>false
def aoa (ids:qB) (h:AH) (o:Option Nat) (B:dC):Bool:=an9 ids h o B||match o,B with
 |none,.cells _ _ []=>true
 |some i,.cells T c bL=>(match h i with | .cells d b a=>decide (d=T/\b=c)&&(Ia (AO ids) a bL&&bL.all (·.all fun x=>x.one))|_=>false)
 |o,B=>aob ids h o B
def XV (ids:qB) (h:AH):qB->List dC->Bool
 |[],[]=>true
 |o::l,B::bs=>aoa ids h o B&&XV ids h l bs
 |_,_=>false
def Md [b:Bk] [e:Ev] {y:AV} (h:AO ids x y=true):Slot b e b e ids x y:=by
 unfold AO at h;split at h
 .exact Slot.akF (of_decide_eq_true h)
 .exact Slot.akG
 .rw[of_decide_eq_true h];exact Slot.fnF
 .exact Me h
def Fy [b:Bk] [e:Ev] {ids:qB}:∀{l l':List AV},LL (AO ids) l l'=true->zY b e b e ids l l'
 |[],[],_=>.nil
 |[],_::_,h=>by cases h
 |_::_,[],h=>by cases h
 |x::l,y::m,h=>by
  unfold LL at h;rw[a0e]at h;exact .cons (Md h.1) (Fy h.2)
def OC {y:AV} (h:AO ids x y=true) (a:y.one=true):x.one=true:=by
 unfold AO at h;split at h
 .rfl
 .rfl
 .rfl
 .exact OD h a
def ajn (b:Bk) (e:@Ev b) (ids:qB) (r' r:List AV):Prop:=r'.length=r.length/\∀(j:Nat) (y:AV),r[j]?=some y->∃x,r'[j]?=some x/\x.one=y.one/\Slot b e b e ids x y
def ajn.of [b:Bk] [e:Ev] {r' r:List AV} (h:LL (AO ids) r' r=true) (h1:r.all (fun x=>x.one)=true):ajn b e ids r' r:=by
 obtain⟨l,g⟩:=uW h;refine⟨l,fun j y c=>?_⟩
 obtain⟨x,d,hs⟩:=g j y c;have a:=a0i.1 h1 y (a0a c);exact⟨x,d,by rw[a];exact OC hs a,Md hs⟩
def acH [b:Bk] [e:Ev] {ids:qB}:∀{a cJ:List (Poly×List AV)},ajx ids a cJ=true->∀(l' l:List (List AV)),l'.length=l.length->(∀(i:Nat) (r' r:List AV),l'[i]?=some r'->l[i]?=some r->ajn b e ids r' r) ->
  (∀q∈cJ,∃d∈a,d.1=q.1)/\(a.foldl (fun l q=>l.set (cQ Ev.eZ q.1).toNat q.2) l').length=(cJ.foldl (fun l q=>l.set (cQ Ev.eZ q.1).toNat q.2) l).length/\∀(i:Nat) (r' r:List AV),(a.foldl (fun l q=>l.set (cQ Ev.eZ q.1).toNat q.2) l')[i]?=some r'->(cJ.foldl (fun l q=>l.set (cQ Ev.eZ q.1).toNat q.2) l)[i]?=some r->ajn b e ids r' r
 |[],[],_,l',l,f,j=>⟨fun q m=>absurd m a0b,f,j⟩
 |[],_::_,h,_,_,_,_=>by cases h
 |_::_,[],h,_,_,_,_=>by cases h
 |d::a,q::cJ,h,l',l,f,j=>by
  unfold ajx at h;simp only[a0e,decide_eq_true_eq]at h;obtain⟨⟨⟨t,s⟩,p⟩,o⟩:=h
  obtain⟨w,v,u⟩:=acH o (l'.set (cQ Ev.eZ d.1).toNat d.2) (l.set (cQ Ev.eZ q.1).toNat q.2) (by simp[f]) (by
   intro i r' r c g;rw[t,a0r]at c;rw[a0r]at g;split at c
   .rename_i n
    rw[if_pos n]at g;rw[f]at c;split at c
    .rename_i k
     rw[if_pos k]at g;cases c;cases g;exact ajn.of s p
    simp_all
   grind)
  grind
def ak4 [b:Bk] [e:Ev] {h:AH} (hs:∀i,sA (h i)) {o:Option Nat} (p:an9 ids h o B=true):Oy b e b e ids h o B:=by
 unfold an9 at p;split at p
 .rename_i i T E base cJ n
  split at p
  .rename_i D v a u n' m
   rw[a0e,decide_eq_true_eq]at p;obtain⟨⟨rfl,rfl,rfl,rfl⟩,C⟩:=p
   obtain⟨H,x,w⟩:=acH C (Ev.seq a) (Ev.seq a) rfl (fun i r' r m A=>by
    rw[m]at A;cases A;exact⟨rfl,fun j y d=>⟨y,d,rfl,Slot.cl (Ev.vF a r' (a0a m) y (a0a d))⟩⟩)
   have s:=hs i;rw[m]at s;obtain⟨G,F⟩:=s;refine⟨⟨?_,?_⟩,D,v,rowsOf a u [],rowsOf a cJ [],by rw[m];rfl,rfl,?_,?_,?_⟩
   .simp_all[kM]
   .grind
   .simp_all[kM]
   .intro i j y d
    unfold rowsOf at d |-;rw[a1i]at d |-;unfold iE at d |-;cases f:(cJ.foldl (fun l q=>l.set (cQ Ev.eZ q.1).toNat q.2) (Ev.seq a))[i]? with
    |none=>simp_all
    |some r =>
     rw[f]at d;have c:=(a0y.1 f).1;rw[<-x]at c;have k:=a0d c;obtain⟨-,g⟩:=w i _ r k f;grind
   .intro z r f
    unfold rowsOf at z f;rw[a1i]at z f;obtain⟨i,t⟩:=a1j.1 f;have c:=(a0y.1 t).1;rw[<-x]at c;have k:=a0d c;rw[<-(w i _ r k t).1];simp_all
  simp_all
 simp_all
def ak5 [b:Bk] [e:Ev] {h:AH} (hs:∀i,sA (h i)) {o:Option Nat} (a:aoa ids h o B=true):Oy b e b e ids h o B:=by
 unfold aoa at a;rw[a1w]at a;rcases a with a|a
 .exact ak4 hs a
 split at a
 .exact⟨trivial,_,_,rfl⟩
 .rename_i i T w bL
  split at a
  .rename_i v f d t
   rw[a0e,a0e,decide_eq_true_eq]at a;obtain⟨⟨rfl,rfl⟩,m,u⟩:=a;obtain⟨q,p⟩:=adS m;refine⟨trivial,v,f,d,bL,by rw[t];rfl,rfl,q,?_,adR m⟩;intro i j y l;obtain⟨x,n,g⟩:=p i j y l;obtain⟨r,s,k⟩:=pZ l;have c:y.one=true:=a0i.1 (a0i.1 u r s) y k;exact⟨x,n,by rw[c];exact OC g c,Md g⟩
  simp_all
 .exact ak6 hs a
def Nx [b:Bk] [e:Ev] {ids:qB} {h:AH} (hs:∀i,sA (h i)):∀{l:qB} {bs:List dC},XV ids h l bs=true->aas b e b e ids h l bs
 |[],[],_=>.nil
 |[],_::_,h=>by cases h
 |_::_,[],h=>by cases h
 |o::l,B::bs,h=>by
  unfold XV at h;rw[a0e]at h;exact .cons (ak5 hs h.1) (Nx hs h.2)
def ndC (ids:qB):Bool:=decide (ids.filterMap id).Nodup
def ahN:∀{ids:qB},ndC ids=true->∀(i j k:Nat),ids[i]?=some (some k)->ids[j]?=some (some k)->i=j:=by
 intro ids h;have a:(ids.filterMap id).Nodup:=of_decide_eq_true h;clear h;induction ids<;>grind
abbrev lC (ids:qB) (o:Option (RT Out)) (f:List AV) (t:List Mc.dC):Bool:=LL (AO ids) (LA o) f&&XV ids (oT o).get ids t&&ndC ids&&(f.all (sO t.length)&&t.all (bO t.length))
def PW (b:Bk) (ev:@Ev b) {w0:World} {a0:Act} {w:World} {a:Act} {o:Option (RT Out)} {f2:List AV} (d:@dZ b ev A w0 a0 m w a (LA o) (oT o).get) (c:lC ids o f2 bs=true) (f:b.mS=[]) :
  ∃e,@dZ dK dN A w0 a0 e w a (f2.map (@lH b ev)) (eB (bs.map (@vN b ev))):=by
 simp only[lC,a0e]at c;refine Tt b ev (d.to (Fy c.1.1.1) (Nx d.rel.scs c.1.1.2) (ahN c.1.2) f) ?_
 simp_all
def fr (N:Nat) (l:List (Nat×AV)):List AV:=(List.range N).map fun i=>((l.find? fun t=>t.1==i).map (·.2)).getD .pT
end Mc
section
open Mc
variable {fi:List AV} {bi:List Mc.dC} {fn:Func} {o:Option (RT Out)}
def nV (b:Bk) (c:Code) (fi:List AV) (bi:List Mc.dC) (ids:qB) (fo:List AV) (bo:List Mc.dC) (o:Option (RT Out)):Prop:=uL b c fi.length fi bi bi.length=o/\(fi.all (sI b bi.length)&&bi.all (bI b bi.length))=true/\(OB o&&lC ids o fo bo)=true
def dD (b:Bk) (c:Code) (fi:List AV) (bi:List Mc.dC) (x:Nat) (ids:qB) (fo:List AV) (bo:List Mc.dC):Prop:=∃o,uL b c fi.length fi bi bi.length=o/\(fi.all (sI b bi.length)&&bi.all (bI b bi.length))=true/\(pI o x&&lC ids o fo bo)=true
def pJ (b:Bk) (c:Option (RT Out)) (k:Nat) (fi:List AV) (bi:List Mc.dC) (ids:qB) (fo:List AV) (bo:List Mc.dC) (o:Option (RT Out)):Prop:=IF b c k fi.length fi bi bi.length=o/\(fi.all (sI b bi.length)&&bi.all (bI b bi.length))=true/\(OB o&&lC ids o fo bo)=true
def Fa (b:Bk) (c:Option (RT Out)) (k:Nat) (fi:List AV) (bi:List Mc.dC) (x:Nat) (ids:qB) (fo:List AV) (bo:List Mc.dC):Prop:=∃o,IF b c k fi.length fi bi bi.length=o/\(fi.all (sI b bi.length)&&bi.all (bI b bi.length))=true/\(pI o x&&lC ids o fo bo)=true
def ajm (b:Bk) (fn:Func) (c:Code) (fi:List AV) (bi:List Mc.dC) (r:AV):Prop:=∃o,uL b c fi.length fi bi bi.length=o/\(fi.all (sI b bi.length)&&bi.all (bI b bi.length))=true/\(pI o 1||pI o 0)=true/\((fJ Tryz.prog fn (LA o) (oT o).get).bind fun x=>(vR (oT o).get 16 x).map (·.1))=some r
def iU (b:Bk) (fn:Func) (c:Option (RT Out)) (k:Nat) (fi:List AV) (bi:List Mc.dC) (r:AV):Prop:=∃o,IF b c k fi.length fi bi bi.length=o/\(fi.all (sI b bi.length)&&bi.all (bI b bi.length))=true/\(pI o 1||pI o 0)=true/\((fJ Tryz.prog fn (LA o) (oT o).get).bind fun x=>(vR (oT o).get 16 x).map (·.1))=some r
def Is (b:Bk) (fn:Func) (c:Code) (fi:List AV) (bi:List Mc.dC) (r:AV):Prop:=∃o,uL b c fi.length fi bi bi.length=o/\(fi.all (sI b bi.length)&&bi.all (bI b bi.length))=true/\pI o 1=true/\((fJ Tryz.prog fn (LA o) (oT o).get).bind fun x=>(vR (oT o).get 16 x).map (·.1))=some r
def dD.of {b:Bk} {c:Code} {ids:qB} {fo:List AV} {bo:List Mc.dC} {x:Nat} (h:(fi.all (sI b bi.length) && bi.all (bI b bi.length))=true:=by decide +kernel) (g:(pI (uL b c fi.length fi bi bi.length) x && lC ids (uL b c fi.length fi bi bi.length) fo bo)=true:=by decide +kernel):dD b c fi bi x ids fo bo:=⟨_,rfl,h,g⟩
def Fa.of {b:Bk} {c:Option (RT Out)} {ids:qB} {fo:List AV} {bo:List Mc.dC} {x:Nat} {k:Nat} (h:(fi.all (sI b bi.length) && bi.all (bI b bi.length))=true:=by decide +kernel) (g:(pI (IF b c k fi.length fi bi bi.length) x && lC ids (IF b c k fi.length fi bi bi.length) fo bo)=true:=by decide +kernel):Fa b c k fi bi x ids fo bo:=⟨_,rfl,h,g⟩
def ajm.of {b:Bk} {c:Code} {r:AV} (h:(fi.all (sI b bi.length) && bi.all (bI b bi.length))=true:=by decide +kernel) (g:(pI (uL b c fi.length fi bi bi.length) 1 || pI (uL b c fi.length fi bi bi.length) 0)=true:=by decide +kernel) (e:((fJ Tryz.prog fn (LA (uL b c fi.length fi bi bi.length)) (oT (uL b c fi.length fi bi bi.length)).get).bind fun x=>(vR (oT (uL b c fi.length fi bi bi.length)).get 16 x).map (·.1))=some r:=by kernel_rfl):ajm b fn c fi bi r:=⟨_,rfl,h,g,e⟩
def iU.of {b:Bk} {c:Option (RT Out)} {r:AV} {k:Nat} (h:(fi.all (sI b bi.length) && bi.all (bI b bi.length))=true:=by decide +kernel) (g:(pI (IF b c k fi.length fi bi bi.length) 1 || pI (IF b c k fi.length fi bi bi.length) 0)=true:=by decide +kernel) (e:((fJ Tryz.prog fn (LA (IF b c k fi.length fi bi bi.length)) (oT (IF b c k fi.length fi bi bi.length)).get).bind fun x=>(vR (oT (IF b c k fi.length fi bi bi.length)).get 16 x).map (·.1))=some r:=by kernel_rfl):iU b fn c k fi bi r:=⟨_,rfl,h,g,e⟩
def Is.of {b:Bk} {c:Code} {r:AV} (h:(fi.all (sI b bi.length) && bi.all (bI b bi.length))=true:=by decide +kernel) (g:pI (uL b c fi.length fi bi bi.length) 1=true:=by decide +kernel) (e:((fJ Tryz.prog fn (LA (uL b c fi.length fi bi bi.length)) (oT (uL b c fi.length fi bi bi.length)).get).bind fun x=>(vR (oT (uL b c fi.length fi bi bi.length)).get 16 x).map (·.1))=some r:=by kernel_rfl):Is b fn c fi bi r:=⟨_,rfl,h,g,e⟩
def pW {Φ:iO} {a:Act} {w:World} (h:Φ .ret a w):∀k:List KI,KS Tryz.prog k Φ .ret a w
 |[]=>h
 | .seq y::k=>pW h k
 | .blk id::k=>pW h k
 | .scope::k=>⟨fun l h=>(by cases h),pW h k⟩
section
variable {b:Bk} {ev:@Ev b} {A:Nat->Prop} {w0:World} {a0:Act} {mm:Nat->St} {w:World} {a:Act} {Φ:iO} {c:Code} {oA:Option (RT Out)} {fi fo fc fd:List AV} {bi bo bc bd:List Mc.dC} {ids:qB} {k x:Nat}
def nV.go (s:nV b c fi bi ids fo bo o) (ev:@Ev b) (h:@lL b ev Tryz.prog) (e:@dZ dK dN A w0 a0 mm w a fc (eB bc)) (p:∀mm w a,@dZ dK dN A w0 a0 mm w a fd (eB bd)->(Code.loop (aW o)).wpIn (fw none) 9 Tryz.prog (KS Tryz.prog (oK o) Φ) a w)
  (l:fi.map (@lH b ev)=fc:=by rfl) (eb:bi.map (@vN b ev)=bc:=by rfl) (r:fo.map (@lH b ev)=fd:=by rfl) (q:bo.map (@vN b ev)=bd:=by rfl) (g:b.mS=[]:=by rfl):c.wpIn (fw none) 9 Tryz.prog Φ a w:=by
 obtain⟨j,i,f⟩:=s;rw[a0e]at f;obtain⟨n,e⟩:=uP b ev e l eb i g;refine agn b ev h (L:=100000) (d:=60) (k:=100) o j f.1 (a0h _) e ?_;intro mm w a e;obtain⟨m,e⟩:=PW b ev e f.2 g;grind
def dD.go (s:dD b c fi bi x ids fo bo) (ev:@Ev b) (h:@lL b ev Tryz.prog) (e:@dZ dK dN A w0 a0 mm w a fc (eB bc)) (p:∀mm w a,@dZ dK dN A w0 a0 mm w a fd (eB bd)->Φ (xOf x).to a w)
  (l:fi.map (@lH b ev)=fc:=by rfl) (eb:bi.map (@vN b ev)=bc:=by rfl) (r:fo.map (@lH b ev)=fd:=by rfl) (q:bo.map (@vN b ev)=bd:=by rfl) (g:b.mS=[]:=by rfl):c.wpIn (fw none) 9 Tryz.prog Φ a w:=by
 obtain⟨o,j,i,f⟩:=s;rw[a0e]at f;obtain⟨n,e⟩:=uP b ev e l eb i g;refine Ef b ev h (L:=100000) (d:=60) (k:=100) o j f.1 (a0h _) e ?_;intro mm w a e;obtain⟨m,e⟩:=PW b ev e f.2 g;grind
def pJ.go (s:pJ b oA k fi bi ids fo bo o) (ev:@Ev b) (g:@lL b ev Tryz.prog) (c:@dZ dK dN A w0 a0 mm w a fc (eB bc)) (n:∀mm w a,@dZ dK dN A w0 a0 mm w a fd (eB bd)->(Code.loop (aW o)).wpIn (fw none) 9 Tryz.prog (KS Tryz.prog (oK o) Φ) a w)
  (j:fi.map (@lH b ev)=fc:=by rfl) (eb:bi.map (@vN b ev)=bc:=by rfl) (q:fo.map (@lH b ev)=fd:=by rfl) (p:bo.map (@vN b ev)=bd:=by rfl) (f:b.mS=[]:=by rfl):KS Tryz.prog (oK oA) Φ (AX.exit k).to a w:=by
 obtain⟨i,h,e⟩:=s;rw[a0e]at e;obtain⟨m,c⟩:=uP b ev c j eb h f;refine agq b ev g (L:=100000) (d:=60) o i e.1 (a0h _) c ?_;intro mm w a c;obtain⟨l,c⟩:=PW b ev c e.2 f;grind
def Fa.go (s:Fa b oA k fi bi x ids fo bo) (ev:@Ev b) (g:@lL b ev Tryz.prog) (c:@dZ dK dN A w0 a0 mm w a fc (eB bc)) (n:∀mm w a,@dZ dK dN A w0 a0 mm w a fd (eB bd)->Φ (xOf x).to a w)
  (j:fi.map (@lH b ev)=fc:=by rfl) (eb:bi.map (@vN b ev)=bc:=by rfl) (q:fo.map (@lH b ev)=fd:=by rfl) (p:bo.map (@vN b ev)=bd:=by rfl) (f:b.mS=[]:=by rfl):KS Tryz.prog (oK oA) Φ (AX.exit k).to a w:=by
 obtain⟨o,i,h,e⟩:=s;rw[a0e]at e;obtain⟨m,c⟩:=uP b ev c j eb h f;refine Mt b ev g (L:=100000) (d:=60) o i e.1 (a0h _) c ?_;intro mm w a c;obtain⟨l,c⟩:=PW b ev c e.2 f;grind
def Nd {r r':AV} (ev:@Ev b) (c:((fJ Tryz.prog fn (LA o) (oT o).get).bind fun x=>(vR (oT o).get 16 x).map (·.1))=some r) (er:@den b ev 12 r=r') (g:@dZ b ev A w0 a0 mm w a (LA o) (oT o).get) {e:Exit} (i:e=.normal\/e=.ret):Fin Tryz.prog fn A w0 a0 r' e a w:=by
 cases f:fJ Tryz.prog fn (LA o) (oT o).get with
 |none=>simp_all
 |some x =>
  rw[f]at c;cases d:vR (oT o).get 16 x with
  |none=>simp_all
  |some y =>
   obtain⟨y,h⟩:=y;simp only[a1f,d,a0q,a0g]at c;subst c;exact⟨i,b,ev,mm,LA o,(oT o).get,x,y,h,g,f,d,er⟩
def ajm.go {r r':AV} (s:ajm b fn c fi bi r) (ev:@Ev b) (g:@lL b ev Tryz.prog) (e:@dZ dK dN A w0 a0 mm w a fc (eB bc))
  (m:fi.map (@lH b ev)=fc:=by rfl) (eb:bi.map (@vN b ev)=bc:=by rfl) (er:@den b ev 12 r=r':=by rfl) (j:b.mS=[]:=by rfl):c.wpIn (fw none) 9 Tryz.prog (Fin Tryz.prog fn A w0 a0 r') a w:=by
 obtain⟨o,i,l,f,h⟩:=s;obtain⟨n,e⟩:=uP b ev e m eb l j;rw[a1w]at f;rcases f with f|f
 .exact Ef b ev g (L:=100000) (d:=60) (k:=100) o i f (a0h _) e fun mm w a e=>Nd ev h er e (.inr rfl)
 .exact Ef b ev g (L:=100000) (d:=60) (k:=100) o i f (a0h _) e fun mm w a e=>Nd ev h er e (.inl rfl)
def iU.go {r r':AV} (s:iU b fn oA k fi bi r) (ev:@Ev b) (f:@lL b ev Tryz.prog) (c:@dZ dK dN A w0 a0 mm w a fc (eB bc))
  (l:fi.map (@lH b ev)=fc:=by rfl) (eb:bi.map (@vN b ev)=bc:=by rfl) (er:@den b ev 12 r=r':=by rfl) (i:b.mS=[]:=by rfl):KS Tryz.prog (oK oA) (Fin Tryz.prog fn A w0 a0 r') (AX.exit k).to a w:=by
 obtain⟨o,h,j,e,g⟩:=s;obtain⟨m,c⟩:=uP b ev c l eb j i;rw[a1w]at e;rcases e with e|e
 .exact Mt b ev f (L:=100000) (d:=60) o h e (a0h _) c fun mm w a c=>Nd ev g er c (.inr rfl)
 .exact Mt b ev f (L:=100000) (d:=60) o h e (a0h _) c fun mm w a c=>Nd ev g er c (.inl rfl)
def Is.go {r r':AV} (s:Is b fn c fi bi r) (ev:@Ev b) (h:@lL b ev Tryz.prog) (e:@dZ dK dN A w0 a0 mm w a fc (eB bc)) (f:∀a w,Fin Tryz.prog fn A w0 a0 r' .ret a w->Φ .ret a w)
  (n:fi.map (@lH b ev)=fc:=by rfl) (eb:bi.map (@vN b ev)=bc:=by rfl) (er:@den b ev 12 r=r':=by rfl) (g:b.mS=[]:=by rfl):c.wpIn (fw none) 9 Tryz.prog Φ a w:=by
 obtain⟨o,m,l,j,i⟩:=s;obtain⟨p,e⟩:=uP b ev e n eb l g;exact Ef b ev h (L:=100000) (d:=60) (k:=100) o m j (a0h _) e fun mm w a e=>f _ _ (Nd ev i er e (.inr rfl))
def xK {b:Bk} {ev:@Ev b} (a:@SB b ev Tryz.prog b.bR) (h1:b.ext=[]:=by rfl) (c:b.yes=[]:=by rfl):@lL b ev Tryz.prog:=xKn b ev a h1 c
end
def aQ {ρ:Nat->Int} {p:Poly} {z:List dI} {x:dI} {k:Int} (h:z[k.toNat]?=some x) (a:cQ ρ p=k:=by simp[cQ,uA]):(bP z)[(cQ ρ p).toNat]?=some [.lit 3 (aO x.aX),.i x.p0,.i x.p1,.i x.p2]:=rH a (ac7 h)
def aL {xs:List Int} {i:Nat} {z:List dE} {x:dE} (h:z[(xs.getD i 0).toNat]?=some x):(bS z)[(cQ (fun k=>xs.getD k 0) [([i],1)]).toNat]?=some [.i x.a,.i x.n]:=rH (lW _ _) (by rw[bS,a0o,h];rfl)
def aY {xs:List Int} {i:Nat} {z:List bV} {x:bV} (h:z[(xs.getD i 0).toNat]?=some x):(aO z)[(cQ (fun k=>xs.getD k 0) [([i],1)]).toNat]?=some [.i x.q,.i x.v,.i x.p]:=rH (lW _ _) (by rw[aO,a0o,h];rfl)
def _root_.Go.Proofs.YtnepgggkgnckcaaGreat.Mc.jT.d {ρ:Nat->Int} {p:Poly} {a b:Int} {l:List (Poly×Int×Int)} (h:jT ρ l) (h1:a<=cQ ρ p:=by simp[cQ,uA]<;>omega) (c:cQ ρ p<=b:=by simp[cQ,uA]<;>omega):jT ρ ((p,a,b)::l):=.cons h1 c h
end
section
open Mc
variable {S:bK} {item q0 a2:Int} {L1 L0:List bV}
abbrev ala:Bk:={ vars:=gV++[(0,1),(0,30)],facts:=gF++KaW,lens:=gL++[(15,[([7],1)])],gI:=gA++De }
def apE {e now m c:Int} {closed:Bool} {bH:List dI} {cU:List Int} {aM:List (List Int)} {aZ down:List Int} {ahead:List EntC} {ms cs:List Int} (H:Wx S e item now closed bH cU aM aZ down ahead ms cs m c) {L:List bV} {p0 p1 p2 loc k:Int} (h:0<=loc) (g:loc<=1) (b:k=2*item+loc) (f:bH[k.toNat]?=some ⟨L,p0,p1,p2⟩) (j:L.length<=30)  :
 Ck 112 [S.av,.i e,.i item,.i loc] (dI.av ⟨L,p0,p1,p2⟩):=by
 have:=H.bd;obtain⟨ρ,a⟩:=rh [e,(S.aD.length:Int),item,(S.weights.length:Int),m,c,loc,(L.length:Int)];obtain rfl:=eqv a b Kgl;subst a;let ev:=Oj ala [e,(S.aD.length:Int),item,(S.weights.length:Int),m,c,loc,(L.length:Int)] (vT S [.int .i64 now,.bool closed,.int .i64 p0,.int .i64 p1,.int .i64 p2]) (gS S bH cU aM aZ down ahead ms cs [aO L]) jH.nil.c.c.c.c.c.c.c.c jT.nil.c.c.c kP.nil.c.c.c.c.c.c.c.c.c (.d (aE H.hx) (.d (aS H.qT) (.d (aS H.Cz) (.d (aI H.hm) (.d (aI H.hc) (.d (aP f) .nil))))));exact cw _ ev KaD KcC kn
abbrev afv:Bk:={ vars:=[nB,nB],bR:=[Us,
 H7,
 Ut,
 H8,
 GQ,
 Gx,
 Gy] }
def alw {e b p0 d a p1 q v p a0 h b0 b1 b2:Int} (g:fW e) (f:fW item) (n:Ck 112 [S.av,.i e,.i item,.i 0] (dI.av ⟨L0,a0,h,a2⟩)) (h1:Ck 112 [S.av,.i e,.i item,.i 1] (dI.av ⟨L1,b0,b1,b2⟩)) (k:Ck 169 [.lit 3 (aO L0)] (.bG [(⟨q0,b,p0⟩:bV).av,.i 0])) (j:Ck 169 [.lit 3 (aO L1)] (.bG [(⟨d,a,p1⟩:bV).av,.i 0])) (l:Ck 72 [.lit 1 (aA [q0,d])] (.bG [.i q,.i 0])) (sv:Ck 72 [.lit 1 (aA [b,a])] (.bG [.i v,.i 0])) (m:Ck 72 [.lit 1 (aA [p0,p1])] (.bG [.i p,.i 0]))  :
 Ck 129 [S.av,.i e,.i item] (.bG [(⟨q,v,p⟩:bV).av,.c (.bool true)]):=by
 have:=g.lo;have:=g.hi;have:=f.lo;have:=f.hi;let ev:=Oj afv [e,item] (vT S [.int .i64 q0,.int .i64 b,.int .i64 p0,.int .i64 d,.int .i64 a,.int .i64 p1,.int .i64 q,.int .i64 v,.int .i64 p,.int .i64 a0,.int .i64 h,.int .i64 a2,.int .i64 b0,.int .i64 b1,.int .i64 b2]) (sT S [aO L0,aO L1]) jH.nil.c.c jT.nil kP.nil (.nil);exact cw _ ev Kcn (.bG [Kd3,Kgm]) (kc n (kc k (kc h1 (kc j (kc l (kc sv (kc m kn)))))))
abbrev afu:Bk:={ vars:=[nB,nB],bR:=[Us,
 H7,
 Ut,
 H8,
 GR,
 Gx,
 Gy] }
def alv {e b p0 d a p1 q v p a0 h b0 b1 b2:Int} (g:fW e) (f:fW item) (n:Ck 112 [S.av,.i e,.i item,.i 0] (dI.av ⟨L0,a0,h,a2⟩)) (h1:Ck 112 [S.av,.i e,.i item,.i 1] (dI.av ⟨L1,b0,b1,b2⟩)) (k:Ck 169 [.lit 3 (aO L0)] (.bG [(⟨q0,b,p0⟩:bV).av,.i 0])) (j:Ck 169 [.lit 3 (aO L1)] (.bG [(⟨d,a,p1⟩:bV).av,.i 0])) (l:Ck 72 [.lit 1 (aA [q0,d])] (.bG [.i q,.i 2])) (sv:Ck 72 [.lit 1 (aA [b,a])] (.bG [.i v,.i 0])) (m:Ck 72 [.lit 1 (aA [p0,p1])] (.bG [.i p,.i 0]))  :
 Ck 129 [S.av,.i e,.i item] (.bG [(⟨q,v,p⟩:bV).av,.c (.bool false)]):=by
 have:=g.lo;have:=g.hi;have:=f.lo;have:=f.hi;let ev:=Oj afu [e,item] (vT S [.int .i64 q0,.int .i64 b,.int .i64 p0,.int .i64 d,.int .i64 a,.int .i64 p1,.int .i64 q,.int .i64 v,.int .i64 p,.int .i64 a0,.int .i64 h,.int .i64 a2,.int .i64 b0,.int .i64 b1,.int .i64 b2]) (sT S [aO L0,aO L1]) jH.nil.c.c jT.nil kP.nil (.nil);exact cw _ ev Kcn HH (kc n (kc k (kc h1 (kc j (kc l (kc sv (kc m kn)))))))
abbrev aft:Bk:={ vars:=[nB,nB],bR:=[Us,
 H7,
 Ut,
 H8,
 GQ,
 Gz,
 Gy] }
def alu {e b p0 d a p1 q v p a0 h b0 b1 b2:Int} (g:fW e) (f:fW item) (n:Ck 112 [S.av,.i e,.i item,.i 0] (dI.av ⟨L0,a0,h,a2⟩)) (h1:Ck 112 [S.av,.i e,.i item,.i 1] (dI.av ⟨L1,b0,b1,b2⟩)) (k:Ck 169 [.lit 3 (aO L0)] (.bG [(⟨q0,b,p0⟩:bV).av,.i 0])) (j:Ck 169 [.lit 3 (aO L1)] (.bG [(⟨d,a,p1⟩:bV).av,.i 0])) (l:Ck 72 [.lit 1 (aA [q0,d])] (.bG [.i q,.i 0])) (sv:Ck 72 [.lit 1 (aA [b,a])] (.bG [.i v,.i 2])) (m:Ck 72 [.lit 1 (aA [p0,p1])] (.bG [.i p,.i 0]))  :
 Ck 129 [S.av,.i e,.i item] (.bG [(⟨q,v,p⟩:bV).av,.c (.bool false)]):=by
 have:=g.lo;have:=g.hi;have:=f.lo;have:=f.hi;let ev:=Oj aft [e,item] (vT S [.int .i64 q0,.int .i64 b,.int .i64 p0,.int .i64 d,.int .i64 a,.int .i64 p1,.int .i64 q,.int .i64 v,.int .i64 p,.int .i64 a0,.int .i64 h,.int .i64 a2,.int .i64 b0,.int .i64 b1,.int .i64 b2]) (sT S [aO L0,aO L1]) jH.nil.c.c jT.nil kP.nil (.nil);exact cw _ ev Kcn HH (kc n (kc k (kc h1 (kc j (kc l (kc sv (kc m kn)))))))
abbrev afs:Bk:={ vars:=[nB,nB],bR:=[Us,
 H7,
 Ut,
 H8,
 GR,
 Gz,
 Gy] }
def als {e b p0 d a p1 q v p a0 h b0 b1 b2:Int} (g:fW e) (f:fW item) (n:Ck 112 [S.av,.i e,.i item,.i 0] (dI.av ⟨L0,a0,h,a2⟩)) (h1:Ck 112 [S.av,.i e,.i item,.i 1] (dI.av ⟨L1,b0,b1,b2⟩)) (k:Ck 169 [.lit 3 (aO L0)] (.bG [(⟨q0,b,p0⟩:bV).av,.i 0])) (j:Ck 169 [.lit 3 (aO L1)] (.bG [(⟨d,a,p1⟩:bV).av,.i 0])) (l:Ck 72 [.lit 1 (aA [q0,d])] (.bG [.i q,.i 2])) (sv:Ck 72 [.lit 1 (aA [b,a])] (.bG [.i v,.i 2])) (m:Ck 72 [.lit 1 (aA [p0,p1])] (.bG [.i p,.i 0]))  :
 Ck 129 [S.av,.i e,.i item] (.bG [(⟨q,v,p⟩:bV).av,.c (.bool false)]):=by
 have:=g.lo;have:=g.hi;have:=f.lo;have:=f.hi;let ev:=Oj afs [e,item] (vT S [.int .i64 q0,.int .i64 b,.int .i64 p0,.int .i64 d,.int .i64 a,.int .i64 p1,.int .i64 q,.int .i64 v,.int .i64 p,.int .i64 a0,.int .i64 h,.int .i64 a2,.int .i64 b0,.int .i64 b1,.int .i64 b2]) (sT S [aO L0,aO L1]) jH.nil.c.c jT.nil kP.nil (.nil);exact cw _ ev Kcn HH (kc n (kc k (kc h1 (kc j (kc l (kc sv (kc m kn)))))))
abbrev afr:Bk:={ vars:=[nB,nB],bR:=[Us,
 H7,
 Ut,
 H8,
 GQ,
 Gx,
 GA] }
def alr {e b p0 d a p1 q v p a0 h b0 b1 b2:Int} (g:fW e) (f:fW item) (n:Ck 112 [S.av,.i e,.i item,.i 0] (dI.av ⟨L0,a0,h,a2⟩)) (h1:Ck 112 [S.av,.i e,.i item,.i 1] (dI.av ⟨L1,b0,b1,b2⟩)) (k:Ck 169 [.lit 3 (aO L0)] (.bG [(⟨q0,b,p0⟩:bV).av,.i 0])) (j:Ck 169 [.lit 3 (aO L1)] (.bG [(⟨d,a,p1⟩:bV).av,.i 0])) (l:Ck 72 [.lit 1 (aA [q0,d])] (.bG [.i q,.i 0])) (sv:Ck 72 [.lit 1 (aA [b,a])] (.bG [.i v,.i 0])) (m:Ck 72 [.lit 1 (aA [p0,p1])] (.bG [.i p,.i 2]))  :
 Ck 129 [S.av,.i e,.i item] (.bG [(⟨q,v,p⟩:bV).av,.c (.bool false)]):=by
 have:=g.lo;have:=g.hi;have:=f.lo;have:=f.hi;let ev:=Oj afr [e,item] (vT S [.int .i64 q0,.int .i64 b,.int .i64 p0,.int .i64 d,.int .i64 a,.int .i64 p1,.int .i64 q,.int .i64 v,.int .i64 p,.int .i64 a0,.int .i64 h,.int .i64 a2,.int .i64 b0,.int .i64 b1,.int .i64 b2]) (sT S [aO L0,aO L1]) jH.nil.c.c jT.nil kP.nil (.nil);exact cw _ ev Kcn HH (kc n (kc k (kc h1 (kc j (kc l (kc sv (kc m kn)))))))
abbrev afq:Bk:={ vars:=[nB,nB],bR:=[Us,
 H7,
 Ut,
 H8,
 GR,
 Gx,
 GA] }
def alq {e b p0 d a p1 q v p a0 h b0 b1 b2:Int} (g:fW e) (f:fW item) (n:Ck 112 [S.av,.i e,.i item,.i 0] (dI.av ⟨L0,a0,h,a2⟩)) (h1:Ck 112 [S.av,.i e,.i item,.i 1] (dI.av ⟨L1,b0,b1,b2⟩)) (k:Ck 169 [.lit 3 (aO L0)] (.bG [(⟨q0,b,p0⟩:bV).av,.i 0])) (j:Ck 169 [.lit 3 (aO L1)] (.bG [(⟨d,a,p1⟩:bV).av,.i 0])) (l:Ck 72 [.lit 1 (aA [q0,d])] (.bG [.i q,.i 2])) (sv:Ck 72 [.lit 1 (aA [b,a])] (.bG [.i v,.i 0])) (m:Ck 72 [.lit 1 (aA [p0,p1])] (.bG [.i p,.i 2]))  :
 Ck 129 [S.av,.i e,.i item] (.bG [(⟨q,v,p⟩:bV).av,.c (.bool false)]):=by
 have:=g.lo;have:=g.hi;have:=f.lo;have:=f.hi;let ev:=Oj afq [e,item] (vT S [.int .i64 q0,.int .i64 b,.int .i64 p0,.int .i64 d,.int .i64 a,.int .i64 p1,.int .i64 q,.int .i64 v,.int .i64 p,.int .i64 a0,.int .i64 h,.int .i64 a2,.int .i64 b0,.int .i64 b1,.int .i64 b2]) (sT S [aO L0,aO L1]) jH.nil.c.c jT.nil kP.nil (.nil);exact cw _ ev Kcn HH (kc n (kc k (kc h1 (kc j (kc l (kc sv (kc m kn)))))))
abbrev afp:Bk:={ vars:=[nB,nB],bR:=[Us,
 H7,
 Ut,
 H8,
 GQ,
 Gz,
 GA] }
def alp {e b p0 d a p1 q v p a0 h b0 b1 b2:Int} (g:fW e) (f:fW item) (n:Ck 112 [S.av,.i e,.i item,.i 0] (dI.av ⟨L0,a0,h,a2⟩)) (h1:Ck 112 [S.av,.i e,.i item,.i 1] (dI.av ⟨L1,b0,b1,b2⟩)) (k:Ck 169 [.lit 3 (aO L0)] (.bG [(⟨q0,b,p0⟩:bV).av,.i 0])) (j:Ck 169 [.lit 3 (aO L1)] (.bG [(⟨d,a,p1⟩:bV).av,.i 0])) (l:Ck 72 [.lit 1 (aA [q0,d])] (.bG [.i q,.i 0])) (sv:Ck 72 [.lit 1 (aA [b,a])] (.bG [.i v,.i 2])) (m:Ck 72 [.lit 1 (aA [p0,p1])] (.bG [.i p,.i 2]))  :
 Ck 129 [S.av,.i e,.i item] (.bG [(⟨q,v,p⟩:bV).av,.c (.bool false)]):=by
 have:=g.lo;have:=g.hi;have:=f.lo;have:=f.hi;let ev:=Oj afp [e,item] (vT S [.int .i64 q0,.int .i64 b,.int .i64 p0,.int .i64 d,.int .i64 a,.int .i64 p1,.int .i64 q,.int .i64 v,.int .i64 p,.int .i64 a0,.int .i64 h,.int .i64 a2,.int .i64 b0,.int .i64 b1,.int .i64 b2]) (sT S [aO L0,aO L1]) jH.nil.c.c jT.nil kP.nil (.nil);exact cw _ ev Kcn HH (kc n (kc k (kc h1 (kc j (kc l (kc sv (kc m kn)))))))
abbrev afo:Bk:={ vars:=[nB,nB],bR:=[Us,
 H7,
 Ut,
 H8,
 GR,
 Gz,
 GA] }
def alo {e b p0 d a p1 q v p a0 h b0 b1 b2:Int} (g:fW e) (f:fW item) (n:Ck 112 [S.av,.i e,.i item,.i 0] (dI.av ⟨L0,a0,h,a2⟩)) (h1:Ck 112 [S.av,.i e,.i item,.i 1] (dI.av ⟨L1,b0,b1,b2⟩)) (k:Ck 169 [.lit 3 (aO L0)] (.bG [(⟨q0,b,p0⟩:bV).av,.i 0])) (j:Ck 169 [.lit 3 (aO L1)] (.bG [(⟨d,a,p1⟩:bV).av,.i 0])) (l:Ck 72 [.lit 1 (aA [q0,d])] (.bG [.i q,.i 2])) (sv:Ck 72 [.lit 1 (aA [b,a])] (.bG [.i v,.i 2])) (m:Ck 72 [.lit 1 (aA [p0,p1])] (.bG [.i p,.i 2]))  :
 Ck 129 [S.av,.i e,.i item] (.bG [(⟨q,v,p⟩:bV).av,.c (.bool false)]):=by
 have:=g.lo;have:=g.hi;have:=f.lo;have:=f.hi;let ev:=Oj afo [e,item] (vT S [.int .i64 q0,.int .i64 b,.int .i64 p0,.int .i64 d,.int .i64 a,.int .i64 p1,.int .i64 q,.int .i64 v,.int .i64 p,.int .i64 a0,.int .i64 h,.int .i64 a2,.int .i64 b0,.int .i64 b1,.int .i64 b2]) (sT S [aO L0,aO L1]) jH.nil.c.c jT.nil kP.nil (.nil);exact cw _ ev Kcn HH (kc n (kc k (kc h1 (kc j (kc l (kc sv (kc m kn)))))))
abbrev Ln:Bk:={ vars:=[nB,nB],bR:=[(129,Kcn,(.bG [KeR,Kgm]))] }
def Ox {e q v p:Int} (b:fW e) (a:fW item) (d:Ck 129 [S.av,.i e,.i item] (.bG [(⟨q,v,p⟩:bV).av,.c (.bool true)]))  :
 Ck 69 [S.av,.i e,.i item] (bV.av ⟨q,v,p⟩):=by
 have:=b.lo;have:=b.hi;have:=a.lo;have:=a.hi;let ev:=Oj Ln [e,item] (vT S [.int .i64 q,.int .i64 v,.int .i64 p]) (sT S []) jH.nil.c.c jT.nil kP.nil (.nil);exact cw _ ev Kcn KeR (kc d kn)
abbrev Ij:Bk:={ vars:=[nB,nB],bR:=[(129,Kcn,(.bG [KeR,Kgb]))] }
def NM {e q v p:Int} (b:fW e) (a:fW item) (d:Ck 129 [S.av,.i e,.i item] (.bG [(⟨q,v,p⟩:bV).av,.c (.bool false)]))  :
 Ck 69 [S.av,.i e,.i item] (bV.av ⟨q,v,p⟩):=by
 have:=b.lo;have:=b.hi;have:=a.lo;have:=a.hi;let ev:=Oj Ij [e,item] (vT S [.int .i64 q,.int .i64 v,.int .i64 p]) (sT S []) jH.nil.c.c jT.nil kP.nil (.nil);exact cw _ ev Kcn KeR (kc d kn)
def sw (l:List bV):List Int:=l.map fun x=>max x.p (-x.p)
namespace aoq
section
variable {S:bK} {e item:Int}
end
end aoq
end
section
open Mc
def iL (l:List dE) (a:Int):Int:=((l.filter fun x=>x.a==a).map (·.n)).sum
theorem pL (x:dE) (l:List dE) (a:Int):iL (x::l) a=(if x.a=a then x.n else 0)+iL l a:=by
 unfold iL;by_cases h:x.a=a
 .simp[a2k,h]
 .simp[a2k,h]
def aoo (cU:List Int) (l:List dE):List Int:=(List.range 17).map fun(a:Nat)=>cU.getD a 0+iL l a
def eF (l:List dE):List dE:=((List.range 17).map fun(a:Nat)=>(⟨(a:Int),iL l a⟩:dE)).filter (fun x=>!jU x)
structure Small (l:List dE):Prop where
 ok:∀x∈l,0<=x.a/\x.a<17/\-1125899906842624<=x.n/\x.n<=1125899906842624
 len:l.length<=12
def CT:∀(l:List dE),(∀x∈l,0<=x.a/\x.a<17/\-1125899906842624<=x.n/\x.n<=1125899906842624)->∀a,-(1125899906842624*(l.length:Int))<=iL l a/\iL l a<=1125899906842624*(l.length:Int)
 |[],_,a=>by simp[iL]
 |x::l,h,a=>by
  have c:=CT l (fun y b=>h y (a03 _ b)) a;have d:=h x a1d;rw[pL,a0t];split<;>omega
def ajk:∀(l:List dE),(∀x∈l,0<=x.a/\x.a<17/\-1125899906842624<=x.n/\x.n<=1125899906842624)->eR (iG l)<=1125899906842624*(l.length:Int)
 |[],_=>by simp[eR,iG]
 |x::l,h=>by
  have c:=ajk l (fun y b=>h y (a03 _ b));have d:=h x a1d;have:iG (x::l)=x.n::iG l:=rfl;rw[this,fL,a0t];omega
def Sy:∀(l:List dE) (a:Int),eR (gY l a)<=eR (iG l)
 |[],a=>by simp[gY,iG,eR]
 |x::l,a=>by
  have b:=Sy l a;have e:iG (x::l)=x.n::iG l:=rfl;by_cases h:x.a=a
  .have e2:gY (x::l) a=x.n::gY l a:=by simp[gY,iG,a2k,h]
   rw[e,e2,fL,fL];omega
  .have e2:gY (x::l) a=gY l a:=by simp[gY,iG,a2k,h]
   rw[e,e2,fL];omega
def zA {l:List dE} (h:Small l):dA l=(eF l,0):=by
 have c:l.any pC=false:=by
  rw[a2e];intro x b;have:=h.ok x b;simp only[pC,a1w,a3u,not_or,a4q];exact⟨wI.2 ⟨this.1,this.2.1⟩,fK.2 ⟨by omega,by omega⟩⟩
 have hs:∀a:Int,dO 0 (gY l a)=some (iL l a):=by
  intro a;have g:=Sy l a;have f:=ajk l h.ok;have d:=h.len;rw[mP _ 0 (by omega),a2s];rfl
 unfold dA eF;simp only[c,a2b,if_false];have:(List.range 17).any (fun(a:Nat)=>decide (dW (gY l (a:Int))≠0))=false:=by
  rw[a2e];intro a _;simp[(lV (hs a)).2]
 simp only[this,a2b,if_false];have e:(fun(a:Nat)=>(⟨(a:Int),dJ (gY l (a:Int))⟩:dE))=fun(a:Nat)=>⟨(a:Int),iL l a⟩:=by
  funext a;rw[(lV (hs a)).1]
 rw[e]
def aiR (f g:Nat->Bool) (c:Nat) (h:∀a,f a=true->g a=true\/a=c):∀k,((List.range k).filter f).length<=((List.range k).filter g).length+(if c<k then 1 else 0)
 |0=>by simp
 |k+1=>by
  have d:=aiR f g c h k;rw[a15,a08,a08,a1r,a1r];have e:((List.filter f [k]).length:Nat)<=(List.filter g [k]).length+(if k=c then 1 else 0):=by
   cases b:f k with
   |false=>simp[a2k,b]
   |true =>
    rcases h k b with l|rfl
    .simp[a2k,b,l]
    .simp[a2k,b]
  by_cases i:k=c
  .subst i
   simp at d e |-;omega
  .simp only[i,if_false]at e
   by_cases j:c<k
   .simp only[j,if_true]at d
    have:c<k+1:=(by omega);simp only[this,if_true];omega
   .have:¬ c<k+1:=by omega
    simp only[j,if_false]at d;simp only[this,if_false];omega
def Nl:∀(l:List dE),((List.range 17).filter fun(a:Nat)=>decide (iL l a≠0)).length<=l.length
 |[]=>by simp[iL]
 |x::l=>by
  have c:=Nl l;have:=aiR (fun(a:Nat)=>decide (iL (x::l) a≠0)) (fun(a:Nat)=>decide (iL l a≠0)) x.a.toNat (by
   intro a b;by_cases h:x.a=a
   .right;rw[h];simp
   .left
    rw[pL,if_neg h]at b;simpa using b) 17
  rw[a0t];split at this<;>omega
def MI {l:List dE}:(eF l).length<=l.length:=by
 have:=Nl l;unfold eF;rw[a4r,a0z];refine a1e (Nat.le_of_eq ?_) this;congr 2;funext a;simp[jU]
def afU (c n:Int):∀k:Nat,((List.range k).map fun(a:Nat)=>if c=(a:Int)then n else 0).sum=if 0<=c/\c<k then n else 0
 |0=>by simp;intro h b;omega
 |k+1=>by
  rw[a15,a09,a2l,afU c n k];simp only[a01,a1x,a0x,a1y,a1g];by_cases d:c=(k:Int)
  .rw[if_neg (by omega),if_pos d,if_pos (by omega)];omega
  .by_cases b:0<=c/\c<k
   .rw[if_pos b,if_neg d,if_pos (by omega)];omega
   .rw[if_neg b,if_neg d,if_neg (by omega)];rfl
def Iv (f g:Nat->Int):∀l:List Nat,(l.map fun a=>f a+g a).sum=(l.map f).sum+(l.map g).sum
 |[]=>rfl
 |a::l=>by simp only[a01,a0x,Iv f g l];omega
def SR:∀(l:List dE),(∀x∈l,0<=x.a/\x.a<17)->((List.range 17).map fun(a:Nat)=>iL l a).sum=(iG l).sum
 |[],_=>by simp[iL,iG];decide
 |x::l,h=>by
  have b:=SR l (fun y c=>h y (a03 _ c));have d:=h x a1d;have e:(fun(a:Nat)=>iL (x::l) a)=fun(a:Nat)=>(if x.a=(a:Int)then x.n else 0)+iL l a:=by funext a;rw[pL]
  rw[e,Iv,b,afU,if_pos (show 0<=x.a/\x.a<((17:Nat):Int)from d)];rfl
def afT:∀(l:List dE),(iG (l.filter fun x=>!jU x)).sum=(iG l).sum
 |[]=>rfl
 |x::l=>by
  have b:=afT l;have e:iG (x::l)=x.n::iG l:=rfl;rw[e,a0x,<-b];cases a:jU x with
  |true =>
   have:x.n=0:=(by simpa[jU]using a);rw[a46 (by simp[a]),this,a2s]
  |false =>
   rw[a4s (by simp[a])];rfl
def sX {l:List dE} (h:Small l):∀x∈eF l,0<=x.a/\x.a<17/\x.n≠0/\x.n=iL l x.a:=by
 intro x b;obtain⟨e,d⟩:=List.mem_filter.1 b;obtain⟨a,c,rfl⟩:=a0l.1 e;have:=a0v.1 c;refine⟨by simp only;omega,by simp only;omega,?_,rfl⟩;simpa[jU]using d
def SM (f:Nat->Int) (c:Nat):∀k:Nat,iL ((List.range k).map fun(a:Nat)=>(⟨(a:Int),f a⟩:dE)) c=if c<k then f c else 0
 |0=>by simp[iL]
 |k+1=>by
  have b:=SM f c k;rw[a15,a09];unfold iL at b |-;rw[a08,a09,a2l,b];by_cases h:k=c
  .subst h
   simp
  .have e:¬ ((k:Int)=(c:Int)):=by omega
   simp[a2k,e];by_cases d:c<k
   .have:c<k+1:=by omega
    simp[d,this]
   .have:¬ c<k+1:=by omega
    simp[d,this]
def ajw (l:List dE) (c:Int):iL (l.filter fun x=>!jU x) c=iL l c:=by
 induction l with
 |nil=>rfl
 |cons x l b =>
  cases a:jU x with
  |true =>
   have:x.n=0:=(by simpa[jU]using a);rw[a46 (by simp[a]),b,pL,this];simp
  |false=>rw[a4s (by simp[a]),pL,pL,b]
def aay (l:List dE) {a:Nat} (b:a<17):iL (eF l) a=iL l a:=by
 unfold eF;rw[ajw,SM,if_pos b]
def Ri {l:List dE} (h:Small l):dA (eF l)=(eF l,0):=by
 have f:(eF l).any pC=false:=by
  rw[a2e];intro x c;have:=sX h x c;have g:=CT l h.ok x.a;have k:=h.len;simp only[pC,a1w,a3u,not_or,a4q];exact⟨wI.2 ⟨this.1,this.2.1⟩,fK.2 ⟨by omega,by omega⟩⟩
 have hs:∀a:Nat,a<17->dO 0 (gY (eF l) a)=some (iL l a):=by
  intro a b;have g:=CT l h.ok;have k:=h.len;have q:eR (iG (eF l))<=17*(12*1125899906842624):=by
   have:∀m:List dE,(∀x∈m,-(12*1125899906842624)<=x.n/\x.n<=12*1125899906842624)->eR (iG m)<=12*1125899906842624*(m.length:Int):=by
    intro m;induction m with
    |nil=>intro _;simp[iG,eR]
    |cons x m i =>
     intro d;have e:iG (x::m)=x.n::iG m:=rfl;have:=i fun y j=>d y (a03 _ j);have c:=d x a1d;rw[e,fL,a0t];omega
   have p:=this (eF l) (fun x c=>by have:=sX h x c;have:=g x.a;omega);have o:=MI (l:=l);omega
  have r:=Sy (eF l) a;rw[mP _ 0 (by omega),a2s];exact congrArg some (aay l b)
 have:(List.range 17).any (fun(a:Nat)=>decide (dW (gY (eF l) (a:Int))≠0))=false:=by
  rw[a2e];intro a b;simp[(lV (hs a (a0v.1 b))).2]
 have e:(List.range 17).map (fun(a:Nat)=>(⟨(a:Int),dJ (gY (eF l) (a:Int))⟩:dE))=(List.range 17).map fun(a:Nat)=>⟨(a:Int),iL l a⟩ :=
  a1c fun a b=>by rw[(lV (hs a (a0v.1 b))).1]
 generalize d:eF l=m at f this e |-;unfold dA;simp only[f,a2b,if_false,this,e];rw[<-d];rfl
def PF (cU:List Int) (f:Nat->Int) (m:cU.length=17) (n:∀a:Nat,a<17->-144115188075855872<=cU.getD a 0/\cU.getD a 0<=144115188075855872) (l:∀a,-(12*1125899906842624)<=f a/\f a<=12*1125899906842624) :
  ∀k,k<=17->gM cU (((List.range k).map fun(a:Nat)=>(⟨(a:Int),f a⟩:dE)).filter fun x=>!jU x)=some ((List.range 17).map fun(a:Nat)=>cU.getD a 0+if a<k then f a else 0)
 |0,_=>by
  simp only[List.range_zero,a1x,List.filter_nil,gM,a0g];apply a22
  .simp[m]
  .intro i c h
   simp[a0d c]
 |k+1,o=>by
  have j:=PF cU f m n l k (by omega)
  rw[a15,a09,a08];have b:(List.range 17).map (fun(a:Nat)=>cU.getD a 0+if a<k+1 then f a else 0)=((List.range 17).map fun(a:Nat)=>cU.getD a 0+if a<k then f a else 0).set k (cU.getD k 0+f k):=by
   apply a22
   .simp
   .intro i c h
    rw[List.getElem_set];by_cases e:k=i
    .subst e;simp
    .simp only[e,if_false,List.getElem_map,List.getElem_range]
     have:(i<k+1)=(i<k):=by simp;omega
     simp only[this]
  have g:((List.range 17).map fun(a:Nat)=>cU.getD a 0+if a<k then f a else 0).getD k 0=cU.getD k 0:=by
   rw[List.getD,a0o,List.getElem?_range (by omega)];simp
  by_cases d:f k=0
  .have e:List.filter (fun x=>!jU x) (List.map (fun(a:Nat)=>(⟨(a:Int),f a⟩:dE)) [k])=[]:=by simp[jU,d]
   rw[e,a1i,j,b];congr 1;rw[d,a1g];apply a22
   .simp
   .intro i c h
    rw[List.getElem_set];by_cases e:k=i
    .subst e;simp
    .simp[e]
  .have e:List.filter (fun x=>!jU x) (List.map (fun(a:Nat)=>(⟨(a:Int),f a⟩:dE)) [k])=[⟨(k:Int),f k⟩]:=by simp[jU,d]
   rw[e,I3,j];simp only[a1f,a0w,g];have c:=n k (by omega);have h:=l k;rw[if_pos (pV.2 ⟨fK.2 ⟨by omega,by omega⟩,fK.2 ⟨by omega,by omega⟩,fK.2 ⟨by omega,by omega⟩⟩),b]
def aa4 {cU:List Int} {l:List dE} (t:cU.length=17) (u:∀a:Nat,a<17->-144115188075855872<=cU.getD a 0/\cU.getD a 0<=144115188075855872) (h:Small l) (hs:(iG l).sum=0):nE cU (eF l)=(aoo cU l,0):=by
 have c:=CT l h.ok;have f:=h.len;have j:=Ri h;have k:gM cU (eF l)=some (aoo cU l):=by
  have:=PF cU (fun a=>iL l a) t u (fun a=>by have:=c a;omega) 17 (a0h _);unfold eF aoo;rw[this];congr 1
 have s:(eF l).length=0\/pA (eF l)=true:=by
  rcases a30 (eF l).length with o|o
  .exact .inl o
  .right
   have v:=MI (l:=l)
   have d:(eF l).any Oq=false:=by
    rw[a2e];intro x b;have:=sX h x b;have c:=c x.a;simp only[Oq,a1w,a3u,not_or,a4q,decide_eq_true_eq];exact⟨⟨wI.2 ⟨this.1,this.2.1⟩,this.2.2.1⟩,fK.2 ⟨by omega,by omega⟩⟩
   have z:eR (iG (eF l))<=17*(12*1125899906842624):=by
    have:∀m:List dE,(∀x∈m,-(12*1125899906842624)<=x.n/\x.n<=12*1125899906842624)->eR (iG m)<=12*1125899906842624*(m.length:Int):=by
     intro m;induction m with
     |nil=>intro _;simp[iG,eR]
     |cons x m p =>
      intro i;have e:iG (x::m)=x.n::iG m:=rfl;have:=p fun y q=>i y (a03 _ q);have b:=i x a1d;rw[e,fL,a0t];omega
    have w:=this (eF l) (fun x b=>by have:=sX h x b;have:=c x.a;omega);omega
   have g:dO 0 (iG (eF l))=some 0:=by
    rw[mP _ 0 (by omega),a2s];congr 1
    unfold eF;rw[afT];have e:iG ((List.range 17).map fun(a:Nat)=>(⟨(a:Int),iL l a⟩:dE))=(List.range 17).map fun(a:Nat)=>iL l a:=by
     unfold iG;rw[a2i];rfl
    rw[e,SR l (fun x b=>⟨(h.ok x b).1,(h.ok x b).2.1⟩),hs]
   unfold pA;rw[d,(lV g).1,(lV g).2];simp;omega
 have r:¬ ((0:Int)≠0\/(0<(eF l).length/\pA (eF l)=false)):=by
  rintro(h|⟨A,c⟩)
  .exact h rfl
  .rcases s with f|f
   .omega
   .rw[f]at c;cases c
 have e1:AQ cU (eF l)=0:=by rw[AQ,j,if_neg r,k]
 rw[nE,if_pos e1,MD,j,k];rfl
end
section
variable {x:bV}
def yL (r:Int):Bool:=decide (0<=r)&&decide (r<=1073741824)
def CJ (r q:Int):Int:=yJ (max q 0) r 1
def ofE (r q:Int):Int:=Lh (max q 0) r 1
def F8 {r:Int}:yL r=true↔0<=r/\r<=1073741824:=by simp[yL]
def ahI {r q:Int} (a:yL r=true):0<=CJ r q/\CJ r q<=288230376151711744/\(ofE r q=0\/ofE r q=2):=by
 have a:=F8.1 a;have:=a0p (show 0<=max q 0 by omega) a.1;simp only[CJ,ofE,yJ,Lh,a4t];have b:¬ (max q 0<0\/r<0\/(1:Int)<1):=by omega
 simp only[if_neg b];by_cases h:max q 0*r > 288230376151711744
 .simp only[if_pos h];exact⟨by omega,by omega,.inr trivial⟩
 .simp only[if_neg h];exact⟨this,by omega,.inl trivial⟩
def inC (l:List bV) (x:bV) (c:Int):List bV×Int×Int :=
 if yL c=false\/x.q<1\/x.v<0 then(l,0,1)else if ofE c x.q≠0\/288230376151711744<x.v then(l,0,2)else
  if(zJ l ⟨x.q,CJ c x.q,x.p⟩).2=0 then((zJ l ⟨x.q,CJ c x.q,x.p⟩).1,x.v-CJ c x.q,0)else(l,0,(zJ l ⟨x.q,CJ c x.q,x.p⟩).2)
def Cw (l:List bV) (q c:Int):List bV×bV×Int :=
 if yL c=false then(l,.zero,1)else match fU l q with
  |([],y,e)=>([],y,e)
  |(z::t,y,e)=>if e≠0 then(z::t,y,e)else
   let v:=if ofE c q≠0\/z.v+y.v<CJ c q then z.v+y.v else CJ c q
   (⟨z.q,z.v+(y.v-v),z.p⟩::t,⟨y.q,v,y.p⟩,0)
def TF {l m:List bV} {y:bV} {q:Int} (h:LR l) (c:fU l q=(m,y,0)):0<=y.v/\y.v<=288230376151711744/\y.v+vs m=vs l:=by
 by_cases e:q<1
 .rw[fU,if_pos e]at c;cases c
 by_cases d:q<=qs l
 .rw[Em h (by omega) d]at c
  have s:=(wE l .zero q h (by omega) d).2.2.1;have t:=adt l .zero q h;generalize jL l .zero q=r at *;cases c;have a:=gG t.1.ok;have b:=h.v;simp[bV.zero]at s;have:=t.2.2.1;omega
 .rw[Cs h (by omega) (by omega)]at c;cases c
structure tY where
 a:Int
 b:Int
 c:Int
structure aei (d:tY):Prop where
 a0:0<=d.a
 b0:0<=d.b
 c0:0<=d.c
 a1:d.a<=288230376151711744
 b1:d.b<=288230376151711744
 c1:d.c<=288230376151711744
def wN (l:List bV) (d:tY):Int:=qs l-d.a-d.b-d.c
def tY.get (d:tY) (k:Int):Int:=if k=0 then d.a else if k=1 then d.b else d.c
def tY.add (d:tY) (k q:Int):tY:=if k=0 then⟨d.a+q,d.b,d.c⟩else if k=1 then⟨d.a,d.b+q,d.c⟩else⟨d.a,d.b,d.c+q⟩
def qD (l:List bV) (d:tY) (k q:Int):tY×Int:=if k<0\/3<=k\/q<1 then(d,1)else if wN l d<q then(d,5)else(d.add k q,0)
def AK (l:List bV) (d:tY) (q:Int):List bV×bV×Int:=if q<1 then(l,.zero,1)else if wN l d<q then(l,.zero,5)else fU l q
def anP {l:List bV} {c:Int} (h:LR l):LR (inC l x c).1:=by
 unfold inC;split
 .exact h
 .split
  .exact h
  .split
   .exact RV h
   .exact h
def aj8 {l:List bV} {q c:Int} (h:LR l):LR (Cw l q c).1:=by
 unfold Cw;split
 .exact h
 .have d:=nL (q:=q) h
  split
  .exact LR.nil
  .rename_i z t y e j
   rw[j]at d;split
   .exact d
   .rename_i o
    have i:e=0:=(by simpa using o);subst i;obtain⟨w,u,n⟩:=TF h j;have A:=d.at_ (x:=z) (by simp);have r:=h.v;have s:=(gG d.tail.ok).2.1
    rw[mO]at n;have key:∀v:Int,(0<=v/\v<=z.v+y.v)->LR (⟨z.q,z.v+(y.v-v),z.p⟩::t):=by
     intro v B;obtain⟨a,b,m,E,k⟩:=d;refine⟨by simpa using a,fun x f=>?_,?_,?_,?_⟩
     .rcases a0c.1 f with rfl|f
      .exact eI.2 ⟨by simp only;omega,by simp only;omega,by simp only;omega,by simp only;omega,by simp only;omega,by simp only;omega⟩
      .exact b x (by simp[f])
     .rw[gQ]at m |-;exact m
     .rw[mO];simp only;omega
     .rw[wR]at k |-;exact k
    simp only;apply key;split
    .omega
    .rename_i C
     have g:yL c=true:=by cases D:yL c<;>simp_all
     have:=(ahI (q:=q) g).1;omega
def aj5 {l:List bV} {d:tY} {q:Int} (h:LR l):LR (AK l d q).1:=by
 unfold AK;split
 .exact h
 .split
  .exact h
  .exact nL h
def fD (m c:Int) (l:List bV) (x:bV):List bV×Int×Int :=
 if m=1 then((Cy l x).1,0,(Cy l x).2)else if m=2 then((zJ l x).1,0,(zJ l x).2)else if m=3 then((zJ l x).1,0,(zJ l x).2)else if m=4 then inC l x c else(l,0,12)
def abS {l:List bV} {x:bV} (h:(zJ l x).2≠0):(zJ l x).1=l:=by
 unfold zJ at h |-;split
 .rw[if_pos ‹_›]at h;exact absurd rfl h
 .rfl
def anO {l:List bV} {c:Int} (h:(inC l x c).2.2≠0):(inC l x c).1=l/\(inC l x c).2.1=0:=by
 unfold inC at h |-;split
 .exact⟨rfl,rfl⟩
 .rw[if_neg ‹_›]at h
  split
  .exact⟨rfl,rfl⟩
  .rw[if_neg ‹_›]at h
   split
   .rw[if_pos ‹_›]at h;exact absurd rfl h
   .exact⟨rfl,rfl⟩
def MG {m c:Int} {l:List bV} {x:bV} (h:(fD m c l x).2.2≠0):(fD m c l x).1=l/\(fD m c l x).2.1=0:=by
 unfold fD at h |-;split
 .rw[if_pos ‹_›]at h;exact⟨aid h,rfl⟩
 .rw[if_neg ‹_›]at h
  split
  .rw[if_pos ‹_›]at h;exact⟨abS h,rfl⟩
  .rw[if_neg ‹_›]at h
   split
   .rw[if_pos ‹_›]at h;exact⟨abS h,rfl⟩
   .rw[if_neg ‹_›]at h
    split
    .rw[if_pos ‹_›]at h;exact anO h
    .exact⟨rfl,rfl⟩
def aa7 {m c:Int} {l:List bV} (h:LR l):LR (fD m c l x).1:=by
 unfold fD;split
 .exact aie h
 .split
  .exact RV h
  .split
   .exact RV h
   .split
    .exact anP h
    .exact h
def Ak {l:List bV} {q:Int} (h:(fU l q).2.2≠0):(fU l q).1=l/\(fU l q).2.1=.zero:=by
 unfold fU at h |-;split
 .exact⟨rfl,rfl⟩
 .rw[if_neg ‹_›]at h
  split
  .exact⟨rfl,rfl⟩
  .rw[if_neg ‹_›]at h;exact absurd rfl h
def aj4 {l:List bV} {d:tY} {q:Int} (h:(AK l d q).2.2≠0):(AK l d q).1=l/\(AK l d q).2.1=.zero:=by
 unfold AK at h |-;split
 .exact⟨rfl,rfl⟩
 .rw[if_neg ‹_›]at h
  split
  .exact⟨rfl,rfl⟩
  .rw[if_neg ‹_›]at h;exact Ak h
def aj7 {l:List bV} {q c:Int} (h:(Cw l q c).2.2≠0):(Cw l q c).1=l/\(Cw l q c).2.1=.zero:=by
 unfold Cw at h |-;split
 .exact⟨rfl,rfl⟩
 .rename_i b
  rw[if_neg b]at h;split
  .rename_i y e a
   rw[a]at h;have:=Ak (l:=l) (q:=q) (by rw[a];exact h);rw[a]at this;exact this
  .rename_i z t y e a
   rw[a]at h;simp only at h |-;split
   .rename_i d
    have:=Ak (l:=l) (q:=q) (by rw[a];exact d);rw[a]at this;exact this
   .rw[if_neg ‹_›]at h
    exact absurd rfl h
def fV (m c:Int) (l:List bV) (d:tY) (q:Int):List bV×bV×Int:=if m=3 then AK l d q else if m=4 then Cw l q c else fU l q
def dG (m c:Int) (l:List bV) (d:tY) (kind q:Int):List bV×tY×bV×Bool×Int :=
 if m<1\/4<m then(l,d,.zero,false,12)else if kind<0\/3<kind then(l,d,.zero,false,1)
 else if m=3/\kind≠3 then(l,(qD l d kind q).1,.zero,decide ((qD l d kind q).2=0),(qD l d kind q).2)
 else((fV m c l d q).1,d,(fV m c l d q).2.1,false,(fV m c l d q).2.2)
def abH {m c:Int} {l:List bV} {d:tY} {q:Int} (h:LR l):LR (fV m c l d q).1:=by
 unfold fV;split
 .exact aj5 h
 .split
  .exact aj8 h
  .exact nL h
def abG {m c:Int} {l:List bV} {d:tY} {q:Int} (h:(fV m c l d q).2.2≠0):(fV m c l d q).1=l/\(fV m c l d q).2.1=.zero:=by
 unfold fV at h |-;split
 .rw[if_pos ‹_›]at h;exact aj4 h
 .rw[if_neg ‹_›]at h
  split
  .rw[if_pos ‹_›]at h;exact aj7 h
  .rw[if_neg ‹_›]at h;exact Ak h
def Tx {m c:Int} {l:List bV} {d:tY} {kind q:Int} (h:LR l):LR (dG m c l d kind q).1:=by
 unfold dG;split
 .exact h
 .split
  .exact h
  .split
   .exact h
   .exact abH h
end
section
open Mc
namespace Fr
end Fr
namespace Fr
end Fr
end
section
end
end Go.Proofs.YtnepgggkgnckcaaGreat
