/-
 What strings.ContainsRune says of ASCII texts and letters, what the operations' bounds are: as known calls.
-/
import Derived.Test.YtnalblnmplnhmaaGreatTlT
import Derived.Test.YtnalblnmplnhmaaGreatProg
import Derived.Lib.Strings
import Derived.Lib.Slices
import Derived.Lib.Walk
import Derived.Lib.Bytealg
set_option linter.unusedVariables false
set_option linter.unusedSimpArgs false
namespace Go.Proofs.YtnalblnmplnhmaaGreat
open Go.RowKit Mc
set_option maxHeartbeats 1000000 in
set_option maxRecDepth 100000 in
theorem sl_IndexByte (s:ByteArray) (c:Int) (w:World) :
  Calls Tryz.prog 139 #[.string s,.int .u8 c] w fun e w'=>e=.returned (.int .i64 (Lib.indexByte s.data.toList c.toNat.toUInt8))∧w'=w:=by
 go_enter Tryz.func139,Tryz.ntmps139
 go_wp2
 rw[run_callFunc_extern Tryz.func184 (by kernel_rfl) (by kernel_rfl) (by kernel_rfl) (e:=Extern.BytealgIndexByte.indexByte) (by kernel_rfl),Lib.run_indexByteString]
 simp only[Result.andThen]
 rw[Oper.upon_value]
 go_wp2
 go_ret
 exact⟨rfl,rfl⟩
set_option maxHeartbeats 1000000 in
theorem str_IndexByte (s:ByteArray) (c:Int) (w:World) :
  Calls Tryz.prog 96 #[.string s,.int .u8 c] w fun e w'=>e=.returned (.int .i64 (Lib.indexByte s.data.toList c.toNat.toUInt8))∧w'=w:=by
 go_enter Tryz.func96,Tryz.ntmps96
 go_wp2_with (go_at_call 139;refine(sl_IndexByte _ _ _).mono ?_;rintro e w' ⟨rfl,rfl⟩)
 go_ret
 exact⟨rfl,rfl⟩
set_option maxHeartbeats 4000000 in
set_option maxRecDepth 100000 in
theorem str_IndexRune (s:ByteArray) (c:Int) (w:World) (h0:0≤c) (h1:c<128) :
  Calls Tryz.prog 64 #[.string s,.int .i32 c] w fun e w'=>e=.returned (.int .i64 (Lib.indexByte s.data.toList c.toNat.toUInt8))∧w'=w:=by
 have hw:IntKind.u8.wrap c=c:=by rw[IntKind.wrap_u8];omega
 go_enter Tryz.func64,Tryz.ntmps64
 go_wp2_with (go_at_call 96;refine(str_IndexByte _ _ _).mono ?_;rintro e w' ⟨rfl,rfl⟩)
 go_ret
 exact⟨rfl,rfl⟩
set_option maxHeartbeats 1000000 in
theorem str_ContainsRune (s:ByteArray) (c:Int) (w:World) (h0:0≤c) (h1:c<128) :
  Calls Tryz.prog 34 #[.string s,.int .i32 c] w fun e w'=>e=.returned (.bool (decide (0≤Lib.indexByte s.data.toList c.toNat.toUInt8)))∧w'=w:=by
 go_enter Tryz.func34,Tryz.ntmps34
 go_wp2_with (go_at_call 64;refine(str_IndexRune _ _ _ h0 h1).mono ?_;rintro e w' ⟨rfl,rfl⟩)
 go_ret
 exact⟨rfl,rfl⟩
theorem vals_eq [Bk] [Ev] {A:Nat→Prop} {w:World} {us:Array Value} {vs:List Value} (hl:us.size=(vs.map AV.c).length) (hv:∀(i:Nat) (x:AV),(vs.map AV.c)[i]?=some x→RdL A w x (us.getD i Go.undef)):us=vs.toArray:=by
 apply Array.ext'
 apply List.ext_getElem?
 intro i
 by_cases hi:i<vs.length
 ·have h2:=hv i (.c vs[i]) (by simp[hi])
  cases hx:us.toList[i]? with
  |none=>simp at hx hl;omega
  |some u =>
   have:us.getD i Go.undef=u:=by
    rw[Array.getElem?_toList]at hx
    rw[Array.getD_eq_getD_getElem?,hx];rfl
   rw[this]at h2
   cases h2
   simp[hi]
 ·have h1:us.toList[i]?=none:=by simp at hl ⊢;omega
  rw[h1];simp;omega
theorem kn_c [Bk] [Ev] {k:FuncId} {vs:List Value} {r:Value} (hc:∀w,Calls Tryz.prog k vs.toArray w fun e w'=>e=.returned r∧Below w.heap.size w w'):KnOk Tryz.prog k (vs.map .c) (.c r):=by
 intro A w us hA hG hl hv
 have e:=vals_eq hl hv
 subst e
 refine(hc w).mono ?_
 rintro e w' ⟨rfl,hb⟩
 exact⟨_,rfl,.c _,hb⟩
theorem kn_ct [Bk] [Ev] {k:FuncId} {vs rs:List Value} (hc:∀w,Calls Tryz.prog k vs.toArray w fun e w'=>e=.returned (.tuple rs.toArray)∧Below w.heap.size w w') (_:rs.length≠1):KnOk Tryz.prog k (vs.map .c) (.tup (rs.map .c)):=by
 intro A w us hA hG hl hv
 have e:=vals_eq hl hv
 subst e
 refine(hc w).mono ?_
 rintro e w' ⟨rfl,hb⟩
 refine⟨_,rfl,.tup _ _ (by simp) fun i y hy=>?_,hb⟩
 rw[List.getElem?_map]at hy
 cases hr:rs[i]? with
 |none=>rw[hr]at hy;cases hy
 |some u =>
  rw[hr]at hy;cases hy
  have:rs.toArray.getD i Go.undef=u:=by simp[Array.getD_eq_getD_getElem?,hr]
  rw[this];exact .c _
theorem rune_kn [Bk] [Ev] (s:ByteArray) (c:Int) {b:Bool} (h:(decide (0≤c)&&decide (c<128)&&(decide (0≤Lib.indexByte s.data.toList c.toNat.toUInt8)==b))=true):KnOk Tryz.prog 34 [.c (.string s),.c (.int .i32 c)] (.c (.bool b)):=by
 simp only[Bool.and_eq_true,decide_eq_true_eq,beq_iff_eq]at h
 obtain⟨⟨h0,h1⟩,h2⟩:=h
 refine kn_c (vs:=[.string s,.int .i32 c]) fun w=>(str_ContainsRune s c w h0 h1).mono ?_
 rintro e w' ⟨rfl,rfl⟩
 exact⟨by rw[h2],Below.refl _ _⟩
def flatC:AV→Bool
 | .c _=>true
 | .tup l=>l.all fun x=>match x with | .c _=>true|_=>false
 |_=>false
theorem flat_cast (b1:Bk) (e1:@Ev b1) (b2:Bk) (e2:@Ev b2) {A:Nat→Prop} {w:World} {x:AV} {v:Value} (hf:flatC x=true) (h:@RdL b1 e1 A w x v):@RdL b2 e2 A w x v:=by
 cases h with
 |c v=>exact .c v
 |tup cs vs hl hr =>
  refine .tup cs vs hl fun i y hy=>?_
  have h1:=hr i y hy
  have h2:=List.all_eq_true.1 hf y (List.mem_of_getElem? hy)
  generalize vs.getD i Go.undef=u at h1
  cases y with
  |c q=>cases h1;exact .c _
  |_=>simp at h2
 |_=>simp[flatC]at hf
theorem kn_0 [b2:Bk] [e2:Ev] {L d:Nat} {k:FuncId} {xs:List AV} {r:AV} (h:@runsTo bk0 Tryz.prog L d k xs r=true) (ha:xs.all flatC=true) (hr:flatC r=true) (hg:b2.glob=[]:=by rfl):KnOk Tryz.prog k xs r:=by
 intro A w vs hA hG hl hv
 have:=@kn_of Tryz.prog bk0 ev0 bk0 ev0 rfl L d k xs r h (@ExtL.nil Tryz.prog bk0 ev0) (@YesL.nil Tryz.prog bk0 ev0) (@KnL.nil Tryz.prog bk0 ev0) rfl rfl rfl A w vs hA (@GOk.none bk0 A w rfl) hl fun i x hx=>flat_cast b2 e2 bk0 ev0 (List.all_eq_true.1 ha x (List.mem_of_getElem? hx)) (hv i x hx)
 refine this.mono ?_
 rintro e w' ⟨v,rfl,h1,h2⟩
 exact⟨v,rfl,flat_cast bk0 ev0 b2 e2 hr h1,h2⟩
set_option maxRecDepth 100000 in
theorem bnd_r0:@runsTo bk0 Tryz.prog 100000 60 35 [.c (.int .i64 1),.c (.int .i32 69)] (.tup [.c (.int .i64 0),.c (.int .i64 3)])=true:=by decide +kernel
set_option maxRecDepth 100000 in
theorem bnd_r1:@runsTo bk0 Tryz.prog 100000 60 35 [.c (.int .i64 1),.c (.int .i32 73)] (.tup [.c (.int .i64 0),.c (.int .i64 4)])=true:=by decide +kernel
set_option maxRecDepth 100000 in
theorem bnd_r2:@runsTo bk0 Tryz.prog 100000 60 35 [.c (.int .i64 1),.c (.int .i32 76)] (.tup [.c (.int .i64 0),.c (.int .i64 1)])=true:=by decide +kernel
set_option maxRecDepth 100000 in
theorem bnd_r3:@runsTo bk0 Tryz.prog 100000 60 35 [.c (.int .i64 1),.c (.int .i32 81)] (.tup [.c (.int .i64 1),.c (.int .i64 1073741824)])=true:=by decide +kernel
set_option maxRecDepth 100000 in
theorem bnd_r4:@runsTo bk0 Tryz.prog 100000 60 35 [.c (.int .i64 1),.c (.int .i32 65)] (.tup [.c (.int .i64 0),.c (.int .i64 1125899906842624)])=true:=by decide +kernel
set_option maxRecDepth 100000 in
theorem bnd_r6:@runsTo bk0 Tryz.prog 100000 60 35 [.c (.int .i64 4),.c (.int .i32 69)] (.tup [.c (.int .i64 0),.c (.int .i64 3)])=true:=by decide +kernel
set_option maxRecDepth 100000 in
theorem bnd_r7:@runsTo bk0 Tryz.prog 100000 60 35 [.c (.int .i64 4),.c (.int .i32 73)] (.tup [.c (.int .i64 0),.c (.int .i64 4)])=true:=by decide +kernel
set_option maxRecDepth 100000 in
theorem bnd_r8:@runsTo bk0 Tryz.prog 100000 60 35 [.c (.int .i64 4),.c (.int .i32 76)] (.tup [.c (.int .i64 0),.c (.int .i64 1)])=true:=by decide +kernel
set_option maxRecDepth 100000 in
theorem bnd_r9:@runsTo bk0 Tryz.prog 100000 60 35 [.c (.int .i64 4),.c (.int .i32 81)] (.tup [.c (.int .i64 1),.c (.int .i64 1073741824)])=true:=by decide +kernel
set_option maxRecDepth 100000 in
theorem bnd_r10:@runsTo bk0 Tryz.prog 100000 60 35 [.c (.int .i64 4),.c (.int .i32 65)] (.tup [.c (.int .i64 0),.c (.int .i64 1125899906842624)])=true:=by decide +kernel
set_option maxRecDepth 100000 in
theorem bnd_r11:@runsTo bk0 Tryz.prog 100000 60 35 [.c (.int .i64 14),.c (.int .i32 69)] (.tup [.c (.int .i64 0),.c (.int .i64 3)])=true:=by decide +kernel
end Go.Proofs.YtnalblnmplnhmaaGreat
