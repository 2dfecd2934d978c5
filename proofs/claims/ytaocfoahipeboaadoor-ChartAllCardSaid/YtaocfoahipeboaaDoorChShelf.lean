/-
  strings.Fields at ASCII texts, by the shelf's contract. (Written by the kit's lay-shelf and lay-plain.)
-/
import Derived.Shelf.Strings.Fields
import Derived.Test.YtaocfoahipeboaaDoorProg
namespace Go.Proofs
open Go.Shelf
def Tryd.lays157_ren : Go.Shelf.Ren := ⟨fun | 157 => 20 | 229 => 21 | 199 => 22 | 261 => 23 | 311 => 24 | 312 => 25 | n => n, fun | 9 => 9 | 31 => 37 | 3 => 3 | 5 => 5 | 4 => 4 | 119 => 39 | 0 => 0 | 40 => 41 | 152 => 42 | 21 => 21 | 154 => 44 | 51 => 45 | 141 => 47 | 196 => 51 | 193 => 48 | 198 => 54 | 49 => 52 | 194 => 49 | 201 => 57 | 226 => 59 | 46 => 60 | 227 => 61 | n => n, fun | 0 => 0 | 6 => 1 | n => n⟩
theorem Tryd.lays157 : Go.Proofs.Lays.n157 Tryd.prog Tryd.lays157_ren := {
  mixed := by kernel_rfl
  f157 := Tryd.func20.trans (congrArg some (by kernel_rfl))
  f199 := Tryd.func22.trans (congrArg some (by kernel_rfl))
  f229 := Tryd.func21.trans (congrArg some (by kernel_rfl))
  f261 := Tryd.func23.trans (congrArg some (by kernel_rfl))
  f311 := Tryd.func24.trans (congrArg some (by kernel_rfl))
  f312 := Tryd.func25.trans (congrArg some (by kernel_rfl))
  t0 := Tryd.underlying0
  a0 := Tryd.isAgg0
  z0 := Tryd.sizeOf0
  v0 := Tryd.zeroValue0
  t3 := Tryd.underlying3
  a3 := Tryd.isAgg3
  z3 := Tryd.sizeOf3
  v3 := Tryd.zeroValue3
  t4 := Tryd.underlying4
  a4 := Tryd.isAgg4
  z4 := Tryd.sizeOf4
  v4 := Tryd.zeroValue4
  t5 := Tryd.underlying5
  a5 := Tryd.isAgg5
  z5 := Tryd.sizeOf5
  v5 := Tryd.zeroValue5
  t9 := Tryd.underlying9
  a9 := Tryd.isAgg9
  z9 := Tryd.sizeOf9
  v9 := Tryd.zeroValue9
  t21 := Tryd.underlying21
  a21 := Tryd.isAgg21
  z21 := Tryd.sizeOf21
  v21 := Tryd.zeroValue21
  t31 := Tryd.underlying37
  a31 := Tryd.isAgg37
  z31 := Tryd.sizeOf37
  v31 := Tryd.zeroValue37
  t40 := Tryd.underlying41
  a40 := Tryd.isAgg41
  z40 := Tryd.sizeOf41
  v40 := Tryd.zeroValue41
  t46 := Tryd.underlying60
  a46 := Tryd.isAgg60
  z46 := Tryd.sizeOf60
  v46 := Tryd.zeroValue60
  t49 := Tryd.underlying52
  a49 := Tryd.isAgg52
  z49 := Tryd.sizeOf52
  v49 := Tryd.zeroValue52
  t51 := Tryd.underlying45
  a51 := Tryd.isAgg45
  z51 := Tryd.sizeOf45
  v51 := Tryd.zeroValue45
  t119 := Tryd.underlying39
  a119 := Tryd.isAgg39
  z119 := Tryd.sizeOf39
  t141 := Tryd.underlying47
  a141 := Tryd.isAgg47
  z141 := Tryd.sizeOf47
  v141 := Tryd.zeroValue47
  t152 := Tryd.underlying42
  a152 := Tryd.isAgg42
  z152 := Tryd.sizeOf42
  v152 := Tryd.zeroValue42
  t154 := Tryd.underlying44
  a154 := Tryd.isAgg44
  z154 := Tryd.sizeOf44
  v154 := Tryd.zeroValue44
  t193 := Tryd.underlying48
  a193 := Tryd.isAgg48
  z193 := Tryd.sizeOf48
  v193 := Tryd.zeroValue48
  t194 := Tryd.underlying49
  a194 := Tryd.isAgg49
  z194 := Tryd.sizeOf49
  v194 := Tryd.zeroValue49
  t196 := Tryd.underlying51
  a196 := Tryd.isAgg51
  z196 := Tryd.sizeOf51
  v196 := Tryd.zeroValue51
  t198 := Tryd.underlying54
  a198 := Tryd.isAgg54
  z198 := Tryd.sizeOf54
  v198 := Tryd.zeroValue54
  t201 := Tryd.underlying57
  a201 := Tryd.isAgg57
  z201 := Tryd.sizeOf57
  v201 := Tryd.zeroValue57
  t226 := Tryd.underlying59
  a226 := Tryd.isAgg59
  z226 := Tryd.sizeOf59
  v226 := Tryd.zeroValue59
  t227 := Tryd.underlying61
  a227 := Tryd.isAgg61
  z227 := Tryd.sizeOf61
  v227 := Tryd.zeroValue61
  g0 := by kernel_rfl
  g6 := by kernel_rfl }
open Go.RowKit Go.Lib in
/-- strings.Fields, the table by 'Lib.TabIs' (as strings.TrimSpace's contract). 'hg': the table's number, by its name: at a dump 'by kernel_rfl'. (LAID: no walk: one application.) -/
theorem Tryd.strings_Fields (s : ByteArray) (w : World) (hs : s.size < 4294967281) (hascii : ∀ (j : Nat) b, s.data.toList[j]? = some b → b.toNat < 128) (htab : Lib.TabIs Tryd.prog w "strings.asciiSpace" .u8 Lib.asciiSpaceTab) :
    Calls Tryd.prog 20 #[.string s] w fun e w' =>
      e = .returned (.slice (some ⟨w.heap.size, 0, none⟩) (Lib.fields s.data.toList).length (Lib.fields s.data.toList).length) ∧ w' = w.alloc (.cells ((Lib.fields s.data.toList).map fun l => Value.string ⟨l.toArray⟩).toArray 9) := Any.strings_Fields Tryd.lays157 (by kernel_rfl) (by kernel_rfl) s w hs hascii htab
end Go.Proofs
