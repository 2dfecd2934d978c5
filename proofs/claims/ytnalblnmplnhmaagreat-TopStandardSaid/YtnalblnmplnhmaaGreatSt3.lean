/-
  What there is: contracts of the first in's layers and of sums, over closed data.
-/
import Derived.Test.YtnalblnmplnhmaaGreatSt2
import Derived.Test.YtnalblnmplnhmaaGreatFifoH
set_option linter.unusedVariables false
set_option linter.unusedSimpArgs false
namespace Go.Proofs.YtnalblnmplnhmaaGreat
open Go.RowKit Mc

/-- A state of one entity and one item. -/
def oneS (m c : Int) (pools : List PoolD) (b r : List Int) (rc : List RcD) (sa : List SaD) (d : Int) : StD :=
  { entities := 1, periods := 4, weights := [1], methods := [[m]], costs := [[c]], ents := [{ now := 1, closed := false, pools := pools, bal := b, rolls := [r], prices := [-1], down := [0], ahead := [] }], receipts := rc, sales := sa, transits := [], done := d }
/-- .. its lists as rows. -/
def oneA (m c : Int) (pools : List PoolD) (B : List (List AV)) (r : List Int) (RC SA : List (List AV)) (d : Int) : AV :=
  .agg [.i 1, .i 4, .lit 1 (intsR [1]), .lit 1 (intssR [[m]]), .lit 1 (intssR [[c]]), .lit 8 [[.i 1, .c (.bool false), .lit 4 (poolsR pools), .lit 1 B, .lit 11 (rollsR [r]), .lit 1 (intsR [-1]), .lit 1 (intsR [0]), .lit 8 []]], .lit 8 RC, .lit 9 SA, .lit 6 [], .i d]
theorem rcs_snoc (rc : List RcD) (x : RcD) : rcsR rc ++ [rowI x.r] = rcsR (rc ++ [x]) := by simp [rcsR]
theorem sas_snoc (sa : List SaD) (x : SaD) : sasR sa ++ [x.row] = sasR (sa ++ [x]) := by simp [sasR]
theorem cl_oneA {m c : Int} {pools : List PoolD} {B : List (List AV)} {r : List Int} {RC SA : List (List AV)} {d : Int} (hB : ClR B) (hR : ClR RC) (hS : ClR SA) : Cl (oneA m c pools B r RC SA d) :=
  .agg _ (cl_cons (.c _) (cl_cons (.c _) (cl_cons (cl_ints _).lit (cl_cons (cl_intss _).lit (cl_cons (cl_intss _).lit (cl_cons (clR_cons (cl_cons (.c _) (cl_cons (.c _) (cl_cons (cl_pools _).lit (cl_cons hB.lit (cl_cons (cl_rolls _).lit (cl_cons (cl_ints _).lit (cl_cons (cl_ints _).lit (cl_cons ClR.nil.lit cl_nil)))))))) ClR.nil).lit (cl_cons hR.lit (cl_cons hS.lit (cl_cons ClR.nil.lit (cl_cons (.c _) cl_nil))))))))))
theorem clR_row {l : List Int} : ClR [rowI l] := clR_cons (cl_rowI l) ClR.nil
end Go.Proofs.YtnalblnmplnhmaaGreat
