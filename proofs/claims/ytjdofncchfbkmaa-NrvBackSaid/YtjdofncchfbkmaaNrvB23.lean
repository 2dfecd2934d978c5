/-
  The law NrvBack: the runs of each round's calls (4).
-/
import Derived.Test.YtjdofncchfbkmaaNrvB1
set_option linter.unusedVariables false
namespace Go.Proofs.Ytjdofncchfbkmaa
open Mc

set_option maxRecDepth 1000000 in
theorem nb_do15 : nbDo 15 := by decide +kernel
set_option maxRecDepth 1000000 in
theorem nb_ma15 : nbMk 15 0 0 := by decide +kernel
set_option maxRecDepth 1000000 in
theorem nb_mb15 : nbMk 15 1 1000 := by decide +kernel
set_option maxRecDepth 1000000 in
theorem nb_mc15 : nbMk 15 (-1000) (-1) := by decide +kernel
set_option maxRecDepth 1000000 in
theorem nb_do16 : nbDo 16 := by decide +kernel
set_option maxRecDepth 1000000 in
theorem nb_ma16 : nbMk 16 0 0 := by decide +kernel
set_option maxRecDepth 1000000 in
theorem nb_mb16 : nbMk 16 1 1000 := by decide +kernel
set_option maxRecDepth 1000000 in
theorem nb_mc16 : nbMk 16 (-1000) (-1) := by decide +kernel
set_option maxRecDepth 1000000 in
theorem nb_do17 : nbDo 17 := by decide +kernel
set_option maxRecDepth 1000000 in
theorem nb_ma17 : nbMk 17 0 0 := by decide +kernel
set_option maxRecDepth 1000000 in
theorem nb_mb17 : nbMk 17 1 1000 := by decide +kernel
set_option maxRecDepth 1000000 in
theorem nb_mc17 : nbMk 17 (-1000) (-1) := by decide +kernel
set_option maxRecDepth 1000000 in
theorem nb_do18 : nbDo 18 := by decide +kernel
set_option maxRecDepth 1000000 in
theorem nb_ma18 : nbMk 18 0 0 := by decide +kernel
set_option maxRecDepth 1000000 in
theorem nb_mb18 : nbMk 18 1 1000 := by decide +kernel
set_option maxRecDepth 1000000 in
theorem nb_mc18 : nbMk 18 (-1000) (-1) := by decide +kernel
set_option maxRecDepth 1000000 in
theorem nb_do19 : nbDo 19 := by decide +kernel
set_option maxRecDepth 1000000 in
theorem nb_ma19 : nbMk 19 0 0 := by decide +kernel
set_option maxRecDepth 1000000 in
theorem nb_mb19 : nbMk 19 1 1000 := by decide +kernel
set_option maxRecDepth 1000000 in
theorem nb_mc19 : nbMk 19 (-1000) (-1) := by decide +kernel
end Go.Proofs.Ytjdofncchfbkmaa
