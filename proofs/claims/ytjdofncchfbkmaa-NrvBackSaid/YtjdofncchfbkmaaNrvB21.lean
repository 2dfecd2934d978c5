/-
  The law NrvBack: the runs of each round's calls (2).
-/
import Derived.Test.YtjdofncchfbkmaaNrvB1
set_option linter.unusedVariables false
namespace Go.Proofs.Ytjdofncchfbkmaa
open Mc

set_option maxRecDepth 1000000 in
theorem nb_do5 : nbDo 5 := by decide +kernel
set_option maxRecDepth 1000000 in
theorem nb_ma5 : nbMk 5 0 0 := by decide +kernel
set_option maxRecDepth 1000000 in
theorem nb_mb5 : nbMk 5 1 1000 := by decide +kernel
set_option maxRecDepth 1000000 in
theorem nb_mc5 : nbMk 5 (-1000) (-1) := by decide +kernel
set_option maxRecDepth 1000000 in
theorem nb_do6 : nbDo 6 := by decide +kernel
set_option maxRecDepth 1000000 in
theorem nb_ma6 : nbMk 6 0 0 := by decide +kernel
set_option maxRecDepth 1000000 in
theorem nb_mb6 : nbMk 6 1 1000 := by decide +kernel
set_option maxRecDepth 1000000 in
theorem nb_mc6 : nbMk 6 (-1000) (-1) := by decide +kernel
set_option maxRecDepth 1000000 in
theorem nb_do7 : nbDo 7 := by decide +kernel
set_option maxRecDepth 1000000 in
theorem nb_ma7 : nbMk 7 0 0 := by decide +kernel
set_option maxRecDepth 1000000 in
theorem nb_mb7 : nbMk 7 1 1000 := by decide +kernel
set_option maxRecDepth 1000000 in
theorem nb_mc7 : nbMk 7 (-1000) (-1) := by decide +kernel
set_option maxRecDepth 1000000 in
theorem nb_do8 : nbDo 8 := by decide +kernel
set_option maxRecDepth 1000000 in
theorem nb_ma8 : nbMk 8 0 0 := by decide +kernel
set_option maxRecDepth 1000000 in
theorem nb_mb8 : nbMk 8 1 1000 := by decide +kernel
set_option maxRecDepth 1000000 in
theorem nb_mc8 : nbMk 8 (-1000) (-1) := by decide +kernel
set_option maxRecDepth 1000000 in
theorem nb_do9 : nbDo 9 := by decide +kernel
set_option maxRecDepth 1000000 in
theorem nb_ma9 : nbMk 9 0 0 := by decide +kernel
set_option maxRecDepth 1000000 in
theorem nb_mb9 : nbMk 9 1 1000 := by decide +kernel
set_option maxRecDepth 1000000 in
theorem nb_mc9 : nbMk 9 (-1000) (-1) := by decide +kernel
end Go.Proofs.Ytjdofncchfbkmaa
