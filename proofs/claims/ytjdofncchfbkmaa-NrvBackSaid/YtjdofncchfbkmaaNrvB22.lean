/-
  The law NrvBack: the runs of each round's calls (3).
-/
import Derived.Test.YtjdofncchfbkmaaNrvB1
set_option linter.unusedVariables false
namespace Go.Proofs.Ytjdofncchfbkmaa
open Mc

set_option maxRecDepth 1000000 in
theorem nb_do10 : nbDo 10 := by decide +kernel
set_option maxRecDepth 1000000 in
theorem nb_ma10 : nbMk 10 0 0 := by decide +kernel
set_option maxRecDepth 1000000 in
theorem nb_mb10 : nbMk 10 1 1000 := by decide +kernel
set_option maxRecDepth 1000000 in
theorem nb_mc10 : nbMk 10 (-1000) (-1) := by decide +kernel
set_option maxRecDepth 1000000 in
theorem nb_do11 : nbDo 11 := by decide +kernel
set_option maxRecDepth 1000000 in
theorem nb_ma11 : nbMk 11 0 0 := by decide +kernel
set_option maxRecDepth 1000000 in
theorem nb_mb11 : nbMk 11 1 1000 := by decide +kernel
set_option maxRecDepth 1000000 in
theorem nb_mc11 : nbMk 11 (-1000) (-1) := by decide +kernel
set_option maxRecDepth 1000000 in
theorem nb_do12 : nbDo 12 := by decide +kernel
set_option maxRecDepth 1000000 in
theorem nb_ma12 : nbMk 12 0 0 := by decide +kernel
set_option maxRecDepth 1000000 in
theorem nb_mb12 : nbMk 12 1 1000 := by decide +kernel
set_option maxRecDepth 1000000 in
theorem nb_mc12 : nbMk 12 (-1000) (-1) := by decide +kernel
set_option maxRecDepth 1000000 in
theorem nb_do13 : nbDo 13 := by decide +kernel
set_option maxRecDepth 1000000 in
theorem nb_ma13 : nbMk 13 0 0 := by decide +kernel
set_option maxRecDepth 1000000 in
theorem nb_mb13 : nbMk 13 1 1000 := by decide +kernel
set_option maxRecDepth 1000000 in
theorem nb_mc13 : nbMk 13 (-1000) (-1) := by decide +kernel
set_option maxRecDepth 1000000 in
theorem nb_do14 : nbDo 14 := by decide +kernel
set_option maxRecDepth 1000000 in
theorem nb_ma14 : nbMk 14 0 0 := by decide +kernel
set_option maxRecDepth 1000000 in
theorem nb_mb14 : nbMk 14 1 1000 := by decide +kernel
set_option maxRecDepth 1000000 in
theorem nb_mc14 : nbMk 14 (-1000) (-1) := by decide +kernel
end Go.Proofs.Ytjdofncchfbkmaa
