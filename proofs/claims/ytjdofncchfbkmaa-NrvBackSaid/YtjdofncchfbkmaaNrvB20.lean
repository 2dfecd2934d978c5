/-
  The law NrvBack: the runs of each round's calls (1).
-/
import Derived.Test.YtjdofncchfbkmaaNrvB1
set_option linter.unusedVariables false
namespace Go.Proofs.Ytjdofncchfbkmaa
open Mc

set_option maxRecDepth 1000000 in
theorem nb_st : @runsTo nb0 Try.prog 100000 60 10 [.c (.int .i64 0), .e (pvar 1), .e (pscale 10 (pvar 1)), .c (.int .i64 10)] (nbS (nbD 0) (nbM 0) (nbP 0)) = true := by decide +kernel
set_option maxRecDepth 1000000 in
theorem nb_do0 : nbDo 0 := by decide +kernel
set_option maxRecDepth 1000000 in
theorem nb_ma0 : nbMk 0 0 0 := by decide +kernel
set_option maxRecDepth 1000000 in
theorem nb_mb0 : nbMk 0 1 1000 := by decide +kernel
set_option maxRecDepth 1000000 in
theorem nb_do1 : nbDo 1 := by decide +kernel
set_option maxRecDepth 1000000 in
theorem nb_ma1 : nbMk 1 0 0 := by decide +kernel
set_option maxRecDepth 1000000 in
theorem nb_mb1 : nbMk 1 1 1000 := by decide +kernel
set_option maxRecDepth 1000000 in
theorem nb_mc1 : nbMk 1 (-1000) (-1) := by decide +kernel
set_option maxRecDepth 1000000 in
theorem nb_do2 : nbDo 2 := by decide +kernel
set_option maxRecDepth 1000000 in
theorem nb_ma2 : nbMk 2 0 0 := by decide +kernel
set_option maxRecDepth 1000000 in
theorem nb_mb2 : nbMk 2 1 1000 := by decide +kernel
set_option maxRecDepth 1000000 in
theorem nb_mc2 : nbMk 2 (-1000) (-1) := by decide +kernel
set_option maxRecDepth 1000000 in
theorem nb_do3 : nbDo 3 := by decide +kernel
set_option maxRecDepth 1000000 in
theorem nb_ma3 : nbMk 3 0 0 := by decide +kernel
set_option maxRecDepth 1000000 in
theorem nb_mb3 : nbMk 3 1 1000 := by decide +kernel
set_option maxRecDepth 1000000 in
theorem nb_mc3 : nbMk 3 (-1000) (-1) := by decide +kernel
set_option maxRecDepth 1000000 in
theorem nb_do4 : nbDo 4 := by decide +kernel
set_option maxRecDepth 1000000 in
theorem nb_ma4 : nbMk 4 0 0 := by decide +kernel
set_option maxRecDepth 1000000 in
theorem nb_mb4 : nbMk 4 1 1000 := by decide +kernel
set_option maxRecDepth 1000000 in
theorem nb_mc4 : nbMk 4 (-1000) (-1) := by decide +kernel
end Go.Proofs.Ytjdofncchfbkmaa
