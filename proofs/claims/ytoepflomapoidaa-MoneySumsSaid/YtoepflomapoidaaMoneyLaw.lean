/-
  The statements of money: their walks.
-/
import Derived.Test.YtoepflomapoidaaMoney5
namespace Go.Proofs.Ytoepflomapoidaa
open Go.RowKit

set_option maxHeartbeats 800000 in
theorem money_awake (w : World) :
    Calls Try.prog 8 #[] w fun e w' => e = .returned (.bool true) ∧ Below w.heap.size w w' := by
  have e1 : mdQ 7 3 2 = 10 := by decide +kernel
  have e2 : mdR 7 3 2 = 1 := by decide +kernel
  have e3 : mdE 7 3 2 = 0 := by decide +kernel
  have e4 : addE 288230376151711744 1 = 2 := by decide +kernel
  have e5 : sumV [1, 2, -4] = -1 := by decide +kernel
  have e6 : sumE [1, 2, -4] = 0 := by decide +kernel
  have e7 : wideHi 1099511627776 1099511627776 = 65536 := by decide +kernel
  have e8 : wideLo 1099511627776 1099511627776 = 0 := by decide +kernel
  have e9 : partS (-7) 1 2 = -3 := by decide +kernel
  have e10 : partS 7 2 2 = 7 := by decide +kernel
  go_enter Try.func8, Try.ntmps8
  go_wp2_with (first | (go_at_call 9; refine (money_Add _ _ _).mono ?_; rintro e w' ⟨rfl, rfl⟩) | (go_at_call 13; refine (money_MulDiv _ _ _ _ (by first | assumption | exact ⟨by omega, by omega⟩) (by first | assumption | exact ⟨by omega, by omega⟩) (by first | assumption | exact ⟨by omega, by omega⟩)).mono ?_; rintro e w' ⟨rfl, hwm⟩) | (go_at_call 15; refine (money_Wide _ _ _).mono ?_; rintro e w' ⟨rfl, hww⟩) | (go_at_call 17; refine (money_Part _ _ _ _ (by first | assumption | exact ⟨by omega, by omega⟩) (by first | assumption | exact ⟨by omega, by omega⟩) (by first | assumption | exact ⟨by omega, by omega⟩)).mono ?_; rintro e w' ⟨rfl, hwp⟩) | (go_at_call 11; refine (money_Sum _ _ _ [1, 2, -4] _ (Row.new _ 1 3 [1, 2, -4] _ rfl (by decide) (AllI.of_B (by decide)))).mono ?_; rintro e w' ⟨rfl, rfl⟩))
  go_ret
  exact ⟨rfl, by (repeat (first | assumption | exact Below.refl _ _ | refine ballc ?_ _ | refine bdrew ?_ | refine bdrewN ?_ _ | refine bthen ?_ (by assumption)))⟩

set_option maxHeartbeats 800000 in
theorem MoneyAll_walk (a b c : Int) (l : Option Addr) (n cap : Nat) (zs : List Int) (w : World) (ha : I64 a) (hb : I64 b) (hc : I64 c) (h : Row w 1 l n cap zs) :
    Calls Try.prog 3 #[.int .i64 a, .int .i64 b, .int .i64 c, .slice l n cap] w fun e w' => e = .returned (.bool true) ∧ Below w.heap.size w w' := by
  by_cases hn : 100 < n
  · go_enter Try.func3, Try.ntmps3
    go_wp2_with (first | (go_at_call 8; refine (money_awake _).mono ?_; rintro e w' ⟨rfl, hwa⟩))
    go_ret
    exact ⟨rfl, by (repeat (first | assumption | exact Below.refl _ _ | refine ballc ?_ _ | refine bdrew ?_ | refine bdrewN ?_ _ | refine bthen ?_ (by assumption)))⟩
  have hn : n ≤ 100 := by omega
  go_enter Try.func3, Try.ntmps3
  go_wp2_with (first | (go_at_call 9; refine (money_Add _ _ _).mono ?_; rintro e w' ⟨rfl, rfl⟩) | (go_at_call 10; refine (ref_Add _ _ _).mono ?_; rintro e w' ⟨rfl, rfl⟩) | (go_at_call 11; refine (money_Sum _ _ _ _ _ h).mono ?_; rintro e w' ⟨rfl, rfl⟩) | (go_at_call 12; refine (ref_Sum _ _ _ _ _ h).mono ?_; rintro e w' ⟨rfl, rfl⟩) | (go_at_call 13; refine (money_MulDiv _ _ _ _ (by first | assumption | exact ⟨by omega, by omega⟩) (by first | assumption | exact ⟨by omega, by omega⟩) (by first | assumption | exact ⟨by omega, by omega⟩)).mono ?_; rintro e w' ⟨rfl, hwm⟩) | (go_at_call 14; refine (ref_MulDiv _ _ _ _ (by first | assumption | exact ⟨by omega, by omega⟩) (by first | assumption | exact ⟨by omega, by omega⟩) (by first | assumption | exact ⟨by omega, by omega⟩)).mono ?_; rintro e w' ⟨rfl, rfl⟩) | (go_at_call 15; refine (money_Wide _ _ _).mono ?_; rintro e w' ⟨rfl, hww⟩) | (go_at_call 16; refine (ref_Wide _ _ _).mono ?_; rintro e w' ⟨rfl, rfl⟩) | (go_at_call 17; refine (money_Part _ _ _ _ (by first | assumption | exact ⟨by omega, by omega⟩) (by first | assumption | exact ⟨by omega, by omega⟩) (by first | assumption | exact ⟨by omega, by omega⟩)).mono ?_; rintro e w' ⟨rfl, hwp⟩) | (go_at_call 18; refine (ref_Part _ _ _ _ (by first | assumption | exact ⟨by omega, by omega⟩) (by first | assumption | exact ⟨by omega, by omega⟩) (by first | assumption | exact ⟨by omega, by omega⟩)).mono ?_; rintro e w' ⟨rfl, rfl⟩) | (go_at_call 8; refine (money_awake _).mono ?_; rintro e w' ⟨rfl, hwa⟩))
  go_ret
  exact ⟨rfl, by (repeat (first | assumption | exact Below.refl _ _ | refine ballc ?_ _ | refine bdrew ?_ | refine bdrewN ?_ _ | refine bthen ?_ (by assumption)))⟩
end Go.Proofs.Ytoepflomapoidaa
