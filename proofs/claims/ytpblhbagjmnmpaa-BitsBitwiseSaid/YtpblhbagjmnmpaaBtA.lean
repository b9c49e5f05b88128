/- Contracts of the small functions of package bits and of its reference: masks, ranges, flags. Conditions: none. -/
import Derived.Test.YtpblhbagjmnmpaaProg
import Derived.Test.YtpblhbagjmnmpaaBtSpec
import Derived.WalkKit
import Derived.WalkLawsBesides
import Derived.WalkSpells
import Derived.Lib.Hide
import Derived.Deep.QuietTactic
import Derived.BigQuiet
import Derived.Carry
import Derived.Below
set_option linter.unusedVariables false
set_option linter.unusedSimpArgs false
namespace Go.Proofs.Ytpblhbagjmnmpaa
open Go Go.RowKit
namespace Bt

theorem ret_int {k : IntKind} {a b : Int} (h : a = b) : Ending.returned (.int k a) = .returned (.int k b) := by rw [h]
theorem ret_bool {a b : Bool} (h : a = b) : Ending.returned (.bool a) = .returned (.bool b) := by rw [h]
theorem mask_lo {w : Int} (h : w < 0) : mask w = 0 := by unfold mask; rw [if_pos (Or.inl h)]
theorem mask_hi {w : Int} (h : 62 < w) : mask w = 0 := by unfold mask; rw [if_pos (Or.inr h)]
theorem mask_in {w : Int} (h0 : 0 ≤ w) (h1 : w ≤ 62) : mask w = 2 ^ w.toNat - 1 := by unfold mask; rw [if_neg (by omega)]
theorem pow_bd {n : Nat} (h : n ≤ 62) : (1 : Int) ≤ 2 ^ n ∧ (2 : Int) ^ n ≤ 4611686018427387904 := by
  refine ⟨by have := Int.pow_pos (n := 2) (m := n) (by omega); omega, ?_⟩
  have h2 : 2 ^ n ≤ 2 ^ 62 := Nat.pow_le_pow_right (by omega) h
  have h3 : (2 ^ 62 : Nat) = 4611686018427387904 := rfl
  rw [h3] at h2
  have h4 : ((2 ^ n : Nat) : Int) = (2 : Int) ^ n := Int.natCast_pow 2 n
  omega
theorem mask_wrap {w : Int} (h0 : 0 ≤ w) (h1 : w ≤ 62) : wrap64 (wrap64 (2 ^ w.toNat) - 1) = mask w := by
  rw [mask_in h0 h1]
  have := pow_bd (n := w.toNat) (by omega)
  unfold wrap64
  omega
theorem fit_yes {w : Int} (h0 : 1 ≤ w) (h1 : w ≤ 8) : fit w = true := by simp [fit, h0, h1]
theorem fit_no {w : Int} (h : w < 1 ∨ 8 < w) : fit w = false := by simp only [fit, decide_eq_false_iff_not]; omega
theorem fit_iff {w : Int} : fit w = true ↔ 1 ≤ w ∧ w ≤ 8 := by simp [fit]
theorem fit_not {w : Int} : fit w = false ↔ ¬ (1 ≤ w ∧ w ≤ 8) := by simp only [fit, decide_eq_false_iff_not]

set_option maxHeartbeats 400000 in
/-- bits.Mask -/
theorem Mask_any (w : Int) (W : World) : Calls Try.prog 14 #[.int .i64 w] W fun e W' => e = .returned (.int .i64 (mask w)) ∧ W = W' := by
  by_cases h0 : w < 0
  · go_enter Try.func14, Try.ntmps14
    go_wp2
    go_ret
    exact ⟨ret_int (mask_lo h0).symm, rfl⟩
  · by_cases h1 : 62 < w
    · go_enter Try.func14, Try.ntmps14
      go_wp2
      go_ret
      exact ⟨ret_int (mask_hi h1).symm, rfl⟩
    · have h2 : 0 ≤ w := by omega
      have h3 : w ≤ 62 := by omega
      go_enter Try.func14, Try.ntmps14
      go_wp2
      go_ret
      exact ⟨ret_int (mask_wrap h2 h3), rfl⟩
set_option maxHeartbeats 400000 in
/-- wireloomref07.Mask -/
theorem RMask_any (w : Int) (W : World) : Calls Try.prog 15 #[.int .i64 w] W fun e W' => e = .returned (.int .i64 (mask w)) ∧ W = W' := by
  by_cases h0 : w < 0
  · go_enter Try.func15, Try.ntmps15
    go_wp2
    go_ret
    exact ⟨ret_int (mask_lo h0).symm, rfl⟩
  · by_cases h1 : 62 < w
    · go_enter Try.func15, Try.ntmps15
      go_wp2
      go_ret
      exact ⟨ret_int (mask_hi h1).symm, rfl⟩
    · have h2 : 0 ≤ w := by omega
      have h3 : w ≤ 62 := by omega
      go_enter Try.func15, Try.ntmps15
      go_wp2
      go_ret
      exact ⟨ret_int (mask_wrap h2 h3), rfl⟩
set_option maxHeartbeats 400000 in
/-- wireloomref07.In -/
theorem In_any (w : Int) (W : World) : Calls Try.prog 28 #[.int .i64 w] W fun e W' => e = .returned (.bool (fit w)) ∧ W = W' := by
  by_cases h0 : 1 ≤ w
  · by_cases h1 : w ≤ 8
    · go_enter Try.func28, Try.ntmps28
      go_wp2
      go_ret
      exact ⟨ret_bool (fit_yes h0 h1).symm, rfl⟩
    · go_enter Try.func28, Try.ntmps28
      go_wp2
      go_ret
      exact ⟨ret_bool (fit_no (by omega)).symm, rfl⟩
  · go_enter Try.func28, Try.ntmps28
    go_wp2
    go_ret
    exact ⟨ret_bool (fit_no (by omega)).symm, rfl⟩
set_option maxHeartbeats 400000 in
/-- bits.fits -/
theorem fits_any (w : Int) (W : World) : Calls Try.prog 37 #[.int .i64 w] W fun e W' => e = .returned (.bool (fit w)) ∧ W = W' := by
  by_cases h0 : 1 ≤ w
  · by_cases h1 : w ≤ 8
    · go_enter Try.func37, Try.ntmps37
      go_wp2
      go_ret
      exact ⟨ret_bool (fit_yes h0 h1).symm, rfl⟩
    · go_enter Try.func37, Try.ntmps37
      go_wp2
      go_ret
      exact ⟨ret_bool (fit_no (by omega)).symm, rfl⟩
  · go_enter Try.func37, Try.ntmps37
    go_wp2
    go_ret
    exact ⟨ret_bool (fit_no (by omega)).symm, rfl⟩
set_option maxHeartbeats 400000 in
/-- bits.bit -/
theorem bit_any (b : Bool) (W : World) : Calls Try.prog 32 #[.bool b] W fun e W' => e = .returned (.int .i64 (b2i b)) ∧ W = W' := by
  cases b
  all_goals
    go_enter Try.func32, Try.ntmps32
    go_wp2
    go_ret
    exact ⟨rfl, rfl⟩
set_option maxHeartbeats 400000 in
/-- wireloomref07.flag -/
theorem flag_any (b : Bool) (W : World) : Calls Try.prog 38 #[.bool b] W fun e W' => e = .returned (.int .i64 (b2i b)) ∧ W = W' := by
  cases b
  all_goals
    go_enter Try.func38, Try.ntmps38
    go_wp2
    go_ret
    exact ⟨rfl, rfl⟩
set_option maxHeartbeats 400000 in
/-- bits.width$1 -/
theorem unfit_any (w : Int) (W : World) : Calls Try.prog 36 #[.int .i64 w] W fun e W' => e = .returned (.bool (!fit w)) ∧ W = W' := by
  go_enter Try.func36, Try.ntmps36
  go_wp2_with (go_at_call 37; refine (fits_any _ _).mono ?_; rintro e w' ⟨rfl, rfl⟩)
  go_ret
  exact ⟨rfl, rfl⟩
end Bt
end Go.Proofs.Ytpblhbagjmnmpaa
