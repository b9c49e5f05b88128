/- Contract of the reference's value. Conditions: the operation is valid on the arguments. -/
import Derived.Test.YtpblhbagjmnmpaaBtK
set_option linter.unusedVariables false
set_option linter.unusedSimpArgs false
namespace Go.Proofs.Ytpblhbagjmnmpaa
open Go Go.RowKit
open Go.MapKept
namespace Bt

set_option maxHeartbeats 800000 in
theorem rv2 (bb bo cb : Nat) (x y a : Int) (W : World) (g0 : W.cell? ⟨bb, bo, none⟩ = some (.int .i64 a)) (fx : fit x = true) (ha : 0 ≤ a ∧ a ≤ mask x) :
    Calls Try.prog 30 #[.int .i64 2, .agg #[.int .i64 x, .int .i64 y], .slice (some ⟨bb, bo, none⟩) 1 cb] W fun e W' => e = .returned (.int .i64 (mask x - a)) ∧ Below W.heap.size W W' := by
  have na0 := World.new_ne W _ g0
  have la0 := World.block_lt_of_cell? W _ g0
  have hm := mask_le fx
  have e1 : IntKind.i64.wrap (mask x - a) = mask x - a := IntWalk.i64_in _ (by omega)
  go_enter Try.func30, Try.ntmps30
  go_wp2_with (first | (go_at_call 15; refine (RMask_any _ _).mono ?_; rintro e w' ⟨rfl, rfl⟩) | (go_at_call 38; refine (flag_any _ _).mono ?_; rintro e w' ⟨rfl, rfl⟩))
  all_goals go_ret
  all_goals exact ⟨rfl, (by repeat (first | exact Below.refl _ _ | refine Below.drew ?_ | refine bel_drewN ?_ _ | refine Below.setCell ?_ (by simp <;> omega) _ | refine Below.alloc ?_ (by simp <;> omega) _))⟩
set_option maxHeartbeats 800000 in
theorem rv3 (bb bo cb : Nat) (x y a b : Int) (W : World) (g0 : W.cell? ⟨bb, bo, none⟩ = some (.int .i64 a)) (g1 : W.cell? ⟨bb, bo + 1, none⟩ = some (.int .i64 b)) :
    Calls Try.prog 30 #[.int .i64 3, .agg #[.int .i64 x, .int .i64 y], .slice (some ⟨bb, bo, none⟩) 2 cb] W fun e W' => e = .returned (.int .i64 (Go.bits .and .i64 a b)) ∧ Below W.heap.size W W' := by
  have na0 := World.new_ne W _ g0
  have la0 := World.block_lt_of_cell? W _ g0
  have na1 := World.new_ne W _ g1
  have la1 := World.block_lt_of_cell? W _ g1
  go_enter Try.func30, Try.ntmps30
  go_wp2_with (first | (go_at_call 15; refine (RMask_any _ _).mono ?_; rintro e w' ⟨rfl, rfl⟩) | (go_at_call 38; refine (flag_any _ _).mono ?_; rintro e w' ⟨rfl, rfl⟩))
  go_region_held3 (fun w' => w'.cell? ⟨bb, bo, none⟩ = some (.int .i64 a) ∧ w'.cell? ⟨bb, bo + 1, none⟩ = some (.int .i64 b)) (go_keep) ((first | (go_at_call 15; refine (RMask_any _ _).mono ?_; rintro e w' ⟨rfl, rfl⟩) | (go_at_call 38; refine (flag_any _ _).mono ?_; rintro e w' ⟨rfl, rfl⟩)))
  all_goals go_wp2_with (first | (go_at_call 15; refine (RMask_any _ _).mono ?_; rintro e w' ⟨rfl, rfl⟩) | (go_at_call 38; refine (flag_any _ _).mono ?_; rintro e w' ⟨rfl, rfl⟩))
  all_goals go_ret
  all_goals exact ⟨rfl, (by repeat (first | exact Below.refl _ _ | refine Below.drew ?_ | refine bel_drewN ?_ _ | refine Below.setCell ?_ (by simp <;> omega) _ | refine Below.alloc ?_ (by simp <;> omega) _))⟩
set_option maxHeartbeats 800000 in
theorem rv4 (bb bo cb : Nat) (x y a b : Int) (W : World) (g0 : W.cell? ⟨bb, bo, none⟩ = some (.int .i64 a)) (g1 : W.cell? ⟨bb, bo + 1, none⟩ = some (.int .i64 b)) :
    Calls Try.prog 30 #[.int .i64 4, .agg #[.int .i64 x, .int .i64 y], .slice (some ⟨bb, bo, none⟩) 2 cb] W fun e W' => e = .returned (.int .i64 (Go.bits .or .i64 a b)) ∧ Below W.heap.size W W' := by
  have na0 := World.new_ne W _ g0
  have la0 := World.block_lt_of_cell? W _ g0
  have na1 := World.new_ne W _ g1
  have la1 := World.block_lt_of_cell? W _ g1
  go_enter Try.func30, Try.ntmps30
  go_wp2_with (first | (go_at_call 15; refine (RMask_any _ _).mono ?_; rintro e w' ⟨rfl, rfl⟩) | (go_at_call 38; refine (flag_any _ _).mono ?_; rintro e w' ⟨rfl, rfl⟩))
  go_region_held3 (fun w' => w'.cell? ⟨bb, bo, none⟩ = some (.int .i64 a) ∧ w'.cell? ⟨bb, bo + 1, none⟩ = some (.int .i64 b)) (go_keep) ((first | (go_at_call 15; refine (RMask_any _ _).mono ?_; rintro e w' ⟨rfl, rfl⟩) | (go_at_call 38; refine (flag_any _ _).mono ?_; rintro e w' ⟨rfl, rfl⟩)))
  all_goals go_wp2_with (first | (go_at_call 15; refine (RMask_any _ _).mono ?_; rintro e w' ⟨rfl, rfl⟩) | (go_at_call 38; refine (flag_any _ _).mono ?_; rintro e w' ⟨rfl, rfl⟩))
  all_goals go_ret
  all_goals exact ⟨rfl, (by repeat (first | exact Below.refl _ _ | refine Below.drew ?_ | refine bel_drewN ?_ _ | refine Below.setCell ?_ (by simp <;> omega) _ | refine Below.alloc ?_ (by simp <;> omega) _))⟩
set_option maxHeartbeats 800000 in
theorem rv5 (bb bo cb : Nat) (x y a b : Int) (W : World) (g0 : W.cell? ⟨bb, bo, none⟩ = some (.int .i64 a)) (g1 : W.cell? ⟨bb, bo + 1, none⟩ = some (.int .i64 b)) :
    Calls Try.prog 30 #[.int .i64 5, .agg #[.int .i64 x, .int .i64 y], .slice (some ⟨bb, bo, none⟩) 2 cb] W fun e W' => e = .returned (.int .i64 (Go.bits .xor .i64 a b)) ∧ Below W.heap.size W W' := by
  have na0 := World.new_ne W _ g0
  have la0 := World.block_lt_of_cell? W _ g0
  have na1 := World.new_ne W _ g1
  have la1 := World.block_lt_of_cell? W _ g1
  go_enter Try.func30, Try.ntmps30
  go_wp2_with (first | (go_at_call 15; refine (RMask_any _ _).mono ?_; rintro e w' ⟨rfl, rfl⟩) | (go_at_call 38; refine (flag_any _ _).mono ?_; rintro e w' ⟨rfl, rfl⟩))
  go_region_held3 (fun w' => w'.cell? ⟨bb, bo, none⟩ = some (.int .i64 a) ∧ w'.cell? ⟨bb, bo + 1, none⟩ = some (.int .i64 b)) (go_keep) ((first | (go_at_call 15; refine (RMask_any _ _).mono ?_; rintro e w' ⟨rfl, rfl⟩) | (go_at_call 38; refine (flag_any _ _).mono ?_; rintro e w' ⟨rfl, rfl⟩)))
  all_goals go_wp2_with (first | (go_at_call 15; refine (RMask_any _ _).mono ?_; rintro e w' ⟨rfl, rfl⟩) | (go_at_call 38; refine (flag_any _ _).mono ?_; rintro e w' ⟨rfl, rfl⟩))
  all_goals go_ret
  all_goals exact ⟨rfl, (by repeat (first | exact Below.refl _ _ | refine Below.drew ?_ | refine bel_drewN ?_ _ | refine Below.setCell ?_ (by simp <;> omega) _ | refine Below.alloc ?_ (by simp <;> omega) _))⟩
set_option maxHeartbeats 800000 in
theorem rv6 (bb bo cb : Nat) (x y a b : Int) (W : World) (g0 : W.cell? ⟨bb, bo, none⟩ = some (.int .i64 a)) (g1 : W.cell? ⟨bb, bo + 1, none⟩ = some (.int .i64 b)) (fx : fit x = true) (ha : 0 ≤ a ∧ a ≤ 255) (hb : 0 ≤ b ∧ b ≤ 255) :
    Calls Try.prog 30 #[.int .i64 6, .agg #[.int .i64 x, .int .i64 y], .slice (some ⟨bb, bo, none⟩) 2 cb] W fun e W' => e = .returned (.int .i64 ((a + b) % (mask x + 1))) ∧ Below W.heap.size W W' := by
  have na0 := World.new_ne W _ g0
  have la0 := World.block_lt_of_cell? W _ g0
  have na1 := World.new_ne W _ g1
  have la1 := World.block_lt_of_cell? W _ g1
  have hm := mask_le fx
  have e1 : IntKind.i64.wrap (a + b) = a + b := IntWalk.i64_in _ (by omega)
  have e2 : IntKind.i64.wrap (mask x + 1) = mask x + 1 := IntWalk.i64_in _ (by omega)
  have e7 : ¬ mask x + 1 = 0 := by omega
  have e8 : (mask x + 1 == 0) = false := beq_eq_false_iff_ne.2 e7
  have e9 : 0 ≤ a + b := by omega
  go_enter Try.func30, Try.ntmps30
  go_wp2_with (first | (go_at_call 15; refine (RMask_any _ _).mono ?_; rintro e w' ⟨rfl, rfl⟩) | (go_at_call 38; refine (flag_any _ _).mono ?_; rintro e w' ⟨rfl, rfl⟩))
  go_region_held3 (fun w' => w'.cell? ⟨bb, bo, none⟩ = some (.int .i64 a) ∧ w'.cell? ⟨bb, bo + 1, none⟩ = some (.int .i64 b)) (go_keep) ((first | (go_at_call 15; refine (RMask_any _ _).mono ?_; rintro e w' ⟨rfl, rfl⟩) | (go_at_call 38; refine (flag_any _ _).mono ?_; rintro e w' ⟨rfl, rfl⟩)))
  all_goals go_wp2_with (first | (go_at_call 15; refine (RMask_any _ _).mono ?_; rintro e w' ⟨rfl, rfl⟩) | (go_at_call 38; refine (flag_any _ _).mono ?_; rintro e w' ⟨rfl, rfl⟩))
  all_goals go_ret
  all_goals exact ⟨ret_int (Int.tmod_eq_emod_of_nonneg e9), (by repeat (first | exact Below.refl _ _ | refine Below.drew ?_ | refine bel_drewN ?_ _ | refine Below.setCell ?_ (by simp <;> omega) _ | refine Below.alloc ?_ (by simp <;> omega) _))⟩
set_option maxHeartbeats 800000 in
theorem rv7 (bb bo cb : Nat) (x y a b : Int) (W : World) (g0 : W.cell? ⟨bb, bo, none⟩ = some (.int .i64 a)) (g1 : W.cell? ⟨bb, bo + 1, none⟩ = some (.int .i64 b)) (fx : fit x = true) (ha : 0 ≤ a ∧ a ≤ 255) (hb : 0 ≤ b ∧ b ≤ mask x) :
    Calls Try.prog 30 #[.int .i64 7, .agg #[.int .i64 x, .int .i64 y], .slice (some ⟨bb, bo, none⟩) 2 cb] W fun e W' => e = .returned (.int .i64 ((a - b + mask x + 1) % (mask x + 1))) ∧ Below W.heap.size W W' := by
  have na0 := World.new_ne W _ g0
  have la0 := World.block_lt_of_cell? W _ g0
  have na1 := World.new_ne W _ g1
  have la1 := World.block_lt_of_cell? W _ g1
  have hm := mask_le fx
  have e1 : IntKind.i64.wrap (a - b) = a - b := IntWalk.i64_in _ (by omega)
  have e2 : IntKind.i64.wrap (mask x + 1) = mask x + 1 := IntWalk.i64_in _ (by omega)
  have e3 : IntKind.i64.wrap (a - b + mask x) = a - b + mask x := IntWalk.i64_in _ (by omega)
  have e4 : IntKind.i64.wrap (a - b + mask x + 1) = a - b + mask x + 1 := IntWalk.i64_in _ (by omega)
  have e7 : ¬ mask x + 1 = 0 := by omega
  have e8 : (mask x + 1 == 0) = false := beq_eq_false_iff_ne.2 e7
  have e9 : 0 ≤ a - b + mask x + 1 := by omega
  go_enter Try.func30, Try.ntmps30
  go_wp2_with (first | (go_at_call 15; refine (RMask_any _ _).mono ?_; rintro e w' ⟨rfl, rfl⟩) | (go_at_call 38; refine (flag_any _ _).mono ?_; rintro e w' ⟨rfl, rfl⟩))
  go_region_held3 (fun w' => w'.cell? ⟨bb, bo, none⟩ = some (.int .i64 a) ∧ w'.cell? ⟨bb, bo + 1, none⟩ = some (.int .i64 b)) (go_keep) ((first | (go_at_call 15; refine (RMask_any _ _).mono ?_; rintro e w' ⟨rfl, rfl⟩) | (go_at_call 38; refine (flag_any _ _).mono ?_; rintro e w' ⟨rfl, rfl⟩)))
  all_goals go_wp2_with (first | (go_at_call 15; refine (RMask_any _ _).mono ?_; rintro e w' ⟨rfl, rfl⟩) | (go_at_call 38; refine (flag_any _ _).mono ?_; rintro e w' ⟨rfl, rfl⟩))
  all_goals go_ret
  all_goals exact ⟨ret_int (Int.tmod_eq_emod_of_nonneg e9), (by repeat (first | exact Below.refl _ _ | refine Below.drew ?_ | refine bel_drewN ?_ _ | refine Below.setCell ?_ (by simp <;> omega) _ | refine Below.alloc ?_ (by simp <;> omega) _))⟩
set_option maxHeartbeats 800000 in
theorem rv8 (bb bo cb : Nat) (x y a b : Int) (W : World) (g0 : W.cell? ⟨bb, bo, none⟩ = some (.int .i64 a)) (g1 : W.cell? ⟨bb, bo + 1, none⟩ = some (.int .i64 b)) :
    Calls Try.prog 30 #[.int .i64 8, .agg #[.int .i64 x, .int .i64 y], .slice (some ⟨bb, bo, none⟩) 2 cb] W fun e W' => e = .returned (.int .i64 (b2i (a == b))) ∧ Below W.heap.size W W' := by
  have na0 := World.new_ne W _ g0
  have la0 := World.block_lt_of_cell? W _ g0
  have na1 := World.new_ne W _ g1
  have la1 := World.block_lt_of_cell? W _ g1
  go_enter Try.func30, Try.ntmps30
  go_wp2_with (first | (go_at_call 15; refine (RMask_any _ _).mono ?_; rintro e w' ⟨rfl, rfl⟩) | (go_at_call 38; refine (flag_any _ _).mono ?_; rintro e w' ⟨rfl, rfl⟩))
  go_region_held3 (fun w' => w'.cell? ⟨bb, bo, none⟩ = some (.int .i64 a) ∧ w'.cell? ⟨bb, bo + 1, none⟩ = some (.int .i64 b)) (go_keep) ((first | (go_at_call 15; refine (RMask_any _ _).mono ?_; rintro e w' ⟨rfl, rfl⟩) | (go_at_call 38; refine (flag_any _ _).mono ?_; rintro e w' ⟨rfl, rfl⟩)))
  all_goals go_wp2_with (first | (go_at_call 15; refine (RMask_any _ _).mono ?_; rintro e w' ⟨rfl, rfl⟩) | (go_at_call 38; refine (flag_any _ _).mono ?_; rintro e w' ⟨rfl, rfl⟩))
  all_goals go_ret
  all_goals exact ⟨rfl, (by repeat (first | exact Below.refl _ _ | refine Below.drew ?_ | refine bel_drewN ?_ _ | refine Below.setCell ?_ (by simp <;> omega) _ | refine Below.alloc ?_ (by simp <;> omega) _))⟩
set_option maxHeartbeats 800000 in
theorem rv9 (bb bo cb : Nat) (x y a b : Int) (W : World) (g0 : W.cell? ⟨bb, bo, none⟩ = some (.int .i64 a)) (g1 : W.cell? ⟨bb, bo + 1, none⟩ = some (.int .i64 b)) :
    Calls Try.prog 30 #[.int .i64 9, .agg #[.int .i64 x, .int .i64 y], .slice (some ⟨bb, bo, none⟩) 2 cb] W fun e W' => e = .returned (.int .i64 (b2i (decide (a < b)))) ∧ Below W.heap.size W W' := by
  have na0 := World.new_ne W _ g0
  have la0 := World.block_lt_of_cell? W _ g0
  have na1 := World.new_ne W _ g1
  have la1 := World.block_lt_of_cell? W _ g1
  go_enter Try.func30, Try.ntmps30
  go_wp2_with (first | (go_at_call 15; refine (RMask_any _ _).mono ?_; rintro e w' ⟨rfl, rfl⟩) | (go_at_call 38; refine (flag_any _ _).mono ?_; rintro e w' ⟨rfl, rfl⟩))
  go_region_held3 (fun w' => w'.cell? ⟨bb, bo, none⟩ = some (.int .i64 a) ∧ w'.cell? ⟨bb, bo + 1, none⟩ = some (.int .i64 b)) (go_keep) ((first | (go_at_call 15; refine (RMask_any _ _).mono ?_; rintro e w' ⟨rfl, rfl⟩) | (go_at_call 38; refine (flag_any _ _).mono ?_; rintro e w' ⟨rfl, rfl⟩)))
  all_goals go_wp2_with (first | (go_at_call 15; refine (RMask_any _ _).mono ?_; rintro e w' ⟨rfl, rfl⟩) | (go_at_call 38; refine (flag_any _ _).mono ?_; rintro e w' ⟨rfl, rfl⟩))
  all_goals go_ret
  all_goals exact ⟨rfl, (by repeat (first | exact Below.refl _ _ | refine Below.drew ?_ | refine bel_drewN ?_ _ | refine Below.setCell ?_ (by simp <;> omega) _ | refine Below.alloc ?_ (by simp <;> omega) _))⟩
set_option maxHeartbeats 800000 in
theorem rv10a (bb bo cb : Nat) (x y b d : Int) (W : World) (g0 : W.cell? ⟨bb, bo, none⟩ = some (.int .i64 1)) (g1 : W.cell? ⟨bb, bo + 1, none⟩ = some (.int .i64 b)) (g2 : W.cell? ⟨bb, bo + 2, none⟩ = some (.int .i64 d)) :
    Calls Try.prog 30 #[.int .i64 10, .agg #[.int .i64 x, .int .i64 y], .slice (some ⟨bb, bo, none⟩) 3 cb] W fun e W' => e = .returned (.int .i64 (b)) ∧ Below W.heap.size W W' := by
  have na0 := World.new_ne W _ g0
  have la0 := World.block_lt_of_cell? W _ g0
  have na1 := World.new_ne W _ g1
  have la1 := World.block_lt_of_cell? W _ g1
  have na2 := World.new_ne W _ g2
  have la2 := World.block_lt_of_cell? W _ g2
  go_enter Try.func30, Try.ntmps30
  go_wp2_with (first | (go_at_call 15; refine (RMask_any _ _).mono ?_; rintro e w' ⟨rfl, rfl⟩) | (go_at_call 38; refine (flag_any _ _).mono ?_; rintro e w' ⟨rfl, rfl⟩))
  all_goals go_ret
  all_goals exact ⟨rfl, (by repeat (first | exact Below.refl _ _ | refine Below.drew ?_ | refine bel_drewN ?_ _ | refine Below.setCell ?_ (by simp <;> omega) _ | refine Below.alloc ?_ (by simp <;> omega) _))⟩
set_option maxHeartbeats 800000 in
theorem rv10b (bb bo cb : Nat) (x y b d : Int) (W : World) (g0 : W.cell? ⟨bb, bo, none⟩ = some (.int .i64 0)) (g1 : W.cell? ⟨bb, bo + 1, none⟩ = some (.int .i64 b)) (g2 : W.cell? ⟨bb, bo + 2, none⟩ = some (.int .i64 d)) :
    Calls Try.prog 30 #[.int .i64 10, .agg #[.int .i64 x, .int .i64 y], .slice (some ⟨bb, bo, none⟩) 3 cb] W fun e W' => e = .returned (.int .i64 (d)) ∧ Below W.heap.size W W' := by
  have na0 := World.new_ne W _ g0
  have la0 := World.block_lt_of_cell? W _ g0
  have na1 := World.new_ne W _ g1
  have la1 := World.block_lt_of_cell? W _ g1
  have na2 := World.new_ne W _ g2
  have la2 := World.block_lt_of_cell? W _ g2
  go_enter Try.func30, Try.ntmps30
  go_wp2_with (first | (go_at_call 15; refine (RMask_any _ _).mono ?_; rintro e w' ⟨rfl, rfl⟩) | (go_at_call 38; refine (flag_any _ _).mono ?_; rintro e w' ⟨rfl, rfl⟩))
  all_goals go_ret
  all_goals exact ⟨rfl, (by repeat (first | exact Below.refl _ _ | refine Below.drew ?_ | refine bel_drewN ?_ _ | refine Below.setCell ?_ (by simp <;> omega) _ | refine Below.alloc ?_ (by simp <;> omega) _))⟩
set_option maxHeartbeats 800000 in
theorem rv11 (bb bo cb : Nat) (x y a b : Int) (W : World) (g0 : W.cell? ⟨bb, bo, none⟩ = some (.int .i64 a)) (g1 : W.cell? ⟨bb, bo + 1, none⟩ = some (.int .i64 b)) (ha : 0 ≤ a ∧ a ≤ 255) (hy : 1 ≤ y ∧ y ≤ 8) :
    Calls Try.prog 30 #[.int .i64 11, .agg #[.int .i64 x, .int .i64 y], .slice (some ⟨bb, bo, none⟩) 2 cb] W fun e W' => e = .returned (.int .i64 (Go.bits .or .i64 (IntKind.i64.wrap (a * 2 ^ y.toNat)) b)) ∧ Below W.heap.size W W' := by
  have na0 := World.new_ne W _ g0
  have la0 := World.block_lt_of_cell? W _ g0
  have na1 := World.new_ne W _ g1
  have la1 := World.block_lt_of_cell? W _ g1
  have e3 : 0 ≤ y := by omega
  have e4 : IntKind.u64.wrap y = y := by unfold IntKind.wrap; simp [IntKind.bits, IntKind.signed]; omega
  have e5 : min y.toNat 64 = y.toNat := by omega
  go_enter Try.func30, Try.ntmps30
  go_wp2_with (first | (go_at_call 15; refine (RMask_any _ _).mono ?_; rintro e w' ⟨rfl, rfl⟩) | (go_at_call 38; refine (flag_any _ _).mono ?_; rintro e w' ⟨rfl, rfl⟩))
  go_region_held3 (fun w' => w'.cell? ⟨bb, bo, none⟩ = some (.int .i64 a) ∧ w'.cell? ⟨bb, bo + 1, none⟩ = some (.int .i64 b) ∧ w'.cell? ⟨W.heap.size, 0, none⟩ = some (.int .i64 x) ∧ w'.cell? ⟨W.heap.size, 1, none⟩ = some (.int .i64 y)) (go_keep) ((first | (go_at_call 15; refine (RMask_any _ _).mono ?_; rintro e w' ⟨rfl, rfl⟩) | (go_at_call 38; refine (flag_any _ _).mono ?_; rintro e w' ⟨rfl, rfl⟩)))
  all_goals go_wp2_with (first | (go_at_call 15; refine (RMask_any _ _).mono ?_; rintro e w' ⟨rfl, rfl⟩) | (go_at_call 38; refine (flag_any _ _).mono ?_; rintro e w' ⟨rfl, rfl⟩))
  all_goals go_ret
  all_goals exact ⟨rfl, (by repeat (first | exact Below.refl _ _ | refine Below.drew ?_ | refine bel_drewN ?_ _ | refine Below.setCell ?_ (by simp <;> omega) _ | refine Below.alloc ?_ (by simp <;> omega) _))⟩

/-- The contract of the reference's value, at one operator. -/
def RV (op : Int) : Prop := ∀ (B : Option Addr) (cb : Nat) (ws vs : List Int) (k w : Int) (W : World), Rd W B vs → width op ws k w ≠ 0 → vs.length = ws.length → within vs ws vs.length = true →
    Calls Try.prog 30 #[.int .i64 op, .agg #[.int .i64 (ws.getD 0 0), .int .i64 (if op = 11 then ws.getD 1 0 else 0)], .slice B vs.length cb] W fun e W' => e = .returned (.int .i64 (val op ws vs k w)) ∧ Below W.heap.size W W'
theorem rvc2 : RV 2 := by
  intro B cb ws vs k w W hs hw hl hi
  have hd := wide_ne hw
  have ha : alike ws 1 = true := by
    cases h : alike ws 1 with
    | true => rfl
    | false => exact absurd (by simp [wide, h]) hd
  obtain ⟨x, rfl, fx⟩ := alike1_of ha
  obtain ⟨a, rfl⟩ := len1 hl
  have i0 := within_at hi (j := 0) (by simp)
  simp at i0
  obtain ⟨bb, bo, rfl, g0⟩ := rd_1 hs
  exact (rv2 bb bo cb x 0 a W g0 fx i0).mono fun e W' h => ⟨by rw [h.1]; exact ret_int (rfl), h.2⟩
theorem rvc3 : RV 3 := by
  intro B cb ws vs k w W hs hw hl hi
  have hd := wide_ne hw
  have ha : alike ws 2 = true := by
    cases h : alike ws 2 with
    | true => rfl
    | false => exact absurd (by simp [wide, h]) hd
  obtain ⟨x, rfl, fx⟩ := alike2_of ha
  obtain ⟨a, b, rfl⟩ := len2 hl
  obtain ⟨bb, bo, rfl, g0, g1⟩ := rd_2 hs
  exact (rv3 bb bo cb x 0 a b W g0 g1).mono fun e W' h => ⟨by rw [h.1]; exact ret_int (rfl), h.2⟩
theorem rvc4 : RV 4 := by
  intro B cb ws vs k w W hs hw hl hi
  have hd := wide_ne hw
  have ha : alike ws 2 = true := by
    cases h : alike ws 2 with
    | true => rfl
    | false => exact absurd (by simp [wide, h]) hd
  obtain ⟨x, rfl, fx⟩ := alike2_of ha
  obtain ⟨a, b, rfl⟩ := len2 hl
  obtain ⟨bb, bo, rfl, g0, g1⟩ := rd_2 hs
  exact (rv4 bb bo cb x 0 a b W g0 g1).mono fun e W' h => ⟨by rw [h.1]; exact ret_int (rfl), h.2⟩
theorem rvc5 : RV 5 := by
  intro B cb ws vs k w W hs hw hl hi
  have hd := wide_ne hw
  have ha : alike ws 2 = true := by
    cases h : alike ws 2 with
    | true => rfl
    | false => exact absurd (by simp [wide, h]) hd
  obtain ⟨x, rfl, fx⟩ := alike2_of ha
  obtain ⟨a, b, rfl⟩ := len2 hl
  obtain ⟨bb, bo, rfl, g0, g1⟩ := rd_2 hs
  exact (rv5 bb bo cb x 0 a b W g0 g1).mono fun e W' h => ⟨by rw [h.1]; exact ret_int (rfl), h.2⟩
theorem rvc8 : RV 8 := by
  intro B cb ws vs k w W hs hw hl hi
  have hd := wide_ne hw
  have ha : alike ws 2 = true := by
    cases h : alike ws 2 with
    | true => rfl
    | false => exact absurd (by simp [wide, h]) hd
  obtain ⟨x, rfl, fx⟩ := alike2_of ha
  obtain ⟨a, b, rfl⟩ := len2 hl
  obtain ⟨bb, bo, rfl, g0, g1⟩ := rd_2 hs
  exact (rv8 bb bo cb x 0 a b W g0 g1).mono fun e W' h => ⟨by rw [h.1]; exact ret_int (rfl), h.2⟩
theorem rvc9 : RV 9 := by
  intro B cb ws vs k w W hs hw hl hi
  have hd := wide_ne hw
  have ha : alike ws 2 = true := by
    cases h : alike ws 2 with
    | true => rfl
    | false => exact absurd (by simp [wide, h]) hd
  obtain ⟨x, rfl, fx⟩ := alike2_of ha
  obtain ⟨a, b, rfl⟩ := len2 hl
  obtain ⟨bb, bo, rfl, g0, g1⟩ := rd_2 hs
  exact (rv9 bb bo cb x 0 a b W g0 g1).mono fun e W' h => ⟨by rw [h.1]; exact ret_int (rfl), h.2⟩
theorem rvc6 : RV 6 := by
  intro B cb ws vs k w W hs hw hl hi
  have hd := wide_ne hw
  have ha : alike ws 2 = true := by
    cases h : alike ws 2 with
    | true => rfl
    | false => exact absurd (by simp [wide, h]) hd
  obtain ⟨x, rfl, fx⟩ := alike2_of ha
  obtain ⟨a, b, rfl⟩ := len2 hl
  have i0 := within_at hi (j := 0) (by simp)
  have i1 := within_at hi (j := 1) (by simp)
  simp at i0 i1
  have hm := mask_le fx
  obtain ⟨bb, bo, rfl, g0, g1⟩ := rd_2 hs
  exact (rv6 bb bo cb x 0 a b W g0 g1 fx (by omega) (by omega)).mono fun e W' h => ⟨by rw [h.1]; exact ret_int (rfl), h.2⟩
theorem rvc7 : RV 7 := by
  intro B cb ws vs k w W hs hw hl hi
  have hd := wide_ne hw
  have ha : alike ws 2 = true := by
    cases h : alike ws 2 with
    | true => rfl
    | false => exact absurd (by simp [wide, h]) hd
  obtain ⟨x, rfl, fx⟩ := alike2_of ha
  obtain ⟨a, b, rfl⟩ := len2 hl
  have i0 := within_at hi (j := 0) (by simp)
  have i1 := within_at hi (j := 1) (by simp)
  simp at i0 i1
  have hm := mask_le fx
  obtain ⟨bb, bo, rfl, g0, g1⟩ := rd_2 hs
  exact (rv7 bb bo cb x 0 a b W g0 g1 fx (by omega) i1).mono fun e W' h => ⟨by rw [h.1]; exact ret_int (rfl), h.2⟩
theorem rvc10 : RV 10 := by
  intro B cb ws vs k w W hs hw hl hi
  have hd := wide_ne hw
  have ha : alike ws 3 = true ∧ ws.getD 0 0 = 1 := by
    rcases Decidable.em (alike ws 3 = true ∧ ws.getD 0 0 = 1) with h | h
    · exact h
    · exact absurd (by unfold wide; rw [if_neg (by decide), if_neg (by decide), if_neg (by decide), if_neg (by decide), if_pos rfl, if_neg h]) hd
  obtain ⟨ha, e1⟩ := ha
  obtain ⟨x, y, rfl, fx, fy⟩ := alike3_of ha
  obtain ⟨a, b, d, rfl⟩ := len3 hl
  have e1 : x = 1 := e1
  have i0 := within_at hi (j := 0) (by simp)
  simp at i0
  have hm : mask x = 1 := by rw [e1]; rfl
  obtain ⟨bb, bo, rfl, g0, g1, g2⟩ := rd_3 hs
  by_cases ea : a = 1
  · subst ea
    exact (rv10a bb bo cb x 0 b d W g0 g1 g2).mono fun e W' h => ⟨by rw [h.1]; exact ret_int (rfl), h.2⟩
  · have ea0 : a = 0 := by omega
    subst ea0
    exact (rv10b bb bo cb x 0 b d W g0 g1 g2).mono fun e W' h => ⟨by rw [h.1]; exact ret_int (rfl), h.2⟩
theorem rvc11 : RV 11 := by
  intro B cb ws vs k w W hs hw hl hi
  have hd := wide_ne hw
  have ha : ws.length = 2 ∧ fit (ws.getD 0 0) = true ∧ fit (ws.getD 1 0) = true := by
    rcases Decidable.em (ws.length = 2 ∧ fit (ws.getD 0 0) = true ∧ fit (ws.getD 1 0) = true) with h | h
    · exact h
    · exact absurd (by unfold wide; rw [if_neg (by decide), if_neg (by decide), if_neg (by decide), if_neg (by decide), if_neg (by decide), if_pos rfl, if_neg h]) hd
  obtain ⟨hl2, fx, fy⟩ := ha
  obtain ⟨x, y, rfl⟩ := len2 hl2
  obtain ⟨a, b, rfl⟩ := len2 hl
  have fx : fit x = true := fx
  have fy : fit y = true := fy
  have by_ := fit_iff.1 fy
  have i0 := within_at hi (j := 0) (by simp)
  have i1 := within_at hi (j := 1) (by simp)
  simp at i0 i1
  have hm := mask_le fx
  obtain ⟨bb, bo, rfl, g0, g1⟩ := rd_2 hs
  have tw := two_le (i := y.toNat) (by omega)
  have hmul : a * 2 ^ y.toNat ≤ 255 * 256 := Int.mul_le_mul (by omega) tw.2 (by omega) (by omega)
  have hmul0 : 0 ≤ a * 2 ^ y.toNat := Int.mul_nonneg (by omega) (by omega)
  exact (rv11 bb bo cb x y a b W g0 g1 (by omega) (by omega)).mono fun e W' h => ⟨by rw [h.1]; exact ret_int (by show Go.bits .or .i64 (IntKind.i64.wrap (a * 2 ^ y.toNat)) b = Go.bits .or .i64 (a * 2 ^ y.toNat) b; rw [IntWalk.i64_in _ (by omega)]), h.2⟩
theorem rvc_all {op : Int} (h0 : 2 ≤ op) (h1 : op ≤ 11) : RV op := by
  have hc : op = 2 ∨ op = 3 ∨ op = 4 ∨ op = 5 ∨ op = 6 ∨ op = 7 ∨ op = 8 ∨ op = 9 ∨ op = 10 ∨ op = 11 := by omega
  rcases hc with rfl | rfl | rfl | rfl | rfl | rfl | rfl | rfl | rfl | rfl
  · exact rvc2
  · exact rvc3
  · exact rvc4
  · exact rvc5
  · exact rvc6
  · exact rvc7
  · exact rvc8
  · exact rvc9
  · exact rvc10
  · exact rvc11
end Bt
end Go.Proofs.Ytpblhbagjmnmpaa
