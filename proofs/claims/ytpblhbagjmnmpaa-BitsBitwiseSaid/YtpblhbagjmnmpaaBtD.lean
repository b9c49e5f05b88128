/- Contracts of the operators' functions of package bits: widths and values. Conditions: the slices' cells read as the numbers. -/
import Derived.Test.YtpblhbagjmnmpaaBtC
import Derived.Deep.RegionHeld3
set_option linter.unusedVariables false
set_option linter.unusedSimpArgs false
namespace Go.Proofs.Ytpblhbagjmnmpaa
open Go Go.RowKit
namespace Bt

theorem bel_drewN {B : Nat} {w W : World} (h : Below B w W) (n : Nat) : Below B w (W.drewN n) := ⟨h.os, h.tape, h.output, h.size, h.block⟩

set_option maxHeartbeats 400000 in
theorem maskM_any (ab ao n c : Nat) (vb : Value) (k w x : Int) (W : World) (hn : (0 : Int) < n) (h0 : W.cell? ⟨ab, ao, none⟩ = some (.int .i64 x)) :
    Calls Try.prog 42 #[.agg #[.slice (some ⟨ab, ao, none⟩) n c, vb, .int .i64 k, .int .i64 w]] W fun e W' => e = .returned (.int .i64 (mask x)) ∧ W.alloc (.cells #[.slice (some ⟨ab, ao, none⟩) n c, vb, .int .i64 k, .int .i64 w] 61) = W' := by
  have ne := World.new_ne W _ h0
  have lt := World.block_lt_of_cell? W _ h0
  go_enter Try.func42, Try.ntmps42
  go_wp2_with (go_at_call 14; refine (Mask_any _ _).mono ?_; rintro e w' ⟨rfl, rfl⟩)
  go_ret
  exact ⟨rfl, rfl⟩

set_option maxHeartbeats 400000 in
/-- bits.first -/
theorem first_any (ab ao c : Nat) (vb : Value) (k w x : Int) (W : World) (h0 : W.cell? ⟨ab, ao, none⟩ = some (.int .i64 x)) :
    Calls Try.prog 40 #[.agg #[.slice (some ⟨ab, ao, none⟩) 1 c, vb, .int .i64 k, .int .i64 w]] W fun e W' => e = .returned (.int .i64 (x)) ∧ Below W.heap.size W W' := by
  have nw0 := World.new_ne W _ h0
  have lw0 := World.block_lt_of_cell? W _ h0
  go_enter Try.func40, Try.ntmps40
  go_wp2
  all_goals go_ret
  all_goals exact ⟨rfl, (by repeat (first | exact Below.refl _ _ | refine Below.drew ?_ | refine bel_drewN ?_ _ | refine Below.alloc ?_ (by simp <;> omega) _))⟩
set_option maxHeartbeats 400000 in
/-- bits.simple$1 -/
theorem v2_any (ab ao c : Nat) (bb bo cb : Nat) (k w x a : Int) (W : World) (h0 : W.cell? ⟨ab, ao, none⟩ = some (.int .i64 x)) (g0 : W.cell? ⟨bb, bo, none⟩ = some (.int .i64 a)) :
    Calls Try.prog 41 #[.agg #[.slice (some ⟨ab, ao, none⟩) 1 c, .slice (some ⟨bb, bo, none⟩) 1 cb, .int .i64 k, .int .i64 w]] W fun e W' => e = .returned (.int .i64 (Go.bits .xor .i64 a (mask x))) ∧ Below W.heap.size W W' := by
  have nw0 := World.new_ne W _ h0
  have lw0 := World.block_lt_of_cell? W _ h0
  have na0 := World.new_ne W _ g0
  have la0 := World.block_lt_of_cell? W _ g0
  go_enter Try.func41, Try.ntmps41
  go_wp2
  go_region_held3 (fun w' => w'.cell? ⟨ab, ao, none⟩ = some (.int .i64 x) ∧ w'.cell? ⟨bb, bo, none⟩ = some (.int .i64 a) ∧ w'.cell? ⟨W.heap.size, 0, none⟩ = some (.slice (some ⟨ab, ao, none⟩) 1 c) ∧ w'.cell? ⟨W.heap.size, 1, none⟩ = some (.slice (some ⟨bb, bo, none⟩) 1 cb) ∧ w'.cell? ⟨W.heap.size, 2, none⟩ = some (.int .i64 k) ∧ w'.cell? ⟨W.heap.size, 3, none⟩ = some (.int .i64 w)) (go_keep) ((first | (go_at_call 42; refine (maskM_any _ _ _ _ _ _ _ x _ (by decide) ?_).mono ?_; (simp [*]); rintro e w' ⟨rfl, rfl⟩)))
  all_goals go_wp2
  all_goals go_ret
  all_goals exact ⟨rfl, (by repeat (first | exact Below.refl _ _ | refine Below.drew ?_ | refine bel_drewN ?_ _ | refine Below.alloc ?_ (by simp <;> omega) _))⟩
set_option maxHeartbeats 400000 in
/-- bits.simple$2 -/
theorem v3_any (va : Value) (bb bo cb : Nat) (k w a b : Int) (W : World) (g0 : W.cell? ⟨bb, bo, none⟩ = some (.int .i64 a)) (g1 : W.cell? ⟨bb, bo + 1, none⟩ = some (.int .i64 b)) :
    Calls Try.prog 44 #[.agg #[va, .slice (some ⟨bb, bo, none⟩) 2 cb, .int .i64 k, .int .i64 w]] W fun e W' => e = .returned (.int .i64 (Go.bits .and .i64 a b)) ∧ Below W.heap.size W W' := by
  have na0 := World.new_ne W _ g0
  have la0 := World.block_lt_of_cell? W _ g0
  have na1 := World.new_ne W _ g1
  have la1 := World.block_lt_of_cell? W _ g1
  go_enter Try.func44, Try.ntmps44
  go_wp2
  go_region_held3 (fun w' => w'.cell? ⟨bb, bo, none⟩ = some (.int .i64 a) ∧ w'.cell? ⟨bb, bo + 1, none⟩ = some (.int .i64 b) ∧ w'.cell? ⟨W.heap.size, 0, none⟩ = some (va) ∧ w'.cell? ⟨W.heap.size, 1, none⟩ = some (.slice (some ⟨bb, bo, none⟩) 2 cb) ∧ w'.cell? ⟨W.heap.size, 2, none⟩ = some (.int .i64 k) ∧ w'.cell? ⟨W.heap.size, 3, none⟩ = some (.int .i64 w)) (go_keep) (fail)
  all_goals go_wp2
  all_goals go_ret
  all_goals exact ⟨rfl, (by repeat (first | exact Below.refl _ _ | refine Below.drew ?_ | refine bel_drewN ?_ _ | refine Below.alloc ?_ (by simp <;> omega) _))⟩
set_option maxHeartbeats 400000 in
/-- bits.simple$3 -/
theorem v4_any (va : Value) (bb bo cb : Nat) (k w a b : Int) (W : World) (g0 : W.cell? ⟨bb, bo, none⟩ = some (.int .i64 a)) (g1 : W.cell? ⟨bb, bo + 1, none⟩ = some (.int .i64 b)) :
    Calls Try.prog 45 #[.agg #[va, .slice (some ⟨bb, bo, none⟩) 2 cb, .int .i64 k, .int .i64 w]] W fun e W' => e = .returned (.int .i64 (Go.bits .or .i64 a b)) ∧ Below W.heap.size W W' := by
  have na0 := World.new_ne W _ g0
  have la0 := World.block_lt_of_cell? W _ g0
  have na1 := World.new_ne W _ g1
  have la1 := World.block_lt_of_cell? W _ g1
  go_enter Try.func45, Try.ntmps45
  go_wp2
  go_region_held3 (fun w' => w'.cell? ⟨bb, bo, none⟩ = some (.int .i64 a) ∧ w'.cell? ⟨bb, bo + 1, none⟩ = some (.int .i64 b) ∧ w'.cell? ⟨W.heap.size, 0, none⟩ = some (va) ∧ w'.cell? ⟨W.heap.size, 1, none⟩ = some (.slice (some ⟨bb, bo, none⟩) 2 cb) ∧ w'.cell? ⟨W.heap.size, 2, none⟩ = some (.int .i64 k) ∧ w'.cell? ⟨W.heap.size, 3, none⟩ = some (.int .i64 w)) (go_keep) (fail)
  all_goals go_wp2
  all_goals go_ret
  all_goals exact ⟨rfl, (by repeat (first | exact Below.refl _ _ | refine Below.drew ?_ | refine bel_drewN ?_ _ | refine Below.alloc ?_ (by simp <;> omega) _))⟩
set_option maxHeartbeats 400000 in
/-- bits.simple$4 -/
theorem v5_any (va : Value) (bb bo cb : Nat) (k w a b : Int) (W : World) (g0 : W.cell? ⟨bb, bo, none⟩ = some (.int .i64 a)) (g1 : W.cell? ⟨bb, bo + 1, none⟩ = some (.int .i64 b)) :
    Calls Try.prog 46 #[.agg #[va, .slice (some ⟨bb, bo, none⟩) 2 cb, .int .i64 k, .int .i64 w]] W fun e W' => e = .returned (.int .i64 (Go.bits .xor .i64 a b)) ∧ Below W.heap.size W W' := by
  have na0 := World.new_ne W _ g0
  have la0 := World.block_lt_of_cell? W _ g0
  have na1 := World.new_ne W _ g1
  have la1 := World.block_lt_of_cell? W _ g1
  go_enter Try.func46, Try.ntmps46
  go_wp2
  go_region_held3 (fun w' => w'.cell? ⟨bb, bo, none⟩ = some (.int .i64 a) ∧ w'.cell? ⟨bb, bo + 1, none⟩ = some (.int .i64 b) ∧ w'.cell? ⟨W.heap.size, 0, none⟩ = some (va) ∧ w'.cell? ⟨W.heap.size, 1, none⟩ = some (.slice (some ⟨bb, bo, none⟩) 2 cb) ∧ w'.cell? ⟨W.heap.size, 2, none⟩ = some (.int .i64 k) ∧ w'.cell? ⟨W.heap.size, 3, none⟩ = some (.int .i64 w)) (go_keep) (fail)
  all_goals go_wp2
  all_goals go_ret
  all_goals exact ⟨rfl, (by repeat (first | exact Below.refl _ _ | refine Below.drew ?_ | refine bel_drewN ?_ _ | refine Below.alloc ?_ (by simp <;> omega) _))⟩
set_option maxHeartbeats 400000 in
/-- bits.others$10 -/
theorem v13_any (va : Value) (bb bo cb : Nat) (k w a : Int) (W : World) (g0 : W.cell? ⟨bb, bo, none⟩ = some (.int .i64 a)) :
    Calls Try.prog 61 #[.agg #[va, .slice (some ⟨bb, bo, none⟩) 1 cb, .int .i64 k, .int .i64 w]] W fun e W' => e = .returned (.int .i64 (a)) ∧ Below W.heap.size W W' := by
  have na0 := World.new_ne W _ g0
  have la0 := World.block_lt_of_cell? W _ g0
  go_enter Try.func61, Try.ntmps61
  go_wp2
  all_goals go_ret
  all_goals exact ⟨rfl, (by repeat (first | exact Below.refl _ _ | refine Below.drew ?_ | refine bel_drewN ?_ _ | refine Below.alloc ?_ (by simp <;> omega) _))⟩
set_option maxHeartbeats 400000 in
/-- bits.others$2 -/
theorem v1_any (va : Value) (vb : Value) (k w : Int) (W : World) :
    Calls Try.prog 53 #[.agg #[va, vb, .int .i64 k, .int .i64 w]] W fun e W' => e = .returned (.int .i64 (k)) ∧ Below W.heap.size W W' := by
  go_enter Try.func53, Try.ntmps53
  go_wp2
  all_goals go_ret
  all_goals exact ⟨rfl, (by repeat (first | exact Below.refl _ _ | refine Below.drew ?_ | refine bel_drewN ?_ _ | refine Below.alloc ?_ (by simp <;> omega) _))⟩
set_option maxHeartbeats 400000 in
/-- bits.simple$5 -/
theorem v6_any (ab ao c : Nat) (bb bo cb : Nat) (k w x a b : Int) (W : World) (h0 : W.cell? ⟨ab, ao, none⟩ = some (.int .i64 x)) (g0 : W.cell? ⟨bb, bo, none⟩ = some (.int .i64 a)) (g1 : W.cell? ⟨bb, bo + 1, none⟩ = some (.int .i64 b)) (ha : 0 ≤ a ∧ a ≤ 255) (hb : 0 ≤ b ∧ b ≤ 255) :
    Calls Try.prog 47 #[.agg #[.slice (some ⟨ab, ao, none⟩) 2 c, .slice (some ⟨bb, bo, none⟩) 2 cb, .int .i64 k, .int .i64 w]] W fun e W' => e = .returned (.int .i64 (Go.bits .and .i64 (a + b) (mask x))) ∧ Below W.heap.size W W' := by
  have nw0 := World.new_ne W _ h0
  have lw0 := World.block_lt_of_cell? W _ h0
  have na0 := World.new_ne W _ g0
  have la0 := World.block_lt_of_cell? W _ g0
  have na1 := World.new_ne W _ g1
  have la1 := World.block_lt_of_cell? W _ g1
  have e1 : IntKind.i64.wrap (a + b) = a + b := IntWalk.i64_in _ (by omega)
  go_enter Try.func47, Try.ntmps47
  go_wp2
  go_region_held3 (fun w' => w'.cell? ⟨ab, ao, none⟩ = some (.int .i64 x) ∧ w'.cell? ⟨bb, bo, none⟩ = some (.int .i64 a) ∧ w'.cell? ⟨bb, bo + 1, none⟩ = some (.int .i64 b) ∧ w'.cell? ⟨W.heap.size, 0, none⟩ = some (.slice (some ⟨ab, ao, none⟩) 2 c) ∧ w'.cell? ⟨W.heap.size, 1, none⟩ = some (.slice (some ⟨bb, bo, none⟩) 2 cb) ∧ w'.cell? ⟨W.heap.size, 2, none⟩ = some (.int .i64 k) ∧ w'.cell? ⟨W.heap.size, 3, none⟩ = some (.int .i64 w)) (go_keep) ((first | (go_at_call 42; refine (maskM_any _ _ _ _ _ _ _ x _ (by decide) ?_).mono ?_; (simp [*]); rintro e w' ⟨rfl, rfl⟩)))
  all_goals go_wp2
  all_goals go_ret
  all_goals exact ⟨rfl, (by repeat (first | exact Below.refl _ _ | refine Below.drew ?_ | refine bel_drewN ?_ _ | refine Below.alloc ?_ (by simp <;> omega) _))⟩
set_option maxHeartbeats 400000 in
/-- bits.simple$6 -/
theorem v7_any (ab ao c : Nat) (bb bo cb : Nat) (k w x a b : Int) (W : World) (h0 : W.cell? ⟨ab, ao, none⟩ = some (.int .i64 x)) (g0 : W.cell? ⟨bb, bo, none⟩ = some (.int .i64 a)) (g1 : W.cell? ⟨bb, bo + 1, none⟩ = some (.int .i64 b)) (ha : 0 ≤ a ∧ a ≤ 255) (hb : 0 ≤ b ∧ b ≤ 255) :
    Calls Try.prog 48 #[.agg #[.slice (some ⟨ab, ao, none⟩) 2 c, .slice (some ⟨bb, bo, none⟩) 2 cb, .int .i64 k, .int .i64 w]] W fun e W' => e = .returned (.int .i64 (Go.bits .and .i64 (a - b) (mask x))) ∧ Below W.heap.size W W' := by
  have nw0 := World.new_ne W _ h0
  have lw0 := World.block_lt_of_cell? W _ h0
  have na0 := World.new_ne W _ g0
  have la0 := World.block_lt_of_cell? W _ g0
  have na1 := World.new_ne W _ g1
  have la1 := World.block_lt_of_cell? W _ g1
  have e1 : IntKind.i64.wrap (a - b) = a - b := IntWalk.i64_in _ (by omega)
  go_enter Try.func48, Try.ntmps48
  go_wp2
  go_region_held3 (fun w' => w'.cell? ⟨ab, ao, none⟩ = some (.int .i64 x) ∧ w'.cell? ⟨bb, bo, none⟩ = some (.int .i64 a) ∧ w'.cell? ⟨bb, bo + 1, none⟩ = some (.int .i64 b) ∧ w'.cell? ⟨W.heap.size, 0, none⟩ = some (.slice (some ⟨ab, ao, none⟩) 2 c) ∧ w'.cell? ⟨W.heap.size, 1, none⟩ = some (.slice (some ⟨bb, bo, none⟩) 2 cb) ∧ w'.cell? ⟨W.heap.size, 2, none⟩ = some (.int .i64 k) ∧ w'.cell? ⟨W.heap.size, 3, none⟩ = some (.int .i64 w)) (go_keep) ((first | (go_at_call 42; refine (maskM_any _ _ _ _ _ _ _ x _ (by decide) ?_).mono ?_; (simp [*]); rintro e w' ⟨rfl, rfl⟩)))
  all_goals go_wp2
  all_goals go_ret
  all_goals exact ⟨rfl, (by repeat (first | exact Below.refl _ _ | refine Below.drew ?_ | refine bel_drewN ?_ _ | refine Below.alloc ?_ (by simp <;> omega) _))⟩
set_option maxHeartbeats 400000 in
/-- bits.simple$7 -/
theorem v8_any (va : Value) (bb bo cb : Nat) (k w a b : Int) (W : World) (g0 : W.cell? ⟨bb, bo, none⟩ = some (.int .i64 a)) (g1 : W.cell? ⟨bb, bo + 1, none⟩ = some (.int .i64 b)) :
    Calls Try.prog 50 #[.agg #[va, .slice (some ⟨bb, bo, none⟩) 2 cb, .int .i64 k, .int .i64 w]] W fun e W' => e = .returned (.int .i64 (b2i (a == b))) ∧ Below W.heap.size W W' := by
  have na0 := World.new_ne W _ g0
  have la0 := World.block_lt_of_cell? W _ g0
  have na1 := World.new_ne W _ g1
  have la1 := World.block_lt_of_cell? W _ g1
  go_enter Try.func50, Try.ntmps50
  go_wp2
  go_region_held3 (fun w' => w'.cell? ⟨bb, bo, none⟩ = some (.int .i64 a) ∧ w'.cell? ⟨bb, bo + 1, none⟩ = some (.int .i64 b) ∧ w'.cell? ⟨W.heap.size, 0, none⟩ = some (va) ∧ w'.cell? ⟨W.heap.size, 1, none⟩ = some (.slice (some ⟨bb, bo, none⟩) 2 cb) ∧ w'.cell? ⟨W.heap.size, 2, none⟩ = some (.int .i64 k) ∧ w'.cell? ⟨W.heap.size, 3, none⟩ = some (.int .i64 w)) (go_keep) ((first | (go_at_call 32; refine (bit_any _ _).mono ?_; rintro e w' ⟨rfl, rfl⟩)))
  all_goals go_wp2
  all_goals go_ret
  all_goals exact ⟨rfl, (by repeat (first | exact Below.refl _ _ | refine Below.drew ?_ | refine bel_drewN ?_ _ | refine Below.alloc ?_ (by simp <;> omega) _))⟩
set_option maxHeartbeats 400000 in
/-- bits.simple$8 -/
theorem v9_any (va : Value) (bb bo cb : Nat) (k w a b : Int) (W : World) (g0 : W.cell? ⟨bb, bo, none⟩ = some (.int .i64 a)) (g1 : W.cell? ⟨bb, bo + 1, none⟩ = some (.int .i64 b)) :
    Calls Try.prog 51 #[.agg #[va, .slice (some ⟨bb, bo, none⟩) 2 cb, .int .i64 k, .int .i64 w]] W fun e W' => e = .returned (.int .i64 (b2i (decide (a < b)))) ∧ Below W.heap.size W W' := by
  have na0 := World.new_ne W _ g0
  have la0 := World.block_lt_of_cell? W _ g0
  have na1 := World.new_ne W _ g1
  have la1 := World.block_lt_of_cell? W _ g1
  go_enter Try.func51, Try.ntmps51
  go_wp2
  go_region_held3 (fun w' => w'.cell? ⟨bb, bo, none⟩ = some (.int .i64 a) ∧ w'.cell? ⟨bb, bo + 1, none⟩ = some (.int .i64 b) ∧ w'.cell? ⟨W.heap.size, 0, none⟩ = some (va) ∧ w'.cell? ⟨W.heap.size, 1, none⟩ = some (.slice (some ⟨bb, bo, none⟩) 2 cb) ∧ w'.cell? ⟨W.heap.size, 2, none⟩ = some (.int .i64 k) ∧ w'.cell? ⟨W.heap.size, 3, none⟩ = some (.int .i64 w)) (go_keep) ((first | (go_at_call 32; refine (bit_any _ _).mono ?_; rintro e w' ⟨rfl, rfl⟩)))
  all_goals go_wp2
  all_goals go_ret
  all_goals exact ⟨rfl, (by repeat (first | exact Below.refl _ _ | refine Below.drew ?_ | refine bel_drewN ?_ _ | refine Below.alloc ?_ (by simp <;> omega) _))⟩
set_option maxHeartbeats 400000 in
/-- bits.others$4 -/
theorem v10a_any (va : Value) (bb bo cb : Nat) (k w b d : Int) (W : World) (g0 : W.cell? ⟨bb, bo, none⟩ = some (.int .i64 1)) (g1 : W.cell? ⟨bb, bo + 1, none⟩ = some (.int .i64 b)) (g2 : W.cell? ⟨bb, bo + 2, none⟩ = some (.int .i64 d)) :
    Calls Try.prog 55 #[.agg #[va, .slice (some ⟨bb, bo, none⟩) 3 cb, .int .i64 k, .int .i64 w]] W fun e W' => e = .returned (.int .i64 (b)) ∧ Below W.heap.size W W' := by
  have na0 := World.new_ne W _ g0
  have la0 := World.block_lt_of_cell? W _ g0
  have na1 := World.new_ne W _ g1
  have la1 := World.block_lt_of_cell? W _ g1
  have na2 := World.new_ne W _ g2
  have la2 := World.block_lt_of_cell? W _ g2
  have e2 : IntKind.i64.wrap (2 - 1) = 1 := rfl
  go_enter Try.func55, Try.ntmps55
  go_wp2
  go_quiet (fail)
  go_wp2
  go_ret
  exact ⟨rfl, (by repeat (first | exact Below.refl _ _ | refine Below.drew ?_ | refine bel_drewN ?_ _ | refine Below.alloc ?_ (by simp <;> omega) _))⟩
set_option maxHeartbeats 400000 in
/-- bits.others$4 -/
theorem v10b_any (va : Value) (bb bo cb : Nat) (k w b d : Int) (W : World) (g0 : W.cell? ⟨bb, bo, none⟩ = some (.int .i64 0)) (g1 : W.cell? ⟨bb, bo + 1, none⟩ = some (.int .i64 b)) (g2 : W.cell? ⟨bb, bo + 2, none⟩ = some (.int .i64 d)) :
    Calls Try.prog 55 #[.agg #[va, .slice (some ⟨bb, bo, none⟩) 3 cb, .int .i64 k, .int .i64 w]] W fun e W' => e = .returned (.int .i64 (d)) ∧ Below W.heap.size W W' := by
  have na0 := World.new_ne W _ g0
  have la0 := World.block_lt_of_cell? W _ g0
  have na1 := World.new_ne W _ g1
  have la1 := World.block_lt_of_cell? W _ g1
  have na2 := World.new_ne W _ g2
  have la2 := World.block_lt_of_cell? W _ g2
  have e2 : IntKind.i64.wrap (2 - 0) = 2 := rfl
  go_enter Try.func55, Try.ntmps55
  go_wp2
  go_quiet (fail)
  go_wp2
  go_ret
  exact ⟨rfl, (by repeat (first | exact Below.refl _ _ | refine Below.drew ?_ | refine bel_drewN ?_ _ | refine Below.alloc ?_ (by simp <;> omega) _))⟩
set_option maxHeartbeats 400000 in
/-- bits.others$6 -/
theorem v11_any (ab ao c : Nat) (bb bo cb : Nat) (k w x y a b : Int) (W : World) (h0 : W.cell? ⟨ab, ao, none⟩ = some (.int .i64 x)) (h1 : W.cell? ⟨ab, ao + 1, none⟩ = some (.int .i64 y)) (g0 : W.cell? ⟨bb, bo, none⟩ = some (.int .i64 a)) (g1 : W.cell? ⟨bb, bo + 1, none⟩ = some (.int .i64 b)) (ha : 0 ≤ a ∧ a ≤ 255) (hy : 1 ≤ y ∧ y ≤ 8) :
    Calls Try.prog 57 #[.agg #[.slice (some ⟨ab, ao, none⟩) 2 c, .slice (some ⟨bb, bo, none⟩) 2 cb, .int .i64 k, .int .i64 w]] W fun e W' => e = .returned (.int .i64 (Go.bits .or .i64 (IntKind.i64.wrap (a * 2 ^ y.toNat)) b)) ∧ Below W.heap.size W W' := by
  have nw0 := World.new_ne W _ h0
  have lw0 := World.block_lt_of_cell? W _ h0
  have nw1 := World.new_ne W _ h1
  have lw1 := World.block_lt_of_cell? W _ h1
  have na0 := World.new_ne W _ g0
  have la0 := World.block_lt_of_cell? W _ g0
  have na1 := World.new_ne W _ g1
  have la1 := World.block_lt_of_cell? W _ g1
  have e3 : 0 ≤ y := by omega
  go_enter Try.func57, Try.ntmps57
  go_wp2
  go_region_held3 (fun w' => w'.cell? ⟨ab, ao, none⟩ = some (.int .i64 x) ∧ w'.cell? ⟨ab, ao + 1, none⟩ = some (.int .i64 y) ∧ w'.cell? ⟨bb, bo, none⟩ = some (.int .i64 a) ∧ w'.cell? ⟨bb, bo + 1, none⟩ = some (.int .i64 b) ∧ w'.cell? ⟨W.heap.size, 0, none⟩ = some (.slice (some ⟨ab, ao, none⟩) 2 c) ∧ w'.cell? ⟨W.heap.size, 1, none⟩ = some (.slice (some ⟨bb, bo, none⟩) 2 cb) ∧ w'.cell? ⟨W.heap.size, 2, none⟩ = some (.int .i64 k) ∧ w'.cell? ⟨W.heap.size, 3, none⟩ = some (.int .i64 w)) (go_keep) (fail)
  all_goals go_wp2
  all_goals go_ret
  all_goals exact ⟨rfl, (by repeat (first | exact Below.refl _ _ | refine Below.drew ?_ | refine bel_drewN ?_ _ | refine Below.alloc ?_ (by simp <;> omega) _))⟩
set_option maxHeartbeats 400000 in
/-- bits.others$8 -/
theorem v12_any (va : Value) (bb bo cb : Nat) (k w a : Int) (W : World) (g0 : W.cell? ⟨bb, bo, none⟩ = some (.int .i64 a)) (ha : 0 ≤ a ∧ a ≤ 255) (hk : 0 ≤ k ∧ k ≤ 8) :
    Calls Try.prog 59 #[.agg #[va, .slice (some ⟨bb, bo, none⟩) 1 cb, .int .i64 k, .int .i64 w]] W fun e W' => e = .returned (.int .i64 (Go.bits .and .i64 (a / 2 ^ k.toNat) (mask w))) ∧ Below W.heap.size W W' := by
  have na0 := World.new_ne W _ g0
  have la0 := World.block_lt_of_cell? W _ g0
  have e3 : 0 ≤ k := by omega
  go_enter Try.func59, Try.ntmps59
  go_wp2
  go_region_held3 (fun w' => w'.cell? ⟨bb, bo, none⟩ = some (.int .i64 a) ∧ w'.cell? ⟨W.heap.size, 0, none⟩ = some (va) ∧ w'.cell? ⟨W.heap.size, 1, none⟩ = some (.slice (some ⟨bb, bo, none⟩) 1 cb) ∧ w'.cell? ⟨W.heap.size, 2, none⟩ = some (.int .i64 k) ∧ w'.cell? ⟨W.heap.size, 3, none⟩ = some (.int .i64 w)) (go_keep) ((first | (go_at_call 14; refine (Mask_any _ _).mono ?_; rintro e w' ⟨rfl, rfl⟩)))
  all_goals go_wp2
  all_goals go_ret
  all_goals exact ⟨rfl, (by repeat (first | exact Below.refl _ _ | refine Below.drew ?_ | refine bel_drewN ?_ _ | refine Below.alloc ?_ (by simp <;> omega) _))⟩
end Bt
end Go.Proofs.Ytpblhbagjmnmpaa
