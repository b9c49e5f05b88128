/- Contracts of the operators' width functions of package bits. Conditions: the slices' cells read as the numbers. -/
import Derived.Test.YtpblhbagjmnmpaaBtD
set_option linter.unusedVariables false
set_option linter.unusedSimpArgs false
namespace Go.Proofs.Ytpblhbagjmnmpaa
open Go Go.RowKit
namespace Bt

theorem fits_quiet (w : Int) (W : World) : Calls Try.prog 37 #[.int .i64 w] W fun e W' => e = .returned (.bool (fit w)) ∧ W' = W := (fits_any w W).mono fun _ _ h => ⟨h.1, h.2.symm⟩
theorem Mask_quiet (w : Int) (W : World) : Calls Try.prog 14 #[.int .i64 w] W fun e W' => e = .returned (.int .i64 (mask w)) ∧ W' = W := (Mask_any w W).mono fun _ _ h => ⟨h.1, h.2.symm⟩

set_option maxHeartbeats 400000 in
/-- bits.alike -/
theorem alike_eq (ab ao c : Nat) (vb : Value) (k w x y : Int) (W : World) (h0 : W.cell? ⟨ab, ao, none⟩ = some (.int .i64 x)) (h1 : W.cell? ⟨ab, ao + 1, none⟩ = some (.int .i64 y)) (e : x = y) :
    Calls Try.prog 43 #[.agg #[.slice (some ⟨ab, ao, none⟩) 2 c, vb, .int .i64 k, .int .i64 w]] W fun e W' => e = .returned (.int .i64 (x)) ∧ Below W.heap.size W W' := by
  have nw0 := World.new_ne W _ h0
  have lw0 := World.block_lt_of_cell? W _ h0
  have nw1 := World.new_ne W _ h1
  have lw1 := World.block_lt_of_cell? W _ h1
  have e1 : (x != y) = false := by simp [e]
  have e := Lib.hid e
  go_enter Try.func43, Try.ntmps43
  go_wp2
  go_quiet ((first | (go_at_call 37; exact Calls.quiet_of_same (fits_quiet _ _)) | (go_at_call 14; exact Calls.quiet_of_same (Mask_quiet _ _))))
  go_wp2
  go_ret
  exact ⟨ret_int e.out.symm, (by repeat (first | exact Below.refl _ _ | refine Below.drew ?_ | refine bel_drewN ?_ _ | refine Below.alloc ?_ (by simp <;> omega) _))⟩
set_option maxHeartbeats 400000 in
/-- bits.alike -/
theorem alike_ne (ab ao c : Nat) (vb : Value) (k w x y : Int) (W : World) (h0 : W.cell? ⟨ab, ao, none⟩ = some (.int .i64 x)) (h1 : W.cell? ⟨ab, ao + 1, none⟩ = some (.int .i64 y)) (e : ¬ x = y) :
    Calls Try.prog 43 #[.agg #[.slice (some ⟨ab, ao, none⟩) 2 c, vb, .int .i64 k, .int .i64 w]] W fun e W' => e = .returned (.int .i64 (0)) ∧ Below W.heap.size W W' := by
  have nw0 := World.new_ne W _ h0
  have lw0 := World.block_lt_of_cell? W _ h0
  have nw1 := World.new_ne W _ h1
  have lw1 := World.block_lt_of_cell? W _ h1
  have e1 : (x != y) = true := by simp [e]
  have e := Lib.hid e
  go_enter Try.func43, Try.ntmps43
  go_wp2
  go_quiet ((first | (go_at_call 37; exact Calls.quiet_of_same (fits_quiet _ _)) | (go_at_call 14; exact Calls.quiet_of_same (Mask_quiet _ _))))
  go_wp2
  go_ret
  exact ⟨rfl, (by repeat (first | exact Below.refl _ _ | refine Below.drew ?_ | refine bel_drewN ?_ _ | refine Below.alloc ?_ (by simp <;> omega) _))⟩
set_option maxHeartbeats 400000 in
/-- bits.others$1 -/
theorem w1_unfit (va : Value) (vb : Value) (k w : Int) (W : World) (hf : fit w = false) :
    Calls Try.prog 52 #[.agg #[va, vb, .int .i64 k, .int .i64 w]] W fun e W' => e = .returned (.int .i64 (0)) ∧ Below W.heap.size W W' := by
  go_enter Try.func52, Try.ntmps52
  go_wp2
  go_quiet ((first | (go_at_call 37; exact Calls.quiet_of_same (fits_quiet _ _)) | (go_at_call 14; exact Calls.quiet_of_same (Mask_quiet _ _))))
  go_wp2
  go_ret
  exact ⟨rfl, (by repeat (first | exact Below.refl _ _ | refine Below.drew ?_ | refine bel_drewN ?_ _ | refine Below.alloc ?_ (by simp <;> omega) _))⟩
set_option maxHeartbeats 400000 in
/-- bits.others$1 -/
theorem w1_neg (va : Value) (vb : Value) (k w : Int) (W : World) (hf : fit w = true) (hk : k < 0) :
    Calls Try.prog 52 #[.agg #[va, vb, .int .i64 k, .int .i64 w]] W fun e W' => e = .returned (.int .i64 (0)) ∧ Below W.heap.size W W' := by
  have d1 : decide (k < 0) = true := decide_eq_true hk
  go_enter Try.func52, Try.ntmps52
  go_wp2
  go_quiet ((first | (go_at_call 37; exact Calls.quiet_of_same (fits_quiet _ _)) | (go_at_call 14; exact Calls.quiet_of_same (Mask_quiet _ _))))
  go_wp2
  go_ret
  exact ⟨rfl, (by repeat (first | exact Below.refl _ _ | refine Below.drew ?_ | refine bel_drewN ?_ _ | refine Below.alloc ?_ (by simp <;> omega) _))⟩
set_option maxHeartbeats 400000 in
/-- bits.others$1 -/
theorem w1_big (va : Value) (vb : Value) (k w : Int) (W : World) (hf : fit w = true) (hk : 0 ≤ k) (hm : mask w < k) :
    Calls Try.prog 52 #[.agg #[va, vb, .int .i64 k, .int .i64 w]] W fun e W' => e = .returned (.int .i64 (0)) ∧ Below W.heap.size W W' := by
  have d1 : decide (k < 0) = false := decide_eq_false (by omega)
  have d2 : decide (mask w < k) = true := decide_eq_true hm
  go_enter Try.func52, Try.ntmps52
  go_wp2
  go_quiet ((first | (go_at_call 37; exact Calls.quiet_of_same (fits_quiet _ _)) | (go_at_call 14; exact Calls.quiet_of_same (Mask_quiet _ _))))
  go_wp2
  go_ret
  exact ⟨rfl, (by repeat (first | exact Below.refl _ _ | refine Below.drew ?_ | refine bel_drewN ?_ _ | refine Below.alloc ?_ (by simp <;> omega) _))⟩
set_option maxHeartbeats 400000 in
/-- bits.others$1 -/
theorem w1_ok (va : Value) (vb : Value) (k w : Int) (W : World) (hf : fit w = true) (hk : 0 ≤ k) (hm : k ≤ mask w) :
    Calls Try.prog 52 #[.agg #[va, vb, .int .i64 k, .int .i64 w]] W fun e W' => e = .returned (.int .i64 (w)) ∧ Below W.heap.size W W' := by
  have d1 : decide (k < 0) = false := decide_eq_false (by omega)
  have d2 : decide (mask w < k) = false := decide_eq_false (by omega)
  go_enter Try.func52, Try.ntmps52
  go_wp2
  go_quiet ((first | (go_at_call 37; exact Calls.quiet_of_same (fits_quiet _ _)) | (go_at_call 14; exact Calls.quiet_of_same (Mask_quiet _ _))))
  go_wp2
  go_ret
  exact ⟨rfl, (by repeat (first | exact Below.refl _ _ | refine Below.drew ?_ | refine bel_drewN ?_ _ | refine Below.alloc ?_ (by simp <;> omega) _))⟩
set_option maxHeartbeats 400000 in
/-- bits.others$3 -/
theorem w10_no (ab ao c : Nat) (vb : Value) (k w x y z : Int) (W : World) (h0 : W.cell? ⟨ab, ao, none⟩ = some (.int .i64 x)) (h1 : W.cell? ⟨ab, ao + 1, none⟩ = some (.int .i64 y)) (h2 : W.cell? ⟨ab, ao + 2, none⟩ = some (.int .i64 z)) (e : ¬ x = 1) :
    Calls Try.prog 54 #[.agg #[.slice (some ⟨ab, ao, none⟩) 3 c, vb, .int .i64 k, .int .i64 w]] W fun e W' => e = .returned (.int .i64 (0)) ∧ Below W.heap.size W W' := by
  have nw0 := World.new_ne W _ h0
  have lw0 := World.block_lt_of_cell? W _ h0
  have nw1 := World.new_ne W _ h1
  have lw1 := World.block_lt_of_cell? W _ h1
  have nw2 := World.new_ne W _ h2
  have lw2 := World.block_lt_of_cell? W _ h2
  have e1 : (x != 1) = true := by simp [e]
  go_enter Try.func54, Try.ntmps54
  go_wp2
  go_quiet ((first | (go_at_call 37; exact Calls.quiet_of_same (fits_quiet _ _)) | (go_at_call 14; exact Calls.quiet_of_same (Mask_quiet _ _))))
  go_wp2
  go_ret
  exact ⟨rfl, (by repeat (first | exact Below.refl _ _ | refine Below.drew ?_ | refine bel_drewN ?_ _ | refine Below.alloc ?_ (by simp <;> omega) _))⟩
set_option maxHeartbeats 400000 in
/-- bits.others$3 -/
theorem w10_ne (ab ao c : Nat) (vb : Value) (k w x y z : Int) (W : World) (h0 : W.cell? ⟨ab, ao, none⟩ = some (.int .i64 x)) (h1 : W.cell? ⟨ab, ao + 1, none⟩ = some (.int .i64 y)) (h2 : W.cell? ⟨ab, ao + 2, none⟩ = some (.int .i64 z)) (e : x = 1) (e2 : ¬ y = z) :
    Calls Try.prog 54 #[.agg #[.slice (some ⟨ab, ao, none⟩) 3 c, vb, .int .i64 k, .int .i64 w]] W fun e W' => e = .returned (.int .i64 (0)) ∧ Below W.heap.size W W' := by
  have nw0 := World.new_ne W _ h0
  have lw0 := World.block_lt_of_cell? W _ h0
  have nw1 := World.new_ne W _ h1
  have lw1 := World.block_lt_of_cell? W _ h1
  have nw2 := World.new_ne W _ h2
  have lw2 := World.block_lt_of_cell? W _ h2
  have e1 : (x != 1) = false := by simp [e]
  have e3 : (y != z) = true := by simp [e2]
  have e := Lib.hid e
  go_enter Try.func54, Try.ntmps54
  go_wp2
  go_quiet ((first | (go_at_call 37; exact Calls.quiet_of_same (fits_quiet _ _)) | (go_at_call 14; exact Calls.quiet_of_same (Mask_quiet _ _))))
  go_wp2
  go_ret
  exact ⟨rfl, (by repeat (first | exact Below.refl _ _ | refine Below.drew ?_ | refine bel_drewN ?_ _ | refine Below.alloc ?_ (by simp <;> omega) _))⟩
set_option maxHeartbeats 400000 in
/-- bits.others$3 -/
theorem w10_eq (ab ao c : Nat) (vb : Value) (k w x y z : Int) (W : World) (h0 : W.cell? ⟨ab, ao, none⟩ = some (.int .i64 x)) (h1 : W.cell? ⟨ab, ao + 1, none⟩ = some (.int .i64 y)) (h2 : W.cell? ⟨ab, ao + 2, none⟩ = some (.int .i64 z)) (e : x = 1) (e2 : y = z) :
    Calls Try.prog 54 #[.agg #[.slice (some ⟨ab, ao, none⟩) 3 c, vb, .int .i64 k, .int .i64 w]] W fun e W' => e = .returned (.int .i64 (y)) ∧ Below W.heap.size W W' := by
  have nw0 := World.new_ne W _ h0
  have lw0 := World.block_lt_of_cell? W _ h0
  have nw1 := World.new_ne W _ h1
  have lw1 := World.block_lt_of_cell? W _ h1
  have nw2 := World.new_ne W _ h2
  have lw2 := World.block_lt_of_cell? W _ h2
  have e1 : (x != 1) = false := by simp [e]
  have e3 : (y != z) = false := by simp [e2]
  have e := Lib.hid e
  have e2 := Lib.hid e2
  go_enter Try.func54, Try.ntmps54
  go_wp2
  go_quiet ((first | (go_at_call 37; exact Calls.quiet_of_same (fits_quiet _ _)) | (go_at_call 14; exact Calls.quiet_of_same (Mask_quiet _ _))))
  go_wp2
  go_ret
  exact ⟨ret_int e2.out.symm, (by repeat (first | exact Below.refl _ _ | refine Below.drew ?_ | refine bel_drewN ?_ _ | refine Below.alloc ?_ (by simp <;> omega) _))⟩
set_option maxHeartbeats 400000 in
/-- bits.others$5 -/
theorem w11_any (ab ao c : Nat) (vb : Value) (k w x y : Int) (W : World) (h0 : W.cell? ⟨ab, ao, none⟩ = some (.int .i64 x)) (h1 : W.cell? ⟨ab, ao + 1, none⟩ = some (.int .i64 y)) (hx : 1 ≤ x ∧ x ≤ 8) (hy : 1 ≤ y ∧ y ≤ 8) :
    Calls Try.prog 56 #[.agg #[.slice (some ⟨ab, ao, none⟩) 2 c, vb, .int .i64 k, .int .i64 w]] W fun e W' => e = .returned (.int .i64 (x + y)) ∧ Below W.heap.size W W' := by
  have nw0 := World.new_ne W _ h0
  have lw0 := World.block_lt_of_cell? W _ h0
  have nw1 := World.new_ne W _ h1
  have lw1 := World.block_lt_of_cell? W _ h1
  have e1 : IntKind.i64.wrap (x + y) = x + y := IntWalk.i64_in _ (by omega)
  go_enter Try.func56, Try.ntmps56
  go_wp2
  go_quiet ((first | (go_at_call 37; exact Calls.quiet_of_same (fits_quiet _ _)) | (go_at_call 14; exact Calls.quiet_of_same (Mask_quiet _ _))))
  go_wp2
  go_ret
  exact ⟨rfl, (by repeat (first | exact Below.refl _ _ | refine Below.drew ?_ | refine bel_drewN ?_ _ | refine Below.alloc ?_ (by simp <;> omega) _))⟩
set_option maxHeartbeats 400000 in
/-- bits.others$7 -/
theorem w12_unfit (ab ao c : Nat) (vb : Value) (k w x : Int) (W : World) (h0 : W.cell? ⟨ab, ao, none⟩ = some (.int .i64 x)) (hf : fit w = false) :
    Calls Try.prog 58 #[.agg #[.slice (some ⟨ab, ao, none⟩) 1 c, vb, .int .i64 k, .int .i64 w]] W fun e W' => e = .returned (.int .i64 (0)) ∧ Below W.heap.size W W' := by
  have nw0 := World.new_ne W _ h0
  have lw0 := World.block_lt_of_cell? W _ h0
  go_enter Try.func58, Try.ntmps58
  go_wp2
  go_quiet ((first | (go_at_call 37; exact Calls.quiet_of_same (fits_quiet _ _)) | (go_at_call 14; exact Calls.quiet_of_same (Mask_quiet _ _))))
  go_wp2
  go_ret
  exact ⟨rfl, (by repeat (first | exact Below.refl _ _ | refine Below.drew ?_ | refine bel_drewN ?_ _ | refine Below.alloc ?_ (by simp <;> omega) _))⟩
set_option maxHeartbeats 400000 in
/-- bits.others$7 -/
theorem w12_neg (ab ao c : Nat) (vb : Value) (k w x : Int) (W : World) (h0 : W.cell? ⟨ab, ao, none⟩ = some (.int .i64 x)) (hf : fit w = true) (hk : k < 0) :
    Calls Try.prog 58 #[.agg #[.slice (some ⟨ab, ao, none⟩) 1 c, vb, .int .i64 k, .int .i64 w]] W fun e W' => e = .returned (.int .i64 (0)) ∧ Below W.heap.size W W' := by
  have nw0 := World.new_ne W _ h0
  have lw0 := World.block_lt_of_cell? W _ h0
  have d1 : decide (k < 0) = true := decide_eq_true hk
  go_enter Try.func58, Try.ntmps58
  go_wp2
  go_quiet ((first | (go_at_call 37; exact Calls.quiet_of_same (fits_quiet _ _)) | (go_at_call 14; exact Calls.quiet_of_same (Mask_quiet _ _))))
  go_wp2
  go_ret
  exact ⟨rfl, (by repeat (first | exact Below.refl _ _ | refine Below.drew ?_ | refine bel_drewN ?_ _ | refine Below.alloc ?_ (by simp <;> omega) _))⟩
set_option maxHeartbeats 400000 in
/-- bits.others$7 -/
theorem w12_big (ab ao c : Nat) (vb : Value) (k w x : Int) (W : World) (h0 : W.cell? ⟨ab, ao, none⟩ = some (.int .i64 x)) (hf : fit w = true) (hx : 1 ≤ x ∧ x ≤ 8) (hw : 1 ≤ w ∧ w ≤ 8) (hk : 0 ≤ k) (hm : x - w < k) :
    Calls Try.prog 58 #[.agg #[.slice (some ⟨ab, ao, none⟩) 1 c, vb, .int .i64 k, .int .i64 w]] W fun e W' => e = .returned (.int .i64 (0)) ∧ Below W.heap.size W W' := by
  have nw0 := World.new_ne W _ h0
  have lw0 := World.block_lt_of_cell? W _ h0
  have d1 : decide (k < 0) = false := decide_eq_false (by omega)
  have e1 : IntKind.i64.wrap (x - w) = x - w := IntWalk.i64_in _ (by omega)
  have d2 : decide (x - w < k) = true := decide_eq_true hm
  go_enter Try.func58, Try.ntmps58
  go_wp2
  go_quiet ((first | (go_at_call 37; exact Calls.quiet_of_same (fits_quiet _ _)) | (go_at_call 14; exact Calls.quiet_of_same (Mask_quiet _ _))))
  go_wp2
  go_ret
  exact ⟨rfl, (by repeat (first | exact Below.refl _ _ | refine Below.drew ?_ | refine bel_drewN ?_ _ | refine Below.alloc ?_ (by simp <;> omega) _))⟩
set_option maxHeartbeats 400000 in
/-- bits.others$7 -/
theorem w12_ok (ab ao c : Nat) (vb : Value) (k w x : Int) (W : World) (h0 : W.cell? ⟨ab, ao, none⟩ = some (.int .i64 x)) (hf : fit w = true) (hx : 1 ≤ x ∧ x ≤ 8) (hw : 1 ≤ w ∧ w ≤ 8) (hk : 0 ≤ k) (hm : k ≤ x - w) :
    Calls Try.prog 58 #[.agg #[.slice (some ⟨ab, ao, none⟩) 1 c, vb, .int .i64 k, .int .i64 w]] W fun e W' => e = .returned (.int .i64 (w)) ∧ Below W.heap.size W W' := by
  have nw0 := World.new_ne W _ h0
  have lw0 := World.block_lt_of_cell? W _ h0
  have d1 : decide (k < 0) = false := decide_eq_false (by omega)
  have e1 : IntKind.i64.wrap (x - w) = x - w := IntWalk.i64_in _ (by omega)
  have d2 : decide (x - w < k) = false := decide_eq_false (by omega)
  go_enter Try.func58, Try.ntmps58
  go_wp2
  go_quiet ((first | (go_at_call 37; exact Calls.quiet_of_same (fits_quiet _ _)) | (go_at_call 14; exact Calls.quiet_of_same (Mask_quiet _ _))))
  go_wp2
  go_ret
  exact ⟨rfl, (by repeat (first | exact Below.refl _ _ | refine Below.drew ?_ | refine bel_drewN ?_ _ | refine Below.alloc ?_ (by simp <;> omega) _))⟩
set_option maxHeartbeats 400000 in
/-- bits.others$9 -/
theorem w13_no (ab ao c : Nat) (vb : Value) (k w x : Int) (W : World) (h0 : W.cell? ⟨ab, ao, none⟩ = some (.int .i64 x)) (hx : w < x) :
    Calls Try.prog 60 #[.agg #[.slice (some ⟨ab, ao, none⟩) 1 c, vb, .int .i64 k, .int .i64 w]] W fun e W' => e = .returned (.int .i64 (0)) ∧ Below W.heap.size W W' := by
  have nw0 := World.new_ne W _ h0
  have lw0 := World.block_lt_of_cell? W _ h0
  have d1 : decide (w < x) = true := decide_eq_true hx
  go_enter Try.func60, Try.ntmps60
  go_wp2
  go_quiet ((first | (go_at_call 37; exact Calls.quiet_of_same (fits_quiet _ _)) | (go_at_call 14; exact Calls.quiet_of_same (Mask_quiet _ _))))
  go_wp2
  go_ret
  exact ⟨rfl, (by repeat (first | exact Below.refl _ _ | refine Below.drew ?_ | refine bel_drewN ?_ _ | refine Below.alloc ?_ (by simp <;> omega) _))⟩
set_option maxHeartbeats 400000 in
/-- bits.others$9 -/
theorem w13_ok (ab ao c : Nat) (vb : Value) (k w x : Int) (W : World) (h0 : W.cell? ⟨ab, ao, none⟩ = some (.int .i64 x)) (hx : x ≤ w) :
    Calls Try.prog 60 #[.agg #[.slice (some ⟨ab, ao, none⟩) 1 c, vb, .int .i64 k, .int .i64 w]] W fun e W' => e = .returned (.int .i64 (w)) ∧ Below W.heap.size W W' := by
  have nw0 := World.new_ne W _ h0
  have lw0 := World.block_lt_of_cell? W _ h0
  have d1 : decide (w < x) = false := decide_eq_false (by omega)
  go_enter Try.func60, Try.ntmps60
  go_wp2
  go_quiet ((first | (go_at_call 37; exact Calls.quiet_of_same (fits_quiet _ _)) | (go_at_call 14; exact Calls.quiet_of_same (Mask_quiet _ _))))
  go_wp2
  go_ret
  exact ⟨rfl, (by repeat (first | exact Below.refl _ _ | refine Below.drew ?_ | refine bel_drewN ?_ _ | refine Below.alloc ?_ (by simp <;> omega) _))⟩

theorem bel_then {w w1 w2 : World} (h : Below w.heap.size w w1) (k : Below w1.heap.size w1 w2) : Below w.heap.size w w2 := h.trans (k.mono h.size)
theorem cell_new {W : World} {a : Addr} {v : Value} (h : W.cell? a = some v) (o : Obj) : (W.alloc o).cell? a = some v :=
  (((Below.refl W.heap.size W).alloc (Nat.le_refl _) o).cell (World.block_lt_of_cell? W a h)).trans h
theorem ret_min1 {x : Int} (h : 1 ≤ x) : min x 1 = 1 := by omega

set_option maxHeartbeats 400000 in
/-- bits.one -/
theorem one_eq (ab ao c : Nat) (vb : Value) (k w x y : Int) (W : World) (h0 : W.cell? ⟨ab, ao, none⟩ = some (.int .i64 x)) (h1 : W.cell? ⟨ab, ao + 1, none⟩ = some (.int .i64 y)) (e : x = y) (hx : 1 ≤ x) :
    Calls Try.prog 49 #[.agg #[.slice (some ⟨ab, ao, none⟩) 2 c, vb, .int .i64 k, .int .i64 w]] W fun e W' => e = .returned (.int .i64 1) ∧ Below W.heap.size W W' := by
  have nw0 := World.new_ne W _ h0
  have lw0 := World.block_lt_of_cell? W _ h0
  have E := Lib.hid e
  clear e
  go_enter Try.func49, Try.ntmps49
  go_wp2_with fail
  refine (alike_eq ab ao c vb k w x y _ (cell_new h0 _) (cell_new h1 _) E.out).mono ?_
  rintro e w1 ⟨rfl, hb⟩
  have hb := Lib.hid hb
  go_wp2
  all_goals go_ret
  all_goals exact ⟨by first | rfl | exact ret_int (by omega), bel_then ((Below.refl _ _).alloc (Nat.le_refl _) _) hb.out⟩
set_option maxHeartbeats 400000 in
/-- bits.one -/
theorem one_ne (ab ao c : Nat) (vb : Value) (k w x y : Int) (W : World) (h0 : W.cell? ⟨ab, ao, none⟩ = some (.int .i64 x)) (h1 : W.cell? ⟨ab, ao + 1, none⟩ = some (.int .i64 y)) (e : ¬ x = y) :
    Calls Try.prog 49 #[.agg #[.slice (some ⟨ab, ao, none⟩) 2 c, vb, .int .i64 k, .int .i64 w]] W fun e W' => e = .returned (.int .i64 0) ∧ Below W.heap.size W W' := by
  have nw0 := World.new_ne W _ h0
  have lw0 := World.block_lt_of_cell? W _ h0
  have E := Lib.hid e
  clear e
  go_enter Try.func49, Try.ntmps49
  go_wp2_with fail
  refine (alike_ne ab ao c vb k w x y _ (cell_new h0 _) (cell_new h1 _) E.out).mono ?_
  rintro e w1 ⟨rfl, hb⟩
  have hb := Lib.hid hb
  go_wp2
  all_goals go_ret
  all_goals exact ⟨by first | rfl | exact ret_int (by omega), bel_then ((Below.refl _ _).alloc (Nat.le_refl _) _) hb.out⟩
end Bt
end Go.Proofs.Ytpblhbagjmnmpaa
