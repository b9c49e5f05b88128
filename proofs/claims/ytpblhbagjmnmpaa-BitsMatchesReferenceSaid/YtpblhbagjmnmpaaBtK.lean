/- Contract of the reference's WidthIn. Conditions: the slice reads as the list. -/
import Derived.Test.YtpblhbagjmnmpaaBtJ
set_option linter.unusedVariables false
set_option linter.unusedSimpArgs false
namespace Go.Proofs.Ytpblhbagjmnmpaa
open Go Go.RowKit
open Go.MapKept
namespace Bt

theorem equal1_yes (A : Option Addr) (c : Nat) (ws : List Int) (W : World) (h : alike ws 1 = true) (hr : Rd W A ws) :
    Calls Try.prog 29 #[.slice A ws.length c, .int .i64 1] W fun e W' => e = .returned (.bool true) ∧ ∃ q, W.drewN q = W' := by
  rw [← h]; exact equal_any A c ws 1 (by decide) (by decide) W hr
theorem equal1_no (A : Option Addr) (c : Nat) (ws : List Int) (W : World) (h : alike ws 1 = false) (hr : Rd W A ws) :
    Calls Try.prog 29 #[.slice A ws.length c, .int .i64 1] W fun e W' => e = .returned (.bool false) ∧ ∃ q, W.drewN q = W' := by
  rw [← h]; exact equal_any A c ws 1 (by decide) (by decide) W hr
theorem equal2_yes (A : Option Addr) (c : Nat) (ws : List Int) (W : World) (h : alike ws 2 = true) (hr : Rd W A ws) :
    Calls Try.prog 29 #[.slice A ws.length c, .int .i64 2] W fun e W' => e = .returned (.bool true) ∧ ∃ q, W.drewN q = W' := by
  rw [← h]; exact equal_any A c ws 2 (by decide) (by decide) W hr
theorem equal2_no (A : Option Addr) (c : Nat) (ws : List Int) (W : World) (h : alike ws 2 = false) (hr : Rd W A ws) :
    Calls Try.prog 29 #[.slice A ws.length c, .int .i64 2] W fun e W' => e = .returned (.bool false) ∧ ∃ q, W.drewN q = W' := by
  rw [← h]; exact equal_any A c ws 2 (by decide) (by decide) W hr
theorem equal3_yes (A : Option Addr) (c : Nat) (ws : List Int) (W : World) (h : alike ws 3 = true) (hr : Rd W A ws) :
    Calls Try.prog 29 #[.slice A ws.length c, .int .i64 3] W fun e W' => e = .returned (.bool true) ∧ ∃ q, W.drewN q = W' := by
  rw [← h]; exact equal_any A c ws 3 (by decide) (by decide) W hr
theorem equal3_no (A : Option Addr) (c : Nat) (ws : List Int) (W : World) (h : alike ws 3 = false) (hr : Rd W A ws) :
    Calls Try.prog 29 #[.slice A ws.length c, .int .i64 3] W fun e W' => e = .returned (.bool false) ∧ ∃ q, W.drewN q = W' := by
  rw [← h]; exact equal_any A c ws 3 (by decide) (by decide) W hr
theorem rnum_yes {op : Int} {ws : List Int} {k w r : Int} (h : wide op ws k w = r) (hf : fit r = true) : width op ws k w = r ∧ err (width op ws k w) = 0 := by
  have hw : width op ws k w = r := by unfold width; rw [h, hf]; rfl
  refine ⟨hw, ?_⟩
  rw [hw]
  unfold err
  rw [fit_iff] at hf
  rw [if_neg (by omega)]
theorem rnum_no {op : Int} {ws : List Int} {k w r : Int} (h : wide op ws k w = r) (hf : fit r = false) : width op ws k w = 0 ∧ err (width op ws k w) = 1 := by
  have hw : width op ws k w = 0 := by unfold width; rw [h, hf]; rfl
  exact ⟨hw, by rw [hw]; rfl⟩
theorem ret_num {a b c d : Int} (h : c = a ∧ d = b) : Ending.returned (.agg #[.int .i64 a, .int .i64 b]) = .returned (.agg #[.int .i64 c, .int .i64 d]) := by rw [h.1, h.2]
theorem fit_0 : fit 0 = false := rfl
theorem fit_1 : fit 1 = true := rfl

set_option maxHeartbeats 1000000 in
theorem rw1_len (A : Option Addr) (c : Nat) (ws : List Int) (k w : Int) (W : World) (hr : Rd W A ws) (hl : ¬ ws.length = 0) :
    Calls Try.prog 11 #[.int .i64 1, .slice A ws.length c, .agg #[.int .i64 k, .int .i64 w]] W fun e W' => e = .returned (.agg #[.int .i64 (width 1 ws k w), .int .i64 (err (width 1 ws k w))]) ∧ Below W.heap.size W W' := by
  have HR := Lib.hid hr
  clear hr
  have e1 : ((ws.length : Int) == 0) = false := beq_eq_false_iff_ne.2 (by omega)
  have fr : fit (0) = false := fit_0
  have hw := Lib.hid (rnum_no (show wide 1 ws k w = 0 by unfold wide; rw [if_pos rfl, if_neg (fun q => hl q.1)]) fr)
  go_enter Try.func11, Try.ntmps11
  go_wp2
  go_region_held3 (fun w' => w'.cell? ⟨W.heap.size, 0, none⟩ = some (.int .i64 k) ∧ w'.cell? ⟨W.heap.size, 1, none⟩ = some (.int .i64 w)) (go_keep) (fail)
  go_wp2_with (first | (go_at_call 28; refine (In_any _ _).mono ?_; rintro e w' ⟨rfl, rfl⟩) | (go_at_call 15; refine (RMask_any _ _).mono ?_; rintro e w' ⟨rfl, rfl⟩))
  exact bodyPost_ret (v := .agg #[.int .i64 0, .int .i64 1]) (by simp [results, Try.results11, go_sem]) rfl ⟨ret_num hw.out, (by repeat (first | exact Below.refl _ _ | refine Below.drew ?_ | refine bel_drewN ?_ _ | refine Below.setCell ?_ (by simp <;> omega) _ | refine Below.alloc ?_ (by simp <;> omega) _))⟩
set_option maxHeartbeats 1000000 in
theorem rw1_unfit (A : Option Addr) (c : Nat) (k w : Int) (W : World) (hr : Rd W A []) (hf : fit w = false) :
    Calls Try.prog 11 #[.int .i64 1, .slice A 0 c, .agg #[.int .i64 k, .int .i64 w]] W fun e W' => e = .returned (.agg #[.int .i64 (width 1 [] k w), .int .i64 (err (width 1 [] k w))]) ∧ Below W.heap.size W W' := by
  have HR := Lib.hid hr
  clear hr
  have fr : fit (0) = false := fit_0
  have hw := Lib.hid (rnum_no (show wide 1 [] k w = 0 by simp [wide, hf]) fr)
  go_enter Try.func11, Try.ntmps11
  go_wp2
  go_region_held3 (fun w' => w'.cell? ⟨W.heap.size, 0, none⟩ = some (.int .i64 k) ∧ w'.cell? ⟨W.heap.size, 1, none⟩ = some (.int .i64 w)) (go_keep) (fail)
  go_wp2_with (first | (go_at_call 28; refine (In_any _ _).mono ?_; rintro e w' ⟨rfl, rfl⟩) | (go_at_call 15; refine (RMask_any _ _).mono ?_; rintro e w' ⟨rfl, rfl⟩))
  exact bodyPost_ret (v := .agg #[.int .i64 0, .int .i64 1]) (by simp [results, Try.results11, go_sem]) rfl ⟨ret_num hw.out, (by repeat (first | exact Below.refl _ _ | refine Below.drew ?_ | refine bel_drewN ?_ _ | refine Below.setCell ?_ (by simp <;> omega) _ | refine Below.alloc ?_ (by simp <;> omega) _))⟩
set_option maxHeartbeats 1000000 in
theorem rw1_neg (A : Option Addr) (c : Nat) (k w : Int) (W : World) (hr : Rd W A []) (hf : fit w = true) (hk : k < 0) :
    Calls Try.prog 11 #[.int .i64 1, .slice A 0 c, .agg #[.int .i64 k, .int .i64 w]] W fun e W' => e = .returned (.agg #[.int .i64 (width 1 [] k w), .int .i64 (err (width 1 [] k w))]) ∧ Below W.heap.size W W' := by
  have HR := Lib.hid hr
  clear hr
  have d1 : decide (0 ≤ k) = false := decide_eq_false (by omega)
  have fr : fit (0) = false := fit_0
  have hw := Lib.hid (rnum_no (show wide 1 [] k w = 0 by unfold wide; rw [if_pos rfl, if_neg (by omega)]) fr)
  go_enter Try.func11, Try.ntmps11
  go_wp2
  go_region_held3 (fun w' => w'.cell? ⟨W.heap.size, 0, none⟩ = some (.int .i64 k) ∧ w'.cell? ⟨W.heap.size, 1, none⟩ = some (.int .i64 w)) (go_keep) (fail)
  go_wp2_with (first | (go_at_call 28; refine (In_any _ _).mono ?_; rintro e w' ⟨rfl, rfl⟩) | (go_at_call 15; refine (RMask_any _ _).mono ?_; rintro e w' ⟨rfl, rfl⟩))
  exact bodyPost_ret (v := .agg #[.int .i64 0, .int .i64 1]) (by simp [results, Try.results11, go_sem]) rfl ⟨ret_num hw.out, (by repeat (first | exact Below.refl _ _ | refine Below.drew ?_ | refine bel_drewN ?_ _ | refine Below.setCell ?_ (by simp <;> omega) _ | refine Below.alloc ?_ (by simp <;> omega) _))⟩
set_option maxHeartbeats 1000000 in
theorem rw1_big (A : Option Addr) (c : Nat) (k w : Int) (W : World) (hr : Rd W A []) (hf : fit w = true) (hk : 0 ≤ k) (hm : mask w < k) :
    Calls Try.prog 11 #[.int .i64 1, .slice A 0 c, .agg #[.int .i64 k, .int .i64 w]] W fun e W' => e = .returned (.agg #[.int .i64 (width 1 [] k w), .int .i64 (err (width 1 [] k w))]) ∧ Below W.heap.size W W' := by
  have HR := Lib.hid hr
  clear hr
  have d1 : decide (0 ≤ k) = true := decide_eq_true hk
  have d2 : decide (k ≤ mask w) = false := decide_eq_false (by omega)
  have fr : fit (0) = false := fit_0
  have hw := Lib.hid (rnum_no (show wide 1 [] k w = 0 by unfold wide; rw [if_pos rfl, if_neg (by omega)]) fr)
  go_enter Try.func11, Try.ntmps11
  go_wp2
  go_region_held3 (fun w' => w'.cell? ⟨W.heap.size, 0, none⟩ = some (.int .i64 k) ∧ w'.cell? ⟨W.heap.size, 1, none⟩ = some (.int .i64 w)) (go_keep) (fail)
  go_wp2_with (first | (go_at_call 28; refine (In_any _ _).mono ?_; rintro e w' ⟨rfl, rfl⟩) | (go_at_call 15; refine (RMask_any _ _).mono ?_; rintro e w' ⟨rfl, rfl⟩))
  exact bodyPost_ret (v := .agg #[.int .i64 0, .int .i64 1]) (by simp [results, Try.results11, go_sem]) rfl ⟨ret_num hw.out, (by repeat (first | exact Below.refl _ _ | refine Below.drew ?_ | refine bel_drewN ?_ _ | refine Below.setCell ?_ (by simp <;> omega) _ | refine Below.alloc ?_ (by simp <;> omega) _))⟩
set_option maxHeartbeats 1000000 in
theorem rw1_ok (A : Option Addr) (c : Nat) (k w : Int) (W : World) (hr : Rd W A []) (hf : fit w = true) (hk : 0 ≤ k) (hm : k ≤ mask w) :
    Calls Try.prog 11 #[.int .i64 1, .slice A 0 c, .agg #[.int .i64 k, .int .i64 w]] W fun e W' => e = .returned (.agg #[.int .i64 (width 1 [] k w), .int .i64 (err (width 1 [] k w))]) ∧ Below W.heap.size W W' := by
  have HR := Lib.hid hr
  clear hr
  have d1 : decide (0 ≤ k) = true := decide_eq_true hk
  have d2 : decide (k ≤ mask w) = true := decide_eq_true hm
  have fr : fit (w) = true := hf
  have hw := Lib.hid (rnum_yes (show wide 1 [] k w = w by unfold wide; rw [if_pos rfl, if_pos ⟨rfl, hf, hk, hm⟩]) fr)
  go_enter Try.func11, Try.ntmps11
  go_wp2
  go_region_held3 (fun w' => w'.cell? ⟨W.heap.size, 0, none⟩ = some (.int .i64 k) ∧ w'.cell? ⟨W.heap.size, 1, none⟩ = some (.int .i64 w)) (go_keep) (fail)
  go_wp2_with (first | (go_at_call 28; refine (In_any _ _).mono ?_; rintro e w' ⟨rfl, rfl⟩) | (go_at_call 15; refine (RMask_any _ _).mono ?_; rintro e w' ⟨rfl, rfl⟩))
  exact bodyPost_ret (v := .agg #[.int .i64 (w), .int .i64 0]) (by simp [results, Try.results11, go_sem]) rfl ⟨ret_num hw.out, (by repeat (first | exact Below.refl _ _ | refine Below.drew ?_ | refine bel_drewN ?_ _ | refine Below.setCell ?_ (by simp <;> omega) _ | refine Below.alloc ?_ (by simp <;> omega) _))⟩
set_option maxHeartbeats 1000000 in
theorem rw2_no (A : Option Addr) (c : Nat) (ws : List Int) (k w : Int) (W : World) (hr : Rd W A ws) (ha : alike ws 1 = false) :
    Calls Try.prog 11 #[.int .i64 2, .slice A ws.length c, .agg #[.int .i64 k, .int .i64 w]] W fun e W' => e = .returned (.agg #[.int .i64 (width 2 ws k w), .int .i64 (err (width 2 ws k w))]) ∧ Below W.heap.size W W' := by
  have HR := Lib.hid hr
  clear hr
  have fr : fit (0) = false := fit_0
  have hw := Lib.hid (rnum_no (show wide 2 ws k w = 0 by simp [wide, ha]) fr)
  go_enter Try.func11, Try.ntmps11
  go_wp2
  go_region_held3 (fun w' => w'.cell? ⟨W.heap.size, 0, none⟩ = some (.int .i64 k) ∧ w'.cell? ⟨W.heap.size, 1, none⟩ = some (.int .i64 w)) (go_keep) (fail)
  go_wp2_with (first | (go_at_call 28; refine (In_any _ _).mono ?_; rintro e w' ⟨rfl, rfl⟩) | (go_at_call 15; refine (RMask_any _ _).mono ?_; rintro e w' ⟨rfl, rfl⟩) | (go_at_call 29; refine (equal1_no _ c _ _ (by assumption) (HR.out.below (by repeat (first | exact Below.refl _ _ | refine Below.drew ?_ | refine bel_drewN ?_ _ | refine Below.setCell ?_ (by simp <;> omega) _ | refine Below.alloc ?_ (by simp <;> omega) _)))).mono ?_; rintro e w' ⟨rfl, q, rfl⟩))
  exact bodyPost_ret (v := .agg #[.int .i64 0, .int .i64 1]) (by simp [results, Try.results11, go_sem]) rfl ⟨ret_num hw.out, (by repeat (first | exact Below.refl _ _ | refine Below.drew ?_ | refine bel_drewN ?_ _ | refine Below.setCell ?_ (by simp <;> omega) _ | refine Below.alloc ?_ (by simp <;> omega) _))⟩
set_option maxHeartbeats 1000000 in
theorem rw2_yes (ab ao : Nat) (c : Nat) (k w x : Int) (W : World) (hr : Rd W (some ⟨ab, ao, none⟩) [x]) (ha : alike [x] 1 = true) (fx : fit x = true) :
    Calls Try.prog 11 #[.int .i64 2, .slice (some ⟨ab, ao, none⟩) 1 c, .agg #[.int .i64 k, .int .i64 w]] W fun e W' => e = .returned (.agg #[.int .i64 (width 2 [x] k w), .int .i64 (err (width 2 [x] k w))]) ∧ Below W.heap.size W W' := by
  have HR := Lib.hid hr
  have h0 : W.cell? ⟨ab, ao, none⟩ = some (.int .i64 x) := by obtain ⟨_, _, e, h0⟩ := rd_1 hr; cases e; exact h0
  have nw0 := World.new_ne W _ h0
  have lw0 := World.block_lt_of_cell? W _ h0
  clear hr
  have fr : fit (x) = true := fx
  have hw := Lib.hid (rnum_yes (show wide 2 [x] k w = x by simp [wide, ha]) fr)
  go_enter Try.func11, Try.ntmps11
  go_wp2
  go_region_held3 (fun w' => w'.cell? ⟨W.heap.size, 0, none⟩ = some (.int .i64 k) ∧ w'.cell? ⟨W.heap.size, 1, none⟩ = some (.int .i64 w)) (go_keep) (fail)
  go_wp2_with (first | (go_at_call 28; refine (In_any _ _).mono ?_; rintro e w' ⟨rfl, rfl⟩) | (go_at_call 15; refine (RMask_any _ _).mono ?_; rintro e w' ⟨rfl, rfl⟩) | (go_at_call 29; refine (equal1_yes _ c _ _ (by assumption) (HR.out.below (by repeat (first | exact Below.refl _ _ | refine Below.drew ?_ | refine bel_drewN ?_ _ | refine Below.setCell ?_ (by simp <;> omega) _ | refine Below.alloc ?_ (by simp <;> omega) _)))).mono ?_; rintro e w' ⟨rfl, q, rfl⟩))
  exact bodyPost_ret (v := .agg #[.int .i64 (x), .int .i64 0]) (by simp [results, Try.results11, go_sem]) rfl ⟨ret_num hw.out, (by repeat (first | exact Below.refl _ _ | refine Below.drew ?_ | refine bel_drewN ?_ _ | refine Below.setCell ?_ (by simp <;> omega) _ | refine Below.alloc ?_ (by simp <;> omega) _))⟩
set_option maxHeartbeats 1000000 in
theorem rw3_no (A : Option Addr) (c : Nat) (ws : List Int) (k w : Int) (W : World) (hr : Rd W A ws) (ha : alike ws 2 = false) :
    Calls Try.prog 11 #[.int .i64 3, .slice A ws.length c, .agg #[.int .i64 k, .int .i64 w]] W fun e W' => e = .returned (.agg #[.int .i64 (width 3 ws k w), .int .i64 (err (width 3 ws k w))]) ∧ Below W.heap.size W W' := by
  have HR := Lib.hid hr
  clear hr
  have fr : fit (0) = false := fit_0
  have hw := Lib.hid (rnum_no (show wide 3 ws k w = 0 by simp [wide, ha]) fr)
  go_enter Try.func11, Try.ntmps11
  go_wp2
  go_region_held3 (fun w' => w'.cell? ⟨W.heap.size, 0, none⟩ = some (.int .i64 k) ∧ w'.cell? ⟨W.heap.size, 1, none⟩ = some (.int .i64 w)) (go_keep) (fail)
  go_wp2_with (first | (go_at_call 28; refine (In_any _ _).mono ?_; rintro e w' ⟨rfl, rfl⟩) | (go_at_call 15; refine (RMask_any _ _).mono ?_; rintro e w' ⟨rfl, rfl⟩) | (go_at_call 29; refine (equal2_no _ c _ _ (by assumption) (HR.out.below (by repeat (first | exact Below.refl _ _ | refine Below.drew ?_ | refine bel_drewN ?_ _ | refine Below.setCell ?_ (by simp <;> omega) _ | refine Below.alloc ?_ (by simp <;> omega) _)))).mono ?_; rintro e w' ⟨rfl, q, rfl⟩))
  exact bodyPost_ret (v := .agg #[.int .i64 0, .int .i64 1]) (by simp [results, Try.results11, go_sem]) rfl ⟨ret_num hw.out, (by repeat (first | exact Below.refl _ _ | refine Below.drew ?_ | refine bel_drewN ?_ _ | refine Below.setCell ?_ (by simp <;> omega) _ | refine Below.alloc ?_ (by simp <;> omega) _))⟩
set_option maxHeartbeats 1000000 in
theorem rw3_yes (ab ao : Nat) (c : Nat) (k w x y : Int) (W : World) (hr : Rd W (some ⟨ab, ao, none⟩) [x, y]) (ha : alike [x, y] 2 = true) (fx : fit x = true) :
    Calls Try.prog 11 #[.int .i64 3, .slice (some ⟨ab, ao, none⟩) 2 c, .agg #[.int .i64 k, .int .i64 w]] W fun e W' => e = .returned (.agg #[.int .i64 (width 3 [x, y] k w), .int .i64 (err (width 3 [x, y] k w))]) ∧ Below W.heap.size W W' := by
  have HR := Lib.hid hr
  have h0 : W.cell? ⟨ab, ao, none⟩ = some (.int .i64 x) := by obtain ⟨_, _, e, h0, h1⟩ := rd_2 hr; cases e; exact h0
  have nw0 := World.new_ne W _ h0
  have lw0 := World.block_lt_of_cell? W _ h0
  have h1 : W.cell? ⟨ab, ao + 1, none⟩ = some (.int .i64 y) := by obtain ⟨_, _, e, h0, h1⟩ := rd_2 hr; cases e; exact h1
  have nw1 := World.new_ne W _ h1
  have lw1 := World.block_lt_of_cell? W _ h1
  clear hr
  have fr : fit (x) = true := fx
  have hw := Lib.hid (rnum_yes (show wide 3 [x, y] k w = x by simp [wide, ha]) fr)
  go_enter Try.func11, Try.ntmps11
  go_wp2
  go_region_held3 (fun w' => w'.cell? ⟨W.heap.size, 0, none⟩ = some (.int .i64 k) ∧ w'.cell? ⟨W.heap.size, 1, none⟩ = some (.int .i64 w)) (go_keep) (fail)
  go_wp2_with (first | (go_at_call 28; refine (In_any _ _).mono ?_; rintro e w' ⟨rfl, rfl⟩) | (go_at_call 15; refine (RMask_any _ _).mono ?_; rintro e w' ⟨rfl, rfl⟩) | (go_at_call 29; refine (equal2_yes _ c _ _ (by assumption) (HR.out.below (by repeat (first | exact Below.refl _ _ | refine Below.drew ?_ | refine bel_drewN ?_ _ | refine Below.setCell ?_ (by simp <;> omega) _ | refine Below.alloc ?_ (by simp <;> omega) _)))).mono ?_; rintro e w' ⟨rfl, q, rfl⟩))
  exact bodyPost_ret (v := .agg #[.int .i64 (x), .int .i64 0]) (by simp [results, Try.results11, go_sem]) rfl ⟨ret_num hw.out, (by repeat (first | exact Below.refl _ _ | refine Below.drew ?_ | refine bel_drewN ?_ _ | refine Below.setCell ?_ (by simp <;> omega) _ | refine Below.alloc ?_ (by simp <;> omega) _))⟩
set_option maxHeartbeats 1000000 in
theorem rw4_no (A : Option Addr) (c : Nat) (ws : List Int) (k w : Int) (W : World) (hr : Rd W A ws) (ha : alike ws 2 = false) :
    Calls Try.prog 11 #[.int .i64 4, .slice A ws.length c, .agg #[.int .i64 k, .int .i64 w]] W fun e W' => e = .returned (.agg #[.int .i64 (width 4 ws k w), .int .i64 (err (width 4 ws k w))]) ∧ Below W.heap.size W W' := by
  have HR := Lib.hid hr
  clear hr
  have fr : fit (0) = false := fit_0
  have hw := Lib.hid (rnum_no (show wide 4 ws k w = 0 by simp [wide, ha]) fr)
  go_enter Try.func11, Try.ntmps11
  go_wp2
  go_region_held3 (fun w' => w'.cell? ⟨W.heap.size, 0, none⟩ = some (.int .i64 k) ∧ w'.cell? ⟨W.heap.size, 1, none⟩ = some (.int .i64 w)) (go_keep) (fail)
  go_wp2_with (first | (go_at_call 28; refine (In_any _ _).mono ?_; rintro e w' ⟨rfl, rfl⟩) | (go_at_call 15; refine (RMask_any _ _).mono ?_; rintro e w' ⟨rfl, rfl⟩) | (go_at_call 29; refine (equal2_no _ c _ _ (by assumption) (HR.out.below (by repeat (first | exact Below.refl _ _ | refine Below.drew ?_ | refine bel_drewN ?_ _ | refine Below.setCell ?_ (by simp <;> omega) _ | refine Below.alloc ?_ (by simp <;> omega) _)))).mono ?_; rintro e w' ⟨rfl, q, rfl⟩))
  exact bodyPost_ret (v := .agg #[.int .i64 0, .int .i64 1]) (by simp [results, Try.results11, go_sem]) rfl ⟨ret_num hw.out, (by repeat (first | exact Below.refl _ _ | refine Below.drew ?_ | refine bel_drewN ?_ _ | refine Below.setCell ?_ (by simp <;> omega) _ | refine Below.alloc ?_ (by simp <;> omega) _))⟩
set_option maxHeartbeats 1000000 in
theorem rw4_yes (ab ao : Nat) (c : Nat) (k w x y : Int) (W : World) (hr : Rd W (some ⟨ab, ao, none⟩) [x, y]) (ha : alike [x, y] 2 = true) (fx : fit x = true) :
    Calls Try.prog 11 #[.int .i64 4, .slice (some ⟨ab, ao, none⟩) 2 c, .agg #[.int .i64 k, .int .i64 w]] W fun e W' => e = .returned (.agg #[.int .i64 (width 4 [x, y] k w), .int .i64 (err (width 4 [x, y] k w))]) ∧ Below W.heap.size W W' := by
  have HR := Lib.hid hr
  have h0 : W.cell? ⟨ab, ao, none⟩ = some (.int .i64 x) := by obtain ⟨_, _, e, h0, h1⟩ := rd_2 hr; cases e; exact h0
  have nw0 := World.new_ne W _ h0
  have lw0 := World.block_lt_of_cell? W _ h0
  have h1 : W.cell? ⟨ab, ao + 1, none⟩ = some (.int .i64 y) := by obtain ⟨_, _, e, h0, h1⟩ := rd_2 hr; cases e; exact h1
  have nw1 := World.new_ne W _ h1
  have lw1 := World.block_lt_of_cell? W _ h1
  clear hr
  have fr : fit (x) = true := fx
  have hw := Lib.hid (rnum_yes (show wide 4 [x, y] k w = x by simp [wide, ha]) fr)
  go_enter Try.func11, Try.ntmps11
  go_wp2
  go_region_held3 (fun w' => w'.cell? ⟨W.heap.size, 0, none⟩ = some (.int .i64 k) ∧ w'.cell? ⟨W.heap.size, 1, none⟩ = some (.int .i64 w)) (go_keep) (fail)
  go_wp2_with (first | (go_at_call 28; refine (In_any _ _).mono ?_; rintro e w' ⟨rfl, rfl⟩) | (go_at_call 15; refine (RMask_any _ _).mono ?_; rintro e w' ⟨rfl, rfl⟩) | (go_at_call 29; refine (equal2_yes _ c _ _ (by assumption) (HR.out.below (by repeat (first | exact Below.refl _ _ | refine Below.drew ?_ | refine bel_drewN ?_ _ | refine Below.setCell ?_ (by simp <;> omega) _ | refine Below.alloc ?_ (by simp <;> omega) _)))).mono ?_; rintro e w' ⟨rfl, q, rfl⟩))
  exact bodyPost_ret (v := .agg #[.int .i64 (x), .int .i64 0]) (by simp [results, Try.results11, go_sem]) rfl ⟨ret_num hw.out, (by repeat (first | exact Below.refl _ _ | refine Below.drew ?_ | refine bel_drewN ?_ _ | refine Below.setCell ?_ (by simp <;> omega) _ | refine Below.alloc ?_ (by simp <;> omega) _))⟩
set_option maxHeartbeats 1000000 in
theorem rw5_no (A : Option Addr) (c : Nat) (ws : List Int) (k w : Int) (W : World) (hr : Rd W A ws) (ha : alike ws 2 = false) :
    Calls Try.prog 11 #[.int .i64 5, .slice A ws.length c, .agg #[.int .i64 k, .int .i64 w]] W fun e W' => e = .returned (.agg #[.int .i64 (width 5 ws k w), .int .i64 (err (width 5 ws k w))]) ∧ Below W.heap.size W W' := by
  have HR := Lib.hid hr
  clear hr
  have fr : fit (0) = false := fit_0
  have hw := Lib.hid (rnum_no (show wide 5 ws k w = 0 by simp [wide, ha]) fr)
  go_enter Try.func11, Try.ntmps11
  go_wp2
  go_region_held3 (fun w' => w'.cell? ⟨W.heap.size, 0, none⟩ = some (.int .i64 k) ∧ w'.cell? ⟨W.heap.size, 1, none⟩ = some (.int .i64 w)) (go_keep) (fail)
  go_wp2_with (first | (go_at_call 28; refine (In_any _ _).mono ?_; rintro e w' ⟨rfl, rfl⟩) | (go_at_call 15; refine (RMask_any _ _).mono ?_; rintro e w' ⟨rfl, rfl⟩) | (go_at_call 29; refine (equal2_no _ c _ _ (by assumption) (HR.out.below (by repeat (first | exact Below.refl _ _ | refine Below.drew ?_ | refine bel_drewN ?_ _ | refine Below.setCell ?_ (by simp <;> omega) _ | refine Below.alloc ?_ (by simp <;> omega) _)))).mono ?_; rintro e w' ⟨rfl, q, rfl⟩))
  exact bodyPost_ret (v := .agg #[.int .i64 0, .int .i64 1]) (by simp [results, Try.results11, go_sem]) rfl ⟨ret_num hw.out, (by repeat (first | exact Below.refl _ _ | refine Below.drew ?_ | refine bel_drewN ?_ _ | refine Below.setCell ?_ (by simp <;> omega) _ | refine Below.alloc ?_ (by simp <;> omega) _))⟩
set_option maxHeartbeats 1000000 in
theorem rw5_yes (ab ao : Nat) (c : Nat) (k w x y : Int) (W : World) (hr : Rd W (some ⟨ab, ao, none⟩) [x, y]) (ha : alike [x, y] 2 = true) (fx : fit x = true) :
    Calls Try.prog 11 #[.int .i64 5, .slice (some ⟨ab, ao, none⟩) 2 c, .agg #[.int .i64 k, .int .i64 w]] W fun e W' => e = .returned (.agg #[.int .i64 (width 5 [x, y] k w), .int .i64 (err (width 5 [x, y] k w))]) ∧ Below W.heap.size W W' := by
  have HR := Lib.hid hr
  have h0 : W.cell? ⟨ab, ao, none⟩ = some (.int .i64 x) := by obtain ⟨_, _, e, h0, h1⟩ := rd_2 hr; cases e; exact h0
  have nw0 := World.new_ne W _ h0
  have lw0 := World.block_lt_of_cell? W _ h0
  have h1 : W.cell? ⟨ab, ao + 1, none⟩ = some (.int .i64 y) := by obtain ⟨_, _, e, h0, h1⟩ := rd_2 hr; cases e; exact h1
  have nw1 := World.new_ne W _ h1
  have lw1 := World.block_lt_of_cell? W _ h1
  clear hr
  have fr : fit (x) = true := fx
  have hw := Lib.hid (rnum_yes (show wide 5 [x, y] k w = x by simp [wide, ha]) fr)
  go_enter Try.func11, Try.ntmps11
  go_wp2
  go_region_held3 (fun w' => w'.cell? ⟨W.heap.size, 0, none⟩ = some (.int .i64 k) ∧ w'.cell? ⟨W.heap.size, 1, none⟩ = some (.int .i64 w)) (go_keep) (fail)
  go_wp2_with (first | (go_at_call 28; refine (In_any _ _).mono ?_; rintro e w' ⟨rfl, rfl⟩) | (go_at_call 15; refine (RMask_any _ _).mono ?_; rintro e w' ⟨rfl, rfl⟩) | (go_at_call 29; refine (equal2_yes _ c _ _ (by assumption) (HR.out.below (by repeat (first | exact Below.refl _ _ | refine Below.drew ?_ | refine bel_drewN ?_ _ | refine Below.setCell ?_ (by simp <;> omega) _ | refine Below.alloc ?_ (by simp <;> omega) _)))).mono ?_; rintro e w' ⟨rfl, q, rfl⟩))
  exact bodyPost_ret (v := .agg #[.int .i64 (x), .int .i64 0]) (by simp [results, Try.results11, go_sem]) rfl ⟨ret_num hw.out, (by repeat (first | exact Below.refl _ _ | refine Below.drew ?_ | refine bel_drewN ?_ _ | refine Below.setCell ?_ (by simp <;> omega) _ | refine Below.alloc ?_ (by simp <;> omega) _))⟩
set_option maxHeartbeats 1000000 in
theorem rw6_no (A : Option Addr) (c : Nat) (ws : List Int) (k w : Int) (W : World) (hr : Rd W A ws) (ha : alike ws 2 = false) :
    Calls Try.prog 11 #[.int .i64 6, .slice A ws.length c, .agg #[.int .i64 k, .int .i64 w]] W fun e W' => e = .returned (.agg #[.int .i64 (width 6 ws k w), .int .i64 (err (width 6 ws k w))]) ∧ Below W.heap.size W W' := by
  have HR := Lib.hid hr
  clear hr
  have fr : fit (0) = false := fit_0
  have hw := Lib.hid (rnum_no (show wide 6 ws k w = 0 by simp [wide, ha]) fr)
  go_enter Try.func11, Try.ntmps11
  go_wp2
  go_region_held3 (fun w' => w'.cell? ⟨W.heap.size, 0, none⟩ = some (.int .i64 k) ∧ w'.cell? ⟨W.heap.size, 1, none⟩ = some (.int .i64 w)) (go_keep) (fail)
  go_wp2_with (first | (go_at_call 28; refine (In_any _ _).mono ?_; rintro e w' ⟨rfl, rfl⟩) | (go_at_call 15; refine (RMask_any _ _).mono ?_; rintro e w' ⟨rfl, rfl⟩) | (go_at_call 29; refine (equal2_no _ c _ _ (by assumption) (HR.out.below (by repeat (first | exact Below.refl _ _ | refine Below.drew ?_ | refine bel_drewN ?_ _ | refine Below.setCell ?_ (by simp <;> omega) _ | refine Below.alloc ?_ (by simp <;> omega) _)))).mono ?_; rintro e w' ⟨rfl, q, rfl⟩))
  exact bodyPost_ret (v := .agg #[.int .i64 0, .int .i64 1]) (by simp [results, Try.results11, go_sem]) rfl ⟨ret_num hw.out, (by repeat (first | exact Below.refl _ _ | refine Below.drew ?_ | refine bel_drewN ?_ _ | refine Below.setCell ?_ (by simp <;> omega) _ | refine Below.alloc ?_ (by simp <;> omega) _))⟩
set_option maxHeartbeats 1000000 in
theorem rw6_yes (ab ao : Nat) (c : Nat) (k w x y : Int) (W : World) (hr : Rd W (some ⟨ab, ao, none⟩) [x, y]) (ha : alike [x, y] 2 = true) (fx : fit x = true) :
    Calls Try.prog 11 #[.int .i64 6, .slice (some ⟨ab, ao, none⟩) 2 c, .agg #[.int .i64 k, .int .i64 w]] W fun e W' => e = .returned (.agg #[.int .i64 (width 6 [x, y] k w), .int .i64 (err (width 6 [x, y] k w))]) ∧ Below W.heap.size W W' := by
  have HR := Lib.hid hr
  have h0 : W.cell? ⟨ab, ao, none⟩ = some (.int .i64 x) := by obtain ⟨_, _, e, h0, h1⟩ := rd_2 hr; cases e; exact h0
  have nw0 := World.new_ne W _ h0
  have lw0 := World.block_lt_of_cell? W _ h0
  have h1 : W.cell? ⟨ab, ao + 1, none⟩ = some (.int .i64 y) := by obtain ⟨_, _, e, h0, h1⟩ := rd_2 hr; cases e; exact h1
  have nw1 := World.new_ne W _ h1
  have lw1 := World.block_lt_of_cell? W _ h1
  clear hr
  have fr : fit (x) = true := fx
  have hw := Lib.hid (rnum_yes (show wide 6 [x, y] k w = x by simp [wide, ha]) fr)
  go_enter Try.func11, Try.ntmps11
  go_wp2
  go_region_held3 (fun w' => w'.cell? ⟨W.heap.size, 0, none⟩ = some (.int .i64 k) ∧ w'.cell? ⟨W.heap.size, 1, none⟩ = some (.int .i64 w)) (go_keep) (fail)
  go_wp2_with (first | (go_at_call 28; refine (In_any _ _).mono ?_; rintro e w' ⟨rfl, rfl⟩) | (go_at_call 15; refine (RMask_any _ _).mono ?_; rintro e w' ⟨rfl, rfl⟩) | (go_at_call 29; refine (equal2_yes _ c _ _ (by assumption) (HR.out.below (by repeat (first | exact Below.refl _ _ | refine Below.drew ?_ | refine bel_drewN ?_ _ | refine Below.setCell ?_ (by simp <;> omega) _ | refine Below.alloc ?_ (by simp <;> omega) _)))).mono ?_; rintro e w' ⟨rfl, q, rfl⟩))
  exact bodyPost_ret (v := .agg #[.int .i64 (x), .int .i64 0]) (by simp [results, Try.results11, go_sem]) rfl ⟨ret_num hw.out, (by repeat (first | exact Below.refl _ _ | refine Below.drew ?_ | refine bel_drewN ?_ _ | refine Below.setCell ?_ (by simp <;> omega) _ | refine Below.alloc ?_ (by simp <;> omega) _))⟩
set_option maxHeartbeats 1000000 in
theorem rw7_no (A : Option Addr) (c : Nat) (ws : List Int) (k w : Int) (W : World) (hr : Rd W A ws) (ha : alike ws 2 = false) :
    Calls Try.prog 11 #[.int .i64 7, .slice A ws.length c, .agg #[.int .i64 k, .int .i64 w]] W fun e W' => e = .returned (.agg #[.int .i64 (width 7 ws k w), .int .i64 (err (width 7 ws k w))]) ∧ Below W.heap.size W W' := by
  have HR := Lib.hid hr
  clear hr
  have fr : fit (0) = false := fit_0
  have hw := Lib.hid (rnum_no (show wide 7 ws k w = 0 by simp [wide, ha]) fr)
  go_enter Try.func11, Try.ntmps11
  go_wp2
  go_region_held3 (fun w' => w'.cell? ⟨W.heap.size, 0, none⟩ = some (.int .i64 k) ∧ w'.cell? ⟨W.heap.size, 1, none⟩ = some (.int .i64 w)) (go_keep) (fail)
  go_wp2_with (first | (go_at_call 28; refine (In_any _ _).mono ?_; rintro e w' ⟨rfl, rfl⟩) | (go_at_call 15; refine (RMask_any _ _).mono ?_; rintro e w' ⟨rfl, rfl⟩) | (go_at_call 29; refine (equal2_no _ c _ _ (by assumption) (HR.out.below (by repeat (first | exact Below.refl _ _ | refine Below.drew ?_ | refine bel_drewN ?_ _ | refine Below.setCell ?_ (by simp <;> omega) _ | refine Below.alloc ?_ (by simp <;> omega) _)))).mono ?_; rintro e w' ⟨rfl, q, rfl⟩))
  exact bodyPost_ret (v := .agg #[.int .i64 0, .int .i64 1]) (by simp [results, Try.results11, go_sem]) rfl ⟨ret_num hw.out, (by repeat (first | exact Below.refl _ _ | refine Below.drew ?_ | refine bel_drewN ?_ _ | refine Below.setCell ?_ (by simp <;> omega) _ | refine Below.alloc ?_ (by simp <;> omega) _))⟩
set_option maxHeartbeats 1000000 in
theorem rw7_yes (ab ao : Nat) (c : Nat) (k w x y : Int) (W : World) (hr : Rd W (some ⟨ab, ao, none⟩) [x, y]) (ha : alike [x, y] 2 = true) (fx : fit x = true) :
    Calls Try.prog 11 #[.int .i64 7, .slice (some ⟨ab, ao, none⟩) 2 c, .agg #[.int .i64 k, .int .i64 w]] W fun e W' => e = .returned (.agg #[.int .i64 (width 7 [x, y] k w), .int .i64 (err (width 7 [x, y] k w))]) ∧ Below W.heap.size W W' := by
  have HR := Lib.hid hr
  have h0 : W.cell? ⟨ab, ao, none⟩ = some (.int .i64 x) := by obtain ⟨_, _, e, h0, h1⟩ := rd_2 hr; cases e; exact h0
  have nw0 := World.new_ne W _ h0
  have lw0 := World.block_lt_of_cell? W _ h0
  have h1 : W.cell? ⟨ab, ao + 1, none⟩ = some (.int .i64 y) := by obtain ⟨_, _, e, h0, h1⟩ := rd_2 hr; cases e; exact h1
  have nw1 := World.new_ne W _ h1
  have lw1 := World.block_lt_of_cell? W _ h1
  clear hr
  have fr : fit (x) = true := fx
  have hw := Lib.hid (rnum_yes (show wide 7 [x, y] k w = x by simp [wide, ha]) fr)
  go_enter Try.func11, Try.ntmps11
  go_wp2
  go_region_held3 (fun w' => w'.cell? ⟨W.heap.size, 0, none⟩ = some (.int .i64 k) ∧ w'.cell? ⟨W.heap.size, 1, none⟩ = some (.int .i64 w)) (go_keep) (fail)
  go_wp2_with (first | (go_at_call 28; refine (In_any _ _).mono ?_; rintro e w' ⟨rfl, rfl⟩) | (go_at_call 15; refine (RMask_any _ _).mono ?_; rintro e w' ⟨rfl, rfl⟩) | (go_at_call 29; refine (equal2_yes _ c _ _ (by assumption) (HR.out.below (by repeat (first | exact Below.refl _ _ | refine Below.drew ?_ | refine bel_drewN ?_ _ | refine Below.setCell ?_ (by simp <;> omega) _ | refine Below.alloc ?_ (by simp <;> omega) _)))).mono ?_; rintro e w' ⟨rfl, q, rfl⟩))
  exact bodyPost_ret (v := .agg #[.int .i64 (x), .int .i64 0]) (by simp [results, Try.results11, go_sem]) rfl ⟨ret_num hw.out, (by repeat (first | exact Below.refl _ _ | refine Below.drew ?_ | refine bel_drewN ?_ _ | refine Below.setCell ?_ (by simp <;> omega) _ | refine Below.alloc ?_ (by simp <;> omega) _))⟩
set_option maxHeartbeats 1000000 in
theorem rw8_no (A : Option Addr) (c : Nat) (ws : List Int) (k w : Int) (W : World) (hr : Rd W A ws) (ha : alike ws 2 = false) :
    Calls Try.prog 11 #[.int .i64 8, .slice A ws.length c, .agg #[.int .i64 k, .int .i64 w]] W fun e W' => e = .returned (.agg #[.int .i64 (width 8 ws k w), .int .i64 (err (width 8 ws k w))]) ∧ Below W.heap.size W W' := by
  have HR := Lib.hid hr
  clear hr
  have fr : fit (0) = false := fit_0
  have hw := Lib.hid (rnum_no (show wide 8 ws k w = 0 by simp [wide, ha]) fr)
  go_enter Try.func11, Try.ntmps11
  go_wp2
  go_region_held3 (fun w' => w'.cell? ⟨W.heap.size, 0, none⟩ = some (.int .i64 k) ∧ w'.cell? ⟨W.heap.size, 1, none⟩ = some (.int .i64 w)) (go_keep) (fail)
  go_wp2_with (first | (go_at_call 28; refine (In_any _ _).mono ?_; rintro e w' ⟨rfl, rfl⟩) | (go_at_call 15; refine (RMask_any _ _).mono ?_; rintro e w' ⟨rfl, rfl⟩) | (go_at_call 29; refine (equal2_no _ c _ _ (by assumption) (HR.out.below (by repeat (first | exact Below.refl _ _ | refine Below.drew ?_ | refine bel_drewN ?_ _ | refine Below.setCell ?_ (by simp <;> omega) _ | refine Below.alloc ?_ (by simp <;> omega) _)))).mono ?_; rintro e w' ⟨rfl, q, rfl⟩))
  exact bodyPost_ret (v := .agg #[.int .i64 0, .int .i64 1]) (by simp [results, Try.results11, go_sem]) rfl ⟨ret_num hw.out, (by repeat (first | exact Below.refl _ _ | refine Below.drew ?_ | refine bel_drewN ?_ _ | refine Below.setCell ?_ (by simp <;> omega) _ | refine Below.alloc ?_ (by simp <;> omega) _))⟩
set_option maxHeartbeats 1000000 in
theorem rw8_yes (A : Option Addr) (c : Nat) (ws : List Int) (k w : Int) (W : World) (hr : Rd W A ws) (ha : alike ws 2 = true) :
    Calls Try.prog 11 #[.int .i64 8, .slice A ws.length c, .agg #[.int .i64 k, .int .i64 w]] W fun e W' => e = .returned (.agg #[.int .i64 (width 8 ws k w), .int .i64 (err (width 8 ws k w))]) ∧ Below W.heap.size W W' := by
  have HR := Lib.hid hr
  clear hr
  have fr : fit (1) = true := fit_1
  have hw := Lib.hid (rnum_yes (show wide 8 ws k w = 1 by simp [wide, ha]) fr)
  go_enter Try.func11, Try.ntmps11
  go_wp2
  go_region_held3 (fun w' => w'.cell? ⟨W.heap.size, 0, none⟩ = some (.int .i64 k) ∧ w'.cell? ⟨W.heap.size, 1, none⟩ = some (.int .i64 w)) (go_keep) (fail)
  go_wp2_with (first | (go_at_call 28; refine (In_any _ _).mono ?_; rintro e w' ⟨rfl, rfl⟩) | (go_at_call 15; refine (RMask_any _ _).mono ?_; rintro e w' ⟨rfl, rfl⟩) | (go_at_call 29; refine (equal2_yes _ c _ _ (by assumption) (HR.out.below (by repeat (first | exact Below.refl _ _ | refine Below.drew ?_ | refine bel_drewN ?_ _ | refine Below.setCell ?_ (by simp <;> omega) _ | refine Below.alloc ?_ (by simp <;> omega) _)))).mono ?_; rintro e w' ⟨rfl, q, rfl⟩))
  exact bodyPost_ret (v := .agg #[.int .i64 (1), .int .i64 0]) (by simp [results, Try.results11, go_sem]) rfl ⟨ret_num hw.out, (by repeat (first | exact Below.refl _ _ | refine Below.drew ?_ | refine bel_drewN ?_ _ | refine Below.setCell ?_ (by simp <;> omega) _ | refine Below.alloc ?_ (by simp <;> omega) _))⟩
set_option maxHeartbeats 1000000 in
theorem rw9_no (A : Option Addr) (c : Nat) (ws : List Int) (k w : Int) (W : World) (hr : Rd W A ws) (ha : alike ws 2 = false) :
    Calls Try.prog 11 #[.int .i64 9, .slice A ws.length c, .agg #[.int .i64 k, .int .i64 w]] W fun e W' => e = .returned (.agg #[.int .i64 (width 9 ws k w), .int .i64 (err (width 9 ws k w))]) ∧ Below W.heap.size W W' := by
  have HR := Lib.hid hr
  clear hr
  have fr : fit (0) = false := fit_0
  have hw := Lib.hid (rnum_no (show wide 9 ws k w = 0 by simp [wide, ha]) fr)
  go_enter Try.func11, Try.ntmps11
  go_wp2
  go_region_held3 (fun w' => w'.cell? ⟨W.heap.size, 0, none⟩ = some (.int .i64 k) ∧ w'.cell? ⟨W.heap.size, 1, none⟩ = some (.int .i64 w)) (go_keep) (fail)
  go_wp2_with (first | (go_at_call 28; refine (In_any _ _).mono ?_; rintro e w' ⟨rfl, rfl⟩) | (go_at_call 15; refine (RMask_any _ _).mono ?_; rintro e w' ⟨rfl, rfl⟩) | (go_at_call 29; refine (equal2_no _ c _ _ (by assumption) (HR.out.below (by repeat (first | exact Below.refl _ _ | refine Below.drew ?_ | refine bel_drewN ?_ _ | refine Below.setCell ?_ (by simp <;> omega) _ | refine Below.alloc ?_ (by simp <;> omega) _)))).mono ?_; rintro e w' ⟨rfl, q, rfl⟩))
  exact bodyPost_ret (v := .agg #[.int .i64 0, .int .i64 1]) (by simp [results, Try.results11, go_sem]) rfl ⟨ret_num hw.out, (by repeat (first | exact Below.refl _ _ | refine Below.drew ?_ | refine bel_drewN ?_ _ | refine Below.setCell ?_ (by simp <;> omega) _ | refine Below.alloc ?_ (by simp <;> omega) _))⟩
set_option maxHeartbeats 1000000 in
theorem rw9_yes (A : Option Addr) (c : Nat) (ws : List Int) (k w : Int) (W : World) (hr : Rd W A ws) (ha : alike ws 2 = true) :
    Calls Try.prog 11 #[.int .i64 9, .slice A ws.length c, .agg #[.int .i64 k, .int .i64 w]] W fun e W' => e = .returned (.agg #[.int .i64 (width 9 ws k w), .int .i64 (err (width 9 ws k w))]) ∧ Below W.heap.size W W' := by
  have HR := Lib.hid hr
  clear hr
  have fr : fit (1) = true := fit_1
  have hw := Lib.hid (rnum_yes (show wide 9 ws k w = 1 by simp [wide, ha]) fr)
  go_enter Try.func11, Try.ntmps11
  go_wp2
  go_region_held3 (fun w' => w'.cell? ⟨W.heap.size, 0, none⟩ = some (.int .i64 k) ∧ w'.cell? ⟨W.heap.size, 1, none⟩ = some (.int .i64 w)) (go_keep) (fail)
  go_wp2_with (first | (go_at_call 28; refine (In_any _ _).mono ?_; rintro e w' ⟨rfl, rfl⟩) | (go_at_call 15; refine (RMask_any _ _).mono ?_; rintro e w' ⟨rfl, rfl⟩) | (go_at_call 29; refine (equal2_yes _ c _ _ (by assumption) (HR.out.below (by repeat (first | exact Below.refl _ _ | refine Below.drew ?_ | refine bel_drewN ?_ _ | refine Below.setCell ?_ (by simp <;> omega) _ | refine Below.alloc ?_ (by simp <;> omega) _)))).mono ?_; rintro e w' ⟨rfl, q, rfl⟩))
  exact bodyPost_ret (v := .agg #[.int .i64 (1), .int .i64 0]) (by simp [results, Try.results11, go_sem]) rfl ⟨ret_num hw.out, (by repeat (first | exact Below.refl _ _ | refine Below.drew ?_ | refine bel_drewN ?_ _ | refine Below.setCell ?_ (by simp <;> omega) _ | refine Below.alloc ?_ (by simp <;> omega) _))⟩
set_option maxHeartbeats 1000000 in
theorem rw10_no (A : Option Addr) (c : Nat) (ws : List Int) (k w : Int) (W : World) (hr : Rd W A ws) (ha : alike ws 3 = false) :
    Calls Try.prog 11 #[.int .i64 10, .slice A ws.length c, .agg #[.int .i64 k, .int .i64 w]] W fun e W' => e = .returned (.agg #[.int .i64 (width 10 ws k w), .int .i64 (err (width 10 ws k w))]) ∧ Below W.heap.size W W' := by
  have HR := Lib.hid hr
  clear hr
  have fr : fit (0) = false := fit_0
  have hw := Lib.hid (rnum_no (show wide 10 ws k w = 0 by simp [wide, ha]) fr)
  go_enter Try.func11, Try.ntmps11
  go_wp2
  go_region_held3 (fun w' => w'.cell? ⟨W.heap.size, 0, none⟩ = some (.int .i64 k) ∧ w'.cell? ⟨W.heap.size, 1, none⟩ = some (.int .i64 w)) (go_keep) (fail)
  go_wp2_with (first | (go_at_call 28; refine (In_any _ _).mono ?_; rintro e w' ⟨rfl, rfl⟩) | (go_at_call 15; refine (RMask_any _ _).mono ?_; rintro e w' ⟨rfl, rfl⟩) | (go_at_call 29; refine (equal3_no _ c _ _ (by assumption) (HR.out.below (by repeat (first | exact Below.refl _ _ | refine Below.drew ?_ | refine bel_drewN ?_ _ | refine Below.setCell ?_ (by simp <;> omega) _ | refine Below.alloc ?_ (by simp <;> omega) _)))).mono ?_; rintro e w' ⟨rfl, q, rfl⟩))
  exact bodyPost_ret (v := .agg #[.int .i64 0, .int .i64 1]) (by simp [results, Try.results11, go_sem]) rfl ⟨ret_num hw.out, (by repeat (first | exact Below.refl _ _ | refine Below.drew ?_ | refine bel_drewN ?_ _ | refine Below.setCell ?_ (by simp <;> omega) _ | refine Below.alloc ?_ (by simp <;> omega) _))⟩
set_option maxHeartbeats 1000000 in
theorem rw10_ne (ab ao : Nat) (c : Nat) (k w x y z : Int) (W : World) (hr : Rd W (some ⟨ab, ao, none⟩) [x, y, z]) (ha : alike [x, y, z] 3 = true) (e : ¬ x = 1) :
    Calls Try.prog 11 #[.int .i64 10, .slice (some ⟨ab, ao, none⟩) 3 c, .agg #[.int .i64 k, .int .i64 w]] W fun e W' => e = .returned (.agg #[.int .i64 (width 10 [x, y, z] k w), .int .i64 (err (width 10 [x, y, z] k w))]) ∧ Below W.heap.size W W' := by
  have HR := Lib.hid hr
  have h0 : W.cell? ⟨ab, ao, none⟩ = some (.int .i64 x) := by obtain ⟨_, _, e, h0, h1, h2⟩ := rd_3 hr; cases e; exact h0
  have nw0 := World.new_ne W _ h0
  have lw0 := World.block_lt_of_cell? W _ h0
  have h1 : W.cell? ⟨ab, ao + 1, none⟩ = some (.int .i64 y) := by obtain ⟨_, _, e, h0, h1, h2⟩ := rd_3 hr; cases e; exact h1
  have nw1 := World.new_ne W _ h1
  have lw1 := World.block_lt_of_cell? W _ h1
  have h2 : W.cell? ⟨ab, ao + 2, none⟩ = some (.int .i64 z) := by obtain ⟨_, _, e, h0, h1, h2⟩ := rd_3 hr; cases e; exact h2
  have nw2 := World.new_ne W _ h2
  have lw2 := World.block_lt_of_cell? W _ h2
  clear hr
  have e1 : (x == 1) = false := beq_eq_false_iff_ne.2 e
  have fr : fit (0) = false := fit_0
  have hw := Lib.hid (rnum_no (show wide 10 [x, y, z] k w = 0 by simp [wide, e]) fr)
  go_enter Try.func11, Try.ntmps11
  go_wp2
  go_region_held3 (fun w' => w'.cell? ⟨W.heap.size, 0, none⟩ = some (.int .i64 k) ∧ w'.cell? ⟨W.heap.size, 1, none⟩ = some (.int .i64 w)) (go_keep) (fail)
  go_wp2_with (first | (go_at_call 28; refine (In_any _ _).mono ?_; rintro e w' ⟨rfl, rfl⟩) | (go_at_call 15; refine (RMask_any _ _).mono ?_; rintro e w' ⟨rfl, rfl⟩) | (go_at_call 29; refine (equal3_yes _ c _ _ (by assumption) (HR.out.below (by repeat (first | exact Below.refl _ _ | refine Below.drew ?_ | refine bel_drewN ?_ _ | refine Below.setCell ?_ (by simp <;> omega) _ | refine Below.alloc ?_ (by simp <;> omega) _)))).mono ?_; rintro e w' ⟨rfl, q, rfl⟩))
  exact bodyPost_ret (v := .agg #[.int .i64 0, .int .i64 1]) (by simp [results, Try.results11, go_sem]) rfl ⟨ret_num hw.out, (by repeat (first | exact Below.refl _ _ | refine Below.drew ?_ | refine bel_drewN ?_ _ | refine Below.setCell ?_ (by simp <;> omega) _ | refine Below.alloc ?_ (by simp <;> omega) _))⟩
set_option maxHeartbeats 1000000 in
theorem rw10_yes (ab ao : Nat) (c : Nat) (k w x y z : Int) (W : World) (hr : Rd W (some ⟨ab, ao, none⟩) [x, y, z]) (ha : alike [x, y, z] 3 = true) (e : (x == 1) = true) (fy : fit y = true) :
    Calls Try.prog 11 #[.int .i64 10, .slice (some ⟨ab, ao, none⟩) 3 c, .agg #[.int .i64 k, .int .i64 w]] W fun e W' => e = .returned (.agg #[.int .i64 (width 10 [x, y, z] k w), .int .i64 (err (width 10 [x, y, z] k w))]) ∧ Below W.heap.size W W' := by
  have HR := Lib.hid hr
  have h0 : W.cell? ⟨ab, ao, none⟩ = some (.int .i64 x) := by obtain ⟨_, _, e, h0, h1, h2⟩ := rd_3 hr; cases e; exact h0
  have nw0 := World.new_ne W _ h0
  have lw0 := World.block_lt_of_cell? W _ h0
  have h1 : W.cell? ⟨ab, ao + 1, none⟩ = some (.int .i64 y) := by obtain ⟨_, _, e, h0, h1, h2⟩ := rd_3 hr; cases e; exact h1
  have nw1 := World.new_ne W _ h1
  have lw1 := World.block_lt_of_cell? W _ h1
  have h2 : W.cell? ⟨ab, ao + 2, none⟩ = some (.int .i64 z) := by obtain ⟨_, _, e, h0, h1, h2⟩ := rd_3 hr; cases e; exact h2
  have nw2 := World.new_ne W _ h2
  have lw2 := World.block_lt_of_cell? W _ h2
  clear hr
  have fr : fit (y) = true := fy
  have hw := Lib.hid (rnum_yes (show wide 10 [x, y, z] k w = y by rw [beq_iff_eq] at e; subst e; simp [wide, ha]) fr)
  go_enter Try.func11, Try.ntmps11
  go_wp2
  go_region_held3 (fun w' => w'.cell? ⟨W.heap.size, 0, none⟩ = some (.int .i64 k) ∧ w'.cell? ⟨W.heap.size, 1, none⟩ = some (.int .i64 w)) (go_keep) (fail)
  go_wp2_with (first | (go_at_call 28; refine (In_any _ _).mono ?_; rintro e w' ⟨rfl, rfl⟩) | (go_at_call 15; refine (RMask_any _ _).mono ?_; rintro e w' ⟨rfl, rfl⟩) | (go_at_call 29; refine (equal3_yes _ c _ _ (by assumption) (HR.out.below (by repeat (first | exact Below.refl _ _ | refine Below.drew ?_ | refine bel_drewN ?_ _ | refine Below.setCell ?_ (by simp <;> omega) _ | refine Below.alloc ?_ (by simp <;> omega) _)))).mono ?_; rintro e w' ⟨rfl, q, rfl⟩))
  exact bodyPost_ret (v := .agg #[.int .i64 (y), .int .i64 0]) (by simp [results, Try.results11, go_sem]) rfl ⟨ret_num hw.out, (by repeat (first | exact Below.refl _ _ | refine Below.drew ?_ | refine bel_drewN ?_ _ | refine Below.setCell ?_ (by simp <;> omega) _ | refine Below.alloc ?_ (by simp <;> omega) _))⟩
set_option maxHeartbeats 1000000 in
theorem rw11_len (A : Option Addr) (c : Nat) (ws : List Int) (k w : Int) (W : World) (hr : Rd W A ws) (hl : ¬ ws.length = 2) :
    Calls Try.prog 11 #[.int .i64 11, .slice A ws.length c, .agg #[.int .i64 k, .int .i64 w]] W fun e W' => e = .returned (.agg #[.int .i64 (width 11 ws k w), .int .i64 (err (width 11 ws k w))]) ∧ Below W.heap.size W W' := by
  have HR := Lib.hid hr
  clear hr
  have e1 : ((ws.length : Int) == 2) = false := beq_eq_false_iff_ne.2 (by omega)
  have fr : fit (0) = false := fit_0
  have hw := Lib.hid (rnum_no (show wide 11 ws k w = 0 by unfold wide; rw [if_neg (by decide), if_neg (by decide), if_neg (by decide), if_neg (by decide), if_neg (by decide), if_pos rfl, if_neg (fun q => hl q.1)]) fr)
  go_enter Try.func11, Try.ntmps11
  go_wp2
  go_region_held3 (fun w' => w'.cell? ⟨W.heap.size, 0, none⟩ = some (.int .i64 k) ∧ w'.cell? ⟨W.heap.size, 1, none⟩ = some (.int .i64 w)) (go_keep) (fail)
  go_wp2_with (first | (go_at_call 28; refine (In_any _ _).mono ?_; rintro e w' ⟨rfl, rfl⟩) | (go_at_call 15; refine (RMask_any _ _).mono ?_; rintro e w' ⟨rfl, rfl⟩))
  exact bodyPost_ret (v := .agg #[.int .i64 0, .int .i64 1]) (by simp [results, Try.results11, go_sem]) rfl ⟨ret_num hw.out, (by repeat (first | exact Below.refl _ _ | refine Below.drew ?_ | refine bel_drewN ?_ _ | refine Below.setCell ?_ (by simp <;> omega) _ | refine Below.alloc ?_ (by simp <;> omega) _))⟩
set_option maxHeartbeats 1000000 in
theorem rw11_x (ab ao : Nat) (c : Nat) (k w x y : Int) (W : World) (hr : Rd W (some ⟨ab, ao, none⟩) [x, y]) (fx : fit x = false) :
    Calls Try.prog 11 #[.int .i64 11, .slice (some ⟨ab, ao, none⟩) 2 c, .agg #[.int .i64 k, .int .i64 w]] W fun e W' => e = .returned (.agg #[.int .i64 (width 11 [x, y] k w), .int .i64 (err (width 11 [x, y] k w))]) ∧ Below W.heap.size W W' := by
  have HR := Lib.hid hr
  have h0 : W.cell? ⟨ab, ao, none⟩ = some (.int .i64 x) := by obtain ⟨_, _, e, h0, h1⟩ := rd_2 hr; cases e; exact h0
  have nw0 := World.new_ne W _ h0
  have lw0 := World.block_lt_of_cell? W _ h0
  have h1 : W.cell? ⟨ab, ao + 1, none⟩ = some (.int .i64 y) := by obtain ⟨_, _, e, h0, h1⟩ := rd_2 hr; cases e; exact h1
  have nw1 := World.new_ne W _ h1
  have lw1 := World.block_lt_of_cell? W _ h1
  clear hr
  have fr : fit (0) = false := fit_0
  have hw := Lib.hid (rnum_no (show wide 11 [x, y] k w = 0 by simp [wide, fx]) fr)
  go_enter Try.func11, Try.ntmps11
  go_wp2
  go_region_held3 (fun w' => w'.cell? ⟨W.heap.size, 0, none⟩ = some (.int .i64 k) ∧ w'.cell? ⟨W.heap.size, 1, none⟩ = some (.int .i64 w)) (go_keep) (fail)
  go_wp2_with (first | (go_at_call 28; refine (In_any _ _).mono ?_; rintro e w' ⟨rfl, rfl⟩) | (go_at_call 15; refine (RMask_any _ _).mono ?_; rintro e w' ⟨rfl, rfl⟩))
  exact bodyPost_ret (v := .agg #[.int .i64 0, .int .i64 1]) (by simp [results, Try.results11, go_sem]) rfl ⟨ret_num hw.out, (by repeat (first | exact Below.refl _ _ | refine Below.drew ?_ | refine bel_drewN ?_ _ | refine Below.setCell ?_ (by simp <;> omega) _ | refine Below.alloc ?_ (by simp <;> omega) _))⟩
set_option maxHeartbeats 1000000 in
theorem rw11_y (ab ao : Nat) (c : Nat) (k w x y : Int) (W : World) (hr : Rd W (some ⟨ab, ao, none⟩) [x, y]) (fx : fit x = true) (fy : fit y = false) :
    Calls Try.prog 11 #[.int .i64 11, .slice (some ⟨ab, ao, none⟩) 2 c, .agg #[.int .i64 k, .int .i64 w]] W fun e W' => e = .returned (.agg #[.int .i64 (width 11 [x, y] k w), .int .i64 (err (width 11 [x, y] k w))]) ∧ Below W.heap.size W W' := by
  have HR := Lib.hid hr
  have h0 : W.cell? ⟨ab, ao, none⟩ = some (.int .i64 x) := by obtain ⟨_, _, e, h0, h1⟩ := rd_2 hr; cases e; exact h0
  have nw0 := World.new_ne W _ h0
  have lw0 := World.block_lt_of_cell? W _ h0
  have h1 : W.cell? ⟨ab, ao + 1, none⟩ = some (.int .i64 y) := by obtain ⟨_, _, e, h0, h1⟩ := rd_2 hr; cases e; exact h1
  have nw1 := World.new_ne W _ h1
  have lw1 := World.block_lt_of_cell? W _ h1
  clear hr
  have fr : fit (0) = false := fit_0
  have hw := Lib.hid (rnum_no (show wide 11 [x, y] k w = 0 by simp [wide, fx, fy]) fr)
  go_enter Try.func11, Try.ntmps11
  go_wp2
  go_region_held3 (fun w' => w'.cell? ⟨W.heap.size, 0, none⟩ = some (.int .i64 k) ∧ w'.cell? ⟨W.heap.size, 1, none⟩ = some (.int .i64 w)) (go_keep) (fail)
  go_wp2_with (first | (go_at_call 28; refine (In_any _ _).mono ?_; rintro e w' ⟨rfl, rfl⟩) | (go_at_call 15; refine (RMask_any _ _).mono ?_; rintro e w' ⟨rfl, rfl⟩))
  exact bodyPost_ret (v := .agg #[.int .i64 0, .int .i64 1]) (by simp [results, Try.results11, go_sem]) rfl ⟨ret_num hw.out, (by repeat (first | exact Below.refl _ _ | refine Below.drew ?_ | refine bel_drewN ?_ _ | refine Below.setCell ?_ (by simp <;> omega) _ | refine Below.alloc ?_ (by simp <;> omega) _))⟩
set_option maxHeartbeats 1000000 in
theorem rw11_true (ab ao : Nat) (c : Nat) (k w x y : Int) (W : World) (hr : Rd W (some ⟨ab, ao, none⟩) [x, y]) (fx : fit x = true) (fy : fit y = true) (bx : 1 ≤ x ∧ x ≤ 8) (by_ : 1 ≤ y ∧ y ≤ 8) (fs : fit (x + y) = true) :
    Calls Try.prog 11 #[.int .i64 11, .slice (some ⟨ab, ao, none⟩) 2 c, .agg #[.int .i64 k, .int .i64 w]] W fun e W' => e = .returned (.agg #[.int .i64 (width 11 [x, y] k w), .int .i64 (err (width 11 [x, y] k w))]) ∧ Below W.heap.size W W' := by
  have HR := Lib.hid hr
  have h0 : W.cell? ⟨ab, ao, none⟩ = some (.int .i64 x) := by obtain ⟨_, _, e, h0, h1⟩ := rd_2 hr; cases e; exact h0
  have nw0 := World.new_ne W _ h0
  have lw0 := World.block_lt_of_cell? W _ h0
  have h1 : W.cell? ⟨ab, ao + 1, none⟩ = some (.int .i64 y) := by obtain ⟨_, _, e, h0, h1⟩ := rd_2 hr; cases e; exact h1
  have nw1 := World.new_ne W _ h1
  have lw1 := World.block_lt_of_cell? W _ h1
  clear hr
  have e1 : IntKind.i64.wrap (x + y) = x + y := IntWalk.i64_in _ (by omega)
  have fr : fit (x + y) = true := fs
  have hw := Lib.hid (rnum_yes (show wide 11 [x, y] k w = x + y by simp [wide, fx, fy]) fr)
  go_enter Try.func11, Try.ntmps11
  go_wp2
  go_region_held3 (fun w' => w'.cell? ⟨W.heap.size, 0, none⟩ = some (.int .i64 k) ∧ w'.cell? ⟨W.heap.size, 1, none⟩ = some (.int .i64 w)) (go_keep) (fail)
  go_wp2_with (first | (go_at_call 28; refine (In_any _ _).mono ?_; rintro e w' ⟨rfl, rfl⟩) | (go_at_call 15; refine (RMask_any _ _).mono ?_; rintro e w' ⟨rfl, rfl⟩))
  go_region_held3 (fun w' => w'.cell? ⟨ab, ao, none⟩ = some (.int .i64 x) ∧ w'.cell? ⟨ab, ao + 1, none⟩ = some (.int .i64 y)) (go_keep) (fail)
  go_wp2_with (first | (go_at_call 28; refine (In_any _ _).mono ?_; rintro e w' ⟨rfl, rfl⟩) | (go_at_call 15; refine (RMask_any _ _).mono ?_; rintro e w' ⟨rfl, rfl⟩))
  exact bodyPost_ret (v := .agg #[.int .i64 (x + y), .int .i64 0]) (by simp [results, Try.results11, go_sem]) rfl ⟨ret_num hw.out, (by repeat (first | exact Below.refl _ _ | refine Below.drew ?_ | refine bel_drewN ?_ _ | refine Below.setCell ?_ (by simp <;> omega) _ | refine Below.alloc ?_ (by simp <;> omega) _))⟩
set_option maxHeartbeats 1000000 in
theorem rw11_false (ab ao : Nat) (c : Nat) (k w x y : Int) (W : World) (hr : Rd W (some ⟨ab, ao, none⟩) [x, y]) (fx : fit x = true) (fy : fit y = true) (bx : 1 ≤ x ∧ x ≤ 8) (by_ : 1 ≤ y ∧ y ≤ 8) (fs : fit (x + y) = false) :
    Calls Try.prog 11 #[.int .i64 11, .slice (some ⟨ab, ao, none⟩) 2 c, .agg #[.int .i64 k, .int .i64 w]] W fun e W' => e = .returned (.agg #[.int .i64 (width 11 [x, y] k w), .int .i64 (err (width 11 [x, y] k w))]) ∧ Below W.heap.size W W' := by
  have HR := Lib.hid hr
  have h0 : W.cell? ⟨ab, ao, none⟩ = some (.int .i64 x) := by obtain ⟨_, _, e, h0, h1⟩ := rd_2 hr; cases e; exact h0
  have nw0 := World.new_ne W _ h0
  have lw0 := World.block_lt_of_cell? W _ h0
  have h1 : W.cell? ⟨ab, ao + 1, none⟩ = some (.int .i64 y) := by obtain ⟨_, _, e, h0, h1⟩ := rd_2 hr; cases e; exact h1
  have nw1 := World.new_ne W _ h1
  have lw1 := World.block_lt_of_cell? W _ h1
  clear hr
  have e1 : IntKind.i64.wrap (x + y) = x + y := IntWalk.i64_in _ (by omega)
  have fr : fit (x + y) = false := fs
  have hw := Lib.hid (rnum_no (show wide 11 [x, y] k w = x + y by simp [wide, fx, fy]) fr)
  go_enter Try.func11, Try.ntmps11
  go_wp2
  go_region_held3 (fun w' => w'.cell? ⟨W.heap.size, 0, none⟩ = some (.int .i64 k) ∧ w'.cell? ⟨W.heap.size, 1, none⟩ = some (.int .i64 w)) (go_keep) (fail)
  go_wp2_with (first | (go_at_call 28; refine (In_any _ _).mono ?_; rintro e w' ⟨rfl, rfl⟩) | (go_at_call 15; refine (RMask_any _ _).mono ?_; rintro e w' ⟨rfl, rfl⟩))
  go_region_held3 (fun w' => w'.cell? ⟨ab, ao, none⟩ = some (.int .i64 x) ∧ w'.cell? ⟨ab, ao + 1, none⟩ = some (.int .i64 y)) (go_keep) (fail)
  go_wp2_with (first | (go_at_call 28; refine (In_any _ _).mono ?_; rintro e w' ⟨rfl, rfl⟩) | (go_at_call 15; refine (RMask_any _ _).mono ?_; rintro e w' ⟨rfl, rfl⟩))
  exact bodyPost_ret (v := .agg #[.int .i64 0, .int .i64 1]) (by simp [results, Try.results11, go_sem]) rfl ⟨ret_num hw.out, (by repeat (first | exact Below.refl _ _ | refine Below.drew ?_ | refine bel_drewN ?_ _ | refine Below.setCell ?_ (by simp <;> omega) _ | refine Below.alloc ?_ (by simp <;> omega) _))⟩
set_option maxHeartbeats 1000000 in
theorem rw12_no (A : Option Addr) (c : Nat) (ws : List Int) (k w : Int) (W : World) (hr : Rd W A ws) (ha : alike ws 1 = false) :
    Calls Try.prog 11 #[.int .i64 12, .slice A ws.length c, .agg #[.int .i64 k, .int .i64 w]] W fun e W' => e = .returned (.agg #[.int .i64 (width 12 ws k w), .int .i64 (err (width 12 ws k w))]) ∧ Below W.heap.size W W' := by
  have HR := Lib.hid hr
  clear hr
  have fr : fit (0) = false := fit_0
  have hw := Lib.hid (rnum_no (show wide 12 ws k w = 0 by simp [wide, ha]) fr)
  go_enter Try.func11, Try.ntmps11
  go_wp2
  go_region_held3 (fun w' => w'.cell? ⟨W.heap.size, 0, none⟩ = some (.int .i64 k) ∧ w'.cell? ⟨W.heap.size, 1, none⟩ = some (.int .i64 w)) (go_keep) (fail)
  go_wp2_with (first | (go_at_call 28; refine (In_any _ _).mono ?_; rintro e w' ⟨rfl, rfl⟩) | (go_at_call 15; refine (RMask_any _ _).mono ?_; rintro e w' ⟨rfl, rfl⟩) | (go_at_call 29; refine (equal1_no _ c _ _ (by assumption) (HR.out.below (by repeat (first | exact Below.refl _ _ | refine Below.drew ?_ | refine bel_drewN ?_ _ | refine Below.setCell ?_ (by simp <;> omega) _ | refine Below.alloc ?_ (by simp <;> omega) _)))).mono ?_; rintro e w' ⟨rfl, q, rfl⟩))
  exact bodyPost_ret (v := .agg #[.int .i64 0, .int .i64 1]) (by simp [results, Try.results11, go_sem]) rfl ⟨ret_num hw.out, (by repeat (first | exact Below.refl _ _ | refine Below.drew ?_ | refine bel_drewN ?_ _ | refine Below.setCell ?_ (by simp <;> omega) _ | refine Below.alloc ?_ (by simp <;> omega) _))⟩
set_option maxHeartbeats 1000000 in
theorem rw12_unfit (A : Option Addr) (c : Nat) (ws : List Int) (k w : Int) (W : World) (hr : Rd W A ws) (ha : alike ws 1 = true) (hf : fit w = false) :
    Calls Try.prog 11 #[.int .i64 12, .slice A ws.length c, .agg #[.int .i64 k, .int .i64 w]] W fun e W' => e = .returned (.agg #[.int .i64 (width 12 ws k w), .int .i64 (err (width 12 ws k w))]) ∧ Below W.heap.size W W' := by
  have HR := Lib.hid hr
  clear hr
  have fr : fit (0) = false := fit_0
  have hw := Lib.hid (rnum_no (show wide 12 ws k w = 0 by simp [wide, hf]) fr)
  go_enter Try.func11, Try.ntmps11
  go_wp2
  go_region_held3 (fun w' => w'.cell? ⟨W.heap.size, 0, none⟩ = some (.int .i64 k) ∧ w'.cell? ⟨W.heap.size, 1, none⟩ = some (.int .i64 w)) (go_keep) (fail)
  go_wp2_with (first | (go_at_call 28; refine (In_any _ _).mono ?_; rintro e w' ⟨rfl, rfl⟩) | (go_at_call 15; refine (RMask_any _ _).mono ?_; rintro e w' ⟨rfl, rfl⟩) | (go_at_call 29; refine (equal1_yes _ c _ _ (by assumption) (HR.out.below (by repeat (first | exact Below.refl _ _ | refine Below.drew ?_ | refine bel_drewN ?_ _ | refine Below.setCell ?_ (by simp <;> omega) _ | refine Below.alloc ?_ (by simp <;> omega) _)))).mono ?_; rintro e w' ⟨rfl, q, rfl⟩))
  exact bodyPost_ret (v := .agg #[.int .i64 0, .int .i64 1]) (by simp [results, Try.results11, go_sem]) rfl ⟨ret_num hw.out, (by repeat (first | exact Below.refl _ _ | refine Below.drew ?_ | refine bel_drewN ?_ _ | refine Below.setCell ?_ (by simp <;> omega) _ | refine Below.alloc ?_ (by simp <;> omega) _))⟩
set_option maxHeartbeats 1000000 in
theorem rw12_neg (A : Option Addr) (c : Nat) (ws : List Int) (k w : Int) (W : World) (hr : Rd W A ws) (ha : alike ws 1 = true) (hf : fit w = true) (hk : k < 0) :
    Calls Try.prog 11 #[.int .i64 12, .slice A ws.length c, .agg #[.int .i64 k, .int .i64 w]] W fun e W' => e = .returned (.agg #[.int .i64 (width 12 ws k w), .int .i64 (err (width 12 ws k w))]) ∧ Below W.heap.size W W' := by
  have HR := Lib.hid hr
  clear hr
  have d1 : decide (0 ≤ k) = false := decide_eq_false (by omega)
  have fr : fit (0) = false := fit_0
  have hw := Lib.hid (rnum_no (show wide 12 ws k w = 0 by unfold wide; rw [if_neg (by decide), if_neg (by decide), if_neg (by decide), if_neg (by decide), if_neg (by decide), if_neg (by decide), if_pos rfl, if_neg (by omega)]) fr)
  go_enter Try.func11, Try.ntmps11
  go_wp2
  go_region_held3 (fun w' => w'.cell? ⟨W.heap.size, 0, none⟩ = some (.int .i64 k) ∧ w'.cell? ⟨W.heap.size, 1, none⟩ = some (.int .i64 w)) (go_keep) (fail)
  go_wp2_with (first | (go_at_call 28; refine (In_any _ _).mono ?_; rintro e w' ⟨rfl, rfl⟩) | (go_at_call 15; refine (RMask_any _ _).mono ?_; rintro e w' ⟨rfl, rfl⟩) | (go_at_call 29; refine (equal1_yes _ c _ _ (by assumption) (HR.out.below (by repeat (first | exact Below.refl _ _ | refine Below.drew ?_ | refine bel_drewN ?_ _ | refine Below.setCell ?_ (by simp <;> omega) _ | refine Below.alloc ?_ (by simp <;> omega) _)))).mono ?_; rintro e w' ⟨rfl, q, rfl⟩))
  exact bodyPost_ret (v := .agg #[.int .i64 0, .int .i64 1]) (by simp [results, Try.results11, go_sem]) rfl ⟨ret_num hw.out, (by repeat (first | exact Below.refl _ _ | refine Below.drew ?_ | refine bel_drewN ?_ _ | refine Below.setCell ?_ (by simp <;> omega) _ | refine Below.alloc ?_ (by simp <;> omega) _))⟩
set_option maxHeartbeats 1000000 in
theorem rw12_big (ab ao : Nat) (c : Nat) (k w x : Int) (W : World) (hr : Rd W (some ⟨ab, ao, none⟩) [x]) (ha : alike [x] 1 = true) (hf : fit w = true) (bx : 1 ≤ x ∧ x ≤ 8) (bw : 1 ≤ w ∧ w ≤ 8) (hk : 0 ≤ k) (hm : x - w < k) :
    Calls Try.prog 11 #[.int .i64 12, .slice (some ⟨ab, ao, none⟩) 1 c, .agg #[.int .i64 k, .int .i64 w]] W fun e W' => e = .returned (.agg #[.int .i64 (width 12 [x] k w), .int .i64 (err (width 12 [x] k w))]) ∧ Below W.heap.size W W' := by
  have HR := Lib.hid hr
  have h0 : W.cell? ⟨ab, ao, none⟩ = some (.int .i64 x) := by obtain ⟨_, _, e, h0⟩ := rd_1 hr; cases e; exact h0
  have nw0 := World.new_ne W _ h0
  have lw0 := World.block_lt_of_cell? W _ h0
  clear hr
  have d1 : decide (0 ≤ k) = true := decide_eq_true hk
  have e1 : IntKind.i64.wrap (x - w) = x - w := IntWalk.i64_in _ (by omega)
  have d2 : decide (k ≤ x - w) = false := decide_eq_false (by omega)
  have fr : fit (0) = false := fit_0
  have hw := Lib.hid (rnum_no (show wide 12 [x] k w = 0 by unfold wide; simp only [List.getD_cons_zero]; rw [if_neg (by decide), if_neg (by decide), if_neg (by decide), if_neg (by decide), if_neg (by decide), if_neg (by decide), if_pos trivial, if_neg (by omega)]) fr)
  go_enter Try.func11, Try.ntmps11
  go_wp2
  go_region_held3 (fun w' => w'.cell? ⟨W.heap.size, 0, none⟩ = some (.int .i64 k) ∧ w'.cell? ⟨W.heap.size, 1, none⟩ = some (.int .i64 w)) (go_keep) (fail)
  go_wp2_with (first | (go_at_call 28; refine (In_any _ _).mono ?_; rintro e w' ⟨rfl, rfl⟩) | (go_at_call 15; refine (RMask_any _ _).mono ?_; rintro e w' ⟨rfl, rfl⟩) | (go_at_call 29; refine (equal1_yes _ c _ _ (by assumption) (HR.out.below (by repeat (first | exact Below.refl _ _ | refine Below.drew ?_ | refine bel_drewN ?_ _ | refine Below.setCell ?_ (by simp <;> omega) _ | refine Below.alloc ?_ (by simp <;> omega) _)))).mono ?_; rintro e w' ⟨rfl, q, rfl⟩))
  exact bodyPost_ret (v := .agg #[.int .i64 0, .int .i64 1]) (by simp [results, Try.results11, go_sem]) rfl ⟨ret_num hw.out, (by repeat (first | exact Below.refl _ _ | refine Below.drew ?_ | refine bel_drewN ?_ _ | refine Below.setCell ?_ (by simp <;> omega) _ | refine Below.alloc ?_ (by simp <;> omega) _))⟩
set_option maxHeartbeats 1000000 in
theorem rw12_ok (ab ao : Nat) (c : Nat) (k w x : Int) (W : World) (hr : Rd W (some ⟨ab, ao, none⟩) [x]) (ha : alike [x] 1 = true) (hf : fit w = true) (bx : 1 ≤ x ∧ x ≤ 8) (bw : 1 ≤ w ∧ w ≤ 8) (hk : 0 ≤ k) (hm : k ≤ x - w) :
    Calls Try.prog 11 #[.int .i64 12, .slice (some ⟨ab, ao, none⟩) 1 c, .agg #[.int .i64 k, .int .i64 w]] W fun e W' => e = .returned (.agg #[.int .i64 (width 12 [x] k w), .int .i64 (err (width 12 [x] k w))]) ∧ Below W.heap.size W W' := by
  have HR := Lib.hid hr
  have h0 : W.cell? ⟨ab, ao, none⟩ = some (.int .i64 x) := by obtain ⟨_, _, e, h0⟩ := rd_1 hr; cases e; exact h0
  have nw0 := World.new_ne W _ h0
  have lw0 := World.block_lt_of_cell? W _ h0
  clear hr
  have d1 : decide (0 ≤ k) = true := decide_eq_true hk
  have e1 : IntKind.i64.wrap (x - w) = x - w := IntWalk.i64_in _ (by omega)
  have d2 : decide (k ≤ x - w) = true := decide_eq_true hm
  have fr : fit (w) = true := hf
  have hw := Lib.hid (rnum_yes (show wide 12 [x] k w = w by unfold wide; simp only [List.getD_cons_zero]; rw [if_neg (by decide), if_neg (by decide), if_neg (by decide), if_neg (by decide), if_neg (by decide), if_neg (by decide), if_pos trivial, if_pos ⟨ha, hf, hk, hm⟩]) fr)
  go_enter Try.func11, Try.ntmps11
  go_wp2
  go_region_held3 (fun w' => w'.cell? ⟨W.heap.size, 0, none⟩ = some (.int .i64 k) ∧ w'.cell? ⟨W.heap.size, 1, none⟩ = some (.int .i64 w)) (go_keep) (fail)
  go_wp2_with (first | (go_at_call 28; refine (In_any _ _).mono ?_; rintro e w' ⟨rfl, rfl⟩) | (go_at_call 15; refine (RMask_any _ _).mono ?_; rintro e w' ⟨rfl, rfl⟩) | (go_at_call 29; refine (equal1_yes _ c _ _ (by assumption) (HR.out.below (by repeat (first | exact Below.refl _ _ | refine Below.drew ?_ | refine bel_drewN ?_ _ | refine Below.setCell ?_ (by simp <;> omega) _ | refine Below.alloc ?_ (by simp <;> omega) _)))).mono ?_; rintro e w' ⟨rfl, q, rfl⟩))
  exact bodyPost_ret (v := .agg #[.int .i64 (w), .int .i64 0]) (by simp [results, Try.results11, go_sem]) rfl ⟨ret_num hw.out, (by repeat (first | exact Below.refl _ _ | refine Below.drew ?_ | refine bel_drewN ?_ _ | refine Below.setCell ?_ (by simp <;> omega) _ | refine Below.alloc ?_ (by simp <;> omega) _))⟩
set_option maxHeartbeats 1000000 in
theorem rw13_no (A : Option Addr) (c : Nat) (ws : List Int) (k w : Int) (W : World) (hr : Rd W A ws) (ha : alike ws 1 = false) :
    Calls Try.prog 11 #[.int .i64 13, .slice A ws.length c, .agg #[.int .i64 k, .int .i64 w]] W fun e W' => e = .returned (.agg #[.int .i64 (width 13 ws k w), .int .i64 (err (width 13 ws k w))]) ∧ Below W.heap.size W W' := by
  have HR := Lib.hid hr
  clear hr
  have fr : fit (0) = false := fit_0
  have hw := Lib.hid (rnum_no (show wide 13 ws k w = 0 by simp [wide, ha]) fr)
  go_enter Try.func11, Try.ntmps11
  go_wp2
  go_region_held3 (fun w' => w'.cell? ⟨W.heap.size, 0, none⟩ = some (.int .i64 k) ∧ w'.cell? ⟨W.heap.size, 1, none⟩ = some (.int .i64 w)) (go_keep) (fail)
  go_wp2_with (first | (go_at_call 28; refine (In_any _ _).mono ?_; rintro e w' ⟨rfl, rfl⟩) | (go_at_call 15; refine (RMask_any _ _).mono ?_; rintro e w' ⟨rfl, rfl⟩) | (go_at_call 29; refine (equal1_no _ c _ _ (by assumption) (HR.out.below (by repeat (first | exact Below.refl _ _ | refine Below.drew ?_ | refine bel_drewN ?_ _ | refine Below.setCell ?_ (by simp <;> omega) _ | refine Below.alloc ?_ (by simp <;> omega) _)))).mono ?_; rintro e w' ⟨rfl, q, rfl⟩))
  exact bodyPost_ret (v := .agg #[.int .i64 0, .int .i64 1]) (by simp [results, Try.results11, go_sem]) rfl ⟨ret_num hw.out, (by repeat (first | exact Below.refl _ _ | refine Below.drew ?_ | refine bel_drewN ?_ _ | refine Below.setCell ?_ (by simp <;> omega) _ | refine Below.alloc ?_ (by simp <;> omega) _))⟩
set_option maxHeartbeats 1000000 in
theorem rw13_lo (ab ao : Nat) (c : Nat) (k w x : Int) (W : World) (hr : Rd W (some ⟨ab, ao, none⟩) [x]) (ha : alike [x] 1 = true) (hx : w < x) :
    Calls Try.prog 11 #[.int .i64 13, .slice (some ⟨ab, ao, none⟩) 1 c, .agg #[.int .i64 k, .int .i64 w]] W fun e W' => e = .returned (.agg #[.int .i64 (width 13 [x] k w), .int .i64 (err (width 13 [x] k w))]) ∧ Below W.heap.size W W' := by
  have HR := Lib.hid hr
  have h0 : W.cell? ⟨ab, ao, none⟩ = some (.int .i64 x) := by obtain ⟨_, _, e, h0⟩ := rd_1 hr; cases e; exact h0
  have nw0 := World.new_ne W _ h0
  have lw0 := World.block_lt_of_cell? W _ h0
  clear hr
  have d1 : decide (x ≤ w) = false := decide_eq_false (by omega)
  have fr : fit (0) = false := fit_0
  have hw := Lib.hid (rnum_no (show wide 13 [x] k w = 0 by simp [wide]; intro _ _; omega) fr)
  go_enter Try.func11, Try.ntmps11
  go_wp2
  go_region_held3 (fun w' => w'.cell? ⟨W.heap.size, 0, none⟩ = some (.int .i64 k) ∧ w'.cell? ⟨W.heap.size, 1, none⟩ = some (.int .i64 w)) (go_keep) (fail)
  go_wp2_with (first | (go_at_call 28; refine (In_any _ _).mono ?_; rintro e w' ⟨rfl, rfl⟩) | (go_at_call 15; refine (RMask_any _ _).mono ?_; rintro e w' ⟨rfl, rfl⟩) | (go_at_call 29; refine (equal1_yes _ c _ _ (by assumption) (HR.out.below (by repeat (first | exact Below.refl _ _ | refine Below.drew ?_ | refine bel_drewN ?_ _ | refine Below.setCell ?_ (by simp <;> omega) _ | refine Below.alloc ?_ (by simp <;> omega) _)))).mono ?_; rintro e w' ⟨rfl, q, rfl⟩))
  exact bodyPost_ret (v := .agg #[.int .i64 0, .int .i64 1]) (by simp [results, Try.results11, go_sem]) rfl ⟨ret_num hw.out, (by repeat (first | exact Below.refl _ _ | refine Below.drew ?_ | refine bel_drewN ?_ _ | refine Below.setCell ?_ (by simp <;> omega) _ | refine Below.alloc ?_ (by simp <;> omega) _))⟩
set_option maxHeartbeats 1000000 in
theorem rw13_true (ab ao : Nat) (c : Nat) (k w x : Int) (W : World) (hr : Rd W (some ⟨ab, ao, none⟩) [x]) (ha : alike [x] 1 = true) (hx : x ≤ w) (hf : fit w = true) :
    Calls Try.prog 11 #[.int .i64 13, .slice (some ⟨ab, ao, none⟩) 1 c, .agg #[.int .i64 k, .int .i64 w]] W fun e W' => e = .returned (.agg #[.int .i64 (width 13 [x] k w), .int .i64 (err (width 13 [x] k w))]) ∧ Below W.heap.size W W' := by
  have HR := Lib.hid hr
  have h0 : W.cell? ⟨ab, ao, none⟩ = some (.int .i64 x) := by obtain ⟨_, _, e, h0⟩ := rd_1 hr; cases e; exact h0
  have nw0 := World.new_ne W _ h0
  have lw0 := World.block_lt_of_cell? W _ h0
  clear hr
  have d1 : decide (x ≤ w) = true := decide_eq_true hx
  have fr : fit (w) = true := hf
  have hw := Lib.hid (rnum_yes (show wide 13 [x] k w = w by simp [wide, ha, hx]) fr)
  go_enter Try.func11, Try.ntmps11
  go_wp2
  go_region_held3 (fun w' => w'.cell? ⟨W.heap.size, 0, none⟩ = some (.int .i64 k) ∧ w'.cell? ⟨W.heap.size, 1, none⟩ = some (.int .i64 w)) (go_keep) (fail)
  go_wp2_with (first | (go_at_call 28; refine (In_any _ _).mono ?_; rintro e w' ⟨rfl, rfl⟩) | (go_at_call 15; refine (RMask_any _ _).mono ?_; rintro e w' ⟨rfl, rfl⟩) | (go_at_call 29; refine (equal1_yes _ c _ _ (by assumption) (HR.out.below (by repeat (first | exact Below.refl _ _ | refine Below.drew ?_ | refine bel_drewN ?_ _ | refine Below.setCell ?_ (by simp <;> omega) _ | refine Below.alloc ?_ (by simp <;> omega) _)))).mono ?_; rintro e w' ⟨rfl, q, rfl⟩))
  exact bodyPost_ret (v := .agg #[.int .i64 (w), .int .i64 0]) (by simp [results, Try.results11, go_sem]) rfl ⟨ret_num hw.out, (by repeat (first | exact Below.refl _ _ | refine Below.drew ?_ | refine bel_drewN ?_ _ | refine Below.setCell ?_ (by simp <;> omega) _ | refine Below.alloc ?_ (by simp <;> omega) _))⟩
set_option maxHeartbeats 1000000 in
theorem rw13_false (ab ao : Nat) (c : Nat) (k w x : Int) (W : World) (hr : Rd W (some ⟨ab, ao, none⟩) [x]) (ha : alike [x] 1 = true) (hx : x ≤ w) (hf : fit w = false) :
    Calls Try.prog 11 #[.int .i64 13, .slice (some ⟨ab, ao, none⟩) 1 c, .agg #[.int .i64 k, .int .i64 w]] W fun e W' => e = .returned (.agg #[.int .i64 (width 13 [x] k w), .int .i64 (err (width 13 [x] k w))]) ∧ Below W.heap.size W W' := by
  have HR := Lib.hid hr
  have h0 : W.cell? ⟨ab, ao, none⟩ = some (.int .i64 x) := by obtain ⟨_, _, e, h0⟩ := rd_1 hr; cases e; exact h0
  have nw0 := World.new_ne W _ h0
  have lw0 := World.block_lt_of_cell? W _ h0
  clear hr
  have d1 : decide (x ≤ w) = true := decide_eq_true hx
  have fr : fit (w) = false := hf
  have hw := Lib.hid (rnum_no (show wide 13 [x] k w = w by simp [wide, ha, hx]) fr)
  go_enter Try.func11, Try.ntmps11
  go_wp2
  go_region_held3 (fun w' => w'.cell? ⟨W.heap.size, 0, none⟩ = some (.int .i64 k) ∧ w'.cell? ⟨W.heap.size, 1, none⟩ = some (.int .i64 w)) (go_keep) (fail)
  go_wp2_with (first | (go_at_call 28; refine (In_any _ _).mono ?_; rintro e w' ⟨rfl, rfl⟩) | (go_at_call 15; refine (RMask_any _ _).mono ?_; rintro e w' ⟨rfl, rfl⟩) | (go_at_call 29; refine (equal1_yes _ c _ _ (by assumption) (HR.out.below (by repeat (first | exact Below.refl _ _ | refine Below.drew ?_ | refine bel_drewN ?_ _ | refine Below.setCell ?_ (by simp <;> omega) _ | refine Below.alloc ?_ (by simp <;> omega) _)))).mono ?_; rintro e w' ⟨rfl, q, rfl⟩))
  exact bodyPost_ret (v := .agg #[.int .i64 0, .int .i64 1]) (by simp [results, Try.results11, go_sem]) rfl ⟨ret_num hw.out, (by repeat (first | exact Below.refl _ _ | refine Below.drew ?_ | refine bel_drewN ?_ _ | refine Below.setCell ?_ (by simp <;> omega) _ | refine Below.alloc ?_ (by simp <;> omega) _))⟩
set_option maxHeartbeats 1000000 in
theorem rw_out (A : Option Addr) (c : Nat) (ws : List Int) (k w op : Int) (W : World) (hr : Rd W A ws) (ho : op < 1 ∨ 13 < op) :
    Calls Try.prog 11 #[.int .i64 op, .slice A ws.length c, .agg #[.int .i64 k, .int .i64 w]] W fun e W' => e = .returned (.agg #[.int .i64 (width op ws k w), .int .i64 (err (width op ws k w))]) ∧ Below W.heap.size W W' := by
  have HR := Lib.hid hr
  clear hr
  have o1 : (op == 1) = false := beq_eq_false_iff_ne.2 (by omega)
  have o2 : (op == 2) = false := beq_eq_false_iff_ne.2 (by omega)
  have o3 : (op == 3) = false := beq_eq_false_iff_ne.2 (by omega)
  have o4 : (op == 4) = false := beq_eq_false_iff_ne.2 (by omega)
  have o5 : (op == 5) = false := beq_eq_false_iff_ne.2 (by omega)
  have o6 : (op == 6) = false := beq_eq_false_iff_ne.2 (by omega)
  have o7 : (op == 7) = false := beq_eq_false_iff_ne.2 (by omega)
  have o8 : (op == 8) = false := beq_eq_false_iff_ne.2 (by omega)
  have o9 : (op == 9) = false := beq_eq_false_iff_ne.2 (by omega)
  have o10 : (op == 10) = false := beq_eq_false_iff_ne.2 (by omega)
  have o11 : (op == 11) = false := beq_eq_false_iff_ne.2 (by omega)
  have o12 : (op == 12) = false := beq_eq_false_iff_ne.2 (by omega)
  have o13 : (op == 13) = false := beq_eq_false_iff_ne.2 (by omega)
  have fr : fit (0) = false := fit_0
  have hw := Lib.hid (rnum_no (show wide op ws k w = 0 by exact wide_out ho) fr)
  go_enter Try.func11, Try.ntmps11
  go_wp2
  go_region_held3 (fun w' => w'.cell? ⟨W.heap.size, 0, none⟩ = some (.int .i64 k) ∧ w'.cell? ⟨W.heap.size, 1, none⟩ = some (.int .i64 w)) (go_keep) (fail)
  go_wp2_with (first | (go_at_call 28; refine (In_any _ _).mono ?_; rintro e w' ⟨rfl, rfl⟩) | (go_at_call 15; refine (RMask_any _ _).mono ?_; rintro e w' ⟨rfl, rfl⟩))
  exact bodyPost_ret (v := .agg #[.int .i64 0, .int .i64 1]) (by simp [results, Try.results11, go_sem]) rfl ⟨ret_num hw.out, (by repeat (first | exact Below.refl _ _ | refine Below.drew ?_ | refine bel_drewN ?_ _ | refine Below.setCell ?_ (by simp <;> omega) _ | refine Below.alloc ?_ (by simp <;> omega) _))⟩

theorem alike_cases (ws : List Int) (n : Nat) : alike ws n = true ∨ alike ws n = false := by cases alike ws n <;> simp
theorem rd_split1 {W : World} {A : Option Addr} {x : Int} (h : Rd W A [x]) : ∃ ab ao, A = some ⟨ab, ao, none⟩ := by
  obtain ⟨b, o, e, _⟩ := rd_cell0 h
  exact ⟨b, o, e⟩
theorem rd_split {W : World} {A : Option Addr} {x : Int} {l : List Int} (h : Rd W A (x :: l)) : ∃ ab ao, A = some ⟨ab, ao, none⟩ := by
  obtain ⟨b, o, e, _⟩ := rd_cell0 h
  exact ⟨b, o, e⟩
/-- wireloomref07.WidthIn -/
theorem RWidth_any (op : Int) (A : Option Addr) (c : Nat) (ws : List Int) (k w : Int) (W : World) (hr : Rd W A ws) :
    Calls Try.prog 11 #[.int .i64 op, .slice A ws.length c, .agg #[.int .i64 k, .int .i64 w]] W fun e W' => e = .returned (.agg #[.int .i64 (width op ws k w), .int .i64 (err (width op ws k w))]) ∧ Below W.heap.size W W' := by
  by_cases h : op < 1 ∨ 13 < op
  · exact rw_out A c ws k w op W hr h
  · have hc : op = 1 ∨ op = 2 ∨ op = 3 ∨ op = 4 ∨ op = 5 ∨ op = 6 ∨ op = 7 ∨ op = 8 ∨ op = 9 ∨ op = 10 ∨ op = 11 ∨ op = 12 ∨ op = 13 := by omega
    rcases hc with rfl | rfl | rfl | rfl | rfl | rfl | rfl | rfl | rfl | rfl | rfl | rfl | rfl
    · by_cases hl : ws.length = 0
      · obtain rfl := List.eq_nil_of_length_eq_zero hl
        cases hf : fit w with
        | false => exact rw1_unfit A c k w W hr hf
        | true =>
          by_cases hk : k < 0
          · exact rw1_neg A c k w W hr hf hk
          · by_cases hm : mask w < k
            · exact rw1_big A c k w W hr hf (by omega) hm
            · exact rw1_ok A c k w W hr hf (by omega) (by omega)
      · exact rw1_len A c ws k w W hr hl
    · rcases alike_cases ws 1 with ha | ha
      · obtain ⟨x, rfl, fx⟩ := alike1_of ha
        obtain ⟨ab, ao, rfl⟩ := rd_split hr
        exact rw2_yes ab ao c k w x W hr ha fx
      · exact rw2_no A c ws k w W hr ha
    · rcases alike_cases ws 2 with ha | ha
      · obtain ⟨x, rfl, fx⟩ := alike2_of ha
        obtain ⟨ab, ao, rfl⟩ := rd_split hr
        exact rw3_yes ab ao c k w x x W hr ha fx
      · exact rw3_no A c ws k w W hr ha
    · rcases alike_cases ws 2 with ha | ha
      · obtain ⟨x, rfl, fx⟩ := alike2_of ha
        obtain ⟨ab, ao, rfl⟩ := rd_split hr
        exact rw4_yes ab ao c k w x x W hr ha fx
      · exact rw4_no A c ws k w W hr ha
    · rcases alike_cases ws 2 with ha | ha
      · obtain ⟨x, rfl, fx⟩ := alike2_of ha
        obtain ⟨ab, ao, rfl⟩ := rd_split hr
        exact rw5_yes ab ao c k w x x W hr ha fx
      · exact rw5_no A c ws k w W hr ha
    · rcases alike_cases ws 2 with ha | ha
      · obtain ⟨x, rfl, fx⟩ := alike2_of ha
        obtain ⟨ab, ao, rfl⟩ := rd_split hr
        exact rw6_yes ab ao c k w x x W hr ha fx
      · exact rw6_no A c ws k w W hr ha
    · rcases alike_cases ws 2 with ha | ha
      · obtain ⟨x, rfl, fx⟩ := alike2_of ha
        obtain ⟨ab, ao, rfl⟩ := rd_split hr
        exact rw7_yes ab ao c k w x x W hr ha fx
      · exact rw7_no A c ws k w W hr ha
    · rcases alike_cases ws 2 with ha | ha
      · exact rw8_yes A c ws k w W hr ha
      · exact rw8_no A c ws k w W hr ha
    · rcases alike_cases ws 2 with ha | ha
      · exact rw9_yes A c ws k w W hr ha
      · exact rw9_no A c ws k w W hr ha
    · rcases alike_cases ws 3 with ha | ha
      · obtain ⟨x, y, rfl, fx, fy⟩ := alike3_of ha
        obtain ⟨ab, ao, rfl⟩ := rd_split hr
        by_cases e : x = 1
        · exact rw10_yes ab ao c k w x y y W hr ha (beq_iff_eq.2 e) fy
        · exact rw10_ne ab ao c k w x y y W hr ha e
      · exact rw10_no A c ws k w W hr ha
    · by_cases hl : ws.length = 2
      · obtain ⟨x, y, rfl⟩ := len2 hl
        obtain ⟨ab, ao, rfl⟩ := rd_split hr
        cases fx : fit x with
        | false => exact rw11_x ab ao c k w x y W hr fx
        | true =>
          cases fy : fit y with
          | false => exact rw11_y ab ao c k w x y W hr fx fy
          | true =>
            cases fs : fit (x + y) with
            | false => exact rw11_false ab ao c k w x y W hr fx fy (fit_iff.1 fx) (fit_iff.1 fy) fs
            | true => exact rw11_true ab ao c k w x y W hr fx fy (fit_iff.1 fx) (fit_iff.1 fy) fs
      · exact rw11_len A c ws k w W hr hl
    · rcases alike_cases ws 1 with ha | ha
      · cases hf : fit w with
        | false => exact rw12_unfit A c ws k w W hr ha hf
        | true =>
          by_cases hk : k < 0
          · exact rw12_neg A c ws k w W hr ha hf hk
          · obtain ⟨x, rfl, fx⟩ := alike1_of ha
            obtain ⟨ab, ao, rfl⟩ := rd_split hr
            by_cases hm : x - w < k
            · exact rw12_big ab ao c k w x W hr ha hf (fit_iff.1 fx) (fit_iff.1 hf) (by omega) hm
            · exact rw12_ok ab ao c k w x W hr ha hf (fit_iff.1 fx) (fit_iff.1 hf) (by omega) (by omega)
      · exact rw12_no A c ws k w W hr ha
    · rcases alike_cases ws 1 with ha | ha
      · obtain ⟨x, rfl, fx⟩ := alike1_of ha
        obtain ⟨ab, ao, rfl⟩ := rd_split hr
        by_cases hx : w < x
        · exact rw13_lo ab ao c k w x W hr ha hx
        · cases hf : fit w with
          | false => exact rw13_false ab ao c k w x W hr ha (by omega) hf
          | true => exact rw13_true ab ao c k w x W hr ha (by omega) hf
      · exact rw13_no A c ws k w W hr ha
end Bt
end Go.Proofs.Ytpblhbagjmnmpaa
