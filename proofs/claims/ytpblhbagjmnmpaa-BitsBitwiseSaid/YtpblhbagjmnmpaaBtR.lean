/- Contracts of the small functions of the law's own text: apply, two, slice, cat, extended. Conditions: the slices read as the lists. -/
import Derived.Test.YtpblhbagjmnmpaaBtJ
set_option linter.unusedVariables false
set_option linter.unusedSimpArgs false
namespace Go.Proofs.Ytpblhbagjmnmpaa
open Go Go.RowKit
open Go.MapKept
namespace Bt

/-- The value of an operation, -1 where it is not valid. -/
def res (op : Int) (ws vs num : List Int) : Int := if okay op ws vs num = true then val op ws vs (num.getD 0 0) (num.getD 1 0) else -1
theorem res_yes {op : Int} {ws vs num : List Int} (h : okay op ws vs num = true) : res op ws vs num = val op ws vs (num.getD 0 0) (num.getD 1 0) := by unfold res; rw [if_pos h]
theorem res_no {op : Int} {ws vs num : List Int} (h : okay op ws vs num = false) : res op ws vs num = -1 := by unfold res; rw [h]; rfl

theorem Apply_ok (op : Int) (A B C : Option Addr) (c cb cn : Nat) (ws vs num : List Int) (W : World) (h : okay op ws vs num = true) (hr : Rd W A ws) (hs : Rd W B vs) (hn : Rd W C num) :
    Calls Try.prog 12 #[.int .i64 op, .slice A ws.length c, .slice B vs.length cb, .slice C num.length cn] W fun e W' => e = .returned (.tuple #[.int .i64 (res op ws vs num), .int .i64 0]) ∧ Below W.heap.size W W' := by
  have h1 := app_yes h
  rw [res_yes h, ← h1.1, ← h1.2]
  exact Apply_any op A B C c cb cn ws vs num W hr hs hn
theorem Apply_bad (op : Int) (A B C : Option Addr) (c cb cn : Nat) (ws vs num : List Int) (W : World) (h : okay op ws vs num = false) (hr : Rd W A ws) (hs : Rd W B vs) (hn : Rd W C num) :
    Calls Try.prog 12 #[.int .i64 op, .slice A ws.length c, .slice B vs.length cb, .slice C num.length cn] W fun e W' => e = .returned (.tuple #[.int .i64 0, .int .i64 1]) ∧ Below W.heap.size W W' := by
  have h1 := app_no h
  have h2 := Apply_any op A B C c cb cn ws vs num W hr hs hn
  rw [h1.1, h1.2] at h2
  exact h2

theorem rd_new1 (W : World) (a : Int) : Rd (W.alloc (.cells #[.int .i64 a] 3)) (some ⟨W.heap.size, 0, none⟩) [a] :=
  ⟨by simp, fun _ => ⟨_, 0, rfl, fun j hj => by
    match j, hj with
    | 0, _ => simp⟩⟩
theorem rd_new2 (W : World) (a b : Int) : Rd (W.alloc (.cells #[.int .i64 a, .int .i64 b] 3)) (some ⟨W.heap.size, 0, none⟩) [a, b] :=
  ⟨by simp, fun _ => ⟨_, 0, rfl, fun j hj => by
    match j, hj with
    | 0, _ => simp
    | 1, _ => simp⟩⟩
theorem rd_new3 (W : World) (a b d : Int) : Rd (W.alloc (.cells #[.int .i64 a, .int .i64 b, .int .i64 d] 3)) (some ⟨W.heap.size, 0, none⟩) [a, b, d] :=
  ⟨by simp, fun _ => ⟨_, 0, rfl, fun j hj => by
    match j, hj with
    | 0, _ => simp
    | 1, _ => simp
    | 2, _ => simp⟩⟩

theorem rd_at1 {W : World} {B : Nat} {a : Int} (hB : B = W.heap.size) : Rd (W.alloc (.cells #[.int .i64 a] 3)) (some ⟨B, 0, none⟩) [a] := by
  subst hB; exact rd_new1 W a
theorem rd_at2 {W : World} {B : Nat} {a b : Int} (hB : B = W.heap.size) : Rd (W.alloc (.cells #[.int .i64 a, .int .i64 b] 3)) (some ⟨B, 0, none⟩) [a, b] := by
  subst hB; exact rd_new2 W a b
theorem rd_at3 {W : World} {B : Nat} {a b d : Int} (hB : B = W.heap.size) : Rd (W.alloc (.cells #[.int .i64 a, .int .i64 b, .int .i64 d] 3)) (some ⟨B, 0, none⟩) [a, b, d] := by
  subst hB; exact rd_new3 W a b d
set_option maxHeartbeats 400000 in
theorem apply_any (op : Int) (A B : Option Addr) (c cb : Nat) (ws vs : List Int) (W : World) (hr : Rd W A ws) (hs : Rd W B vs) :
    Calls Try.prog 23 #[.int .i64 op, .slice A ws.length c, .slice B vs.length cb] W fun e W' => e = .returned (.int .i64 (res op ws vs [0, 0])) ∧ Below W.heap.size W W' := by
  have HA := Lib.hid hr
  have HB := Lib.hid hs
  clear hr hs
  cases h : okay op ws vs [0, 0] with
  | true =>
    have H := Lib.hid h
    clear h
    go_enter Try.func23, Try.ntmps23
    go_wp2_with fail
    refine (Apply_ok op A B _ c cb 2 ws vs [0, 0] _ H.out (rd_alloc HA.out _) (rd_alloc HB.out _) (rd_at2 rfl)).mono ?_
    rintro e w1 ⟨rfl, hb⟩
    have HX := Lib.hid (bel_then ((Below.refl _ _).alloc (Nat.le_refl _) _) hb)
    clear hb
    go_wp2
    go_ret
    exact ⟨rfl, HX.out⟩
  | false =>
    have H := Lib.hid h
    clear h
    go_enter Try.func23, Try.ntmps23
    go_wp2_with fail
    refine (Apply_bad op A B _ c cb 2 ws vs [0, 0] _ H.out (rd_alloc HA.out _) (rd_alloc HB.out _) (rd_at2 rfl)).mono ?_
    rintro e w1 ⟨rfl, hb⟩
    have HX := Lib.hid (bel_then ((Below.refl _ _).alloc (Nat.le_refl _) _) hb)
    clear hb
    go_wp2
    go_ret
    exact ⟨by rw [res_no H.out]; rfl, HX.out⟩

set_option maxHeartbeats 400000 in
theorem two_any (op w a b : Int) (W : World) :
    Calls Try.prog 22 #[.int .i64 op, .int .i64 w, .agg #[.int .i64 a, .int .i64 b]] W fun e W' => e = .returned (.int .i64 (res op [w, w] [a, b] [0, 0])) ∧ Below W.heap.size W W' := by
  go_enter Try.func22, Try.ntmps22
  go_wp2_with fail
  refine (apply_any op _ _ 2 2 [w, w] [a, b] _ (rd_alloc (rd_at2 (by simp)) _) (rd_at2 (by simp))).mono ?_
  rintro e w1 ⟨rfl, hb⟩
  have HX := Lib.hid (show Below W.heap.size W w1 from bel_then (by repeat (first | exact Below.refl _ _ | refine Below.alloc ?_ (by simp <;> omega) _)) hb)
  clear hb
  go_wp2
  go_ret
  exact ⟨rfl, HX.out⟩
set_option maxHeartbeats 400000 in
theorem cat_any (w x a b : Int) (W : World) :
    Calls Try.prog 24 #[.agg #[.int .i64 w, .int .i64 x], .agg #[.int .i64 a, .int .i64 b]] W fun e W' => e = .returned (.int .i64 (res 11 [w, x] [a, b] [0, 0])) ∧ Below W.heap.size W W' := by
  go_enter Try.func24, Try.ntmps24
  go_wp2_with fail
  refine (apply_any 11 _ _ 2 2 [w, x] [a, b] _ (rd_alloc (rd_at2 (by simp)) _) (rd_at2 (by simp))).mono ?_
  rintro e w1 ⟨rfl, hb⟩
  have HX := Lib.hid (show Below W.heap.size W w1 from bel_then (by repeat (first | exact Below.refl _ _ | refine Below.alloc ?_ (by simp <;> omega) _)) hb)
  clear hb
  go_wp2
  go_ret
  exact ⟨rfl, HX.out⟩
set_option maxHeartbeats 400000 in
theorem slice_true (v w k n : Int) (W : World) (h : okay 12 [w] [v] [k, n] = true) :
    Calls Try.prog 25 #[.int .i64 v, .int .i64 w, .agg #[.int .i64 k, .int .i64 n]] W fun e W' => e = .returned (.int .i64 (res 12 [w] [v] [k, n])) ∧ Below W.heap.size W W' := by
  have H := Lib.hid h
  clear h
  go_enter Try.func25, Try.ntmps25
  go_wp2_with fail
  refine (Apply_ok 12 _ _ _ 1 1 2 [w] [v] [k, n] _ H.out (rd_alloc (rd_alloc (rd_at1 (by simp)) _) _) (rd_alloc (rd_at1 (by simp)) _) (rd_at2 (by simp))).mono ?_
  rintro e w1 ⟨rfl, hb⟩
  have HX := Lib.hid (show Below W.heap.size W w1 from bel_then (by repeat (first | exact Below.refl _ _ | refine Below.alloc ?_ (by simp <;> omega) _)) hb)
  clear hb
  go_wp2
  go_ret
  exact ⟨rfl, HX.out⟩
set_option maxHeartbeats 400000 in
theorem slice_false (v w k n : Int) (W : World) (h : okay 12 [w] [v] [k, n] = false) :
    Calls Try.prog 25 #[.int .i64 v, .int .i64 w, .agg #[.int .i64 k, .int .i64 n]] W fun e W' => e = .returned (.int .i64 (res 12 [w] [v] [k, n])) ∧ Below W.heap.size W W' := by
  have H := Lib.hid h
  clear h
  go_enter Try.func25, Try.ntmps25
  go_wp2_with fail
  refine (Apply_bad 12 _ _ _ 1 1 2 [w] [v] [k, n] _ H.out (rd_alloc (rd_alloc (rd_at1 (by simp)) _) _) (rd_alloc (rd_at1 (by simp)) _) (rd_at2 (by simp))).mono ?_
  rintro e w1 ⟨rfl, hb⟩
  have HX := Lib.hid (show Below W.heap.size W w1 from bel_then (by repeat (first | exact Below.refl _ _ | refine Below.alloc ?_ (by simp <;> omega) _)) hb)
  clear hb
  go_wp2
  go_ret
  exact ⟨by rw [res_no H.out]; rfl, HX.out⟩
theorem slice_any (v w k n : Int) (W : World) :
    Calls Try.prog 25 #[.int .i64 v, .int .i64 w, .agg #[.int .i64 k, .int .i64 n]] W fun e W' => e = .returned (.int .i64 (res 12 [w] [v] [k, n])) ∧ Below W.heap.size W W' := by
  cases h : okay 12 [w] [v] [k, n] with
  | true => exact slice_true v w k n W h
  | false => exact slice_false v w k n W h
set_option maxHeartbeats 400000 in
theorem extended_true (v w t : Int) (W : World) (h : okay 13 [w] [v] [0, t] = true) :
    Calls Try.prog 26 #[.int .i64 v, .int .i64 w, .int .i64 t] W fun e W' => e = .returned (.int .i64 (res 13 [w] [v] [0, t])) ∧ Below W.heap.size W W' := by
  have H := Lib.hid h
  clear h
  go_enter Try.func26, Try.ntmps26
  go_wp2_with fail
  refine (Apply_ok 13 _ _ _ 1 1 2 [w] [v] [0, t] _ H.out (rd_alloc (rd_alloc (rd_at1 (by simp)) _) _) (rd_alloc (rd_at1 (by simp)) _) (rd_at2 (by simp))).mono ?_
  rintro e w1 ⟨rfl, hb⟩
  have HX := Lib.hid (show Below W.heap.size W w1 from bel_then (by repeat (first | exact Below.refl _ _ | refine Below.alloc ?_ (by simp <;> omega) _)) hb)
  clear hb
  go_wp2
  go_ret
  exact ⟨rfl, HX.out⟩
set_option maxHeartbeats 400000 in
theorem extended_false (v w t : Int) (W : World) (h : okay 13 [w] [v] [0, t] = false) :
    Calls Try.prog 26 #[.int .i64 v, .int .i64 w, .int .i64 t] W fun e W' => e = .returned (.int .i64 (res 13 [w] [v] [0, t])) ∧ Below W.heap.size W W' := by
  have H := Lib.hid h
  clear h
  go_enter Try.func26, Try.ntmps26
  go_wp2_with fail
  refine (Apply_bad 13 _ _ _ 1 1 2 [w] [v] [0, t] _ H.out (rd_alloc (rd_alloc (rd_at1 (by simp)) _) _) (rd_alloc (rd_at1 (by simp)) _) (rd_at2 (by simp))).mono ?_
  rintro e w1 ⟨rfl, hb⟩
  have HX := Lib.hid (show Below W.heap.size W w1 from bel_then (by repeat (first | exact Below.refl _ _ | refine Below.alloc ?_ (by simp <;> omega) _)) hb)
  clear hb
  go_wp2
  go_ret
  exact ⟨by rw [res_no H.out]; rfl, HX.out⟩
theorem extended_any (v w t : Int) (W : World) :
    Calls Try.prog 26 #[.int .i64 v, .int .i64 w, .int .i64 t] W fun e W' => e = .returned (.int .i64 (res 13 [w] [v] [0, t])) ∧ Below W.heap.size W W' := by
  cases h : okay 13 [w] [v] [0, t] with
  | true => exact extended_true v w t W h
  | false => exact extended_false v w t W h
end Bt
end Go.Proofs.Ytpblhbagjmnmpaa
