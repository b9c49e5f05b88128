/- The law BitsMatchesReference returns true and leaves what was there as it was. Conditions: the slices read as the lists. -/
import Derived.Test.YtpblhbagjmnmpaaBtZ
import Derived.Test.YtpblhbagjmnmpaaBtX
set_option linter.unusedVariables false
set_option linter.unusedSimpArgs false
namespace Go.Proofs.Ytpblhbagjmnmpaa
open Go Go.RowKit
open Go.MapKept
namespace Bt

theorem Below_drewN2 {B : Nat} {w W : World} (h : Below B w W) (n : Nat) : Below B w (W.drewN n) := bel_drewN h n
theorem odd_cells {op v w k n : Int} {A B C L : Option Addr} {c cb cn cl : Nat} {ws vs num : List Int} {bs : List Bool} {W w1 : World} (h : Below (W.alloc (.cells #[.int .i64 op, .int .i64 v, .int .i64 w, .slice A ws.length c, .slice B vs.length cb, .slice C num.length cn, .int .i64 k, .int .i64 n, .slice L bs.length cl] 26)).heap.size (W.alloc (.cells #[.int .i64 op, .int .i64 v, .int .i64 w, .slice A ws.length c, .slice B vs.length cb, .slice C num.length cn, .int .i64 k, .int .i64 n, .slice L bs.length cl] 26)) w1) : w1.cell? ⟨W.heap.size, 0, none⟩ = some (.int .i64 op) ∧ w1.cell? ⟨W.heap.size, 1, none⟩ = some (.int .i64 v) ∧ w1.cell? ⟨W.heap.size, 2, none⟩ = some (.int .i64 w) ∧ w1.cell? ⟨W.heap.size, 3, none⟩ = some (.slice A ws.length c) ∧ w1.cell? ⟨W.heap.size, 4, none⟩ = some (.slice B vs.length cb) ∧ w1.cell? ⟨W.heap.size, 5, none⟩ = some (.slice C num.length cn) ∧ w1.cell? ⟨W.heap.size, 6, none⟩ = some (.int .i64 k) ∧ w1.cell? ⟨W.heap.size, 7, none⟩ = some (.int .i64 n) ∧ w1.cell? ⟨W.heap.size, 8, none⟩ = some (.slice L bs.length cl) :=
  ⟨(h.cell (p := ⟨W.heap.size, 0, none⟩) (by simp)).trans (by simp), (h.cell (p := ⟨W.heap.size, 1, none⟩) (by simp)).trans (by simp), (h.cell (p := ⟨W.heap.size, 2, none⟩) (by simp)).trans (by simp), (h.cell (p := ⟨W.heap.size, 3, none⟩) (by simp)).trans (by simp), (h.cell (p := ⟨W.heap.size, 4, none⟩) (by simp)).trans (by simp), (h.cell (p := ⟨W.heap.size, 5, none⟩) (by simp)).trans (by simp), (h.cell (p := ⟨W.heap.size, 6, none⟩) (by simp)).trans (by simp), (h.cell (p := ⟨W.heap.size, 7, none⟩) (by simp)).trans (by simp), (h.cell (p := ⟨W.heap.size, 8, none⟩) (by simp)).trans (by simp)⟩
set_option maxHeartbeats 1000000 in
set_option maxRecDepth 20000 in
theorem match_long0 (op v w k n : Int) (A B C L : Option Addr) (c cb cn cl : Nat) (ws vs num : List Int) (bs : List Bool) (W : World) (h0 : 80 < ws.length) :
    Calls Try.prog 3 #[.agg #[.int .i64 op, .int .i64 v, .int .i64 w, .slice A ws.length c, .slice B vs.length cb, .slice C num.length cn, .int .i64 k, .int .i64 n, .slice L bs.length cl]] W fun e W' => e = .returned (.bool true) ∧ Below W.heap.size W W' := by
  have d0 : decide (80 < (ws.length : Int)) = true := decide_eq_true (by omega)
  clear h0
  go_enter Try.func3, Try.ntmps3
  go_wp2_with fail
  refine (examples_any _).mono ?_
  rintro e w1 ⟨rfl, hb⟩
  have B1 := Lib.hid hb
  have z1 : W.heap.size + 1 ≤ w1.heap.size := by have := B1.out.size; simpa using this
  obtain ⟨q0, q1, q2, q3, q4, q5, q6, q7, q8⟩ := odd_cells B1.out
  clear hb
  go_wp2
  go_ret
  exact ⟨rfl, below_box B1.out⟩
set_option maxHeartbeats 1000000 in
set_option maxRecDepth 20000 in
theorem match_long1 (op v w k n : Int) (A B C L : Option Addr) (c cb cn cl : Nat) (ws vs num : List Int) (bs : List Bool) (W : World) (h0 : ws.length ≤ 80) (h1 : 80 < vs.length) :
    Calls Try.prog 3 #[.agg #[.int .i64 op, .int .i64 v, .int .i64 w, .slice A ws.length c, .slice B vs.length cb, .slice C num.length cn, .int .i64 k, .int .i64 n, .slice L bs.length cl]] W fun e W' => e = .returned (.bool true) ∧ Below W.heap.size W W' := by
  have d0 : decide (80 < (ws.length : Int)) = false := decide_eq_false (by omega)
  have d1 : decide (80 < (vs.length : Int)) = true := decide_eq_true (by omega)
  clear h0 h1
  go_enter Try.func3, Try.ntmps3
  go_wp2_with fail
  refine (examples_any _).mono ?_
  rintro e w1 ⟨rfl, hb⟩
  have B1 := Lib.hid hb
  have z1 : W.heap.size + 1 ≤ w1.heap.size := by have := B1.out.size; simpa using this
  obtain ⟨q0, q1, q2, q3, q4, q5, q6, q7, q8⟩ := odd_cells B1.out
  clear hb
  go_wp2
  go_ret
  exact ⟨rfl, below_box B1.out⟩
set_option maxHeartbeats 1000000 in
set_option maxRecDepth 20000 in
theorem match_long2 (op v w k n : Int) (A B C L : Option Addr) (c cb cn cl : Nat) (ws vs num : List Int) (bs : List Bool) (W : World) (h0 : ws.length ≤ 80) (h1 : vs.length ≤ 80) (h2 : 80 < num.length) :
    Calls Try.prog 3 #[.agg #[.int .i64 op, .int .i64 v, .int .i64 w, .slice A ws.length c, .slice B vs.length cb, .slice C num.length cn, .int .i64 k, .int .i64 n, .slice L bs.length cl]] W fun e W' => e = .returned (.bool true) ∧ Below W.heap.size W W' := by
  have d0 : decide (80 < (ws.length : Int)) = false := decide_eq_false (by omega)
  have d1 : decide (80 < (vs.length : Int)) = false := decide_eq_false (by omega)
  have d2 : decide (80 < (num.length : Int)) = true := decide_eq_true (by omega)
  clear h0 h1 h2
  go_enter Try.func3, Try.ntmps3
  go_wp2_with fail
  refine (examples_any _).mono ?_
  rintro e w1 ⟨rfl, hb⟩
  have B1 := Lib.hid hb
  have z1 : W.heap.size + 1 ≤ w1.heap.size := by have := B1.out.size; simpa using this
  obtain ⟨q0, q1, q2, q3, q4, q5, q6, q7, q8⟩ := odd_cells B1.out
  clear hb
  go_wp2
  go_ret
  exact ⟨rfl, below_box B1.out⟩
set_option maxHeartbeats 1000000 in
set_option maxRecDepth 20000 in
theorem match_long3 (op v w k n : Int) (A B C L : Option Addr) (c cb cn cl : Nat) (ws vs num : List Int) (bs : List Bool) (W : World) (h0 : ws.length ≤ 80) (h1 : vs.length ≤ 80) (h2 : num.length ≤ 80) (h3 : 80 < bs.length) :
    Calls Try.prog 3 #[.agg #[.int .i64 op, .int .i64 v, .int .i64 w, .slice A ws.length c, .slice B vs.length cb, .slice C num.length cn, .int .i64 k, .int .i64 n, .slice L bs.length cl]] W fun e W' => e = .returned (.bool true) ∧ Below W.heap.size W W' := by
  have d0 : decide (80 < (ws.length : Int)) = false := decide_eq_false (by omega)
  have d1 : decide (80 < (vs.length : Int)) = false := decide_eq_false (by omega)
  have d2 : decide (80 < (num.length : Int)) = false := decide_eq_false (by omega)
  have d3 : decide (80 < (bs.length : Int)) = true := decide_eq_true (by omega)
  clear h0 h1 h2 h3
  go_enter Try.func3, Try.ntmps3
  go_wp2_with fail
  refine (examples_any _).mono ?_
  rintro e w1 ⟨rfl, hb⟩
  have B1 := Lib.hid hb
  have z1 : W.heap.size + 1 ≤ w1.heap.size := by have := B1.out.size; simpa using this
  obtain ⟨q0, q1, q2, q3, q4, q5, q6, q7, q8⟩ := odd_cells B1.out
  clear hb
  go_wp2
  go_ret
  exact ⟨rfl, below_box B1.out⟩
set_option maxHeartbeats 8000000 in
set_option maxRecDepth 20000 in
theorem match_short (op v w k n : Int) (A B C L : Option Addr) (c cb cn cl : Nat) (ws vs num : List Int) (bs : List Bool) (W : World) (h0 : ws.length ≤ 80) (h1 : vs.length ≤ 80) (h2 : num.length ≤ 80) (h3 : bs.length ≤ 80) (hr : Rd W A ws) (hs : Rd W B vs) (hn : Rd W C num) (hl : RdB W L bs) (hcap : bs.length ≤ cl) (hv : -9223372036854775808 ≤ v ∧ v ≤ 9223372036854775807) :
    Calls Try.prog 3 #[.agg #[.int .i64 op, .int .i64 v, .int .i64 w, .slice A ws.length c, .slice B vs.length cb, .slice C num.length cn, .int .i64 k, .int .i64 n, .slice L bs.length cl]] W fun e W' => e = .returned (.bool true) ∧ Below W.heap.size W W' := by
  have d0 : decide (80 < (ws.length : Int)) = false := decide_eq_false (by omega)
  have d1 : decide (80 < (vs.length : Int)) = false := decide_eq_false (by omega)
  have d2 : decide (80 < (num.length : Int)) = false := decide_eq_false (by omega)
  have d3 : decide (80 < (bs.length : Int)) = false := decide_eq_false (by omega)
  have HA := Lib.hid hr
  have HB := Lib.hid hs
  have HC := Lib.hid hn
  have HL := Lib.hid hl
  have HCAP := Lib.hid hcap
  have HV := Lib.hid hv
  clear h0 h1 h2 h3 hr hs hn hl hcap hv
  go_enter Try.func3, Try.ntmps3
  go_wp2_with fail
  refine (examples_any _).mono ?_
  rintro e w1 ⟨rfl, hb⟩
  have B1 := Lib.hid hb
  have z1 : W.heap.size + 1 ≤ w1.heap.size := by have := B1.out.size; simpa using this
  obtain ⟨q0, q1, q2, q3, q4, q5, q6, q7, q8⟩ := odd_cells B1.out
  clear hb
  go_wp2_with fail
  refine (Width_any op A c ws k n w1 (HA.out.below (below_box B1.out))).mono ?_
  rintro e w2 ⟨rfl, hb⟩
  have B2 := Lib.hid (show Below (W.alloc (.cells #[.int .i64 op, .int .i64 v, .int .i64 w, .slice A ws.length c, .slice B vs.length cb, .slice C num.length cn, .int .i64 k, .int .i64 n, .slice L bs.length cl] 26)).heap.size (W.alloc (.cells #[.int .i64 op, .int .i64 v, .int .i64 w, .slice A ws.length c, .slice B vs.length cb, .slice C num.length cn, .int .i64 k, .int .i64 n, .slice L bs.length cl] 26)) w2 from bel_call B1.out (by first | omega | (simp; omega) | simp) hb)
  have z2 : W.heap.size + 1 ≤ w2.heap.size := by have := B2.out.size; simpa using this
  have ne2 : w2.heap.size ≠ W.heap.size := by omega
  have lt2 : W.heap.size < w2.heap.size := by omega
  have nf2 : w2.heap.size + 1 ≠ W.heap.size := by omega
  have y2 : w1.heap.size ≤ w2.heap.size := by have := hb.size; (try simp at this); omega
  clear q0 q1 q2 q3 q4 q5 q6 q7 q8
  obtain ⟨q0, q1, q2, q3, q4, q5, q6, q7, q8⟩ := odd_cells B2.out
  clear hb
  go_wp2_with fail
  refine (RWidth_any op A c ws k n w2 (HA.out.below (below_box B2.out))).mono ?_
  rintro e w3 ⟨rfl, hb⟩
  have B3 := Lib.hid (show Below (W.alloc (.cells #[.int .i64 op, .int .i64 v, .int .i64 w, .slice A ws.length c, .slice B vs.length cb, .slice C num.length cn, .int .i64 k, .int .i64 n, .slice L bs.length cl] 26)).heap.size (W.alloc (.cells #[.int .i64 op, .int .i64 v, .int .i64 w, .slice A ws.length c, .slice B vs.length cb, .slice C num.length cn, .int .i64 k, .int .i64 n, .slice L bs.length cl] 26)) w3 from bel_call B2.out (by first | omega | (simp; omega) | simp) hb)
  have z3 : W.heap.size + 1 ≤ w3.heap.size := by have := B3.out.size; simpa using this
  have ne3 : w3.heap.size ≠ W.heap.size := by omega
  have lt3 : W.heap.size < w3.heap.size := by omega
  have nf3 : w3.heap.size + 1 ≠ W.heap.size := by omega
  have y3 : w2.heap.size ≤ w3.heap.size := by have := hb.size; (try simp at this); omega
  clear q0 q1 q2 q3 q4 q5 q6 q7 q8
  obtain ⟨q0, q1, q2, q3, q4, q5, q6, q7, q8⟩ := odd_cells B3.out
  clear hb
  go_wp2_with fail
  refine (Apply_any op A B C c cb cn ws vs num (w3.alloc (.cells #[.int .i64 (width op ws k n), .int .i64 (err (width op ws k n))] 32)) (HA.out.below ((below_box B3.out).alloc (by first | omega | (simp; omega)) _)) (HB.out.below ((below_box B3.out).alloc (by first | omega | (simp; omega)) _)) (HC.out.below ((below_box B3.out).alloc (by first | omega | (simp; omega)) _))).mono ?_
  rintro e w4 ⟨rfl, hb⟩
  have B4 := Lib.hid (show Below (W.alloc (.cells #[.int .i64 op, .int .i64 v, .int .i64 w, .slice A ws.length c, .slice B vs.length cb, .slice C num.length cn, .int .i64 k, .int .i64 n, .slice L bs.length cl] 26)).heap.size (W.alloc (.cells #[.int .i64 op, .int .i64 v, .int .i64 w, .slice A ws.length c, .slice B vs.length cb, .slice C num.length cn, .int .i64 k, .int .i64 n, .slice L bs.length cl] 26)) w4 from bel_call (B3.out.alloc (by first | omega | (simp; omega) | simp) _) (by first | omega | (simp; omega) | simp) hb)
  have z4 : W.heap.size + 1 ≤ w4.heap.size := by have := B4.out.size; simpa using this
  have ne4 : w4.heap.size ≠ W.heap.size := by omega
  have lt4 : W.heap.size < w4.heap.size := by omega
  have nf4 : w4.heap.size + 1 ≠ W.heap.size := by omega
  have y4 : w3.heap.size ≤ w4.heap.size := by have := hb.size; (try simp at this); omega
  have u0 : w4.cell? ⟨w3.heap.size, 0, none⟩ = some (.int .i64 (width op ws k n)) := late hb (by simp)
  have lu0 : w3.heap.size < w4.heap.size := by have := hb.size; (try simp at this); omega
  have u1 : w4.cell? ⟨w3.heap.size, 1, none⟩ = some (.int .i64 (err (width op ws k n))) := late hb (by simp)
  have lu1 : w3.heap.size < w4.heap.size := by have := hb.size; (try simp at this); omega
  clear q0 q1 q2 q3 q4 q5 q6 q7 q8
  obtain ⟨q0, q1, q2, q3, q4, q5, q6, q7, q8⟩ := odd_cells B4.out
  clear hb
  go_wp2_with fail
  refine (RApply_any op A B C c cb cn ws vs num w4 (HA.out.below (below_box B4.out)) (HB.out.below (below_box B4.out)) (HC.out.below (below_box B4.out))).mono ?_
  rintro e w5 ⟨rfl, hb⟩
  have B5 := Lib.hid (show Below (W.alloc (.cells #[.int .i64 op, .int .i64 v, .int .i64 w, .slice A ws.length c, .slice B vs.length cb, .slice C num.length cn, .int .i64 k, .int .i64 n, .slice L bs.length cl] 26)).heap.size (W.alloc (.cells #[.int .i64 op, .int .i64 v, .int .i64 w, .slice A ws.length c, .slice B vs.length cb, .slice C num.length cn, .int .i64 k, .int .i64 n, .slice L bs.length cl] 26)) w5 from bel_call B4.out (by first | omega | (simp; omega) | simp) hb)
  have z5 : W.heap.size + 1 ≤ w5.heap.size := by have := B5.out.size; simpa using this
  have ne5 : w5.heap.size ≠ W.heap.size := by omega
  have lt5 : W.heap.size < w5.heap.size := by omega
  have nf5 : w5.heap.size + 1 ≠ W.heap.size := by omega
  have y5 : w4.heap.size ≤ w5.heap.size := by have := hb.size; (try simp at this); omega
  replace u0 : w5.cell? ⟨w3.heap.size, 0, none⟩ = some (.int .i64 (width op ws k n)) := late hb (by simp [u0, World.cell?_alloc_some])
  replace u1 : w5.cell? ⟨w3.heap.size, 1, none⟩ = some (.int .i64 (err (width op ws k n))) := late hb (by simp [u1, World.cell?_alloc_some])
  clear q0 q1 q2 q3 q4 q5 q6 q7 q8
  obtain ⟨q0, q1, q2, q3, q4, q5, q6, q7, q8⟩ := odd_cells B5.out
  clear hb
  go_wp2_with fail
  refine (Apply_any op A B (some ⟨w5.heap.size + 1, 0, none⟩) c cb 2 ws vs [k, n] ((w5.alloc (.cells #[.int .i64 (app op ws vs num), .int .i64 (appErr op ws vs num)] 32)).alloc (.cells #[.int .i64 k, .int .i64 n] 3)) (HA.out.below (((below_box B5.out).alloc (by first | omega | (simp; omega)) _).alloc (by first | omega | (simp; omega)) _)) (HB.out.below (((below_box B5.out).alloc (by first | omega | (simp; omega)) _).alloc (by first | omega | (simp; omega)) _)) (rd_at2 (by simp))).mono ?_
  rintro e w6 ⟨rfl, hb⟩
  have B6 := Lib.hid (show Below (W.alloc (.cells #[.int .i64 op, .int .i64 v, .int .i64 w, .slice A ws.length c, .slice B vs.length cb, .slice C num.length cn, .int .i64 k, .int .i64 n, .slice L bs.length cl] 26)).heap.size (W.alloc (.cells #[.int .i64 op, .int .i64 v, .int .i64 w, .slice A ws.length c, .slice B vs.length cb, .slice C num.length cn, .int .i64 k, .int .i64 n, .slice L bs.length cl] 26)) w6 from bel_call ((B5.out.alloc (by first | omega | (simp; omega) | simp) _).alloc (by first | omega | (simp; omega) | simp) _) (by first | omega | (simp; omega) | simp) hb)
  have z6 : W.heap.size + 1 ≤ w6.heap.size := by have := B6.out.size; simpa using this
  have ne6 : w6.heap.size ≠ W.heap.size := by omega
  have lt6 : W.heap.size < w6.heap.size := by omega
  have nf6 : w6.heap.size + 1 ≠ W.heap.size := by omega
  have y6 : w5.heap.size ≤ w6.heap.size := by have := hb.size; (try simp at this); omega
  have v0 : w6.cell? ⟨w5.heap.size, 0, none⟩ = some (.int .i64 (app op ws vs num)) := late hb (by simp)
  have lv0 : w5.heap.size < w6.heap.size := by have := hb.size; (try simp at this); omega
  have v1 : w6.cell? ⟨w5.heap.size, 1, none⟩ = some (.int .i64 (appErr op ws vs num)) := late hb (by simp)
  have lv1 : w5.heap.size < w6.heap.size := by have := hb.size; (try simp at this); omega
  replace u0 : w6.cell? ⟨w3.heap.size, 0, none⟩ = some (.int .i64 (width op ws k n)) := late hb (by simp [u0, World.cell?_alloc_some])
  replace u1 : w6.cell? ⟨w3.heap.size, 1, none⟩ = some (.int .i64 (err (width op ws k n))) := late hb (by simp [u1, World.cell?_alloc_some])
  clear q0 q1 q2 q3 q4 q5 q6 q7 q8
  obtain ⟨q0, q1, q2, q3, q4, q5, q6, q7, q8⟩ := odd_cells B6.out
  clear hb
  go_wp2_with fail
  refine (RApply_any op A B (some ⟨w6.heap.size, 0, none⟩) c cb 2 ws vs [k, n] (w6.alloc (.cells #[.int .i64 k, .int .i64 n] 3)) (HA.out.below ((below_box B6.out).alloc (by first | omega | (simp; omega)) _)) (HB.out.below ((below_box B6.out).alloc (by first | omega | (simp; omega)) _)) (rd_at2 rfl)).mono ?_
  rintro e w7 ⟨rfl, hb⟩
  have B7 := Lib.hid (show Below (W.alloc (.cells #[.int .i64 op, .int .i64 v, .int .i64 w, .slice A ws.length c, .slice B vs.length cb, .slice C num.length cn, .int .i64 k, .int .i64 n, .slice L bs.length cl] 26)).heap.size (W.alloc (.cells #[.int .i64 op, .int .i64 v, .int .i64 w, .slice A ws.length c, .slice B vs.length cb, .slice C num.length cn, .int .i64 k, .int .i64 n, .slice L bs.length cl] 26)) w7 from bel_call (B6.out.alloc (by first | omega | (simp; omega) | simp) _) (by first | omega | (simp; omega) | simp) hb)
  have z7 : W.heap.size + 1 ≤ w7.heap.size := by have := B7.out.size; simpa using this
  have ne7 : w7.heap.size ≠ W.heap.size := by omega
  have lt7 : W.heap.size < w7.heap.size := by omega
  have nf7 : w7.heap.size + 1 ≠ W.heap.size := by omega
  have y7 : w6.heap.size ≤ w7.heap.size := by have := hb.size; (try simp at this); omega
  replace u0 : w7.cell? ⟨w3.heap.size, 0, none⟩ = some (.int .i64 (width op ws k n)) := late hb (by simp [u0, World.cell?_alloc_some])
  replace u1 : w7.cell? ⟨w3.heap.size, 1, none⟩ = some (.int .i64 (err (width op ws k n))) := late hb (by simp [u1, World.cell?_alloc_some])
  replace v0 : w7.cell? ⟨w5.heap.size, 0, none⟩ = some (.int .i64 (app op ws vs num)) := late hb (by simp [v0, World.cell?_alloc_some])
  replace v1 : w7.cell? ⟨w5.heap.size, 1, none⟩ = some (.int .i64 (appErr op ws vs num)) := late hb (by simp [v1, World.cell?_alloc_some])
  clear q0 q1 q2 q3 q4 q5 q6 q7 q8
  obtain ⟨q0, q1, q2, q3, q4, q5, q6, q7, q8⟩ := odd_cells B7.out
  clear hb
  go_wp2_with fail
  have m1 : w7.heap.size ≠ w3.heap.size := by omega
  have m2 : w7.heap.size ≠ w5.heap.size := by omega
  have g0 : (w7.alloc (.cells #[.int .i64 (app op ws vs [k, n]), .int .i64 (appErr op ws vs [k, n])] 32)).cell? ⟨w3.heap.size, 0, none⟩ = some (.int .i64 (width op ws k n)) := by simp [go_sem, m1, m2, ne7, World.cell?_alloc_some, u0]
  have g1 : (w7.alloc (.cells #[.int .i64 (app op ws vs [k, n]), .int .i64 (appErr op ws vs [k, n])] 32)).cell? ⟨w3.heap.size, 1, none⟩ = some (.int .i64 (err (width op ws k n))) := by simp [go_sem, m1, m2, ne7, World.cell?_alloc_some, u1]
  have g2 : (w7.alloc (.cells #[.int .i64 (app op ws vs [k, n]), .int .i64 (appErr op ws vs [k, n])] 32)).cell? ⟨w5.heap.size, 0, none⟩ = some (.int .i64 (app op ws vs num)) := by simp [go_sem, m1, m2, ne7, World.cell?_alloc_some, v0]
  have g3 : (w7.alloc (.cells #[.int .i64 (app op ws vs [k, n]), .int .i64 (appErr op ws vs [k, n])] 32)).cell? ⟨w5.heap.size, 1, none⟩ = some (.int .i64 (appErr op ws vs num)) := by simp [go_sem, m1, m2, ne7, World.cell?_alloc_some, v1]
  have g4 : (w7.alloc (.cells #[.int .i64 (app op ws vs [k, n]), .int .i64 (appErr op ws vs [k, n])] 32)).cell? ⟨w7.heap.size, 0, none⟩ = some (.int .i64 (app op ws vs [k, n])) := by simp [go_sem]
  have g5 : (w7.alloc (.cells #[.int .i64 (app op ws vs [k, n]), .int .i64 (appErr op ws vs [k, n])] 32)).cell? ⟨w7.heap.size, 1, none⟩ = some (.int .i64 (appErr op ws vs [k, n])) := by simp [go_sem]
  have g6 : (w7.alloc (.cells #[.int .i64 (app op ws vs [k, n]), .int .i64 (appErr op ws vs [k, n])] 32)).cell? ⟨W.heap.size, 1, none⟩ = some (.int .i64 v) := by simp [go_sem, m1, m2, ne7, World.cell?_alloc_some, q1]
  have g7 : (w7.alloc (.cells #[.int .i64 (app op ws vs [k, n]), .int .i64 (appErr op ws vs [k, n])] 32)).cell? ⟨W.heap.size, 2, none⟩ = some (.int .i64 w) := by simp [go_sem, m1, m2, ne7, World.cell?_alloc_some, q2]
  have g8 : (w7.alloc (.cells #[.int .i64 (app op ws vs [k, n]), .int .i64 (appErr op ws vs [k, n])] 32)).cell? ⟨W.heap.size, 8, none⟩ = some (.slice L bs.length cl) := by simp [go_sem, m1, m2, ne7, World.cell?_alloc_some, q8]
  have BX := Lib.hid (show Below (W.alloc (.cells #[.int .i64 op, .int .i64 v, .int .i64 w, .slice A ws.length c, .slice B vs.length cb, .slice C num.length cn, .int .i64 k, .int .i64 n, .slice L bs.length cl] 26)).heap.size (W.alloc (.cells #[.int .i64 op, .int .i64 v, .int .i64 w, .slice A ws.length c, .slice B vs.length cb, .slice C num.length cn, .int .i64 k, .int .i64 n, .slice L bs.length cl] 26)) (w7.alloc (.cells #[.int .i64 (app op ws vs [k, n]), .int .i64 (appErr op ws vs [k, n])] 32)) from B7.out.alloc (by first | omega | (simp; omega) | simp) _)
  generalize (w7.alloc (.cells #[.int .i64 (app op ws vs [k, n]), .int .i64 (appErr op ws vs [k, n])] 32)) = X at *
  simp only [List.append_eq, List.cons_append, List.nil_append]
  clear d0 d1 d2 d3 HA HB HC m1 m2 u0 u1 v0 v1 q0 q1 q2 q3 q4 q5 q6 q7 q8 lu0 lu1 lv0 lv1 B1 B2 B3 B4 B5 B6 B7 z1 z2 z3 z4 z5 z6 z7 ne2 lt2 nf2 y2 ne3 lt3 nf3 y3 ne4 lt4 nf4 y4 ne5 lt5 nf5 y5 ne6 lt6 nf6 y6 ne7 lt7 nf7 y7
  generalize width op ws k n = a1 at *
  generalize err a1 = a2 at *
  generalize app op ws vs num = a3 at *
  generalize appErr op ws vs num = a4 at *
  generalize app op ws vs [k, n] = a5 at *
  generalize appErr op ws vs [k, n] = a6 at *
  generalize w3.heap.size = p3 at *
  generalize w5.heap.size = p5 at *
  generalize w7.heap.size = p7 at *
  go_region_held3 (fun w' => w'.cell? ⟨p3, 0, none⟩ = some (.int .i64 a1) ∧ w'.cell? ⟨p3, 1, none⟩ = some (.int .i64 a2) ∧ w'.cell? ⟨p5, 0, none⟩ = some (.int .i64 a3) ∧ w'.cell? ⟨p5, 1, none⟩ = some (.int .i64 a4) ∧ w'.cell? ⟨p7, 0, none⟩ = some (.int .i64 a5) ∧ w'.cell? ⟨p7, 1, none⟩ = some (.int .i64 a6) ∧ w'.cell? ⟨W.heap.size, 1, none⟩ = some (.int .i64 v) ∧ w'.cell? ⟨W.heap.size, 2, none⟩ = some (.int .i64 w) ∧ w'.cell? ⟨W.heap.size, 8, none⟩ = some (.slice L bs.length cl)) (first | (simp [i0, i1, i2, i3, i4, i5, i6, i7, i8]; done) | (simp [h0, h1, h2, h3, h4, h5, h6, h7, h8]; done) | (simp [g0, g1, g2, g3, g4, g5, g6, g7, g8]; done)) (first | (go_at_call 14; refine (Mask_any _ _).mono ?_; rintro e w' ⟨rfl, rfl⟩) | (go_at_call 15; refine (RMask_any _ _).mono ?_; rintro e w' ⟨rfl, rfl⟩) | (go_at_call 17; refine (Split_any _ _ _ HV.out).mono ?_; rintro e w8 ⟨⟨S1, c1, rfl, rs1, cs1⟩, hb8⟩; have B8 := Lib.hid (bel_call (B := (W.alloc (.cells #[.int .i64 op, .int .i64 v, .int .i64 w, .slice A ws.length c, .slice B vs.length cb, .slice C num.length cn, .int .i64 k, .int .i64 n, .slice L bs.length cl] 26)).heap.size) (W := (W.alloc (.cells #[.int .i64 op, .int .i64 v, .int .i64 w, .slice A ws.length c, .slice B vs.length cb, .slice C num.length cn, .int .i64 k, .int .i64 n, .slice L bs.length cl] 26))) (by repeat (first | exact BX.out | refine Below.drew ?_ | refine Below_drewN2 ?_ _)) (by have := BX.out.size; simp at *; omega) hb8); have h0 := late hb8 (p := ⟨p3, 0, none⟩) (v := .int .i64 a1) (by simp [g0]); have h1 := late hb8 (p := ⟨p3, 1, none⟩) (v := .int .i64 a2) (by simp [g1]); have h2 := late hb8 (p := ⟨p5, 0, none⟩) (v := .int .i64 a3) (by simp [g2]); have h3 := late hb8 (p := ⟨p5, 1, none⟩) (v := .int .i64 a4) (by simp [g3]); have h4 := late hb8 (p := ⟨p7, 0, none⟩) (v := .int .i64 a5) (by simp [g4]); have h5 := late hb8 (p := ⟨p7, 1, none⟩) (v := .int .i64 a6) (by simp [g5]); have h6 := late hb8 (p := ⟨W.heap.size, 1, none⟩) (v := .int .i64 v) (by simp [g6]); have h7 := late hb8 (p := ⟨W.heap.size, 2, none⟩) (v := .int .i64 w) (by simp [g7]); have h8 := late hb8 (p := ⟨W.heap.size, 8, none⟩) (v := .slice L bs.length cl) (by simp [g8]); clear hb8) | (go_at_call 18; refine (RSplit_any _ _ _ HV.out).mono ?_; rintro e w9 ⟨⟨S2, c2, rfl, rs2, cs2⟩, hb9⟩; have B9 := Lib.hid (bel_call (B := (W.alloc (.cells #[.int .i64 op, .int .i64 v, .int .i64 w, .slice A ws.length c, .slice B vs.length cb, .slice C num.length cn, .int .i64 k, .int .i64 n, .slice L bs.length cl] 26)).heap.size) (W := (W.alloc (.cells #[.int .i64 op, .int .i64 v, .int .i64 w, .slice A ws.length c, .slice B vs.length cb, .slice C num.length cn, .int .i64 k, .int .i64 n, .slice L bs.length cl] 26))) (by repeat (first | exact B8.out | refine Below.drew ?_ | refine Below_drewN2 ?_ _)) (by have := B8.out.size; simp at *; omega) hb9); have i0 := late hb9 (p := ⟨p3, 0, none⟩) (v := .int .i64 a1) (by simp [h0]); have i1 := late hb9 (p := ⟨p3, 1, none⟩) (v := .int .i64 a2) (by simp [h1]); have i2 := late hb9 (p := ⟨p5, 0, none⟩) (v := .int .i64 a3) (by simp [h2]); have i3 := late hb9 (p := ⟨p5, 1, none⟩) (v := .int .i64 a4) (by simp [h3]); have i4 := late hb9 (p := ⟨p7, 0, none⟩) (v := .int .i64 a5) (by simp [h4]); have i5 := late hb9 (p := ⟨p7, 1, none⟩) (v := .int .i64 a6) (by simp [h5]); have i6 := late hb9 (p := ⟨W.heap.size, 1, none⟩) (v := .int .i64 v) (by simp [h6]); have i7 := late hb9 (p := ⟨W.heap.size, 2, none⟩) (v := .int .i64 w) (by simp [h7]); have i8 := late hb9 (p := ⟨W.heap.size, 8, none⟩) (v := .slice L bs.length cl) (by simp [h8]); have rs3 := rs1.below hb9; clear hb9) | (go_at_call 16; refine (Bools_any _ _ _ _ _ _ _ rs3 rs2).mono ?_; rintro e w' ⟨rfl, q, rfl⟩) | (go_at_call 19; refine (Join_any _ _ _ _ (HL.out.below (by repeat (first | exact below_box B9.out | refine Below.drew ?_ | refine Below_drewN2 ?_ _))) HCAP.out).mono ?_; rintro e w' ⟨rfl, rfl⟩) | (go_at_call 20; refine (RJoin_any _ _ _ _ (HL.out.below (by repeat (first | exact below_box B9.out | refine Below.drew ?_ | refine Below_drewN2 ?_ _)))).mono ?_; rintro e w' ⟨rfl, rfl⟩))
  go_wp2
  go_ret
  exact ⟨rfl, Below_drewN2 (below_box B9.out) q⟩
theorem match_any (op v w k n : Int) (A B C L : Option Addr) (c cb cn cl : Nat) (ws vs num : List Int) (bs : List Bool) (W : World) (hr : Rd W A ws) (hs : Rd W B vs) (hn : Rd W C num) (hl : RdB W L bs) (hcap : bs.length ≤ cl) (hv : -9223372036854775808 ≤ v ∧ v ≤ 9223372036854775807) :
    Calls Try.prog 3 #[.agg #[.int .i64 op, .int .i64 v, .int .i64 w, .slice A ws.length c, .slice B vs.length cb, .slice C num.length cn, .int .i64 k, .int .i64 n, .slice L bs.length cl]] W fun e W' => e = .returned (.bool true) ∧ Below W.heap.size W W' := by
  rcases Decidable.em (80 < ws.length) with h0 | h0
  · exact match_long0 op v w k n A B C L c cb cn cl ws vs num bs W h0
  replace h0 : ws.length ≤ 80 := by omega
  rcases Decidable.em (80 < vs.length) with h1 | h1
  · exact match_long1 op v w k n A B C L c cb cn cl ws vs num bs W h0 h1
  replace h1 : vs.length ≤ 80 := by omega
  rcases Decidable.em (80 < num.length) with h2 | h2
  · exact match_long2 op v w k n A B C L c cb cn cl ws vs num bs W h0 h1 h2
  replace h2 : num.length ≤ 80 := by omega
  rcases Decidable.em (80 < bs.length) with h3 | h3
  · exact match_long3 op v w k n A B C L c cb cn cl ws vs num bs W h0 h1 h2 h3
  replace h3 : bs.length ≤ 80 := by omega
  exact match_short op v w k n A B C L c cb cn cl ws vs num bs W h0 h1 h2 h3 hr hs hn hl hcap hv
end Bt
end Go.Proofs.Ytpblhbagjmnmpaa
