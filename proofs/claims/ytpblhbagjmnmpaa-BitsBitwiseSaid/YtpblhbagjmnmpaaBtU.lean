/- The law BitsArithmetic returns true and leaves what was there as it was. Conditions: the arguments are of their kinds. -/
import Derived.Test.YtpblhbagjmnmpaaBtS
import Derived.Test.YtpblhbagjmnmpaaBtT
set_option linter.unusedVariables false
set_option linter.unusedSimpArgs false
namespace Go.Proofs.Ytpblhbagjmnmpaa
open Go Go.RowKit
open Go.MapKept
namespace Bt

theorem u8_range {a : Int} (h : (Lit.int .u8 a).wf = true) : 0 ≤ a ∧ a ≤ 255 := by
  simp only [Lit.wf, Bool.and_eq_true, decide_eq_true_eq] at h
  exact h
theorem and_val {N a : Int} (fN : fit N = true) (ha : 0 ≤ a ∧ a ≤ 255) : 0 ≤ Go.bits .and .i64 a (mask N) ∧ Go.bits .and .i64 a (mask N) ≤ mask N := by
  have hm := mask_le fN
  rw [and_low fN (by omega) (by omega)]
  have := Int.emod_nonneg a (show mask N + 1 ≠ 0 by omega)
  have := Int.emod_lt_of_pos a (show 0 < mask N + 1 by omega)
  omega

set_option maxHeartbeats 2000000 in
theorem arith_law (a b w : Int) (ha : 0 ≤ a ∧ a ≤ 255) (hb0 : 0 ≤ b ∧ b ≤ 255) (hw : 0 ≤ w ∧ w ≤ 255) (W : World) :
    Calls Try.prog 5 #[.int .u8 a, .int .u8 b, .int .u8 w] W fun e W' => e = .returned (.bool true) ∧ Below W.heap.size W W' := by
  obtain ⟨N, hN⟩ : ∃ N, 1 + w % 8 = N := ⟨_, rfl⟩
  have bN : 1 ≤ N ∧ N ≤ 8 := by omega
  have fN := fit_iff.2 bN
  have bx := and_val fN ha
  have by_ := and_val fN hb0
  obtain ⟨x, ex⟩ : ∃ x, Go.bits .and .i64 a (mask N) = x := ⟨_, rfl⟩
  obtain ⟨y, ey⟩ : ∃ y, Go.bits .and .i64 b (mask N) = y := ⟨_, rfl⟩
  rw [ex] at bx
  rw [ey] at by_
  obtain ⟨M, s, d, nx, ny, an, o, xo, t, an', o', eM, eP, bM, bs, bd, ban, bo, bxo, bnx, f1, f2, f3, f4, f5, f6, f7, f8, f9, f10, f11, f12, f13, f14, f15, f16, f17, f18, f19⟩ := arith_facts fN bx by_
  rw [eM] at ex ey bx by_
  have t1 : (nx + x != M) = false := by rw [bne_eq_false_iff_eq]; exact f17
  have t2 : (xo + an == o) = true := by rw [beq_iff_eq]; exact f19
  clear f17 f19 fN
  go_enter Try.func5, Try.ntmps5
  go_wp2_with fail
  refine (examples_any _).mono ?_
  rintro e w1 ⟨rfl, hb⟩
  have B1 := Lib.hid (show Below W.heap.size W w1 from bel_call (by repeat (first | exact Below.refl _ _ | refine Below.alloc ?_ (by first | omega | (simp; omega) | simp) _)) (by first | omega | (simp; omega) | simp) hb)
  have z1 := B1.out.size
  clear hb
  go_wp2_with fail
  refine (Mask_any _ _).mono ?_
  rintro e w' ⟨rfl, rfl⟩
  go_wp2_with fail
  refine (two_any 6 N x y _).mono ?_
  rintro e w2 ⟨rfl, hb⟩
  have B2 := Lib.hid (show Below W.heap.size W w2 from bel_call (by repeat (first | exact B1.out | refine Below.alloc ?_ (by first | omega | (simp; omega) | simp) _)) (by first | omega | (simp; omega) | simp) hb)
  have z2 := B2.out.size
  clear hb
  go_wp2_with fail
  refine (two_any 7 N x y _).mono ?_
  rintro e w3 ⟨rfl, hb⟩
  have B3 := Lib.hid (show Below W.heap.size W w3 from bel_call (by repeat (first | exact B2.out | refine Below.alloc ?_ (by first | omega | (simp; omega) | simp) _)) (by first | omega | (simp; omega) | simp) hb)
  have z3 := B3.out.size
  clear hb
  go_wp2_with fail
  refine (apply_any 2 _ _ 1 1 [N] [x] _ (rd_alloc (rd_at1 (by simp)) _) (rd_at1 (by simp))).mono ?_
  rintro e w4 ⟨rfl, hb⟩
  have B4 := Lib.hid (show Below W.heap.size W w4 from bel_call (by repeat (first | exact B3.out | refine Below.alloc ?_ (by first | omega | (simp; omega) | simp) _)) (by first | omega | (simp; omega) | simp) hb)
  have z4 := B4.out.size
  clear hb
  go_wp2_with fail
  refine (apply_any 2 _ _ 1 1 [N] [y] _ (rd_alloc (rd_at1 (by simp)) _) (rd_at1 (by simp))).mono ?_
  rintro e w5 ⟨rfl, hb⟩
  have B5 := Lib.hid (show Below W.heap.size W w5 from bel_call (by repeat (first | exact B4.out | refine Below.alloc ?_ (by first | omega | (simp; omega) | simp) _)) (by first | omega | (simp; omega) | simp) hb)
  have z5 := B5.out.size
  clear hb
  go_wp2_with fail
  refine (two_any 3 N x y _).mono ?_
  rintro e w6 ⟨rfl, hb⟩
  have B6 := Lib.hid (show Below W.heap.size W w6 from bel_call (by repeat (first | exact B5.out | refine Below.alloc ?_ (by first | omega | (simp; omega) | simp) _)) (by first | omega | (simp; omega) | simp) hb)
  have z6 := B6.out.size
  clear hb
  go_wp2_with fail
  refine (two_any 4 N x y _).mono ?_
  rintro e w7 ⟨rfl, hb⟩
  have B7 := Lib.hid (show Below W.heap.size W w7 from bel_call (by repeat (first | exact B6.out | refine Below.alloc ?_ (by first | omega | (simp; omega) | simp) _)) (by first | omega | (simp; omega) | simp) hb)
  have z7 := B7.out.size
  clear hb
  go_wp2_with fail
  refine (two_any 5 N x y _).mono ?_
  rintro e w8 ⟨rfl, hb⟩
  have B8 := Lib.hid (show Below W.heap.size W w8 from bel_call (by repeat (first | exact B7.out | refine Below.alloc ?_ (by first | omega | (simp; omega) | simp) _)) (by first | omega | (simp; omega) | simp) hb)
  have z8 := B8.out.size
  clear hb
  go_wp2_with fail
  refine (two_any 7 N s y _).mono ?_
  rintro e w9 ⟨rfl, hb⟩
  have B9 := Lib.hid (show Below W.heap.size W w9 from bel_call (by repeat (first | exact B8.out | refine Below.alloc ?_ (by first | omega | (simp; omega) | simp) _)) (by first | omega | (simp; omega) | simp) hb)
  have z9 := B9.out.size
  clear hb
  go_wp2_with fail
  refine (two_any 6 N d y _).mono ?_
  rintro e w10 ⟨rfl, hb⟩
  have B10 := Lib.hid (show Below W.heap.size W w10 from bel_call (by repeat (first | exact B9.out | refine Below.alloc ?_ (by first | omega | (simp; omega) | simp) _)) (by first | omega | (simp; omega) | simp) hb)
  have z10 := B10.out.size
  clear hb
  go_wp2_with fail
  refine (two_any 6 N y x _).mono ?_
  rintro e w11 ⟨rfl, hb⟩
  have B11 := Lib.hid (show Below W.heap.size W w11 from bel_call (by repeat (first | exact B10.out | refine Below.alloc ?_ (by first | omega | (simp; omega) | simp) _)) (by first | omega | (simp; omega) | simp) hb)
  have z11 := B11.out.size
  clear hb
  go_wp2_with fail
  refine (two_any 6 N x ny _).mono ?_
  rintro e w12 ⟨rfl, hb⟩
  have B12 := Lib.hid (show Below W.heap.size W w12 from bel_call (by repeat (first | exact B11.out | refine Below.alloc ?_ (by first | omega | (simp; omega) | simp) _)) (by first | omega | (simp; omega) | simp) hb)
  have z12 := B12.out.size
  clear hb
  go_wp2_with fail
  refine (two_any 6 N t 1 _).mono ?_
  rintro e w13 ⟨rfl, hb⟩
  have B13 := Lib.hid (show Below W.heap.size W w13 from bel_call (by repeat (first | exact B12.out | refine Below.alloc ?_ (by first | omega | (simp; omega) | simp) _)) (by first | omega | (simp; omega) | simp) hb)
  have z13 := B13.out.size
  clear hb
  go_wp2_with fail
  refine (apply_any 2 _ _ 1 1 [N] [an] _ (rd_alloc (rd_at1 (by simp)) _) (rd_at1 (by simp))).mono ?_
  rintro e w14 ⟨rfl, hb⟩
  have B14 := Lib.hid (show Below W.heap.size W w14 from bel_call (by repeat (first | exact B13.out | refine Below.alloc ?_ (by first | omega | (simp; omega) | simp) _)) (by first | omega | (simp; omega) | simp) hb)
  have z14 := B14.out.size
  clear hb
  go_wp2_with fail
  refine (two_any 4 N nx ny _).mono ?_
  rintro e w15 ⟨rfl, hb⟩
  have B15 := Lib.hid (show Below W.heap.size W w15 from bel_call (by repeat (first | exact B14.out | refine Below.alloc ?_ (by first | omega | (simp; omega) | simp) _)) (by first | omega | (simp; omega) | simp) hb)
  have z15 := B15.out.size
  clear hb
  go_wp2_with fail
  refine (apply_any 2 _ _ 1 1 [N] [o] _ (rd_alloc (rd_at1 (by simp)) _) (rd_at1 (by simp))).mono ?_
  rintro e w16 ⟨rfl, hb⟩
  have B16 := Lib.hid (show Below W.heap.size W w16 from bel_call (by repeat (first | exact B15.out | refine Below.alloc ?_ (by first | omega | (simp; omega) | simp) _)) (by first | omega | (simp; omega) | simp) hb)
  have z16 := B16.out.size
  clear hb
  go_wp2_with fail
  refine (two_any 3 N nx ny _).mono ?_
  rintro e w17 ⟨rfl, hb⟩
  have B17 := Lib.hid (show Below W.heap.size W w17 from bel_call (by repeat (first | exact B16.out | refine Below.alloc ?_ (by first | omega | (simp; omega) | simp) _)) (by first | omega | (simp; omega) | simp) hb)
  have z17 := B17.out.size
  clear hb
  go_wp2_with fail
  go_ret
  exact ⟨rfl, B17.out⟩
end Bt
end Go.Proofs.Ytpblhbagjmnmpaa
