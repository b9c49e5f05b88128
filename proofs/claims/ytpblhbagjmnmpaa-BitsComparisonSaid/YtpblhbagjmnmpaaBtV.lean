/- The law BitsComparison returns true and leaves what was there as it was. Conditions: the arguments are of their kinds. -/
import Derived.Test.YtpblhbagjmnmpaaBtU
set_option linter.unusedVariables false
set_option linter.unusedSimpArgs false
namespace Go.Proofs.Ytpblhbagjmnmpaa
open Go Go.RowKit
open Go.MapKept
namespace Bt

theorem mask_step {N : Int} (bN : 1 ≤ N ∧ N ≤ 7) : mask (N + 1) = 2 * mask N + 1 := by
  have h1 := mask_pow (fit_iff.2 ⟨by omega, by omega⟩ : fit N = true)
  have h2 := mask_pow (fit_iff.2 ⟨by omega, by omega⟩ : fit (N + 1) = true)
  have e : (N + 1).toNat = N.toNat + 1 := by omega
  rw [e, Int.pow_succ] at h2
  omega
theorem comp_facts {N x y : Int} (bN : 1 ≤ N ∧ N ≤ 7) (hx : 0 ≤ x ∧ x ≤ mask N) (hy : 0 ≤ y ∧ y ≤ mask N) :
    ∃ M l e m d : Int, mask N = M ∧ (1 ≤ M ∧ M ≤ 255) ∧ (0 ≤ l ∧ l ≤ 1) ∧ (0 ≤ e ∧ e ≤ 1) ∧ (0 ≤ m ∧ m ≤ 1) ∧ res 9 [N, N] [x, y] [0, 0] = l ∧ res 8 [N, N] [x, y] [0, 0] = e ∧ res 9 [N, N] [y, x] [0, 0] = m ∧
      res 13 [N] [x] [0, N + 1] = x ∧ res 13 [N] [y] [0, N + 1] = y ∧ res 7 [N + 1, N + 1] [x, y] [0, 0] = d ∧ res 12 [N + 1] [d] [N, 1] = l ∧
      (l + e + m == 1) = true ∧ ((e == 1) == (x == y)) = true ∧ ((l == 1) == decide (x < y)) = true := by
  have fN : fit N = true := fit_iff.2 ⟨by omega, by omega⟩
  have fN1 : fit (N + 1) = true := fit_iff.2 ⟨by omega, by omega⟩
  have hs := mask_step bN
  have hm := mask_le fN
  have hx1 : 0 ≤ x ∧ x ≤ mask (N + 1) := by omega
  have hy1 : 0 ≤ y ∧ y ≤ mask (N + 1) := by omega
  have hp := mask_pow fN
  have r7 : res 7 [N + 1, N + 1] [x, y] [0, 0] = if x - y + mask (N + 1) + 1 < mask (N + 1) + 1 then x - y + mask (N + 1) + 1 else x - y + mask (N + 1) + 1 - (mask (N + 1) + 1) :=
    (res2 (by decide) (by decide) fN1 hx1 hy1).trans (mod_low (v := x - y + mask (N + 1) + 1) (K := mask (N + 1) + 1) (by omega) (by omega))
  obtain ⟨d, ed⟩ : ∃ d, res 7 [N + 1, N + 1] [x, y] [0, 0] = d := ⟨_, rfl⟩
  rw [ed] at r7
  have bd : 0 ≤ d ∧ d ≤ mask (N + 1) := by split at r7 <;> omega
  have e9 : res 9 [N, N] [x, y] [0, 0] = b2i (decide (x < y)) := res2 (by decide) (by decide) fN hx hy
  have e9' : res 9 [N, N] [y, x] [0, 0] = b2i (decide (y < x)) := res2 (by decide) (by decide) fN hy hx
  have e8 : res 8 [N, N] [x, y] [0, 0] = b2i (x == y) := res2 (by decide) (by decide) fN hx hy
  have hsl : res 12 [N + 1] [d] [N, 1] = d / (mask N + 1) % 2 := by
    rw [resSlice fN1 bd (by rfl) (by omega) (by omega), and_low (by rfl) (by have := Int.ediv_nonneg bd.1 (show 0 ≤ 2 ^ N.toNat by omega); omega) ?_, hp]
    · rfl
    · have := Int.ediv_le_self (2 ^ N.toNat) bd.1; have := mask_le fN1; omega
  have hq : d / (mask N + 1) = if x < y then 1 else 0 := by
    by_cases h : x < y
    · rw [if_pos h]
      rw [if_pos (by omega)] at r7
      have : d = (d - (mask N + 1)) + 1 * (mask N + 1) := by omega
      rw [this, Int.add_mul_ediv_right _ _ (by omega), Int.ediv_eq_zero_of_lt (by omega) (by omega)]
      rfl
    · rw [if_neg h]
      rw [if_neg (by omega)] at r7
      exact Int.ediv_eq_zero_of_lt (by omega) (by omega)
  refine ⟨mask N, b2i (decide (x < y)), b2i (x == y), b2i (decide (y < x)), d, rfl, hm, b2i_range _, b2i_range _, b2i_range _, e9, e8, e9', resExt fN hx fN1 (by omega), resExt fN hy fN1 (by omega), ed, ?_, ?_, ?_, ?_⟩
  · rw [hsl, hq]; by_cases h : x < y <;> simp [h, b2i]
  · rcases Int.lt_trichotomy x y with h | h | h
    · have h2 : ¬ y < x := by omega
      have h3 : ¬ x = y := by omega
      simp [h, h2, h3, b2i]
    · subst h; simp [b2i]
    · have h2 : ¬ x < y := by omega
      have h3 : ¬ x = y := by omega
      simp [h, h2, h3, b2i]
  · by_cases h : x = y <;> simp [h, b2i]
  · by_cases h : x < y <;> simp [h, b2i]

set_option maxHeartbeats 2000000 in
theorem comp_law (a b w : Int) (ha : 0 ≤ a ∧ a ≤ 255) (hb0 : 0 ≤ b ∧ b ≤ 255) (hw : 0 ≤ w ∧ w ≤ 255) (W : World) :
    Calls Try.prog 7 #[.int .u8 a, .int .u8 b, .int .u8 w] W fun e W' => e = .returned (.bool true) ∧ Below W.heap.size W W' := by
  obtain ⟨N, hN⟩ : ∃ N, 1 + w % 7 = N := ⟨_, rfl⟩
  have bN : 1 ≤ N ∧ N ≤ 7 := by omega
  have fN : fit N = true := fit_iff.2 (by omega)
  have bx := and_val fN ha
  have by_ := and_val fN hb0
  obtain ⟨x, ex⟩ : ∃ x, Go.bits .and .i64 a (mask N) = x := ⟨_, rfl⟩
  obtain ⟨y, ey⟩ : ∃ y, Go.bits .and .i64 b (mask N) = y := ⟨_, rfl⟩
  rw [ex] at bx
  rw [ey] at by_
  obtain ⟨M, l, e0, m, d, eM, bM, bl, be, bm, f1, f2, f3, f4, f5, f6, f7, t1, t2, t3⟩ := comp_facts bN bx by_
  rw [eM] at ex ey bx by_
  have d1 : decide (0 ≤ l) = true := decide_eq_true bl.1
  have d2 : decide (0 ≤ e0) = true := decide_eq_true be.1
  have d3 : decide (0 ≤ m) = true := decide_eq_true bm.1
  clear fN
  go_enter Try.func7, Try.ntmps7
  go_wp2_with fail
  refine (examples_any _).mono ?_
  rintro e w1 ⟨rfl, hb⟩
  have B1 := Lib.hid (show Below W.heap.size W w1 from bel_call (by repeat (first | exact Below.refl _ _ | refine Below.alloc ?_ (by first | omega | (simp; omega) | simp) _)) (by first | omega | (simp; omega) | simp) hb)
  have z1 := B1.out.size
  clear hb
  go_wp2_with fail
  refine (Mask_any _ _).mono ?_
  rintro e w' ⟨rfl, rfl⟩
  go_wp2_with fail
  refine (Mask_any _ _).mono ?_
  rintro e w' ⟨rfl, rfl⟩
  go_wp2_with fail
  refine (two_any 9 N x y _).mono ?_
  rintro e w2 ⟨rfl, hb⟩
  have B2 := Lib.hid (show Below W.heap.size W w2 from bel_call (by repeat (first | exact B1.out | refine Below.alloc ?_ (by first | omega | (simp; omega) | simp) _)) (by first | omega | (simp; omega) | simp) hb)
  have z2 := B2.out.size
  clear hb
  go_wp2_with fail
  refine (two_any 8 N x y _).mono ?_
  rintro e w3 ⟨rfl, hb⟩
  have B3 := Lib.hid (show Below W.heap.size W w3 from bel_call (by repeat (first | exact B2.out | refine Below.alloc ?_ (by first | omega | (simp; omega) | simp) _)) (by first | omega | (simp; omega) | simp) hb)
  have z3 := B3.out.size
  clear hb
  go_wp2_with fail
  refine (two_any 9 N y x _).mono ?_
  rintro e w4 ⟨rfl, hb⟩
  have B4 := Lib.hid (show Below W.heap.size W w4 from bel_call (by repeat (first | exact B3.out | refine Below.alloc ?_ (by first | omega | (simp; omega) | simp) _)) (by first | omega | (simp; omega) | simp) hb)
  have z4 := B4.out.size
  clear hb
  go_wp2_with fail
  refine (extended_any x N (N + 1) _).mono ?_
  rintro e w5 ⟨rfl, hb⟩
  have B5 := Lib.hid (show Below W.heap.size W w5 from bel_call (by repeat (first | exact B4.out | refine Below.alloc ?_ (by first | omega | (simp; omega) | simp) _)) (by first | omega | (simp; omega) | simp) hb)
  have z5 := B5.out.size
  clear hb
  go_wp2_with fail
  refine (extended_any y N (N + 1) _).mono ?_
  rintro e w6 ⟨rfl, hb⟩
  have B6 := Lib.hid (show Below W.heap.size W w6 from bel_call (by repeat (first | exact B5.out | refine Below.alloc ?_ (by first | omega | (simp; omega) | simp) _)) (by first | omega | (simp; omega) | simp) hb)
  have z6 := B6.out.size
  clear hb
  go_wp2_with fail
  refine (two_any 7 (N + 1) x y _).mono ?_
  rintro e w7 ⟨rfl, hb⟩
  have B7 := Lib.hid (show Below W.heap.size W w7 from bel_call (by repeat (first | exact B6.out | refine Below.alloc ?_ (by first | omega | (simp; omega) | simp) _)) (by first | omega | (simp; omega) | simp) hb)
  have z7 := B7.out.size
  clear hb
  go_wp2_with fail
  refine (slice_any d (N + 1) N 1 _).mono ?_
  rintro e w8 ⟨rfl, hb⟩
  have B8 := Lib.hid (show Below W.heap.size W w8 from bel_call (by repeat (first | exact B7.out | refine Below.alloc ?_ (by first | omega | (simp; omega) | simp) _)) (by first | omega | (simp; omega) | simp) hb)
  have z8 := B8.out.size
  clear hb
  go_wp2_with fail
  go_ret
  exact ⟨rfl, B8.out⟩
end Bt
end Go.Proofs.Ytpblhbagjmnmpaa
