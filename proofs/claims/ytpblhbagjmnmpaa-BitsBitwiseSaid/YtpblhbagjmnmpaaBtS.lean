/- The law's examples are true. Conditions: none. -/
import Derived.Test.YtpblhbagjmnmpaaBtR
import Derived.Test.YtpblhbagjmnmpaaBtQ
set_option linter.unusedVariables false
set_option linter.unusedSimpArgs false
namespace Go.Proofs.Ytpblhbagjmnmpaa
open Go Go.RowKit
open Go.MapKept
namespace Bt

theorem rdb_at3 {W : World} {B : Nat} {a b d : Bool} (hB : B = W.heap.size) : RdB (W.alloc (.cells #[.bool a, .bool b, .bool d] 4)) (some ⟨B, 0, none⟩) [a, b, d] := by
  subst hB
  exact ⟨by simp, fun _ => ⟨_, 0, rfl, fun j hj => by
    match j, hj with
    | 0, _ => simp
    | 1, _ => simp
    | 2, _ => simp⟩⟩
theorem rdb_at4 {W : World} {B : Nat} {a b d f : Bool} (hB : B = W.heap.size) : RdB (W.alloc (.cells #[.bool a, .bool b, .bool d, .bool f] 4)) (some ⟨B, 0, none⟩) [a, b, d, f] := by
  subst hB
  exact ⟨by simp, fun _ => ⟨_, 0, rfl, fun j hj => by
    match j, hj with
    | 0, _ => simp
    | 1, _ => simp
    | 2, _ => simp
    | 3, _ => simp⟩⟩
theorem rdb_alloc {W : World} {A : Option Addr} {xs : List Bool} (h : RdB W A xs) (o : Obj) : RdB (W.alloc o) A xs := h.below ((Below.refl _ _).alloc (Nat.le_refl _) _)
theorem bel_call {B : Nat} {W w0 w1 : World} (h : Below B W w0) (hz : B ≤ w0.heap.size) (k : Below w0.heap.size w0 w1) : Below B W w1 := h.trans (k.mono hz)

set_option maxHeartbeats 1000000 in
/-- wireloomlaw07.examples -/
theorem examples_any (W : World) : Calls Try.prog 9 #[] W fun e W' => e = .returned (.bool true) ∧ Below W.heap.size W W' := by
  have r1 : res 6 [4, 4] [9, 8] [0, 0] = 1 := by decide +kernel
  have r2 : res 7 [4, 4] [3, 5] [0, 0] = 14 := by decide +kernel
  have r3 : res 9 [4, 4] [3, 5] [0, 0] = 1 := by decide +kernel
  have r4 : res 11 [2, 3] [2, 5] [0, 0] = 21 := by decide +kernel
  have r5 : res 12 [5] [21] [3, 2] = 2 := by decide +kernel
  have r6 : res 13 [3] [5] [0, 8] = 5 := by decide +kernel
  have r7 : width 11 [2, 3] 0 0 = 5 := by decide +kernel
  have r8 : width 11 [5, 4] 0 0 = 0 := by decide +kernel
  have r9 : err 5 = 0 := by decide +kernel
  have r10 : err 0 = 1 := by decide +kernel
  have r11 : mask 3 = 7 := by decide +kernel
  have r12 : split 6 4 = [false, true, true, false] := by decide +kernel
  have r13 : join [true, false, true] = 5 := by decide +kernel
  have r14 : res 6 [4, 4] [16, 0] [0, 0] = -1 := by decide +kernel
  have R12 := Lib.hid r12
  clear r12
  go_enter Try.func9, Try.ntmps9
  go_wp2_with fail
  refine (two_any 6 4 9 8 _).mono ?_
  rintro e w1 ⟨rfl, hb⟩
  have B1 := Lib.hid (show Below W.heap.size W w1 from bel_call (by repeat (first | exact Below.refl _ _ | refine Below.alloc ?_ (by first | omega | (simp; omega) | simp) _)) (by first | omega | (simp; omega) | simp) hb)
  have z1 := B1.out.size
  clear hb
  go_wp2_with fail
  refine (two_any 7 4 3 5 _).mono ?_
  rintro e w2 ⟨rfl, hb⟩
  have B2 := Lib.hid (show Below W.heap.size W w2 from bel_call (by repeat (first | exact B1.out | refine Below.alloc ?_ (by first | omega | (simp; omega) | simp) _)) (by first | omega | (simp; omega) | simp) hb)
  have z2 := B2.out.size
  clear hb
  go_wp2_with fail
  refine (two_any 9 4 3 5 _).mono ?_
  rintro e w3 ⟨rfl, hb⟩
  have B3 := Lib.hid (show Below W.heap.size W w3 from bel_call (by repeat (first | exact B2.out | refine Below.alloc ?_ (by first | omega | (simp; omega) | simp) _)) (by first | omega | (simp; omega) | simp) hb)
  have z3 := B3.out.size
  clear hb
  go_wp2_with fail
  refine (cat_any 2 3 2 5 _).mono ?_
  rintro e w4 ⟨rfl, hb⟩
  have B4 := Lib.hid (show Below W.heap.size W w4 from bel_call (by repeat (first | exact B3.out | refine Below.alloc ?_ (by first | omega | (simp; omega) | simp) _)) (by first | omega | (simp; omega) | simp) hb)
  have z4 := B4.out.size
  clear hb
  go_wp2_with fail
  refine (slice_any 21 5 3 2 _).mono ?_
  rintro e w5 ⟨rfl, hb⟩
  have B5 := Lib.hid (show Below W.heap.size W w5 from bel_call (by repeat (first | exact B4.out | refine Below.alloc ?_ (by first | omega | (simp; omega) | simp) _)) (by first | omega | (simp; omega) | simp) hb)
  have z5 := B5.out.size
  clear hb
  go_wp2_with fail
  refine (extended_any 5 3 8 _).mono ?_
  rintro e w6 ⟨rfl, hb⟩
  have B6 := Lib.hid (show Below W.heap.size W w6 from bel_call (by repeat (first | exact B5.out | refine Below.alloc ?_ (by first | omega | (simp; omega) | simp) _)) (by first | omega | (simp; omega) | simp) hb)
  have z6 := B6.out.size
  clear hb
  go_wp2_with fail
  refine (Width_any 11 _ 2 [2, 3] 0 0 _ (rd_at2 (by simp))).mono ?_
  rintro e w7 ⟨rfl, hb⟩
  have B7 := Lib.hid (show Below W.heap.size W w7 from bel_call (by repeat (first | exact B6.out | refine Below.alloc ?_ (by first | omega | (simp; omega) | simp) _)) (by first | omega | (simp; omega) | simp) hb)
  have z7 := B7.out.size
  clear hb
  go_wp2_with fail
  refine (Width_any 11 _ 2 [5, 4] 0 0 _ (rd_at2 (by simp))).mono ?_
  rintro e w8 ⟨rfl, hb⟩
  have B8 := Lib.hid (show Below W.heap.size W w8 from bel_call (by repeat (first | exact B7.out | refine Below.alloc ?_ (by first | omega | (simp; omega) | simp) _)) (by first | omega | (simp; omega) | simp) hb)
  have z8 := B8.out.size
  clear hb
  go_wp2_with fail
  refine (Mask_any _ _).mono ?_
  rintro e w' ⟨rfl, rfl⟩
  go_wp2_with fail
  refine (Split_any 6 4 _ (by decide)).mono ?_
  rintro e w9 ⟨⟨A9, c9, rfl, hr9, hc9⟩, hb⟩
  rw [R12.out] at hr9 hc9 ⊢
  have B9 := Lib.hid (show Below W.heap.size W w9 from bel_call B8.out (by first | omega | (simp; omega) | simp) hb)
  have z9 := B9.out.size
  have HR := Lib.hid hr9
  clear hb hr9
  go_wp2_with fail
  refine (Bools_any _ _ c9 _ [false, true, true, false] [false, true, true, false] _ (rdb_alloc HR.out _) (rdb_at4 rfl)).mono ?_
  rintro e w10 ⟨rfl, q, rfl⟩
  go_wp2_with fail
  refine (Join_any _ _ [true, false, true] _ (rdb_at3 (by simp)) (by decide)).mono ?_
  rintro e w' ⟨rfl, rfl⟩
  go_wp2_with fail
  refine (two_any 6 4 16 0 _).mono ?_
  rintro e w11 ⟨rfl, hb⟩
  have B11 := Lib.hid (show Below W.heap.size W w11 from bel_call (by repeat (first | exact B9.out | refine Below.alloc ?_ (by first | omega | (simp; omega) | simp) _ | refine bel_drewN ?_ _)) (by first | omega | (simp; omega) | simp) hb)
  clear hb
  go_wp2_with fail
  go_ret
  exact ⟨rfl, B11.out⟩
end Bt
end Go.Proofs.Ytpblhbagjmnmpaa
