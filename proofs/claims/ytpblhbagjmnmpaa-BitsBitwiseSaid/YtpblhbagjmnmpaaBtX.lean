/- The law BitsParts returns true and leaves what was there as it was. Conditions: the arguments are of their kinds. -/
import Derived.Test.YtpblhbagjmnmpaaBtU
set_option linter.unusedVariables false
set_option linter.unusedSimpArgs false
namespace Go.Proofs.Ytpblhbagjmnmpaa
open Go Go.RowKit
open Go.MapKept
namespace Bt

theorem parts_facts {N K T x y : Int} (bN : 1 ≤ N ∧ N ≤ 7) (bK : 1 ≤ K ∧ N + K ≤ 8) (bT : N ≤ T ∧ T ≤ 8) (hx : 0 ≤ x ∧ x ≤ mask N) (hy : 0 ≤ y ∧ y ≤ mask K) :
    ∃ M L c : Int, mask N = M ∧ mask K = L ∧ (1 ≤ M ∧ M ≤ 255) ∧ (1 ≤ L ∧ L ≤ 255) ∧ (0 ≤ c ∧ c ≤ 255) ∧ res 11 [N, K] [x, y] [0, 0] = c ∧ res 12 [N + K] [c] [0, K] = y ∧ res 12 [N + K] [c] [K, N] = x ∧
      res 13 [N] [x] [0, T] = x ∧ res 12 [T] [x] [0, N] = x ∧ (T ≠ N → res 12 [T] [x] [N, T - N] = 0) := by
  have fN : fit N = true := fit_iff.2 ⟨by omega, by omega⟩
  have fK : fit K = true := fit_iff.2 ⟨by omega, by omega⟩
  have fS : fit (N + K) = true := fit_iff.2 ⟨by omega, by omega⟩
  have fT : fit T = true := fit_iff.2 ⟨by omega, by omega⟩
  have mN := mask_le fN
  have mK := mask_le fK
  have mS := mask_le fS
  have mT := mask_le fT
  have pN := mask_pow fN
  have pK := mask_pow fK
  have pS := mask_pow fS
  have pT := mask_pow fT
  have eS : (N + K).toNat = N.toNat + K.toNat := by omega
  rw [eS, Int.pow_add, pN, pK] at pS
  have hmul : x * (mask K + 1) ≤ mask N * (mask K + 1) := Int.mul_le_mul_of_nonneg_right hx.2 (by omega)
  have hmul0 : 0 ≤ x * (mask K + 1) := Int.mul_nonneg hx.1 (by omega)
  have hexp : (mask N + 1) * (mask K + 1) = mask N * (mask K + 1) + (mask K + 1) := by rw [Int.add_mul, Int.one_mul]
  have hc : res 11 [N, K] [x, y] [0, 0] = x * (mask K + 1) + y := by
    rw [resCat fN fK fS hx hy]
    have := bits_join .i64 63 (by decide) wraps_i64 K.toNat (x * 2 ^ K.toNat) y (by rw [pK]; omega) (Int.mul_emod_left _ _) (by rw [pK]; have e : (2 : Int) ^ 63 = 9223372036854775808 := rfl; omega) hy.1 (by rw [pK]; omega) (by have e : (2 : Int) ^ 63 = 9223372036854775808 := rfl; omega)
    rw [this, pK]
  have bc : 0 ≤ x * (mask K + 1) + y ∧ x * (mask K + 1) + y ≤ mask (N + K) := by omega
  have hdiv : (x * (mask K + 1) + y) / (mask K + 1) = x := by
    rw [Int.add_comm, Int.add_mul_ediv_right _ _ (by omega), Int.ediv_eq_zero_of_lt hy.1 (by omega)]; omega
  have hmod : (x * (mask K + 1) + y) % (mask K + 1) = y := by
    rw [Int.add_comm, Int.add_mul_emod_self_right]; exact Int.emod_eq_of_lt hy.1 (by omega)
  have xT : x ≤ mask T := by
    have h1 : 2 ^ N.toNat ≤ 2 ^ T.toNat := Nat.pow_le_pow_right (by omega) (by omega)
    have h2 : ((2 ^ N.toNat : Nat) : Int) = (2 : Int) ^ N.toNat := Int.natCast_pow 2 _
    have h3 : ((2 ^ T.toNat : Nat) : Int) = (2 : Int) ^ T.toNat := Int.natCast_pow 2 _
    omega
  have one0 : (2 : Int) ^ (0 : Int).toNat = 1 := rfl
  refine ⟨mask N, mask K, x * (mask K + 1) + y, rfl, rfl, mN, mK, by omega, hc, ?_, ?_, resExt fN hx fT bT.1, ?_, ?_⟩
  · rw [resSlice fS bc fK (by omega) (by omega), one0, Int.ediv_one, and_low fK (by omega) (by omega), hmod]
  · rw [resSlice fS bc fN (by omega) (by omega), pK, hdiv, and_low fN (by omega) (by omega)]; exact Int.emod_eq_of_lt hx.1 (by omega)
  · rw [resSlice fT ⟨hx.1, xT⟩ fN (by omega) (by omega), one0, Int.ediv_one, and_low fN (by omega) (by omega)]; exact Int.emod_eq_of_lt hx.1 (by omega)
  · intro hne
    have fD : fit (T - N) = true := fit_iff.2 ⟨by omega, by omega⟩
    have mD := mask_le fD
    rw [resSlice fT ⟨hx.1, xT⟩ fD (by omega) (by omega), pN, Int.ediv_eq_zero_of_lt hx.1 (by omega), and_low fD (by omega) (by omega)]
    exact Int.emod_eq_of_lt (by omega) (by omega)

theorem box3_cells {W w1 : World} {a b c : Value} {T : TypeId} (h : Below (W.alloc (.cells #[a, b, c] T)).heap.size (W.alloc (.cells #[a, b, c] T)) w1) :
    w1.cell? ⟨W.heap.size, 0, none⟩ = some a ∧ w1.cell? ⟨W.heap.size, 1, none⟩ = some b ∧ w1.cell? ⟨W.heap.size, 2, none⟩ = some c :=
  ⟨(h.cell (p := ⟨W.heap.size, 0, none⟩) (by simp)).trans (by simp), (h.cell (p := ⟨W.heap.size, 1, none⟩) (by simp)).trans (by simp), (h.cell (p := ⟨W.heap.size, 2, none⟩) (by simp)).trans (by simp)⟩
theorem below_box {W w1 : World} {o : Obj} (h : Below (W.alloc o).heap.size (W.alloc o) w1) : Below W.heap.size W w1 :=
  ((Below.refl _ W).alloc (Nat.le_refl _) o).trans (h.mono (by simp))

set_option maxHeartbeats 2000000 in
theorem parts_law_eq (a b k0 k1 k2 N K T : Int) (ha : 0 ≤ a ∧ a ≤ 255) (hb0 : 0 ≤ b ∧ b ≤ 255) (h0 : 0 ≤ k0 ∧ k0 ≤ 255) (h1 : 0 ≤ k1 ∧ k1 ≤ 255) (h2 : 0 ≤ k2 ∧ k2 ≤ 255)
    (eN : 1 + k0 % 7 = N) (eK : 1 + k1 % (8 - N) = K) (eT : N + k2 % (9 - N) = T) (bN : 1 ≤ N ∧ N ≤ 7) (bK : 1 ≤ K ∧ N + K ≤ 8) (bT : N ≤ T ∧ T ≤ 8) (hTN : T = N) (W : World) :
    Calls Try.prog 6 #[.int .u8 a, .int .u8 b, .agg #[.int .u8 k0, .int .u8 k1, .int .u8 k2]] W fun e W' => e = .returned (.bool true) ∧ Below W.heap.size W W' := by
  have fN : fit N = true := fit_iff.2 (by omega)
  have fK : fit K = true := fit_iff.2 (by omega)
  have bx := and_val fN ha
  have by_ := and_val fK hb0
  obtain ⟨x, ex⟩ : ∃ x, Go.bits .and .i64 a (mask N) = x := ⟨_, rfl⟩
  obtain ⟨y, ey⟩ : ∃ y, Go.bits .and .i64 b (mask K) = y := ⟨_, rfl⟩
  rw [ex] at bx
  rw [ey] at by_
  obtain ⟨M, L, c, eM, eL, bM, bL, bc, f1, f2, f3, f4, f5, f6⟩ := parts_facts bN bK bT bx by_
  rw [eM] at ex bx
  rw [eL] at ey by_
  have d1 : (T == N) = true := beq_iff_eq.2 hTN
  have HTN := Lib.hid hTN
  clear hTN
  clear fN fK f6
  go_enter Try.func6, Try.ntmps6
  go_wp2_with fail
  refine (examples_any _).mono ?_
  rintro e w1 ⟨rfl, hb⟩
  have B1 := Lib.hid (show Below (W.alloc (.cells #[.int .u8 k0, .int .u8 k1, .int .u8 k2] 49)).heap.size (W.alloc (.cells #[.int .u8 k0, .int .u8 k1, .int .u8 k2] 49)) w1 from bel_call (by repeat (first | exact Below.refl _ _ | refine Below.alloc ?_ (by first | omega | (simp; omega) | simp) _)) (by first | omega | (simp; omega) | simp) hb)
  have z1 : W.heap.size + 1 ≤ w1.heap.size := by have := B1.out.size; simpa using this
  obtain ⟨q0, q1, q2⟩ := box3_cells B1.out
  clear hb
  go_wp2_with fail
  refine (Mask_any _ _).mono ?_
  rintro e w' ⟨rfl, rfl⟩
  go_wp2_with fail
  refine (Mask_any _ _).mono ?_
  rintro e w' ⟨rfl, rfl⟩
  go_wp2_with fail
  refine (cat_any N K x y _).mono ?_
  rintro e w2 ⟨rfl, hb⟩
  have B2 := Lib.hid (show Below (W.alloc (.cells #[.int .u8 k0, .int .u8 k1, .int .u8 k2] 49)).heap.size (W.alloc (.cells #[.int .u8 k0, .int .u8 k1, .int .u8 k2] 49)) w2 from bel_call (by repeat (first | exact B1.out | refine Below.alloc ?_ (by first | omega | (simp; omega) | simp) _)) (by first | omega | (simp; omega) | simp) hb)
  have z2 : W.heap.size + 1 ≤ w2.heap.size := by have := B2.out.size; simpa using this
  clear q0 q1 q2
  obtain ⟨q0, q1, q2⟩ := box3_cells B2.out
  clear hb
  go_wp2_with fail
  refine (slice_any c (N + K) 0 K _).mono ?_
  rintro e w3 ⟨rfl, hb⟩
  have B3 := Lib.hid (show Below (W.alloc (.cells #[.int .u8 k0, .int .u8 k1, .int .u8 k2] 49)).heap.size (W.alloc (.cells #[.int .u8 k0, .int .u8 k1, .int .u8 k2] 49)) w3 from bel_call (by repeat (first | exact B2.out | refine Below.alloc ?_ (by first | omega | (simp; omega) | simp) _)) (by first | omega | (simp; omega) | simp) hb)
  have z3 : W.heap.size + 1 ≤ w3.heap.size := by have := B3.out.size; simpa using this
  clear q0 q1 q2
  obtain ⟨q0, q1, q2⟩ := box3_cells B3.out
  clear hb
  go_wp2_with fail
  refine (slice_any c (N + K) K N _).mono ?_
  rintro e w4 ⟨rfl, hb⟩
  have B4 := Lib.hid (show Below (W.alloc (.cells #[.int .u8 k0, .int .u8 k1, .int .u8 k2] 49)).heap.size (W.alloc (.cells #[.int .u8 k0, .int .u8 k1, .int .u8 k2] 49)) w4 from bel_call (by repeat (first | exact B3.out | refine Below.alloc ?_ (by first | omega | (simp; omega) | simp) _)) (by first | omega | (simp; omega) | simp) hb)
  have z4 : W.heap.size + 1 ≤ w4.heap.size := by have := B4.out.size; simpa using this
  clear q0 q1 q2
  obtain ⟨q0, q1, q2⟩ := box3_cells B4.out
  clear hb
  go_wp2_with fail
  refine (slice_any c (N + K) K N _).mono ?_
  rintro e w5 ⟨rfl, hb⟩
  have B5 := Lib.hid (show Below (W.alloc (.cells #[.int .u8 k0, .int .u8 k1, .int .u8 k2] 49)).heap.size (W.alloc (.cells #[.int .u8 k0, .int .u8 k1, .int .u8 k2] 49)) w5 from bel_call (by repeat (first | exact B4.out | refine Below.alloc ?_ (by first | omega | (simp; omega) | simp) _)) (by first | omega | (simp; omega) | simp) hb)
  have z5 : W.heap.size + 1 ≤ w5.heap.size := by have := B5.out.size; simpa using this
  clear q0 q1 q2
  obtain ⟨q0, q1, q2⟩ := box3_cells B5.out
  clear hb
  go_wp2_with fail
  refine (slice_any c (N + K) 0 K _).mono ?_
  rintro e w6 ⟨rfl, hb⟩
  have B6 := Lib.hid (show Below (W.alloc (.cells #[.int .u8 k0, .int .u8 k1, .int .u8 k2] 49)).heap.size (W.alloc (.cells #[.int .u8 k0, .int .u8 k1, .int .u8 k2] 49)) w6 from bel_call (by repeat (first | exact B5.out | refine Below.alloc ?_ (by first | omega | (simp; omega) | simp) _)) (by first | omega | (simp; omega) | simp) hb)
  have z6 : W.heap.size + 1 ≤ w6.heap.size := by have := B6.out.size; simpa using this
  clear q0 q1 q2
  obtain ⟨q0, q1, q2⟩ := box3_cells B6.out
  clear hb
  go_wp2_with fail
  refine (cat_any N K x y _).mono ?_
  rintro e w7 ⟨rfl, hb⟩
  have B7 := Lib.hid (show Below (W.alloc (.cells #[.int .u8 k0, .int .u8 k1, .int .u8 k2] 49)).heap.size (W.alloc (.cells #[.int .u8 k0, .int .u8 k1, .int .u8 k2] 49)) w7 from bel_call (by repeat (first | exact B6.out | refine Below.alloc ?_ (by first | omega | (simp; omega) | simp) _)) (by first | omega | (simp; omega) | simp) hb)
  have z7 : W.heap.size + 1 ≤ w7.heap.size := by have := B7.out.size; simpa using this
  clear q0 q1 q2
  obtain ⟨q0, q1, q2⟩ := box3_cells B7.out
  clear hb
  go_wp2_with fail
  refine (extended_any x N T _).mono ?_
  rintro e w8 ⟨rfl, hb⟩
  have B8 := Lib.hid (show Below (W.alloc (.cells #[.int .u8 k0, .int .u8 k1, .int .u8 k2] 49)).heap.size (W.alloc (.cells #[.int .u8 k0, .int .u8 k1, .int .u8 k2] 49)) w8 from bel_call (by repeat (first | exact B7.out | refine Below.alloc ?_ (by first | omega | (simp; omega) | simp) _)) (by first | omega | (simp; omega) | simp) hb)
  have z8 : W.heap.size + 1 ≤ w8.heap.size := by have := B8.out.size; simpa using this
  clear q0 q1 q2
  obtain ⟨q0, q1, q2⟩ := box3_cells B8.out
  clear hb
  go_wp2_with fail
  refine (slice_any x T 0 N _).mono ?_
  rintro e w9 ⟨rfl, hb⟩
  have B9 := Lib.hid (show Below (W.alloc (.cells #[.int .u8 k0, .int .u8 k1, .int .u8 k2] 49)).heap.size (W.alloc (.cells #[.int .u8 k0, .int .u8 k1, .int .u8 k2] 49)) w9 from bel_call (by repeat (first | exact B8.out | refine Below.alloc ?_ (by first | omega | (simp; omega) | simp) _)) (by first | omega | (simp; omega) | simp) hb)
  have z9 : W.heap.size + 1 ≤ w9.heap.size := by have := B9.out.size; simpa using this
  clear q0 q1 q2
  obtain ⟨q0, q1, q2⟩ := box3_cells B9.out
  clear hb
  go_wp2_with fail
  go_ret
  exact ⟨rfl, below_box B9.out⟩
set_option maxHeartbeats 2000000 in
theorem parts_law_ne (a b k0 k1 k2 N K T : Int) (ha : 0 ≤ a ∧ a ≤ 255) (hb0 : 0 ≤ b ∧ b ≤ 255) (h0 : 0 ≤ k0 ∧ k0 ≤ 255) (h1 : 0 ≤ k1 ∧ k1 ≤ 255) (h2 : 0 ≤ k2 ∧ k2 ≤ 255)
    (eN : 1 + k0 % 7 = N) (eK : 1 + k1 % (8 - N) = K) (eT : N + k2 % (9 - N) = T) (bN : 1 ≤ N ∧ N ≤ 7) (bK : 1 ≤ K ∧ N + K ≤ 8) (bT : N ≤ T ∧ T ≤ 8) (hTN : T ≠ N) (W : World) :
    Calls Try.prog 6 #[.int .u8 a, .int .u8 b, .agg #[.int .u8 k0, .int .u8 k1, .int .u8 k2]] W fun e W' => e = .returned (.bool true) ∧ Below W.heap.size W W' := by
  have fN : fit N = true := fit_iff.2 (by omega)
  have fK : fit K = true := fit_iff.2 (by omega)
  have bx := and_val fN ha
  have by_ := and_val fK hb0
  obtain ⟨x, ex⟩ : ∃ x, Go.bits .and .i64 a (mask N) = x := ⟨_, rfl⟩
  obtain ⟨y, ey⟩ : ∃ y, Go.bits .and .i64 b (mask K) = y := ⟨_, rfl⟩
  rw [ex] at bx
  rw [ey] at by_
  obtain ⟨M, L, c, eM, eL, bM, bL, bc, f1, f2, f3, f4, f5, f6⟩ := parts_facts bN bK bT bx by_
  rw [eM] at ex bx
  rw [eL] at ey by_
  have d1 : (T == N) = false := beq_eq_false_iff_ne.2 hTN
  have f7 := f6 hTN
  clear fN fK f6
  go_enter Try.func6, Try.ntmps6
  go_wp2_with fail
  refine (examples_any _).mono ?_
  rintro e w1 ⟨rfl, hb⟩
  have B1 := Lib.hid (show Below (W.alloc (.cells #[.int .u8 k0, .int .u8 k1, .int .u8 k2] 49)).heap.size (W.alloc (.cells #[.int .u8 k0, .int .u8 k1, .int .u8 k2] 49)) w1 from bel_call (by repeat (first | exact Below.refl _ _ | refine Below.alloc ?_ (by first | omega | (simp; omega) | simp) _)) (by first | omega | (simp; omega) | simp) hb)
  have z1 : W.heap.size + 1 ≤ w1.heap.size := by have := B1.out.size; simpa using this
  obtain ⟨q0, q1, q2⟩ := box3_cells B1.out
  clear hb
  go_wp2_with fail
  refine (Mask_any _ _).mono ?_
  rintro e w' ⟨rfl, rfl⟩
  go_wp2_with fail
  refine (Mask_any _ _).mono ?_
  rintro e w' ⟨rfl, rfl⟩
  go_wp2_with fail
  refine (cat_any N K x y _).mono ?_
  rintro e w2 ⟨rfl, hb⟩
  have B2 := Lib.hid (show Below (W.alloc (.cells #[.int .u8 k0, .int .u8 k1, .int .u8 k2] 49)).heap.size (W.alloc (.cells #[.int .u8 k0, .int .u8 k1, .int .u8 k2] 49)) w2 from bel_call (by repeat (first | exact B1.out | refine Below.alloc ?_ (by first | omega | (simp; omega) | simp) _)) (by first | omega | (simp; omega) | simp) hb)
  have z2 : W.heap.size + 1 ≤ w2.heap.size := by have := B2.out.size; simpa using this
  clear q0 q1 q2
  obtain ⟨q0, q1, q2⟩ := box3_cells B2.out
  clear hb
  go_wp2_with fail
  refine (slice_any c (N + K) 0 K _).mono ?_
  rintro e w3 ⟨rfl, hb⟩
  have B3 := Lib.hid (show Below (W.alloc (.cells #[.int .u8 k0, .int .u8 k1, .int .u8 k2] 49)).heap.size (W.alloc (.cells #[.int .u8 k0, .int .u8 k1, .int .u8 k2] 49)) w3 from bel_call (by repeat (first | exact B2.out | refine Below.alloc ?_ (by first | omega | (simp; omega) | simp) _)) (by first | omega | (simp; omega) | simp) hb)
  have z3 : W.heap.size + 1 ≤ w3.heap.size := by have := B3.out.size; simpa using this
  clear q0 q1 q2
  obtain ⟨q0, q1, q2⟩ := box3_cells B3.out
  clear hb
  go_wp2_with fail
  refine (slice_any c (N + K) K N _).mono ?_
  rintro e w4 ⟨rfl, hb⟩
  have B4 := Lib.hid (show Below (W.alloc (.cells #[.int .u8 k0, .int .u8 k1, .int .u8 k2] 49)).heap.size (W.alloc (.cells #[.int .u8 k0, .int .u8 k1, .int .u8 k2] 49)) w4 from bel_call (by repeat (first | exact B3.out | refine Below.alloc ?_ (by first | omega | (simp; omega) | simp) _)) (by first | omega | (simp; omega) | simp) hb)
  have z4 : W.heap.size + 1 ≤ w4.heap.size := by have := B4.out.size; simpa using this
  clear q0 q1 q2
  obtain ⟨q0, q1, q2⟩ := box3_cells B4.out
  clear hb
  go_wp2_with fail
  refine (slice_any c (N + K) K N _).mono ?_
  rintro e w5 ⟨rfl, hb⟩
  have B5 := Lib.hid (show Below (W.alloc (.cells #[.int .u8 k0, .int .u8 k1, .int .u8 k2] 49)).heap.size (W.alloc (.cells #[.int .u8 k0, .int .u8 k1, .int .u8 k2] 49)) w5 from bel_call (by repeat (first | exact B4.out | refine Below.alloc ?_ (by first | omega | (simp; omega) | simp) _)) (by first | omega | (simp; omega) | simp) hb)
  have z5 : W.heap.size + 1 ≤ w5.heap.size := by have := B5.out.size; simpa using this
  clear q0 q1 q2
  obtain ⟨q0, q1, q2⟩ := box3_cells B5.out
  clear hb
  go_wp2_with fail
  refine (slice_any c (N + K) 0 K _).mono ?_
  rintro e w6 ⟨rfl, hb⟩
  have B6 := Lib.hid (show Below (W.alloc (.cells #[.int .u8 k0, .int .u8 k1, .int .u8 k2] 49)).heap.size (W.alloc (.cells #[.int .u8 k0, .int .u8 k1, .int .u8 k2] 49)) w6 from bel_call (by repeat (first | exact B5.out | refine Below.alloc ?_ (by first | omega | (simp; omega) | simp) _)) (by first | omega | (simp; omega) | simp) hb)
  have z6 : W.heap.size + 1 ≤ w6.heap.size := by have := B6.out.size; simpa using this
  clear q0 q1 q2
  obtain ⟨q0, q1, q2⟩ := box3_cells B6.out
  clear hb
  go_wp2_with fail
  refine (cat_any N K x y _).mono ?_
  rintro e w7 ⟨rfl, hb⟩
  have B7 := Lib.hid (show Below (W.alloc (.cells #[.int .u8 k0, .int .u8 k1, .int .u8 k2] 49)).heap.size (W.alloc (.cells #[.int .u8 k0, .int .u8 k1, .int .u8 k2] 49)) w7 from bel_call (by repeat (first | exact B6.out | refine Below.alloc ?_ (by first | omega | (simp; omega) | simp) _)) (by first | omega | (simp; omega) | simp) hb)
  have z7 : W.heap.size + 1 ≤ w7.heap.size := by have := B7.out.size; simpa using this
  clear q0 q1 q2
  obtain ⟨q0, q1, q2⟩ := box3_cells B7.out
  clear hb
  go_wp2_with fail
  refine (extended_any x N T _).mono ?_
  rintro e w8 ⟨rfl, hb⟩
  have B8 := Lib.hid (show Below (W.alloc (.cells #[.int .u8 k0, .int .u8 k1, .int .u8 k2] 49)).heap.size (W.alloc (.cells #[.int .u8 k0, .int .u8 k1, .int .u8 k2] 49)) w8 from bel_call (by repeat (first | exact B7.out | refine Below.alloc ?_ (by first | omega | (simp; omega) | simp) _)) (by first | omega | (simp; omega) | simp) hb)
  have z8 : W.heap.size + 1 ≤ w8.heap.size := by have := B8.out.size; simpa using this
  clear q0 q1 q2
  obtain ⟨q0, q1, q2⟩ := box3_cells B8.out
  clear hb
  go_wp2_with fail
  refine (slice_any x T 0 N _).mono ?_
  rintro e w9 ⟨rfl, hb⟩
  have B9 := Lib.hid (show Below (W.alloc (.cells #[.int .u8 k0, .int .u8 k1, .int .u8 k2] 49)).heap.size (W.alloc (.cells #[.int .u8 k0, .int .u8 k1, .int .u8 k2] 49)) w9 from bel_call (by repeat (first | exact B8.out | refine Below.alloc ?_ (by first | omega | (simp; omega) | simp) _)) (by first | omega | (simp; omega) | simp) hb)
  have z9 : W.heap.size + 1 ≤ w9.heap.size := by have := B9.out.size; simpa using this
  clear q0 q1 q2
  obtain ⟨q0, q1, q2⟩ := box3_cells B9.out
  clear hb
  go_wp2_with fail
  refine (slice_any x T N (T - N) _).mono ?_
  rintro e w10 ⟨rfl, hb⟩
  have B10 := Lib.hid (show Below (W.alloc (.cells #[.int .u8 k0, .int .u8 k1, .int .u8 k2] 49)).heap.size (W.alloc (.cells #[.int .u8 k0, .int .u8 k1, .int .u8 k2] 49)) w10 from bel_call (by repeat (first | exact B9.out | refine Below.alloc ?_ (by first | omega | (simp; omega) | simp) _)) (by first | omega | (simp; omega) | simp) hb)
  have z10 : W.heap.size + 1 ≤ w10.heap.size := by have := B10.out.size; simpa using this
  clear q0 q1 q2
  obtain ⟨q0, q1, q2⟩ := box3_cells B10.out
  clear hb
  go_wp2_with fail
  go_ret
  exact ⟨rfl, below_box B10.out⟩
theorem parts_law (a b k0 k1 k2 : Int) (ha : 0 ≤ a ∧ a ≤ 255) (hb0 : 0 ≤ b ∧ b ≤ 255) (h0 : 0 ≤ k0 ∧ k0 ≤ 255) (h1 : 0 ≤ k1 ∧ k1 ≤ 255) (h2 : 0 ≤ k2 ∧ k2 ≤ 255) (W : World) :
    Calls Try.prog 6 #[.int .u8 a, .int .u8 b, .agg #[.int .u8 k0, .int .u8 k1, .int .u8 k2]] W fun e W' => e = .returned (.bool true) ∧ Below W.heap.size W W' := by
  have r0 := Int.emod_nonneg k0 (show (7 : Int) ≠ 0 by omega)
  have s0 := Int.emod_lt_of_pos k0 (show (0 : Int) < 7 by omega)
  obtain ⟨N, eN⟩ : ∃ N, 1 + k0 % 7 = N := ⟨_, rfl⟩
  have r1 := Int.emod_nonneg k1 (show (8 - N : Int) ≠ 0 by omega)
  have s1 := Int.emod_lt_of_pos k1 (show (0 : Int) < 8 - N by omega)
  have r2 := Int.emod_nonneg k2 (show (9 - N : Int) ≠ 0 by omega)
  have s2 := Int.emod_lt_of_pos k2 (show (0 : Int) < 9 - N by omega)
  by_cases h : N + k2 % (9 - N) = N
  · exact parts_law_eq a b k0 k1 k2 N _ _ ha hb0 h0 h1 h2 eN rfl rfl (by omega) (by omega) (by omega) h W
  · exact parts_law_ne a b k0 k1 k2 N _ _ ha hb0 h0 h1 h2 eN rfl rfl (by omega) (by omega) (by omega) h W
end Bt
end Go.Proofs.Ytpblhbagjmnmpaa
