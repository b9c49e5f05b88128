/- Plain facts for BitsRange: the value of a valid operation is a value of the width of its result. Conditions: the operation is valid. -/
import Derived.Test.YtpblhbagjmnmpaaBtT
set_option linter.unusedVariables false
set_option linter.unusedSimpArgs false
namespace Go.Proofs.Ytpblhbagjmnmpaa
open Go Go.RowKit
open Go.MapKept
namespace Bt

theorem and_any (z : Int) {m : Int} (h0 : 0 ≤ m) (h1 : m ≤ 255) : 0 ≤ Go.bits .and .i64 z m ∧ Go.bits .and .i64 z m ≤ m := by
  obtain ⟨j, rfl⟩ := Int.eq_ofNat_of_zero_le h0
  have hj : j < 256 := by omega
  have hle : (BitVec.ofInt 64 z).toNat &&& j ≤ j := Nat.and_le_right
  simp only [Go.bits, BitVec.ofInt_natCast, BitVec.toNat_and, BitVec.toNat_ofNat]
  rw [show IntKind.i64.bits = 64 from rfl, Nat.mod_eq_of_lt (show j < 2 ^ 64 by omega)]
  rw [wraps_i64 _ (by omega) (by have e2 : (2 : Int) ^ 63 = 9223372036854775808 := rfl; omega)]
  omega
theorem two_val {N x : Int} (fN : fit N = true) (hx : 0 ≤ x ∧ x ≤ mask N) : ∃ i : Nat, x = i ∧ i < 2 ^ N.toNat := by
  obtain ⟨i, rfl⟩ := Int.eq_ofNat_of_zero_le hx.1
  refine ⟨i, rfl, ?_⟩
  have hM := mask_pow fN
  have hp : ((2 ^ N.toNat : Nat) : Int) = (2 : Int) ^ N.toNat := by simp
  omega
theorem nat_val {N : Int} {i : Nat} (fN : fit N = true) (h : i < 2 ^ N.toNat) : 0 ≤ (i : Int) ∧ (i : Int) ≤ mask N := by
  have hM := mask_pow fN
  have hp : ((2 ^ N.toNat : Nat) : Int) = (2 : Int) ^ N.toNat := by simp
  omega
theorem pow_256 {N : Int} (fN : fit N = true) : 2 ^ N.toNat ≤ 256 := by
  rw [fit_iff] at fN
  exact (Nat.pow_le_pow_right (by omega) (by omega) : 2 ^ N.toNat ≤ 2 ^ 8)
theorem width_is {op : Int} {ws : List Int} {k w r : Int} (h : wide op ws k w = r) (hf : fit r = true) : width op ws k w = r := by unfold width; rw [h, hf]; rfl
theorem width_pos {op : Int} {ws : List Int} {k w : Int} (h : width op ws k w ≠ 0) : fit (width op ws k w) = true := by
  unfold width at h ⊢
  split at h
  · rename_i hf; rw [if_pos hf]; exact hf
  · exact absurd rfl h
theorem width_wide {op : Int} {ws : List Int} {k w : Int} (h : width op ws k w ≠ 0) : width op ws k w = wide op ws k w := by
  unfold width at h ⊢
  split at h
  · rename_i hf; rw [if_pos hf]
  · exact absurd rfl h

/-- The value of a valid operation is a value of the width of its result. -/
theorem val_range {op : Int} {ws vs : List Int} {k w : Int} (h : width op ws k w ≠ 0) (hl : vs.length = ws.length) (hi : within vs ws vs.length = true) :
    0 ≤ val op ws vs k w ∧ val op ws vs k w ≤ mask (width op ws k w) := by
  have hf := width_pos h
  rw [width_wide h] at hf ⊢
  have hd := wide_ne h
  obtain ⟨h0, h1⟩ := op_of h
  have hc : op = 1 ∨ op = 2 ∨ (3 ≤ op ∧ op ≤ 7) ∨ (8 ≤ op ∧ op ≤ 9) ∨ op = 10 ∨ op = 11 ∨ op = 12 ∨ op = 13 := by omega
  rcases hc with rfl | rfl | hop | hop | rfl | rfl | rfl | rfl
  · have ha : ws.length = 0 ∧ fit w = true ∧ 0 ≤ k ∧ k ≤ mask w := by
      rcases Decidable.em (ws.length = 0 ∧ fit w = true ∧ 0 ≤ k ∧ k ≤ mask w) with h | h
      · exact h
      · exact absurd (by unfold wide; rw [if_pos rfl, if_neg h]) hd
    have e : wide 1 ws k w = w := by unfold wide; rw [if_pos rfl, if_pos ha]
    rw [e]
    exact ⟨ha.2.2.1, ha.2.2.2⟩
  · have ha : alike ws 1 = true := by
      cases hq : alike ws 1 with
      | true => rfl
      | false => exact absurd (by simp [wide, hq]) hd
    obtain ⟨x, rfl, fx⟩ := alike1_of ha
    obtain ⟨a, rfl⟩ := len1 hl
    have i0 := within_at hi (j := 0) (by simp)
    simp at i0
    have e : wide 2 [x] k w = x := by simp [wide, ha]
    rw [e]
    show 0 ≤ mask x - a ∧ mask x - a ≤ mask x
    omega
  · have ha : alike ws 2 = true := by
      cases hq : alike ws 2 with
      | true => rfl
      | false =>
        have hc : op = 3 ∨ op = 4 ∨ op = 5 ∨ op = 6 ∨ op = 7 := by omega
        rcases hc with rfl | rfl | rfl | rfl | rfl <;> exact absurd (by simp [wide, hq]) hd
    obtain ⟨x, rfl, fx⟩ := alike2_of ha
    obtain ⟨a, b, rfl⟩ := len2 hl
    have i0 := within_at hi (j := 0) (by simp)
    have i1 := within_at hi (j := 1) (by simp)
    simp at i0 i1
    have hm := mask_le fx
    have p8 := pow_256 fx
    have hc : op = 3 ∨ op = 4 ∨ op = 5 ∨ op = 6 ∨ op = 7 := by omega
    have e : wide op [x, x] k w = x := by rcases hc with rfl | rfl | rfl | rfl | rfl <;> simp [wide, ha]
    rw [e]
    rcases hc with rfl | rfl | rfl | rfl | rfl
    · obtain ⟨i, rfl, hii⟩ := two_val fx i0
      obtain ⟨j, rfl, hj⟩ := two_val fx i1
      show 0 ≤ Go.bits .and .i64 (i : Int) (j : Int) ∧ Go.bits .and .i64 (i : Int) (j : Int) ≤ mask x
      rw [bits_and_nat (by omega) (by omega)]
      exact nat_val fx (Nat.and_lt_two_pow _ hj)
    · obtain ⟨i, rfl, hii⟩ := two_val fx i0
      obtain ⟨j, rfl, hj⟩ := two_val fx i1
      show 0 ≤ Go.bits .or .i64 (i : Int) (j : Int) ∧ Go.bits .or .i64 (i : Int) (j : Int) ≤ mask x
      rw [bits_or_nat (by omega) (by omega)]
      exact nat_val fx (Nat.or_lt_two_pow hii hj)
    · obtain ⟨i, rfl, hii⟩ := two_val fx i0
      obtain ⟨j, rfl, hj⟩ := two_val fx i1
      show 0 ≤ Go.bits .xor .i64 (i : Int) (j : Int) ∧ Go.bits .xor .i64 (i : Int) (j : Int) ≤ mask x
      rw [bits_xor_nat (by omega) (by omega)]
      exact nat_val fx (Nat.xor_lt_two_pow hii hj)
    · show 0 ≤ (a + b) % (mask x + 1) ∧ (a + b) % (mask x + 1) ≤ mask x
      have := Int.emod_nonneg (a + b) (show mask x + 1 ≠ 0 by omega)
      have := Int.emod_lt_of_pos (a + b) (show 0 < mask x + 1 by omega)
      omega
    · show 0 ≤ (a - b + mask x + 1) % (mask x + 1) ∧ (a - b + mask x + 1) % (mask x + 1) ≤ mask x
      have := Int.emod_nonneg (a - b + mask x + 1) (show mask x + 1 ≠ 0 by omega)
      have := Int.emod_lt_of_pos (a - b + mask x + 1) (show 0 < mask x + 1 by omega)
      omega
  · have hc : op = 8 ∨ op = 9 := by omega
    have ha : alike ws 2 = true := by
      cases hq : alike ws 2 with
      | true => rfl
      | false => rcases hc with rfl | rfl <;> exact absurd (by simp [wide, hq]) hd
    have e : wide op ws k w = 1 := by rcases hc with rfl | rfl <;> simp [wide, ha]
    rw [e]
    have m1 : mask 1 = 1 := rfl
    rw [m1]
    rcases hc with rfl | rfl
    · exact b2i_range _
    · exact b2i_range _
  · have ha : alike ws 3 = true ∧ ws.getD 0 0 = 1 := by
      rcases Decidable.em (alike ws 3 = true ∧ ws.getD 0 0 = 1) with h | h
      · exact h
      · exact absurd (by unfold wide; rw [if_neg (by decide), if_neg (by decide), if_neg (by decide), if_neg (by decide), if_pos rfl, if_neg h]) hd
    have e : wide 10 ws k w = ws.getD 1 0 := by unfold wide; rw [if_neg (by decide), if_neg (by decide), if_neg (by decide), if_neg (by decide), if_pos rfl, if_pos ha]
    rw [e]
    obtain ⟨x, y, rfl, fx, fy⟩ := alike3_of ha.1
    obtain ⟨a, b, d, rfl⟩ := len3 hl
    have i1 := within_at hi (j := 1) (by simp)
    have i2 := within_at hi (j := 2) (by simp)
    simp at i1 i2
    show 0 ≤ (if a = 1 then b else d) ∧ (if a = 1 then b else d) ≤ mask y
    split <;> omega
  · have ha : ws.length = 2 ∧ fit (ws.getD 0 0) = true ∧ fit (ws.getD 1 0) = true := by
      rcases Decidable.em (ws.length = 2 ∧ fit (ws.getD 0 0) = true ∧ fit (ws.getD 1 0) = true) with h | h
      · exact h
      · exact absurd (by unfold wide; rw [if_neg (by decide), if_neg (by decide), if_neg (by decide), if_neg (by decide), if_neg (by decide), if_pos rfl, if_neg h]) hd
    have e : wide 11 ws k w = ws.getD 0 0 + ws.getD 1 0 := by unfold wide; rw [if_neg (by decide), if_neg (by decide), if_neg (by decide), if_neg (by decide), if_neg (by decide), if_pos rfl, if_pos ha]
    rw [e] at hf ⊢
    obtain ⟨hl2, fx, fy⟩ := ha
    obtain ⟨x, y, rfl⟩ := len2 hl2
    obtain ⟨a, b, rfl⟩ := len2 hl
    have i0 := within_at hi (j := 0) (by simp)
    have i1 := within_at hi (j := 1) (by simp)
    simp at i0 i1
    have fx : fit x = true := fx
    have fy : fit y = true := fy
    have fs : fit (x + y) = true := hf
    obtain ⟨i, rfl, hii⟩ := two_val fx i0
    obtain ⟨j, rfl, hj⟩ := two_val fy i1
    have p8 := pow_256 fs
    have qx := fit_iff.1 fx
    have qy := fit_iff.1 fy
    have es : (x + y).toNat = x.toNat + y.toNat := by omega
    have ht : i * 2 ^ y.toNat < 2 ^ (x + y).toNat := by
      rw [es, Nat.pow_add]
      exact Nat.mul_lt_mul_of_pos_right hii (Nat.two_pow_pos _)
    have hj' : j < 2 ^ (x + y).toNat := Nat.lt_of_lt_of_le hj (Nat.pow_le_pow_right (by omega) (by omega))
    show 0 ≤ Go.bits .or .i64 ((i : Int) * 2 ^ y.toNat) (j : Int) ∧ Go.bits .or .i64 ((i : Int) * 2 ^ y.toNat) (j : Int) ≤ mask (x + y)
    have ec : (i : Int) * 2 ^ y.toNat = ((i * 2 ^ y.toNat : Nat) : Int) := by simp
    rw [ec, bits_or_nat (by omega) (by omega)]
    exact nat_val fs (Nat.or_lt_two_pow ht hj')
  · have ha : alike ws 1 = true ∧ fit w = true ∧ 0 ≤ k ∧ k ≤ ws.getD 0 0 - w := by
      rcases Decidable.em (alike ws 1 = true ∧ fit w = true ∧ 0 ≤ k ∧ k ≤ ws.getD 0 0 - w) with h | h
      · exact h
      · exact absurd (by unfold wide; rw [if_neg (by decide), if_neg (by decide), if_neg (by decide), if_neg (by decide), if_neg (by decide), if_neg (by decide), if_pos rfl, if_neg h]) hd
    have e : wide 12 ws k w = w := by unfold wide; rw [if_neg (by decide), if_neg (by decide), if_neg (by decide), if_neg (by decide), if_neg (by decide), if_neg (by decide), if_pos rfl, if_pos ha]
    rw [e]
    have hm := mask_le ha.2.1
    exact and_any _ (by omega) hm.2
  · have ha : alike ws 1 = true ∧ ws.getD 0 0 ≤ w := by
      rcases Decidable.em (alike ws 1 = true ∧ ws.getD 0 0 ≤ w) with h | h
      · exact h
      · exact absurd (by unfold wide; rw [if_neg (by decide), if_neg (by decide), if_neg (by decide), if_neg (by decide), if_neg (by decide), if_neg (by decide), if_neg (by decide), if_pos rfl, if_neg h]) hd
    have e : wide 13 ws k w = w := by unfold wide; rw [if_neg (by decide), if_neg (by decide), if_neg (by decide), if_neg (by decide), if_neg (by decide), if_neg (by decide), if_neg (by decide), if_pos rfl, if_pos ha]
    rw [e] at hf ⊢
    obtain ⟨x, rfl, fx⟩ := alike1_of ha.1
    obtain ⟨a, rfl⟩ := len1 hl
    have i0 := within_at hi (j := 0) (by simp)
    simp at i0
    have hxw : x ≤ w := ha.2
    show 0 ≤ a ∧ a ≤ mask w
    obtain ⟨i, rfl, hii⟩ := two_val fx i0
    exact nat_val hf (Nat.lt_of_lt_of_le hii (Nat.pow_le_pow_right (by omega) (by omega)))
theorem fit_all {op : Int} {ws : List Int} {k w : Int} (h : width op ws k w ≠ 0) : ∀ j, j < ws.length → fit (ws.getD j 0) = true := by
  have hd := wide_ne h
  obtain ⟨h0, h1⟩ := op_of h
  intro j hj
  have key : ∀ n, alike ws n = true → fit (ws.getD j 0) = true := fun n ha => by
    simp only [alike, Bool.and_eq_true, List.all_eq_true] at ha
    rw [List.getD_eq_getElem?_getD, List.getElem?_eq_getElem hj]
    exact ha.2.1 _ (List.getElem_mem hj)
  have hc : op = 1 ∨ op = 2 ∨ op = 3 ∨ op = 4 ∨ op = 5 ∨ op = 6 ∨ op = 7 ∨ op = 8 ∨ op = 9 ∨ op = 10 ∨ op = 11 ∨ op = 12 ∨ op = 13 := by omega
  rcases hc with rfl | rfl | rfl | rfl | rfl | rfl | rfl | rfl | rfl | rfl | rfl | rfl | rfl
  · rcases Decidable.em (ws.length = 0 ∧ fit w = true ∧ 0 ≤ k ∧ k ≤ mask w) with h | h
    · omega
    · exact absurd (by unfold wide; rw [if_pos rfl, if_neg h]) hd
  · cases hq : alike ws 1 with
    | true => exact key 1 hq
    | false => exact absurd (by simp [wide, hq]) hd
  · cases hq : alike ws 2 with
    | true => exact key 2 hq
    | false => exact absurd (by simp [wide, hq]) hd
  · cases hq : alike ws 2 with
    | true => exact key 2 hq
    | false => exact absurd (by simp [wide, hq]) hd
  · cases hq : alike ws 2 with
    | true => exact key 2 hq
    | false => exact absurd (by simp [wide, hq]) hd
  · cases hq : alike ws 2 with
    | true => exact key 2 hq
    | false => exact absurd (by simp [wide, hq]) hd
  · cases hq : alike ws 2 with
    | true => exact key 2 hq
    | false => exact absurd (by simp [wide, hq]) hd
  · cases hq : alike ws 2 with
    | true => exact key 2 hq
    | false => exact absurd (by simp [wide, hq]) hd
  · cases hq : alike ws 2 with
    | true => exact key 2 hq
    | false => exact absurd (by simp [wide, hq]) hd
  · cases hq : alike ws 3 with
    | true => exact key 3 hq
    | false => exact absurd (by simp [wide, hq]) hd
  · rcases Decidable.em (ws.length = 2 ∧ fit (ws.getD 0 0) = true ∧ fit (ws.getD 1 0) = true) with h | h
    · have : j = 0 ∨ j = 1 := by omega
      rcases this with rfl | rfl
      · exact h.2.1
      · exact h.2.2
    · exact absurd (by unfold wide; rw [if_neg (by decide), if_neg (by decide), if_neg (by decide), if_neg (by decide), if_neg (by decide), if_pos rfl, if_neg h]) hd
  · cases hq : alike ws 1 with
    | true => exact key 1 hq
    | false => exact absurd (by simp [wide, hq]) hd
  · cases hq : alike ws 1 with
    | true => exact key 1 hq
    | false => exact absurd (by simp [wide, hq]) hd
end Bt
end Go.Proofs.Ytpblhbagjmnmpaa
