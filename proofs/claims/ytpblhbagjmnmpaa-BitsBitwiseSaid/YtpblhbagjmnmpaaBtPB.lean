/- Plain facts for BitsBitwise: the number with given bits. Conditions: widths from 1 to 8. -/
import Derived.Test.YtpblhbagjmnmpaaBtT
import Derived.Test.YtpblhbagjmnmpaaBtN
set_option linter.unusedVariables false
set_option linter.unusedSimpArgs false
namespace Go.Proofs.Ytpblhbagjmnmpaa
open Go Go.RowKit
open Go.MapKept
namespace Bt

def row (f : Nat → Bool) (k : Nat) : List Bool := (List.range k).map f
theorem row_succ (f : Nat → Bool) (k : Nat) : row f (k + 1) = row f k ++ [f k] := by simp [row, List.range_succ]
theorem row_length (f : Nat → Bool) (k : Nat) : (row f k).length = k := by simp [row]
theorem row_at (f : Nat → Bool) {k j : Nat} (h : j < k) : (row f k).getD j false = f j := by simp [row, List.getD_eq_getElem?_getD, List.getElem?_range h]
theorem bitAt_nat {i : Nat} (hi : i < 512) (j : Nat) : bitAt (i : Int) j = i.testBit j := by
  unfold bitAt
  have e : (i : Int) / 2 ^ j = ((i / 2 ^ j : Nat) : Int) := by simp
  have hd : i / 2 ^ j < 512 := Nat.lt_of_le_of_lt (Nat.div_le_self _ _) hi
  have h1 := bits_and_nat hd (show 1 < 512 by omega)
  rw [e]
  rw [show (1 : Int) = ((1 : Nat) : Int) from rfl, h1, Nat.and_one_is_mod, Nat.testBit_eq_decide_div_mod_eq]
  by_cases h : i / 2 ^ j % 2 = 1
  · rw [decide_eq_true h, h]; rfl
  · rw [decide_eq_false h]
    have h0 : i / 2 ^ j % 2 = 0 := by omega
    rw [h0]; rfl
theorem num_row {z n : Nat} {f : Nat → Bool} (hf : ∀ i, i < n → f i = z.testBit i) : num (row f n) = ((z % 2 ^ n : Nat) : Int) := by
  induction n with
  | zero => simp [row, num, Nat.mod_one]
  | succ n ih =>
    rw [row_succ, num_snoc, ih (fun i hi => hf i (by omega)), row_length, hf n (by omega), Nat.mod_pow_succ, Nat.testBit_eq_decide_div_mod_eq]
    have hp : ((2 ^ n : Nat) : Int) = (2 : Int) ^ n := by simp
    rw [← hp]
    by_cases h : z / 2 ^ n % 2 = 1
    · rw [h, decide_eq_true rfl]; simp [b2i]
    · have h0 : z / 2 ^ n % 2 = 0 := by omega
      rw [h0, decide_eq_false (by decide)]; simp [b2i]
theorem join_row {z n : Nat} {f : Nat → Bool} (hn : n ≤ 8) (hz : z < 2 ^ n) (hf : ∀ i, i < n → f i = z.testBit i) : join (row f n) = (z : Int) := by
  unfold join
  rw [List.take_of_length_le (by rw [row_length]; omega), num_row hf, Nat.mod_eq_of_lt hz]

theorem bitwise_facts {n : Nat} {x y C : Int} (h1 : 1 ≤ n) (h8 : n ≤ 8) (hx : 0 ≤ x ∧ x ≤ mask n) (hy : 0 ≤ y ∧ y ≤ mask n) (hC : C = 0 ∨ C = 1) :
    ∃ r2 r3 r4 r5 r10 : Int, join (row (bitAt x) n) = x ∧ join (row (bitAt y) n) = y ∧
      res 2 [(n : Int)] [x] [0, 0] = r2 ∧ join (row (fun i => !bitAt x i) n) = r2 ∧
      res 3 [(n : Int), n] [x, y] [0, 0] = r3 ∧ join (row (fun i => bitAt x i && bitAt y i) n) = r3 ∧
      res 4 [(n : Int), n] [x, y] [0, 0] = r4 ∧ join (row (fun i => bitAt x i || bitAt y i) n) = r4 ∧
      res 5 [(n : Int), n] [x, y] [0, 0] = r5 ∧ join (row (fun i => bitAt x i != bitAt y i) n) = r5 ∧
      res 10 [1, (n : Int), n] [C, x, y] [0, 0] = r10 ∧ join (row (fun i => if C = 1 then bitAt x i else bitAt y i) n) = r10 := by
  have fN : fit (n : Int) = true := fit_iff.2 (by omega)
  have hM := mask_pow fN
  have hp : ((2 ^ n : Nat) : Int) = mask (n : Int) + 1 := by rw [← hM]; simp
  have h256 : 2 ^ n ≤ 2 ^ 8 := Nat.pow_le_pow_right (by omega) h8
  obtain ⟨i, rfl⟩ := Int.eq_ofNat_of_zero_le hx.1
  obtain ⟨j, rfl⟩ := Int.eq_ofNat_of_zero_le hy.1
  have hi : i < 2 ^ n := by omega
  have hj : j < 2 ^ n := by omega
  have bi : ∀ k, bitAt (i : Int) k = i.testBit k := bitAt_nat (by omega)
  have bj : ∀ k, bitAt (j : Int) k = j.testBit k := bitAt_nat (by omega)
  have ji : join (row (bitAt (i : Int)) n) = i := join_row h8 hi (fun k _ => bi k)
  have jj : join (row (bitAt (j : Int)) n) = j := join_row h8 hj (fun k _ => bj k)
  refine ⟨((i ^^^ (2 ^ n - 1) : Nat) : Int), ((i &&& j : Nat) : Int), ((i ||| j : Nat) : Int), ((i ^^^ j : Nat) : Int), if C = 1 then (i : Int) else j, ji, jj, ?_, ?_, ?_, ?_, ?_, ?_, ?_, ?_, ?_, ?_⟩
  · rw [resNot fN hx, nat_not h8 hi]; omega
  · refine join_row h8 (Nat.xor_lt_two_pow hi (by omega)) (fun k hk => ?_)
    rw [bi, Nat.testBit_xor, Nat.testBit_two_pow_sub_one, decide_eq_true hk]
    cases i.testBit k <;> rfl
  · exact (res2 (by decide) (by decide) fN hx hy).trans (bits_and_nat (by omega) (by omega))
  · exact join_row h8 (Nat.and_lt_two_pow _ hj) (fun k _ => by rw [bi, bj, Nat.testBit_and])
  · exact (res2 (by decide) (by decide) fN hx hy).trans (bits_or_nat (by omega) (by omega))
  · exact join_row h8 (Nat.or_lt_two_pow hi hj) (fun k _ => by rw [bi, bj, Nat.testBit_or])
  · exact (res2 (by decide) (by decide) fN hx hy).trans (bits_xor_nat (by omega) (by omega))
  · exact join_row h8 (Nat.xor_lt_two_pow hi hj) (fun k _ => by rw [bi, bj, Nat.testBit_xor])
  · exact resMux fN (by omega) hx hy
  · rcases hC with rfl | rfl
    · exact jj
    · exact ji
end Bt
end Go.Proofs.Ytpblhbagjmnmpaa
