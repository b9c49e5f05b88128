/- Plain facts on the values of operations on numbers of at most eight bits. Conditions: the numbers are values of their widths. -/
import Derived.Test.YtpblhbagjmnmpaaBtR
import Derived.Test.YtpblhbagjmnmpaaBtM
set_option linter.unusedVariables false
set_option linter.unusedSimpArgs false
namespace Go.Proofs.Ytpblhbagjmnmpaa
open Go Go.RowKit
open Go.MapKept
namespace Bt

theorem within1 {x N : Int} (hx : 0 ≤ x ∧ x ≤ mask N) : within [x] [N] 1 = true := by
  simp [within, List.range_succ, okAt, hx.1, hx.2]
theorem within2 {x y N K : Int} (hx : 0 ≤ x ∧ x ≤ mask N) (hy : 0 ≤ y ∧ y ≤ mask K) : within [x, y] [N, K] 2 = true := by
  simp [within, List.range_succ, okAt, hx.1, hx.2, hy.1, hy.2]
theorem within3 {x y z N K L : Int} (hx : 0 ≤ x ∧ x ≤ mask N) (hy : 0 ≤ y ∧ y ≤ mask K) (hz : 0 ≤ z ∧ z ≤ mask L) : within [x, y, z] [N, K, L] 3 = true := by
  simp [within, List.range_succ, okAt, hx.1, hx.2, hy.1, hy.2, hz.1, hz.2]
theorem width_fit {op : Int} {ws : List Int} {k w r : Int} (h : wide op ws k w = r) (hf : fit r = true) : width op ws k w ≠ 0 := by
  rw [(rnumw h hf)]
  rw [fit_iff] at hf
  omega
where
  rnumw {op : Int} {ws : List Int} {k w r : Int} (h : wide op ws k w = r) (hf : fit r = true) : width op ws k w = r := by unfold width; rw [h, hf]; rfl
theorem wide2 {op N : Int} (h0 : 3 ≤ op) (h1 : op ≤ 9) (fN : fit N = true) : ∃ r, wide op [N, N] 0 0 = r ∧ fit r = true := by
  have ha : alike [N, N] 2 = true := (alike_2 fN fN).trans (decide_eq_true rfl)
  have hc : op = 3 ∨ op = 4 ∨ op = 5 ∨ op = 6 ∨ op = 7 ∨ op = 8 ∨ op = 9 := by omega
  rcases hc with rfl | rfl | rfl | rfl | rfl | rfl | rfl
  · exact ⟨N, by simp [wide, ha], fN⟩
  · exact ⟨N, by simp [wide, ha], fN⟩
  · exact ⟨N, by simp [wide, ha], fN⟩
  · exact ⟨N, by simp [wide, ha], fN⟩
  · exact ⟨N, by simp [wide, ha], fN⟩
  · exact ⟨1, by simp [wide, ha], rfl⟩
  · exact ⟨1, by simp [wide, ha], rfl⟩
theorem res2 {op N x y : Int} (h0 : 3 ≤ op) (h1 : op ≤ 9) (fN : fit N = true) (hx : 0 ≤ x ∧ x ≤ mask N) (hy : 0 ≤ y ∧ y ≤ mask N) :
    res op [N, N] [x, y] [0, 0] = val op [N, N] [x, y] 0 0 := by
  obtain ⟨r, hr, hf⟩ := wide2 h0 h1 fN
  exact res_yes (okay_all (width_fit hr hf) rfl (within2 hx hy))
theorem resNot {N x : Int} (fN : fit N = true) (hx : 0 ≤ x ∧ x ≤ mask N) : res 2 [N] [x] [0, 0] = mask N - x :=
  res_yes (okay_all (width_fit (r := N) (by simp [wide, alike_1 fN]) fN) rfl (within1 hx))
theorem resSlice {N x k n : Int} (fN : fit N = true) (hx : 0 ≤ x ∧ x ≤ mask N) (fn : fit n = true) (hk : 0 ≤ k) (hn : k ≤ N - n) : res 12 [N] [x] [k, n] = Go.bits .and .i64 (x / 2 ^ k.toNat) (mask n) :=
  res_yes (okay_all (width_fit (r := n) (by unfold wide; rw [if_neg (by decide), if_neg (by decide), if_neg (by decide), if_neg (by decide), if_neg (by decide), if_neg (by decide), if_pos rfl, if_pos ⟨alike_1 fN, fn, hk, hn⟩]) fn) rfl (within1 hx))
theorem resExt {N x t : Int} (fN : fit N = true) (hx : 0 ≤ x ∧ x ≤ mask N) (ft : fit t = true) (ht : N ≤ t) : res 13 [N] [x] [0, t] = x :=
  res_yes (okay_all (width_fit (r := t) (by simp [wide, alike_1 fN, ht]) ft) rfl (within1 hx))
theorem resCat {N K x y : Int} (fN : fit N = true) (fK : fit K = true) (fS : fit (N + K) = true) (hx : 0 ≤ x ∧ x ≤ mask N) (hy : 0 ≤ y ∧ y ≤ mask K) : res 11 [N, K] [x, y] [0, 0] = Go.bits .or .i64 (x * 2 ^ K.toNat) y :=
  res_yes (okay_all (width_fit (r := N + K) (by simp [wide, fN, fK]) fS) rfl (within2 hx hy))
theorem resMux {N c x y : Int} (fN : fit N = true) (hc : 0 ≤ c ∧ c ≤ 1) (hx : 0 ≤ x ∧ x ≤ mask N) (hy : 0 ≤ y ∧ y ≤ mask N) : res 10 [1, N, N] [c, x, y] [0, 0] = if c = 1 then x else y :=
  res_yes (okay_all (width_fit (r := N) (by simp [wide, (alike_3 fit_1' fN fN).trans (decide_eq_true rfl)]) fN) rfl (within3 (by rw [mask1]; omega) hx hy))
where
  fit_1' : fit 1 = true := rfl
  mask1 : mask 1 = 1 := rfl
theorem mask_pow {N : Int} (fN : fit N = true) : 2 ^ N.toNat = mask N + 1 := by
  rw [fit_iff] at fN
  rw [mask_in (by omega) (by omega)]
  omega
theorem bits_and_nat {i j : Nat} (hi : i < 512) (hj : j < 512) : Go.bits .and .i64 (i : Int) (j : Int) = ((i &&& j : Nat) : Int) := (bits_nat .i64 9 (by decide) (fun n h0 h1 => wraps_i64 n h0 (by have e : (2 : Int) ^ 9 = 512 := rfl; have e2 : (2 : Int) ^ 63 = 9223372036854775808 := rfl; omega)) i j hi hj).1
theorem bits_or_nat {i j : Nat} (hi : i < 512) (hj : j < 512) : Go.bits .or .i64 (i : Int) (j : Int) = ((i ||| j : Nat) : Int) := (bits_nat .i64 9 (by decide) (fun n h0 h1 => wraps_i64 n h0 (by have e : (2 : Int) ^ 9 = 512 := rfl; have e2 : (2 : Int) ^ 63 = 9223372036854775808 := rfl; omega)) i j hi hj).2
theorem bits_xor_nat {i j : Nat} (hi : i < 512) (hj : j < 512) : Go.bits .xor .i64 (i : Int) (j : Int) = ((i ^^^ j : Nat) : Int) := by
  have hx : i ^^^ j < 2 ^ 9 := Nat.xor_lt_two_pow hi hj
  simp only [Go.bits, BitVec.ofInt_natCast, BitVec.toNat_xor, BitVec.toNat_ofNat]
  rw [show IntKind.i64.bits = 64 from rfl, Nat.mod_eq_of_lt (show i < 2 ^ 64 by omega), Nat.mod_eq_of_lt (show j < 2 ^ 64 by omega)]
  exact wraps_i64 _ (by omega) (by have e2 : (2 : Int) ^ 63 = 9223372036854775808 := rfl; omega)
theorem nat_sum : ∀ n i j : Nat, i < n → (i ^^^ j) + 2 * (i &&& j) = i + j ∧ (i ^^^ j) + (i &&& j) = i ||| j := by
  intro n
  induction n with
  | zero => intro i j h; omega
  | succ n ih =>
    intro i j h
    by_cases h0 : i = 0
    · subst h0; simp
    · have hd := ih (i / 2) (j / 2) (by omega)
      have x1 := @Nat.xor_div_two i j
      have a1 := @Nat.and_div_two i j
      have o1 := @Nat.or_div_two i j
      have x2 := @Nat.xor_mod_two_eq_one i j
      have a2 := @Nat.and_mod_two_eq_one i j
      have o2 := @Nat.or_mod_two_eq_one i j
      rw [← x1, ← a1, ← o1] at hd
      omega
theorem nat_and_not (n i j : Nat) (hi : i < 2 ^ n) (hj : j < 2 ^ n) : (i &&& j) ^^^ (2 ^ n - 1) = (i ^^^ (2 ^ n - 1)) ||| (j ^^^ (2 ^ n - 1)) := by
  apply Nat.eq_of_testBit_eq
  intro k
  simp only [Nat.testBit_xor, Nat.testBit_and, Nat.testBit_or, Nat.testBit_two_pow_sub_one]
  by_cases h : k < n
  · simp [h]
  · have h1 : i.testBit k = false := Nat.testBit_lt_two_pow (Nat.lt_of_lt_of_le hi (Nat.pow_le_pow_right (by omega) (by omega)))
    have h2 : j.testBit k = false := Nat.testBit_lt_two_pow (Nat.lt_of_lt_of_le hj (Nat.pow_le_pow_right (by omega) (by omega)))
    simp [h, h1, h2]
theorem nat_or_not (n i j : Nat) (hi : i < 2 ^ n) (hj : j < 2 ^ n) : (i ||| j) ^^^ (2 ^ n - 1) = (i ^^^ (2 ^ n - 1)) &&& (j ^^^ (2 ^ n - 1)) := by
  apply Nat.eq_of_testBit_eq
  intro k
  simp only [Nat.testBit_xor, Nat.testBit_and, Nat.testBit_or, Nat.testBit_two_pow_sub_one]
  by_cases h : k < n
  · simp [h]
  · have h1 : i.testBit k = false := Nat.testBit_lt_two_pow (Nat.lt_of_lt_of_le hi (Nat.pow_le_pow_right (by omega) (by omega)))
    have h2 : j.testBit k = false := Nat.testBit_lt_two_pow (Nat.lt_of_lt_of_le hj (Nat.pow_le_pow_right (by omega) (by omega)))
    simp [h, h1, h2]
theorem nat_xor_all : ∀ n : Fin 9, ∀ i : Fin 256, i.val < 2 ^ n.val → i.val ^^^ (2 ^ n.val - 1) = 2 ^ n.val - 1 - i.val := by decide +kernel

theorem mod_low {v K : Int} (h0 : 0 ≤ v) (h1 : v < 2 * K) : v % K = if v < K then v else v - K := by
  split
  · exact Int.emod_eq_of_lt h0 (by assumption)
  · rw [← Int.sub_emod_right]
    exact Int.emod_eq_of_lt (by omega) (by omega)
theorem nat_not {n i : Nat} (hn : n ≤ 8) (hi : i < 2 ^ n) : i ^^^ (2 ^ n - 1) = 2 ^ n - 1 - i := by
  have h8 : 2 ^ n ≤ 2 ^ 8 := Nat.pow_le_pow_right (by omega) hn
  exact nat_xor_all ⟨n, by omega⟩ ⟨i, by omega⟩ hi

theorem arith_facts {N x y : Int} (fN : fit N = true) (hx : 0 ≤ x ∧ x ≤ mask N) (hy : 0 ≤ y ∧ y ≤ mask N) :
    ∃ M s d nx ny an o xo t an' o' : Int, mask N = M ∧ 2 ^ N.toNat = M + 1 ∧ (1 ≤ M ∧ M ≤ 255) ∧ (0 ≤ s ∧ s ≤ M) ∧ (0 ≤ d ∧ d ≤ M) ∧ (0 ≤ an ∧ an ≤ 255) ∧ (0 ≤ o ∧ o ≤ 255) ∧ (0 ≤ xo ∧ xo ≤ 255) ∧ (0 ≤ nx ∧ nx ≤ 255) ∧
      res 6 [N, N] [x, y] [0, 0] = s ∧ res 7 [N, N] [x, y] [0, 0] = d ∧ res 2 [N] [x] [0, 0] = nx ∧ res 2 [N] [y] [0, 0] = ny ∧
      res 3 [N, N] [x, y] [0, 0] = an ∧ res 4 [N, N] [x, y] [0, 0] = o ∧ res 5 [N, N] [x, y] [0, 0] = xo ∧
      res 7 [N, N] [s, y] [0, 0] = x ∧ res 6 [N, N] [d, y] [0, 0] = x ∧ res 6 [N, N] [y, x] [0, 0] = s ∧
      res 6 [N, N] [x, ny] [0, 0] = t ∧ res 6 [N, N] [t, 1] [0, 0] = d ∧
      res 2 [N] [an] [0, 0] = an' ∧ res 4 [N, N] [nx, ny] [0, 0] = an' ∧ res 2 [N] [o] [0, 0] = o' ∧ res 3 [N, N] [nx, ny] [0, 0] = o' ∧
      nx + x = M ∧ Go.bits .and .i64 (xo + 2 * an) M = s ∧ xo + an = o := by
  obtain ⟨n, rfl, h1, h8⟩ := fit_nat fN
  have hM := mask_pow fN
  have hMl := mask_le fN
  obtain ⟨i, rfl⟩ := Int.eq_ofNat_of_zero_le hx.1
  obtain ⟨j, rfl⟩ := Int.eq_ofNat_of_zero_le hy.1
  have hp : ((2 ^ n : Nat) : Int) = mask (n : Int) + 1 := by rw [← hM]; simp
  have hi : i < 2 ^ n := by omega
  have hj : j < 2 ^ n := by omega
  have hS := nat_sum (i + 1) i j (by omega)
  have hA : i &&& j < 2 ^ n := Nat.and_lt_two_pow _ hj
  have hO : i ||| j < 2 ^ n := Nat.or_lt_two_pow hi hj
  have hX : i ^^^ j < 2 ^ n := Nat.xor_lt_two_pow hi hj
  have hna := nat_and_not n i j hi hj
  have hno := nat_or_not n i j hi hj
  rw [nat_not h8 hA, nat_not h8 hi, nat_not h8 hj] at hna
  rw [nat_not h8 hO, nat_not h8 hi, nat_not h8 hj] at hno
  have eA : Go.bits .and .i64 (i : Int) (j : Int) = ((i &&& j : Nat) : Int) := bits_and_nat (by omega) (by omega)
  have eO : Go.bits .or .i64 (i : Int) (j : Int) = ((i ||| j : Nat) : Int) := bits_or_nat (by omega) (by omega)
  have eX : Go.bits .xor .i64 (i : Int) (j : Int) = ((i ^^^ j : Nat) : Int) := bits_xor_nat (by omega) (by omega)
  have cx : mask (n : Int) - (i : Int) = ((2 ^ n - 1 - i : Nat) : Int) := by omega
  have cy : mask (n : Int) - (j : Int) = ((2 ^ n - 1 - j : Nat) : Int) := by omega
  have eA' : Go.bits .and .i64 (mask (n : Int) - (i : Int)) (mask (n : Int) - (j : Int)) = mask (n : Int) - ((i ||| j : Nat) : Int) := by
    rw [cx, cy, bits_and_nat (by omega) (by omega), ← hno]; omega
  have eO' : Go.bits .or .i64 (mask (n : Int) - (i : Int)) (mask (n : Int) - (j : Int)) = mask (n : Int) - ((i &&& j : Nat) : Int) := by
    rw [cx, cy, bits_or_nat (by omega) (by omega), ← hna]; omega
  have r6 : ∀ {u v : Int}, 0 ≤ u ∧ u ≤ mask (n : Int) → 0 ≤ v ∧ v ≤ mask (n : Int) → res 6 [(n : Int), n] [u, v] [0, 0] = if u + v < mask (n : Int) + 1 then u + v else u + v - (mask (n : Int) + 1) := fun {u v} hu hv => (res2 (by decide) (by decide) fN hu hv).trans (mod_low (v := u + v) (K := mask (n : Int) + 1) (by omega) (by omega))
  have r7 : ∀ {u v : Int}, 0 ≤ u ∧ u ≤ mask (n : Int) → 0 ≤ v ∧ v ≤ mask (n : Int) → res 7 [(n : Int), n] [u, v] [0, 0] = if u - v + mask (n : Int) + 1 < mask (n : Int) + 1 then u - v + mask (n : Int) + 1 else u - v + mask (n : Int) + 1 - (mask (n : Int) + 1) := fun {u v} hu hv => (res2 (by decide) (by decide) fN hu hv).trans (mod_low (v := u - v + mask (n : Int) + 1) (K := mask (n : Int) + 1) (by omega) (by omega))
  have hs := r6 hx hy
  have hd := r7 hx hy
  obtain ⟨s, es⟩ : ∃ s, res 6 [(n : Int), n] [(i : Int), j] [0, 0] = s := ⟨_, rfl⟩
  obtain ⟨d, ed⟩ : ∃ d, res 7 [(n : Int), n] [(i : Int), j] [0, 0] = d := ⟨_, rfl⟩
  rw [es] at hs
  rw [ed] at hd
  have bs : 0 ≤ s ∧ s ≤ mask (n : Int) := by split at hs <;> omega
  have bd : 0 ≤ d ∧ d ≤ mask (n : Int) := by split at hd <;> omega
  have bny : 0 ≤ mask (n : Int) - (j : Int) ∧ mask (n : Int) - (j : Int) ≤ mask (n : Int) := by omega
  have bnx : 0 ≤ mask (n : Int) - (i : Int) ∧ mask (n : Int) - (i : Int) ≤ mask (n : Int) := by omega
  have ht := r6 hx bny
  obtain ⟨t, et⟩ : ∃ t, res 6 [(n : Int), n] [(i : Int), mask (n : Int) - j] [0, 0] = t := ⟨_, rfl⟩
  rw [et] at ht
  have bt : 0 ≤ t ∧ t ≤ mask (n : Int) := by split at ht <;> omega
  refine ⟨mask (n : Int), s, d, mask (n : Int) - i, mask (n : Int) - j, ((i &&& j : Nat) : Int), ((i ||| j : Nat) : Int), ((i ^^^ j : Nat) : Int), t, mask (n : Int) - ((i &&& j : Nat) : Int), mask (n : Int) - ((i ||| j : Nat) : Int),
    rfl, hM, hMl, bs, bd, by omega, by omega, by omega, by omega, es, ed, resNot fN hx, resNot fN hy,
    (res2 (by decide) (by decide) fN hx hy).trans eA, (res2 (by decide) (by decide) fN hx hy).trans eO, (res2 (by decide) (by decide) fN hx hy).trans eX,
    ?_, ?_, ?_, et, ?_, resNot fN (by omega), (res2 (by decide) (by decide) fN bnx bny).trans eO', resNot fN (by omega), (res2 (by decide) (by decide) fN bnx bny).trans eA', by omega, ?_, by omega⟩
  · rw [r7 bs hy]; split at hs <;> split <;> omega
  · rw [r6 bd hy]; split at hd <;> split <;> omega
  · rw [r6 hy hx]; split at hs <;> split <;> omega
  · rw [r6 bt (by omega)]; split at hd <;> split at ht <;> split <;> omega
  · rw [and_low fN (by omega) (by omega), mod_low (by omega) (by omega)]; split at hs <;> split <;> omega
end Bt
end Go.Proofs.Ytpblhbagjmnmpaa
