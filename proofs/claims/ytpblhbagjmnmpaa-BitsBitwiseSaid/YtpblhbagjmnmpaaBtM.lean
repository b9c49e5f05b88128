/- Contracts of Join, of the reference's Join and Bools. Conditions: the slices' cells read as the lists. -/
import Derived.Test.YtpblhbagjmnmpaaBtE
import Derived.Laws.BitsLemmas
set_option linter.unusedVariables false
set_option linter.unusedSimpArgs false
namespace Go.Proofs.Ytpblhbagjmnmpaa
open Go Go.RowKit
namespace Bt

/-- A slice's cells from address A on read as the truth values xs. -/
structure RdB (W : World) (A : Option Addr) (xs : List Bool) : Prop where
  len : xs.length ≤ 9223372036854775807
  at_ : 0 < xs.length → ∃ b o, A = some ⟨b, o, none⟩ ∧ ∀ j, j < xs.length → W.cell? ⟨b, o + j, none⟩ = some (.bool (xs.getD j false))
theorem RdB.below {W W' : World} {A : Option Addr} {xs : List Bool} (h : RdB W A xs) (hb : Below W.heap.size W W') : RdB W' A xs :=
  ⟨h.len, fun hn => by
    obtain ⟨b, o, e, hc⟩ := h.at_ hn
    exact ⟨b, o, e, fun j hj => (hb.cell (World.block_lt_of_cell? W _ (hc j hj))).trans (hc j hj)⟩⟩
/-- The number with given bits, the lowest first. -/
def num : List Bool → Int
  | [] => 0
  | b :: l => b2i b + 2 * num l
theorem b2i_range (b : Bool) : 0 ≤ b2i b ∧ b2i b ≤ 1 := by cases b <;> decide
theorem num_snoc (l : List Bool) (b : Bool) : num (l ++ [b]) = num l + b2i b * 2 ^ l.length := by
  induction l with
  | nil => simp [num]
  | cons x l ih =>
    simp only [List.cons_append, num, ih, List.length_cons, Int.pow_succ]
    rw [Int.mul_add, ← Int.add_assoc]
    congr 1
    rw [Int.mul_comm (2 ^ l.length) 2, Int.mul_left_comm]
theorem num_range (l : List Bool) : 0 ≤ num l ∧ num l < 2 ^ l.length := by
  induction l with
  | nil => simp [num]
  | cons b l ih =>
    have := b2i_range b
    simp only [num, List.length_cons, Int.pow_succ]
    omega
theorem wraps_i64 (n : Int) (h₀ : 0 ≤ n) (h₁ : n < 2 ^ 63) : IntKind.i64.wrap n = n := by
  have e : (2 : Int) ^ 63 = 9223372036854775808 := rfl
  rw [IntKind.wrap_i64]
  omega
/-- A bit above a number is put in by 'or'. -/
theorem or_high {n : Int} {k : Nat} (h0 : 0 ≤ n) (h1 : n < 2 ^ k) (hk : k < 62) (b : Bool) : Go.bits .or .i64 n (b2i b * 2 ^ k) = n + b2i b * 2 ^ k := by
  obtain ⟨m, rfl⟩ := Int.eq_ofNat_of_zero_le h0
  have hp : ((2 ^ k : Nat) : Int) = (2 : Int) ^ k := Int.natCast_pow 2 k
  have hm : m < 2 ^ k := by omega
  have hkk : 2 ^ k < 2 ^ 63 := Nat.pow_lt_pow_right (by omega) (by omega)
  have hm2 : m < 2 ^ 63 := by omega
  cases b with
  | false =>
    have e : b2i false * (2 : Int) ^ k = ((0 : Nat) : Int) := by simp [b2i]
    rw [e, (bits_nat .i64 63 (by decide) wraps_i64 m 0 hm2 (by decide)).2]
    simp
  | true =>
    have e : b2i true * (2 : Int) ^ k = ((2 ^ k : Nat) : Int) := by rw [hp]; simp [b2i]
    rw [e, (bits_nat .i64 63 (by decide) wraps_i64 m (2 ^ k) hm2 hkk).2, Nat.or_comm]
    have := Nat.two_pow_add_eq_or_of_lt hm 1
    simp only [Nat.mul_one] at this
    rw [← this]
    push_cast
    omega
theorem take_snocB (l : List Bool) (k : Nat) (h : k < l.length) : l.take (k + 1) = l.take k ++ [l[k]] := List.take_succ_eq_append_getElem h
/-- What Join returns. -/
def join (l : List Bool) : Int := num (l.take 62)

set_option maxHeartbeats 400000 in
theorem RJoin_any (A : Option Addr) (c : Nat) (l : List Bool) (W : World) (hr : RdB W A l) :
    Calls Try.prog 20 #[.slice A l.length c] W fun e W' => e = .returned (.int .i64 (join l)) ∧ W = W' := by
  have hm := hr.len
  go_enter Try.func20, Try.ntmps20
  go_wp2
  go_loop [3, 4] (fun n i => ∃ k : Nat, k ≤ l.length ∧ k ≤ 62 ∧ i = .int .i64 k ∧ n = .int .i64 (num (l.take k))) (fun _ i => l.length - (intOf i).toNat)
  case atStart => exact ⟨0, Nat.zero_le _, Nat.zero_le _, rfl, rfl⟩
  case round =>
    obtain ⟨k, hk, hk2, rfl, rfl⟩ := hrel
    by_cases hlt : k < l.length
    · by_cases hlt2 : k < 62
      · obtain ⟨b, o, rfl, hc⟩ := hr.at_ (by omega)
        have hcell := hc k hlt
        have hg : l.getD k false = l[k] := by simp [List.getD_eq_getElem?_getD, List.getElem?_eq_getElem hlt]
        rw [hg] at hcell
        have hl : (l.take k).length = k := by simp; omega
        have hn := num_range (l.take k)
        rw [hl] at hn
        have hs : num (l.take (k + 1)) = num (l.take k) + b2i l[k] * 2 ^ k := by rw [take_snocB l k hlt, num_snoc, hl]
        have ho := or_high hn.1 hn.2 hlt2 l[k]
        have hp := pow_bd (n := k) (by omega)
        have d1 : decide (k < l.length) = true := decide_eq_true hlt
        have d2 : decide ((k : Int) < 62) = true := decide_eq_true (by omega)
        generalize l[k] = x at hcell hs ho
        generalize num (l.take k) = N at hs ho hn ⊢
        cases x with
        | false =>
          have HS := Lib.hid (show num (l.take (k + 1)) = N by rw [hs]; simp [b2i])
          clear hs ho hn hg hc
          go_wp2
          exact ⟨⟨k + 1, by omega, by omega, by go_num, by rw [HS.out]⟩, by simp [intOf]; omega⟩
        | true =>
          have HS := Lib.hid (show num (l.take (k + 1)) = Go.bits .or .i64 N (2 ^ k) by rw [hs, ← ho]; simp [b2i])
          clear hs ho hn hg hc
          go_wp2
          exact ⟨⟨k + 1, by omega, by omega, by go_num, by rw [HS.out]⟩, by simp [intOf]; omega⟩
      · obtain rfl : k = 62 := by omega
        have d1 : decide (62 < l.length) = true := decide_eq_true hlt
        go_wp2
        go_ret
        exact ⟨rfl, rfl⟩
    · have d1 : decide (k < l.length) = false := decide_eq_false hlt
      have HJ := Lib.hid (show join l = num (l.take k) by unfold join; rw [List.take_of_length_le (by omega), List.take_of_length_le (by omega)])
      go_wp2
      go_ret
      exact ⟨ret_int HJ.out.symm, rfl⟩

theorem join_take {l : List Bool} (h : l.length ≤ 62) : join l = num l := by unfold join; rw [List.take_of_length_le h]

set_option maxHeartbeats 400000 in
theorem Join_any (A : Option Addr) (c : Nat) (l : List Bool) (W : World) (hr : RdB W A l) (hcap : l.length ≤ c) :
    Calls Try.prog 19 #[.slice A l.length c] W fun e W' => e = .returned (.int .i64 (join l)) ∧ W = W' := by
  have hm := hr.len
  by_cases h62 : l.length ≤ 62
  · go_enter Try.func19, Try.ntmps19
    go_wp2
    go_loop [3, 12] (fun n i => ∃ k : Nat, k ≤ l.length ∧ i = .int .i64 k ∧ n = .int .i64 (num (l.take k))) (fun _ i => l.length - (intOf i).toNat)
    case atStart => exact ⟨0, Nat.zero_le _, rfl, rfl⟩
    case round =>
      obtain ⟨k, hk, rfl, rfl⟩ := hrel
      by_cases hlt : k < l.length
      · have hlt' : k < l.length := by omega
        obtain ⟨b, o, rfl, hc⟩ := hr.at_ (by omega)
        have hcell := hc k hlt'
        have hg : l.getD k false = l[k] := by simp [List.getD_eq_getElem?_getD, List.getElem?_eq_getElem hlt']
        rw [hg] at hcell
        have hl : (l.take k).length = k := by simp; omega
        have hn := num_range (l.take k)
        rw [hl] at hn
        have hs : num (l.take (k + 1)) = num (l.take k) + b2i l[k] * 2 ^ k := by rw [take_snocB l k hlt', num_snoc, hl]
        have ho := or_high hn.1 hn.2 (by omega) l[k]
        have hp := pow_bd (n := k) (by omega)
        generalize l[k] = x at hcell hs ho
        generalize num (l.take k) = N at hs ho hn ⊢
        have hx := b2i_range x
        have hmul : 0 ≤ b2i x * 2 ^ k ∧ b2i x * 2 ^ k ≤ 4611686018427387904 := by
          cases x with
          | false => simp [b2i]
          | true => simp only [b2i, if_true, Int.one_mul]; omega
        have e1 : IntKind.i64.wrap (b2i x * 2 ^ k) = b2i x * 2 ^ k := IntWalk.i64_in _ (by omega)
        have e2 : wrap64 (b2i x * 2 ^ k) = b2i x * 2 ^ k := IntWalk.wrap64_in _ (by omega)
        have HS := Lib.hid (hs.trans ho.symm)
        clear hs ho hn hg hc hx
        go_wp2_with (go_at_call 32; refine (bit_any _ _).mono ?_; rintro e w' ⟨rfl, rfl⟩)
        exact ⟨⟨k + 1, by omega, by go_num, by rw [HS.out]⟩, by simp [intOf] <;> omega⟩
      · have HJ := Lib.hid (show join l = num (l.take k) by unfold join; rw [List.take_of_length_le (by omega), List.take_of_length_le (by omega)])
        go_wp2
        go_ret
        exact ⟨ret_int HJ.out.symm, rfl⟩
  · go_enter Try.func19, Try.ntmps19
    go_wp2
    go_loop [3, 12] (fun n i => ∃ k : Nat, k ≤ 62 ∧ i = .int .i64 k ∧ n = .int .i64 (num (l.take k))) (fun _ i => 62 - (intOf i).toNat)
    case atStart => exact ⟨0, Nat.zero_le _, rfl, rfl⟩
    case round =>
      obtain ⟨k, hk, rfl, rfl⟩ := hrel
      by_cases hlt : k < 62
      · have hlt' : k < l.length := by omega
        obtain ⟨b, o, rfl, hc⟩ := hr.at_ (by omega)
        have hcell := hc k hlt'
        have hg : l.getD k false = l[k] := by simp [List.getD_eq_getElem?_getD, List.getElem?_eq_getElem hlt']
        rw [hg] at hcell
        have hl : (l.take k).length = k := by simp; omega
        have hn := num_range (l.take k)
        rw [hl] at hn
        have hs : num (l.take (k + 1)) = num (l.take k) + b2i l[k] * 2 ^ k := by rw [take_snocB l k hlt', num_snoc, hl]
        have ho := or_high hn.1 hn.2 (by omega) l[k]
        have hp := pow_bd (n := k) (by omega)
        generalize l[k] = x at hcell hs ho
        generalize num (l.take k) = N at hs ho hn ⊢
        have hx := b2i_range x
        have hmul : 0 ≤ b2i x * 2 ^ k ∧ b2i x * 2 ^ k ≤ 4611686018427387904 := by
          cases x with
          | false => simp [b2i]
          | true => simp only [b2i, if_true, Int.one_mul]; omega
        have e1 : IntKind.i64.wrap (b2i x * 2 ^ k) = b2i x * 2 ^ k := IntWalk.i64_in _ (by omega)
        have e2 : wrap64 (b2i x * 2 ^ k) = b2i x * 2 ^ k := IntWalk.wrap64_in _ (by omega)
        have HS := Lib.hid (hs.trans ho.symm)
        clear hs ho hn hg hc hx
        go_wp2_with (go_at_call 32; refine (bit_any _ _).mono ?_; rintro e w' ⟨rfl, rfl⟩)
        exact ⟨⟨k + 1, by omega, by go_num, by rw [HS.out]⟩, by simp [intOf] <;> omega⟩
      · have HJ := Lib.hid (show join l = num (l.take k) by unfold join; rw [show k = 62 from by omega])
        go_wp2
        go_ret
        exact ⟨ret_int HJ.out.symm, rfl⟩

set_option maxHeartbeats 400000 in
/-- wireloomref07.Bools -/
theorem Bools_any (A B : Option Addr) (c d : Nat) (xs ys : List Bool) (W : World) (hr : RdB W A xs) (hs : RdB W B ys) :
    Calls Try.prog 16 #[.slice A xs.length c, .slice B ys.length d] W fun e W' => e = .returned (.bool (decide (xs = ys))) ∧ ∃ q, W.drewN q = W' := by
  have hm := hr.len
  have hm2 := hs.len
  by_cases hl : xs.length = ys.length
  · have b1 : ((xs.length : Int) != (ys.length : Int)) = false := by rw [bne_eq_false_iff_eq]; omega
    have HL := Lib.hid hl
    clear hl
    go_enter Try.func16, Try.ntmps16
    go_wp2
    go_loopw [5] (fun i wr => ∃ k : Nat, k ≤ xs.length ∧ i = .int .i64 k ∧ (xs.take k = ys.take k) ∧ ∃ q, W.drewN q = wr) (fun i _ => xs.length - (intOf i).toNat)
    case atStart => exact ⟨0, Nat.zero_le _, rfl, rfl, 0, rfl⟩
    case round =>
      obtain ⟨k, hk, rfl, ht, q, rfl⟩ := hrel
      by_cases hlt : k < xs.length
      · have hlt2 : k < ys.length := by have := HL.out; omega
        obtain ⟨b1_, o1, rfl, hc1⟩ := hr.at_ (by omega)
        obtain ⟨b2_, o2, rfl, hc2⟩ := hs.at_ (by omega)
        have c1 := hc1 k hlt
        have c2 := hc2 k hlt2
        have hg1 : xs.getD k false = xs[k] := by simp [List.getD_eq_getElem?_getD, List.getElem?_eq_getElem hlt]
        have hg2 : ys.getD k false = ys[k] := by simp [List.getD_eq_getElem?_getD, List.getElem?_eq_getElem hlt2]
        rw [hg1] at c1
        rw [hg2] at c2
        have hs1 := take_snocB xs k hlt
        have hs2 := take_snocB ys k hlt2
        have hne : xs[k] ≠ ys[k] → xs ≠ ys := fun h e => h (by subst e; rfl)
        generalize xs[k] = x at c1 hs1 hne
        generalize ys[k] = y at c2 hs2 hne
        have HT := Lib.hid ht
        have HS1 := Lib.hid hs1
        have HS2 := Lib.hid hs2
        have HNE := Lib.hid hne
        have j0 : (0 : Int) ≤ (k : Int) := by omega
        have j1 : (k : Int) < (xs.length : Int) := by omega
        have j2 : (k : Int) < (ys.length : Int) := by omega
        clear ht hs1 hs2 hne hc1 hc2 hg1 hg2
        by_cases e : x = y
        · have e1 : (x == y) = true := by simp [e]
          have E := Lib.hid e
          clear e HNE
          go_wp2
          go_quiet (fail)
          go_wp2
          exact ⟨⟨k + 1, by omega, by go_num, by rw [HS1.out, HS2.out, HT.out, E.out], _, rfl⟩, by simp [intOf] <;> omega⟩
        · have e1 : (x == y) = false := by simp [e]
          have E := Lib.hid e
          clear e
          go_wp2
          go_quiet (fail)
          go_wp2
          go_ret
          exact ⟨ret_bool (by rw [decide_eq_false (HNE.out E.out)]), _, (World.drewN_drewN ..).symm⟩
      · have HD := Lib.hid (show xs = ys by rw [List.take_of_length_le (by omega), List.take_of_length_le (by have := HL.out; omega)] at ht; exact ht)
        clear ht
        go_wp2
        go_ret
        exact ⟨ret_bool (decide_eq_true HD.out).symm, q, rfl⟩
  · have b1 : ((xs.length : Int) != (ys.length : Int)) = true := by rw [bne_iff_ne]; omega
    have HL := Lib.hid hl
    clear hl
    go_enter Try.func16, Try.ntmps16
    go_wp2
    go_ret
    exact ⟨ret_bool (by rw [decide_eq_false]; intro h; exact HL.out (by rw [h])), 0, rfl⟩
end Bt
end Go.Proofs.Ytpblhbagjmnmpaa
