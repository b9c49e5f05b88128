/- The operators' values in the spec's words: plain facts, and the contract of whatever value function bits.width hands back. Conditions: the operation is valid. -/
import Derived.Test.YtpblhbagjmnmpaaBtH
import Derived.Laws.BitsLemmas
set_option linter.unusedVariables false
set_option linter.unusedSimpArgs false
namespace Go.Proofs.Ytpblhbagjmnmpaa
open Go Go.RowKit
open Go.MapKept
namespace Bt

theorem and_low_all : ∀ i : Fin 9, ∀ d : Fin 766, Go.bits .and .i64 ((d.val : Int) - 255) (2 ^ i.val - 1) = ((d.val : Int) - 255) % 2 ^ i.val := by decide +kernel
theorem xor_low_all : ∀ i : Fin 9, ∀ d : Fin 256, d.val < 2 ^ i.val → Go.bits .xor .i64 (d.val : Int) (2 ^ i.val - 1) = 2 ^ i.val - 1 - (d.val : Int) := by decide +kernel
theorem fit_nat {x : Int} (h : fit x = true) : ∃ i : Nat, x = i ∧ 1 ≤ i ∧ i ≤ 8 := by
  have := fit_iff.1 h
  exact ⟨x.toNat, by omega, by omega, by omega⟩
theorem mask_nat {i : Nat} (h : i ≤ 62) : mask (i : Int) = 2 ^ i - 1 := by rw [mask_in (by omega) (by omega)]; simp
theorem two_le {i : Nat} (h : i ≤ 8) : (1 : Int) ≤ 2 ^ i ∧ (2 : Int) ^ i ≤ 256 := by
  have h2 : 2 ^ i ≤ 2 ^ 8 := Nat.pow_le_pow_right (by omega) h
  have h4 : ((2 ^ i : Nat) : Int) = (2 : Int) ^ i := Int.natCast_pow 2 i
  have h5 : 1 ≤ 2 ^ i := Nat.one_le_two_pow
  have h3 : (2 ^ 8 : Nat) = 256 := rfl
  omega
theorem mask_le {x : Int} (h : fit x = true) : 1 ≤ mask x ∧ mask x ≤ 255 := by
  obtain ⟨i, rfl, h1, h8⟩ := fit_nat h
  rw [mask_nat (by omega)]
  have := two_le h8
  have h2 : (2 : Int) ^ 1 ≤ 2 ^ i := by
    have h2 : 2 ^ 1 ≤ 2 ^ i := Nat.pow_le_pow_right (by omega) h1
    have h4 : ((2 ^ i : Nat) : Int) = (2 : Int) ^ i := Int.natCast_pow 2 i
    omega
  omega
theorem and_low {x d : Int} (h : fit x = true) (h0 : -255 ≤ d) (h1 : d ≤ 510) : Go.bits .and .i64 d (mask x) = d % (mask x + 1) := by
  obtain ⟨i, rfl, hi, h8⟩ := fit_nat h
  rw [mask_nat (by omega)]
  have := and_low_all ⟨i, by omega⟩ ⟨(d + 255).toNat, by omega⟩
  have e : (((d + 255).toNat : Nat) : Int) - 255 = d := by omega
  simp only [e] at this
  rw [this]
  congr 1
  omega
theorem xor_low {x d : Int} (h : fit x = true) (h0 : 0 ≤ d) (h1 : d ≤ mask x) : Go.bits .xor .i64 d (mask x) = mask x - d := by
  have hm := mask_le h
  obtain ⟨i, rfl, hi, h8⟩ := fit_nat h
  rw [mask_nat (by omega)] at *
  have h4 : ((2 ^ i : Nat) : Int) = (2 : Int) ^ i := Int.natCast_pow 2 i
  have := xor_low_all ⟨i, by omega⟩ ⟨d.toNat, by omega⟩ (by show d.toNat < 2 ^ i; omega)
  have e : ((d.toNat : Nat) : Int) = d := by omega
  simp only [e] at this
  exact this

theorem alike1_of {ws : List Int} (h : alike ws 1 = true) : ∃ x, ws = [x] ∧ fit x = true := by
  match ws with
  | [] => simp [alike] at h
  | [x] => exact ⟨x, rfl, by simpa [alike] using h⟩
  | _ :: _ :: _ => simp [alike] at h
theorem alike2_of {ws : List Int} (h : alike ws 2 = true) : ∃ x, ws = [x, x] ∧ fit x = true := by
  match ws with
  | [] => simp [alike] at h
  | [x] => simp [alike] at h
  | [x, y] =>
    simp [alike] at h
    obtain ⟨⟨hx, _⟩, e⟩ := h
    exact ⟨x, by rw [e], hx⟩
  | _ :: _ :: _ :: _ => simp [alike] at h
theorem alike3_of {ws : List Int} (h : alike ws 3 = true) : ∃ x y, ws = [x, y, y] ∧ fit x = true ∧ fit y = true := by
  match ws with
  | [] => simp [alike] at h
  | [x] => simp [alike] at h
  | [x, y] => simp [alike] at h
  | [x, y, z] =>
    simp [alike] at h
    obtain ⟨⟨hx, hy, _⟩, e⟩ := h
    exact ⟨x, y, by rw [e], hx, hy⟩
  | _ :: _ :: _ :: _ :: _ => simp [alike] at h
theorem wide_ne {op : Int} {ws : List Int} {k w : Int} (h : width op ws k w ≠ 0) : wide op ws k w ≠ 0 := fun e => h (width_zero e)
theorem len1 {vs : List Int} (h : vs.length = 1) : ∃ a, vs = [a] := by
  match vs, h with
  | [a], _ => exact ⟨a, rfl⟩
theorem len2 {vs : List Int} (h : vs.length = 2) : ∃ a b, vs = [a, b] := by
  match vs, h with
  | [a, b], _ => exact ⟨a, b, rfl⟩
theorem len3 {vs : List Int} (h : vs.length = 3) : ∃ a b c, vs = [a, b, c] := by
  match vs, h with
  | [a, b, c], _ => exact ⟨a, b, c, rfl⟩
theorem within_at {vs ws : List Int} {n j : Nat} (h : within vs ws n = true) (hj : j < n) : 0 ≤ vs.getD j 0 ∧ vs.getD j 0 ≤ mask (ws.getD j 0) := by
  unfold within at h
  rw [List.all_eq_true] at h
  simpa [okAt] using h j (List.mem_range.2 hj)
theorem rd_1 {W : World} {A : Option Addr} {x : Int} (h : Rd W A [x]) : ∃ b o, A = some ⟨b, o, none⟩ ∧ W.cell? ⟨b, o, none⟩ = some (.int .i64 x) := by
  obtain ⟨b, o, e, h0, _⟩ := rd_cell0 h
  exact ⟨b, o, e, h0⟩
theorem rd_2 {W : World} {A : Option Addr} {x y : Int} (h : Rd W A [x, y]) : ∃ b o, A = some ⟨b, o, none⟩ ∧ W.cell? ⟨b, o, none⟩ = some (.int .i64 x) ∧ W.cell? ⟨b, o + 1, none⟩ = some (.int .i64 y) := by
  obtain ⟨b, o, e, h0, h1⟩ := rd_cell0 h
  exact ⟨b, o, e, h0, by simpa using h1 0 (by simp)⟩
theorem rd_3 {W : World} {A : Option Addr} {x y z : Int} (h : Rd W A [x, y, z]) : ∃ b o, A = some ⟨b, o, none⟩ ∧ W.cell? ⟨b, o, none⟩ = some (.int .i64 x) ∧ W.cell? ⟨b, o + 1, none⟩ = some (.int .i64 y) ∧ W.cell? ⟨b, o + 2, none⟩ = some (.int .i64 z) := by
  obtain ⟨b, o, e, h0, h1⟩ := rd_cell0 h
  exact ⟨b, o, e, h0, by simpa using h1 0 (by simp), by simpa using h1 1 (by simp)⟩

/-- The contract of a value function, at one operator. -/
def VC (op : Int) : Prop := ∀ (A B : Option Addr) (c cb : Nat) (ws vs : List Int) (k w : Int) (W : World), Rd W A ws → Rd W B vs → width op ws k w ≠ 0 → vs.length = ws.length → within vs ws vs.length = true →
    Calls Try.prog (gof op) #[.agg #[.slice A ws.length c, .slice B vs.length cb, .int .i64 k, .int .i64 w]] W fun e W' => e = .returned (.int .i64 (val op ws vs k w)) ∧ Below W.heap.size W W'

theorem vc2 : VC 2 := by
  intro A B c cb ws vs k w W hr hs hw hl hi
  have hd := wide_ne hw
  have ha : alike ws 1 = true := by
    cases h : alike ws 1 with
    | true => rfl
    | false => exact absurd (by simp [wide, h]) hd
  obtain ⟨x, rfl, fx⟩ := alike1_of ha
  obtain ⟨a, rfl⟩ := len1 hl
  have i0 := within_at hi (j := 0) (by simp)
  simp at i0
  obtain ⟨bb, bo, rfl, g0⟩ := rd_1 hs
  obtain ⟨ab, ao, rfl, h0⟩ := rd_1 hr
  exact (v2_any ab ao c bb bo cb k w x a W h0 g0).mono fun e W' h => ⟨by rw [h.1]; exact ret_int (xor_low fx i0.1 i0.2), h.2⟩
theorem vc3 : VC 3 := by
  intro A B c cb ws vs k w W hr hs hw hl hi
  have hd := wide_ne hw
  have ha : alike ws 2 = true := by
    cases h : alike ws 2 with
    | true => rfl
    | false => exact absurd (by simp [wide, h]) hd
  obtain ⟨x, rfl, fx⟩ := alike2_of ha
  obtain ⟨a, b, rfl⟩ := len2 hl
  obtain ⟨bb, bo, rfl, g0, g1⟩ := rd_2 hs
  exact (v3_any _ bb bo cb k w a b W g0 g1).mono fun e W' h => ⟨by rw [h.1]; exact ret_int (rfl), h.2⟩
theorem vc4 : VC 4 := by
  intro A B c cb ws vs k w W hr hs hw hl hi
  have hd := wide_ne hw
  have ha : alike ws 2 = true := by
    cases h : alike ws 2 with
    | true => rfl
    | false => exact absurd (by simp [wide, h]) hd
  obtain ⟨x, rfl, fx⟩ := alike2_of ha
  obtain ⟨a, b, rfl⟩ := len2 hl
  obtain ⟨bb, bo, rfl, g0, g1⟩ := rd_2 hs
  exact (v4_any _ bb bo cb k w a b W g0 g1).mono fun e W' h => ⟨by rw [h.1]; exact ret_int (rfl), h.2⟩
theorem vc5 : VC 5 := by
  intro A B c cb ws vs k w W hr hs hw hl hi
  have hd := wide_ne hw
  have ha : alike ws 2 = true := by
    cases h : alike ws 2 with
    | true => rfl
    | false => exact absurd (by simp [wide, h]) hd
  obtain ⟨x, rfl, fx⟩ := alike2_of ha
  obtain ⟨a, b, rfl⟩ := len2 hl
  obtain ⟨bb, bo, rfl, g0, g1⟩ := rd_2 hs
  exact (v5_any _ bb bo cb k w a b W g0 g1).mono fun e W' h => ⟨by rw [h.1]; exact ret_int (rfl), h.2⟩
theorem vc6 : VC 6 := by
  intro A B c cb ws vs k w W hr hs hw hl hi
  have hd := wide_ne hw
  have ha : alike ws 2 = true := by
    cases h : alike ws 2 with
    | true => rfl
    | false => exact absurd (by simp [wide, h]) hd
  obtain ⟨x, rfl, fx⟩ := alike2_of ha
  obtain ⟨a, b, rfl⟩ := len2 hl
  have i0 := within_at hi (j := 0) (by simp)
  have i1 := within_at hi (j := 1) (by simp)
  simp at i0 i1
  have hm := mask_le fx
  obtain ⟨bb, bo, rfl, g0, g1⟩ := rd_2 hs
  obtain ⟨ab, ao, rfl, h0, _⟩ := rd_2 hr
  exact (v6_any ab ao c bb bo cb k w x a b W h0 g0 g1 (by omega) (by omega)).mono fun e W' h => ⟨by rw [h.1]; exact ret_int (and_low fx (by omega) (by omega)), h.2⟩
theorem vc7 : VC 7 := by
  intro A B c cb ws vs k w W hr hs hw hl hi
  have hd := wide_ne hw
  have ha : alike ws 2 = true := by
    cases h : alike ws 2 with
    | true => rfl
    | false => exact absurd (by simp [wide, h]) hd
  obtain ⟨x, rfl, fx⟩ := alike2_of ha
  obtain ⟨a, b, rfl⟩ := len2 hl
  have i0 := within_at hi (j := 0) (by simp)
  have i1 := within_at hi (j := 1) (by simp)
  simp at i0 i1
  have hm := mask_le fx
  obtain ⟨bb, bo, rfl, g0, g1⟩ := rd_2 hs
  obtain ⟨ab, ao, rfl, h0, _⟩ := rd_2 hr
  exact (v7_any ab ao c bb bo cb k w x a b W h0 g0 g1 (by omega) (by omega)).mono fun e W' h => ⟨by rw [h.1]; exact ret_int (by rw [and_low fx (by omega) (by omega)]; show _ = (a - b + mask x + 1) % (mask x + 1); rw [show a - b + mask x + 1 = a - b + (mask x + 1) from by omega, Int.add_emod_right]), h.2⟩
theorem vc8 : VC 8 := by
  intro A B c cb ws vs k w W hr hs hw hl hi
  have hd := wide_ne hw
  have ha : alike ws 2 = true := by
    cases h : alike ws 2 with
    | true => rfl
    | false => exact absurd (by simp [wide, h]) hd
  obtain ⟨x, rfl, fx⟩ := alike2_of ha
  obtain ⟨a, b, rfl⟩ := len2 hl
  obtain ⟨bb, bo, rfl, g0, g1⟩ := rd_2 hs
  exact (v8_any _ bb bo cb k w a b W g0 g1).mono fun e W' h => ⟨by rw [h.1]; exact ret_int (rfl), h.2⟩
theorem vc9 : VC 9 := by
  intro A B c cb ws vs k w W hr hs hw hl hi
  have hd := wide_ne hw
  have ha : alike ws 2 = true := by
    cases h : alike ws 2 with
    | true => rfl
    | false => exact absurd (by simp [wide, h]) hd
  obtain ⟨x, rfl, fx⟩ := alike2_of ha
  obtain ⟨a, b, rfl⟩ := len2 hl
  obtain ⟨bb, bo, rfl, g0, g1⟩ := rd_2 hs
  exact (v9_any _ bb bo cb k w a b W g0 g1).mono fun e W' h => ⟨by rw [h.1]; exact ret_int (rfl), h.2⟩
theorem vc1 : VC 1 := by
  intro A B c cb ws vs k w W hr hs hw hl hi
  have hd := wide_ne hw
  have h0 : ws.length = 0 := by
    cases ws with
    | nil => rfl
    | cons x l => exact absurd (by simp [wide]) hd
  exact (v1_any _ _ k w W).mono fun e W' h => ⟨by rw [h.1]; exact ret_int (rfl), h.2⟩
theorem vc10 : VC 10 := by
  intro A B c cb ws vs k w W hr hs hw hl hi
  have hd := wide_ne hw
  have ha : alike ws 3 = true ∧ ws.getD 0 0 = 1 := by
    rcases Decidable.em (alike ws 3 = true ∧ ws.getD 0 0 = 1) with h | h
    · exact h
    · exact absurd (by unfold wide; rw [if_neg (by decide), if_neg (by decide), if_neg (by decide), if_neg (by decide), if_pos rfl, if_neg h]) hd
  obtain ⟨ha, e1⟩ := ha
  obtain ⟨x, y, rfl, fx, fy⟩ := alike3_of ha
  obtain ⟨a, b, d, rfl⟩ := len3 hl
  have e1 : x = 1 := e1
  have i0 := within_at hi (j := 0) (by simp)
  simp at i0
  have hm : mask x = 1 := by rw [e1]; rfl
  obtain ⟨bb, bo, rfl, g0, g1, g2⟩ := rd_3 hs
  by_cases ea : a = 1
  · subst ea
    exact (v10a_any _ bb bo cb k w b d W g0 g1 g2).mono fun e W' h => ⟨by rw [h.1]; exact ret_int (rfl), h.2⟩
  · have ea0 : a = 0 := by omega
    subst ea0
    exact (v10b_any _ bb bo cb k w b d W g0 g1 g2).mono fun e W' h => ⟨by rw [h.1]; exact ret_int (rfl), h.2⟩
theorem vc11 : VC 11 := by
  intro A B c cb ws vs k w W hr hs hw hl hi
  have hd := wide_ne hw
  have ha : ws.length = 2 ∧ fit (ws.getD 0 0) = true ∧ fit (ws.getD 1 0) = true := by
    rcases Decidable.em (ws.length = 2 ∧ fit (ws.getD 0 0) = true ∧ fit (ws.getD 1 0) = true) with h | h
    · exact h
    · exact absurd (by unfold wide; rw [if_neg (by decide), if_neg (by decide), if_neg (by decide), if_neg (by decide), if_neg (by decide), if_pos rfl, if_neg h]) hd
  obtain ⟨hl2, fx, fy⟩ := ha
  obtain ⟨x, y, rfl⟩ := len2 hl2
  obtain ⟨a, b, rfl⟩ := len2 hl
  have fx : fit x = true := fx
  have fy : fit y = true := fy
  have by_ := fit_iff.1 fy
  have i0 := within_at hi (j := 0) (by simp)
  have i1 := within_at hi (j := 1) (by simp)
  simp at i0 i1
  have hm := mask_le fx
  obtain ⟨bb, bo, rfl, g0, g1⟩ := rd_2 hs
  obtain ⟨ab, ao, rfl, h0, h1⟩ := rd_2 hr
  obtain ⟨i, rfl, hi1, hi8⟩ := fit_nat fy
  have tw := two_le hi8
  have hmul : a * 2 ^ i ≤ 255 * 256 := Int.mul_le_mul (by omega) tw.2 (by omega) (by omega)
  have hmul0 : 0 ≤ a * 2 ^ i := Int.mul_nonneg (by omega) (by omega)
  exact (v11_any ab ao c bb bo cb k w x i a b W h0 h1 g0 g1 (by omega) (by omega)).mono fun e W' h => ⟨by rw [h.1]; exact ret_int (by show Go.bits .or .i64 (IntKind.i64.wrap (a * 2 ^ (i : Int).toNat)) b = Go.bits .or .i64 (a * 2 ^ (i : Int).toNat) b; rw [Int.toNat_natCast, IntWalk.i64_in _ (by omega)]), h.2⟩
theorem vc12 : VC 12 := by
  intro A B c cb ws vs k w W hr hs hw hl hi
  have hd := wide_ne hw
  have ha : alike ws 1 = true ∧ fit w = true ∧ 0 ≤ k ∧ k ≤ ws.getD 0 0 - w := by
    rcases Decidable.em (alike ws 1 = true ∧ fit w = true ∧ 0 ≤ k ∧ k ≤ ws.getD 0 0 - w) with h | h
    · exact h
    · exact absurd (by unfold wide; rw [if_neg (by decide), if_neg (by decide), if_neg (by decide), if_neg (by decide), if_neg (by decide), if_neg (by decide), if_pos rfl, if_neg h]) hd
  obtain ⟨ha, fw, hk0, hk1⟩ := ha
  obtain ⟨x, rfl, fx⟩ := alike1_of ha
  obtain ⟨a, rfl⟩ := len1 hl
  have hk1 : k ≤ x - w := hk1
  have bx := fit_iff.1 fx
  have bw := fit_iff.1 fw
  have hm := mask_le fx
  have i0 := within_at hi (j := 0) (by simp)
  simp at i0
  obtain ⟨bb, bo, rfl, g0⟩ := rd_1 hs
  exact (v12_any _ bb bo cb k w a W g0 (by omega) (by omega)).mono fun e W' h => ⟨by rw [h.1]; exact ret_int (rfl), h.2⟩
theorem vc13 : VC 13 := by
  intro A B c cb ws vs k w W hr hs hw hl hi
  have hd := wide_ne hw
  have ha : alike ws 1 = true ∧ ws.getD 0 0 ≤ w := by
    rcases Decidable.em (alike ws 1 = true ∧ ws.getD 0 0 ≤ w) with h | h
    · exact h
    · exact absurd (by unfold wide; rw [if_neg (by decide), if_neg (by decide), if_neg (by decide), if_neg (by decide), if_neg (by decide), if_neg (by decide), if_neg (by decide), if_pos rfl, if_neg h]) hd
  obtain ⟨x, rfl, fx⟩ := alike1_of ha.1
  obtain ⟨a, rfl⟩ := len1 hl
  obtain ⟨bb, bo, rfl, g0⟩ := rd_1 hs
  exact (v13_any _ bb bo cb k w a W g0).mono fun e W' h => ⟨by rw [h.1]; exact ret_int (rfl), h.2⟩
theorem vc_all {op : Int} (h0 : 1 ≤ op) (h1 : op ≤ 13) : VC op := by
  have hc : op = 1 ∨ op = 2 ∨ op = 3 ∨ op = 4 ∨ op = 5 ∨ op = 6 ∨ op = 7 ∨ op = 8 ∨ op = 9 ∨ op = 10 ∨ op = 11 ∨ op = 12 ∨ op = 13 := by omega
  rcases hc with rfl | rfl | rfl | rfl | rfl | rfl | rfl | rfl | rfl | rfl | rfl | rfl | rfl
  · exact vc1
  · exact vc2
  · exact vc3
  · exact vc4
  · exact vc5
  · exact vc6
  · exact vc7
  · exact vc8
  · exact vc9
  · exact vc10
  · exact vc11
  · exact vc12
  · exact vc13
theorem op_of {op : Int} {ws : List Int} {k w : Int} (h : width op ws k w ≠ 0) : 1 ≤ op ∧ op ≤ 13 := by
  rcases Decidable.em (op < 1 ∨ 13 < op) with hc | hc
  · exact absurd (wide_out hc) (wide_ne h)
  · omega
theorem entg_1 : ∀ args w, (callFunc 53 args).run Try.prog w = .ok (.enter 53 args) w := _root_.Go.Proofs.enters_of Try.func53 (by kernel_rfl) rfl
theorem entg_2 : ∀ args w, (callFunc 41 args).run Try.prog w = .ok (.enter 41 args) w := _root_.Go.Proofs.enters_of Try.func41 (by kernel_rfl) rfl
theorem entg_3 : ∀ args w, (callFunc 44 args).run Try.prog w = .ok (.enter 44 args) w := _root_.Go.Proofs.enters_of Try.func44 (by kernel_rfl) rfl
theorem entg_4 : ∀ args w, (callFunc 45 args).run Try.prog w = .ok (.enter 45 args) w := _root_.Go.Proofs.enters_of Try.func45 (by kernel_rfl) rfl
theorem entg_5 : ∀ args w, (callFunc 46 args).run Try.prog w = .ok (.enter 46 args) w := _root_.Go.Proofs.enters_of Try.func46 (by kernel_rfl) rfl
theorem entg_6 : ∀ args w, (callFunc 47 args).run Try.prog w = .ok (.enter 47 args) w := _root_.Go.Proofs.enters_of Try.func47 (by kernel_rfl) rfl
theorem entg_7 : ∀ args w, (callFunc 48 args).run Try.prog w = .ok (.enter 48 args) w := _root_.Go.Proofs.enters_of Try.func48 (by kernel_rfl) rfl
theorem entg_8 : ∀ args w, (callFunc 50 args).run Try.prog w = .ok (.enter 50 args) w := _root_.Go.Proofs.enters_of Try.func50 (by kernel_rfl) rfl
theorem entg_9 : ∀ args w, (callFunc 51 args).run Try.prog w = .ok (.enter 51 args) w := _root_.Go.Proofs.enters_of Try.func51 (by kernel_rfl) rfl
theorem entg_10 : ∀ args w, (callFunc 55 args).run Try.prog w = .ok (.enter 55 args) w := _root_.Go.Proofs.enters_of Try.func55 (by kernel_rfl) rfl
theorem entg_11 : ∀ args w, (callFunc 57 args).run Try.prog w = .ok (.enter 57 args) w := _root_.Go.Proofs.enters_of Try.func57 (by kernel_rfl) rfl
theorem entg_12 : ∀ args w, (callFunc 59 args).run Try.prog w = .ok (.enter 59 args) w := _root_.Go.Proofs.enters_of Try.func59 (by kernel_rfl) rfl
theorem entg_13 : ∀ args w, (callFunc 61 args).run Try.prog w = .ok (.enter 61 args) w := _root_.Go.Proofs.enters_of Try.func61 (by kernel_rfl) rfl
theorem entg {op : Int} (h0 : 1 ≤ op) (h1 : op ≤ 13) : ∀ args w, (callFunc (gof op) args).run Try.prog w = .ok (.enter (gof op) args) w := by
  have hc : op = 1 ∨ op = 2 ∨ op = 3 ∨ op = 4 ∨ op = 5 ∨ op = 6 ∨ op = 7 ∨ op = 8 ∨ op = 9 ∨ op = 10 ∨ op = 11 ∨ op = 12 ∨ op = 13 := by omega
  rcases hc with rfl | rfl | rfl | rfl | rfl | rfl | rfl | rfl | rfl | rfl | rfl | rfl | rfl
  · exact entg_1
  · exact entg_2
  · exact entg_3
  · exact entg_4
  · exact entg_5
  · exact entg_6
  · exact entg_7
  · exact entg_8
  · exact entg_9
  · exact entg_10
  · exact entg_11
  · exact entg_12
  · exact entg_13
end Bt
end Go.Proofs.Ytpblhbagjmnmpaa
