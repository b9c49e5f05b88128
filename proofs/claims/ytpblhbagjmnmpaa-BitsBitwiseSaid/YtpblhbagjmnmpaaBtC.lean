/- Contract of the reference's equal. Conditions: the slice reads as the list; n is 1 to 3. -/
import Derived.Test.YtpblhbagjmnmpaaBtB
set_option linter.unusedVariables false
set_option linter.unusedSimpArgs false
namespace Go.Proofs.Ytpblhbagjmnmpaa
open Go Go.RowKit
namespace Bt

theorem alike_one {ws : List Int} (hl : ws.length < 2) (h : Unfit ws = false) : alike ws ws.length = true := by
  rw [alike_fit rfl h]; simp [hl]
theorem alike_more {ws : List Int} (hl : ¬ ws.length < 2) (h : Unfit ws = false) : alike ws ws.length = (ws.getD (ws.length - 1) 0 == ws.getD (ws.length - 2) 0) := by
  rw [alike_fit rfl h]
  have : decide (ws.length < 2) = false := by simpa using hl
  rw [this, Bool.false_or, Bool.eq_iff_iff]
  simp

set_option maxHeartbeats 400000 in
theorem equal_any (A : Option Addr) (c : Nat) (ws : List Int) (n : Nat) (h1 : 1 ≤ n) (h3 : n ≤ 3) (W : World) (hr : Rd W A ws) :
    Calls Try.prog 29 #[.slice A ws.length c, .int .i64 n] W fun e W' => e = .returned (.bool (alike ws n)) ∧ ∃ q, W.drewN q = W' := by
  have hm := hr.len
  by_cases hl : ws.length = n
  · subst hl
    obtain ⟨b, o, rfl, hc⟩ := hr.at_ (by omega)
    have HC := Lib.hid hc
    clear hc
    go_enter Try.func29, Try.ntmps29
    go_wp2
    go_loop [5] (fun i => ∃ k : Nat, k ≤ ws.length ∧ i = .int .i64 k ∧ Unfit (ws.take k) = false) (fun i => ws.length - (intOf i).toNat)
    case atStart => exact ⟨0, Nat.zero_le _, rfl, rfl⟩
    case round =>
      obtain ⟨k, hk, rfl, hu⟩ := hrel
      by_cases hlt : k < ws.length
      · have hcell := HC.out k hlt
        have hg : ws.getD k 0 = ws[k] := by simp [List.getD_eq_getElem?_getD, List.getElem?_eq_getElem hlt]
        have hs := unfit_take ws k hlt
        have ho := unfit_of ws k hlt
        rw [hg] at hs ho
        have HS := Lib.hid hs
        have HU := Lib.hid hu
        have HO := Lib.hid ho
        clear hs hu ho hg
        go_wp2_with (go_at_call 28; refine (In_any _ _).mono ?_; rintro e w' ⟨rfl, rfl⟩)
        · have hx : (!fit ws[k]) = true := by assumption
          go_ret
          exact ⟨ret_bool (by rw [alike_unfit (HO.out (by simpa using hx))]), 0, rfl⟩
        · have hx : (!fit ws[k]) = false := by assumption
          go_round
          case rel => exact ⟨k + 1, by omega, by go_num, by rw [HS.out, HU.out, hx]; rfl⟩
          case measure => simp [intOf]; omega
      · have hu' : Unfit ws = false := by rw [List.take_of_length_le (by omega)] at hu; exact hu
        by_cases h2 : ws.length < 2
        · have HA := Lib.hid (alike_one h2 hu')
          have hd : decide ((ws.length : Int) < 2) = true := decide_eq_true (by omega)
          have hd' : decide (ws.length < 2) = true := by simpa using h2
          clear hu hu'
          go_wp2
          go_quiet (fail)
          go_wp2
          go_ret
          exact ⟨ret_bool (by rw [HA.out]), _, rfl⟩
        · have HA := Lib.hid (alike_more h2 hu')
          have hc1 := HC.out (ws.length - 1) (by omega)
          have hc2 := HC.out (ws.length - 2) (by omega)
          have hd : decide ((ws.length : Int) < 2) = false := decide_eq_false (by omega)
          have hd' : decide (ws.length < 2) = false := by simpa using h2
          have z1 : ((ws.length : Int) - 1).toNat = ws.length - 1 := by omega
          have z2 : ((ws.length : Int) - 2).toNat = ws.length - 2 := by omega
          have y1 : IntKind.i64.wrap ((ws.length : Int) - 1) = (ws.length : Int) - 1 := IntWalk.i64_in _ (by omega)
          have y2 : IntKind.i64.wrap ((ws.length : Int) - 2) = (ws.length : Int) - 2 := IntWalk.i64_in _ (by omega)
          have x1 : 0 ≤ (ws.length : Int) - 1 := by omega
          have x2 : 0 ≤ (ws.length : Int) - 2 := by omega
          have v1 : (ws.length : Int) - 1 < ws.length := by omega
          have v2 : (ws.length : Int) - 2 < ws.length := by omega
          clear hu hu'
          go_wp2
          go_quiet (fail)
          go_wp2
          go_ret
          exact ⟨ret_bool (by rw [HA.out]; simp [List.getD_eq_getElem?_getD]), _, rfl⟩
  · have hb : ((ws.length : Int) != (n : Int)) = true := by rw [bne_iff_ne]; omega
    go_enter Try.func29, Try.ntmps29
    go_wp2
    go_ret
    exact ⟨ret_bool (alike_len hl).symm, 0, rfl⟩
end Bt
end Go.Proofs.Ytpblhbagjmnmpaa
