/- Contracts of the functions of package bits that read lists of widths: what slices.ContainsFunc finds, the reference's equal. Conditions: the slice reads as the list. -/
import Derived.Test.YtpblhbagjmnmpaaBtA
set_option linter.unusedVariables false
set_option linter.unusedSimpArgs false
namespace Go.Proofs.Ytpblhbagjmnmpaa
open Go Go.RowKit
namespace Bt

/-- A slice's cells from address A on read as the integers xs. -/
structure Rd (W : World) (A : Option Addr) (xs : List Int) : Prop where
  len : xs.length ≤ 9223372036854775807
  at_ : 0 < xs.length → ∃ b o, A = some ⟨b, o, none⟩ ∧ ∀ j, j < xs.length → W.cell? ⟨b, o + j, none⟩ = some (.int .i64 (xs.getD j 0))
theorem Rd.below {W W' : World} {A : Option Addr} {xs : List Int} (h : Rd W A xs) (hb : Below W.heap.size W W') : Rd W' A xs :=
  ⟨h.len, fun hn => by
    obtain ⟨b, o, e, hc⟩ := h.at_ hn
    exact ⟨b, o, e, fun j hj => (hb.cell (World.block_lt_of_cell? W _ (hc j hj))).trans (hc j hj)⟩⟩

def Unfit (ws : List Int) : Bool := ws.any fun w => !fit w
theorem unfit_take (ws : List Int) (k : Nat) (h : k < ws.length) : Unfit (ws.take (k + 1)) = (Unfit (ws.take k) || !fit (ws.getD k 0)) := by
  unfold Unfit
  rw [List.take_succ_eq_append_getElem h, List.any_append]
  simp [List.getD_eq_getElem?_getD, List.getElem?_eq_getElem h]
theorem unfit_of (ws : List Int) (k : Nat) (h : k < ws.length) (hf : fit (ws.getD k 0) = false) : Unfit ws = true := by
  unfold Unfit
  rw [List.any_eq_true]
  refine ⟨ws[k], List.getElem_mem h, ?_⟩
  simpa [List.getD_eq_getElem?_getD, List.getElem?_eq_getElem h] using hf

def IdxPost (ws : List Int) (W : World) (e : Ending) (W' : World) : Prop := ∃ r : Int, e = .returned (.int .i64 r) ∧ decide (0 ≤ r) = Unfit ws ∧ W = W'

set_option maxHeartbeats 400000 in
/-- slices.IndexFunc at width's function literal -/
theorem index_any (A : Option Addr) (c : Nat) (ws : List Int) (W : World) (hr : Rd W A ws) :
    Calls Try.prog 62 #[.slice A ws.length c, .func (.func 36) #[] #[]] W (IdxPost ws W) := by
  have hm := hr.len
  go_enter Try.func62, Try.ntmps62
  go_wp2
  go_loop [8] (fun i => ∃ k : Nat, k ≤ ws.length ∧ i = .int .i64 k ∧ Unfit (ws.take k) = false) (fun i => ws.length - (intOf i).toNat)
  case atStart => exact ⟨0, Nat.zero_le _, rfl, rfl⟩
  case round =>
    obtain ⟨k, hk, rfl, hu⟩ := hrel
    by_cases hlt : k < ws.length
    · obtain ⟨b, o, rfl, hc⟩ := hr.at_ (by omega)
      have hcell := hc k hlt
      have hg : ws.getD k 0 = ws[k] := by simp [List.getD_eq_getElem?_getD, List.getElem?_eq_getElem hlt]
      have hs := unfit_take ws k hlt
      have ho := unfit_of ws k hlt
      rw [hg] at hs ho
      have HS := Lib.hid hs
      have HU := Lib.hid hu
      have HO := Lib.hid ho
      clear hs hu ho hc hg
      go_wp2_with (go_at_call 36; refine (unfit_any _ _).mono ?_; rintro e w' ⟨rfl, rfl⟩)
      · have hx : (!fit ws[k]) = true := by assumption
        go_ret
        exact ⟨k, rfl, by rw [HO.out (by simpa using hx)]; simp, rfl⟩
      · have hx : (!fit ws[k]) = false := by assumption
        exact ⟨⟨k + 1, by omega, by go_num, by rw [HS.out, HU.out, hx]; rfl⟩, by simp [intOf]; omega⟩
    · have HU := Lib.hid hu
      clear hu
      go_wp2
      go_ret
      exact ⟨-1, rfl, by have := HU.out; rw [List.take_of_length_le (by omega)] at this; rw [this]; rfl, rfl⟩

set_option maxHeartbeats 400000 in
/-- slices.ContainsFunc at width's function literal -/
theorem contains_any (A : Option Addr) (c : Nat) (ws : List Int) (W : World) (hr : Rd W A ws) :
    Calls Try.prog 35 #[.slice A ws.length c, .func (.func 36) #[] #[]] W fun e W' => e = .returned (.bool (Unfit ws)) ∧ W = W' := by
  go_enter Try.func35, Try.ntmps35
  go_wp2_with fail
  refine (index_any A c ws W hr).mono ?_
  rintro e w' ⟨r, rfl, hd, rfl⟩
  have HD := Lib.hid hd
  clear hd
  go_wp2
  go_ret
  exact ⟨ret_bool HD.out, rfl⟩

/-! ### equal -/
theorem alike_len {ws : List Int} {n : Nat} (h : ws.length ≠ n) : alike ws n = false := by simp [alike, h]
theorem alike_unfit {ws : List Int} {n : Nat} (h : Unfit ws = true) : alike ws n = false := by
  unfold Unfit at h
  unfold alike
  have : ws.all fit = false := by
    rw [List.any_eq_true] at h
    obtain ⟨x, hx, hf⟩ := h
    rw [List.all_eq_false]
    exact ⟨x, hx, by simpa using hf⟩
  rw [this]
  simp
theorem unfit_all {ws : List Int} : Unfit ws = !ws.all fit := by
  unfold Unfit
  induction ws with
  | nil => rfl
  | cons x l ih => simp [List.any_cons, List.all_cons, ih]
theorem alike_fit {ws : List Int} {n : Nat} (hl : ws.length = n) (h : Unfit ws = false) : alike ws n = (decide (n < 2) || decide (ws.getD (n - 1) 0 = ws.getD (n - 2) 0)) := by
  rw [unfit_all] at h
  unfold alike
  have h2 : ws.all fit = true := by simpa using h
  rw [h2]
  simp [hl]
end Bt
end Go.Proofs.Ytpblhbagjmnmpaa
