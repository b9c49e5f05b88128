/- Contracts of the reference's Split and Arity. Conditions: none. -/
import Derived.Test.YtpblhbagjmnmpaaBtM
import Derived.Test.YtpblhbagjmnmpaaBtF
import Derived.OwnWalk
import Derived.Laws.AppendOwn
import Derived.Laws.MakeOwn
set_option linter.unusedVariables false
set_option linter.unusedSimpArgs false
namespace Go.Proofs.Ytpblhbagjmnmpaa
open Go Go.RowKit
namespace Bt

/-- A bit of a number. -/
def bitAt (v : Int) (i : Nat) : Bool := Go.bits .and .i64 (v / 2 ^ i) 1 == 1
/-- The lowest bits of a number. -/
def low (v : Int) (n : Nat) : List Bool := (List.range n).map (bitAt v)
theorem low_succ (v : Int) (n : Nat) : low v (n + 1) = low v n ++ [bitAt v n] := by simp [low, List.range_succ]
theorem low_length (v : Int) (n : Nat) : (low v n).length = n := by simp [low]
/-- What Split returns. -/
def split (v w : Int) : List Bool := if w < 0 ∨ 62 < w then [] else low v w.toNat

theorem rdb_own {W : World} {B n : Nat} {v : Value} {xs : List Bool} (hn : n = xs.length) (h : W.ownsRow B 4 1 v n (xs.map Value.bool)) : ∃ A c, v = .slice A xs.length c ∧ RdB W A xs ∧ xs.length ≤ c := by
  subst hn
  rcases h.2 with ⟨rfl, h0⟩ | ⟨g, cap, cur, rfl, _, hh, hle, hmax, _⟩
  · have e : xs = [] := by simpa using h0
    subst e
    exact ⟨none, 0, rfl, ⟨by simp, fun q => by simp at q⟩, Nat.zero_le _⟩
  · refine ⟨_, cap, rfl, ⟨?_, fun hp => ⟨g, 0, rfl, fun j hj => ?_⟩⟩, hle⟩
    · simp only [maxLen] at hmax; omega
    · have := h.cells (g := g) rfl j (.bool (xs.getD j false)) (by simp [List.getElem?_eq_getElem hj, List.getD_eq_getElem?_getD])
      rw [show (⟨g, 0, none⟩ : Addr).add j = ⟨g, 0 + j, none⟩ from by unfold Addr.add; split <;> simp_all] at this
      exact this

theorem infoB : (Try.prog.info? 4).map (fun i => (i.zero, i.size, i.bytes)) = some (some (.bool false), 1, 1) := by kernel_rfl

set_option maxHeartbeats 800000 in
theorem RSplit_any (v w : Int) (W : World) (hv : -9223372036854775808 ≤ v ∧ v ≤ 9223372036854775807) :
    Calls Try.prog 18 #[.int .i64 v, .int .i64 w] W fun e W' => (∃ A c, e = .returned (.slice A (split v w).length c) ∧ RdB W' A (split v w) ∧ (split v w).length ≤ c) ∧ Below W.heap.size W W' := by
  obtain ⟨i0, hi, hz0, hz1, hz2⟩ := info_parts infoB
  go_enter Try.func18, Try.ntmps18
  go_wp2
  go_loopw [5, 6] (fun o i wr => ∃ k : Nat, (k : Int) ≤ max 0 w ∧ k ≤ 62 ∧ (62 < w → k = 0) ∧ i = .int .i64 k ∧ wr.ownsRow W.heap.size 4 1 o k ((low v k).map Value.bool) ∧ Below W.heap.size W wr) (fun _ i _ => 63 - (intOf i).toNat)
  case atStart => exact ⟨0, by omega, Nat.zero_le _, fun _ => rfl, rfl, ⟨rfl, .inr ⟨_, 0, #[], rfl, Nat.le_refl _, map_new _ _, Nat.le_refl _, Nat.zero_le _, rfl, rfl⟩⟩, (Below.refl _ _).alloc (Nat.le_refl _) _⟩
  case round =>
    obtain ⟨k, hk, hk2, hk3, rfl, hown, hb⟩ := hrel
    have HO := Lib.hid hown
    have HB := Lib.hid hb
    clear hown hb
    by_cases hlt : (k : Int) < w
    · by_cases h62 : w ≤ 62
      · have d1 : decide ((k : Int) < w) = true := decide_eq_true hlt
        have d2 : decide (w ≤ 62) = true := decide_eq_true h62
        go_wp2_with (at_builtin; refine wpList_append_own _ rfl _ _ 24 rfl W.heap.size 4 i0 (.bool false) 1 1 Try.underlying24 hi hz0 hz1 hz2 rfl (by decide) _ _ _ rfl (HO.out.alloc _) ⟨wr.heap.size, 0, none⟩ 1 1 [.bool (Go.bits .and .i64 (v / 2 ^ k) 1 == 1)] rfl rfl ?c1 ?c2 ?c3 ?c4 ?c5 ?_)
        case c1 => exact cell_one_new _ _ _
        case c2 => intro u hu; simp at hu; subst hu; rfl
        case c3 => unfold maxLen; omega
        case c4 => omega
        case c5 => have := HB.out.size; simp; omega
        intro v' w1 hown' hgrow _
        have HN := Lib.hid (show w1.ownsRow W.heap.size 4 1 v' (k + 1) ((low v (k + 1)).map Value.bool) by rw [low_succ, List.map_append]; exact hown')
        have HB' := Lib.hid (show Below W.heap.size W w1 from (HB.out.alloc HB.out.size _).grown hgrow (by have := HB.out.size; simp; omega) (fun j e => by
          rcases HO.out.2 with ⟨rfl, _⟩ | ⟨g, cap, cur, rfl, hg, _⟩
          · simp [Value.ownBlock] at e
          · have : g = j := by simpa [Value.ownBlock] using e
            omega))
        clear hown' hgrow
        go_wp2
        exact ⟨⟨k + 1, by omega, by omega, by omega, by go_num, HN.out, HB'.out⟩, by simp [intOf] <;> omega⟩
      · have d1 : decide ((k : Int) < w) = true := decide_eq_true hlt
        have d2 : decide (w ≤ 62) = false := decide_eq_false h62
        obtain rfl : k = 0 := hk3 (by omega)
        have HS := Lib.hid (show split v w = [] by unfold split; rw [if_pos (Or.inr (by omega))])
        have HR := Lib.hid (rdb_own (xs := []) rfl HO.out)
        go_wp2
        go_ret
        exact ⟨by obtain ⟨A, c, rfl, h1, h2⟩ := HR.out; rw [HS.out]; exact ⟨A, c, rfl, h1, h2⟩, HB.out⟩
    · have d1 : decide ((k : Int) < w) = false := decide_eq_false hlt
      have hs : split v w = low v k := by
        unfold split
        by_cases h : w < 0 ∨ 62 < w
        · rw [if_pos h, show k = 0 from by omega]; rfl
        · rw [if_neg h, show w.toNat = k from by omega]
      have HS := Lib.hid hs
      have HR := Lib.hid (rdb_own (xs := low v k) (low_length v k).symm HO.out)
      clear hs
      go_wp2
      go_ret
      exact ⟨by obtain ⟨A, c, rfl, h1, h2⟩ := HR.out; rw [HS.out]; exact ⟨A, c, rfl, h1, h2⟩, HB.out⟩

set_option maxHeartbeats 400000 in
theorem Arity_0 (W : World) : Calls Try.prog 21 #[.int .i64 0] W fun e W' => e = .returned (.int .i64 (-1)) ∧ W = W' := by
  go_enter Try.func21, Try.ntmps21
  go_wp2
  go_ret
  exact ⟨rfl, rfl⟩
set_option maxHeartbeats 400000 in
theorem Arity_1 (W : World) : Calls Try.prog 21 #[.int .i64 1] W fun e W' => e = .returned (.int .i64 (0)) ∧ W = W' := by
  go_enter Try.func21, Try.ntmps21
  go_wp2
  go_ret
  exact ⟨rfl, rfl⟩
set_option maxHeartbeats 400000 in
theorem Arity_2 (W : World) : Calls Try.prog 21 #[.int .i64 2] W fun e W' => e = .returned (.int .i64 (1)) ∧ W = W' := by
  go_enter Try.func21, Try.ntmps21
  go_wp2
  go_ret
  exact ⟨rfl, rfl⟩
set_option maxHeartbeats 400000 in
theorem Arity_3 (W : World) : Calls Try.prog 21 #[.int .i64 3] W fun e W' => e = .returned (.int .i64 (2)) ∧ W = W' := by
  go_enter Try.func21, Try.ntmps21
  go_wp2
  go_ret
  exact ⟨rfl, rfl⟩
set_option maxHeartbeats 400000 in
theorem Arity_4 (W : World) : Calls Try.prog 21 #[.int .i64 4] W fun e W' => e = .returned (.int .i64 (2)) ∧ W = W' := by
  go_enter Try.func21, Try.ntmps21
  go_wp2
  go_ret
  exact ⟨rfl, rfl⟩
set_option maxHeartbeats 400000 in
theorem Arity_5 (W : World) : Calls Try.prog 21 #[.int .i64 5] W fun e W' => e = .returned (.int .i64 (2)) ∧ W = W' := by
  go_enter Try.func21, Try.ntmps21
  go_wp2
  go_ret
  exact ⟨rfl, rfl⟩
set_option maxHeartbeats 400000 in
theorem Arity_6 (W : World) : Calls Try.prog 21 #[.int .i64 6] W fun e W' => e = .returned (.int .i64 (2)) ∧ W = W' := by
  go_enter Try.func21, Try.ntmps21
  go_wp2
  go_ret
  exact ⟨rfl, rfl⟩
set_option maxHeartbeats 400000 in
theorem Arity_7 (W : World) : Calls Try.prog 21 #[.int .i64 7] W fun e W' => e = .returned (.int .i64 (2)) ∧ W = W' := by
  go_enter Try.func21, Try.ntmps21
  go_wp2
  go_ret
  exact ⟨rfl, rfl⟩
set_option maxHeartbeats 400000 in
theorem Arity_8 (W : World) : Calls Try.prog 21 #[.int .i64 8] W fun e W' => e = .returned (.int .i64 (2)) ∧ W = W' := by
  go_enter Try.func21, Try.ntmps21
  go_wp2
  go_ret
  exact ⟨rfl, rfl⟩
set_option maxHeartbeats 400000 in
theorem Arity_9 (W : World) : Calls Try.prog 21 #[.int .i64 9] W fun e W' => e = .returned (.int .i64 (2)) ∧ W = W' := by
  go_enter Try.func21, Try.ntmps21
  go_wp2
  go_ret
  exact ⟨rfl, rfl⟩
set_option maxHeartbeats 400000 in
theorem Arity_10 (W : World) : Calls Try.prog 21 #[.int .i64 10] W fun e W' => e = .returned (.int .i64 (3)) ∧ W = W' := by
  go_enter Try.func21, Try.ntmps21
  go_wp2
  go_ret
  exact ⟨rfl, rfl⟩
set_option maxHeartbeats 400000 in
theorem Arity_11 (W : World) : Calls Try.prog 21 #[.int .i64 11] W fun e W' => e = .returned (.int .i64 (2)) ∧ W = W' := by
  go_enter Try.func21, Try.ntmps21
  go_wp2
  go_ret
  exact ⟨rfl, rfl⟩
set_option maxHeartbeats 400000 in
theorem Arity_12 (W : World) : Calls Try.prog 21 #[.int .i64 12] W fun e W' => e = .returned (.int .i64 (1)) ∧ W = W' := by
  go_enter Try.func21, Try.ntmps21
  go_wp2
  go_ret
  exact ⟨rfl, rfl⟩
set_option maxHeartbeats 400000 in
theorem Arity_13 (W : World) : Calls Try.prog 21 #[.int .i64 13] W fun e W' => e = .returned (.int .i64 (1)) ∧ W = W' := by
  go_enter Try.func21, Try.ntmps21
  go_wp2
  go_ret
  exact ⟨rfl, rfl⟩
set_option maxHeartbeats 400000 in
theorem Arity_14 (W : World) : Calls Try.prog 21 #[.int .i64 14] W fun e W' => e = .returned (.int .i64 (-1)) ∧ W = W' := by
  go_enter Try.func21, Try.ntmps21
  go_wp2
  go_ret
  exact ⟨rfl, rfl⟩
set_option maxHeartbeats 400000 in
theorem Arity_15 (W : World) : Calls Try.prog 21 #[.int .i64 15] W fun e W' => e = .returned (.int .i64 (-1)) ∧ W = W' := by
  go_enter Try.func21, Try.ntmps21
  go_wp2
  go_ret
  exact ⟨rfl, rfl⟩
end Bt
end Go.Proofs.Ytpblhbagjmnmpaa
