/- Contract of bits.Apply. Conditions: the slices read as the lists. -/
import Derived.Test.YtpblhbagjmnmpaaBtI
set_option linter.unusedVariables false
set_option linter.unusedSimpArgs false
namespace Go.Proofs.Ytpblhbagjmnmpaa
open Go Go.RowKit
open Go.MapKept
namespace Bt

theorem rd_below2 {W W' : World} {A : Option Addr} {xs : List Int} (h : Rd W A xs) (hb : Below W.heap.size W W') : Rd W' A xs := h.below hb
theorem within_succ {vs ws : List Int} {k : Nat} : within vs ws (k + 1) = (within vs ws k && okAt vs ws k) := by
  unfold within
  rw [List.range_succ, List.all_append]
  simp
theorem within_no {vs ws : List Int} {n k : Nat} (hk : k < n) (h : okAt vs ws k = false) : within vs ws n = false := by
  unfold within
  rw [List.all_eq_false]
  exact ⟨k, List.mem_range.2 hk, by simp [h]⟩
theorem okAt_lo {vs ws : List Int} {k : Nat} (h : vs.getD k 0 < 0) : okAt vs ws k = false := by
  unfold okAt; rw [decide_eq_false (by omega)]; rfl
theorem okAt_hi {vs ws : List Int} {k : Nat} (h : mask (ws.getD k 0) < vs.getD k 0) : okAt vs ws k = false := by
  unfold okAt; rw [decide_eq_false (p := vs.getD k 0 ≤ _) (by omega), Bool.and_false]
theorem okAt_yes {vs ws : List Int} {k : Nat} (h0 : 0 ≤ vs.getD k 0) (h : vs.getD k 0 ≤ mask (ws.getD k 0)) : okAt vs ws k = true := by
  unfold okAt; rw [decide_eq_true h0, decide_eq_true h]; rfl

theorem app_no {op : Int} {ws vs num : List Int} (h : okay op ws vs num = false) : app op ws vs num = 0 ∧ appErr op ws vs num = 1 := by
  unfold app appErr; rw [h]; exact ⟨rfl, rfl⟩
theorem app_yes {op : Int} {ws vs num : List Int} (h : okay op ws vs num = true) : app op ws vs num = val op ws vs (num.getD 0 0) (num.getD 1 0) ∧ appErr op ws vs num = 0 := by
  unfold app appErr; rw [h]; exact ⟨rfl, rfl⟩
theorem ret_pair {a b c d : Int} (h : c = a ∧ d = b) : Ending.returned (.tuple #[.int .i64 a, .int .i64 b]) = .returned (.tuple #[.int .i64 c, .int .i64 d]) := by rw [h.1, h.2]

theorem okay_width {op : Int} {ws vs : List Int} {k w : Int} (h : width op ws k w = 0) : okay op ws vs [k, w] = false := by
  unfold okay
  show (_ && (_ && (decide (width op ws k w ≠ 0) && _))) = false
  rw [decide_eq_false (p := width op ws k w ≠ 0) (fun q => q h)]
  simp

theorem okay_within {op : Int} {ws vs num : List Int} (h : within vs ws vs.length = false) : okay op ws vs num = false := by
  unfold okay
  rw [h]
  simp
theorem okay_all {op : Int} {ws vs : List Int} {k w : Int} (h : width op ws k w ≠ 0) (hl : vs.length = ws.length) (hw : within vs ws vs.length = true) : okay op ws vs [k, w] = true := by
  unfold okay
  rw [decide_eq_true hl, hw]
  show (true && (true && (decide (width op ws k w ≠ 0) && true))) = true
  rw [decide_eq_true h]
  rfl

set_option maxHeartbeats 1000000 in
/-- bits.Apply -/
theorem Apply_any (op : Int) (A B C : Option Addr) (c cb cn : Nat) (ws vs num : List Int) (W : World) (hr : Rd W A ws) (hs : Rd W B vs) (hn : Rd W C num) :
    Calls Try.prog 12 #[.int .i64 op, .slice A ws.length c, .slice B vs.length cb, .slice C num.length cn] W fun e W' => e = .returned (.tuple #[.int .i64 (app op ws vs num), .int .i64 (appErr op ws vs num)]) ∧ Below W.heap.size W W' := by
  have HA := Lib.hid hr
  have HB := Lib.hid hs
  have mA := hr.len
  have mB := hs.len
  by_cases h2 : num.length = 2
  · by_cases h3 : vs.length = ws.length
    · obtain ⟨k, w, rfl⟩ := len2 h2
      obtain ⟨nb, no, rfl, n0, n1⟩ := rd_2 hn
      have l0 := World.block_lt_of_cell? W _ n0
      have ne0 := World.new_ne W _ n0
      have b1 : ((vs.length : Int) != (ws.length : Int)) = false := by rw [bne_eq_false_iff_eq]; omega
      have H3 := Lib.hid h3
      clear hr hs hn h2 h3
      go_enter Try.func12, Try.ntmps12
      go_wp2
      go_region_held3 (fun w' => w'.cell? ⟨nb, no, none⟩ = some (.int .i64 k) ∧ w'.cell? ⟨nb, no + 1, none⟩ = some (.int .i64 w)) (go_keep) (fail)
      go_wp2_with fail
      refine (width_all op A c ws _ k w _ ((rd_alloc HA.out _).below (Below.drew (Below.refl _ _)))).mono ?_
      rintro e w1 (⟨rfl, h0, hb⟩ | ⟨⟨a, f, g, r, rfl⟩, h0, hb⟩ | ⟨⟨ar, f, rfl⟩, h0, hb⟩)
      · have HX := Lib.hid (bel_then (Below.drew ((Below.refl _ W).alloc (Nat.le_refl _) _)) hb)
        have hz := HX.out.size
        have H0 := Lib.hid h0
        clear hb h0
        go_wp2
        go_ret2
        exact ⟨ret_pair (app_no (okay_width H0.out)), HX.out.alloc hz _⟩
      · have HX := Lib.hid (bel_then (Below.drew ((Below.refl _ W).alloc (Nat.le_refl _) _)) hb)
        have hz := HX.out.size
        have H0 := Lib.hid h0
        clear hb h0
        go_wp2
        go_ret2
        exact ⟨ret_pair (app_no (okay_width H0.out)), HX.out.alloc hz _⟩
      · obtain ⟨hc, hfz⟩ := bcell hb
        have q0 : w1.cell? ⟨W.heap.size, 0, none⟩ = some (.slice A ws.length c) := by rw [hc _ _ (by simp)]; simp [go_sem]
        have q1 : w1.cell? ⟨W.heap.size, 1, none⟩ = some (.slice B vs.length cb) := by rw [hc _ _ (by simp)]; simp [go_sem]
        have q2 : w1.cell? ⟨W.heap.size, 2, none⟩ = some (.int .i64 k) := by rw [hc _ _ (by simp)]; simp [go_sem]
        have q3 : w1.cell? ⟨W.heap.size, 3, none⟩ = some (.int .i64 w) := by rw [hc _ _ (by simp)]; simp [go_sem]
        have HX := Lib.hid (bel_then (Below.drew ((Below.refl _ W).alloc (Nat.le_refl _) _)) hb)
        have hz : W.heap.size < w1.heap.size := by have := hb.size; simp at this; omega
        have hz' := HX.out.size
        have H0 := Lib.hid h0
        have RA := fun o => (rd_alloc (HA.out.below HX.out) o)
        have RB := fun o => (rd_alloc (HB.out.below HX.out) o)
        have RA := Lib.hid RA
        have RB := Lib.hid RB
        have he := entg (op_of h0).1 (op_of h0).2
        clear hb h0 hc hfz n0 n1 l0 ne0
        go_wp2
        go_loop [46] (fun i => ∃ j : Nat, j ≤ vs.length ∧ i = .int .i64 j ∧ within vs ws j = true) (fun i => vs.length - (intOf i).toNat)
        case atStart => exact ⟨0, Nat.zero_le _, rfl, rfl⟩
        case round =>
          obtain ⟨j, hj, rfl, hw⟩ := hrel
          have HW := Lib.hid hw
          clear hw
          by_cases hlt : j < vs.length
          · have hlt2 : j < ws.length := by have := H3.out; omega
            obtain ⟨bb, bo, rfl, hcB⟩ := (RB.out (.cells #[.int .i64 ar, .func (.func f) #[] #[], .func (.func (gof op)) #[] #[]] 57)).at_ (by omega)
            obtain ⟨ab, ao, rfl, hcA⟩ := (RA.out (.cells #[.int .i64 ar, .func (.func f) #[] #[], .func (.func (gof op)) #[] #[]] 57)).at_ (by omega)
            have cB := hcB j hlt
            have cA := hcA j hlt2
            have hlo := okAt_lo (vs := vs) (ws := ws) (k := j)
            have hhi := okAt_hi (vs := vs) (ws := ws) (k := j)
            have hye := okAt_yes (vs := vs) (ws := ws) (k := j)
            have hsu := within_succ (vs := vs) (ws := ws) (k := j)
            have hno := within_no (vs := vs) (ws := ws) hlt
            generalize vs.getD j 0 = v at cB hlo hhi hye
            generalize ws.getD j 0 = x at cA hlo hhi hye
            have Hlo := Lib.hid hlo
            have Hhi := Lib.hid hhi
            have Hye := Lib.hid hye
            have Hsu := Lib.hid hsu
            have Hno := Lib.hid hno
            clear hlo hhi hye hsu hno hcA hcB
            by_cases hv : v < 0
            · have d1 : decide (v < 0) = true := decide_eq_true hv
              go_wp2
              go_ret2
              exact ⟨ret_pair (app_no (okay_within (Hno.out (Hlo.out hv)))), HX.out.alloc hz' _⟩
            · have d1 : decide (v < 0) = false := decide_eq_false hv
              by_cases hm : mask x < v
              · have d2 : decide (mask x < v) = true := decide_eq_true hm
                go_wp2_with (go_at_call 14; refine (Mask_any _ _).mono ?_; rintro e w' ⟨rfl, rfl⟩)
                go_ret2
                exact ⟨ret_pair (app_no (okay_within (Hno.out (Hhi.out hm)))), HX.out.alloc hz' _⟩
              · have d2 : decide (mask x < v) = false := decide_eq_false hm
                go_wp2_with (go_at_call 14; refine (Mask_any _ _).mono ?_; rintro e w' ⟨rfl, rfl⟩)
                exact ⟨⟨j + 1, by omega, by go_num, by rw [Hsu.out, HW.out, Hye.out (by omega) (by omega)]; rfl⟩, by simp [intOf]; omega⟩
          · have HW' := Lib.hid (show within vs ws vs.length = true by rw [show vs.length = j from by omega]; exact HW.out)
            have hfin := Lib.hid (vc_all (op_of H0.out).1 (op_of H0.out).2 A B c cb ws vs k w (w1.alloc (.cells #[.int .i64 ar, .func (.func f) #[] #[], .func (.func (gof op)) #[] #[]] 57)) (RA.out _) (RB.out _) H0.out H3.out HW'.out)
            have hok := Lib.hid (app_yes (okay_all H0.out H3.out HW'.out))
            go_wp2_with fail
            refine hfin.out.mono ?_
            rintro e w2 ⟨rfl, hb2⟩
            have HY := Lib.hid (bel_then (HX.out.alloc hz' (.cells #[.int .i64 ar, .func (.func f) #[] #[], .func (.func (gof op)) #[] #[]] 57)) hb2)
            clear hb2
            go_wp2
            go_ret2
            exact ⟨ret_pair hok.out, HY.out⟩
    · have b1 : ((vs.length : Int) != (ws.length : Int)) = true := by rw [bne_iff_ne]; omega
      have b2 : ((num.length : Int) != 2) = false := by rw [bne_eq_false_iff_eq]; omega
      have H3 := Lib.hid h3
      clear hr hs hn h2 h3
      go_enter Try.func12, Try.ntmps12
      go_wp2
      go_ret2
      exact ⟨ret_pair (app_no (by unfold okay; rw [decide_eq_false H3.out]; simp)), Below.refl _ _⟩
  · have b2 : ((num.length : Int) != 2) = true := by rw [bne_iff_ne]; omega
    have H2 := Lib.hid h2
    clear hr hs hn h2
    go_enter Try.func12, Try.ntmps12
    go_wp2
    go_ret2
    exact ⟨ret_pair (app_no (by unfold okay; rw [decide_eq_false H2.out]; rfl)), Below.refl _ _⟩
end Bt
end Go.Proofs.Ytpblhbagjmnmpaa
