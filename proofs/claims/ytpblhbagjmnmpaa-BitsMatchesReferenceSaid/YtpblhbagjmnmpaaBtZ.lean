/- Contract of the reference's ApplyIn. Conditions: the slices read as the lists. -/
import Derived.Test.YtpblhbagjmnmpaaBtY
import Derived.Deep.Cut
set_option linter.unusedVariables false
set_option linter.unusedSimpArgs false
namespace Go.Proofs.Ytpblhbagjmnmpaa
open Go Go.RowKit
open Go.MapKept
namespace Bt

theorem rnum_bad {op : Int} {ws vs num : List Int} (h : okay op ws vs num = false) : Ending.returned (.agg #[.int .i64 0, .int .i64 1]) = .returned (.agg #[.int .i64 (app op ws vs num), .int .i64 (appErr op ws vs num)]) := by
  rw [(app_no h).1, (app_no h).2]
theorem rnum_good {op : Int} {ws vs num : List Int} {r : Int} (h : okay op ws vs num = true) (hr : r = val op ws vs (num.getD 0 0) (num.getD 1 0)) : Ending.returned (.agg #[.int .i64 r, .int .i64 0]) = .returned (.agg #[.int .i64 (app op ws vs num), .int .i64 (appErr op ws vs num)]) := by
  rw [(app_yes h).1, (app_yes h).2, hr]

theorem late {w0 w1 : World} {p : Addr} {v : Value} (hb : Below w0.heap.size w0 w1) (h : w0.cell? p = some v) : w1.cell? p = some v := (hb.cell (World.block_lt_of_cell? w0 p h)).trans h
theorem latef {w0 w1 : World} {p : Addr} {v : Value} (hb : Below w0.heap.size w0 w1) (h : w0.cell? p = some v) (hf : w0.frozen? p = false) : w1.frozen? p = false := (hb.frozen (World.block_lt_of_cell? w0 p h)).trans hf
theorem wide12 {ws : List Int} {k w : Int} (h : width 12 ws k w ≠ 0) : alike ws 1 = true ∧ fit w = true ∧ 0 ≤ k ∧ k ≤ ws.getD 0 0 - w := by
  have hd := wide_ne h
  rcases Decidable.em (alike ws 1 = true ∧ fit w = true ∧ 0 ≤ k ∧ k ≤ ws.getD 0 0 - w) with h | h
  · exact h
  · exact absurd (by unfold wide; rw [if_neg (by decide), if_neg (by decide), if_neg (by decide), if_neg (by decide), if_neg (by decide), if_neg (by decide), if_pos rfl, if_neg h]) hd
theorem wide13 {ws : List Int} {k w : Int} (h : width 13 ws k w ≠ 0) : alike ws 1 = true ∧ ws.getD 0 0 ≤ w := by
  have hd := wide_ne h
  rcases Decidable.em (alike ws 1 = true ∧ ws.getD 0 0 ≤ w) with h | h
  · exact h
  · exact absurd (by unfold wide; rw [if_neg (by decide), if_neg (by decide), if_neg (by decide), if_neg (by decide), if_neg (by decide), if_neg (by decide), if_neg (by decide), if_pos rfl, if_neg h]) hd
theorem wide11 {ws : List Int} {k w : Int} (h : width 11 ws k w ≠ 0) : ws.length = 2 ∧ fit (ws.getD 0 0) = true ∧ fit (ws.getD 1 0) = true := by
  have hd := wide_ne h
  rcases Decidable.em (ws.length = 2 ∧ fit (ws.getD 0 0) = true ∧ fit (ws.getD 1 0) = true) with h | h
  · exact h
  · exact absurd (by unfold wide; rw [if_neg (by decide), if_neg (by decide), if_neg (by decide), if_neg (by decide), if_neg (by decide), if_pos rfl, if_neg h]) hd
theorem ws_pos {op : Int} {ws : List Int} {k w : Int} (h0 : 2 ≤ op) (h1 : op ≤ 10) (h : width op ws k w ≠ 0) : 0 < ws.length := by
  cases ws with
  | cons x l => simp
  | nil =>
    have hc : op = 2 ∨ op = 3 ∨ op = 4 ∨ op = 5 ∨ op = 6 ∨ op = 7 ∨ op = 8 ∨ op = 9 ∨ op = 10 := by omega
    rcases hc with rfl | rfl | rfl | rfl | rfl | rfl | rfl | rfl | rfl <;> exact absurd rfl h
set_option maxHeartbeats 1000000 in
theorem rap_num (op : Int) (A B C : Option Addr) (c cb cn : Nat) (ws vs num : List Int) (W : World) (h : ¬ num.length = 2) :
    Calls Try.prog 13 #[.int .i64 op, .slice A ws.length c, .agg #[.slice B vs.length cb, .slice C num.length cn]] W fun e W' => e = .returned (.agg #[.int .i64 (app op ws vs num), .int .i64 (appErr op ws vs num)]) ∧ Below W.heap.size W W' := by
  have b2 : ((num.length : Int) != 2) = true := by rw [bne_iff_ne]; omega
  have H2 := Lib.hid (show okay op ws vs num = false by unfold okay; rw [decide_eq_false h]; rfl)
  clear h
  go_enter Try.func13, Try.ntmps13
  go_wp2
  go_quiet (fail)
  go_wp2
  exact bodyPost_ret (v := .agg #[.int .i64 0, .int .i64 1]) (by simp [results, Try.results13, go_sem]) rfl ⟨rnum_bad H2.out, (by repeat (first | exact Below.refl _ _ | refine Below.drew ?_ | refine bel_drewN ?_ _ | refine Below.setCell ?_ (by simp <;> omega) _ | refine Below.alloc ?_ (by simp <;> omega) _))⟩
set_option maxHeartbeats 1000000 in
theorem rap_len (op : Int) (A B C : Option Addr) (c cb cn : Nat) (ws vs num : List Int) (W : World) (h2 : num.length = 2) (h : ¬ vs.length = ws.length) :
    Calls Try.prog 13 #[.int .i64 op, .slice A ws.length c, .agg #[.slice B vs.length cb, .slice C num.length cn]] W fun e W' => e = .returned (.agg #[.int .i64 (app op ws vs num), .int .i64 (appErr op ws vs num)]) ∧ Below W.heap.size W W' := by
  have b2 : ((num.length : Int) != 2) = false := by rw [bne_eq_false_iff_eq]; omega
  have b1 : ((vs.length : Int) != (ws.length : Int)) = true := by rw [bne_iff_ne]; omega
  have H2 := Lib.hid (show okay op ws vs num = false by unfold okay; rw [decide_eq_false h]; simp)
  clear h h2
  go_enter Try.func13, Try.ntmps13
  go_wp2
  go_quiet (fail)
  go_wp2
  exact bodyPost_ret (v := .agg #[.int .i64 0, .int .i64 1]) (by simp [results, Try.results13, go_sem]) rfl ⟨rnum_bad H2.out, (by repeat (first | exact Below.refl _ _ | refine Below.drew ?_ | refine bel_drewN ?_ _ | refine Below.setCell ?_ (by simp <;> omega) _ | refine Below.alloc ?_ (by simp <;> omega) _))⟩
set_option maxHeartbeats 2000000 in
set_option maxRecDepth 20000 in
theorem rap_ok (op k w : Int) (A B : Option Addr) (nb no : Nat) (c cb cn : Nat) (ws vs : List Int) (W : World) (hr : Rd W A ws) (hs : Rd W B vs) (n0 : W.cell? ⟨nb, no, none⟩ = some (.int .i64 k)) (n1 : W.cell? ⟨nb, no + 1, none⟩ = some (.int .i64 w)) (h : vs.length = ws.length) :
    Calls Try.prog 13 #[.int .i64 op, .slice A ws.length c, .agg #[.slice B vs.length cb, .slice (some ⟨nb, no, none⟩) 2 cn]] W fun e W' => e = .returned (.agg #[.int .i64 (app op ws vs [k, w]), .int .i64 (appErr op ws vs [k, w])]) ∧ Below W.heap.size W W' := by
  have b1 : ((vs.length : Int) != (ws.length : Int)) = false := by rw [bne_eq_false_iff_eq]; omega
  have mA := hr.len
  have mB := hs.len
  have HA := Lib.hid hr
  have HB := Lib.hid hs
  have l0 : nb < W.heap.size := World.block_lt_of_cell? W _ n0
  have ne0 : W.heap.size ≠ nb := World.new_ne W _ n0
  have nx1 : W.heap.size + 1 ≠ nb := by omega
  have nx2 : W.heap.size + 1 + 1 ≠ nb := by omega
  have H3 := Lib.hid h
  clear h hr hs
  go_enter Try.func13, Try.ntmps13
  go_wp2
  go_quiet (fail)
  go_wp2
  go_cut [9] from 11 (fun s9 wc => ∃ p : Nat, s9 = .pointer (some ⟨p, 0, none⟩) ∧ wc.cell? ⟨p, 0, none⟩ = some (.int .i64 (width op ws k w)) ∧ wc.cell? ⟨p, 1, none⟩ = some (.int .i64 (err (width op ws k w))) ∧ W.heap.size + 1 < p ∧ W.heap.size + 2 ≤ wc.heap.size ∧ Below W.heap.size W wc ∧
    wc.cell? ⟨W.heap.size + 1, 0, none⟩ = some (.int .i64 0) ∧ wc.cell? ⟨W.heap.size + 1, 1, none⟩ = some (.int .i64 0) ∧ wc.frozen? ⟨W.heap.size + 1, 0, none⟩ = false ∧ wc.frozen? ⟨W.heap.size + 1, 1, none⟩ = false)
  case first =>
    go_region_held3 (fun w' => w'.cell? ⟨nb, no, none⟩ = some (.int .i64 k) ∧ w'.cell? ⟨nb, no + 1, none⟩ = some (.int .i64 w)) (first | (simp (maxDischargeDepth := 8) [c0, c1, ne1, nx2, World.cell?_alloc_some, World.cell?_setCell_far]; done) | (simp (maxDischargeDepth := 8) [n0, n1, ne0, nx1, nx2, World.cell?_alloc_some, World.cell?_setCell_far]; done)) (first | (go_at_call 11; refine (RWidth_any _ _ c _ k w _ (HA.out.below (by repeat (first | exact Below.refl _ _ | refine Below.drew ?_ | refine bel_drewN ?_ _ | refine Below.setCell ?_ (by simp <;> omega) _ | refine Below.alloc ?_ (by simp <;> omega) _)))).mono ?_; rintro e w1 ⟨rfl, hb⟩; have HX := Lib.hid (bel_then (w := W) (by repeat (first | exact Below.refl _ _ | refine Below.drew ?_ | refine bel_drewN ?_ _ | refine Below.setCell ?_ (by simp <;> omega) _ | refine Below.alloc ?_ (by simp <;> omega) _)) hb); have c0 : w1.cell? ⟨nb, no, none⟩ = some (.int .i64 k) := (HX.out.cell l0).trans n0; have c1 : w1.cell? ⟨nb, no + 1, none⟩ = some (.int .i64 w) := (HX.out.cell l0).trans n1; have r0 : w1.cell? ⟨W.heap.size + 1, 0, none⟩ = some (.int .i64 0) := (hb.cell (by simp)).trans (by simp [go_sem]); have r1 : w1.cell? ⟨W.heap.size + 1, 1, none⟩ = some (.int .i64 0) := (hb.cell (by simp)).trans (by simp [go_sem]); have rf : w1.frozen? ⟨W.heap.size + 1, 0, none⟩ = false := (hb.frozen (by simp)).trans (by simp [go_sem]); have zz : W.heap.size + 2 ≤ w1.heap.size := (by have := hb.size; simp at this; omega); have ne1 : w1.heap.size ≠ nb := World.new_ne w1 _ c0; have ne2 : w1.heap.size ≠ W.heap.size + 1 := World.new_ne w1 _ r0; have t0 := late (p := ⟨W.heap.size + 1 + 1, 0, none⟩) (v := .int .i64 0) hb; (try simp [go_sem] at t0); have t1 := late (p := ⟨W.heap.size + 1 + 1, 1, none⟩) (v := .int .i64 0) hb; (try simp [go_sem] at t1); have tf := latef (p := ⟨W.heap.size + 1 + 1, 0, none⟩) (v := .int .i64 0) hb; (try simp [go_sem] at tf); have tg := latef (p := ⟨W.heap.size + 1 + 1, 1, none⟩) (v := .int .i64 0) hb; (try simp [go_sem] at tg); have rg : w1.frozen? ⟨W.heap.size + 1, 1, none⟩ = false := (hb.frozen (by simp)).trans (by simp [go_sem]); clear hb))
    all_goals go_wp2
    all_goals go_meet
    all_goals refine ⟨_, rfl, ?_, ?_, ?_, ?_, ?_, ?_, ?_, ?_, ?_⟩
    all_goals first | omega | (simp (maxDischargeDepth := 4) [go_sem, r0, r1, rf, rg, t0, t1, tf, tg, World.cell?_alloc_some, ne2]; done) | (simp; omega) | exact HX.out.alloc (by omega) _ | exact (((Below.refl w1.heap.size w1).alloc (Nat.le_refl _) _).frozen (p := ⟨W.heap.size + 1, 0, none⟩) (by show W.heap.size + 1 < _; omega)).trans rf | exact (((Below.refl w1.heap.size w1).alloc (Nat.le_refl _) _).frozen (p := ⟨W.heap.size + 1, 1, none⟩) (by show W.heap.size + 1 < _; omega)).trans rg | (refine Below.setCell (Below.setCell HX.out ?_ _) ?_ _ <;> (simp; omega)) | trace_state
  case rest =>
    obtain ⟨p, rfl, p0, p1, hp, hz, hB, r0, r1, f0, f1⟩ := hcut
    have m0 : wc.cell? ⟨nb, no, none⟩ = some (.int .i64 k) := (hB.cell l0).trans n0
    have m1 : wc.cell? ⟨nb, no + 1, none⟩ = some (.int .i64 w) := (hB.cell l0).trans n1
    have HX := Lib.hid hB
    have RA := Lib.hid (HA.out.below hB)
    have RB := Lib.hid (HB.out.below hB)
    clear hB n0 n1
    by_cases hw : width op ws k w = 0
    · have HW0 := Lib.hid (okay_width (vs := vs) hw)
      rw [hw] at p0 p1
      replace p1 : wc.cell? ⟨p, 1, none⟩ = some (.int .i64 1) := p1
      go_wp2
      exact bodyPost_ret (v := .agg #[.int .i64 0, .int .i64 1]) (by simp [results, Try.results13, go_sem, r0, r1]) rfl ⟨rnum_bad (HW0.out), (by repeat (first | exact HX.out | refine Below.drew ?_ | refine bel_drewN ?_ _ | refine Below.setCell ?_ (by simp <;> omega) _ | refine Below.alloc ?_ (by simp <;> omega) _))⟩

    · have H0 := Lib.hid hw
      have he : err (width op ws k w) = 0 := by unfold err; rw [if_neg hw]
      rw [he] at p1
      clear he hw
      go_wp2
      go_loopw [10] (fun i wr => ∃ j : Nat, j ≤ vs.length ∧ i = .int .i64 j ∧ within vs ws j = true ∧ ∃ q, wc.drewN q = wr) (fun i _ => vs.length - (intOf i).toNat)
      case atStart => exact ⟨0, Nat.zero_le _, rfl, rfl, 0, rfl⟩
      case round =>
        obtain ⟨j, hj, rfl, hw, q, rfl⟩ := hrel
        have HW := Lib.hid hw
        clear hw
        by_cases hlt : j < vs.length
        · have hlt2 : j < ws.length := by have := H3.out; omega
          obtain ⟨bb, bo, rfl, hcB⟩ := RB.out.at_ (by omega)
          obtain ⟨ab, ao, rfl, hcA⟩ := RA.out.at_ (by omega)
          have cB := hcB j hlt
          have cA := hcA j hlt2
          have hlo := okAt_lo (vs := vs) (ws := ws) (k := j)
          have hhi := okAt_hi (vs := vs) (ws := ws) (k := j)
          have hye := okAt_yes (vs := vs) (ws := ws) (k := j)
          have hsu := within_succ (vs := vs) (ws := ws) (k := j)
          have hno := within_no (vs := vs) (ws := ws) hlt
          generalize vs.getD j 0 = v at cB hlo hhi hye
          generalize ws.getD j 0 = x at cA hlo hhi hye
          have Hlo := Lib.hid hlo
          have Hhi := Lib.hid hhi
          have Hye := Lib.hid hye
          have Hsu := Lib.hid hsu
          have Hno := Lib.hid hno
          clear hlo hhi hye hsu hno hcA hcB
          by_cases hv : v < 0
          · have d1 : decide (v < 0) = true := decide_eq_true hv
            go_wp2
            go_quiet (first | (go_at_call 15; refine (RMask_any _ _).mono ?_; rintro e w' ⟨rfl, rfl⟩))
            go_wp2
            exact bodyPost_ret (v := .agg #[.int .i64 0, .int .i64 1]) (by simp [results, Try.results13, go_sem, r0, r1]) rfl ⟨rnum_bad (okay_within (Hno.out (Hlo.out hv))), (by repeat (first | exact HX.out | refine Below.drew ?_ | refine bel_drewN ?_ _ | refine Below.setCell ?_ (by simp <;> omega) _ | refine Below.alloc ?_ (by simp <;> omega) _))⟩

          · have d1 : decide (v < 0) = false := decide_eq_false hv
            by_cases hm : mask x < v
            · have d2 : decide (mask x < v) = true := decide_eq_true hm
              go_wp2
              go_region_held3 (fun w' => w'.cell? ⟨bb, bo + j, none⟩ = some (.int .i64 v) ∧ w'.cell? ⟨ab, ao + j, none⟩ = some (.int .i64 x)) (go_keep) (first | (go_at_call 15; refine (RMask_any _ _).mono ?_; rintro e w' ⟨rfl, rfl⟩))
              go_wp2
              exact bodyPost_ret (v := .agg #[.int .i64 0, .int .i64 1]) (by simp [results, Try.results13, go_sem, r0, r1]) rfl ⟨rnum_bad (okay_within (Hno.out (Hhi.out hm))), (by repeat (first | exact HX.out | refine Below.drew ?_ | refine bel_drewN ?_ _ | refine Below.setCell ?_ (by simp <;> omega) _ | refine Below.alloc ?_ (by simp <;> omega) _))⟩

            · have d2 : decide (mask x < v) = false := decide_eq_false hm
              go_wp2
              go_region_held3 (fun w' => w'.cell? ⟨bb, bo + j, none⟩ = some (.int .i64 v) ∧ w'.cell? ⟨ab, ao + j, none⟩ = some (.int .i64 x)) (go_keep) (first | (go_at_call 15; refine (RMask_any _ _).mono ?_; rintro e w' ⟨rfl, rfl⟩))
              go_wp2
              exact ⟨⟨j + 1, by omega, by go_num, by rw [Hsu.out, HW.out, Hye.out (by omega) (by omega)]; rfl, _, rfl⟩, by simp [intOf]; omega⟩
        · have HW' := Lib.hid (show within vs ws vs.length = true by rw [show vs.length = j from by omega]; exact HW.out)
          have HOK := Lib.hid (okay_all H0.out H3.out HW'.out)
          have hc : op = 1 ∨ op = 12 ∨ op = 13 ∨ op = 11 ∨ (2 ≤ op ∧ op ≤ 10) := by have := op_of H0.out; omega
          rcases hc with rfl | rfl | rfl | rfl | hop
          · go_wp2
            exact bodyPost_ret (v := .agg #[.int .i64 (k), .int .i64 0]) (by simp [results, Try.results13, go_sem, r0, r1]) rfl ⟨rnum_good HOK.out (rfl), (by repeat (first | exact HX.out | refine Below.drew ?_ | refine bel_drewN ?_ _ | refine Below.setCell ?_ (by simp <;> omega) _ | refine Below.alloc ?_ (by simp <;> omega) _))⟩

          · obtain ⟨ha, fw, hk0, hk1⟩ := wide12 H0.out
            obtain ⟨x, rfl, fx⟩ := alike1_of ha
            obtain ⟨a, rfl⟩ := len1 H3.out
            have hk1 : k ≤ x - w := hk1
            have bx := fit_iff.1 fx
            have bw := fit_iff.1 fw
            have hm := mask_le fx
            have i0 := within_at HW'.out (j := 0) (by simp)
            simp at i0
            obtain ⟨bb, bo, rfl, g0⟩ := rd_1 HB.out
            have lb : bb < W.heap.size := World.block_lt_of_cell? W _ g0
            replace g0 := (HX.out.cell (p := ⟨bb, bo, none⟩) lb).trans g0
            have nb1 : W.heap.size + 1 ≠ bb := by omega
            have e4 : IntKind.u64.wrap k = k := by unfold IntKind.wrap; simp [IntKind.bits, IntKind.signed]; omega
            have e5 : min k.toNat 64 = k.toNat := by omega
            obtain rfl : j = 1 := by simp at hj hlt; omega
            go_wp2
            go_region_held3 (fun w' => w'.cell? ⟨bb, bo, none⟩ = some (.int .i64 a) ∧ w'.cell? ⟨nb, no, none⟩ = some (.int .i64 k) ∧ w'.cell? ⟨nb, no + 1, none⟩ = some (.int .i64 w)) (go_keep) (first | (go_at_call 15; refine (RMask_any _ _).mono ?_; rintro e w' ⟨rfl, rfl⟩))
            go_wp2
            exact bodyPost_ret (v := .agg #[.int .i64 (Go.bits .and .i64 (a / 2 ^ k.toNat) (mask w)), .int .i64 0]) (by simp [results, Try.results13, go_sem, r0, r1]) rfl ⟨rnum_good HOK.out (rfl), (by repeat (first | exact HX.out | refine Below.drew ?_ | refine bel_drewN ?_ _ | refine Below.setCell ?_ (by simp <;> omega) _ | refine Below.alloc ?_ (by simp <;> omega) _))⟩

          · obtain ⟨x, rfl, fx⟩ := alike1_of (wide13 H0.out).1
            obtain ⟨a, rfl⟩ := len1 H3.out
            obtain ⟨bb, bo, rfl, g0⟩ := rd_1 HB.out
            have lb : bb < W.heap.size := World.block_lt_of_cell? W _ g0
            replace g0 := (HX.out.cell (p := ⟨bb, bo, none⟩) lb).trans g0
            have nb1 : W.heap.size + 1 ≠ bb := by omega
            obtain rfl : j = 1 := by simp at hj hlt; omega
            go_wp2
            exact bodyPost_ret (v := .agg #[.int .i64 (a), .int .i64 0]) (by simp [results, Try.results13, go_sem, r0, r1]) rfl ⟨rnum_good HOK.out (rfl), (by repeat (first | exact HX.out | refine Below.drew ?_ | refine bel_drewN ?_ _ | refine Below.setCell ?_ (by simp <;> omega) _ | refine Below.alloc ?_ (by simp <;> omega) _))⟩

          · obtain ⟨hl2, _, _⟩ := wide11 H0.out
            obtain ⟨x, y, rfl⟩ := len2 hl2
            obtain ⟨ab, ao, rfl, g0, g1⟩ := rd_2 HA.out
            have lb : ab < W.heap.size := World.block_lt_of_cell? W _ g0
            replace g0 := (HX.out.cell (p := ⟨ab, ao, none⟩) lb).trans g0
            replace g1 := (HX.out.cell (p := ⟨ab, ao + 1, none⟩) lb).trans g1
            have nb1 : W.heap.size + 1 ≠ ab := by omega
            have hrv := rvc_all (op := 11) (by omega) (by omega) B cb [x, y] vs k w
            simp only [List.getD_cons_zero, List.getD_cons_succ, if_true] at hrv
            have hrv := Lib.hid hrv
            have la : ab < wc.heap.size := World.block_lt_of_cell? wc _ g0
            go_wp2
            go_region_held3 (fun w' => w'.cell? ⟨ab, ao, none⟩ = some (.int .i64 x) ∧ w'.cell? ⟨ab, ao + 1, none⟩ = some (.int .i64 y)) (go_keep) (first | (go_at_call 30; refine (hrv.out (wc.drewN _) (RB.out.below (bel_drewN (Below.refl _ _) _)) H0.out H3.out HW'.out).mono ?_; rintro e w2 ⟨rfl, hb2⟩; have HY := Lib.hid (bel_then (w := W) (by repeat (first | exact HX.out | refine Below.drew ?_ | refine bel_drewN ?_ _ | refine Below.setCell ?_ (by simp <;> omega) _ | refine Below.alloc ?_ (by simp <;> omega) _)) hb2); have s0 : w2.cell? ⟨W.heap.size + 1, 0, none⟩ = some (.int .i64 0) := (hb2.cell (by show W.heap.size + 1 < _; simp; omega)).trans (by simp [r0]); have s1 : w2.cell? ⟨W.heap.size + 1, 1, none⟩ = some (.int .i64 0) := (hb2.cell (by show W.heap.size + 1 < _; simp; omega)).trans (by simp [r1]); have sf : w2.frozen? ⟨W.heap.size + 1, 0, none⟩ = false := (hb2.frozen (by show W.heap.size + 1 < _; simp; omega)).trans (by simp [f0]); have sg : w2.frozen? ⟨W.heap.size + 1, 1, none⟩ = false := (hb2.frozen (by show W.heap.size + 1 < _; simp; omega)).trans (by simp [f1]); have q0 : w2.cell? ⟨ab, ao, none⟩ = some (.int .i64 x) := (hb2.cell (by show ab < _; simpa using la)).trans (by simp [g0]); have q1 : w2.cell? ⟨ab, ao + 1, none⟩ = some (.int .i64 y) := (hb2.cell (by show ab < _; simpa using la)).trans (by simp [g1]); clear hb2))
            go_wp2
            exact bodyPost_ret (v := .agg #[.int .i64 (val 11 [x, y] vs k w), .int .i64 0]) (by simp [results, Try.results13, go_sem, s0, s1]) rfl ⟨rnum_good HOK.out (rfl), (by repeat (first | exact HY.out | refine Below.drew ?_ | refine bel_drewN ?_ _ | refine Below.setCell ?_ (by simp <;> omega) _ | refine Below.alloc ?_ (by simp <;> omega) _))⟩

          · have o1 : (op == 1) = false := beq_eq_false_iff_ne.2 (by omega)
            have o2 : (op == 12) = false := beq_eq_false_iff_ne.2 (by omega)
            have o3 : (op == 13) = false := beq_eq_false_iff_ne.2 (by omega)
            have o4 : (op == 11) = false := beq_eq_false_iff_ne.2 (by omega)
            have hrv := rvc_all hop.1 (by omega) B cb ws vs k w
            rw [if_neg (by omega)] at hrv
            have hl := ws_pos hop.1 hop.2 H0.out
            have hl' : (0 : Int) < (ws.length : Int) := by omega
            obtain ⟨ab, ao, rfl, hcA⟩ := RA.out.at_ (by omega)
            have g0 := hcA 0 hl
            rw [Nat.add_zero] at g0
            generalize ws.getD 0 0 = x0 at g0 hrv
            have hrv2 := Lib.hid hrv
            clear hcA hrv
            go_wp2_with fail
            refine (hrv2.out (wc.drewN _) (RB.out.below (bel_drewN (Below.refl _ _) _)) H0.out H3.out HW'.out).mono ?_
            rintro e w2 ⟨rfl, hb2⟩
            have HY := Lib.hid (bel_then (w := W) (by repeat (first | exact HX.out | refine Below.drew ?_ | refine bel_drewN ?_ _ | refine Below.setCell ?_ (by simp <;> omega) _ | refine Below.alloc ?_ (by simp <;> omega) _)) hb2)
            have s0 : w2.cell? ⟨W.heap.size + 1, 0, none⟩ = some (.int .i64 0) := (hb2.cell (by show W.heap.size + 1 < _; simp; omega)).trans (by simp [r0])
            have s1 : w2.cell? ⟨W.heap.size + 1, 1, none⟩ = some (.int .i64 0) := (hb2.cell (by show W.heap.size + 1 < _; simp; omega)).trans (by simp [r1])
            have sf : w2.frozen? ⟨W.heap.size + 1, 0, none⟩ = false := (hb2.frozen (by show W.heap.size + 1 < _; simp; omega)).trans (by simp [f0])
            have sg : w2.frozen? ⟨W.heap.size + 1, 1, none⟩ = false := (hb2.frozen (by show W.heap.size + 1 < _; simp; omega)).trans (by simp [f1])
            clear hb2
            go_wp2
            exact bodyPost_ret (v := .agg #[.int .i64 (val op ws vs k w), .int .i64 0]) (by simp [results, Try.results13, go_sem, s0, s1]) rfl ⟨rnum_good HOK.out (rfl), (by repeat (first | exact HY.out | refine Below.drew ?_ | refine bel_drewN ?_ _ | refine Below.setCell ?_ (by simp <;> omega) _ | refine Below.alloc ?_ (by simp <;> omega) _))⟩

/-- wireloomref07.ApplyIn -/
theorem RApply_any (op : Int) (A B C : Option Addr) (c cb cn : Nat) (ws vs num : List Int) (W : World) (hr : Rd W A ws) (hs : Rd W B vs) (hn : Rd W C num) :
    Calls Try.prog 13 #[.int .i64 op, .slice A ws.length c, .agg #[.slice B vs.length cb, .slice C num.length cn]] W fun e W' => e = .returned (.agg #[.int .i64 (app op ws vs num), .int .i64 (appErr op ws vs num)]) ∧ Below W.heap.size W W' := by
  by_cases h2 : num.length = 2
  · by_cases h3 : vs.length = ws.length
    · obtain ⟨k, w, rfl⟩ := len2 h2
      obtain ⟨nb, no, rfl, n0, n1⟩ := rd_2 hn
      exact rap_ok op k w A B nb no c cb cn ws vs W hr hs n0 n1 h3
    · exact rap_len op A B C c cb cn ws vs num W h2 h3
  · exact rap_num op A B C c cb cn ws vs num W h2
end Bt
end Go.Proofs.Ytpblhbagjmnmpaa
