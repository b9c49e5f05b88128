/- Contract of bits.width, for each way through its two tables. Conditions: the slice of widths reads as the list. -/
import Derived.Test.YtpblhbagjmnmpaaBtF
import Derived.Laws.EntriesVeiled
set_option linter.unusedVariables false
set_option linter.unusedSimpArgs false
namespace Go.Proofs.Ytpblhbagjmnmpaa
open Go Go.RowKit
open Go.MapKept
namespace Bt

theorem bcell {W w1 : World} (hb : Below W.heap.size W w1) : (∀ b o, b < W.heap.size → w1.cell? ⟨b, o, none⟩ = W.cell? ⟨b, o, none⟩) ∧ (∀ b o, b < W.heap.size → w1.frozen? ⟨b, o, none⟩ = W.frozen? ⟨b, o, none⟩) :=
  ⟨fun b o h => hb.cell (p := ⟨b, o, none⟩) h, fun b o h => hb.frozen (p := ⟨b, o, none⟩) h⟩
theorem contains_no (A : Option Addr) (c : Nat) (ws : List Int) (W : World) (hu : Unfit ws = false) (hr : Rd W A ws) :
    Calls Try.prog 35 #[.slice A ws.length c, .func (.func 36) #[] #[]] W fun e W' => e = .returned (.bool false) ∧ W = W' := by
  rw [← hu]; exact contains_any A c ws W hr
theorem contains_yes (A : Option Addr) (c : Nat) (ws : List Int) (W : World) (hu : Unfit ws = true) (hr : Rd W A ws) :
    Calls Try.prog 35 #[.slice A ws.length c, .func (.func 36) #[] #[]] W fun e W' => e = .returned (.bool true) ∧ W = W' := by
  rw [← hu]; exact contains_any A c ws W hr
theorem rd_alloc {W : World} {A : Option Addr} {xs : List Int} (h : Rd W A xs) (o : Obj) : Rd (W.alloc o) A xs := h.below ((Below.refl _ _).alloc (Nat.le_refl _) _)

/-- What is found for op in the first table. -/
def HitS (op ar : Int) (f g : Nat) : Prop := ∀ (Wk : World) (b : Nat), b = Wk.heap.size → (Instr.lookup 70 (.map (some b)) (.int .i64 op) true).run Try.prog (Wk.alloc (.map simpleT 8)) = .ok (.tuple #[.agg #[.int .i64 ar, .func (.func f) #[] #[], .func (.func g) #[] #[]], .bool true]) (Wk.alloc (.map simpleT 8))
def MissS (op : Int) : Prop := ∀ (Wk : World) (b : Nat), b = Wk.heap.size → (Instr.lookup 70 (.map (some b)) (.int .i64 op) true).run Try.prog (Wk.alloc (.map simpleT 8)) = .ok (.tuple #[.agg #[.int .i64 0, .nilFunc, .nilFunc], .bool false]) (Wk.alloc (.map simpleT 8))
def HitO (op ar : Int) (f g : Nat) : Prop := ∀ (Wk : World) (b : Nat), b = Wk.heap.size → (Instr.lookup 70 (.map (some b)) (.int .i64 op) true).run Try.prog (Wk.alloc (.map othersT 5)) = .ok (.tuple #[.agg #[.int .i64 ar, .func (.func f) #[] #[], .func (.func g) #[] #[]], .bool true]) (Wk.alloc (.map othersT 5))
def MissO (op : Int) : Prop := ∀ (Wk : World) (b : Nat), b = Wk.heap.size → (Instr.lookup 70 (.map (some b)) (.int .i64 op) true).run Try.prog (Wk.alloc (.map othersT 5)) = .ok (.tuple #[.agg #[.int .i64 0, .nilFunc, .nilFunc], .bool false]) (Wk.alloc (.map othersT 5))

set_option maxHeartbeats 800000 in
theorem widthS_len (op ar : Int) (f g : Nat) (A : Option Addr) (c : Nat) (ws : List Int) (vb : Value) (k w : Int) (W : World) (hs : HitS op ar f g) (hr : Rd W A ws) (hlen : (ws.length : Int) ≠ ar) :
    Calls Try.prog 27 #[.int .i64 op, .agg #[.slice A ws.length c, vb, .int .i64 k, .int .i64 w]] W fun e W' => e = .returned (.tuple #[.agg #[.int .i64 0, .nilFunc, .nilFunc], .int .i64 0, .bool false]) ∧ Below W.heap.size W W' := by
  unfold HitS at hs
  have hb : ((ws.length : Int) != ar) = true := by rw [bne_iff_ne]; exact hlen
  clear hlen
  have HR := Lib.hid hr
  clear hr
  go_enter Try.func27, Try.ntmps27
  go_wp2_with (first | (go_at_call 33; refine (simple_any _).mono ?_; rintro e w' ⟨rfl, rfl⟩) | (go_at_call 34; refine (others_any _).mono ?_; rintro e w' ⟨rfl, rfl⟩))
  exact bodyPost_ret (v := .tuple #[.agg #[.int .i64 0, .nilFunc, .nilFunc], .int .i64 0, .bool false]) (by simp [results, Try.results27, go_sem]) rfl ⟨rfl, (by repeat (first | exact Below.refl _ _ | exact BW.out | refine Below.drew ?_ | refine bel_drewN ?_ _ | refine Below.setCell ?_ (by simp <;> omega) _ | refine Below.alloc ?_ (by simp <;> omega) _))⟩
set_option maxHeartbeats 800000 in
theorem widthS_unfit (op ar : Int) (f g : Nat) (A : Option Addr) (c : Nat) (ws : List Int) (vb : Value) (k w : Int) (W : World) (hs : HitS op ar f g) (hr : Rd W A ws) (hlen : (ws.length : Int) = ar) (hu : Unfit ws = true) :
    Calls Try.prog 27 #[.int .i64 op, .agg #[.slice A ws.length c, vb, .int .i64 k, .int .i64 w]] W fun e W' => e = .returned (.tuple #[.agg #[.int .i64 0, .nilFunc, .nilFunc], .int .i64 0, .bool false]) ∧ Below W.heap.size W W' := by
  unfold HitS at hs
  have hb : ((ws.length : Int) != ar) = false := by rw [bne_eq_false_iff_eq]; exact hlen
  clear hlen
  have HR := Lib.hid hr
  have HU := Lib.hid hu
  clear hr hu
  go_enter Try.func27, Try.ntmps27
  go_wp2_with (first | (go_at_call 33; refine (simple_any _).mono ?_; rintro e w' ⟨rfl, rfl⟩) | (go_at_call 34; refine (others_any _).mono ?_; rintro e w' ⟨rfl, rfl⟩) | (go_at_call 35; refine (contains_yes _ c ws _ HU.out (rd_alloc (rd_alloc (rd_alloc (rd_alloc HR.out _) _) _) _)).mono ?_; rintro e w' ⟨rfl, rfl⟩))
  exact bodyPost_ret (v := .tuple #[.agg #[.int .i64 0, .nilFunc, .nilFunc], .int .i64 0, .bool false]) (by simp [results, Try.results27, go_sem]) rfl ⟨rfl, (by repeat (first | exact Below.refl _ _ | exact BW.out | refine Below.drew ?_ | refine bel_drewN ?_ _ | refine Below.setCell ?_ (by simp <;> omega) _ | refine Below.alloc ?_ (by simp <;> omega) _))⟩
set_option maxHeartbeats 800000 in
theorem widthO_len (op ar : Int) (f g : Nat) (A : Option Addr) (c : Nat) (ws : List Int) (vb : Value) (k w : Int) (W : World) (hs : MissS op) (ho : HitO op ar f g) (hr : Rd W A ws) (hlen : (ws.length : Int) ≠ ar) :
    Calls Try.prog 27 #[.int .i64 op, .agg #[.slice A ws.length c, vb, .int .i64 k, .int .i64 w]] W fun e W' => e = .returned (.tuple #[.agg #[.int .i64 0, .nilFunc, .nilFunc], .int .i64 0, .bool false]) ∧ Below W.heap.size W W' := by
  unfold MissS at hs
  unfold HitO at ho
  have hb : ((ws.length : Int) != ar) = true := by rw [bne_iff_ne]; exact hlen
  clear hlen
  have HR := Lib.hid hr
  clear hr
  go_enter Try.func27, Try.ntmps27
  go_wp2_with (first | (go_at_call 33; refine (simple_any _).mono ?_; rintro e w' ⟨rfl, rfl⟩) | (go_at_call 34; refine (others_any _).mono ?_; rintro e w' ⟨rfl, rfl⟩))
  exact bodyPost_ret (v := .tuple #[.agg #[.int .i64 0, .nilFunc, .nilFunc], .int .i64 0, .bool false]) (by simp [results, Try.results27, go_sem]) rfl ⟨rfl, (by repeat (first | exact Below.refl _ _ | exact BW.out | refine Below.drew ?_ | refine bel_drewN ?_ _ | refine Below.setCell ?_ (by simp <;> omega) _ | refine Below.alloc ?_ (by simp <;> omega) _))⟩
set_option maxHeartbeats 800000 in
theorem widthO_unfit (op ar : Int) (f g : Nat) (A : Option Addr) (c : Nat) (ws : List Int) (vb : Value) (k w : Int) (W : World) (hs : MissS op) (ho : HitO op ar f g) (hr : Rd W A ws) (hlen : (ws.length : Int) = ar) (hu : Unfit ws = true) :
    Calls Try.prog 27 #[.int .i64 op, .agg #[.slice A ws.length c, vb, .int .i64 k, .int .i64 w]] W fun e W' => e = .returned (.tuple #[.agg #[.int .i64 0, .nilFunc, .nilFunc], .int .i64 0, .bool false]) ∧ Below W.heap.size W W' := by
  unfold MissS at hs
  unfold HitO at ho
  have hb : ((ws.length : Int) != ar) = false := by rw [bne_eq_false_iff_eq]; exact hlen
  clear hlen
  have HR := Lib.hid hr
  have HU := Lib.hid hu
  clear hr hu
  go_enter Try.func27, Try.ntmps27
  go_wp2_with (first | (go_at_call 33; refine (simple_any _).mono ?_; rintro e w' ⟨rfl, rfl⟩) | (go_at_call 34; refine (others_any _).mono ?_; rintro e w' ⟨rfl, rfl⟩) | (go_at_call 35; refine (contains_yes _ c ws _ HU.out (rd_alloc (rd_alloc (rd_alloc (rd_alloc (rd_alloc HR.out _) _) _) _) _)).mono ?_; rintro e w' ⟨rfl, rfl⟩))
  exact bodyPost_ret (v := .tuple #[.agg #[.int .i64 0, .nilFunc, .nilFunc], .int .i64 0, .bool false]) (by simp [results, Try.results27, go_sem]) rfl ⟨rfl, (by repeat (first | exact Below.refl _ _ | exact BW.out | refine Below.drew ?_ | refine bel_drewN ?_ _ | refine Below.setCell ?_ (by simp <;> omega) _ | refine Below.alloc ?_ (by simp <;> omega) _))⟩
set_option maxHeartbeats 800000 in
theorem widthM (op ar : Int) (f g : Nat) (A : Option Addr) (c : Nat) (ws : List Int) (vb : Value) (k w : Int) (W : World) (hs : MissS op) (ho : MissO op) (hr : Rd W A ws) (hlen : (ws.length : Int) = ar) :
    Calls Try.prog 27 #[.int .i64 op, .agg #[.slice A ws.length c, vb, .int .i64 k, .int .i64 w]] W fun e W' => e = .returned (.tuple #[.agg #[.int .i64 0, .nilFunc, .nilFunc], .int .i64 0, .bool false]) ∧ Below W.heap.size W W' := by
  unfold MissS at hs
  unfold MissO at ho
  clear hlen
  have HR := Lib.hid hr
  clear hr
  go_enter Try.func27, Try.ntmps27
  go_wp2_with (first | (go_at_call 33; refine (simple_any _).mono ?_; rintro e w' ⟨rfl, rfl⟩) | (go_at_call 34; refine (others_any _).mono ?_; rintro e w' ⟨rfl, rfl⟩))
  exact bodyPost_ret (v := .tuple #[.agg #[.int .i64 0, .nilFunc, .nilFunc], .int .i64 0, .bool false]) (by simp [results, Try.results27, go_sem]) rfl ⟨rfl, (by repeat (first | exact Below.refl _ _ | exact BW.out | refine Below.drew ?_ | refine bel_drewN ?_ _ | refine Below.setCell ?_ (by simp <;> omega) _ | refine Below.alloc ?_ (by simp <;> omega) _))⟩
set_option maxHeartbeats 800000 in
theorem widthS_ok (op ar : Int) (f g : Nat) (A : Option Addr) (c : Nat) (ws : List Int) (vb : Value) (k w r : Int) (W : World) (hs : HitS op ar f g) (hr : Rd W A ws) (hlen : (ws.length : Int) = ar) (hu : Unfit ws = false) (he : ∀ args w, (callFunc f args).run Try.prog w = .ok (.enter f args) w) (hf : ∀ W', Below W.heap.size W W' → Calls Try.prog f #[.agg #[.slice A ws.length c, vb, .int .i64 k, .int .i64 w]] W' fun e W'' => e = .returned (.int .i64 r) ∧ Below W'.heap.size W' W'') :
    Calls Try.prog 27 #[.int .i64 op, .agg #[.slice A ws.length c, vb, .int .i64 k, .int .i64 w]] W fun e W' => e = .returned (.tuple #[.agg #[.int .i64 ar, .func (.func f) #[] #[], .func (.func g) #[] #[]], .int .i64 r, .bool (fit r)]) ∧ Below W.heap.size W W' := by
  unfold HitS at hs
  have hb : ((ws.length : Int) != ar) = false := by rw [bne_eq_false_iff_eq]; exact hlen
  clear hlen
  have HR := Lib.hid hr
  have HU := Lib.hid hu
  have HF := Lib.hid hf
  clear hr hu hf
  go_enter Try.func27, Try.ntmps27
  go_wp2_with (first | (go_at_call 33; refine (simple_any _).mono ?_; rintro e w' ⟨rfl, rfl⟩) | (go_at_call 34; refine (others_any _).mono ?_; rintro e w' ⟨rfl, rfl⟩) | (go_at_call 35; refine (contains_no _ c ws _ HU.out (rd_alloc (rd_alloc (rd_alloc (rd_alloc HR.out _) _) _) _)).mono ?_; rintro e w' ⟨rfl, rfl⟩))
  refine (HF.out _ (by repeat (first | exact Below.refl _ _ | refine Below.alloc ?_ (by simp <;> omega) _ | refine Below.setCell ?_ (by simp <;> omega) _))).mono ?_
  rintro e w1 ⟨rfl, hb1⟩
  obtain ⟨hc, hfz⟩ := bcell hb1
  have hz : W.heap.size + 1 + 1 + 1 < w1.heap.size := by have := hb1.size; simp at this; omega
  have q0 : w1.cell? ⟨W.heap.size + 1 + 1 + 1, 0, none⟩ = some (.int .i64 ar) := by rw [hc _ _ (by simp <;> omega)]; simp [go_sem]
  have q1 : w1.cell? ⟨W.heap.size + 1 + 1 + 1, 1, none⟩ = some (.func (.func f) #[] #[]) := by rw [hc _ _ (by simp <;> omega)]; simp [go_sem]
  have q2 : w1.cell? ⟨W.heap.size + 1 + 1 + 1, 2, none⟩ = some (.func (.func g) #[] #[]) := by rw [hc _ _ (by simp <;> omega)]; simp [go_sem]
  have r0 : w1.cell? ⟨W.heap.size + 1, 0, none⟩ = some (.int .i64 0) := by rw [hc _ _ (by simp <;> omega)]; simp [go_sem]
  have f0 : w1.frozen? ⟨W.heap.size + 1, 0, none⟩ = false := by rw [hfz _ _ (by simp <;> omega)]; simp [go_sem]
  have r1 : w1.cell? ⟨W.heap.size + 1, 1, none⟩ = some (.nilFunc) := by rw [hc _ _ (by simp <;> omega)]; simp [go_sem]
  have f1 : w1.frozen? ⟨W.heap.size + 1, 1, none⟩ = false := by rw [hfz _ _ (by simp <;> omega)]; simp [go_sem]
  have r2 : w1.cell? ⟨W.heap.size + 1, 2, none⟩ = some (.nilFunc) := by rw [hc _ _ (by simp <;> omega)]; simp [go_sem]
  have f2 : w1.frozen? ⟨W.heap.size + 1, 2, none⟩ = false := by rw [hfz _ _ (by simp <;> omega)]; simp [go_sem]
  have BW := Lib.hid (show Below W.heap.size W w1 from Below.trans (by repeat (first | exact Below.refl _ _ | refine Below.alloc ?_ (by simp <;> omega) _ | refine Below.setCell ?_ (by simp <;> omega) _)) (hb1.mono (by simp <;> omega)))
  clear hb1 hc hfz
  go_wp2
  go_region_held3 (fun w' => w'.cell? ⟨W.heap.size + 1 + 1 + 1, 0, none⟩ = some (.int .i64 ar) ∧ w'.cell? ⟨W.heap.size + 1 + 1 + 1, 1, none⟩ = some (.func (.func f) #[] #[]) ∧ w'.cell? ⟨W.heap.size + 1 + 1 + 1, 2, none⟩ = some (.func (.func g) #[] #[])) (go_keep) (first | (go_at_call 37; refine (fits_any _ _).mono ?_; rintro e w' ⟨rfl, rfl⟩))
  all_goals go_wp2
  all_goals exact bodyPost_ret (v := .tuple #[.agg #[.int .i64 ar, .func (.func f) #[] #[], .func (.func g) #[] #[]], .int .i64 r, .bool (fit r)]) (by simp [results, Try.results27, go_sem, r0, r1, r2]) rfl ⟨rfl, (by repeat (first | exact Below.refl _ _ | exact BW.out | refine Below.drew ?_ | refine bel_drewN ?_ _ | refine Below.setCell ?_ (by simp <;> omega) _ | refine Below.alloc ?_ (by simp <;> omega) _))⟩
set_option maxHeartbeats 800000 in
theorem widthO_ok (op ar : Int) (f g : Nat) (A : Option Addr) (c : Nat) (ws : List Int) (vb : Value) (k w r : Int) (W : World) (hs : MissS op) (ho : HitO op ar f g) (hr : Rd W A ws) (hlen : (ws.length : Int) = ar) (hu : Unfit ws = false) (he : ∀ args w, (callFunc f args).run Try.prog w = .ok (.enter f args) w) (hf : ∀ W', Below W.heap.size W W' → Calls Try.prog f #[.agg #[.slice A ws.length c, vb, .int .i64 k, .int .i64 w]] W' fun e W'' => e = .returned (.int .i64 r) ∧ Below W'.heap.size W' W'') :
    Calls Try.prog 27 #[.int .i64 op, .agg #[.slice A ws.length c, vb, .int .i64 k, .int .i64 w]] W fun e W' => e = .returned (.tuple #[.agg #[.int .i64 ar, .func (.func f) #[] #[], .func (.func g) #[] #[]], .int .i64 r, .bool (fit r)]) ∧ Below W.heap.size W W' := by
  unfold MissS at hs
  unfold HitO at ho
  have hb : ((ws.length : Int) != ar) = false := by rw [bne_eq_false_iff_eq]; exact hlen
  clear hlen
  have HR := Lib.hid hr
  have HU := Lib.hid hu
  have HF := Lib.hid hf
  clear hr hu hf
  go_enter Try.func27, Try.ntmps27
  go_wp2_with (first | (go_at_call 33; refine (simple_any _).mono ?_; rintro e w' ⟨rfl, rfl⟩) | (go_at_call 34; refine (others_any _).mono ?_; rintro e w' ⟨rfl, rfl⟩) | (go_at_call 35; refine (contains_no _ c ws _ HU.out (rd_alloc (rd_alloc (rd_alloc (rd_alloc (rd_alloc HR.out _) _) _) _) _)).mono ?_; rintro e w' ⟨rfl, rfl⟩))
  refine (HF.out _ (by repeat (first | exact Below.refl _ _ | refine Below.alloc ?_ (by simp <;> omega) _ | refine Below.setCell ?_ (by simp <;> omega) _))).mono ?_
  rintro e w1 ⟨rfl, hb1⟩
  obtain ⟨hc, hfz⟩ := bcell hb1
  have hz : W.heap.size + 1 + 1 + 1 < w1.heap.size := by have := hb1.size; simp at this; omega
  have q0 : w1.cell? ⟨W.heap.size + 1 + 1 + 1, 0, none⟩ = some (.int .i64 ar) := by rw [hc _ _ (by simp <;> omega)]; simp [go_sem]
  have q1 : w1.cell? ⟨W.heap.size + 1 + 1 + 1, 1, none⟩ = some (.func (.func f) #[] #[]) := by rw [hc _ _ (by simp <;> omega)]; simp [go_sem]
  have q2 : w1.cell? ⟨W.heap.size + 1 + 1 + 1, 2, none⟩ = some (.func (.func g) #[] #[]) := by rw [hc _ _ (by simp <;> omega)]; simp [go_sem]
  have r0 : w1.cell? ⟨W.heap.size + 1, 0, none⟩ = some (.int .i64 0) := by rw [hc _ _ (by simp <;> omega)]; simp [go_sem]
  have f0 : w1.frozen? ⟨W.heap.size + 1, 0, none⟩ = false := by rw [hfz _ _ (by simp <;> omega)]; simp [go_sem]
  have r1 : w1.cell? ⟨W.heap.size + 1, 1, none⟩ = some (.nilFunc) := by rw [hc _ _ (by simp <;> omega)]; simp [go_sem]
  have f1 : w1.frozen? ⟨W.heap.size + 1, 1, none⟩ = false := by rw [hfz _ _ (by simp <;> omega)]; simp [go_sem]
  have r2 : w1.cell? ⟨W.heap.size + 1, 2, none⟩ = some (.nilFunc) := by rw [hc _ _ (by simp <;> omega)]; simp [go_sem]
  have f2 : w1.frozen? ⟨W.heap.size + 1, 2, none⟩ = false := by rw [hfz _ _ (by simp <;> omega)]; simp [go_sem]
  have BW := Lib.hid (show Below W.heap.size W w1 from Below.trans (by repeat (first | exact Below.refl _ _ | refine Below.alloc ?_ (by simp <;> omega) _ | refine Below.setCell ?_ (by simp <;> omega) _)) (hb1.mono (by simp <;> omega)))
  clear hb1 hc hfz
  go_wp2
  go_region_held3 (fun w' => w'.cell? ⟨W.heap.size + 1 + 1 + 1, 0, none⟩ = some (.int .i64 ar) ∧ w'.cell? ⟨W.heap.size + 1 + 1 + 1, 1, none⟩ = some (.func (.func f) #[] #[]) ∧ w'.cell? ⟨W.heap.size + 1 + 1 + 1, 2, none⟩ = some (.func (.func g) #[] #[])) (go_keep) (first | (go_at_call 37; refine (fits_any _ _).mono ?_; rintro e w' ⟨rfl, rfl⟩))
  all_goals go_wp2
  all_goals exact bodyPost_ret (v := .tuple #[.agg #[.int .i64 ar, .func (.func f) #[] #[], .func (.func g) #[] #[]], .int .i64 r, .bool (fit r)]) (by simp [results, Try.results27, go_sem, r0, r1, r2]) rfl ⟨rfl, (by repeat (first | exact Below.refl _ _ | exact BW.out | refine Below.drew ?_ | refine bel_drewN ?_ _ | refine Below.setCell ?_ (by simp <;> omega) _ | refine Below.alloc ?_ (by simp <;> omega) _))⟩
end Bt
end Go.Proofs.Ytpblhbagjmnmpaa
