/- Contract of bits.width in the spec's words. Conditions: the slice of widths reads as the list. -/
import Derived.Test.YtpblhbagjmnmpaaBtG
import Derived.Shelf.Abstract
set_option linter.unusedVariables false
set_option linter.unusedSimpArgs false
namespace Go.Proofs.Ytpblhbagjmnmpaa
open Go Go.RowKit
open Go.MapKept
namespace Bt

/-- The number of arguments of an operator; its value function. -/
def arof (op : Int) : Nat := if op = 1 then 0 else if op = 2 ∨ op = 12 ∨ op = 13 then 1 else if op = 10 then 3 else 2
def gof (op : Int) : Nat :=
  if op = 1 then 53 else if op = 2 then 41 else if op = 3 then 44 else if op = 4 then 45 else if op = 5 then 46
  else if op = 6 then 47 else if op = 7 then 48 else if op = 8 then 50 else if op = 9 then 51
  else if op = 10 then 55 else if op = 11 then 57 else if op = 12 then 59 else 61

def WRes (op : Int) (ws : List Int) (k w : Int) (W : World) (e : Ending) (W' : World) : Prop :=
  (e = .returned (.tuple #[.agg #[.int .i64 0, .nilFunc, .nilFunc], .int .i64 0, .bool false]) ∧ width op ws k w = 0 ∧ Below W.heap.size W W') ∨
  ((∃ (a : Int) (f g : Nat) (r : Int), e = .returned (.tuple #[.agg #[.int .i64 a, .func (.func f) #[] #[], .func (.func g) #[] #[]], .int .i64 r, .bool false])) ∧ width op ws k w = 0 ∧ Below W.heap.size W W') ∨
  ((∃ (ar : Int) (f : Nat), e = .returned (.tuple #[.agg #[.int .i64 ar, .func (.func f) #[] #[], .func (.func (gof op)) #[] #[]], .int .i64 (width op ws k w), .bool true])) ∧ width op ws k w ≠ 0 ∧ Below W.heap.size W W')

theorem width_zero {op : Int} {ws : List Int} {k w : Int} (h : wide op ws k w = 0) : width op ws k w = 0 := by
  unfold width; rw [h]; rfl
theorem wres_bad {op : Int} {ws : List Int} {k w : Int} {W : World} {e : Ending} {W' : World} (h0 : wide op ws k w = 0)
    (h : e = .returned (.tuple #[.agg #[.int .i64 0, .nilFunc, .nilFunc], .int .i64 0, .bool false]) ∧ Below W.heap.size W W') : WRes op ws k w W e W' :=
  .inl ⟨h.1, width_zero h0, h.2⟩
theorem wres_of {op : Int} {ws : List Int} {k w r ar : Int} {f : Nat} {W : World} {e : Ending} {W' : World} (h0 : wide op ws k w = r)
    (h : e = .returned (.tuple #[.agg #[.int .i64 ar, .func (.func f) #[] #[], .func (.func (gof op)) #[] #[]], .int .i64 r, .bool (fit r)]) ∧ Below W.heap.size W W') : WRes op ws k w W e W' := by
  cases hf : fit r with
  | false => exact .inr (.inl ⟨⟨ar, f, _, r, by rw [h.1, hf]⟩, by unfold width; rw [h0, hf]; rfl, h.2⟩)
  | true =>
    have hw : width op ws k w = r := by unfold width; rw [h0, hf]; rfl
    refine .inr (.inr ⟨⟨ar, f, by rw [h.1, hf, hw]⟩, ?_, h.2⟩)
    rw [hw]
    rw [fit_iff] at hf
    omega

theorem wide_len {op : Int} {ws : List Int} {k w : Int} (h : ws.length ≠ arof op) : wide op ws k w = 0 := by
  unfold arof at h
  unfold wide
  repeat' split at h
  all_goals first
    | (subst op; simp [alike, h]; done)
    | (rename_i hc; rcases hc with rfl | rfl | rfl <;> simp [alike, h]; done)
    | skip
  all_goals (repeat' split) <;> simp_all [alike]
theorem wide_unfit {op : Int} {ws : List Int} {k w : Int} (h : Unfit ws = true) : wide op ws k w = 0 := by
  have ha : ∀ n, alike ws n = false := fun n => alike_unfit h
  have h0 : ¬ ws.length = 0 := by
    intro e
    rw [List.eq_nil_of_length_eq_zero e] at h
    simp [Unfit] at h
  have h2 : ws.length = 2 → fit (ws.getD 0 0) = true → fit (ws.getD 1 0) = false := by
    intro e e0
    match ws, e with
    | [x, y], _ =>
      simp [Unfit] at h
      rcases h with h | h
      · simp [h] at e0
      · simpa using h
  unfold wide
  simp only [ha, h0]
  repeat' split
  all_goals first | rfl | (exfalso; simp_all; done) | (rename_i hh; exact absurd (h2 hh.1 hh.2.1) (by rw [hh.2.2]; simp))


theorem unfit_one {x : Int} (h : ¬ Unfit [x] = true) : fit x = true := by simpa [Unfit] using h
theorem unfit_two {x y : Int} (h : ¬ Unfit [x, y] = true) : fit x = true ∧ fit y = true := by simpa [Unfit] using h
theorem unfit_three {x y z : Int} (h : ¬ Unfit [x, y, z] = true) : fit x = true ∧ fit y = true ∧ fit z = true := by simpa [Unfit] using h
theorem alike_1 {x : Int} (hx : fit x = true) : alike [x] 1 = true := by simp [alike, hx]
theorem alike_2 {x y : Int} (hx : fit x = true) (hy : fit y = true) : alike [x, y] 2 = decide (y = x) := by simp [alike, hx, hy]
theorem alike_3 {x y z : Int} (hx : fit x = true) (hy : fit y = true) (hz : fit z = true) : alike [x, y, z] 3 = decide (z = y) := by simp [alike, hx, hy, hz]
theorem rd_cell0 {W : World} {A : Option Addr} {x : Int} {l : List Int} (h : Rd W A (x :: l)) : ∃ b o, A = some ⟨b, o, none⟩ ∧ W.cell? ⟨b, o, none⟩ = some (.int .i64 x) ∧ ∀ j, j < l.length → W.cell? ⟨b, o + (j + 1), none⟩ = some (.int .i64 (l.getD j 0)) := by
  obtain ⟨b, o, e, hc⟩ := h.at_ (by simp)
  exact ⟨b, o, e, by simpa using hc 0 (by simp), fun j hj => by simpa using hc (j + 1) (by simpa using hj)⟩

theorem hit2 : HitS 2 1 40 41 := fun Wk b hb => by subst hb; exact look_hit _ _ simpleT 8 2 0 _ (map_new _ _) rfl
theorem hit3 : HitS 3 2 43 44 := fun Wk b hb => by subst hb; exact look_hit _ _ simpleT 8 3 1 _ (map_new _ _) rfl
theorem hit4 : HitS 4 2 43 45 := fun Wk b hb => by subst hb; exact look_hit _ _ simpleT 8 4 2 _ (map_new _ _) rfl
theorem hit5 : HitS 5 2 43 46 := fun Wk b hb => by subst hb; exact look_hit _ _ simpleT 8 5 3 _ (map_new _ _) rfl
theorem hit6 : HitS 6 2 43 47 := fun Wk b hb => by subst hb; exact look_hit _ _ simpleT 8 6 4 _ (map_new _ _) rfl
theorem hit7 : HitS 7 2 43 48 := fun Wk b hb => by subst hb; exact look_hit _ _ simpleT 8 7 5 _ (map_new _ _) rfl
theorem hit8 : HitS 8 2 49 50 := fun Wk b hb => by subst hb; exact look_hit _ _ simpleT 8 8 6 _ (map_new _ _) rfl
theorem hit9 : HitS 9 2 49 51 := fun Wk b hb => by subst hb; exact look_hit _ _ simpleT 8 9 7 _ (map_new _ _) rfl
theorem miss1 : MissS 1 := fun Wk b hb => by subst hb; exact look_miss _ _ simpleT 8 1 (map_new _ _) rfl
theorem hit1 : HitO 1 0 52 53 := fun Wk b hb => by subst hb; exact look_hit _ _ othersT 5 1 0 _ (map_new _ _) rfl
theorem miss10 : MissS 10 := fun Wk b hb => by subst hb; exact look_miss _ _ simpleT 8 10 (map_new _ _) rfl
theorem hit10 : HitO 10 3 54 55 := fun Wk b hb => by subst hb; exact look_hit _ _ othersT 5 10 1 _ (map_new _ _) rfl
theorem miss11 : MissS 11 := fun Wk b hb => by subst hb; exact look_miss _ _ simpleT 8 11 (map_new _ _) rfl
theorem hit11 : HitO 11 2 56 57 := fun Wk b hb => by subst hb; exact look_hit _ _ othersT 5 11 2 _ (map_new _ _) rfl
theorem miss12 : MissS 12 := fun Wk b hb => by subst hb; exact look_miss _ _ simpleT 8 12 (map_new _ _) rfl
theorem hit12 : HitO 12 1 58 59 := fun Wk b hb => by subst hb; exact look_hit _ _ othersT 5 12 3 _ (map_new _ _) rfl
theorem miss13 : MissS 13 := fun Wk b hb => by subst hb; exact look_miss _ _ simpleT 8 13 (map_new _ _) rfl
theorem hit13 : HitO 13 1 60 61 := fun Wk b hb => by subst hb; exact look_hit _ _ othersT 5 13 4 _ (map_new _ _) rfl
theorem ent_alike : ∀ args w, (callFunc 43 args).run Try.prog w = .ok (.enter 43 args) w := _root_.Go.Proofs.enters_of Try.func43 (by kernel_rfl) rfl
theorem ent_first : ∀ args w, (callFunc 40 args).run Try.prog w = .ok (.enter 40 args) w := _root_.Go.Proofs.enters_of Try.func40 (by kernel_rfl) rfl
theorem ent_one : ∀ args w, (callFunc 49 args).run Try.prog w = .ok (.enter 49 args) w := _root_.Go.Proofs.enters_of Try.func49 (by kernel_rfl) rfl
theorem ent_others_1 : ∀ args w, (callFunc 52 args).run Try.prog w = .ok (.enter 52 args) w := _root_.Go.Proofs.enters_of Try.func52 (by kernel_rfl) rfl
theorem ent_others_3 : ∀ args w, (callFunc 54 args).run Try.prog w = .ok (.enter 54 args) w := _root_.Go.Proofs.enters_of Try.func54 (by kernel_rfl) rfl
theorem ent_others_5 : ∀ args w, (callFunc 56 args).run Try.prog w = .ok (.enter 56 args) w := _root_.Go.Proofs.enters_of Try.func56 (by kernel_rfl) rfl
theorem ent_others_7 : ∀ args w, (callFunc 58 args).run Try.prog w = .ok (.enter 58 args) w := _root_.Go.Proofs.enters_of Try.func58 (by kernel_rfl) rfl
theorem ent_others_9 : ∀ args w, (callFunc 60 args).run Try.prog w = .ok (.enter 60 args) w := _root_.Go.Proofs.enters_of Try.func60 (by kernel_rfl) rfl
theorem wid2 (A : Option Addr) (c : Nat) (ws : List Int) (vb : Value) (k w : Int) (W : World) (hr : Rd W A ws) :
    Calls Try.prog 27 #[.int .i64 2, .agg #[.slice A ws.length c, vb, .int .i64 k, .int .i64 w]] W (WRes 2 ws k w W) := by
  by_cases hl : ws.length = 1
  · by_cases hu : Unfit ws = true
    · exact (widthS_unfit 2 1 40 41 A c ws vb k w W hit2 hr (by rw [hl]; rfl) hu).mono fun e W' h => wres_bad (wide_unfit hu) h
    · have hu' : Unfit ws = false := by simpa using hu
      match ws, hl with
      | [x], _ =>
        obtain ⟨b, o, rfl, h0, hc⟩ := rd_cell0 hr
        have fx := unfit_one hu
        exact (widthS_ok 2 1 40 41 (some ⟨b, o, none⟩) c [x] vb k w (x) W hit2 hr rfl hu' ent_first (fun W' cb => first_any b o c vb k w x W' ((cb.cell (World.block_lt_of_cell? W _ h0)).trans h0))).mono fun e' W' h => wres_of (by simp [wide, alike_1 fx]) h
  · exact (widthS_len 2 1 40 41 A c ws vb k w W hit2 hr (by omega)).mono fun e W' h => wres_bad (wide_len (by simpa [arof] using hl)) h
theorem wid3 (A : Option Addr) (c : Nat) (ws : List Int) (vb : Value) (k w : Int) (W : World) (hr : Rd W A ws) :
    Calls Try.prog 27 #[.int .i64 3, .agg #[.slice A ws.length c, vb, .int .i64 k, .int .i64 w]] W (WRes 3 ws k w W) := by
  by_cases hl : ws.length = 2
  · by_cases hu : Unfit ws = true
    · exact (widthS_unfit 3 2 43 44 A c ws vb k w W hit3 hr (by rw [hl]; rfl) hu).mono fun e W' h => wres_bad (wide_unfit hu) h
    · have hu' : Unfit ws = false := by simpa using hu
      match ws, hl with
      | [x, y], _ =>
        obtain ⟨b, o, rfl, h0, hc⟩ := rd_cell0 hr
        have h1 : W.cell? ⟨b, o + 1, none⟩ = some (.int .i64 y) := by simpa using hc 0 (by simp)
        obtain ⟨fx, fy⟩ := unfit_two hu
        by_cases e : x = y
        · exact (widthS_ok 3 2 43 44 (some ⟨b, o, none⟩) c [x, y] vb k w (x) W hit3 hr rfl hu' ent_alike (fun W' cb => alike_eq b o c vb k w x y W' ((cb.cell (World.block_lt_of_cell? W _ h0)).trans h0) ((cb.cell (World.block_lt_of_cell? W _ h1)).trans h1) e)).mono fun e' W' h => wres_of (by simp [wide, (alike_2 fx fy).trans (decide_eq_true e.symm)]) h
        · exact (widthS_ok 3 2 43 44 (some ⟨b, o, none⟩) c [x, y] vb k w (0) W hit3 hr rfl hu' ent_alike (fun W' cb => alike_ne b o c vb k w x y W' ((cb.cell (World.block_lt_of_cell? W _ h0)).trans h0) ((cb.cell (World.block_lt_of_cell? W _ h1)).trans h1) e)).mono fun e' W' h => wres_of (by simp [wide, alike_2 fx fy, Ne.symm e]) h
  · exact (widthS_len 3 2 43 44 A c ws vb k w W hit3 hr (by omega)).mono fun e W' h => wres_bad (wide_len (by simpa [arof] using hl)) h
theorem wid4 (A : Option Addr) (c : Nat) (ws : List Int) (vb : Value) (k w : Int) (W : World) (hr : Rd W A ws) :
    Calls Try.prog 27 #[.int .i64 4, .agg #[.slice A ws.length c, vb, .int .i64 k, .int .i64 w]] W (WRes 4 ws k w W) := by
  by_cases hl : ws.length = 2
  · by_cases hu : Unfit ws = true
    · exact (widthS_unfit 4 2 43 45 A c ws vb k w W hit4 hr (by rw [hl]; rfl) hu).mono fun e W' h => wres_bad (wide_unfit hu) h
    · have hu' : Unfit ws = false := by simpa using hu
      match ws, hl with
      | [x, y], _ =>
        obtain ⟨b, o, rfl, h0, hc⟩ := rd_cell0 hr
        have h1 : W.cell? ⟨b, o + 1, none⟩ = some (.int .i64 y) := by simpa using hc 0 (by simp)
        obtain ⟨fx, fy⟩ := unfit_two hu
        by_cases e : x = y
        · exact (widthS_ok 4 2 43 45 (some ⟨b, o, none⟩) c [x, y] vb k w (x) W hit4 hr rfl hu' ent_alike (fun W' cb => alike_eq b o c vb k w x y W' ((cb.cell (World.block_lt_of_cell? W _ h0)).trans h0) ((cb.cell (World.block_lt_of_cell? W _ h1)).trans h1) e)).mono fun e' W' h => wres_of (by simp [wide, (alike_2 fx fy).trans (decide_eq_true e.symm)]) h
        · exact (widthS_ok 4 2 43 45 (some ⟨b, o, none⟩) c [x, y] vb k w (0) W hit4 hr rfl hu' ent_alike (fun W' cb => alike_ne b o c vb k w x y W' ((cb.cell (World.block_lt_of_cell? W _ h0)).trans h0) ((cb.cell (World.block_lt_of_cell? W _ h1)).trans h1) e)).mono fun e' W' h => wres_of (by simp [wide, alike_2 fx fy, Ne.symm e]) h
  · exact (widthS_len 4 2 43 45 A c ws vb k w W hit4 hr (by omega)).mono fun e W' h => wres_bad (wide_len (by simpa [arof] using hl)) h
theorem wid5 (A : Option Addr) (c : Nat) (ws : List Int) (vb : Value) (k w : Int) (W : World) (hr : Rd W A ws) :
    Calls Try.prog 27 #[.int .i64 5, .agg #[.slice A ws.length c, vb, .int .i64 k, .int .i64 w]] W (WRes 5 ws k w W) := by
  by_cases hl : ws.length = 2
  · by_cases hu : Unfit ws = true
    · exact (widthS_unfit 5 2 43 46 A c ws vb k w W hit5 hr (by rw [hl]; rfl) hu).mono fun e W' h => wres_bad (wide_unfit hu) h
    · have hu' : Unfit ws = false := by simpa using hu
      match ws, hl with
      | [x, y], _ =>
        obtain ⟨b, o, rfl, h0, hc⟩ := rd_cell0 hr
        have h1 : W.cell? ⟨b, o + 1, none⟩ = some (.int .i64 y) := by simpa using hc 0 (by simp)
        obtain ⟨fx, fy⟩ := unfit_two hu
        by_cases e : x = y
        · exact (widthS_ok 5 2 43 46 (some ⟨b, o, none⟩) c [x, y] vb k w (x) W hit5 hr rfl hu' ent_alike (fun W' cb => alike_eq b o c vb k w x y W' ((cb.cell (World.block_lt_of_cell? W _ h0)).trans h0) ((cb.cell (World.block_lt_of_cell? W _ h1)).trans h1) e)).mono fun e' W' h => wres_of (by simp [wide, (alike_2 fx fy).trans (decide_eq_true e.symm)]) h
        · exact (widthS_ok 5 2 43 46 (some ⟨b, o, none⟩) c [x, y] vb k w (0) W hit5 hr rfl hu' ent_alike (fun W' cb => alike_ne b o c vb k w x y W' ((cb.cell (World.block_lt_of_cell? W _ h0)).trans h0) ((cb.cell (World.block_lt_of_cell? W _ h1)).trans h1) e)).mono fun e' W' h => wres_of (by simp [wide, alike_2 fx fy, Ne.symm e]) h
  · exact (widthS_len 5 2 43 46 A c ws vb k w W hit5 hr (by omega)).mono fun e W' h => wres_bad (wide_len (by simpa [arof] using hl)) h
theorem wid6 (A : Option Addr) (c : Nat) (ws : List Int) (vb : Value) (k w : Int) (W : World) (hr : Rd W A ws) :
    Calls Try.prog 27 #[.int .i64 6, .agg #[.slice A ws.length c, vb, .int .i64 k, .int .i64 w]] W (WRes 6 ws k w W) := by
  by_cases hl : ws.length = 2
  · by_cases hu : Unfit ws = true
    · exact (widthS_unfit 6 2 43 47 A c ws vb k w W hit6 hr (by rw [hl]; rfl) hu).mono fun e W' h => wres_bad (wide_unfit hu) h
    · have hu' : Unfit ws = false := by simpa using hu
      match ws, hl with
      | [x, y], _ =>
        obtain ⟨b, o, rfl, h0, hc⟩ := rd_cell0 hr
        have h1 : W.cell? ⟨b, o + 1, none⟩ = some (.int .i64 y) := by simpa using hc 0 (by simp)
        obtain ⟨fx, fy⟩ := unfit_two hu
        by_cases e : x = y
        · exact (widthS_ok 6 2 43 47 (some ⟨b, o, none⟩) c [x, y] vb k w (x) W hit6 hr rfl hu' ent_alike (fun W' cb => alike_eq b o c vb k w x y W' ((cb.cell (World.block_lt_of_cell? W _ h0)).trans h0) ((cb.cell (World.block_lt_of_cell? W _ h1)).trans h1) e)).mono fun e' W' h => wres_of (by simp [wide, (alike_2 fx fy).trans (decide_eq_true e.symm)]) h
        · exact (widthS_ok 6 2 43 47 (some ⟨b, o, none⟩) c [x, y] vb k w (0) W hit6 hr rfl hu' ent_alike (fun W' cb => alike_ne b o c vb k w x y W' ((cb.cell (World.block_lt_of_cell? W _ h0)).trans h0) ((cb.cell (World.block_lt_of_cell? W _ h1)).trans h1) e)).mono fun e' W' h => wres_of (by simp [wide, alike_2 fx fy, Ne.symm e]) h
  · exact (widthS_len 6 2 43 47 A c ws vb k w W hit6 hr (by omega)).mono fun e W' h => wres_bad (wide_len (by simpa [arof] using hl)) h
theorem wid7 (A : Option Addr) (c : Nat) (ws : List Int) (vb : Value) (k w : Int) (W : World) (hr : Rd W A ws) :
    Calls Try.prog 27 #[.int .i64 7, .agg #[.slice A ws.length c, vb, .int .i64 k, .int .i64 w]] W (WRes 7 ws k w W) := by
  by_cases hl : ws.length = 2
  · by_cases hu : Unfit ws = true
    · exact (widthS_unfit 7 2 43 48 A c ws vb k w W hit7 hr (by rw [hl]; rfl) hu).mono fun e W' h => wres_bad (wide_unfit hu) h
    · have hu' : Unfit ws = false := by simpa using hu
      match ws, hl with
      | [x, y], _ =>
        obtain ⟨b, o, rfl, h0, hc⟩ := rd_cell0 hr
        have h1 : W.cell? ⟨b, o + 1, none⟩ = some (.int .i64 y) := by simpa using hc 0 (by simp)
        obtain ⟨fx, fy⟩ := unfit_two hu
        by_cases e : x = y
        · exact (widthS_ok 7 2 43 48 (some ⟨b, o, none⟩) c [x, y] vb k w (x) W hit7 hr rfl hu' ent_alike (fun W' cb => alike_eq b o c vb k w x y W' ((cb.cell (World.block_lt_of_cell? W _ h0)).trans h0) ((cb.cell (World.block_lt_of_cell? W _ h1)).trans h1) e)).mono fun e' W' h => wres_of (by simp [wide, (alike_2 fx fy).trans (decide_eq_true e.symm)]) h
        · exact (widthS_ok 7 2 43 48 (some ⟨b, o, none⟩) c [x, y] vb k w (0) W hit7 hr rfl hu' ent_alike (fun W' cb => alike_ne b o c vb k w x y W' ((cb.cell (World.block_lt_of_cell? W _ h0)).trans h0) ((cb.cell (World.block_lt_of_cell? W _ h1)).trans h1) e)).mono fun e' W' h => wres_of (by simp [wide, alike_2 fx fy, Ne.symm e]) h
  · exact (widthS_len 7 2 43 48 A c ws vb k w W hit7 hr (by omega)).mono fun e W' h => wres_bad (wide_len (by simpa [arof] using hl)) h
theorem wid8 (A : Option Addr) (c : Nat) (ws : List Int) (vb : Value) (k w : Int) (W : World) (hr : Rd W A ws) :
    Calls Try.prog 27 #[.int .i64 8, .agg #[.slice A ws.length c, vb, .int .i64 k, .int .i64 w]] W (WRes 8 ws k w W) := by
  by_cases hl : ws.length = 2
  · by_cases hu : Unfit ws = true
    · exact (widthS_unfit 8 2 49 50 A c ws vb k w W hit8 hr (by rw [hl]; rfl) hu).mono fun e W' h => wres_bad (wide_unfit hu) h
    · have hu' : Unfit ws = false := by simpa using hu
      match ws, hl with
      | [x, y], _ =>
        obtain ⟨b, o, rfl, h0, hc⟩ := rd_cell0 hr
        have h1 : W.cell? ⟨b, o + 1, none⟩ = some (.int .i64 y) := by simpa using hc 0 (by simp)
        obtain ⟨fx, fy⟩ := unfit_two hu
        have bx := fit_iff.1 fx
        by_cases e : x = y
        · exact (widthS_ok 8 2 49 50 (some ⟨b, o, none⟩) c [x, y] vb k w (1) W hit8 hr rfl hu' ent_one (fun W' cb => one_eq b o c vb k w x y W' ((cb.cell (World.block_lt_of_cell? W _ h0)).trans h0) ((cb.cell (World.block_lt_of_cell? W _ h1)).trans h1) e bx.1)).mono fun e' W' h => wres_of (by simp [wide, (alike_2 fx fy).trans (decide_eq_true e.symm)]) h
        · exact (widthS_ok 8 2 49 50 (some ⟨b, o, none⟩) c [x, y] vb k w (0) W hit8 hr rfl hu' ent_one (fun W' cb => one_ne b o c vb k w x y W' ((cb.cell (World.block_lt_of_cell? W _ h0)).trans h0) ((cb.cell (World.block_lt_of_cell? W _ h1)).trans h1) e)).mono fun e' W' h => wres_of (by simp [wide, alike_2 fx fy, Ne.symm e]) h
  · exact (widthS_len 8 2 49 50 A c ws vb k w W hit8 hr (by omega)).mono fun e W' h => wres_bad (wide_len (by simpa [arof] using hl)) h
theorem wid9 (A : Option Addr) (c : Nat) (ws : List Int) (vb : Value) (k w : Int) (W : World) (hr : Rd W A ws) :
    Calls Try.prog 27 #[.int .i64 9, .agg #[.slice A ws.length c, vb, .int .i64 k, .int .i64 w]] W (WRes 9 ws k w W) := by
  by_cases hl : ws.length = 2
  · by_cases hu : Unfit ws = true
    · exact (widthS_unfit 9 2 49 51 A c ws vb k w W hit9 hr (by rw [hl]; rfl) hu).mono fun e W' h => wres_bad (wide_unfit hu) h
    · have hu' : Unfit ws = false := by simpa using hu
      match ws, hl with
      | [x, y], _ =>
        obtain ⟨b, o, rfl, h0, hc⟩ := rd_cell0 hr
        have h1 : W.cell? ⟨b, o + 1, none⟩ = some (.int .i64 y) := by simpa using hc 0 (by simp)
        obtain ⟨fx, fy⟩ := unfit_two hu
        have bx := fit_iff.1 fx
        by_cases e : x = y
        · exact (widthS_ok 9 2 49 51 (some ⟨b, o, none⟩) c [x, y] vb k w (1) W hit9 hr rfl hu' ent_one (fun W' cb => one_eq b o c vb k w x y W' ((cb.cell (World.block_lt_of_cell? W _ h0)).trans h0) ((cb.cell (World.block_lt_of_cell? W _ h1)).trans h1) e bx.1)).mono fun e' W' h => wres_of (by simp [wide, (alike_2 fx fy).trans (decide_eq_true e.symm)]) h
        · exact (widthS_ok 9 2 49 51 (some ⟨b, o, none⟩) c [x, y] vb k w (0) W hit9 hr rfl hu' ent_one (fun W' cb => one_ne b o c vb k w x y W' ((cb.cell (World.block_lt_of_cell? W _ h0)).trans h0) ((cb.cell (World.block_lt_of_cell? W _ h1)).trans h1) e)).mono fun e' W' h => wres_of (by simp [wide, alike_2 fx fy, Ne.symm e]) h
  · exact (widthS_len 9 2 49 51 A c ws vb k w W hit9 hr (by omega)).mono fun e W' h => wres_bad (wide_len (by simpa [arof] using hl)) h
theorem wid1 (A : Option Addr) (c : Nat) (ws : List Int) (vb : Value) (k w : Int) (W : World) (hr : Rd W A ws) :
    Calls Try.prog 27 #[.int .i64 1, .agg #[.slice A ws.length c, vb, .int .i64 k, .int .i64 w]] W (WRes 1 ws k w W) := by
  by_cases hl : ws.length = 0
  · by_cases hu : Unfit ws = true
    · exact (widthO_unfit 1 0 52 53 A c ws vb k w W miss1 hit1 hr (by rw [hl]; rfl) hu).mono fun e W' h => wres_bad (wide_unfit hu) h
    · have hu' : Unfit ws = false := by simpa using hu
      obtain rfl := List.eq_nil_of_length_eq_zero hl
      cases hf : fit w with
      | false => exact (widthO_ok 1 0 52 53 A c [] vb k w (0) W miss1 hit1 hr rfl hu' ent_others_1 (fun W' cb => w1_unfit (.slice A 0 c) vb k w W' hf)).mono fun e' W' h => wres_of (by simp [wide, hf]) h
      | true =>
        by_cases hk : k < 0
        · exact (widthO_ok 1 0 52 53 A c [] vb k w (0) W miss1 hit1 hr rfl hu' ent_others_1 (fun W' cb => w1_neg (.slice A 0 c) vb k w W' hf hk)).mono fun e' W' h => wres_of (by unfold wide; rw [if_pos rfl, if_neg (by omega)]) h
        · by_cases hm : mask w < k
          · exact (widthO_ok 1 0 52 53 A c [] vb k w (0) W miss1 hit1 hr rfl hu' ent_others_1 (fun W' cb => w1_big (.slice A 0 c) vb k w W' hf (by omega) hm)).mono fun e' W' h => wres_of (by unfold wide; rw [if_pos rfl, if_neg (by omega)]) h
          · exact (widthO_ok 1 0 52 53 A c [] vb k w (w) W miss1 hit1 hr rfl hu' ent_others_1 (fun W' cb => w1_ok (.slice A 0 c) vb k w W' hf (by omega) (by omega))).mono fun e' W' h => wres_of (by unfold wide; rw [if_pos rfl, if_pos ⟨rfl, hf, by omega, by omega⟩]) h
  · exact (widthO_len 1 0 52 53 A c ws vb k w W miss1 hit1 hr (by omega)).mono fun e W' h => wres_bad (wide_len (by simpa [arof] using hl)) h
theorem wid10 (A : Option Addr) (c : Nat) (ws : List Int) (vb : Value) (k w : Int) (W : World) (hr : Rd W A ws) :
    Calls Try.prog 27 #[.int .i64 10, .agg #[.slice A ws.length c, vb, .int .i64 k, .int .i64 w]] W (WRes 10 ws k w W) := by
  by_cases hl : ws.length = 3
  · by_cases hu : Unfit ws = true
    · exact (widthO_unfit 10 3 54 55 A c ws vb k w W miss10 hit10 hr (by rw [hl]; rfl) hu).mono fun e W' h => wres_bad (wide_unfit hu) h
    · have hu' : Unfit ws = false := by simpa using hu
      match ws, hl with
      | [x, y, z], _ =>
        obtain ⟨b, o, rfl, h0, hc⟩ := rd_cell0 hr
        have h1 : W.cell? ⟨b, o + 1, none⟩ = some (.int .i64 y) := by simpa using hc 0 (by simp)
        have h2 : W.cell? ⟨b, o + 2, none⟩ = some (.int .i64 z) := by simpa using hc 1 (by simp)
        obtain ⟨fx, fy, fz⟩ := unfit_three hu
        by_cases e : x = 1
        · by_cases e2 : y = z
          · exact (widthO_ok 10 3 54 55 (some ⟨b, o, none⟩) c [x, y, z] vb k w (y) W miss10 hit10 hr rfl hu' ent_others_3 (fun W' cb => w10_eq b o c vb k w x y z W' ((cb.cell (World.block_lt_of_cell? W _ h0)).trans h0) ((cb.cell (World.block_lt_of_cell? W _ h1)).trans h1) ((cb.cell (World.block_lt_of_cell? W _ h2)).trans h2) e e2)).mono fun e' W' h => wres_of (by subst e; simp [wide, (alike_3 fx fy fz).trans (decide_eq_true e2.symm)]) h
          · exact (widthO_ok 10 3 54 55 (some ⟨b, o, none⟩) c [x, y, z] vb k w (0) W miss10 hit10 hr rfl hu' ent_others_3 (fun W' cb => w10_ne b o c vb k w x y z W' ((cb.cell (World.block_lt_of_cell? W _ h0)).trans h0) ((cb.cell (World.block_lt_of_cell? W _ h1)).trans h1) ((cb.cell (World.block_lt_of_cell? W _ h2)).trans h2) e e2)).mono fun e' W' h => wres_of (by simp [wide, alike_3 fx fy fz, Ne.symm e2]) h
        · exact (widthO_ok 10 3 54 55 (some ⟨b, o, none⟩) c [x, y, z] vb k w (0) W miss10 hit10 hr rfl hu' ent_others_3 (fun W' cb => w10_no b o c vb k w x y z W' ((cb.cell (World.block_lt_of_cell? W _ h0)).trans h0) ((cb.cell (World.block_lt_of_cell? W _ h1)).trans h1) ((cb.cell (World.block_lt_of_cell? W _ h2)).trans h2) e)).mono fun e' W' h => wres_of (by simp [wide, e]) h
  · exact (widthO_len 10 3 54 55 A c ws vb k w W miss10 hit10 hr (by omega)).mono fun e W' h => wres_bad (wide_len (by simpa [arof] using hl)) h
theorem wid11 (A : Option Addr) (c : Nat) (ws : List Int) (vb : Value) (k w : Int) (W : World) (hr : Rd W A ws) :
    Calls Try.prog 27 #[.int .i64 11, .agg #[.slice A ws.length c, vb, .int .i64 k, .int .i64 w]] W (WRes 11 ws k w W) := by
  by_cases hl : ws.length = 2
  · by_cases hu : Unfit ws = true
    · exact (widthO_unfit 11 2 56 57 A c ws vb k w W miss11 hit11 hr (by rw [hl]; rfl) hu).mono fun e W' h => wres_bad (wide_unfit hu) h
    · have hu' : Unfit ws = false := by simpa using hu
      match ws, hl with
      | [x, y], _ =>
        obtain ⟨b, o, rfl, h0, hc⟩ := rd_cell0 hr
        have h1 : W.cell? ⟨b, o + 1, none⟩ = some (.int .i64 y) := by simpa using hc 0 (by simp)
        obtain ⟨fx, fy⟩ := unfit_two hu
        have bx := fit_iff.1 fx
        have by_ := fit_iff.1 fy
        exact (widthO_ok 11 2 56 57 (some ⟨b, o, none⟩) c [x, y] vb k w (x + y) W miss11 hit11 hr rfl hu' ent_others_5 (fun W' cb => w11_any b o c vb k w x y W' ((cb.cell (World.block_lt_of_cell? W _ h0)).trans h0) ((cb.cell (World.block_lt_of_cell? W _ h1)).trans h1) bx by_)).mono fun e' W' h => wres_of (by simp [wide, fx, fy]) h
  · exact (widthO_len 11 2 56 57 A c ws vb k w W miss11 hit11 hr (by omega)).mono fun e W' h => wres_bad (wide_len (by simpa [arof] using hl)) h
theorem wid12 (A : Option Addr) (c : Nat) (ws : List Int) (vb : Value) (k w : Int) (W : World) (hr : Rd W A ws) :
    Calls Try.prog 27 #[.int .i64 12, .agg #[.slice A ws.length c, vb, .int .i64 k, .int .i64 w]] W (WRes 12 ws k w W) := by
  by_cases hl : ws.length = 1
  · by_cases hu : Unfit ws = true
    · exact (widthO_unfit 12 1 58 59 A c ws vb k w W miss12 hit12 hr (by rw [hl]; rfl) hu).mono fun e W' h => wres_bad (wide_unfit hu) h
    · have hu' : Unfit ws = false := by simpa using hu
      match ws, hl with
      | [x], _ =>
        obtain ⟨b, o, rfl, h0, hc⟩ := rd_cell0 hr
        have fx := unfit_one hu
        have bx := fit_iff.1 fx
        cases hf : fit w with
        | false => exact (widthO_ok 12 1 58 59 (some ⟨b, o, none⟩) c [x] vb k w (0) W miss12 hit12 hr rfl hu' ent_others_7 (fun W' cb => w12_unfit b o c vb k w x W' ((cb.cell (World.block_lt_of_cell? W _ h0)).trans h0) hf)).mono fun e' W' h => wres_of (by simp [wide, hf]) h
        | true =>
          have bw := fit_iff.1 hf
          by_cases hk : k < 0
          · exact (widthO_ok 12 1 58 59 (some ⟨b, o, none⟩) c [x] vb k w (0) W miss12 hit12 hr rfl hu' ent_others_7 (fun W' cb => w12_neg b o c vb k w x W' ((cb.cell (World.block_lt_of_cell? W _ h0)).trans h0) hf hk)).mono fun e' W' h => wres_of (by unfold wide; simp only [List.getD_cons_zero]; rw [if_neg (by decide), if_neg (by decide), if_neg (by decide), if_neg (by decide), if_neg (by decide), if_neg (by decide), if_pos trivial, if_neg (by omega)]) h
          · by_cases hm : x - w < k
            · exact (widthO_ok 12 1 58 59 (some ⟨b, o, none⟩) c [x] vb k w (0) W miss12 hit12 hr rfl hu' ent_others_7 (fun W' cb => w12_big b o c vb k w x W' ((cb.cell (World.block_lt_of_cell? W _ h0)).trans h0) hf bx bw (by omega) hm)).mono fun e' W' h => wres_of (by unfold wide; simp only [List.getD_cons_zero]; rw [if_neg (by decide), if_neg (by decide), if_neg (by decide), if_neg (by decide), if_neg (by decide), if_neg (by decide), if_pos trivial, if_neg (by omega)]) h
            · exact (widthO_ok 12 1 58 59 (some ⟨b, o, none⟩) c [x] vb k w (w) W miss12 hit12 hr rfl hu' ent_others_7 (fun W' cb => w12_ok b o c vb k w x W' ((cb.cell (World.block_lt_of_cell? W _ h0)).trans h0) hf bx bw (by omega) (by omega))).mono fun e' W' h => wres_of (by unfold wide; simp only [List.getD_cons_zero]; rw [if_neg (by decide), if_neg (by decide), if_neg (by decide), if_neg (by decide), if_neg (by decide), if_neg (by decide), if_pos trivial, if_pos ⟨alike_1 fx, hf, by omega, by omega⟩]) h
  · exact (widthO_len 12 1 58 59 A c ws vb k w W miss12 hit12 hr (by omega)).mono fun e W' h => wres_bad (wide_len (by simpa [arof] using hl)) h
theorem wid13 (A : Option Addr) (c : Nat) (ws : List Int) (vb : Value) (k w : Int) (W : World) (hr : Rd W A ws) :
    Calls Try.prog 27 #[.int .i64 13, .agg #[.slice A ws.length c, vb, .int .i64 k, .int .i64 w]] W (WRes 13 ws k w W) := by
  by_cases hl : ws.length = 1
  · by_cases hu : Unfit ws = true
    · exact (widthO_unfit 13 1 60 61 A c ws vb k w W miss13 hit13 hr (by rw [hl]; rfl) hu).mono fun e W' h => wres_bad (wide_unfit hu) h
    · have hu' : Unfit ws = false := by simpa using hu
      match ws, hl with
      | [x], _ =>
        obtain ⟨b, o, rfl, h0, hc⟩ := rd_cell0 hr
        have fx := unfit_one hu
        by_cases e : w < x
        · exact (widthO_ok 13 1 60 61 (some ⟨b, o, none⟩) c [x] vb k w (0) W miss13 hit13 hr rfl hu' ent_others_9 (fun W' cb => w13_no b o c vb k w x W' ((cb.cell (World.block_lt_of_cell? W _ h0)).trans h0) e)).mono fun e' W' h => wres_of (by simp [wide]; intro _ _; omega) h
        · have e2 : x ≤ w := by omega
          exact (widthO_ok 13 1 60 61 (some ⟨b, o, none⟩) c [x] vb k w (w) W miss13 hit13 hr rfl hu' ent_others_9 (fun W' cb => w13_ok b o c vb k w x W' ((cb.cell (World.block_lt_of_cell? W _ h0)).trans h0) e2)).mono fun e' W' h => wres_of (by simp [wide, alike_1 fx, e2]) h
  · exact (widthO_len 13 1 60 61 A c ws vb k w W miss13 hit13 hr (by omega)).mono fun e W' h => wres_bad (wide_len (by simpa [arof] using hl)) h

theorem missS_all {op : Int} (h : op < 2 ∨ 9 < op) : MissS op := fun Wk b hb => by
  subst hb
  refine look_miss _ _ simpleT 8 op (map_new _ _) ?_
  have n2 : (op == 2) = false := beq_eq_false_iff_ne.2 (by omega)
  have n3 : (op == 3) = false := beq_eq_false_iff_ne.2 (by omega)
  have n4 : (op == 4) = false := beq_eq_false_iff_ne.2 (by omega)
  have n5 : (op == 5) = false := beq_eq_false_iff_ne.2 (by omega)
  have n6 : (op == 6) = false := beq_eq_false_iff_ne.2 (by omega)
  have n7 : (op == 7) = false := beq_eq_false_iff_ne.2 (by omega)
  have n8 : (op == 8) = false := beq_eq_false_iff_ne.2 (by omega)
  have n9 : (op == 9) = false := beq_eq_false_iff_ne.2 (by omega)
  simp [simpleT, Instr.findNow, Instr.sameNow, n2, n3, n4, n5, n6, n7, n8, n9]
theorem missO_all {op : Int} (h : op < 1 ∨ 13 < op) : MissO op := fun Wk b hb => by
  subst hb
  refine look_miss _ _ othersT 5 op (map_new _ _) ?_
  have n1 : (op == 1) = false := beq_eq_false_iff_ne.2 (by omega)
  have n2 : (op == 10) = false := beq_eq_false_iff_ne.2 (by omega)
  have n3 : (op == 11) = false := beq_eq_false_iff_ne.2 (by omega)
  have n4 : (op == 12) = false := beq_eq_false_iff_ne.2 (by omega)
  have n5 : (op == 13) = false := beq_eq_false_iff_ne.2 (by omega)
  simp [othersT, Instr.findNow, Instr.sameNow, n1, n2, n3, n4, n5]
theorem wide_out {op : Int} {ws : List Int} {k w : Int} (h : op < 1 ∨ 13 < op) : wide op ws k w = 0 := by
  unfold wide
  repeat' split
  all_goals first | rfl | omega

/-- bits.width -/
theorem width_all (op : Int) (A : Option Addr) (c : Nat) (ws : List Int) (vb : Value) (k w : Int) (W : World) (hr : Rd W A ws) :
    Calls Try.prog 27 #[.int .i64 op, .agg #[.slice A ws.length c, vb, .int .i64 k, .int .i64 w]] W (WRes op ws k w W) := by
  by_cases h : op < 1 ∨ 13 < op
  · exact (widthM op ws.length 0 0 A c ws vb k w W (missS_all (by omega)) (missO_all h) hr rfl).mono fun e W' hq => wres_bad (wide_out h) hq
  · have hc : op = 1 ∨ op = 2 ∨ op = 3 ∨ op = 4 ∨ op = 5 ∨ op = 6 ∨ op = 7 ∨ op = 8 ∨ op = 9 ∨ op = 10 ∨ op = 11 ∨ op = 12 ∨ op = 13 := by omega
    rcases hc with rfl | rfl | rfl | rfl | rfl | rfl | rfl | rfl | rfl | rfl | rfl | rfl | rfl
    · exact wid1 A c ws vb k w W hr
    · exact wid2 A c ws vb k w W hr
    · exact wid3 A c ws vb k w W hr
    · exact wid4 A c ws vb k w W hr
    · exact wid5 A c ws vb k w W hr
    · exact wid6 A c ws vb k w W hr
    · exact wid7 A c ws vb k w W hr
    · exact wid8 A c ws vb k w W hr
    · exact wid9 A c ws vb k w W hr
    · exact wid10 A c ws vb k w W hr
    · exact wid11 A c ws vb k w W hr
    · exact wid12 A c ws vb k w W hr
    · exact wid13 A c ws vb k w W hr

set_option maxHeartbeats 400000 in
/-- bits.Width -/
theorem Width_any (op : Int) (A : Option Addr) (c : Nat) (ws : List Int) (k w : Int) (W : World) (hr : Rd W A ws) :
    Calls Try.prog 10 #[.int .i64 op, .slice A ws.length c, .agg #[.int .i64 k, .int .i64 w]] W fun e W' => e = .returned (.tuple #[.int .i64 (width op ws k w), .int .i64 (err (width op ws k w))]) ∧ Below W.heap.size W W' := by
  have HR := Lib.hid hr
  clear hr
  go_enter Try.func10, Try.ntmps10
  go_wp2_with fail
  refine (width_all op A c ws _ k w _ (rd_alloc HR.out _)).mono ?_
  rintro e w1 (⟨rfl, h0, hb⟩ | ⟨⟨a, f, g, r, rfl⟩, h0, hb⟩ | ⟨⟨ar, f, rfl⟩, h0, hb⟩)
  · have HB := Lib.hid (bel_then ((Below.refl _ W).alloc (Nat.le_refl _) _) hb)
    have hz := HB.out.size
    have H0 := Lib.hid h0
    clear hb h0
    go_wp2
    go_ret2
    exact ⟨by rw [H0.out]; rfl, HB.out.alloc hz _⟩
  · have HB := Lib.hid (bel_then ((Below.refl _ W).alloc (Nat.le_refl _) _) hb)
    have hz := HB.out.size
    have H0 := Lib.hid h0
    clear hb h0
    go_wp2
    go_ret2
    exact ⟨by rw [H0.out]; rfl, HB.out.alloc hz _⟩
  · have HB := Lib.hid (bel_then ((Below.refl _ W).alloc (Nat.le_refl _) _) hb)
    have hz := HB.out.size
    have H0 := Lib.hid h0
    clear hb h0
    go_wp2
    go_ret2
    exact ⟨by unfold err; rw [if_neg H0.out]; rfl, HB.out.alloc hz _⟩
end Bt
end Go.Proofs.Ytpblhbagjmnmpaa
