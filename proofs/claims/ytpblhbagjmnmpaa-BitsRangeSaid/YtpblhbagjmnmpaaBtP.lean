/- The law BitsRange returns true and leaves what was there as it was. Conditions: the operator is a byte. -/
import Derived.Test.YtpblhbagjmnmpaaBtL
import Derived.Test.YtpblhbagjmnmpaaBtX
import Derived.Deep.AppendLies
set_option linter.unusedVariables false
set_option linter.unusedSimpArgs false
namespace Go.Proofs.Ytpblhbagjmnmpaa
open Go Go.RowKit
open Go.MapKept
namespace Bt

/-- The number of arguments of an operator, -1 where there is none. -/
def ar (m : Int) : Int := if m = 1 then 0 else if m = 2 ∨ m = 12 ∨ m = 13 then 1 else if m = 10 then 3 else if 3 ≤ m ∧ m ≤ 11 then 2 else -1
theorem Arity_is {m n : Int} (h0 : 0 ≤ m) (h1 : m ≤ 15) (hn : ar m = n) (W : World) : Calls Try.prog 21 #[.int .i64 m] W fun e W' => e = .returned (.int .i64 n) ∧ W = W' := by
  subst hn
  have hc : m = 0 ∨ m = 1 ∨ m = 2 ∨ m = 3 ∨ m = 4 ∨ m = 5 ∨ m = 6 ∨ m = 7 ∨ m = 8 ∨ m = 9 ∨ m = 10 ∨ m = 11 ∨ m = 12 ∨ m = 13 ∨ m = 14 ∨ m = 15 := by omega
  rcases hc with rfl | rfl | rfl | rfl | rfl | rfl | rfl | rfl | rfl | rfl | rfl | rfl | rfl | rfl | rfl | rfl
  · exact Arity_0 W
  · exact Arity_1 W
  · exact Arity_2 W
  · exact Arity_3 W
  · exact Arity_4 W
  · exact Arity_5 W
  · exact Arity_6 W
  · exact Arity_7 W
  · exact Arity_8 W
  · exact Arity_9 W
  · exact Arity_10 W
  · exact Arity_11 W
  · exact Arity_12 W
  · exact Arity_13 W
  · exact Arity_14 W
  · exact Arity_15 W
theorem ar_cases (m : Int) : ar m = -1 ∨ ar m = 0 ∨ ar m = 1 ∨ ar m = 2 ∨ ar m = 3 := by
  unfold ar
  repeat' split
  all_goals simp
theorem ar_neg {m : Int} (h : ar m = -1) : m < 1 ∨ 13 < m := by
  unfold ar at h
  repeat' split at h
  all_goals first | omega | simp at h
theorem Width_bad (op : Int) (A : Option Addr) (c : Nat) (ws : List Int) (k w : Int) (W : World) (h : width op ws k w = 0) (hr : Rd W A ws) :
    Calls Try.prog 10 #[.int .i64 op, .slice A ws.length c, .agg #[.int .i64 k, .int .i64 w]] W fun e W' => e = .returned (.tuple #[.int .i64 0, .int .i64 1]) ∧ Below W.heap.size W W' := by
  have := Width_any op A c ws k w W hr
  rw [h] at this
  exact this
theorem Width_ok (op : Int) (A : Option Addr) (c : Nat) (ws : List Int) (k w r : Int) (W : World) (h : width op ws k w = r) (h1 : 1 ≤ r) (hr : Rd W A ws) :
    Calls Try.prog 10 #[.int .i64 op, .slice A ws.length c, .agg #[.int .i64 k, .int .i64 w]] W fun e W' => e = .returned (.tuple #[.int .i64 r, .int .i64 0]) ∧ Below W.heap.size W W' := by
  have := Width_any op A c ws k w W hr
  rw [h, show err r = 0 from by unfold err; rw [if_neg (by omega)]] at this
  exact this
theorem Apply_val (op : Int) (A B C : Option Addr) (c cb cn : Nat) (ws vs num : List Int) (v : Int) (W : World) (h : okay op ws vs num = true) (hv : val op ws vs (num.getD 0 0) (num.getD 1 0) = v) (hr : Rd W A ws) (hs : Rd W B vs) (hn : Rd W C num) :
    Calls Try.prog 12 #[.int .i64 op, .slice A ws.length c, .slice B vs.length cb, .slice C num.length cn] W fun e W' => e = .returned (.tuple #[.int .i64 v, .int .i64 0]) ∧ Below W.heap.size W W' := by
  have h1 := Apply_ok op A B C c cb cn ws vs num W h hr hs hn
  rw [res_yes h, hv] at h1
  exact h1
theorem rd_mk0 (W : World) (b : Nat) : Rd W (some ⟨b, 0, none⟩) [] := ⟨by simp, fun h => absurd h (by simp)⟩
theorem rd_mk1 {W : World} {b : Nat} {x : Int} (h0 : W.cell? ⟨b, 0, none⟩ = some (.int .i64 x)) : Rd W (some ⟨b, 0, none⟩) [x] :=
  ⟨by simp, fun _ => ⟨_, 0, rfl, fun j hj => by
    match j, hj with
    | 0, _ => simpa using h0⟩⟩
theorem rd_mk2 {W : World} {b : Nat} {x y : Int} (h0 : W.cell? ⟨b, 0, none⟩ = some (.int .i64 x)) (h1 : W.cell? ⟨b, 1, none⟩ = some (.int .i64 y)) : Rd W (some ⟨b, 0, none⟩) [x, y] :=
  ⟨by simp, fun _ => ⟨_, 0, rfl, fun j hj => by
    match j, hj with
    | 0, _ => simpa using h0
    | 1, _ => simpa using h1⟩⟩
theorem rd_mk3 {W : World} {b : Nat} {x y z : Int} (h0 : W.cell? ⟨b, 0, none⟩ = some (.int .i64 x)) (h1 : W.cell? ⟨b, 1, none⟩ = some (.int .i64 y)) (h2 : W.cell? ⟨b, 2, none⟩ = some (.int .i64 z)) : Rd W (some ⟨b, 0, none⟩) [x, y, z] :=
  ⟨by simp, fun _ => ⟨_, 0, rfl, fun j hj => by
    match j, hj with
    | 0, _ => simpa using h0
    | 1, _ => simpa using h1
    | 2, _ => simpa using h2⟩⟩
theorem rd_drewN {W : World} {A : Option Addr} {xs : List Int} (h : Rd W A xs) (n : Nat) : Rd (W.drewN n) A xs := h.below (bel_drewN (Below.refl _ _) n)
theorem rd_drew {W : World} {A : Option Addr} {xs : List Int} (h : Rd W A xs) : Rd W.drew A xs := h.below (Below.drew (Below.refl _ _))
theorem rd_own {W : World} {B n : Nat} {v : Value} {xs : List Int} (hn : n = xs.length) (h : W.ownsRow B 3 1 v n (xs.map (Value.int .i64))) : ∃ A c, v = .slice A xs.length c ∧ Rd W A xs ∧ xs.length ≤ c := by
  subst hn
  rcases h.2 with ⟨rfl, h0⟩ | ⟨g, cap, cur, rfl, _, hh, hle, hmax, _⟩
  · have e : xs = [] := by simpa using h0
    subst e
    exact ⟨none, 0, rfl, ⟨by simp, fun q => by simp at q⟩, Nat.zero_le _⟩
  · refine ⟨_, cap, rfl, ⟨?_, fun hp => ⟨g, 0, rfl, fun j hj => ?_⟩⟩, hle⟩
    · simp only [maxLen] at hmax; omega
    · have := h.cells (g := g) rfl j (.int .i64 (xs.getD j 0)) (by simp [List.getElem?_eq_getElem hj, List.getD_eq_getElem?_getD])
      rw [show (⟨g, 0, none⟩ : Addr).add j = ⟨g, 0 + j, none⟩ from by unfold Addr.add; split <;> simp_all] at this
      exact this
theorem infoI : (Try.prog.info? 3).map (fun i => (i.zero, i.size, i.bytes)) = some (some (.int .i64 0), 1, 8) := by kernel_rfl
theorem own_ge {W : World} {B : Nat} {e : TypeId} {s : Nat} {v : Value} {n : Nat} {xs : List Value} (h : W.ownsRow B e s v n xs) : ∀ j, v.ownBlock = some j → B ≤ j := by
  intro j e
  rcases h.2 with ⟨rfl, _⟩ | ⟨g, cap, cur, rfl, hg, _⟩
  · simp [Value.ownBlock] at e
  · have : g = j := by simpa [Value.ownBlock] using e
    omega
theorem rg_grown {B : Nat} {X w w1 : World} {b : Option Nat} (h : Below B X w) (hg : w.grownBy w1 b) (hs : B ≤ w.heap.size) (hb : ∀ j, b = some j → B ≤ j) : Below B X w1 := h.grown hg hs hb
def RgRel (B : Nat) (X : World) (l : List Int) (v i : Value) (wr : World) : Prop := Below X.heap.size X wr ∧ ∃ (k : Nat) (j : Int), k ≤ l.length ∧ j = k ∧ i = .int .i64 j ∧ wr.ownsRow B 3 1 v k ((l.take k).map (Value.int .i64))
theorem range_cells {x0 x1 x2 z0 z1 z2 z3 z4 : Int} {W w1 : World} (h : Below ((W.alloc (.cells #[.int .i64 x0, .int .i64 x1, .int .i64 x2] 42)).alloc (.cells #[.int .i64 z0, .int .i64 z1, .int .i64 z2, .int .i64 z3, .int .i64 z4] 43)).heap.size ((W.alloc (.cells #[.int .i64 x0, .int .i64 x1, .int .i64 x2] 42)).alloc (.cells #[.int .i64 z0, .int .i64 z1, .int .i64 z2, .int .i64 z3, .int .i64 z4] 43)) w1) : W.heap.size + 2 ≤ w1.heap.size ∧ w1.cell? ⟨W.heap.size, 0, none⟩ = some (.int .i64 x0) ∧ w1.cell? ⟨W.heap.size, 1, none⟩ = some (.int .i64 x1) ∧ w1.cell? ⟨W.heap.size, 2, none⟩ = some (.int .i64 x2) ∧ w1.cell? ⟨W.heap.size + 1, 0, none⟩ = some (.int .i64 z0) ∧ w1.cell? ⟨W.heap.size + 1, 1, none⟩ = some (.int .i64 z1) ∧ w1.cell? ⟨W.heap.size + 1, 2, none⟩ = some (.int .i64 z2) ∧ w1.cell? ⟨W.heap.size + 1, 3, none⟩ = some (.int .i64 z3) ∧ w1.cell? ⟨W.heap.size + 1, 4, none⟩ = some (.int .i64 z4) :=
  ⟨by have := h.size; simpa using this, (h.cell (p := ⟨W.heap.size, 0, none⟩) (by simp <;> omega)).trans (by simp [World.cell?_alloc_some]), (h.cell (p := ⟨W.heap.size, 1, none⟩) (by simp <;> omega)).trans (by simp [World.cell?_alloc_some]), (h.cell (p := ⟨W.heap.size, 2, none⟩) (by simp <;> omega)).trans (by simp [World.cell?_alloc_some]), (h.cell (p := ⟨W.heap.size + 1, 0, none⟩) (by simp <;> omega)).trans (by simp [World.cell?_alloc_some]), (h.cell (p := ⟨W.heap.size + 1, 1, none⟩) (by simp <;> omega)).trans (by simp [World.cell?_alloc_some]), (h.cell (p := ⟨W.heap.size + 1, 2, none⟩) (by simp <;> omega)).trans (by simp [World.cell?_alloc_some]), (h.cell (p := ⟨W.heap.size + 1, 3, none⟩) (by simp <;> omega)).trans (by simp [World.cell?_alloc_some]), (h.cell (p := ⟨W.heap.size + 1, 4, none⟩) (by simp <;> omega)).trans (by simp [World.cell?_alloc_some])⟩
theorem below_box2 {x0 x1 x2 z0 z1 z2 z3 z4 : Int} {W w1 : World} (h : Below ((W.alloc (.cells #[.int .i64 x0, .int .i64 x1, .int .i64 x2] 42)).alloc (.cells #[.int .i64 z0, .int .i64 z1, .int .i64 z2, .int .i64 z3, .int .i64 z4] 43)).heap.size ((W.alloc (.cells #[.int .i64 x0, .int .i64 x1, .int .i64 x2] 42)).alloc (.cells #[.int .i64 z0, .int .i64 z1, .int .i64 z2, .int .i64 z3, .int .i64 z4] 43)) w1) : Below W.heap.size W w1 :=
  (((Below.refl _ W).alloc (Nat.le_refl _) _).alloc (by simp) _).trans (h.mono (by simp; omega))
set_option maxHeartbeats 4000000 in
set_option maxRecDepth 20000 in
theorem range_neg (op x0 x1 x2 z0 z1 z2 z3 z4 m : Int) (W : World) (hop : 0 ≤ op) (hop1 : op ≤ 255) (em : op % 16 = m) (h0 : Hid (0 ≤ m)) (h1 : Hid (m ≤ 15)) (ha : Hid (ar m = -1)) :
    Calls Try.prog 4 #[.int .u8 op, .agg #[.int .i64 x0, .int .i64 x1, .int .i64 x2], .agg #[.int .i64 z0, .int .i64 z1, .int .i64 z2, .int .i64 z3, .int .i64 z4]] W fun e W' => e = .returned (.bool true) ∧ Below W.heap.size W W' := by
  have HZ := Lib.hid (width_zero (op := m) (ws := [x0, x1, x2]) (k := z0) (w := z1) (wide_out (ar_neg ha.out)))
  have em2 : op.tmod 16 = m := (Int.tmod_eq_emod_of_nonneg hop).trans em
  have em3 : IntKind.i64.wrap m = m := IntWalk.i64_in _ (by have := h0.out; have := h1.out; omega)
  go_enter Try.func4, Try.ntmps4
  go_wp2_with fail
  refine (examples_any _).mono ?_
  rintro e w1 ⟨rfl, hb⟩
  have B1 := Lib.hid (show Below ((W.alloc (.cells #[.int .i64 x0, .int .i64 x1, .int .i64 x2] 42)).alloc (.cells #[.int .i64 z0, .int .i64 z1, .int .i64 z2, .int .i64 z3, .int .i64 z4] 43)).heap.size ((W.alloc (.cells #[.int .i64 x0, .int .i64 x1, .int .i64 x2] 42)).alloc (.cells #[.int .i64 z0, .int .i64 z1, .int .i64 z2, .int .i64 z3, .int .i64 z4] 43)) w1 from hb)
  obtain ⟨s1, b0, b1, b2, b3, b4, b5, b6, b7⟩ := range_cells B1.out
  have n10 : w1.heap.size ≠ W.heap.size := by omega
  have n11 : w1.heap.size ≠ W.heap.size + 1 := by omega
  clear hb
  go_wp2_with fail
  refine (Arity_is h0.out h1.out ha.out _).mono ?_
  rintro e w' ⟨rfl, rfl⟩
  go_wp2
  go_region_held3 (fun w' => w'.cell? ⟨W.heap.size, 0, none⟩ = some (.int .i64 x0) ∧ w'.cell? ⟨W.heap.size, 1, none⟩ = some (.int .i64 x1) ∧ w'.cell? ⟨W.heap.size, 2, none⟩ = some (.int .i64 x2) ∧ w'.cell? ⟨W.heap.size + 1, 0, none⟩ = some (.int .i64 z0) ∧ w'.cell? ⟨W.heap.size + 1, 1, none⟩ = some (.int .i64 z1) ∧ w'.cell? ⟨W.heap.size + 1, 2, none⟩ = some (.int .i64 z2) ∧ w'.cell? ⟨W.heap.size + 1, 3, none⟩ = some (.int .i64 z3) ∧ w'.cell? ⟨W.heap.size + 1, 4, none⟩ = some (.int .i64 z4)) (first | (simp [c0, c1, c2, c3, c4, c5, c6, c7, World.cell?_alloc_some, n10]; done) | (simp [b0, b1, b2, b3, b4, b5, b6, b7, World.cell?_alloc_some, n10]; done)) ((go_at_call 10; refine (Width_bad m _ 3 [x0, x1, x2] z0 z1 _ HZ.out (by repeat (first | exact rd_mk3 b0 b1 b2 | refine rd_drewN ?_ _ | refine rd_drew ?_))).mono ?_; rintro e w2 ⟨rfl, hb⟩; have B2 := Lib.hid (show Below ((W.alloc (.cells #[.int .i64 x0, .int .i64 x1, .int .i64 x2] 42)).alloc (.cells #[.int .i64 z0, .int .i64 z1, .int .i64 z2, .int .i64 z3, .int .i64 z4] 43)).heap.size ((W.alloc (.cells #[.int .i64 x0, .int .i64 x1, .int .i64 x2] 42)).alloc (.cells #[.int .i64 z0, .int .i64 z1, .int .i64 z2, .int .i64 z3, .int .i64 z4] 43)) w2 from bel_call (by repeat (first | exact B1.out | refine Below.drew ?_ | refine Below_drewN2 ?_ _ | refine Below.alloc ?_ (by first | omega | (simp; omega) | simp) _)) (by first | omega | (simp; omega) | simp) hb); obtain ⟨s2, c0, c1, c2, c3, c4, c5, c6, c7⟩ := range_cells B2.out; clear hb))
  go_wp2
  go_ret
  exact ⟨rfl, below_box2 B2.out⟩
set_option maxHeartbeats 4000000 in
set_option maxRecDepth 20000 in
theorem range_0_bad (op x0 x1 x2 z0 z1 z2 z3 z4 m : Int) (W : World) (hop : 0 ≤ op) (hop1 : op ≤ 255) (em : op % 16 = m) (h0 : Hid (0 ≤ m)) (h1 : Hid (m ≤ 15)) (ha : Hid (ar m = 0)) (HW : Hid (width m [] z0 z1 = 0)) :
    Calls Try.prog 4 #[.int .u8 op, .agg #[.int .i64 x0, .int .i64 x1, .int .i64 x2], .agg #[.int .i64 z0, .int .i64 z1, .int .i64 z2, .int .i64 z3, .int .i64 z4]] W fun e W' => e = .returned (.bool true) ∧ Below W.heap.size W W' := by
  have HO := Lib.hid (okay_width (vs := []) HW.out)
  obtain ⟨i0, hi0, hz0, hz1, hz2⟩ := info_parts infoI
  have em2 : op.tmod 16 = m := (Int.tmod_eq_emod_of_nonneg hop).trans em
  have em3 : IntKind.i64.wrap m = m := IntWalk.i64_in _ (by have := h0.out; have := h1.out; omega)
  go_enter Try.func4, Try.ntmps4
  go_wp2_with fail
  refine (examples_any _).mono ?_
  rintro e w1 ⟨rfl, hb⟩
  have B1 := Lib.hid (show Below ((W.alloc (.cells #[.int .i64 x0, .int .i64 x1, .int .i64 x2] 42)).alloc (.cells #[.int .i64 z0, .int .i64 z1, .int .i64 z2, .int .i64 z3, .int .i64 z4] 43)).heap.size ((W.alloc (.cells #[.int .i64 x0, .int .i64 x1, .int .i64 x2] 42)).alloc (.cells #[.int .i64 z0, .int .i64 z1, .int .i64 z2, .int .i64 z3, .int .i64 z4] 43)) w1 from hb)
  obtain ⟨s1, b0, b1, b2, b3, b4, b5, b6, b7⟩ := range_cells B1.out
  have n10 : w1.heap.size ≠ W.heap.size := by omega
  have n11 : w1.heap.size ≠ W.heap.size + 1 := by omega
  clear hb
  go_wp2_with fail
  refine (Arity_is h0.out h1.out ha.out _).mono ?_
  rintro e w' ⟨rfl, rfl⟩
  go_wp2
  go_region_held3 (fun w' => w'.cell? ⟨W.heap.size, 0, none⟩ = some (.int .i64 x0) ∧ w'.cell? ⟨W.heap.size, 1, none⟩ = some (.int .i64 x1) ∧ w'.cell? ⟨W.heap.size, 2, none⟩ = some (.int .i64 x2) ∧ w'.cell? ⟨W.heap.size + 1, 0, none⟩ = some (.int .i64 z0) ∧ w'.cell? ⟨W.heap.size + 1, 1, none⟩ = some (.int .i64 z1) ∧ w'.cell? ⟨W.heap.size + 1, 2, none⟩ = some (.int .i64 z2) ∧ w'.cell? ⟨W.heap.size + 1, 3, none⟩ = some (.int .i64 z3) ∧ w'.cell? ⟨W.heap.size + 1, 4, none⟩ = some (.int .i64 z4)) (first | (simp [c0, c1, c2, c3, c4, c5, c6, c7, World.cell?_alloc_some, n10]; done) | (simp [b0, b1, b2, b3, b4, b5, b6, b7, World.cell?_alloc_some, n10]; done)) ((go_at_call 10; refine (Width_bad m _ 3 [] z0 z1 _ HW.out (by repeat (first | exact rd_mk0 _ _ | refine rd_drewN ?_ _ | refine rd_drew ?_ | refine rd_alloc ?_ _))).mono ?_; rintro e w2 ⟨rfl, hb⟩; have B2 := Lib.hid (show Below ((W.alloc (.cells #[.int .i64 x0, .int .i64 x1, .int .i64 x2] 42)).alloc (.cells #[.int .i64 z0, .int .i64 z1, .int .i64 z2, .int .i64 z3, .int .i64 z4] 43)).heap.size ((W.alloc (.cells #[.int .i64 x0, .int .i64 x1, .int .i64 x2] 42)).alloc (.cells #[.int .i64 z0, .int .i64 z1, .int .i64 z2, .int .i64 z3, .int .i64 z4] 43)) w2 from bel_call (by repeat (first | exact B1.out | refine Below.drew ?_ | refine Below_drewN2 ?_ _ | refine Below.alloc ?_ (by first | omega | (simp; omega) | simp) _)) (by first | omega | (simp; omega) | simp) hb); obtain ⟨s2, c0, c1, c2, c3, c4, c5, c6, c7⟩ := range_cells B2.out; clear hb))
  go_wp2
  go_loopw [13, 14] (RgRel (W.heap.size + 2) ((W.alloc (.cells #[.int .i64 x0, .int .i64 x1, .int .i64 x2] 42)).alloc (.cells #[.int .i64 z0, .int .i64 z1, .int .i64 z2, .int .i64 z3, .int .i64 z4] 43)) []) (fun _ i _ => 0 - (intOf i).toNat)
  case atStart => exact ⟨B2.out.alloc (by have := B2.out.size; simpa using this) _, 0, 0, Nat.zero_le _, rfl, rfl, ⟨rfl, .inr ⟨_, 0, #[], rfl, by omega, map_new _ _, Nat.le_refl _, Nat.zero_le _, rfl, rfl⟩⟩⟩
  case round =>
    obtain ⟨hb, k, j, hk, hj, rfl, ho⟩ := hrel
    have HB := Lib.hid hb
    obtain ⟨sr, d0, d1, d2, d3, d4, d5, d6, d7⟩ := range_cells HB.out
    have nr0 : wr.heap.size ≠ W.heap.size := by omega
    have nr1 : wr.heap.size ≠ W.heap.size + 1 := by omega
    clear hb b0 b1 b2 b3 b4 b5 b6 b7 c0 c1 c2 c3 c4 c5 c6 c7
    have hc : k = 0 := by simpa using hk
    rcases hc with rfl
    · obtain rfl : j = 0 := hj
      have HOW := Lib.hid (show wr.ownsRow (W.heap.size + 2) 3 1 u13 0 [] from ho)
      clear ho hk
      have hrd : ∃ A c, u13 = .slice A 0 c ∧ Rd wr A [] ∧ 0 ≤ c := rd_own (xs := []) rfl HOW.out
      obtain ⟨A, c, rfl, hrd, _⟩ := hrd
      have HR := Lib.hid hrd
      clear hrd
      go_wp2
      go_region_held3 (fun w' => w'.cell? ⟨W.heap.size, 0, none⟩ = some (.int .i64 x0) ∧ w'.cell? ⟨W.heap.size, 1, none⟩ = some (.int .i64 x1) ∧ w'.cell? ⟨W.heap.size, 2, none⟩ = some (.int .i64 x2) ∧ w'.cell? ⟨W.heap.size + 1, 0, none⟩ = some (.int .i64 z0) ∧ w'.cell? ⟨W.heap.size + 1, 1, none⟩ = some (.int .i64 z1) ∧ w'.cell? ⟨W.heap.size + 1, 2, none⟩ = some (.int .i64 z2) ∧ w'.cell? ⟨W.heap.size + 1, 3, none⟩ = some (.int .i64 z3) ∧ w'.cell? ⟨W.heap.size + 1, 4, none⟩ = some (.int .i64 z4)) (first | (simp [g0, g1, g2, g3, g4, g5, g6, g7, World.cell?_alloc_some, nr0]; done) | (simp [d0, d1, d2, d3, d4, d5, d6, d7, World.cell?_alloc_some, nr0, nr1]; done)) ((go_at_call 12; refine (Apply_bad m (some ⟨W.heap.size, 0, none⟩) A (some ⟨wr.heap.size, 0, none⟩) 3 c 2 [] [] [z0, z1] _ HO.out (by repeat (first | exact rd_mk0 _ _ | refine rd_drewN ?_ _ | refine rd_drew ?_ | refine rd_alloc ?_ _)) (by repeat (first | exact HR.out | refine rd_drewN ?_ _ | refine rd_drew ?_ | refine rd_alloc ?_ _)) (by repeat (first | exact rd_at2 (by simp) | refine rd_drewN ?_ _ | refine rd_drew ?_))).mono ?_; rintro e w4 ⟨rfl, hb⟩; have B4 := Lib.hid (show Below ((W.alloc (.cells #[.int .i64 x0, .int .i64 x1, .int .i64 x2] 42)).alloc (.cells #[.int .i64 z0, .int .i64 z1, .int .i64 z2, .int .i64 z3, .int .i64 z4] 43)).heap.size ((W.alloc (.cells #[.int .i64 x0, .int .i64 x1, .int .i64 x2] 42)).alloc (.cells #[.int .i64 z0, .int .i64 z1, .int .i64 z2, .int .i64 z3, .int .i64 z4] 43)) w4 from bel_call (by repeat (first | exact HB.out | refine Below.drew ?_ | refine Below_drewN2 ?_ _ | refine Below.alloc ?_ (by first | omega | (simp; omega) | simp) _)) (by first | omega | (simp; omega) | simp) hb); obtain ⟨s4, g0, g1, g2, g3, g4, g5, g6, g7⟩ := range_cells B4.out; clear hb))
      go_wp2_with (go_at_call 14; refine (Mask_any _ _).mono ?_; rintro e w' ⟨rfl, rfl⟩)
      go_ret
      exact ⟨rfl, below_box2 B4.out⟩
set_option maxHeartbeats 4000000 in
set_option maxRecDepth 20000 in
theorem range_0_ok (op x0 x1 x2 z0 z1 z2 z3 z4 m r v : Int) (W : World) (hop : 0 ≤ op) (hop1 : op ≤ 255) (em : op % 16 = m) (h0 : Hid (0 ≤ m)) (h1 : Hid (m ≤ 15)) (ha : Hid (ar m = 0)) (HW : Hid (width m [] z0 z1 = r)) (r1 : 1 ≤ r) (r8 : r ≤ 8) (HO : Hid (okay m [] [] [z0, z1] = true)) (HV : Hid (val m [] [] z0 z1 = v)) (v0 : 0 ≤ v) (v1 : v ≤ mask r) :
    Calls Try.prog 4 #[.int .u8 op, .agg #[.int .i64 x0, .int .i64 x1, .int .i64 x2], .agg #[.int .i64 z0, .int .i64 z1, .int .i64 z2, .int .i64 z3, .int .i64 z4]] W fun e W' => e = .returned (.bool true) ∧ Below W.heap.size W W' := by
  obtain ⟨i0, hi0, hz0, hz1, hz2⟩ := info_parts infoI
  have em2 : op.tmod 16 = m := (Int.tmod_eq_emod_of_nonneg hop).trans em
  have em3 : IntKind.i64.wrap m = m := IntWalk.i64_in _ (by have := h0.out; have := h1.out; omega)
  go_enter Try.func4, Try.ntmps4
  go_wp2_with fail
  refine (examples_any _).mono ?_
  rintro e w1 ⟨rfl, hb⟩
  have B1 := Lib.hid (show Below ((W.alloc (.cells #[.int .i64 x0, .int .i64 x1, .int .i64 x2] 42)).alloc (.cells #[.int .i64 z0, .int .i64 z1, .int .i64 z2, .int .i64 z3, .int .i64 z4] 43)).heap.size ((W.alloc (.cells #[.int .i64 x0, .int .i64 x1, .int .i64 x2] 42)).alloc (.cells #[.int .i64 z0, .int .i64 z1, .int .i64 z2, .int .i64 z3, .int .i64 z4] 43)) w1 from hb)
  obtain ⟨s1, b0, b1, b2, b3, b4, b5, b6, b7⟩ := range_cells B1.out
  have n10 : w1.heap.size ≠ W.heap.size := by omega
  have n11 : w1.heap.size ≠ W.heap.size + 1 := by omega
  clear hb
  go_wp2_with fail
  refine (Arity_is h0.out h1.out ha.out _).mono ?_
  rintro e w' ⟨rfl, rfl⟩
  go_wp2
  go_region_held3 (fun w' => w'.cell? ⟨W.heap.size, 0, none⟩ = some (.int .i64 x0) ∧ w'.cell? ⟨W.heap.size, 1, none⟩ = some (.int .i64 x1) ∧ w'.cell? ⟨W.heap.size, 2, none⟩ = some (.int .i64 x2) ∧ w'.cell? ⟨W.heap.size + 1, 0, none⟩ = some (.int .i64 z0) ∧ w'.cell? ⟨W.heap.size + 1, 1, none⟩ = some (.int .i64 z1) ∧ w'.cell? ⟨W.heap.size + 1, 2, none⟩ = some (.int .i64 z2) ∧ w'.cell? ⟨W.heap.size + 1, 3, none⟩ = some (.int .i64 z3) ∧ w'.cell? ⟨W.heap.size + 1, 4, none⟩ = some (.int .i64 z4)) (first | (simp [c0, c1, c2, c3, c4, c5, c6, c7, World.cell?_alloc_some, n10]; done) | (simp [b0, b1, b2, b3, b4, b5, b6, b7, World.cell?_alloc_some, n10]; done)) ((go_at_call 10; refine (Width_ok m _ 3 [] z0 z1 r _ HW.out r1 (by repeat (first | exact rd_mk0 _ _ | refine rd_drewN ?_ _ | refine rd_drew ?_ | refine rd_alloc ?_ _))).mono ?_; rintro e w2 ⟨rfl, hb⟩; have B2 := Lib.hid (show Below ((W.alloc (.cells #[.int .i64 x0, .int .i64 x1, .int .i64 x2] 42)).alloc (.cells #[.int .i64 z0, .int .i64 z1, .int .i64 z2, .int .i64 z3, .int .i64 z4] 43)).heap.size ((W.alloc (.cells #[.int .i64 x0, .int .i64 x1, .int .i64 x2] 42)).alloc (.cells #[.int .i64 z0, .int .i64 z1, .int .i64 z2, .int .i64 z3, .int .i64 z4] 43)) w2 from bel_call (by repeat (first | exact B1.out | refine Below.drew ?_ | refine Below_drewN2 ?_ _ | refine Below.alloc ?_ (by first | omega | (simp; omega) | simp) _)) (by first | omega | (simp; omega) | simp) hb); obtain ⟨s2, c0, c1, c2, c3, c4, c5, c6, c7⟩ := range_cells B2.out; clear hb))
  go_wp2
  go_loopw [13, 14] (RgRel (W.heap.size + 2) ((W.alloc (.cells #[.int .i64 x0, .int .i64 x1, .int .i64 x2] 42)).alloc (.cells #[.int .i64 z0, .int .i64 z1, .int .i64 z2, .int .i64 z3, .int .i64 z4] 43)) []) (fun _ i _ => 0 - (intOf i).toNat)
  case atStart => exact ⟨B2.out.alloc (by have := B2.out.size; simpa using this) _, 0, 0, Nat.zero_le _, rfl, rfl, ⟨rfl, .inr ⟨_, 0, #[], rfl, by omega, map_new _ _, Nat.le_refl _, Nat.zero_le _, rfl, rfl⟩⟩⟩
  case round =>
    obtain ⟨hb, k, j, hk, hj, rfl, ho⟩ := hrel
    have HB := Lib.hid hb
    obtain ⟨sr, d0, d1, d2, d3, d4, d5, d6, d7⟩ := range_cells HB.out
    have nr0 : wr.heap.size ≠ W.heap.size := by omega
    have nr1 : wr.heap.size ≠ W.heap.size + 1 := by omega
    clear hb b0 b1 b2 b3 b4 b5 b6 b7 c0 c1 c2 c3 c4 c5 c6 c7
    have hc : k = 0 := by simpa using hk
    rcases hc with rfl
    · obtain rfl : j = 0 := hj
      have HOW := Lib.hid (show wr.ownsRow (W.heap.size + 2) 3 1 u13 0 [] from ho)
      clear ho hk
      have hrd : ∃ A c, u13 = .slice A 0 c ∧ Rd wr A [] ∧ 0 ≤ c := rd_own (xs := []) rfl HOW.out
      obtain ⟨A, c, rfl, hrd, _⟩ := hrd
      have HR := Lib.hid hrd
      clear hrd
      go_wp2
      go_region_held3 (fun w' => w'.cell? ⟨W.heap.size, 0, none⟩ = some (.int .i64 x0) ∧ w'.cell? ⟨W.heap.size, 1, none⟩ = some (.int .i64 x1) ∧ w'.cell? ⟨W.heap.size, 2, none⟩ = some (.int .i64 x2) ∧ w'.cell? ⟨W.heap.size + 1, 0, none⟩ = some (.int .i64 z0) ∧ w'.cell? ⟨W.heap.size + 1, 1, none⟩ = some (.int .i64 z1) ∧ w'.cell? ⟨W.heap.size + 1, 2, none⟩ = some (.int .i64 z2) ∧ w'.cell? ⟨W.heap.size + 1, 3, none⟩ = some (.int .i64 z3) ∧ w'.cell? ⟨W.heap.size + 1, 4, none⟩ = some (.int .i64 z4)) (first | (simp [g0, g1, g2, g3, g4, g5, g6, g7, World.cell?_alloc_some, nr0]; done) | (simp [d0, d1, d2, d3, d4, d5, d6, d7, World.cell?_alloc_some, nr0, nr1]; done)) ((go_at_call 12; refine (Apply_val m (some ⟨W.heap.size, 0, none⟩) A (some ⟨wr.heap.size, 0, none⟩) 3 c 2 [] [] [z0, z1] v _ HO.out HV.out (by repeat (first | exact rd_mk0 _ _ | refine rd_drewN ?_ _ | refine rd_drew ?_ | refine rd_alloc ?_ _)) (by repeat (first | exact HR.out | refine rd_drewN ?_ _ | refine rd_drew ?_ | refine rd_alloc ?_ _)) (by repeat (first | exact rd_at2 (by simp) | refine rd_drewN ?_ _ | refine rd_drew ?_))).mono ?_; rintro e w4 ⟨rfl, hb⟩; have B4 := Lib.hid (show Below ((W.alloc (.cells #[.int .i64 x0, .int .i64 x1, .int .i64 x2] 42)).alloc (.cells #[.int .i64 z0, .int .i64 z1, .int .i64 z2, .int .i64 z3, .int .i64 z4] 43)).heap.size ((W.alloc (.cells #[.int .i64 x0, .int .i64 x1, .int .i64 x2] 42)).alloc (.cells #[.int .i64 z0, .int .i64 z1, .int .i64 z2, .int .i64 z3, .int .i64 z4] 43)) w4 from bel_call (by repeat (first | exact HB.out | refine Below.drew ?_ | refine Below_drewN2 ?_ _ | refine Below.alloc ?_ (by first | omega | (simp; omega) | simp) _)) (by first | omega | (simp; omega) | simp) hb); obtain ⟨s4, g0, g1, g2, g3, g4, g5, g6, g7⟩ := range_cells B4.out; clear hb))
      go_wp2_with (go_at_call 14; refine (Mask_any _ _).mono ?_; rintro e w' ⟨rfl, rfl⟩)
      go_ret
      exact ⟨rfl, below_box2 B4.out⟩
set_option maxHeartbeats 4000000 in
set_option maxRecDepth 20000 in
theorem range_1_bad (op x0 x1 x2 z0 z1 z2 z3 z4 m a0 : Int) (W : World) (hop : 0 ≤ op) (hop1 : op ≤ 255) (em : op % 16 = m) (h0 : Hid (0 ≤ m)) (h1 : Hid (m ≤ 15)) (ha : Hid (ar m = 1)) (e0 : Go.bits .and .i64 z2 (mask x0) = a0) (HW : Hid (width m [x0] z0 z1 = 0)) :
    Calls Try.prog 4 #[.int .u8 op, .agg #[.int .i64 x0, .int .i64 x1, .int .i64 x2], .agg #[.int .i64 z0, .int .i64 z1, .int .i64 z2, .int .i64 z3, .int .i64 z4]] W fun e W' => e = .returned (.bool true) ∧ Below W.heap.size W W' := by
  have HO := Lib.hid (okay_width (vs := [a0]) HW.out)
  obtain ⟨i0, hi0, hz0, hz1, hz2⟩ := info_parts infoI
  have em2 : op.tmod 16 = m := (Int.tmod_eq_emod_of_nonneg hop).trans em
  have em3 : IntKind.i64.wrap m = m := IntWalk.i64_in _ (by have := h0.out; have := h1.out; omega)
  go_enter Try.func4, Try.ntmps4
  go_wp2_with fail
  refine (examples_any _).mono ?_
  rintro e w1 ⟨rfl, hb⟩
  have B1 := Lib.hid (show Below ((W.alloc (.cells #[.int .i64 x0, .int .i64 x1, .int .i64 x2] 42)).alloc (.cells #[.int .i64 z0, .int .i64 z1, .int .i64 z2, .int .i64 z3, .int .i64 z4] 43)).heap.size ((W.alloc (.cells #[.int .i64 x0, .int .i64 x1, .int .i64 x2] 42)).alloc (.cells #[.int .i64 z0, .int .i64 z1, .int .i64 z2, .int .i64 z3, .int .i64 z4] 43)) w1 from hb)
  obtain ⟨s1, b0, b1, b2, b3, b4, b5, b6, b7⟩ := range_cells B1.out
  have n10 : w1.heap.size ≠ W.heap.size := by omega
  have n11 : w1.heap.size ≠ W.heap.size + 1 := by omega
  clear hb
  go_wp2_with fail
  refine (Arity_is h0.out h1.out ha.out _).mono ?_
  rintro e w' ⟨rfl, rfl⟩
  go_wp2
  go_region_held3 (fun w' => w'.cell? ⟨W.heap.size, 0, none⟩ = some (.int .i64 x0) ∧ w'.cell? ⟨W.heap.size, 1, none⟩ = some (.int .i64 x1) ∧ w'.cell? ⟨W.heap.size, 2, none⟩ = some (.int .i64 x2) ∧ w'.cell? ⟨W.heap.size + 1, 0, none⟩ = some (.int .i64 z0) ∧ w'.cell? ⟨W.heap.size + 1, 1, none⟩ = some (.int .i64 z1) ∧ w'.cell? ⟨W.heap.size + 1, 2, none⟩ = some (.int .i64 z2) ∧ w'.cell? ⟨W.heap.size + 1, 3, none⟩ = some (.int .i64 z3) ∧ w'.cell? ⟨W.heap.size + 1, 4, none⟩ = some (.int .i64 z4)) (first | (simp [c0, c1, c2, c3, c4, c5, c6, c7, World.cell?_alloc_some, n10]; done) | (simp [b0, b1, b2, b3, b4, b5, b6, b7, World.cell?_alloc_some, n10]; done)) ((go_at_call 10; refine (Width_bad m _ 3 [x0] z0 z1 _ HW.out (by repeat (first | exact rd_mk1 b0 | refine rd_drewN ?_ _ | refine rd_drew ?_ | refine rd_alloc ?_ _))).mono ?_; rintro e w2 ⟨rfl, hb⟩; have B2 := Lib.hid (show Below ((W.alloc (.cells #[.int .i64 x0, .int .i64 x1, .int .i64 x2] 42)).alloc (.cells #[.int .i64 z0, .int .i64 z1, .int .i64 z2, .int .i64 z3, .int .i64 z4] 43)).heap.size ((W.alloc (.cells #[.int .i64 x0, .int .i64 x1, .int .i64 x2] 42)).alloc (.cells #[.int .i64 z0, .int .i64 z1, .int .i64 z2, .int .i64 z3, .int .i64 z4] 43)) w2 from bel_call (by repeat (first | exact B1.out | refine Below.drew ?_ | refine Below_drewN2 ?_ _ | refine Below.alloc ?_ (by first | omega | (simp; omega) | simp) _)) (by first | omega | (simp; omega) | simp) hb); obtain ⟨s2, c0, c1, c2, c3, c4, c5, c6, c7⟩ := range_cells B2.out; clear hb))
  go_wp2
  go_loopw [13, 14] (RgRel (W.heap.size + 2) ((W.alloc (.cells #[.int .i64 x0, .int .i64 x1, .int .i64 x2] 42)).alloc (.cells #[.int .i64 z0, .int .i64 z1, .int .i64 z2, .int .i64 z3, .int .i64 z4] 43)) [a0]) (fun _ i _ => 1 - (intOf i).toNat)
  case atStart => exact ⟨B2.out.alloc (by have := B2.out.size; simpa using this) _, 0, 0, Nat.zero_le _, rfl, rfl, ⟨rfl, .inr ⟨_, 0, #[], rfl, by omega, map_new _ _, Nat.le_refl _, Nat.zero_le _, rfl, rfl⟩⟩⟩
  case round =>
    obtain ⟨hb, k, j, hk, hj, rfl, ho⟩ := hrel
    have HB := Lib.hid hb
    obtain ⟨sr, d0, d1, d2, d3, d4, d5, d6, d7⟩ := range_cells HB.out
    have nr0 : wr.heap.size ≠ W.heap.size := by omega
    have nr1 : wr.heap.size ≠ W.heap.size + 1 := by omega
    clear hb b0 b1 b2 b3 b4 b5 b6 b7 c0 c1 c2 c3 c4 c5 c6 c7
    have hc : k = 0 ∨ k = 1 := by simp at hk; omega
    rcases hc with rfl | rfl
    · obtain rfl : j = 0 := hj
      have HOW := Lib.hid (show wr.ownsRow (W.heap.size + 2) 3 1 u13 0 [] from ho)
      clear ho hk
      have ew2 : IntKind.i64.wrap 2 = 2 := rfl
      have ew3 : IntKind.i64.wrap (2 + 0) = 2 := rfl
      go_wp2
      go_region_held3 (fun w' => w'.cell? ⟨W.heap.size, 0, none⟩ = some (.int .i64 x0) ∧ w'.cell? ⟨W.heap.size, 1, none⟩ = some (.int .i64 x1) ∧ w'.cell? ⟨W.heap.size, 2, none⟩ = some (.int .i64 x2) ∧ w'.cell? ⟨W.heap.size + 1, 0, none⟩ = some (.int .i64 z0) ∧ w'.cell? ⟨W.heap.size + 1, 1, none⟩ = some (.int .i64 z1) ∧ w'.cell? ⟨W.heap.size + 1, 2, none⟩ = some (.int .i64 z2) ∧ w'.cell? ⟨W.heap.size + 1, 3, none⟩ = some (.int .i64 z3) ∧ w'.cell? ⟨W.heap.size + 1, 4, none⟩ = some (.int .i64 z4)) (first | (simp [f0, f1, f2, f3, f4, f5, f6, f7, World.cell?_alloc_some, nr0]; done) | (simp [d0, d1, d2, d3, d4, d5, d6, d7, World.cell?_alloc_some, nr0, nr1]; done)) (first | (go_at_call 14; refine (Mask_any _ _).mono ?_; rintro e w' ⟨rfl, rfl⟩) | (refine step_append_lies _ (by rfl) _ _ _ (by rfl) (W.heap.size + 2) 3 i0 _ 1 8 Try.underlying22 hi0 hz0 hz1 hz2 rfl (by omega) u13 0 [] (by rfl) (by first | exact (HOW.out.alloc _).drew | exact HOW.out.alloc _) ⟨wr.heap.size, 0, none⟩ 1 1 [.int .i64 a0] (by rfl) (by rfl) (cell_one_new _ _ _) (by simp [Value.oneCell']) (by omega) (by unfold maxLen; omega) (by omega) (by simp; omega) (wr.heap.size + 1) (by simp) ?_; intro gg cap w3 hown1 hgrow hat hlt; have HN := Lib.hid hown1; have B3 := Lib.hid (show Below ((W.alloc (.cells #[.int .i64 x0, .int .i64 x1, .int .i64 x2] 42)).alloc (.cells #[.int .i64 z0, .int .i64 z1, .int .i64 z2, .int .i64 z3, .int .i64 z4] 43)).heap.size ((W.alloc (.cells #[.int .i64 x0, .int .i64 x1, .int .i64 x2] 42)).alloc (.cells #[.int .i64 z0, .int .i64 z1, .int .i64 z2, .int .i64 z3, .int .i64 z4] 43)) w3 from rg_grown (by repeat (first | exact HB.out | refine Below.drew ?_ | refine Below_drewN2 ?_ _ | refine Below.alloc ?_ (by first | omega | (simp; omega) | simp) _)) hgrow (by simp; omega) (fun j e => by have := own_ge HOW.out j e; simp; omega)); obtain ⟨s3, f0, f1, f2, f3, f4, f5, f6, f7⟩ := range_cells B3.out; clear hown1 hgrow hat hlt))
      go_wp2
      exact ⟨⟨B3.out, 1, 1, by simp, rfl, by go_num, HN.out⟩, by simp [intOf]⟩
    · obtain rfl : j = 1 := hj
      have HOW := Lib.hid (show wr.ownsRow (W.heap.size + 2) 3 1 u13 1 [.int .i64 a0] from ho)
      clear ho hk
      have hrd : ∃ A c, u13 = .slice A 1 c ∧ Rd wr A [a0] ∧ 1 ≤ c := rd_own (xs := [a0]) rfl HOW.out
      obtain ⟨A, c, rfl, hrd, _⟩ := hrd
      have HR := Lib.hid hrd
      clear hrd
      go_wp2
      go_region_held3 (fun w' => w'.cell? ⟨W.heap.size, 0, none⟩ = some (.int .i64 x0) ∧ w'.cell? ⟨W.heap.size, 1, none⟩ = some (.int .i64 x1) ∧ w'.cell? ⟨W.heap.size, 2, none⟩ = some (.int .i64 x2) ∧ w'.cell? ⟨W.heap.size + 1, 0, none⟩ = some (.int .i64 z0) ∧ w'.cell? ⟨W.heap.size + 1, 1, none⟩ = some (.int .i64 z1) ∧ w'.cell? ⟨W.heap.size + 1, 2, none⟩ = some (.int .i64 z2) ∧ w'.cell? ⟨W.heap.size + 1, 3, none⟩ = some (.int .i64 z3) ∧ w'.cell? ⟨W.heap.size + 1, 4, none⟩ = some (.int .i64 z4)) (first | (simp [g0, g1, g2, g3, g4, g5, g6, g7, World.cell?_alloc_some, nr0]; done) | (simp [d0, d1, d2, d3, d4, d5, d6, d7, World.cell?_alloc_some, nr0, nr1]; done)) ((go_at_call 12; refine (Apply_bad m (some ⟨W.heap.size, 0, none⟩) A (some ⟨wr.heap.size, 0, none⟩) 3 c 2 [x0] [a0] [z0, z1] _ HO.out (by repeat (first | exact rd_mk1 d0 | refine rd_drewN ?_ _ | refine rd_drew ?_ | refine rd_alloc ?_ _)) (by repeat (first | exact HR.out | refine rd_drewN ?_ _ | refine rd_drew ?_ | refine rd_alloc ?_ _)) (by repeat (first | exact rd_at2 (by simp) | refine rd_drewN ?_ _ | refine rd_drew ?_))).mono ?_; rintro e w4 ⟨rfl, hb⟩; have B4 := Lib.hid (show Below ((W.alloc (.cells #[.int .i64 x0, .int .i64 x1, .int .i64 x2] 42)).alloc (.cells #[.int .i64 z0, .int .i64 z1, .int .i64 z2, .int .i64 z3, .int .i64 z4] 43)).heap.size ((W.alloc (.cells #[.int .i64 x0, .int .i64 x1, .int .i64 x2] 42)).alloc (.cells #[.int .i64 z0, .int .i64 z1, .int .i64 z2, .int .i64 z3, .int .i64 z4] 43)) w4 from bel_call (by repeat (first | exact HB.out | refine Below.drew ?_ | refine Below_drewN2 ?_ _ | refine Below.alloc ?_ (by first | omega | (simp; omega) | simp) _)) (by first | omega | (simp; omega) | simp) hb); obtain ⟨s4, g0, g1, g2, g3, g4, g5, g6, g7⟩ := range_cells B4.out; clear hb))
      go_wp2_with (go_at_call 14; refine (Mask_any _ _).mono ?_; rintro e w' ⟨rfl, rfl⟩)
      go_ret
      exact ⟨rfl, below_box2 B4.out⟩
set_option maxHeartbeats 4000000 in
set_option maxRecDepth 20000 in
theorem range_1_ok (op x0 x1 x2 z0 z1 z2 z3 z4 m a0 r v : Int) (W : World) (hop : 0 ≤ op) (hop1 : op ≤ 255) (em : op % 16 = m) (h0 : Hid (0 ≤ m)) (h1 : Hid (m ≤ 15)) (ha : Hid (ar m = 1)) (e0 : Go.bits .and .i64 z2 (mask x0) = a0) (HW : Hid (width m [x0] z0 z1 = r)) (r1 : 1 ≤ r) (r8 : r ≤ 8) (HO : Hid (okay m [x0] [a0] [z0, z1] = true)) (HV : Hid (val m [x0] [a0] z0 z1 = v)) (v0 : 0 ≤ v) (v1 : v ≤ mask r) :
    Calls Try.prog 4 #[.int .u8 op, .agg #[.int .i64 x0, .int .i64 x1, .int .i64 x2], .agg #[.int .i64 z0, .int .i64 z1, .int .i64 z2, .int .i64 z3, .int .i64 z4]] W fun e W' => e = .returned (.bool true) ∧ Below W.heap.size W W' := by
  obtain ⟨i0, hi0, hz0, hz1, hz2⟩ := info_parts infoI
  have em2 : op.tmod 16 = m := (Int.tmod_eq_emod_of_nonneg hop).trans em
  have em3 : IntKind.i64.wrap m = m := IntWalk.i64_in _ (by have := h0.out; have := h1.out; omega)
  go_enter Try.func4, Try.ntmps4
  go_wp2_with fail
  refine (examples_any _).mono ?_
  rintro e w1 ⟨rfl, hb⟩
  have B1 := Lib.hid (show Below ((W.alloc (.cells #[.int .i64 x0, .int .i64 x1, .int .i64 x2] 42)).alloc (.cells #[.int .i64 z0, .int .i64 z1, .int .i64 z2, .int .i64 z3, .int .i64 z4] 43)).heap.size ((W.alloc (.cells #[.int .i64 x0, .int .i64 x1, .int .i64 x2] 42)).alloc (.cells #[.int .i64 z0, .int .i64 z1, .int .i64 z2, .int .i64 z3, .int .i64 z4] 43)) w1 from hb)
  obtain ⟨s1, b0, b1, b2, b3, b4, b5, b6, b7⟩ := range_cells B1.out
  have n10 : w1.heap.size ≠ W.heap.size := by omega
  have n11 : w1.heap.size ≠ W.heap.size + 1 := by omega
  clear hb
  go_wp2_with fail
  refine (Arity_is h0.out h1.out ha.out _).mono ?_
  rintro e w' ⟨rfl, rfl⟩
  go_wp2
  go_region_held3 (fun w' => w'.cell? ⟨W.heap.size, 0, none⟩ = some (.int .i64 x0) ∧ w'.cell? ⟨W.heap.size, 1, none⟩ = some (.int .i64 x1) ∧ w'.cell? ⟨W.heap.size, 2, none⟩ = some (.int .i64 x2) ∧ w'.cell? ⟨W.heap.size + 1, 0, none⟩ = some (.int .i64 z0) ∧ w'.cell? ⟨W.heap.size + 1, 1, none⟩ = some (.int .i64 z1) ∧ w'.cell? ⟨W.heap.size + 1, 2, none⟩ = some (.int .i64 z2) ∧ w'.cell? ⟨W.heap.size + 1, 3, none⟩ = some (.int .i64 z3) ∧ w'.cell? ⟨W.heap.size + 1, 4, none⟩ = some (.int .i64 z4)) (first | (simp [c0, c1, c2, c3, c4, c5, c6, c7, World.cell?_alloc_some, n10]; done) | (simp [b0, b1, b2, b3, b4, b5, b6, b7, World.cell?_alloc_some, n10]; done)) ((go_at_call 10; refine (Width_ok m _ 3 [x0] z0 z1 r _ HW.out r1 (by repeat (first | exact rd_mk1 b0 | refine rd_drewN ?_ _ | refine rd_drew ?_ | refine rd_alloc ?_ _))).mono ?_; rintro e w2 ⟨rfl, hb⟩; have B2 := Lib.hid (show Below ((W.alloc (.cells #[.int .i64 x0, .int .i64 x1, .int .i64 x2] 42)).alloc (.cells #[.int .i64 z0, .int .i64 z1, .int .i64 z2, .int .i64 z3, .int .i64 z4] 43)).heap.size ((W.alloc (.cells #[.int .i64 x0, .int .i64 x1, .int .i64 x2] 42)).alloc (.cells #[.int .i64 z0, .int .i64 z1, .int .i64 z2, .int .i64 z3, .int .i64 z4] 43)) w2 from bel_call (by repeat (first | exact B1.out | refine Below.drew ?_ | refine Below_drewN2 ?_ _ | refine Below.alloc ?_ (by first | omega | (simp; omega) | simp) _)) (by first | omega | (simp; omega) | simp) hb); obtain ⟨s2, c0, c1, c2, c3, c4, c5, c6, c7⟩ := range_cells B2.out; clear hb))
  go_wp2
  go_loopw [13, 14] (RgRel (W.heap.size + 2) ((W.alloc (.cells #[.int .i64 x0, .int .i64 x1, .int .i64 x2] 42)).alloc (.cells #[.int .i64 z0, .int .i64 z1, .int .i64 z2, .int .i64 z3, .int .i64 z4] 43)) [a0]) (fun _ i _ => 1 - (intOf i).toNat)
  case atStart => exact ⟨B2.out.alloc (by have := B2.out.size; simpa using this) _, 0, 0, Nat.zero_le _, rfl, rfl, ⟨rfl, .inr ⟨_, 0, #[], rfl, by omega, map_new _ _, Nat.le_refl _, Nat.zero_le _, rfl, rfl⟩⟩⟩
  case round =>
    obtain ⟨hb, k, j, hk, hj, rfl, ho⟩ := hrel
    have HB := Lib.hid hb
    obtain ⟨sr, d0, d1, d2, d3, d4, d5, d6, d7⟩ := range_cells HB.out
    have nr0 : wr.heap.size ≠ W.heap.size := by omega
    have nr1 : wr.heap.size ≠ W.heap.size + 1 := by omega
    clear hb b0 b1 b2 b3 b4 b5 b6 b7 c0 c1 c2 c3 c4 c5 c6 c7
    have hc : k = 0 ∨ k = 1 := by simp at hk; omega
    rcases hc with rfl | rfl
    · obtain rfl : j = 0 := hj
      have HOW := Lib.hid (show wr.ownsRow (W.heap.size + 2) 3 1 u13 0 [] from ho)
      clear ho hk
      have ew2 : IntKind.i64.wrap 2 = 2 := rfl
      have ew3 : IntKind.i64.wrap (2 + 0) = 2 := rfl
      go_wp2
      go_region_held3 (fun w' => w'.cell? ⟨W.heap.size, 0, none⟩ = some (.int .i64 x0) ∧ w'.cell? ⟨W.heap.size, 1, none⟩ = some (.int .i64 x1) ∧ w'.cell? ⟨W.heap.size, 2, none⟩ = some (.int .i64 x2) ∧ w'.cell? ⟨W.heap.size + 1, 0, none⟩ = some (.int .i64 z0) ∧ w'.cell? ⟨W.heap.size + 1, 1, none⟩ = some (.int .i64 z1) ∧ w'.cell? ⟨W.heap.size + 1, 2, none⟩ = some (.int .i64 z2) ∧ w'.cell? ⟨W.heap.size + 1, 3, none⟩ = some (.int .i64 z3) ∧ w'.cell? ⟨W.heap.size + 1, 4, none⟩ = some (.int .i64 z4)) (first | (simp [f0, f1, f2, f3, f4, f5, f6, f7, World.cell?_alloc_some, nr0]; done) | (simp [d0, d1, d2, d3, d4, d5, d6, d7, World.cell?_alloc_some, nr0, nr1]; done)) (first | (go_at_call 14; refine (Mask_any _ _).mono ?_; rintro e w' ⟨rfl, rfl⟩) | (refine step_append_lies _ (by rfl) _ _ _ (by rfl) (W.heap.size + 2) 3 i0 _ 1 8 Try.underlying22 hi0 hz0 hz1 hz2 rfl (by omega) u13 0 [] (by rfl) (by first | exact (HOW.out.alloc _).drew | exact HOW.out.alloc _) ⟨wr.heap.size, 0, none⟩ 1 1 [.int .i64 a0] (by rfl) (by rfl) (cell_one_new _ _ _) (by simp [Value.oneCell']) (by omega) (by unfold maxLen; omega) (by omega) (by simp; omega) (wr.heap.size + 1) (by simp) ?_; intro gg cap w3 hown1 hgrow hat hlt; have HN := Lib.hid hown1; have B3 := Lib.hid (show Below ((W.alloc (.cells #[.int .i64 x0, .int .i64 x1, .int .i64 x2] 42)).alloc (.cells #[.int .i64 z0, .int .i64 z1, .int .i64 z2, .int .i64 z3, .int .i64 z4] 43)).heap.size ((W.alloc (.cells #[.int .i64 x0, .int .i64 x1, .int .i64 x2] 42)).alloc (.cells #[.int .i64 z0, .int .i64 z1, .int .i64 z2, .int .i64 z3, .int .i64 z4] 43)) w3 from rg_grown (by repeat (first | exact HB.out | refine Below.drew ?_ | refine Below_drewN2 ?_ _ | refine Below.alloc ?_ (by first | omega | (simp; omega) | simp) _)) hgrow (by simp; omega) (fun j e => by have := own_ge HOW.out j e; simp; omega)); obtain ⟨s3, f0, f1, f2, f3, f4, f5, f6, f7⟩ := range_cells B3.out; clear hown1 hgrow hat hlt))
      go_wp2
      exact ⟨⟨B3.out, 1, 1, by simp, rfl, by go_num, HN.out⟩, by simp [intOf]⟩
    · obtain rfl : j = 1 := hj
      have HOW := Lib.hid (show wr.ownsRow (W.heap.size + 2) 3 1 u13 1 [.int .i64 a0] from ho)
      clear ho hk
      have hrd : ∃ A c, u13 = .slice A 1 c ∧ Rd wr A [a0] ∧ 1 ≤ c := rd_own (xs := [a0]) rfl HOW.out
      obtain ⟨A, c, rfl, hrd, _⟩ := hrd
      have HR := Lib.hid hrd
      clear hrd
      go_wp2
      go_region_held3 (fun w' => w'.cell? ⟨W.heap.size, 0, none⟩ = some (.int .i64 x0) ∧ w'.cell? ⟨W.heap.size, 1, none⟩ = some (.int .i64 x1) ∧ w'.cell? ⟨W.heap.size, 2, none⟩ = some (.int .i64 x2) ∧ w'.cell? ⟨W.heap.size + 1, 0, none⟩ = some (.int .i64 z0) ∧ w'.cell? ⟨W.heap.size + 1, 1, none⟩ = some (.int .i64 z1) ∧ w'.cell? ⟨W.heap.size + 1, 2, none⟩ = some (.int .i64 z2) ∧ w'.cell? ⟨W.heap.size + 1, 3, none⟩ = some (.int .i64 z3) ∧ w'.cell? ⟨W.heap.size + 1, 4, none⟩ = some (.int .i64 z4)) (first | (simp [g0, g1, g2, g3, g4, g5, g6, g7, World.cell?_alloc_some, nr0]; done) | (simp [d0, d1, d2, d3, d4, d5, d6, d7, World.cell?_alloc_some, nr0, nr1]; done)) ((go_at_call 12; refine (Apply_val m (some ⟨W.heap.size, 0, none⟩) A (some ⟨wr.heap.size, 0, none⟩) 3 c 2 [x0] [a0] [z0, z1] v _ HO.out HV.out (by repeat (first | exact rd_mk1 d0 | refine rd_drewN ?_ _ | refine rd_drew ?_ | refine rd_alloc ?_ _)) (by repeat (first | exact HR.out | refine rd_drewN ?_ _ | refine rd_drew ?_ | refine rd_alloc ?_ _)) (by repeat (first | exact rd_at2 (by simp) | refine rd_drewN ?_ _ | refine rd_drew ?_))).mono ?_; rintro e w4 ⟨rfl, hb⟩; have B4 := Lib.hid (show Below ((W.alloc (.cells #[.int .i64 x0, .int .i64 x1, .int .i64 x2] 42)).alloc (.cells #[.int .i64 z0, .int .i64 z1, .int .i64 z2, .int .i64 z3, .int .i64 z4] 43)).heap.size ((W.alloc (.cells #[.int .i64 x0, .int .i64 x1, .int .i64 x2] 42)).alloc (.cells #[.int .i64 z0, .int .i64 z1, .int .i64 z2, .int .i64 z3, .int .i64 z4] 43)) w4 from bel_call (by repeat (first | exact HB.out | refine Below.drew ?_ | refine Below_drewN2 ?_ _ | refine Below.alloc ?_ (by first | omega | (simp; omega) | simp) _)) (by first | omega | (simp; omega) | simp) hb); obtain ⟨s4, g0, g1, g2, g3, g4, g5, g6, g7⟩ := range_cells B4.out; clear hb))
      go_wp2_with (go_at_call 14; refine (Mask_any _ _).mono ?_; rintro e w' ⟨rfl, rfl⟩)
      go_ret
      exact ⟨rfl, below_box2 B4.out⟩
set_option maxHeartbeats 4000000 in
set_option maxRecDepth 20000 in
theorem range_2_bad (op x0 x1 x2 z0 z1 z2 z3 z4 m a0 a1 : Int) (W : World) (hop : 0 ≤ op) (hop1 : op ≤ 255) (em : op % 16 = m) (h0 : Hid (0 ≤ m)) (h1 : Hid (m ≤ 15)) (ha : Hid (ar m = 2)) (e0 : Go.bits .and .i64 z2 (mask x0) = a0) (e1 : Go.bits .and .i64 z3 (mask x1) = a1) (HW : Hid (width m [x0, x1] z0 z1 = 0)) :
    Calls Try.prog 4 #[.int .u8 op, .agg #[.int .i64 x0, .int .i64 x1, .int .i64 x2], .agg #[.int .i64 z0, .int .i64 z1, .int .i64 z2, .int .i64 z3, .int .i64 z4]] W fun e W' => e = .returned (.bool true) ∧ Below W.heap.size W W' := by
  have HO := Lib.hid (okay_width (vs := [a0, a1]) HW.out)
  obtain ⟨i0, hi0, hz0, hz1, hz2⟩ := info_parts infoI
  have em2 : op.tmod 16 = m := (Int.tmod_eq_emod_of_nonneg hop).trans em
  have em3 : IntKind.i64.wrap m = m := IntWalk.i64_in _ (by have := h0.out; have := h1.out; omega)
  go_enter Try.func4, Try.ntmps4
  go_wp2_with fail
  refine (examples_any _).mono ?_
  rintro e w1 ⟨rfl, hb⟩
  have B1 := Lib.hid (show Below ((W.alloc (.cells #[.int .i64 x0, .int .i64 x1, .int .i64 x2] 42)).alloc (.cells #[.int .i64 z0, .int .i64 z1, .int .i64 z2, .int .i64 z3, .int .i64 z4] 43)).heap.size ((W.alloc (.cells #[.int .i64 x0, .int .i64 x1, .int .i64 x2] 42)).alloc (.cells #[.int .i64 z0, .int .i64 z1, .int .i64 z2, .int .i64 z3, .int .i64 z4] 43)) w1 from hb)
  obtain ⟨s1, b0, b1, b2, b3, b4, b5, b6, b7⟩ := range_cells B1.out
  have n10 : w1.heap.size ≠ W.heap.size := by omega
  have n11 : w1.heap.size ≠ W.heap.size + 1 := by omega
  clear hb
  go_wp2_with fail
  refine (Arity_is h0.out h1.out ha.out _).mono ?_
  rintro e w' ⟨rfl, rfl⟩
  go_wp2
  go_region_held3 (fun w' => w'.cell? ⟨W.heap.size, 0, none⟩ = some (.int .i64 x0) ∧ w'.cell? ⟨W.heap.size, 1, none⟩ = some (.int .i64 x1) ∧ w'.cell? ⟨W.heap.size, 2, none⟩ = some (.int .i64 x2) ∧ w'.cell? ⟨W.heap.size + 1, 0, none⟩ = some (.int .i64 z0) ∧ w'.cell? ⟨W.heap.size + 1, 1, none⟩ = some (.int .i64 z1) ∧ w'.cell? ⟨W.heap.size + 1, 2, none⟩ = some (.int .i64 z2) ∧ w'.cell? ⟨W.heap.size + 1, 3, none⟩ = some (.int .i64 z3) ∧ w'.cell? ⟨W.heap.size + 1, 4, none⟩ = some (.int .i64 z4)) (first | (simp [c0, c1, c2, c3, c4, c5, c6, c7, World.cell?_alloc_some, n10]; done) | (simp [b0, b1, b2, b3, b4, b5, b6, b7, World.cell?_alloc_some, n10]; done)) ((go_at_call 10; refine (Width_bad m _ 3 [x0, x1] z0 z1 _ HW.out (by repeat (first | exact rd_mk2 b0 b1 | refine rd_drewN ?_ _ | refine rd_drew ?_ | refine rd_alloc ?_ _))).mono ?_; rintro e w2 ⟨rfl, hb⟩; have B2 := Lib.hid (show Below ((W.alloc (.cells #[.int .i64 x0, .int .i64 x1, .int .i64 x2] 42)).alloc (.cells #[.int .i64 z0, .int .i64 z1, .int .i64 z2, .int .i64 z3, .int .i64 z4] 43)).heap.size ((W.alloc (.cells #[.int .i64 x0, .int .i64 x1, .int .i64 x2] 42)).alloc (.cells #[.int .i64 z0, .int .i64 z1, .int .i64 z2, .int .i64 z3, .int .i64 z4] 43)) w2 from bel_call (by repeat (first | exact B1.out | refine Below.drew ?_ | refine Below_drewN2 ?_ _ | refine Below.alloc ?_ (by first | omega | (simp; omega) | simp) _)) (by first | omega | (simp; omega) | simp) hb); obtain ⟨s2, c0, c1, c2, c3, c4, c5, c6, c7⟩ := range_cells B2.out; clear hb))
  go_wp2
  go_loopw [13, 14] (RgRel (W.heap.size + 2) ((W.alloc (.cells #[.int .i64 x0, .int .i64 x1, .int .i64 x2] 42)).alloc (.cells #[.int .i64 z0, .int .i64 z1, .int .i64 z2, .int .i64 z3, .int .i64 z4] 43)) [a0, a1]) (fun _ i _ => 2 - (intOf i).toNat)
  case atStart => exact ⟨B2.out.alloc (by have := B2.out.size; simpa using this) _, 0, 0, Nat.zero_le _, rfl, rfl, ⟨rfl, .inr ⟨_, 0, #[], rfl, by omega, map_new _ _, Nat.le_refl _, Nat.zero_le _, rfl, rfl⟩⟩⟩
  case round =>
    obtain ⟨hb, k, j, hk, hj, rfl, ho⟩ := hrel
    have HB := Lib.hid hb
    obtain ⟨sr, d0, d1, d2, d3, d4, d5, d6, d7⟩ := range_cells HB.out
    have nr0 : wr.heap.size ≠ W.heap.size := by omega
    have nr1 : wr.heap.size ≠ W.heap.size + 1 := by omega
    clear hb b0 b1 b2 b3 b4 b5 b6 b7 c0 c1 c2 c3 c4 c5 c6 c7
    have hc : k = 0 ∨ k = 1 ∨ k = 2 := by simp at hk; omega
    rcases hc with rfl | rfl | rfl
    · obtain rfl : j = 0 := hj
      have HOW := Lib.hid (show wr.ownsRow (W.heap.size + 2) 3 1 u13 0 [] from ho)
      clear ho hk
      have ew2 : IntKind.i64.wrap 2 = 2 := rfl
      have ew3 : IntKind.i64.wrap (2 + 0) = 2 := rfl
      go_wp2
      go_region_held3 (fun w' => w'.cell? ⟨W.heap.size, 0, none⟩ = some (.int .i64 x0) ∧ w'.cell? ⟨W.heap.size, 1, none⟩ = some (.int .i64 x1) ∧ w'.cell? ⟨W.heap.size, 2, none⟩ = some (.int .i64 x2) ∧ w'.cell? ⟨W.heap.size + 1, 0, none⟩ = some (.int .i64 z0) ∧ w'.cell? ⟨W.heap.size + 1, 1, none⟩ = some (.int .i64 z1) ∧ w'.cell? ⟨W.heap.size + 1, 2, none⟩ = some (.int .i64 z2) ∧ w'.cell? ⟨W.heap.size + 1, 3, none⟩ = some (.int .i64 z3) ∧ w'.cell? ⟨W.heap.size + 1, 4, none⟩ = some (.int .i64 z4)) (first | (simp [f0, f1, f2, f3, f4, f5, f6, f7, World.cell?_alloc_some, nr0]; done) | (simp [d0, d1, d2, d3, d4, d5, d6, d7, World.cell?_alloc_some, nr0, nr1]; done)) (first | (go_at_call 14; refine (Mask_any _ _).mono ?_; rintro e w' ⟨rfl, rfl⟩) | (refine step_append_lies _ (by rfl) _ _ _ (by rfl) (W.heap.size + 2) 3 i0 _ 1 8 Try.underlying22 hi0 hz0 hz1 hz2 rfl (by omega) u13 0 [] (by rfl) (by first | exact (HOW.out.alloc _).drew | exact HOW.out.alloc _) ⟨wr.heap.size, 0, none⟩ 1 1 [.int .i64 a0] (by rfl) (by rfl) (cell_one_new _ _ _) (by simp [Value.oneCell']) (by omega) (by unfold maxLen; omega) (by omega) (by simp; omega) (wr.heap.size + 1) (by simp) ?_; intro gg cap w3 hown1 hgrow hat hlt; have HN := Lib.hid hown1; have B3 := Lib.hid (show Below ((W.alloc (.cells #[.int .i64 x0, .int .i64 x1, .int .i64 x2] 42)).alloc (.cells #[.int .i64 z0, .int .i64 z1, .int .i64 z2, .int .i64 z3, .int .i64 z4] 43)).heap.size ((W.alloc (.cells #[.int .i64 x0, .int .i64 x1, .int .i64 x2] 42)).alloc (.cells #[.int .i64 z0, .int .i64 z1, .int .i64 z2, .int .i64 z3, .int .i64 z4] 43)) w3 from rg_grown (by repeat (first | exact HB.out | refine Below.drew ?_ | refine Below_drewN2 ?_ _ | refine Below.alloc ?_ (by first | omega | (simp; omega) | simp) _)) hgrow (by simp; omega) (fun j e => by have := own_ge HOW.out j e; simp; omega)); obtain ⟨s3, f0, f1, f2, f3, f4, f5, f6, f7⟩ := range_cells B3.out; clear hown1 hgrow hat hlt))
      go_wp2
      exact ⟨⟨B3.out, 1, 1, by simp, rfl, by go_num, HN.out⟩, by simp [intOf]⟩
    · obtain rfl : j = 1 := hj
      have HOW := Lib.hid (show wr.ownsRow (W.heap.size + 2) 3 1 u13 1 [.int .i64 a0] from ho)
      clear ho hk
      have ew2 : IntKind.i64.wrap 3 = 3 := rfl
      have ew3 : IntKind.i64.wrap (2 + 1) = 3 := rfl
      go_wp2
      go_region_held3 (fun w' => w'.cell? ⟨W.heap.size, 0, none⟩ = some (.int .i64 x0) ∧ w'.cell? ⟨W.heap.size, 1, none⟩ = some (.int .i64 x1) ∧ w'.cell? ⟨W.heap.size, 2, none⟩ = some (.int .i64 x2) ∧ w'.cell? ⟨W.heap.size + 1, 0, none⟩ = some (.int .i64 z0) ∧ w'.cell? ⟨W.heap.size + 1, 1, none⟩ = some (.int .i64 z1) ∧ w'.cell? ⟨W.heap.size + 1, 2, none⟩ = some (.int .i64 z2) ∧ w'.cell? ⟨W.heap.size + 1, 3, none⟩ = some (.int .i64 z3) ∧ w'.cell? ⟨W.heap.size + 1, 4, none⟩ = some (.int .i64 z4)) (first | (simp [f0, f1, f2, f3, f4, f5, f6, f7, World.cell?_alloc_some, nr0]; done) | (simp [d0, d1, d2, d3, d4, d5, d6, d7, World.cell?_alloc_some, nr0, nr1]; done)) (first | (go_at_call 14; refine (Mask_any _ _).mono ?_; rintro e w' ⟨rfl, rfl⟩) | (refine step_append_lies _ (by rfl) _ _ _ (by rfl) (W.heap.size + 2) 3 i0 _ 1 8 Try.underlying22 hi0 hz0 hz1 hz2 rfl (by omega) u13 1 [.int .i64 a0] (by rfl) (by first | exact (HOW.out.alloc _).drew | exact HOW.out.alloc _) ⟨wr.heap.size, 0, none⟩ 1 1 [.int .i64 a1] (by rfl) (by rfl) (cell_one_new _ _ _) (by simp [Value.oneCell']) (by omega) (by unfold maxLen; omega) (by omega) (by simp; omega) (wr.heap.size + 1) (by simp) ?_; intro gg cap w3 hown1 hgrow hat hlt; have HN := Lib.hid hown1; have B3 := Lib.hid (show Below ((W.alloc (.cells #[.int .i64 x0, .int .i64 x1, .int .i64 x2] 42)).alloc (.cells #[.int .i64 z0, .int .i64 z1, .int .i64 z2, .int .i64 z3, .int .i64 z4] 43)).heap.size ((W.alloc (.cells #[.int .i64 x0, .int .i64 x1, .int .i64 x2] 42)).alloc (.cells #[.int .i64 z0, .int .i64 z1, .int .i64 z2, .int .i64 z3, .int .i64 z4] 43)) w3 from rg_grown (by repeat (first | exact HB.out | refine Below.drew ?_ | refine Below_drewN2 ?_ _ | refine Below.alloc ?_ (by first | omega | (simp; omega) | simp) _)) hgrow (by simp; omega) (fun j e => by have := own_ge HOW.out j e; simp; omega)); obtain ⟨s3, f0, f1, f2, f3, f4, f5, f6, f7⟩ := range_cells B3.out; clear hown1 hgrow hat hlt))
      go_wp2
      exact ⟨⟨B3.out, 2, 2, by simp, rfl, by go_num, HN.out⟩, by simp [intOf]⟩
    · obtain rfl : j = 2 := hj
      have HOW := Lib.hid (show wr.ownsRow (W.heap.size + 2) 3 1 u13 2 [.int .i64 a0, .int .i64 a1] from ho)
      clear ho hk
      have hrd : ∃ A c, u13 = .slice A 2 c ∧ Rd wr A [a0, a1] ∧ 2 ≤ c := rd_own (xs := [a0, a1]) rfl HOW.out
      obtain ⟨A, c, rfl, hrd, _⟩ := hrd
      have HR := Lib.hid hrd
      clear hrd
      go_wp2
      go_region_held3 (fun w' => w'.cell? ⟨W.heap.size, 0, none⟩ = some (.int .i64 x0) ∧ w'.cell? ⟨W.heap.size, 1, none⟩ = some (.int .i64 x1) ∧ w'.cell? ⟨W.heap.size, 2, none⟩ = some (.int .i64 x2) ∧ w'.cell? ⟨W.heap.size + 1, 0, none⟩ = some (.int .i64 z0) ∧ w'.cell? ⟨W.heap.size + 1, 1, none⟩ = some (.int .i64 z1) ∧ w'.cell? ⟨W.heap.size + 1, 2, none⟩ = some (.int .i64 z2) ∧ w'.cell? ⟨W.heap.size + 1, 3, none⟩ = some (.int .i64 z3) ∧ w'.cell? ⟨W.heap.size + 1, 4, none⟩ = some (.int .i64 z4)) (first | (simp [g0, g1, g2, g3, g4, g5, g6, g7, World.cell?_alloc_some, nr0]; done) | (simp [d0, d1, d2, d3, d4, d5, d6, d7, World.cell?_alloc_some, nr0, nr1]; done)) ((go_at_call 12; refine (Apply_bad m (some ⟨W.heap.size, 0, none⟩) A (some ⟨wr.heap.size, 0, none⟩) 3 c 2 [x0, x1] [a0, a1] [z0, z1] _ HO.out (by repeat (first | exact rd_mk2 d0 d1 | refine rd_drewN ?_ _ | refine rd_drew ?_ | refine rd_alloc ?_ _)) (by repeat (first | exact HR.out | refine rd_drewN ?_ _ | refine rd_drew ?_ | refine rd_alloc ?_ _)) (by repeat (first | exact rd_at2 (by simp) | refine rd_drewN ?_ _ | refine rd_drew ?_))).mono ?_; rintro e w4 ⟨rfl, hb⟩; have B4 := Lib.hid (show Below ((W.alloc (.cells #[.int .i64 x0, .int .i64 x1, .int .i64 x2] 42)).alloc (.cells #[.int .i64 z0, .int .i64 z1, .int .i64 z2, .int .i64 z3, .int .i64 z4] 43)).heap.size ((W.alloc (.cells #[.int .i64 x0, .int .i64 x1, .int .i64 x2] 42)).alloc (.cells #[.int .i64 z0, .int .i64 z1, .int .i64 z2, .int .i64 z3, .int .i64 z4] 43)) w4 from bel_call (by repeat (first | exact HB.out | refine Below.drew ?_ | refine Below_drewN2 ?_ _ | refine Below.alloc ?_ (by first | omega | (simp; omega) | simp) _)) (by first | omega | (simp; omega) | simp) hb); obtain ⟨s4, g0, g1, g2, g3, g4, g5, g6, g7⟩ := range_cells B4.out; clear hb))
      go_wp2_with (go_at_call 14; refine (Mask_any _ _).mono ?_; rintro e w' ⟨rfl, rfl⟩)
      go_ret
      exact ⟨rfl, below_box2 B4.out⟩
set_option maxHeartbeats 4000000 in
set_option maxRecDepth 20000 in
theorem range_2_ok (op x0 x1 x2 z0 z1 z2 z3 z4 m a0 a1 r v : Int) (W : World) (hop : 0 ≤ op) (hop1 : op ≤ 255) (em : op % 16 = m) (h0 : Hid (0 ≤ m)) (h1 : Hid (m ≤ 15)) (ha : Hid (ar m = 2)) (e0 : Go.bits .and .i64 z2 (mask x0) = a0) (e1 : Go.bits .and .i64 z3 (mask x1) = a1) (HW : Hid (width m [x0, x1] z0 z1 = r)) (r1 : 1 ≤ r) (r8 : r ≤ 8) (HO : Hid (okay m [x0, x1] [a0, a1] [z0, z1] = true)) (HV : Hid (val m [x0, x1] [a0, a1] z0 z1 = v)) (v0 : 0 ≤ v) (v1 : v ≤ mask r) :
    Calls Try.prog 4 #[.int .u8 op, .agg #[.int .i64 x0, .int .i64 x1, .int .i64 x2], .agg #[.int .i64 z0, .int .i64 z1, .int .i64 z2, .int .i64 z3, .int .i64 z4]] W fun e W' => e = .returned (.bool true) ∧ Below W.heap.size W W' := by
  obtain ⟨i0, hi0, hz0, hz1, hz2⟩ := info_parts infoI
  have em2 : op.tmod 16 = m := (Int.tmod_eq_emod_of_nonneg hop).trans em
  have em3 : IntKind.i64.wrap m = m := IntWalk.i64_in _ (by have := h0.out; have := h1.out; omega)
  go_enter Try.func4, Try.ntmps4
  go_wp2_with fail
  refine (examples_any _).mono ?_
  rintro e w1 ⟨rfl, hb⟩
  have B1 := Lib.hid (show Below ((W.alloc (.cells #[.int .i64 x0, .int .i64 x1, .int .i64 x2] 42)).alloc (.cells #[.int .i64 z0, .int .i64 z1, .int .i64 z2, .int .i64 z3, .int .i64 z4] 43)).heap.size ((W.alloc (.cells #[.int .i64 x0, .int .i64 x1, .int .i64 x2] 42)).alloc (.cells #[.int .i64 z0, .int .i64 z1, .int .i64 z2, .int .i64 z3, .int .i64 z4] 43)) w1 from hb)
  obtain ⟨s1, b0, b1, b2, b3, b4, b5, b6, b7⟩ := range_cells B1.out
  have n10 : w1.heap.size ≠ W.heap.size := by omega
  have n11 : w1.heap.size ≠ W.heap.size + 1 := by omega
  clear hb
  go_wp2_with fail
  refine (Arity_is h0.out h1.out ha.out _).mono ?_
  rintro e w' ⟨rfl, rfl⟩
  go_wp2
  go_region_held3 (fun w' => w'.cell? ⟨W.heap.size, 0, none⟩ = some (.int .i64 x0) ∧ w'.cell? ⟨W.heap.size, 1, none⟩ = some (.int .i64 x1) ∧ w'.cell? ⟨W.heap.size, 2, none⟩ = some (.int .i64 x2) ∧ w'.cell? ⟨W.heap.size + 1, 0, none⟩ = some (.int .i64 z0) ∧ w'.cell? ⟨W.heap.size + 1, 1, none⟩ = some (.int .i64 z1) ∧ w'.cell? ⟨W.heap.size + 1, 2, none⟩ = some (.int .i64 z2) ∧ w'.cell? ⟨W.heap.size + 1, 3, none⟩ = some (.int .i64 z3) ∧ w'.cell? ⟨W.heap.size + 1, 4, none⟩ = some (.int .i64 z4)) (first | (simp [c0, c1, c2, c3, c4, c5, c6, c7, World.cell?_alloc_some, n10]; done) | (simp [b0, b1, b2, b3, b4, b5, b6, b7, World.cell?_alloc_some, n10]; done)) ((go_at_call 10; refine (Width_ok m _ 3 [x0, x1] z0 z1 r _ HW.out r1 (by repeat (first | exact rd_mk2 b0 b1 | refine rd_drewN ?_ _ | refine rd_drew ?_ | refine rd_alloc ?_ _))).mono ?_; rintro e w2 ⟨rfl, hb⟩; have B2 := Lib.hid (show Below ((W.alloc (.cells #[.int .i64 x0, .int .i64 x1, .int .i64 x2] 42)).alloc (.cells #[.int .i64 z0, .int .i64 z1, .int .i64 z2, .int .i64 z3, .int .i64 z4] 43)).heap.size ((W.alloc (.cells #[.int .i64 x0, .int .i64 x1, .int .i64 x2] 42)).alloc (.cells #[.int .i64 z0, .int .i64 z1, .int .i64 z2, .int .i64 z3, .int .i64 z4] 43)) w2 from bel_call (by repeat (first | exact B1.out | refine Below.drew ?_ | refine Below_drewN2 ?_ _ | refine Below.alloc ?_ (by first | omega | (simp; omega) | simp) _)) (by first | omega | (simp; omega) | simp) hb); obtain ⟨s2, c0, c1, c2, c3, c4, c5, c6, c7⟩ := range_cells B2.out; clear hb))
  go_wp2
  go_loopw [13, 14] (RgRel (W.heap.size + 2) ((W.alloc (.cells #[.int .i64 x0, .int .i64 x1, .int .i64 x2] 42)).alloc (.cells #[.int .i64 z0, .int .i64 z1, .int .i64 z2, .int .i64 z3, .int .i64 z4] 43)) [a0, a1]) (fun _ i _ => 2 - (intOf i).toNat)
  case atStart => exact ⟨B2.out.alloc (by have := B2.out.size; simpa using this) _, 0, 0, Nat.zero_le _, rfl, rfl, ⟨rfl, .inr ⟨_, 0, #[], rfl, by omega, map_new _ _, Nat.le_refl _, Nat.zero_le _, rfl, rfl⟩⟩⟩
  case round =>
    obtain ⟨hb, k, j, hk, hj, rfl, ho⟩ := hrel
    have HB := Lib.hid hb
    obtain ⟨sr, d0, d1, d2, d3, d4, d5, d6, d7⟩ := range_cells HB.out
    have nr0 : wr.heap.size ≠ W.heap.size := by omega
    have nr1 : wr.heap.size ≠ W.heap.size + 1 := by omega
    clear hb b0 b1 b2 b3 b4 b5 b6 b7 c0 c1 c2 c3 c4 c5 c6 c7
    have hc : k = 0 ∨ k = 1 ∨ k = 2 := by simp at hk; omega
    rcases hc with rfl | rfl | rfl
    · obtain rfl : j = 0 := hj
      have HOW := Lib.hid (show wr.ownsRow (W.heap.size + 2) 3 1 u13 0 [] from ho)
      clear ho hk
      have ew2 : IntKind.i64.wrap 2 = 2 := rfl
      have ew3 : IntKind.i64.wrap (2 + 0) = 2 := rfl
      go_wp2
      go_region_held3 (fun w' => w'.cell? ⟨W.heap.size, 0, none⟩ = some (.int .i64 x0) ∧ w'.cell? ⟨W.heap.size, 1, none⟩ = some (.int .i64 x1) ∧ w'.cell? ⟨W.heap.size, 2, none⟩ = some (.int .i64 x2) ∧ w'.cell? ⟨W.heap.size + 1, 0, none⟩ = some (.int .i64 z0) ∧ w'.cell? ⟨W.heap.size + 1, 1, none⟩ = some (.int .i64 z1) ∧ w'.cell? ⟨W.heap.size + 1, 2, none⟩ = some (.int .i64 z2) ∧ w'.cell? ⟨W.heap.size + 1, 3, none⟩ = some (.int .i64 z3) ∧ w'.cell? ⟨W.heap.size + 1, 4, none⟩ = some (.int .i64 z4)) (first | (simp [f0, f1, f2, f3, f4, f5, f6, f7, World.cell?_alloc_some, nr0]; done) | (simp [d0, d1, d2, d3, d4, d5, d6, d7, World.cell?_alloc_some, nr0, nr1]; done)) (first | (go_at_call 14; refine (Mask_any _ _).mono ?_; rintro e w' ⟨rfl, rfl⟩) | (refine step_append_lies _ (by rfl) _ _ _ (by rfl) (W.heap.size + 2) 3 i0 _ 1 8 Try.underlying22 hi0 hz0 hz1 hz2 rfl (by omega) u13 0 [] (by rfl) (by first | exact (HOW.out.alloc _).drew | exact HOW.out.alloc _) ⟨wr.heap.size, 0, none⟩ 1 1 [.int .i64 a0] (by rfl) (by rfl) (cell_one_new _ _ _) (by simp [Value.oneCell']) (by omega) (by unfold maxLen; omega) (by omega) (by simp; omega) (wr.heap.size + 1) (by simp) ?_; intro gg cap w3 hown1 hgrow hat hlt; have HN := Lib.hid hown1; have B3 := Lib.hid (show Below ((W.alloc (.cells #[.int .i64 x0, .int .i64 x1, .int .i64 x2] 42)).alloc (.cells #[.int .i64 z0, .int .i64 z1, .int .i64 z2, .int .i64 z3, .int .i64 z4] 43)).heap.size ((W.alloc (.cells #[.int .i64 x0, .int .i64 x1, .int .i64 x2] 42)).alloc (.cells #[.int .i64 z0, .int .i64 z1, .int .i64 z2, .int .i64 z3, .int .i64 z4] 43)) w3 from rg_grown (by repeat (first | exact HB.out | refine Below.drew ?_ | refine Below_drewN2 ?_ _ | refine Below.alloc ?_ (by first | omega | (simp; omega) | simp) _)) hgrow (by simp; omega) (fun j e => by have := own_ge HOW.out j e; simp; omega)); obtain ⟨s3, f0, f1, f2, f3, f4, f5, f6, f7⟩ := range_cells B3.out; clear hown1 hgrow hat hlt))
      go_wp2
      exact ⟨⟨B3.out, 1, 1, by simp, rfl, by go_num, HN.out⟩, by simp [intOf]⟩
    · obtain rfl : j = 1 := hj
      have HOW := Lib.hid (show wr.ownsRow (W.heap.size + 2) 3 1 u13 1 [.int .i64 a0] from ho)
      clear ho hk
      have ew2 : IntKind.i64.wrap 3 = 3 := rfl
      have ew3 : IntKind.i64.wrap (2 + 1) = 3 := rfl
      go_wp2
      go_region_held3 (fun w' => w'.cell? ⟨W.heap.size, 0, none⟩ = some (.int .i64 x0) ∧ w'.cell? ⟨W.heap.size, 1, none⟩ = some (.int .i64 x1) ∧ w'.cell? ⟨W.heap.size, 2, none⟩ = some (.int .i64 x2) ∧ w'.cell? ⟨W.heap.size + 1, 0, none⟩ = some (.int .i64 z0) ∧ w'.cell? ⟨W.heap.size + 1, 1, none⟩ = some (.int .i64 z1) ∧ w'.cell? ⟨W.heap.size + 1, 2, none⟩ = some (.int .i64 z2) ∧ w'.cell? ⟨W.heap.size + 1, 3, none⟩ = some (.int .i64 z3) ∧ w'.cell? ⟨W.heap.size + 1, 4, none⟩ = some (.int .i64 z4)) (first | (simp [f0, f1, f2, f3, f4, f5, f6, f7, World.cell?_alloc_some, nr0]; done) | (simp [d0, d1, d2, d3, d4, d5, d6, d7, World.cell?_alloc_some, nr0, nr1]; done)) (first | (go_at_call 14; refine (Mask_any _ _).mono ?_; rintro e w' ⟨rfl, rfl⟩) | (refine step_append_lies _ (by rfl) _ _ _ (by rfl) (W.heap.size + 2) 3 i0 _ 1 8 Try.underlying22 hi0 hz0 hz1 hz2 rfl (by omega) u13 1 [.int .i64 a0] (by rfl) (by first | exact (HOW.out.alloc _).drew | exact HOW.out.alloc _) ⟨wr.heap.size, 0, none⟩ 1 1 [.int .i64 a1] (by rfl) (by rfl) (cell_one_new _ _ _) (by simp [Value.oneCell']) (by omega) (by unfold maxLen; omega) (by omega) (by simp; omega) (wr.heap.size + 1) (by simp) ?_; intro gg cap w3 hown1 hgrow hat hlt; have HN := Lib.hid hown1; have B3 := Lib.hid (show Below ((W.alloc (.cells #[.int .i64 x0, .int .i64 x1, .int .i64 x2] 42)).alloc (.cells #[.int .i64 z0, .int .i64 z1, .int .i64 z2, .int .i64 z3, .int .i64 z4] 43)).heap.size ((W.alloc (.cells #[.int .i64 x0, .int .i64 x1, .int .i64 x2] 42)).alloc (.cells #[.int .i64 z0, .int .i64 z1, .int .i64 z2, .int .i64 z3, .int .i64 z4] 43)) w3 from rg_grown (by repeat (first | exact HB.out | refine Below.drew ?_ | refine Below_drewN2 ?_ _ | refine Below.alloc ?_ (by first | omega | (simp; omega) | simp) _)) hgrow (by simp; omega) (fun j e => by have := own_ge HOW.out j e; simp; omega)); obtain ⟨s3, f0, f1, f2, f3, f4, f5, f6, f7⟩ := range_cells B3.out; clear hown1 hgrow hat hlt))
      go_wp2
      exact ⟨⟨B3.out, 2, 2, by simp, rfl, by go_num, HN.out⟩, by simp [intOf]⟩
    · obtain rfl : j = 2 := hj
      have HOW := Lib.hid (show wr.ownsRow (W.heap.size + 2) 3 1 u13 2 [.int .i64 a0, .int .i64 a1] from ho)
      clear ho hk
      have hrd : ∃ A c, u13 = .slice A 2 c ∧ Rd wr A [a0, a1] ∧ 2 ≤ c := rd_own (xs := [a0, a1]) rfl HOW.out
      obtain ⟨A, c, rfl, hrd, _⟩ := hrd
      have HR := Lib.hid hrd
      clear hrd
      go_wp2
      go_region_held3 (fun w' => w'.cell? ⟨W.heap.size, 0, none⟩ = some (.int .i64 x0) ∧ w'.cell? ⟨W.heap.size, 1, none⟩ = some (.int .i64 x1) ∧ w'.cell? ⟨W.heap.size, 2, none⟩ = some (.int .i64 x2) ∧ w'.cell? ⟨W.heap.size + 1, 0, none⟩ = some (.int .i64 z0) ∧ w'.cell? ⟨W.heap.size + 1, 1, none⟩ = some (.int .i64 z1) ∧ w'.cell? ⟨W.heap.size + 1, 2, none⟩ = some (.int .i64 z2) ∧ w'.cell? ⟨W.heap.size + 1, 3, none⟩ = some (.int .i64 z3) ∧ w'.cell? ⟨W.heap.size + 1, 4, none⟩ = some (.int .i64 z4)) (first | (simp [g0, g1, g2, g3, g4, g5, g6, g7, World.cell?_alloc_some, nr0]; done) | (simp [d0, d1, d2, d3, d4, d5, d6, d7, World.cell?_alloc_some, nr0, nr1]; done)) ((go_at_call 12; refine (Apply_val m (some ⟨W.heap.size, 0, none⟩) A (some ⟨wr.heap.size, 0, none⟩) 3 c 2 [x0, x1] [a0, a1] [z0, z1] v _ HO.out HV.out (by repeat (first | exact rd_mk2 d0 d1 | refine rd_drewN ?_ _ | refine rd_drew ?_ | refine rd_alloc ?_ _)) (by repeat (first | exact HR.out | refine rd_drewN ?_ _ | refine rd_drew ?_ | refine rd_alloc ?_ _)) (by repeat (first | exact rd_at2 (by simp) | refine rd_drewN ?_ _ | refine rd_drew ?_))).mono ?_; rintro e w4 ⟨rfl, hb⟩; have B4 := Lib.hid (show Below ((W.alloc (.cells #[.int .i64 x0, .int .i64 x1, .int .i64 x2] 42)).alloc (.cells #[.int .i64 z0, .int .i64 z1, .int .i64 z2, .int .i64 z3, .int .i64 z4] 43)).heap.size ((W.alloc (.cells #[.int .i64 x0, .int .i64 x1, .int .i64 x2] 42)).alloc (.cells #[.int .i64 z0, .int .i64 z1, .int .i64 z2, .int .i64 z3, .int .i64 z4] 43)) w4 from bel_call (by repeat (first | exact HB.out | refine Below.drew ?_ | refine Below_drewN2 ?_ _ | refine Below.alloc ?_ (by first | omega | (simp; omega) | simp) _)) (by first | omega | (simp; omega) | simp) hb); obtain ⟨s4, g0, g1, g2, g3, g4, g5, g6, g7⟩ := range_cells B4.out; clear hb))
      go_wp2_with (go_at_call 14; refine (Mask_any _ _).mono ?_; rintro e w' ⟨rfl, rfl⟩)
      go_ret
      exact ⟨rfl, below_box2 B4.out⟩
set_option maxHeartbeats 4000000 in
set_option maxRecDepth 20000 in
theorem range_3_bad (op x0 x1 x2 z0 z1 z2 z3 z4 m a0 a1 a2 : Int) (W : World) (hop : 0 ≤ op) (hop1 : op ≤ 255) (em : op % 16 = m) (h0 : Hid (0 ≤ m)) (h1 : Hid (m ≤ 15)) (ha : Hid (ar m = 3)) (e0 : Go.bits .and .i64 z2 (mask x0) = a0) (e1 : Go.bits .and .i64 z3 (mask x1) = a1) (e2 : Go.bits .and .i64 z4 (mask x2) = a2) (HW : Hid (width m [x0, x1, x2] z0 z1 = 0)) :
    Calls Try.prog 4 #[.int .u8 op, .agg #[.int .i64 x0, .int .i64 x1, .int .i64 x2], .agg #[.int .i64 z0, .int .i64 z1, .int .i64 z2, .int .i64 z3, .int .i64 z4]] W fun e W' => e = .returned (.bool true) ∧ Below W.heap.size W W' := by
  have HO := Lib.hid (okay_width (vs := [a0, a1, a2]) HW.out)
  obtain ⟨i0, hi0, hz0, hz1, hz2⟩ := info_parts infoI
  have em2 : op.tmod 16 = m := (Int.tmod_eq_emod_of_nonneg hop).trans em
  have em3 : IntKind.i64.wrap m = m := IntWalk.i64_in _ (by have := h0.out; have := h1.out; omega)
  go_enter Try.func4, Try.ntmps4
  go_wp2_with fail
  refine (examples_any _).mono ?_
  rintro e w1 ⟨rfl, hb⟩
  have B1 := Lib.hid (show Below ((W.alloc (.cells #[.int .i64 x0, .int .i64 x1, .int .i64 x2] 42)).alloc (.cells #[.int .i64 z0, .int .i64 z1, .int .i64 z2, .int .i64 z3, .int .i64 z4] 43)).heap.size ((W.alloc (.cells #[.int .i64 x0, .int .i64 x1, .int .i64 x2] 42)).alloc (.cells #[.int .i64 z0, .int .i64 z1, .int .i64 z2, .int .i64 z3, .int .i64 z4] 43)) w1 from hb)
  obtain ⟨s1, b0, b1, b2, b3, b4, b5, b6, b7⟩ := range_cells B1.out
  have n10 : w1.heap.size ≠ W.heap.size := by omega
  have n11 : w1.heap.size ≠ W.heap.size + 1 := by omega
  clear hb
  go_wp2_with fail
  refine (Arity_is h0.out h1.out ha.out _).mono ?_
  rintro e w' ⟨rfl, rfl⟩
  go_wp2
  go_region_held3 (fun w' => w'.cell? ⟨W.heap.size, 0, none⟩ = some (.int .i64 x0) ∧ w'.cell? ⟨W.heap.size, 1, none⟩ = some (.int .i64 x1) ∧ w'.cell? ⟨W.heap.size, 2, none⟩ = some (.int .i64 x2) ∧ w'.cell? ⟨W.heap.size + 1, 0, none⟩ = some (.int .i64 z0) ∧ w'.cell? ⟨W.heap.size + 1, 1, none⟩ = some (.int .i64 z1) ∧ w'.cell? ⟨W.heap.size + 1, 2, none⟩ = some (.int .i64 z2) ∧ w'.cell? ⟨W.heap.size + 1, 3, none⟩ = some (.int .i64 z3) ∧ w'.cell? ⟨W.heap.size + 1, 4, none⟩ = some (.int .i64 z4)) (first | (simp [c0, c1, c2, c3, c4, c5, c6, c7, World.cell?_alloc_some, n10]; done) | (simp [b0, b1, b2, b3, b4, b5, b6, b7, World.cell?_alloc_some, n10]; done)) ((go_at_call 10; refine (Width_bad m _ 3 [x0, x1, x2] z0 z1 _ HW.out (by repeat (first | exact rd_mk3 b0 b1 b2 | refine rd_drewN ?_ _ | refine rd_drew ?_ | refine rd_alloc ?_ _))).mono ?_; rintro e w2 ⟨rfl, hb⟩; have B2 := Lib.hid (show Below ((W.alloc (.cells #[.int .i64 x0, .int .i64 x1, .int .i64 x2] 42)).alloc (.cells #[.int .i64 z0, .int .i64 z1, .int .i64 z2, .int .i64 z3, .int .i64 z4] 43)).heap.size ((W.alloc (.cells #[.int .i64 x0, .int .i64 x1, .int .i64 x2] 42)).alloc (.cells #[.int .i64 z0, .int .i64 z1, .int .i64 z2, .int .i64 z3, .int .i64 z4] 43)) w2 from bel_call (by repeat (first | exact B1.out | refine Below.drew ?_ | refine Below_drewN2 ?_ _ | refine Below.alloc ?_ (by first | omega | (simp; omega) | simp) _)) (by first | omega | (simp; omega) | simp) hb); obtain ⟨s2, c0, c1, c2, c3, c4, c5, c6, c7⟩ := range_cells B2.out; clear hb))
  go_wp2
  go_loopw [13, 14] (RgRel (W.heap.size + 2) ((W.alloc (.cells #[.int .i64 x0, .int .i64 x1, .int .i64 x2] 42)).alloc (.cells #[.int .i64 z0, .int .i64 z1, .int .i64 z2, .int .i64 z3, .int .i64 z4] 43)) [a0, a1, a2]) (fun _ i _ => 3 - (intOf i).toNat)
  case atStart => exact ⟨B2.out.alloc (by have := B2.out.size; simpa using this) _, 0, 0, Nat.zero_le _, rfl, rfl, ⟨rfl, .inr ⟨_, 0, #[], rfl, by omega, map_new _ _, Nat.le_refl _, Nat.zero_le _, rfl, rfl⟩⟩⟩
  case round =>
    obtain ⟨hb, k, j, hk, hj, rfl, ho⟩ := hrel
    have HB := Lib.hid hb
    obtain ⟨sr, d0, d1, d2, d3, d4, d5, d6, d7⟩ := range_cells HB.out
    have nr0 : wr.heap.size ≠ W.heap.size := by omega
    have nr1 : wr.heap.size ≠ W.heap.size + 1 := by omega
    clear hb b0 b1 b2 b3 b4 b5 b6 b7 c0 c1 c2 c3 c4 c5 c6 c7
    have hc : k = 0 ∨ k = 1 ∨ k = 2 ∨ k = 3 := by simp at hk; omega
    rcases hc with rfl | rfl | rfl | rfl
    · obtain rfl : j = 0 := hj
      have HOW := Lib.hid (show wr.ownsRow (W.heap.size + 2) 3 1 u13 0 [] from ho)
      clear ho hk
      have ew2 : IntKind.i64.wrap 2 = 2 := rfl
      have ew3 : IntKind.i64.wrap (2 + 0) = 2 := rfl
      go_wp2
      go_region_held3 (fun w' => w'.cell? ⟨W.heap.size, 0, none⟩ = some (.int .i64 x0) ∧ w'.cell? ⟨W.heap.size, 1, none⟩ = some (.int .i64 x1) ∧ w'.cell? ⟨W.heap.size, 2, none⟩ = some (.int .i64 x2) ∧ w'.cell? ⟨W.heap.size + 1, 0, none⟩ = some (.int .i64 z0) ∧ w'.cell? ⟨W.heap.size + 1, 1, none⟩ = some (.int .i64 z1) ∧ w'.cell? ⟨W.heap.size + 1, 2, none⟩ = some (.int .i64 z2) ∧ w'.cell? ⟨W.heap.size + 1, 3, none⟩ = some (.int .i64 z3) ∧ w'.cell? ⟨W.heap.size + 1, 4, none⟩ = some (.int .i64 z4)) (first | (simp [f0, f1, f2, f3, f4, f5, f6, f7, World.cell?_alloc_some, nr0]; done) | (simp [d0, d1, d2, d3, d4, d5, d6, d7, World.cell?_alloc_some, nr0, nr1]; done)) (first | (go_at_call 14; refine (Mask_any _ _).mono ?_; rintro e w' ⟨rfl, rfl⟩) | (refine step_append_lies _ (by rfl) _ _ _ (by rfl) (W.heap.size + 2) 3 i0 _ 1 8 Try.underlying22 hi0 hz0 hz1 hz2 rfl (by omega) u13 0 [] (by rfl) (by first | exact (HOW.out.alloc _).drew | exact HOW.out.alloc _) ⟨wr.heap.size, 0, none⟩ 1 1 [.int .i64 a0] (by rfl) (by rfl) (cell_one_new _ _ _) (by simp [Value.oneCell']) (by omega) (by unfold maxLen; omega) (by omega) (by simp; omega) (wr.heap.size + 1) (by simp) ?_; intro gg cap w3 hown1 hgrow hat hlt; have HN := Lib.hid hown1; have B3 := Lib.hid (show Below ((W.alloc (.cells #[.int .i64 x0, .int .i64 x1, .int .i64 x2] 42)).alloc (.cells #[.int .i64 z0, .int .i64 z1, .int .i64 z2, .int .i64 z3, .int .i64 z4] 43)).heap.size ((W.alloc (.cells #[.int .i64 x0, .int .i64 x1, .int .i64 x2] 42)).alloc (.cells #[.int .i64 z0, .int .i64 z1, .int .i64 z2, .int .i64 z3, .int .i64 z4] 43)) w3 from rg_grown (by repeat (first | exact HB.out | refine Below.drew ?_ | refine Below_drewN2 ?_ _ | refine Below.alloc ?_ (by first | omega | (simp; omega) | simp) _)) hgrow (by simp; omega) (fun j e => by have := own_ge HOW.out j e; simp; omega)); obtain ⟨s3, f0, f1, f2, f3, f4, f5, f6, f7⟩ := range_cells B3.out; clear hown1 hgrow hat hlt))
      go_wp2
      exact ⟨⟨B3.out, 1, 1, by simp, rfl, by go_num, HN.out⟩, by simp [intOf]⟩
    · obtain rfl : j = 1 := hj
      have HOW := Lib.hid (show wr.ownsRow (W.heap.size + 2) 3 1 u13 1 [.int .i64 a0] from ho)
      clear ho hk
      have ew2 : IntKind.i64.wrap 3 = 3 := rfl
      have ew3 : IntKind.i64.wrap (2 + 1) = 3 := rfl
      go_wp2
      go_region_held3 (fun w' => w'.cell? ⟨W.heap.size, 0, none⟩ = some (.int .i64 x0) ∧ w'.cell? ⟨W.heap.size, 1, none⟩ = some (.int .i64 x1) ∧ w'.cell? ⟨W.heap.size, 2, none⟩ = some (.int .i64 x2) ∧ w'.cell? ⟨W.heap.size + 1, 0, none⟩ = some (.int .i64 z0) ∧ w'.cell? ⟨W.heap.size + 1, 1, none⟩ = some (.int .i64 z1) ∧ w'.cell? ⟨W.heap.size + 1, 2, none⟩ = some (.int .i64 z2) ∧ w'.cell? ⟨W.heap.size + 1, 3, none⟩ = some (.int .i64 z3) ∧ w'.cell? ⟨W.heap.size + 1, 4, none⟩ = some (.int .i64 z4)) (first | (simp [f0, f1, f2, f3, f4, f5, f6, f7, World.cell?_alloc_some, nr0]; done) | (simp [d0, d1, d2, d3, d4, d5, d6, d7, World.cell?_alloc_some, nr0, nr1]; done)) (first | (go_at_call 14; refine (Mask_any _ _).mono ?_; rintro e w' ⟨rfl, rfl⟩) | (refine step_append_lies _ (by rfl) _ _ _ (by rfl) (W.heap.size + 2) 3 i0 _ 1 8 Try.underlying22 hi0 hz0 hz1 hz2 rfl (by omega) u13 1 [.int .i64 a0] (by rfl) (by first | exact (HOW.out.alloc _).drew | exact HOW.out.alloc _) ⟨wr.heap.size, 0, none⟩ 1 1 [.int .i64 a1] (by rfl) (by rfl) (cell_one_new _ _ _) (by simp [Value.oneCell']) (by omega) (by unfold maxLen; omega) (by omega) (by simp; omega) (wr.heap.size + 1) (by simp) ?_; intro gg cap w3 hown1 hgrow hat hlt; have HN := Lib.hid hown1; have B3 := Lib.hid (show Below ((W.alloc (.cells #[.int .i64 x0, .int .i64 x1, .int .i64 x2] 42)).alloc (.cells #[.int .i64 z0, .int .i64 z1, .int .i64 z2, .int .i64 z3, .int .i64 z4] 43)).heap.size ((W.alloc (.cells #[.int .i64 x0, .int .i64 x1, .int .i64 x2] 42)).alloc (.cells #[.int .i64 z0, .int .i64 z1, .int .i64 z2, .int .i64 z3, .int .i64 z4] 43)) w3 from rg_grown (by repeat (first | exact HB.out | refine Below.drew ?_ | refine Below_drewN2 ?_ _ | refine Below.alloc ?_ (by first | omega | (simp; omega) | simp) _)) hgrow (by simp; omega) (fun j e => by have := own_ge HOW.out j e; simp; omega)); obtain ⟨s3, f0, f1, f2, f3, f4, f5, f6, f7⟩ := range_cells B3.out; clear hown1 hgrow hat hlt))
      go_wp2
      exact ⟨⟨B3.out, 2, 2, by simp, rfl, by go_num, HN.out⟩, by simp [intOf]⟩
    · obtain rfl : j = 2 := hj
      have HOW := Lib.hid (show wr.ownsRow (W.heap.size + 2) 3 1 u13 2 [.int .i64 a0, .int .i64 a1] from ho)
      clear ho hk
      have ew2 : IntKind.i64.wrap 4 = 4 := rfl
      have ew3 : IntKind.i64.wrap (2 + 2) = 4 := rfl
      go_wp2
      go_region_held3 (fun w' => w'.cell? ⟨W.heap.size, 0, none⟩ = some (.int .i64 x0) ∧ w'.cell? ⟨W.heap.size, 1, none⟩ = some (.int .i64 x1) ∧ w'.cell? ⟨W.heap.size, 2, none⟩ = some (.int .i64 x2) ∧ w'.cell? ⟨W.heap.size + 1, 0, none⟩ = some (.int .i64 z0) ∧ w'.cell? ⟨W.heap.size + 1, 1, none⟩ = some (.int .i64 z1) ∧ w'.cell? ⟨W.heap.size + 1, 2, none⟩ = some (.int .i64 z2) ∧ w'.cell? ⟨W.heap.size + 1, 3, none⟩ = some (.int .i64 z3) ∧ w'.cell? ⟨W.heap.size + 1, 4, none⟩ = some (.int .i64 z4)) (first | (simp [f0, f1, f2, f3, f4, f5, f6, f7, World.cell?_alloc_some, nr0]; done) | (simp [d0, d1, d2, d3, d4, d5, d6, d7, World.cell?_alloc_some, nr0, nr1]; done)) (first | (go_at_call 14; refine (Mask_any _ _).mono ?_; rintro e w' ⟨rfl, rfl⟩) | (refine step_append_lies _ (by rfl) _ _ _ (by rfl) (W.heap.size + 2) 3 i0 _ 1 8 Try.underlying22 hi0 hz0 hz1 hz2 rfl (by omega) u13 2 [.int .i64 a0, .int .i64 a1] (by rfl) (by first | exact (HOW.out.alloc _).drew | exact HOW.out.alloc _) ⟨wr.heap.size, 0, none⟩ 1 1 [.int .i64 a2] (by rfl) (by rfl) (cell_one_new _ _ _) (by simp [Value.oneCell']) (by omega) (by unfold maxLen; omega) (by omega) (by simp; omega) (wr.heap.size + 1) (by simp) ?_; intro gg cap w3 hown1 hgrow hat hlt; have HN := Lib.hid hown1; have B3 := Lib.hid (show Below ((W.alloc (.cells #[.int .i64 x0, .int .i64 x1, .int .i64 x2] 42)).alloc (.cells #[.int .i64 z0, .int .i64 z1, .int .i64 z2, .int .i64 z3, .int .i64 z4] 43)).heap.size ((W.alloc (.cells #[.int .i64 x0, .int .i64 x1, .int .i64 x2] 42)).alloc (.cells #[.int .i64 z0, .int .i64 z1, .int .i64 z2, .int .i64 z3, .int .i64 z4] 43)) w3 from rg_grown (by repeat (first | exact HB.out | refine Below.drew ?_ | refine Below_drewN2 ?_ _ | refine Below.alloc ?_ (by first | omega | (simp; omega) | simp) _)) hgrow (by simp; omega) (fun j e => by have := own_ge HOW.out j e; simp; omega)); obtain ⟨s3, f0, f1, f2, f3, f4, f5, f6, f7⟩ := range_cells B3.out; clear hown1 hgrow hat hlt))
      go_wp2
      exact ⟨⟨B3.out, 3, 3, by simp, rfl, by go_num, HN.out⟩, by simp [intOf]⟩
    · obtain rfl : j = 3 := hj
      have HOW := Lib.hid (show wr.ownsRow (W.heap.size + 2) 3 1 u13 3 [.int .i64 a0, .int .i64 a1, .int .i64 a2] from ho)
      clear ho hk
      have hrd : ∃ A c, u13 = .slice A 3 c ∧ Rd wr A [a0, a1, a2] ∧ 3 ≤ c := rd_own (xs := [a0, a1, a2]) rfl HOW.out
      obtain ⟨A, c, rfl, hrd, _⟩ := hrd
      have HR := Lib.hid hrd
      clear hrd
      go_wp2
      go_region_held3 (fun w' => w'.cell? ⟨W.heap.size, 0, none⟩ = some (.int .i64 x0) ∧ w'.cell? ⟨W.heap.size, 1, none⟩ = some (.int .i64 x1) ∧ w'.cell? ⟨W.heap.size, 2, none⟩ = some (.int .i64 x2) ∧ w'.cell? ⟨W.heap.size + 1, 0, none⟩ = some (.int .i64 z0) ∧ w'.cell? ⟨W.heap.size + 1, 1, none⟩ = some (.int .i64 z1) ∧ w'.cell? ⟨W.heap.size + 1, 2, none⟩ = some (.int .i64 z2) ∧ w'.cell? ⟨W.heap.size + 1, 3, none⟩ = some (.int .i64 z3) ∧ w'.cell? ⟨W.heap.size + 1, 4, none⟩ = some (.int .i64 z4)) (first | (simp [g0, g1, g2, g3, g4, g5, g6, g7, World.cell?_alloc_some, nr0]; done) | (simp [d0, d1, d2, d3, d4, d5, d6, d7, World.cell?_alloc_some, nr0, nr1]; done)) ((go_at_call 12; refine (Apply_bad m (some ⟨W.heap.size, 0, none⟩) A (some ⟨wr.heap.size, 0, none⟩) 3 c 2 [x0, x1, x2] [a0, a1, a2] [z0, z1] _ HO.out (by repeat (first | exact rd_mk3 d0 d1 d2 | refine rd_drewN ?_ _ | refine rd_drew ?_ | refine rd_alloc ?_ _)) (by repeat (first | exact HR.out | refine rd_drewN ?_ _ | refine rd_drew ?_ | refine rd_alloc ?_ _)) (by repeat (first | exact rd_at2 (by simp) | refine rd_drewN ?_ _ | refine rd_drew ?_))).mono ?_; rintro e w4 ⟨rfl, hb⟩; have B4 := Lib.hid (show Below ((W.alloc (.cells #[.int .i64 x0, .int .i64 x1, .int .i64 x2] 42)).alloc (.cells #[.int .i64 z0, .int .i64 z1, .int .i64 z2, .int .i64 z3, .int .i64 z4] 43)).heap.size ((W.alloc (.cells #[.int .i64 x0, .int .i64 x1, .int .i64 x2] 42)).alloc (.cells #[.int .i64 z0, .int .i64 z1, .int .i64 z2, .int .i64 z3, .int .i64 z4] 43)) w4 from bel_call (by repeat (first | exact HB.out | refine Below.drew ?_ | refine Below_drewN2 ?_ _ | refine Below.alloc ?_ (by first | omega | (simp; omega) | simp) _)) (by first | omega | (simp; omega) | simp) hb); obtain ⟨s4, g0, g1, g2, g3, g4, g5, g6, g7⟩ := range_cells B4.out; clear hb))
      go_wp2_with (go_at_call 14; refine (Mask_any _ _).mono ?_; rintro e w' ⟨rfl, rfl⟩)
      go_ret
      exact ⟨rfl, below_box2 B4.out⟩
set_option maxHeartbeats 4000000 in
set_option maxRecDepth 20000 in
theorem range_3_ok (op x0 x1 x2 z0 z1 z2 z3 z4 m a0 a1 a2 r v : Int) (W : World) (hop : 0 ≤ op) (hop1 : op ≤ 255) (em : op % 16 = m) (h0 : Hid (0 ≤ m)) (h1 : Hid (m ≤ 15)) (ha : Hid (ar m = 3)) (e0 : Go.bits .and .i64 z2 (mask x0) = a0) (e1 : Go.bits .and .i64 z3 (mask x1) = a1) (e2 : Go.bits .and .i64 z4 (mask x2) = a2) (HW : Hid (width m [x0, x1, x2] z0 z1 = r)) (r1 : 1 ≤ r) (r8 : r ≤ 8) (HO : Hid (okay m [x0, x1, x2] [a0, a1, a2] [z0, z1] = true)) (HV : Hid (val m [x0, x1, x2] [a0, a1, a2] z0 z1 = v)) (v0 : 0 ≤ v) (v1 : v ≤ mask r) :
    Calls Try.prog 4 #[.int .u8 op, .agg #[.int .i64 x0, .int .i64 x1, .int .i64 x2], .agg #[.int .i64 z0, .int .i64 z1, .int .i64 z2, .int .i64 z3, .int .i64 z4]] W fun e W' => e = .returned (.bool true) ∧ Below W.heap.size W W' := by
  obtain ⟨i0, hi0, hz0, hz1, hz2⟩ := info_parts infoI
  have em2 : op.tmod 16 = m := (Int.tmod_eq_emod_of_nonneg hop).trans em
  have em3 : IntKind.i64.wrap m = m := IntWalk.i64_in _ (by have := h0.out; have := h1.out; omega)
  go_enter Try.func4, Try.ntmps4
  go_wp2_with fail
  refine (examples_any _).mono ?_
  rintro e w1 ⟨rfl, hb⟩
  have B1 := Lib.hid (show Below ((W.alloc (.cells #[.int .i64 x0, .int .i64 x1, .int .i64 x2] 42)).alloc (.cells #[.int .i64 z0, .int .i64 z1, .int .i64 z2, .int .i64 z3, .int .i64 z4] 43)).heap.size ((W.alloc (.cells #[.int .i64 x0, .int .i64 x1, .int .i64 x2] 42)).alloc (.cells #[.int .i64 z0, .int .i64 z1, .int .i64 z2, .int .i64 z3, .int .i64 z4] 43)) w1 from hb)
  obtain ⟨s1, b0, b1, b2, b3, b4, b5, b6, b7⟩ := range_cells B1.out
  have n10 : w1.heap.size ≠ W.heap.size := by omega
  have n11 : w1.heap.size ≠ W.heap.size + 1 := by omega
  clear hb
  go_wp2_with fail
  refine (Arity_is h0.out h1.out ha.out _).mono ?_
  rintro e w' ⟨rfl, rfl⟩
  go_wp2
  go_region_held3 (fun w' => w'.cell? ⟨W.heap.size, 0, none⟩ = some (.int .i64 x0) ∧ w'.cell? ⟨W.heap.size, 1, none⟩ = some (.int .i64 x1) ∧ w'.cell? ⟨W.heap.size, 2, none⟩ = some (.int .i64 x2) ∧ w'.cell? ⟨W.heap.size + 1, 0, none⟩ = some (.int .i64 z0) ∧ w'.cell? ⟨W.heap.size + 1, 1, none⟩ = some (.int .i64 z1) ∧ w'.cell? ⟨W.heap.size + 1, 2, none⟩ = some (.int .i64 z2) ∧ w'.cell? ⟨W.heap.size + 1, 3, none⟩ = some (.int .i64 z3) ∧ w'.cell? ⟨W.heap.size + 1, 4, none⟩ = some (.int .i64 z4)) (first | (simp [c0, c1, c2, c3, c4, c5, c6, c7, World.cell?_alloc_some, n10]; done) | (simp [b0, b1, b2, b3, b4, b5, b6, b7, World.cell?_alloc_some, n10]; done)) ((go_at_call 10; refine (Width_ok m _ 3 [x0, x1, x2] z0 z1 r _ HW.out r1 (by repeat (first | exact rd_mk3 b0 b1 b2 | refine rd_drewN ?_ _ | refine rd_drew ?_ | refine rd_alloc ?_ _))).mono ?_; rintro e w2 ⟨rfl, hb⟩; have B2 := Lib.hid (show Below ((W.alloc (.cells #[.int .i64 x0, .int .i64 x1, .int .i64 x2] 42)).alloc (.cells #[.int .i64 z0, .int .i64 z1, .int .i64 z2, .int .i64 z3, .int .i64 z4] 43)).heap.size ((W.alloc (.cells #[.int .i64 x0, .int .i64 x1, .int .i64 x2] 42)).alloc (.cells #[.int .i64 z0, .int .i64 z1, .int .i64 z2, .int .i64 z3, .int .i64 z4] 43)) w2 from bel_call (by repeat (first | exact B1.out | refine Below.drew ?_ | refine Below_drewN2 ?_ _ | refine Below.alloc ?_ (by first | omega | (simp; omega) | simp) _)) (by first | omega | (simp; omega) | simp) hb); obtain ⟨s2, c0, c1, c2, c3, c4, c5, c6, c7⟩ := range_cells B2.out; clear hb))
  go_wp2
  go_loopw [13, 14] (RgRel (W.heap.size + 2) ((W.alloc (.cells #[.int .i64 x0, .int .i64 x1, .int .i64 x2] 42)).alloc (.cells #[.int .i64 z0, .int .i64 z1, .int .i64 z2, .int .i64 z3, .int .i64 z4] 43)) [a0, a1, a2]) (fun _ i _ => 3 - (intOf i).toNat)
  case atStart => exact ⟨B2.out.alloc (by have := B2.out.size; simpa using this) _, 0, 0, Nat.zero_le _, rfl, rfl, ⟨rfl, .inr ⟨_, 0, #[], rfl, by omega, map_new _ _, Nat.le_refl _, Nat.zero_le _, rfl, rfl⟩⟩⟩
  case round =>
    obtain ⟨hb, k, j, hk, hj, rfl, ho⟩ := hrel
    have HB := Lib.hid hb
    obtain ⟨sr, d0, d1, d2, d3, d4, d5, d6, d7⟩ := range_cells HB.out
    have nr0 : wr.heap.size ≠ W.heap.size := by omega
    have nr1 : wr.heap.size ≠ W.heap.size + 1 := by omega
    clear hb b0 b1 b2 b3 b4 b5 b6 b7 c0 c1 c2 c3 c4 c5 c6 c7
    have hc : k = 0 ∨ k = 1 ∨ k = 2 ∨ k = 3 := by simp at hk; omega
    rcases hc with rfl | rfl | rfl | rfl
    · obtain rfl : j = 0 := hj
      have HOW := Lib.hid (show wr.ownsRow (W.heap.size + 2) 3 1 u13 0 [] from ho)
      clear ho hk
      have ew2 : IntKind.i64.wrap 2 = 2 := rfl
      have ew3 : IntKind.i64.wrap (2 + 0) = 2 := rfl
      go_wp2
      go_region_held3 (fun w' => w'.cell? ⟨W.heap.size, 0, none⟩ = some (.int .i64 x0) ∧ w'.cell? ⟨W.heap.size, 1, none⟩ = some (.int .i64 x1) ∧ w'.cell? ⟨W.heap.size, 2, none⟩ = some (.int .i64 x2) ∧ w'.cell? ⟨W.heap.size + 1, 0, none⟩ = some (.int .i64 z0) ∧ w'.cell? ⟨W.heap.size + 1, 1, none⟩ = some (.int .i64 z1) ∧ w'.cell? ⟨W.heap.size + 1, 2, none⟩ = some (.int .i64 z2) ∧ w'.cell? ⟨W.heap.size + 1, 3, none⟩ = some (.int .i64 z3) ∧ w'.cell? ⟨W.heap.size + 1, 4, none⟩ = some (.int .i64 z4)) (first | (simp [f0, f1, f2, f3, f4, f5, f6, f7, World.cell?_alloc_some, nr0]; done) | (simp [d0, d1, d2, d3, d4, d5, d6, d7, World.cell?_alloc_some, nr0, nr1]; done)) (first | (go_at_call 14; refine (Mask_any _ _).mono ?_; rintro e w' ⟨rfl, rfl⟩) | (refine step_append_lies _ (by rfl) _ _ _ (by rfl) (W.heap.size + 2) 3 i0 _ 1 8 Try.underlying22 hi0 hz0 hz1 hz2 rfl (by omega) u13 0 [] (by rfl) (by first | exact (HOW.out.alloc _).drew | exact HOW.out.alloc _) ⟨wr.heap.size, 0, none⟩ 1 1 [.int .i64 a0] (by rfl) (by rfl) (cell_one_new _ _ _) (by simp [Value.oneCell']) (by omega) (by unfold maxLen; omega) (by omega) (by simp; omega) (wr.heap.size + 1) (by simp) ?_; intro gg cap w3 hown1 hgrow hat hlt; have HN := Lib.hid hown1; have B3 := Lib.hid (show Below ((W.alloc (.cells #[.int .i64 x0, .int .i64 x1, .int .i64 x2] 42)).alloc (.cells #[.int .i64 z0, .int .i64 z1, .int .i64 z2, .int .i64 z3, .int .i64 z4] 43)).heap.size ((W.alloc (.cells #[.int .i64 x0, .int .i64 x1, .int .i64 x2] 42)).alloc (.cells #[.int .i64 z0, .int .i64 z1, .int .i64 z2, .int .i64 z3, .int .i64 z4] 43)) w3 from rg_grown (by repeat (first | exact HB.out | refine Below.drew ?_ | refine Below_drewN2 ?_ _ | refine Below.alloc ?_ (by first | omega | (simp; omega) | simp) _)) hgrow (by simp; omega) (fun j e => by have := own_ge HOW.out j e; simp; omega)); obtain ⟨s3, f0, f1, f2, f3, f4, f5, f6, f7⟩ := range_cells B3.out; clear hown1 hgrow hat hlt))
      go_wp2
      exact ⟨⟨B3.out, 1, 1, by simp, rfl, by go_num, HN.out⟩, by simp [intOf]⟩
    · obtain rfl : j = 1 := hj
      have HOW := Lib.hid (show wr.ownsRow (W.heap.size + 2) 3 1 u13 1 [.int .i64 a0] from ho)
      clear ho hk
      have ew2 : IntKind.i64.wrap 3 = 3 := rfl
      have ew3 : IntKind.i64.wrap (2 + 1) = 3 := rfl
      go_wp2
      go_region_held3 (fun w' => w'.cell? ⟨W.heap.size, 0, none⟩ = some (.int .i64 x0) ∧ w'.cell? ⟨W.heap.size, 1, none⟩ = some (.int .i64 x1) ∧ w'.cell? ⟨W.heap.size, 2, none⟩ = some (.int .i64 x2) ∧ w'.cell? ⟨W.heap.size + 1, 0, none⟩ = some (.int .i64 z0) ∧ w'.cell? ⟨W.heap.size + 1, 1, none⟩ = some (.int .i64 z1) ∧ w'.cell? ⟨W.heap.size + 1, 2, none⟩ = some (.int .i64 z2) ∧ w'.cell? ⟨W.heap.size + 1, 3, none⟩ = some (.int .i64 z3) ∧ w'.cell? ⟨W.heap.size + 1, 4, none⟩ = some (.int .i64 z4)) (first | (simp [f0, f1, f2, f3, f4, f5, f6, f7, World.cell?_alloc_some, nr0]; done) | (simp [d0, d1, d2, d3, d4, d5, d6, d7, World.cell?_alloc_some, nr0, nr1]; done)) (first | (go_at_call 14; refine (Mask_any _ _).mono ?_; rintro e w' ⟨rfl, rfl⟩) | (refine step_append_lies _ (by rfl) _ _ _ (by rfl) (W.heap.size + 2) 3 i0 _ 1 8 Try.underlying22 hi0 hz0 hz1 hz2 rfl (by omega) u13 1 [.int .i64 a0] (by rfl) (by first | exact (HOW.out.alloc _).drew | exact HOW.out.alloc _) ⟨wr.heap.size, 0, none⟩ 1 1 [.int .i64 a1] (by rfl) (by rfl) (cell_one_new _ _ _) (by simp [Value.oneCell']) (by omega) (by unfold maxLen; omega) (by omega) (by simp; omega) (wr.heap.size + 1) (by simp) ?_; intro gg cap w3 hown1 hgrow hat hlt; have HN := Lib.hid hown1; have B3 := Lib.hid (show Below ((W.alloc (.cells #[.int .i64 x0, .int .i64 x1, .int .i64 x2] 42)).alloc (.cells #[.int .i64 z0, .int .i64 z1, .int .i64 z2, .int .i64 z3, .int .i64 z4] 43)).heap.size ((W.alloc (.cells #[.int .i64 x0, .int .i64 x1, .int .i64 x2] 42)).alloc (.cells #[.int .i64 z0, .int .i64 z1, .int .i64 z2, .int .i64 z3, .int .i64 z4] 43)) w3 from rg_grown (by repeat (first | exact HB.out | refine Below.drew ?_ | refine Below_drewN2 ?_ _ | refine Below.alloc ?_ (by first | omega | (simp; omega) | simp) _)) hgrow (by simp; omega) (fun j e => by have := own_ge HOW.out j e; simp; omega)); obtain ⟨s3, f0, f1, f2, f3, f4, f5, f6, f7⟩ := range_cells B3.out; clear hown1 hgrow hat hlt))
      go_wp2
      exact ⟨⟨B3.out, 2, 2, by simp, rfl, by go_num, HN.out⟩, by simp [intOf]⟩
    · obtain rfl : j = 2 := hj
      have HOW := Lib.hid (show wr.ownsRow (W.heap.size + 2) 3 1 u13 2 [.int .i64 a0, .int .i64 a1] from ho)
      clear ho hk
      have ew2 : IntKind.i64.wrap 4 = 4 := rfl
      have ew3 : IntKind.i64.wrap (2 + 2) = 4 := rfl
      go_wp2
      go_region_held3 (fun w' => w'.cell? ⟨W.heap.size, 0, none⟩ = some (.int .i64 x0) ∧ w'.cell? ⟨W.heap.size, 1, none⟩ = some (.int .i64 x1) ∧ w'.cell? ⟨W.heap.size, 2, none⟩ = some (.int .i64 x2) ∧ w'.cell? ⟨W.heap.size + 1, 0, none⟩ = some (.int .i64 z0) ∧ w'.cell? ⟨W.heap.size + 1, 1, none⟩ = some (.int .i64 z1) ∧ w'.cell? ⟨W.heap.size + 1, 2, none⟩ = some (.int .i64 z2) ∧ w'.cell? ⟨W.heap.size + 1, 3, none⟩ = some (.int .i64 z3) ∧ w'.cell? ⟨W.heap.size + 1, 4, none⟩ = some (.int .i64 z4)) (first | (simp [f0, f1, f2, f3, f4, f5, f6, f7, World.cell?_alloc_some, nr0]; done) | (simp [d0, d1, d2, d3, d4, d5, d6, d7, World.cell?_alloc_some, nr0, nr1]; done)) (first | (go_at_call 14; refine (Mask_any _ _).mono ?_; rintro e w' ⟨rfl, rfl⟩) | (refine step_append_lies _ (by rfl) _ _ _ (by rfl) (W.heap.size + 2) 3 i0 _ 1 8 Try.underlying22 hi0 hz0 hz1 hz2 rfl (by omega) u13 2 [.int .i64 a0, .int .i64 a1] (by rfl) (by first | exact (HOW.out.alloc _).drew | exact HOW.out.alloc _) ⟨wr.heap.size, 0, none⟩ 1 1 [.int .i64 a2] (by rfl) (by rfl) (cell_one_new _ _ _) (by simp [Value.oneCell']) (by omega) (by unfold maxLen; omega) (by omega) (by simp; omega) (wr.heap.size + 1) (by simp) ?_; intro gg cap w3 hown1 hgrow hat hlt; have HN := Lib.hid hown1; have B3 := Lib.hid (show Below ((W.alloc (.cells #[.int .i64 x0, .int .i64 x1, .int .i64 x2] 42)).alloc (.cells #[.int .i64 z0, .int .i64 z1, .int .i64 z2, .int .i64 z3, .int .i64 z4] 43)).heap.size ((W.alloc (.cells #[.int .i64 x0, .int .i64 x1, .int .i64 x2] 42)).alloc (.cells #[.int .i64 z0, .int .i64 z1, .int .i64 z2, .int .i64 z3, .int .i64 z4] 43)) w3 from rg_grown (by repeat (first | exact HB.out | refine Below.drew ?_ | refine Below_drewN2 ?_ _ | refine Below.alloc ?_ (by first | omega | (simp; omega) | simp) _)) hgrow (by simp; omega) (fun j e => by have := own_ge HOW.out j e; simp; omega)); obtain ⟨s3, f0, f1, f2, f3, f4, f5, f6, f7⟩ := range_cells B3.out; clear hown1 hgrow hat hlt))
      go_wp2
      exact ⟨⟨B3.out, 3, 3, by simp, rfl, by go_num, HN.out⟩, by simp [intOf]⟩
    · obtain rfl : j = 3 := hj
      have HOW := Lib.hid (show wr.ownsRow (W.heap.size + 2) 3 1 u13 3 [.int .i64 a0, .int .i64 a1, .int .i64 a2] from ho)
      clear ho hk
      have hrd : ∃ A c, u13 = .slice A 3 c ∧ Rd wr A [a0, a1, a2] ∧ 3 ≤ c := rd_own (xs := [a0, a1, a2]) rfl HOW.out
      obtain ⟨A, c, rfl, hrd, _⟩ := hrd
      have HR := Lib.hid hrd
      clear hrd
      go_wp2
      go_region_held3 (fun w' => w'.cell? ⟨W.heap.size, 0, none⟩ = some (.int .i64 x0) ∧ w'.cell? ⟨W.heap.size, 1, none⟩ = some (.int .i64 x1) ∧ w'.cell? ⟨W.heap.size, 2, none⟩ = some (.int .i64 x2) ∧ w'.cell? ⟨W.heap.size + 1, 0, none⟩ = some (.int .i64 z0) ∧ w'.cell? ⟨W.heap.size + 1, 1, none⟩ = some (.int .i64 z1) ∧ w'.cell? ⟨W.heap.size + 1, 2, none⟩ = some (.int .i64 z2) ∧ w'.cell? ⟨W.heap.size + 1, 3, none⟩ = some (.int .i64 z3) ∧ w'.cell? ⟨W.heap.size + 1, 4, none⟩ = some (.int .i64 z4)) (first | (simp [g0, g1, g2, g3, g4, g5, g6, g7, World.cell?_alloc_some, nr0]; done) | (simp [d0, d1, d2, d3, d4, d5, d6, d7, World.cell?_alloc_some, nr0, nr1]; done)) ((go_at_call 12; refine (Apply_val m (some ⟨W.heap.size, 0, none⟩) A (some ⟨wr.heap.size, 0, none⟩) 3 c 2 [x0, x1, x2] [a0, a1, a2] [z0, z1] v _ HO.out HV.out (by repeat (first | exact rd_mk3 d0 d1 d2 | refine rd_drewN ?_ _ | refine rd_drew ?_ | refine rd_alloc ?_ _)) (by repeat (first | exact HR.out | refine rd_drewN ?_ _ | refine rd_drew ?_ | refine rd_alloc ?_ _)) (by repeat (first | exact rd_at2 (by simp) | refine rd_drewN ?_ _ | refine rd_drew ?_))).mono ?_; rintro e w4 ⟨rfl, hb⟩; have B4 := Lib.hid (show Below ((W.alloc (.cells #[.int .i64 x0, .int .i64 x1, .int .i64 x2] 42)).alloc (.cells #[.int .i64 z0, .int .i64 z1, .int .i64 z2, .int .i64 z3, .int .i64 z4] 43)).heap.size ((W.alloc (.cells #[.int .i64 x0, .int .i64 x1, .int .i64 x2] 42)).alloc (.cells #[.int .i64 z0, .int .i64 z1, .int .i64 z2, .int .i64 z3, .int .i64 z4] 43)) w4 from bel_call (by repeat (first | exact HB.out | refine Below.drew ?_ | refine Below_drewN2 ?_ _ | refine Below.alloc ?_ (by first | omega | (simp; omega) | simp) _)) (by first | omega | (simp; omega) | simp) hb); obtain ⟨s4, g0, g1, g2, g3, g4, g5, g6, g7⟩ := range_cells B4.out; clear hb))
      go_wp2_with (go_at_call 14; refine (Mask_any _ _).mono ?_; rintro e w' ⟨rfl, rfl⟩)
      go_ret
      exact ⟨rfl, below_box2 B4.out⟩
theorem range_law (op x0 x1 x2 z0 z1 z2 z3 z4 : Int) (hop : 0 ≤ op ∧ op ≤ 255) (W : World) :
    Calls Try.prog 4 #[.int .u8 op, .agg #[.int .i64 x0, .int .i64 x1, .int .i64 x2], .agg #[.int .i64 z0, .int .i64 z1, .int .i64 z2, .int .i64 z3, .int .i64 z4]] W fun e W' => e = .returned (.bool true) ∧ Below W.heap.size W W' := by
  obtain ⟨m, em⟩ : ∃ m, op % 16 = m := ⟨_, rfl⟩
  have h0 : 0 ≤ m := by omega
  have h1 : m ≤ 15 := by omega
  rcases ar_cases m with ha | ha | ha | ha | ha
  · exact range_neg op x0 x1 x2 z0 z1 z2 z3 z4 m W hop.1 hop.2 em h0 h1 ha
  · by_cases hw : width m [] z0 z1 = 0
    · exact range_0_bad op x0 x1 x2 z0 z1 z2 z3 z4 m W hop.1 hop.2 em h0 h1 ha hw
    · have hf := fit_all hw
      have hi : within [] [] 0 = true := rfl
      have hr := fit_iff.1 (width_pos hw)
      have hv := val_range (vs := []) hw rfl hi
      exact range_0_ok op x0 x1 x2 z0 z1 z2 z3 z4 m _ _ W hop.1 hop.2 em h0 h1 ha rfl hr.1 hr.2 (okay_all hw rfl hi) rfl hv.1 hv.2
  · by_cases hw : width m [x0] z0 z1 = 0
    · exact range_1_bad op x0 x1 x2 z0 z1 z2 z3 z4 m _ W hop.1 hop.2 em h0 h1 ha rfl hw
    · have hf := fit_all hw
      have f0 : fit x0 = true := hf 0 (by simp)
      have r0 := and_any z2 (m := mask x0) (by have := mask_le f0; omega) (mask_le f0).2
      have hi : within [Go.bits .and .i64 z2 (mask x0)] [x0] 1 = true := within1 r0
      have hr := fit_iff.1 (width_pos hw)
      have hv := val_range (vs := [Go.bits .and .i64 z2 (mask x0)]) hw rfl hi
      exact range_1_ok op x0 x1 x2 z0 z1 z2 z3 z4 m _ _ _ W hop.1 hop.2 em h0 h1 ha rfl rfl hr.1 hr.2 (okay_all hw rfl hi) rfl hv.1 hv.2
  · by_cases hw : width m [x0, x1] z0 z1 = 0
    · exact range_2_bad op x0 x1 x2 z0 z1 z2 z3 z4 m _ _ W hop.1 hop.2 em h0 h1 ha rfl rfl hw
    · have hf := fit_all hw
      have f0 : fit x0 = true := hf 0 (by simp)
      have r0 := and_any z2 (m := mask x0) (by have := mask_le f0; omega) (mask_le f0).2
      have f1 : fit x1 = true := hf 1 (by simp)
      have r1 := and_any z3 (m := mask x1) (by have := mask_le f1; omega) (mask_le f1).2
      have hi : within [Go.bits .and .i64 z2 (mask x0), Go.bits .and .i64 z3 (mask x1)] [x0, x1] 2 = true := within2 r0 r1
      have hr := fit_iff.1 (width_pos hw)
      have hv := val_range (vs := [Go.bits .and .i64 z2 (mask x0), Go.bits .and .i64 z3 (mask x1)]) hw rfl hi
      exact range_2_ok op x0 x1 x2 z0 z1 z2 z3 z4 m _ _ _ _ W hop.1 hop.2 em h0 h1 ha rfl rfl rfl hr.1 hr.2 (okay_all hw rfl hi) rfl hv.1 hv.2
  · by_cases hw : width m [x0, x1, x2] z0 z1 = 0
    · exact range_3_bad op x0 x1 x2 z0 z1 z2 z3 z4 m _ _ _ W hop.1 hop.2 em h0 h1 ha rfl rfl rfl hw
    · have hf := fit_all hw
      have f0 : fit x0 = true := hf 0 (by simp)
      have r0 := and_any z2 (m := mask x0) (by have := mask_le f0; omega) (mask_le f0).2
      have f1 : fit x1 = true := hf 1 (by simp)
      have r1 := and_any z3 (m := mask x1) (by have := mask_le f1; omega) (mask_le f1).2
      have f2 : fit x2 = true := hf 2 (by simp)
      have r2 := and_any z4 (m := mask x2) (by have := mask_le f2; omega) (mask_le f2).2
      have hi : within [Go.bits .and .i64 z2 (mask x0), Go.bits .and .i64 z3 (mask x1), Go.bits .and .i64 z4 (mask x2)] [x0, x1, x2] 3 = true := within3 r0 r1 r2
      have hr := fit_iff.1 (width_pos hw)
      have hv := val_range (vs := [Go.bits .and .i64 z2 (mask x0), Go.bits .and .i64 z3 (mask x1), Go.bits .and .i64 z4 (mask x2)]) hw rfl hi
      exact range_3_ok op x0 x1 x2 z0 z1 z2 z3 z4 m _ _ _ _ _ W hop.1 hop.2 em h0 h1 ha rfl rfl rfl rfl hr.1 hr.2 (okay_all hw rfl hi) rfl hv.1 hv.2
end Bt
end Go.Proofs.Ytpblhbagjmnmpaa
