/- The argument of BitsMatchesReference, opened: its numbers, and its slices' cells as lists. Conditions: the argument is well formed. -/
import Derived.Test.YtpblhbagjmnmpaaBtQ
import Derived.Deep.Grids
import Derived.OpenShut
import Derived.WalkArith
import Derived.Lib.SmallJoins
set_option linter.unusedVariables false
set_option linter.unusedSimpArgs false
namespace Go.Proofs.Ytpblhbagjmnmpaa
open Go Go.RowKit Go.ChangeShapes Go.WideShapes Go.Deep
namespace Bt

section
variable {H : Type} {enc : TypeId × Value → H} {w : World} {base : Nat} {held : Bool}
theorem odd_int {n : Nat} {cs : List Value} {y : DataW H × List MemPlace} (h : DataW.trod enc Try.prog w base (fun _ => true) held n 3 cs = some y) : ∃ a : Int, cs = [.int .i64 a] ∧ -9223372036854775808 ≤ a ∧ a ≤ 9223372036854775807 := by
  obtain ⟨a, rfl, _, hw⟩ := DataW.trod_int Try.underlying3 h
  have := bounds_i64 hw
  exact ⟨a, rfl, by omega, by omega⟩
theorem odd_none {w : World} {b : Addr} {v : Value} (h : w.cell? (b.add 0) = some v) : b.spot = none := by
  have e : b.add 0 = b := by simp [Addr.add]
  rw [e] at h
  unfold World.cell? at h
  cases hq : b.spot with
  | none => rfl
  | some q => rw [hq] at h; split at h <;> simp at h
theorem odd_add (b o j : Nat) : (⟨b, o, none⟩ : Addr).add j = ⟨b, o + j, none⟩ := by
  unfold Addr.add
  split
  · rename_i h; subst h; rfl
  · rfl
theorem odd_ints {n : Nat} {cs : List Value} {y : DataW H × List MemPlace} (h : DataW.trod enc Try.prog w base (fun _ => true) held n 22 cs = some y) :
    ∃ (A : Option Addr) (c : Nat) (ws : List Int), cs = [.slice A ws.length c] ∧ ws.length ≤ c ∧ Rd w A ws := by
  rcases open_ints Try.underlying22 Try.underlying3 (by kernel_rfl) h with ⟨rfl, _⟩ | ⟨a, l, c, zs, rfl, _, hl, hm, hz, _, hcell, _⟩
  · exact ⟨none, 0, [], rfl, Nat.le_refl _, ⟨by simp, fun h => absurd h (by simp)⟩⟩
  · simp only [if_true] at hz
    unfold maxLen at hm
    refine ⟨some a, c, zs.take l, by simp [hz, Nat.min_eq_left hl], by simp; omega, by simp; omega, fun h0 => ?_⟩
    have hlen : (zs.take l).length = l := by simp [hz, Nat.min_eq_left hl]
    rw [hlen] at h0 ⊢
    have e := odd_none (hcell 0 (by omega))
    obtain ⟨b, o, q⟩ := a
    obtain rfl : q = none := e
    refine ⟨b, o, rfl, fun j hj => ?_⟩
    have := hcell j (by omega)
    rw [odd_add] at this
    rw [show (zs.take l).getD j 0 = zs.getD j 0 by simp [List.getD_eq_getElem?_getD, List.getElem?_take, hj]]
    exact this
theorem odd_bools {n : Nat} {cs : List Value} {y : DataW H × List MemPlace} (h : DataW.trod enc Try.prog w base (fun _ => true) held n 24 cs = some y) :
    ∃ (A : Option Addr) (c : Nat) (bs : List Bool), cs = [.slice A bs.length c] ∧ bs.length ≤ c ∧ RdB w A bs := by
  rcases open_bools Try.underlying24 Try.underlying4 (by kernel_rfl) h with ⟨rfl, _⟩ | ⟨a, l, c, B, rfl, _, hl, hm, _, hcell⟩
  · exact ⟨none, 0, [], rfl, Nat.le_refl _, ⟨by simp, fun h => absurd h (by simp)⟩⟩
  · unfold maxLen at hm
    refine ⟨some a, c, (List.range l).map B, by simp, by simpa using hl, by simp; omega, fun h0 => ?_⟩
    have hlen : ((List.range l).map B).length = l := by simp
    rw [hlen] at h0 ⊢
    have e := odd_none (hcell 0 (by omega))
    obtain ⟨b, o, q⟩ := a
    obtain rfl : q = none := e
    refine ⟨b, o, rfl, fun j hj => ?_⟩
    have := hcell j (by omega)
    rw [odd_add] at this
    rw [show ((List.range l).map B).getD j false = B j by simp [List.getD_eq_getElem?_getD, List.getElem?_range hj]]
    exact this
theorem odd_pair {n : Nat} {cs : List Value} {y : DataW H × List MemPlace} (h : DataW.trod enc Try.prog w base (fun _ => true) held n 23 cs = some y) : ∃ a b : Int, cs = [.int .i64 a, .int .i64 b] := by
  obtain ⟨xs, m, _, _, hl, _, hg⟩ := DataW.trod_array Try.underlying23 h
  have k1 : Try.prog.cellsOf 3 = 1 := by kernel_rfl
  have k2 : Try.prog.cellsOf 23 = 2 := by kernel_rfl
  rw [k2] at hl
  match cs, hl with
  | [c0, c1], _ =>
    have g0 := hg 0 (by omega)
    have g1 := hg 1 (by omega)
    rw [k1] at g0 g1
    simp at g0 g1
    have x0 : xs[0]? = some (xs[0]'(by omega)) := List.getElem?_eq_getElem _
    have x1 : xs[1]? = some (xs[1]'(by omega)) := List.getElem?_eq_getElem _
    obtain ⟨a, e0, _⟩ := odd_int (g0.trans x0)
    obtain ⟨b, e1, _⟩ := odd_int (g1.trans x1)
    simp at e0 e1
    exact ⟨a, b, by rw [e0, e1]⟩
theorem open_odd {r : Reach} {b0 : Nat} {v : Value} {d : DataW H} {p : List MemPlace} (hv : Value.okWide Try.prog w r b0 26 v) (h : DataW.Trod enc Try.prog w base (fun _ => true) held 26 v d p) :
    ∃ (op x y k n : Int) (A B C L : Option Addr) (c cb cn cl : Nat) (ws vs num : List Int) (bs : List Bool),
      v = .agg #[.int .i64 op, .int .i64 x, .int .i64 y, .slice A ws.length c, .slice B vs.length cb, .slice C num.length cn, .int .i64 k, .int .i64 n, .slice L bs.length cl] ∧
      Rd w A ws ∧ Rd w B vs ∧ Rd w C num ∧ RdB w L bs ∧ bs.length ≤ cl ∧ -9223372036854775808 ≤ x ∧ x ≤ 9223372036854775807 := by
  obtain ⟨cs, rfl, hsz⟩ := okWide_struct Try.underlying26 hv
  obtain ⟨fuel, hf⟩ := h
  obtain ⟨xs, m, _, _, hl, hx, hg⟩ := DataW.trod_struct Try.underlying26 hf
  have k1 : Try.prog.cellsOf 3 = 1 := by kernel_rfl
  have k2 : Try.prog.cellsOf 23 = 2 := by kernel_rfl
  have k3 : Try.prog.cellsOf 22 = 1 := by kernel_rfl
  have k4 : Try.prog.cellsOf 24 = 1 := by kernel_rfl
  have k5 : Try.prog.cellsOf 26 = 9 := by kernel_rfl
  rw [k5] at hsz
  obtain ⟨l⟩ := cs
  match l, hsz with
  | [c0, c1, c2, c3, c4, c5, c6, c7, c8], _ =>
    simp at hx
    have g := fun i f hi => (hg i f hi).trans (List.getElem?_eq_getElem (l := xs) (i := i) (by have := (Array.getElem?_eq_some_iff.1 hi).1; simp at this; omega))
    have g0 := g 0 _ rfl
    have g1 := g 1 _ rfl
    have g2 := g 2 _ rfl
    have g3 := g 3 _ rfl
    have g4 := g 4 _ rfl
    have g5 := g 5 _ rfl
    have g6 := g 6 _ rfl
    have g7 := g 7 _ rfl
    simp only [k1, k2, k3, k4, Value.cells] at g0 g1 g2 g3 g4 g5 g6 g7
    obtain ⟨op, e0, _⟩ := odd_int (cs := [c0]) g0
    obtain ⟨x, e1, hx1⟩ := odd_int (cs := [c1]) g1
    obtain ⟨y, e2, _⟩ := odd_int (cs := [c2]) g2
    obtain ⟨A, c, ws, e3, _, hr⟩ := odd_ints (cs := [c3]) g3
    obtain ⟨B, cb, vs, e4, _, hs⟩ := odd_ints (cs := [c4]) g4
    obtain ⟨C, cn, num, e5, _, hn⟩ := odd_ints (cs := [c5]) g5
    obtain ⟨k, n, e6⟩ := odd_pair (cs := [c6, c7]) g6
    obtain ⟨L, cl, bs, e7, hcl, hb⟩ := odd_bools (cs := [c8]) g7
    simp only [List.cons.injEq, and_true] at e0 e1 e2 e3 e4 e5 e6 e7
    obtain ⟨rfl, rfl⟩ := e6
    subst e0 e1 e2 e3 e4 e5 e7
    exact ⟨op, x, y, k, n, A, B, C, L, c, cb, cn, cl, ws, vs, num, bs, rfl, hr, hs, hn, hb, hcl, hx1⟩
end
end Bt
end Go.Proofs.Ytpblhbagjmnmpaa
