/- Contract of Split, which loops over an iterator. Conditions: none but the kinds' ranges. -/
import Derived.Test.YtpblhbagjmnmpaaBtO
import Derived.Test.YtpblhbagjmnmpaaBtN
import Derived.RangeFuncBox
import Derived.RangeFuncLeaves
import Derived.RangeFuncCalls
import Derived.Shelf.Abstract
import Derived.OwnWalkIn
import Derived.TacticsIn
import Derived.TacticsInMore
import Derived.RegionIn
import Derived.LoopNIn
import Derived.LoopIn
import Derived.OneCell
set_option linter.unusedVariables false
set_option linter.unusedSimpArgs false
namespace Go.Proofs.Ytpblhbagjmnmpaa
open Go Go.RowKit
namespace Bt
attribute [local go_sem] Oper.semAt_some

def boxInt (wr : World) (B : Nat) : Nat := match wr.cell? ⟨B, 0, none⟩ with
  | some (.int _ m) => m.toNat
  | _ => 0
theorem boxInt_of {wr : World} {B : Nat} {k : IntKind} {m : Int} (h : wr.cell? ⟨B, 0, none⟩ = some (.int k m)) : boxInt wr B = m.toNat := by unfold boxInt; rw [h]

set_option maxRecDepth 100000 in
set_option maxHeartbeats 1000000 in
theorem each1_in (F : Fence) (n : Nat) (hf : F.fn 39) (hro : F.round = none) (hn : 1 ≤ n) (l Bw Bv : Nat) (hne : Bw ≠ Bv) (v : Int) (w : Nat) (hw : w ≤ 62) (hv : -9223372036854775808 ≤ v ∧ v ≤ 9223372036854775807)
    (J : List Bool → World → Prop) (hJ : ∀ s W1 (b : Nat) (x : Value), (b = Bw ∨ b = Bv) → J s W1 → J s (W1.setCell ⟨b, 0, none⟩ x))
    (hY : ∀ pre x W1, J pre W1 → pre.length < w → YieldAt F (n - 1) Try.prog l #[.bool x] W1 fun e W' => e = .returned (.bool true) ∧ J (pre ++ [x]) W' ∧ KeepsB (fun b => b = Bw ∨ b = Bv) W1 W')
    (W : World) (hw0 : W.heap[Bw]? = some (.cells #[.int .i64 w] 3 (0, 0))) (hv0 : W.heap[Bv]? = some (.cells #[.int .i64 v] 3 (0, 0))) (h0 : J [] W) :
    CallsIn F n Try.prog 39 #[.func (.yield l) #[] #[], .pointer (some ⟨Bw, 0, none⟩), .pointer (some ⟨Bv, 0, none⟩)] W fun e W' => (∃ u, e = .returned u) ∧ ∃ xs, xs = low v w ∧ J xs W' := by
  refine callsIn_of_wp Try.func39 rfl hf ?_ hro
  simp only [Try.ntmps39, List.size_toArray, List.length_cons, List.length_nil, Nat.reduceAdd, Nat.reduceSub, Array.replicate_succ, Array.replicate_zero, List.push_toArray, List.append_toArray, List.nil_append, List.cons_append]
  gi_wp2
  gi_loopw [] (fun wr => ∃ k : Nat, k ≤ w ∧ wr.heap[Bw]? = some (.cells #[.int .i64 ((w : Int) - k)] 3 (0, 0)) ∧ wr.heap[Bv]? = some (.cells #[.int .i64 (v / 2 ^ k)] 3 (0, 0)) ∧ J (low v k) wr)
    (fun wr => boxInt wr Bw)
  case atStart => exact ⟨0, Nat.zero_le _, by simpa using hw0, by simpa using hv0, h0⟩
  case round =>
    obtain ⟨k, hk, hcw, hcv, hj⟩ := hrel
    have c1 := cell_of_one hcw
    have c2 := cell_of_one hcv
    by_cases hlt : k < w
    · obtain ⟨fn, tmps, assign, body, hy, hR⟩ := hY (low v k) (Go.bits .and .i64 (v / 2 ^ k) 1 == 1) wr hj (by rw [low_length]; exact hlt)
      have d1 : decide ((0 : Int) < (w : Int) - k) = true := decide_eq_true (by omega)
      gi_wp2
      refine hR.mono ?_
      rintro e W3 ⟨rfl, hj3, hk3⟩
      have e3w := (hk3 Bw (Or.inl rfl)).trans hcw
      have e3v := (hk3 Bv (Or.inr rfl)).trans hcv
      have q1 := cell_of_one e3w
      have q2 := cell_of_one e3v
      have f1 := free_of_one e3w
      have f2 := free_of_one e3v
      have ev : v / 2 ^ k / 2 = v / 2 ^ (k + 1) := by rw [Int.ediv_ediv_of_nonneg (Int.le_of_lt (Int.pow_pos (by decide))), ← Int.pow_succ]
      have C1 := Lib.hid c1
      have EW := Lib.hid e3w
      have EV := Lib.hid e3v
      have EE := Lib.hid ev
      have HJ3 := Lib.hid hj3
      clear e3w e3v hcw hcv c1 c2 ev hj hj3 hk3 hR hy hw0 hv0
      gi_wp2
      refine ⟨⟨k + 1, by omega, ?_, ?_, ?_⟩, ?_⟩
      · rw [one_setCell (v := .int .i64 ((w : Int) - k)) (by rw [Below.heap_setCell _ _ _ _ hne]; exact EW.out)]
        rw [show (w : Int) - k - 1 = (w : Int) - ((k + 1 : Nat) : Int) from by omega]
      · rw [Below.heap_setCell _ _ _ _ (Ne.symm hne), one_setCell EV.out, EE.out]
      · rw [low_succ]
        exact hJ _ _ _ _ (Or.inl rfl) (hJ _ _ _ _ (Or.inr rfl) HJ3.out)
      · rw [boxInt_of (cell_of_one (one_setCell (v := .int .i64 ((w : Int) - k)) (by rw [Below.heap_setCell _ _ _ _ hne]; exact EW.out))), boxInt_of C1.out]
        omega
    · have d1 : decide ((0 : Int) < (w : Int) - k) = false := decide_eq_false (by omega)
      obtain rfl : k = w := by omega
      have HJ := Lib.hid hj
      clear hj hcw hcv
      gi_wp2
      refine ⟨(fun f h => by cases h), ?_⟩
      gi_wp2
      go_end0
      exact ⟨⟨_, rfl⟩, _, rfl, HJ.out⟩

set_option maxHeartbeats 400000 in
theorem each_in (F : Fence) (n : Nat) (hf : F.fn 31) (hro : F.round = none) (v w : Int) (W : World) :
    CallsIn F n Try.prog 31 #[.int .i64 v, .int .i64 w] W fun e W' => e = .returned (.func (.func 39) #[] #[.pointer (some ⟨W.heap.size + 1, 0, none⟩), .pointer (some ⟨W.heap.size, 0, none⟩)]) ∧ (W.alloc (.cells #[.int .i64 v] 3)).alloc (.cells #[.int .i64 w] 3) = W' := by
  refine callsIn_of_wp Try.func31 rfl hf ?_ hro
  simp only [Try.ntmps31, List.size_toArray, List.length_cons, List.length_nil, Nat.reduceAdd, Nat.reduceSub, Array.replicate_succ, Array.replicate_zero, List.push_toArray, List.append_toArray, List.nil_append, List.cons_append]
  gi_wp2
  go_ret
  exact ⟨rfl, rfl⟩

/-- What holds between two rounds of Split's loop: the variable's block, the iterator's two blocks, the row. -/
def SInv (W : World) (H : Nat) (pre : List Bool) (wr : World) : Prop :=
  ∃ o, wr.heap[H]? = some (.cells #[o] 24 (0, 0)) ∧ (∃ x, wr.heap[H + 1]? = some (.cells #[x] 3 (0, 0))) ∧ (∃ x, wr.heap[H + 2]? = some (.cells #[x] 3 (0, 0))) ∧
    wr.ownsRow W.heap.size 4 1 o pre.length (pre.map Value.bool) ∧ Below W.heap.size W wr
theorem row_block {w : World} {B : Nat} {e : TypeId} {v : Value} {n : Nat} {xs : List Value} (h : w.ownsRow B e 1 v n xs) {g : Nat} (hg : v.ownBlock = some g) : ∃ cur, w.heap[g]? = some (.cells cur e (0, 0)) ∧ B ≤ g := by
  rcases h.2 with ⟨rfl, _⟩ | ⟨g', cap, cur, rfl, hb, hh, _⟩
  · simp [Value.ownBlock] at hg
  · have : g' = g := by simpa [Value.ownBlock] using hg
    subst this
    exact ⟨cur, hh, hb⟩
theorem row_ne {w : World} {B : Nat} {e e' : TypeId} {v : Value} {n : Nat} {xs : List Value} {b : Nat} {o : Value} (h : w.ownsRow B e 1 v n xs) (hb : w.heap[b]? = some (.cells #[o] e' (0, 0))) (hne : e ≠ e') : v.ownBlock ≠ some b := by
  intro hk
  obtain ⟨cur, hh, _⟩ := row_block h hk
  rw [hh] at hb
  injection hb with hb
  injection hb with _ ht
  exact hne ht
theorem grown_cells {W W' : World} {row : Option Nat} {b : Nat} {o : Obj} (hg : W.grownBy W' row) (hr : ∀ r, row = some r → ∃ o : Obj, W.heap[r]? = some o ∧ o.isCells = false) (h : W.heap[b]? = some o) (ho : o.isCells = true) : W'.heap[b]? = some o :=
  (hg.block b (Array.getElem?_eq_some_iff.1 h).1 (fun e => by
    obtain ⟨o', h', hc⟩ := hr b e.symm
    rw [h] at h'; cases h'; rw [ho] at hc; cases hc)).trans h
theorem SInv_own {W : World} {H B : Nat} (hB : W.heap.size ≤ B) : OwnFrom B (SInv W H) := by
  rintro pre W1 W2 row ⟨o, h0, ⟨x, h1⟩, ⟨y, h2⟩, hown, hb⟩ hg hr
  have hr' : ∀ r, row = some r → ∃ o : Obj, W1.heap[r]? = some o ∧ o.isCells = false := fun r e => (hr r e).2
  refine ⟨o, grown_cells hg hr' h0 rfl, ⟨x, grown_cells hg hr' h1 rfl⟩, ⟨y, grown_cells hg hr' h2 rfl⟩, hown.kept hg ?_, hb.grown hg hb.size (fun r e => Nat.le_trans hB (hr r e).1)⟩
  cases hk : o.ownBlock with
  | none => exact Or.inl rfl
  | some g =>
    obtain ⟨cur, hh, _⟩ := row_block hown hk
    refine Or.inr fun e => ?_
    obtain ⟨o', h', hc⟩ := hr' g e.symm
    rw [hh] at h'; cases h'; cases hc
theorem SInv_set {W : World} {H : Nat} (hH : W.heap.size ≤ H) {pre : List Bool} {W1 : World} {b : Nat} {u : Value} (hb : b = H + 2 ∨ b = H + 1) (h : SInv W H pre W1) : SInv W H pre (W1.setCell ⟨b, 0, none⟩ u) := by
  obtain ⟨o, h0, ⟨x, h1⟩, ⟨y, h2⟩, hown, hbl⟩ := h
  rcases hb with rfl | rfl
  · exact ⟨o, (Below.heap_setCell _ _ _ _ (by simp)).trans h0, ⟨x, (Below.heap_setCell _ _ _ _ (by simp)).trans h1⟩, ⟨u, one_setCell h2⟩, ownsRow_setCell_other hown (row_ne hown h2 (by decide)) _, hbl.setCell (by simp; omega) _⟩
  · exact ⟨o, (Below.heap_setCell _ _ _ _ (by simp)).trans h0, ⟨u, one_setCell h1⟩, ⟨y, (Below.heap_setCell _ _ _ _ (by simp)).trans h2⟩, ownsRow_setCell_other hown (row_ne hown h1 (by decide)) _, hbl.setCell (by simp; omega) _⟩

theorem own_slice {w : World} {B n : Nat} {e : TypeId} {size : Nat} {v : Value} {xs : List Value} (h : w.ownsRow B e size v n xs) : ∃ A c, v = .slice A n c := by
  rcases h.2 with ⟨rfl, rfl⟩ | ⟨g, cap, cur, rfl, _⟩
  · exact ⟨none, 0, rfl⟩
  · exact ⟨_, cap, rfl⟩
theorem rdb_put {W : World} {A : Option Addr} {xs : List Bool} (h : RdB W A xs) {D : Nat} {ds : Option (List Deferred)} (hK : W.heap[D]? = some (.deferred ds)) (o' : Obj) : RdB (W.putObj D o') A xs :=
  ⟨h.len, fun hn => by
    obtain ⟨b, o, e, hc⟩ := h.at_ hn
    refine ⟨b, o, e, fun j hj => ?_⟩
    have hcj := hc j hj
    have hne : b ≠ D := by
      rintro rfl
      obtain ⟨ob, ho, hb⟩ := cells_of_cell hcj
      simp only at ho
      rw [hK] at ho; cases ho; cases hb
    exact (World.cell?_of_block (World.putObj_heap_other hne)).trans hcj⟩
theorem one_bool (x : Bool) : ∀ u ∈ [Value.bool x], u.oneCell' = true := by
  intro u hu
  simp at hu
  subst hu
  rfl
theorem small_max {m n : Nat} (hm : m ≤ 62) (hn : n < m) : n + 1 ≤ maxLen := by unfold maxLen; omega
theorem small_room {m n : Nat} (hm : m ≤ 62) (hn : n < m) : (n + 1) * 1 ≤ 140737488355328 := by omega
theorem size_new {W : World} {B : Nat} (h : B ≤ W.heap.size) {o : Obj} : B ≤ (W.alloc o).heap.size := by simp; omega
theorem grown_one {W w1 : World} {o' : Obj} {row : Option Nat} {b : Nat} {v : Value} {t : TypeId} (hg : (W.alloc o').grownBy w1 row) (hne : row ≠ some b) (h : W.heap[b]? = some (.cells #[v] t (0, 0))) : w1.heap[b]? = some (.cells #[v] t (0, 0)) := by
  have hlt := (Array.getElem?_eq_some_iff.1 h).1
  exact (hg.block b (by simp; omega) (Ne.symm hne)).trans ((Below.heap_alloc _ _ _ hlt).trans h)

set_option maxRecDepth 100000 in
set_option maxHeartbeats 2000000 in
theorem Split_in (v : Int) (m : Nat) (hm : m ≤ 62) (hv : -9223372036854775808 ≤ v ∧ v ≤ 9223372036854775807) (W : World) :
    Calls Try.prog 17 #[.int .i64 v, .int .i64 m] W fun e W' => (∃ A c, e = .returned (.slice A (low v m).length c) ∧ RdB W' A (low v m) ∧ (low v m).length ≤ c) ∧ Below W.heap.size W W' := by
  obtain ⟨i0, hi, hz0, hz1, hz2⟩ := info_parts infoB
  have d1 : decide ((m : Int) < 0) = false := decide_eq_false (by omega)
  have d2 : decide ((62 : Int) < m) = false := decide_eq_false (by omega)
  refine (callsIn_wide (n := 3)).1 ?_
  refine callsIn_of_wp_marks Try.func17 rfl trivial ?_ rfl
  simp only [Try.ntmps17, List.size_toArray, List.length_cons, List.length_nil, Nat.reduceAdd, Nat.reduceSub, Array.replicate_succ, Array.replicate_zero, List.push_toArray, List.append_toArray, List.nil_append, List.cons_append]
  gi_wp2_with (first | (gi_at_make; refine wpListIn_make_own _ rfl _ _ 24 rfl W.heap.size 4 i0 (.bool false) 1 Try.underlying24 hi hz0 hz1 _ _ _ m rfl rfl rfl (by rw [hz2]; omega) (by unfold maxLen; omega) (Nat.le_refl _) ?_; intro wm hown hgrow) | (refine ⟨trivial, ?_⟩; gi_at_call 31; refine (each_in _ _ trivial rfl _ _ _).mono ?_; rintro e w' ⟨rfl, rfl⟩))
  have hlt : W.heap.size < wm.heap.size := by
    obtain ⟨cur, hh, _⟩ := row_block hown (g := W.heap.size) rfl
    exact (Array.getElem?_eq_some_iff.1 hh).1
  obtain ⟨H, hH⟩ : ∃ H, wm.heap.size = H := ⟨_, rfl⟩
  have hbw : Below W.heap.size W wm := (Below.refl _ _).grown hgrow (Nat.le_refl _) (fun j e => by cases e)
  have b1 : ((wm.alloc (.cells #[.slice (some ⟨W.heap.size, 0, none⟩) 0 m] 24)).alloc (.cells #[.int .i64 v] 3)).heap.size = H + 1 + 1 := by simp [hH]
  have g0 : (((wm.alloc (.cells #[.slice (some ⟨W.heap.size, 0, none⟩) 0 m] 24)).alloc (.cells #[.int .i64 v] 3)).alloc (.cells #[.int .i64 m] 3)).heap[H]? = some (.cells #[.slice (some ⟨W.heap.size, 0, none⟩) 0 m] 24) := by
    rw [Below.heap_alloc _ _ _ (by simp; omega), Below.heap_alloc _ _ _ (by simp; omega), ← hH]; exact map_new _ _
  have g1 : (((wm.alloc (.cells #[.slice (some ⟨W.heap.size, 0, none⟩) 0 m] 24)).alloc (.cells #[.int .i64 v] 3)).alloc (.cells #[.int .i64 m] 3)).heap[H + 1]? = some (.cells #[.int .i64 v] 3) := by
    rw [Below.heap_alloc _ _ _ (by simp; omega), ← hH]; have := map_new (wm.alloc (.cells #[.slice (some ⟨W.heap.size, 0, none⟩) 0 m] 24)) (.cells #[.int .i64 v] 3); simpa using this
  have g2 : (((wm.alloc (.cells #[.slice (some ⟨W.heap.size, 0, none⟩) 0 m] 24)).alloc (.cells #[.int .i64 v] 3)).alloc (.cells #[.int .i64 m] 3)).heap[H + 2]? = some (.cells #[.int .i64 m] 3) := by
    rw [← hH]; have := map_new ((wm.alloc (.cells #[.slice (some ⟨W.heap.size, 0, none⟩) 0 m] 24)).alloc (.cells #[.int .i64 v] 3)) (.cells #[.int .i64 m] 3); simpa using this
  have HH := Lib.hid hH
  have hHW : W.heap.size < H := by omega
  clear hH b1 hgrow
  refine wpIn_rangeFunc_boxed rfl (by omega) (gf := 39) (lb := #[.pointer (some ⟨wm.heap.size + 1 + 1, 0, none⟩), .pointer (some ⟨wm.heap.size + 1, 0, none⟩)]) rfl trivial (_root_.Go.Proofs.enters_of Try.func39 (by kernel_rfl) rfl)
    (encs := fun x : Bool => #[Value.bool x]) (S := fun xs => xs = low v m) (N := m) (fun b => b = H + 2 ∨ b = H + 1) (by have hH := HH.out; rintro b (rfl | rfl) <;> (simp; omega)) ?seq (fun _ => rfl)
    (SInv W H) (SInv_own (by have hH := HH.out; simp; omega)) (fun s W1 b x hb hs => SInv_set (by omega) hb hs) ?start
    (fun x => { tmps := #[Value.int IntKind.i64 v, Value.int IntKind.i64 m, undef, undef, Value.slice none 0 0, Value.pointer (some ⟨wm.heap.size, 0, none⟩), Value.bool x, Value.int IntKind.i64 m, Value.bool false, Value.bool false, Value.int IntKind.i64 m, Value.bool false, Value.bool false, Value.int IntKind.i64 m, Value.slice (some ⟨W.heap.size, 0, none⟩) 0 m, Value.int IntKind.i64 v, Value.int IntKind.i64 m, Value.func (Fn.func 39) #[] #[Value.pointer (some ⟨wm.heap.size + 1 + 1, 0, none⟩), Value.pointer (some ⟨wm.heap.size + 1, 0, none⟩)], Value.bool x, undef, undef, undef, undef, undef], defers := [] }) ?assign ?body ?done
  case seq =>
    intro l J W0 hk hJ hY h0
    rw [HH.out]
    exact each1_in Fence.wide 2 trivial rfl (by omega) l (H + 1 + 1) (H + 1) (by omega) v m hm hv J (fun s W1 b x hb hs => hJ s W1 b x hb hs) (fun pre x W1 hj hl => hY pre x W1 hj hl) W0 ((hk _ (Or.inl rfl)).trans g2) ((hk _ (Or.inr rfl)).trans g1) h0
  case start =>
    exact ⟨_, g0, ⟨_, g1⟩, ⟨_, g2⟩, ((hown.alloc _).alloc _).alloc _, ((hbw.alloc (by have hH := HH.out; omega) _).alloc (by have hH := HH.out; simp; omega) _).alloc (by have hH := HH.out; simp; omega) _⟩
  case assign =>
    intro l x W0 K hK
    gi_wp2
    exact hK
  case body =>
    rintro l pre x W0 ⟨o, h0, ⟨x1, h1⟩, ⟨x2, h2⟩, hown0, hb0⟩ hlen
    obtain rfl := HH.out
    have q0 := cell_of_one h0
    have HO := Lib.hid hown0
    have HB := Lib.hid hb0
    have E0 := Lib.hid h0
    have E1 := Lib.hid h1
    have E2 := Lib.hid h2
    have hne0 := Lib.hid (row_ne hown0 h0 (by decide))
    have hne1 := Lib.hid (row_ne hown0 h1 (by decide))
    have hne2 := Lib.hid (row_ne hown0 h2 (by decide))
    clear g0 g1 g2 hown hown0 hb0 h0 h1 h2 hbw
    gi_wp2_with (gi_at_builtin; refine wpListIn_append_own _ rfl _ _ 24 rfl W.heap.size 4 i0 (.bool false) 1 1 Try.underlying24 hi hz0 hz1 hz2 rfl (by decide) o pre.length (pre.map Value.bool) rfl (HO.out.alloc _) ⟨W0.heap.size, 0, none⟩ 1 1 [.bool x] rfl rfl (cell_one_new _ _ _) (one_bool x) (small_max hm hlen) (small_room hm hlen) (size_new HB.out.size) ?_; intro v' w1 hown1 hgrow1 _; obtain ⟨A', c', rfl⟩ := own_slice hown1; have c1 := cell_of_one (grown_one hgrow1 hne0.out E0.out); have f1 := free_of_one (grown_one hgrow1 hne0.out E0.out); have HO1 := Lib.hid hown1; have HG1 := Lib.hid hgrow1; clear hown1 hgrow1)
    refine ⟨(KeepsOthers.alloc W0 _).trans ((KeepsOthers.of_grownBy HG1.out ?_).trans (KeepsOthers.setCell _ _ _)), ?_, ?_⟩
    · intro j o' hj ho'
      obtain ⟨cur, hh, _⟩ := row_block (HO.out.alloc _) hj
      rw [hh] at ho'; cases ho'; rfl
    · rintro b (rfl | rfl)
      · exact (Below.heap_setCell _ _ _ _ (by simp)).trans ((grown_one HG1.out hne2.out E2.out).trans E2.out.symm)
      · exact (Below.heap_setCell _ _ _ _ (by simp)).trans ((grown_one HG1.out hne1.out E1.out).trans E1.out.symm)
    · have t0 := grown_one HG1.out hne0.out E0.out
      refine ⟨_, one_setCell t0, ⟨x1, (Below.heap_setCell _ _ _ _ (by simp)).trans (grown_one HG1.out hne1.out E1.out)⟩, ⟨x2, (Below.heap_setCell _ _ _ _ (by simp)).trans (grown_one HG1.out hne2.out E2.out)⟩, ownsRow_setCell_other (by simpa using HO1.out) (row_ne HO1.out t0 (by decide)) _, Below.setCell ?_ (by simp; omega) _⟩
      exact (HB.out.alloc HB.out.size _).grown HG1.out (by have := HB.out.size; simp; omega) (fun j e => (row_block HO.out e).choose_spec.2)
  case done =>
    rintro D xs W0 hD rfl ⟨o, h0, h1, h2, hown0, hb0⟩ hK
    obtain rfl := HH.out
    have q0 := cell_of_one h0
    have HR := Lib.hid (rdb_own (xs := low v m) rfl hown0)
    have HB := Lib.hid hb0
    clear g0 g1 g2 hown hown0 hb0 h0 h1 h2 hbw
    gi_wp2
    refine ⟨by simp, .inl ⟨_, _, rfl, run_takeDeferred hK, ?_⟩⟩
    obtain ⟨A, c, e, hr, hc⟩ := HR.out
    exact ⟨_, results_tmp rfl _ _ _, ⟨A, c, by rw [← e]; rfl, rdb_put hr hK _, hc⟩, HB.out.trans (belowK_b (w := W) (Nat.le_refl _) W0 D _ _ (by simp at hD; omega) hK rfl rfl)⟩

/-- bits.Split -/
theorem Split_any (v w : Int) (W : World) (hv : -9223372036854775808 ≤ v ∧ v ≤ 9223372036854775807) :
    Calls Try.prog 17 #[.int .i64 v, .int .i64 w] W fun e W' => (∃ A c, e = .returned (.slice A (split v w).length c) ∧ RdB W' A (split v w) ∧ (split v w).length ≤ c) ∧ Below W.heap.size W W' := by
  by_cases h : w < 0 ∨ 62 < w
  · have hs : split v w = [] := by unfold split; rw [if_pos h]
    rw [hs]
    rcases h with h | h
    · have d1 : decide (w < 0) = true := decide_eq_true h
      go_enter Try.func17, Try.ntmps17
      go_wp2
      go_ret
      exact ⟨⟨none, 0, rfl, ⟨by simp, fun q => by simp at q⟩, Nat.le_refl _⟩, Below.refl _ _⟩
    · have d1 : decide (w < 0) = false := decide_eq_false (by omega)
      have d2 : decide (62 < w) = true := decide_eq_true h
      go_enter Try.func17, Try.ntmps17
      go_wp2
      go_ret
      exact ⟨⟨none, 0, rfl, ⟨by simp, fun q => by simp at q⟩, Nat.le_refl _⟩, Below.refl _ _⟩
  · obtain ⟨m, rfl⟩ := Int.eq_ofNat_of_zero_le (show 0 ≤ w by omega)
    have hs : split v m = low v m := by unfold split; rw [if_neg h]; simp
    rw [hs]
    exact Split_in v m (by omega) hv W
end Bt
end Go.Proofs.Ytpblhbagjmnmpaa
