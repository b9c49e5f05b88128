/- The law BitsBitwise returns true and leaves what was there as it was. Conditions: the arguments are bytes. -/
import Derived.Test.YtpblhbagjmnmpaaBtPB
import Derived.Test.YtpblhbagjmnmpaaRws
import Derived.Test.YtpblhbagjmnmpaaBtX
import Derived.Deep.AppendLies
import Derived.Deep.QuietTactic
set_option linter.unusedVariables false
set_option linter.unusedSimpArgs false
namespace Go.Proofs.Ytpblhbagjmnmpaa
open Go Go.RowKit
open Go.MapKept
namespace Bt

def muxF (C x y : Int) (i : Nat) : Bool := if C = 1 then bitAt x i else bitAt y i
theorem own_cap {r : Rw} {W : World} {B : Nat} (h : r.Own W B) : r.n ≤ r.c := by
  rcases h.2 with ⟨h, _⟩ | ⟨g, cap, cur, h, _, _, hle, _⟩
  · simp at h
  · simp only [Value.slice.injEq] at h
    omega
/-- Split at a width from 1 to 8. -/
theorem Split_n (v : Int) (n : Nat) (h1 : 1 ≤ n) (h8 : n ≤ 8) (hv : -9223372036854775808 ≤ v ∧ v ≤ 9223372036854775807) (W : World) :
    Calls Try.prog 17 #[.int .i64 v, .int .i64 n] W fun e W' => (∃ b o c, e = .returned (.slice (some ⟨b, o, none⟩) n c) ∧ n ≤ c ∧ b < W'.heap.size ∧ ∀ j, j < n → W'.cell? ⟨b, o + j, none⟩ = some (.bool (bitAt v j))) ∧ Below W.heap.size W W' := by
  refine (Split_any v n W hv).mono ?_
  rintro e W' ⟨⟨A, c, rfl, hr, hc⟩, hb⟩
  have hs : split v n = row (bitAt v) n := by unfold split; rw [if_neg (by omega)]; simp [low, row]
  rw [hs] at hr hc ⊢
  rw [row_length] at hc ⊢
  obtain ⟨b, o, rfl, hcell⟩ := hr.at_ (by rw [row_length]; omega)
  rw [row_length] at hcell
  refine ⟨⟨b, o, c, rfl, hc, World.block_lt_of_cell? W' _ (hcell 0 (by omega)), fun j hj => ?_⟩, hb⟩
  rw [← row_at (bitAt v) hj]
  exact hcell j hj
/-- Join at a list that is known. -/
theorem Join_n (b o n c : Nat) (l : List Bool) (r : Int) (W : World) (hl : l.length = n) (hc : n ≤ c) (hr : RdB W (some ⟨b, o, none⟩) l) (hj : join l = r) :
    Calls Try.prog 19 #[.slice (some ⟨b, o, none⟩) n c] W fun e W' => e = .returned (.int .i64 r) ∧ W = W' := by
  subst hl hj
  exact Join_any _ c l W hr hc
theorem rdb_row {W : World} {b o n : Nat} {f : Nat → Bool} (hn : n ≤ 8) (h : ∀ j, j < n → W.cell? ⟨b, o + j, none⟩ = some (.bool (f j))) : RdB W (some ⟨b, o, none⟩) (row f n) :=
  ⟨by rw [row_length]; omega, fun _ => ⟨b, o, rfl, fun j hj => by
    rw [row_length] at hj
    rw [row_at f hj]
    exact h j hj⟩⟩
theorem rdb_ownrow {r : Rw} {W : World} {B : Nat} {f : Nat → Bool} (h : r.Own W B) (he : r.s = 1) (hn : r.n ≤ 8) (hx : r.xs = (row f r.n).map Value.bool) : RdB W (some ⟨r.g, 0, none⟩) (row f r.n) := by
  refine rdb_row hn fun j hj => ?_
  have := World.ownsRow.cells h (g := r.g) rfl j (.bool (f j)) (by rw [hx, List.getElem?_map, List.getElem?_eq_getElem (by rw [row_length]; exact hj)]; simp [row])
  rw [show (⟨r.g, 0, none⟩ : Addr).add j = ⟨r.g, 0 + j, none⟩ from by unfold Addr.add; split <;> simp_all] at this
  exact this
theorem row_snoc (f : Nat → Bool) (k : Nat) (b : Bool) (h : f k = b) : (row f k).map Value.bool ++ [.bool b] = (row f (k + 1)).map Value.bool := by
  rw [row_succ, List.map_append, h]; rfl
/-- The loop's relation: the rows that have been collected. -/
def BwRel (X : World) (n : Nat) (f1 f2 f3 f4 f5 : Nat → Bool) (v1 v2 v3 v4 v5 i : Value) (w : World) : Prop :=
  Below X.heap.size X w ∧ ∃ (k g1 g2 g3 g4 g5 c1 c2 c3 c4 c5 : Nat), k ≤ n ∧ i = .int .i64 k ∧
    v1 = .slice (some ⟨g1, 0, none⟩) k c1 ∧ v2 = .slice (some ⟨g2, 0, none⟩) k c2 ∧ v3 = .slice (some ⟨g3, 0, none⟩) k c3 ∧ v4 = .slice (some ⟨g4, 0, none⟩) k c4 ∧ v5 = .slice (some ⟨g5, 0, none⟩) k c5 ∧
    Rows w X.heap.size [⟨4, 1, g1, k, c1, (row f1 k).map Value.bool⟩, ⟨4, 1, g2, k, c2, (row f2 k).map Value.bool⟩, ⟨4, 1, g3, k, c3, (row f3 k).map Value.bool⟩, ⟨4, 1, g4, k, c4, (row f4 k).map Value.bool⟩, ⟨4, 1, g5, k, c5, (row f5 k).map Value.bool⟩]
theorem bw_hat {v : Nat} {g H : Nat} (h : (Value.slice (some ⟨v, 0, none⟩) 0 0).ownBlock = some g ∨ g = H) : g = v ∨ g = H := by
  rcases h with h | h
  · left; simpa [Value.ownBlock] using h.symm
  · right; exact h
theorem bw_start (X : World) (W : World) (f1 f2 f3 f4 f5 : Nat → Bool) (hW : Below X.heap.size X W) (n : Nat) {H : Nat} (hH : W.heap.size = H) :
    BwRel X n f1 f2 f3 f4 f5 (.slice (some ⟨H, 0, none⟩) 0 0) (.slice (some ⟨H + 1, 0, none⟩) 0 0) (.slice (some ⟨H + 1 + 1, 0, none⟩) 0 0) (.slice (some ⟨H + 1 + 1 + 1, 0, none⟩) 0 0) (.slice (some ⟨H + 1 + 1 + 1 + 1, 0, none⟩) 0 0) (.int .i64 0)
      (((((W.alloc (.cells #[] 4)).alloc (.cells #[] 4)).alloc (.cells #[] 4)).alloc (.cells #[] 4)).alloc (.cells #[] 4)) := by
  subst hH
  have hs := hW.size
  refine ⟨((((hW.alloc hs _).alloc (by simp; omega) _).alloc (by simp; omega) _).alloc (by simp; omega) _).alloc (by simp; omega) _, 0, _, _, _, _, _, 0, 0, 0, 0, 0, Nat.zero_le _, rfl, rfl, rfl, rfl, rfl, rfl, ?_⟩
  exact Rows.made (Rows.made (Rows.made (Rows.made (Rows.made (Rows.nil W X.heap.size) hs _ 0 1 4 (Nat.zero_le _) rfl rfl) (by simp; omega) _ 0 1 4 (Nat.zero_le _) rfl (by simp)) (by simp; omega) _ 0 1 4 (Nat.zero_le _) rfl (by simp)) (by simp; omega) _ 0 1 4 (Nat.zero_le _) rfl (by simp)) (by simp; omega) _ 0 1 4 (Nat.zero_le _) rfl (by simp)
set_option maxHeartbeats 8000000 in
set_option maxRecDepth 20000 in
theorem bitwise_0 (a b k0 k1 x y r2 r3 r4 r5 r10 : Int) (n : Nat) (W : World) (q0 : 0 ≤ k0 ∧ k0 ≤ 255) (q1 : 0 ≤ k1 ∧ k1 ≤ 255) (h1 : 1 ≤ n) (h8 : n ≤ 8) (eN : 1 + k0 % 8 = n) (eC : k1 % 2 = 0)
    (ex : Go.bits .and .i64 a (mask n) = x) (ey : Go.bits .and .i64 b (mask n) = y) (bx : 0 ≤ x ∧ x ≤ 255) (by_ : 0 ≤ y ∧ y ≤ 255) (ha : 0 ≤ a ∧ a ≤ 255) (hb0 : 0 ≤ b ∧ b ≤ 255)
    (jx : Hid (join (row (bitAt x) n) = x)) (jy : Hid (join (row (bitAt y) n) = y))
    (s2 : res 2 [(n : Int)] [x] [0, 0] = r2) (j2 : Hid (join (row (fun i => !bitAt x i) n) = r2)) (s3 : res 3 [(n : Int), n] [x, y] [0, 0] = r3) (j3 : Hid (join (row (fun i => bitAt x i && bitAt y i) n) = r3)) (s4 : res 4 [(n : Int), n] [x, y] [0, 0] = r4) (j4 : Hid (join (row (fun i => bitAt x i || bitAt y i) n) = r4))
    (s5 : res 5 [(n : Int), n] [x, y] [0, 0] = r5) (j5 : Hid (join (row (fun i => bitAt x i != bitAt y i) n) = r5)) (s10 : res 10 [1, (n : Int), n] [0, x, y] [0, 0] = r10) (j10 : Hid (join (row (muxF 0 x y) n) = r10)) :
    Calls Try.prog 8 #[.int .u8 a, .int .u8 b, .agg #[.int .u8 k0, .int .u8 k1]] W fun e W' => e = .returned (.bool true) ∧ Below W.heap.size W W' := by
  obtain ⟨i0, hi, hz0, hz1, hz2⟩ := info_parts infoB
  have n0 : (0 : Int) ≤ n := by omega
  have em1 : k0.tmod 8 = k0 % 8 := Int.tmod_eq_emod_of_nonneg q0.1
  have em2 : k1.tmod 2 = 0 := (Int.tmod_eq_emod_of_nonneg q1.1).trans eC
  have em3 : IntKind.i64.wrap (k0 % 8) = k0 % 8 := IntWalk.i64_in _ (by omega)
  have em4 : IntKind.i64.wrap (n : Int) = n := IntWalk.i64_in _ (by omega)
  have em5 : IntKind.i64.wrap 0 = 0 := rfl
  have hbx := Lib.hid (show -9223372036854775808 ≤ x ∧ x ≤ 9223372036854775807 by omega)
  have hby := Lib.hid (show -9223372036854775808 ≤ y ∧ y ≤ 9223372036854775807 by omega)
  go_enter Try.func8, Try.ntmps8
  go_wp2_with fail
  refine (examples_any _).mono ?_
  rintro e w1 ⟨rfl, hb⟩
  have B1 := Lib.hid (show Below (W.alloc (.cells #[.int .u8 k0, .int .u8 k1] 53)).heap.size (W.alloc (.cells #[.int .u8 k0, .int .u8 k1] 53)) w1 from hb)
  have z1 : W.heap.size + 1 ≤ w1.heap.size := by have := hb.size; simpa using this
  have c0 : w1.cell? ⟨W.heap.size, 0, none⟩ = some (.int .u8 k0) := (hb.cell (p := ⟨W.heap.size, 0, none⟩) (by simp)).trans (by simp)
  have c1 : w1.cell? ⟨W.heap.size, 1, none⟩ = some (.int .u8 k1) := (hb.cell (p := ⟨W.heap.size, 1, none⟩) (by simp)).trans (by simp)
  clear hb
  go_wp2
  go_quiet (fail)
  go_wp2_with (go_at_call 14; refine (Mask_any _ _).mono ?_; rintro e w' ⟨rfl, rfl⟩)
  refine (Split_n x n h1 h8 hbx.out _).mono ?_
  rintro e w2 ⟨⟨pb, po, pc, rfl, hpc, hpb, hp⟩, hb⟩
  have B2 := Lib.hid (show Below (W.alloc (.cells #[.int .u8 k0, .int .u8 k1] 53)).heap.size (W.alloc (.cells #[.int .u8 k0, .int .u8 k1] 53)) w2 from bel_call (by repeat (first | exact B1.out | refine Below.drew ?_ | refine bel_drewN ?_ _ | refine Below.alloc ?_ (by first | omega | (simp; omega) | simp) _)) (by first | omega | (simp; omega) | simp) hb)
  have HP := Lib.hid hp
  have z2 := hb.size
  (try simp at z2)
  clear hb hp c0 c1
  go_wp2_with fail
  refine (Split_n y n h1 h8 hby.out _).mono ?_
  rintro e w3 ⟨⟨qb, qo, qc, rfl, hqc, hqb, hq⟩, hb⟩
  have B3 := Lib.hid (show Below (W.alloc (.cells #[.int .u8 k0, .int .u8 k1] 53)).heap.size (W.alloc (.cells #[.int .u8 k0, .int .u8 k1] 53)) w3 from bel_call (by repeat (first | exact B2.out | refine Below.drew ?_ | refine bel_drewN ?_ _ | refine Below.alloc ?_ (by first | omega | (simp; omega) | simp) _)) (by first | omega | (simp; omega) | simp) hb)
  have HP3 := Lib.hid (fun j hj => (hb.cell (p := ⟨pb, po + j, none⟩) hpb).trans (HP.out j hj))
  have HQ := Lib.hid hq
  have z3 := hb.size
  (try simp at z3)
  have hpb3 : pb < w3.heap.size := by omega
  clear hb hq HP
  go_wp2_with fail
  refine (Join_n pb po n pc (row (bitAt x) n) x _ (row_length _ _) hpc (rdb_row h8 HP3.out) jx.out).mono ?_
  rintro e w' ⟨rfl, rfl⟩
  go_wp2_with fail
  refine (Join_n qb qo n qc (row (bitAt y) n) y _ (row_length _ _) hqc (rdb_row h8 HQ.out) jy.out).mono ?_
  rintro e w' ⟨rfl, rfl⟩
  go_wp2_with fail
  go_loopw [14, 15, 16, 17, 18, 19] (BwRel w3 n (fun i => !bitAt x i) (fun i => bitAt x i && bitAt y i) (fun i => bitAt x i || bitAt y i) (fun i => bitAt x i != bitAt y i) (muxF 0 x y)) (fun _ _ _ _ _ i _ => n - (intOf i).toNat)
  case atStart => exact bw_start w3 _ _ _ _ _ _ (Below.refl _ _) n rfl
  case round =>
    obtain ⟨hb, k, g1, g2, g3, g4, g5, d1, d2, d3, d4, d5, hk, rfl, rfl, rfl, rfl, rfl, rfl, hrows⟩ := hrel
    have HB := Lib.hid hb
    have HR := Lib.hid hrows
    have zr := hb.size
    clear hb hrows
    by_cases hlt : k < n
    · have dk0 : (0 : Int) ≤ k := by omega
      have dk1 : (k : Int) < n := by omega
      cases hP : bitAt x k with
      | true =>
        cases hQ : bitAt y k with
        | true =>
          have HS0 := Lib.hid (row_snoc (fun i => !bitAt x i) k false (by simp [muxF, hP, hQ]))
          have HS1 := Lib.hid (row_snoc (fun i => bitAt x i && bitAt y i) k true (by simp [muxF, hP, hQ]))
          have HS2 := Lib.hid (row_snoc (fun i => bitAt x i || bitAt y i) k true (by simp [muxF, hP, hQ]))
          have HS3 := Lib.hid (row_snoc (fun i => bitAt x i != bitAt y i) k false (by simp [muxF, hP, hQ]))
          have HS4 := Lib.hid (row_snoc (muxF 0 x y) k true (by simp [muxF, hP, hQ]))
          have e1 : wr.cell? ⟨pb, po + k, none⟩ = some (.bool true) := (HB.out.cell hpb3).trans ((HP3.out k hlt).trans (by rw [hP]))
          have e2 : wr.cell? ⟨qb, qo + k, none⟩ = some (.bool true) := (HB.out.cell hqb).trans ((HQ.out k hlt).trans (by rw [hQ]))
          have HPk := Lib.hid hP
          have HQk := Lib.hid hQ
          clear hP hQ
          go_wp2_with (at_builtin; refine wpList_append_lies _ rfl _ _ 24 rfl w3.heap.size 4 i0 (.bool false) 1 1 Try.underlying24 hi hz0 hz1 hz2 rfl (by decide) (.slice (some ⟨g1, 0, none⟩) k d1) k ((row (fun i => !bitAt x i) k).map Value.bool) rfl (World.ownsRow.alloc (HR.out.at 0 rfl) _) ⟨wr.heap.size, 0, none⟩ 1 1 [.bool false] rfl rfl (cell_one_new _ _ _) (by simp [Value.oneCell']) (by decide) (by unfold maxLen; omega) (by omega) (by simp; omega) (wr.heap.size + 1) (by simp) ?_)
          intro p0 q0 u0_ hown hgrow hat hlt_
          have HR0 := Lib.hid (show Rows u0_ w3.heap.size [⟨4, 1, p0, (k + 1), q0, (row (fun i => !bitAt x i) (k + 1)).map Value.bool⟩, ⟨4, 1, g2, k, d2, (row (fun i => bitAt x i && bitAt y i) k).map Value.bool⟩, ⟨4, 1, g3, k, d3, (row (fun i => bitAt x i || bitAt y i) k).map Value.bool⟩, ⟨4, 1, g4, k, d4, (row (fun i => bitAt x i != bitAt y i) k).map Value.bool⟩, ⟨4, 1, g5, k, d5, (row (muxF 0 x y) k).map Value.bool⟩] from Rows.step (j := 0) (HR.out.alloc _) rfl hgrow (show Rw.Own ⟨4, 1, p0, k + 1, q0, _⟩ _ _ from by rw [← HS0.out]; exact hown) (by have := Rows.lies hat; simpa using this))
          have HB0 := Lib.hid (show Below w3.heap.size w3 u0_ from Rows.below (j := 0) (HB.out.alloc (by omega) _) (by simp; omega) (HR.out.alloc _) rfl hgrow)
          have zu0_ := HB0.out.size
          have e1_0 : u0_.cell? ⟨pb, po + k, none⟩ = some (.bool true) := (HB0.out.cell hpb3).trans ((HP3.out k hlt).trans (by rw [HPk.out]))
          have e2_0 : u0_.cell? ⟨qb, qo + k, none⟩ = some (.bool true) := (HB0.out.cell hqb).trans ((HQ.out k hlt).trans (by rw [HQk.out]))
          clear hown hgrow hat hlt_
          go_wp2_with (at_builtin; refine wpList_append_lies _ rfl _ _ 24 rfl w3.heap.size 4 i0 (.bool false) 1 1 Try.underlying24 hi hz0 hz1 hz2 rfl (by decide) (.slice (some ⟨g2, 0, none⟩) k d2) k ((row (fun i => bitAt x i && bitAt y i) k).map Value.bool) rfl (World.ownsRow.alloc (HR0.out.at 1 rfl) _) ⟨u0_.heap.size, 0, none⟩ 1 1 [.bool true] rfl rfl (cell_one_new _ _ _) (by simp [Value.oneCell']) (by decide) (by unfold maxLen; omega) (by omega) (by simp; omega) (u0_.heap.size + 1) (by simp) ?_)
          intro p1 q1 u1_ hown hgrow hat hlt_
          have HR1 := Lib.hid (show Rows u1_ w3.heap.size [⟨4, 1, p0, (k + 1), q0, (row (fun i => !bitAt x i) (k + 1)).map Value.bool⟩, ⟨4, 1, p1, (k + 1), q1, (row (fun i => bitAt x i && bitAt y i) (k + 1)).map Value.bool⟩, ⟨4, 1, g3, k, d3, (row (fun i => bitAt x i || bitAt y i) k).map Value.bool⟩, ⟨4, 1, g4, k, d4, (row (fun i => bitAt x i != bitAt y i) k).map Value.bool⟩, ⟨4, 1, g5, k, d5, (row (muxF 0 x y) k).map Value.bool⟩] from Rows.step (j := 1) (HR0.out.alloc _) rfl hgrow (show Rw.Own ⟨4, 1, p1, k + 1, q1, _⟩ _ _ from by rw [← HS1.out]; exact hown) (by have := Rows.lies hat; simpa using this))
          have HB1 := Lib.hid (show Below w3.heap.size w3 u1_ from Rows.below (j := 1) (HB0.out.alloc (by omega) _) (by simp; omega) (HR0.out.alloc _) rfl hgrow)
          have zu1_ := HB1.out.size
          have e1_1 : u1_.cell? ⟨pb, po + k, none⟩ = some (.bool true) := (HB1.out.cell hpb3).trans ((HP3.out k hlt).trans (by rw [HPk.out]))
          have e2_1 : u1_.cell? ⟨qb, qo + k, none⟩ = some (.bool true) := (HB1.out.cell hqb).trans ((HQ.out k hlt).trans (by rw [HQk.out]))
          clear hown hgrow hat hlt_
          go_wp2_with (at_builtin; refine wpList_append_lies _ rfl _ _ 24 rfl w3.heap.size 4 i0 (.bool false) 1 1 Try.underlying24 hi hz0 hz1 hz2 rfl (by decide) (.slice (some ⟨g3, 0, none⟩) k d3) k ((row (fun i => bitAt x i || bitAt y i) k).map Value.bool) rfl (World.ownsRow.alloc (HR1.out.at 2 rfl) _) ⟨u1_.heap.size, 0, none⟩ 1 1 [.bool true] rfl rfl (cell_one_new _ _ _) (by simp [Value.oneCell']) (by decide) (by unfold maxLen; omega) (by omega) (by simp; omega) (u1_.heap.size + 1) (by simp) ?_)
          intro p2 q2 u2_ hown hgrow hat hlt_
          have HR2 := Lib.hid (show Rows u2_ w3.heap.size [⟨4, 1, p0, (k + 1), q0, (row (fun i => !bitAt x i) (k + 1)).map Value.bool⟩, ⟨4, 1, p1, (k + 1), q1, (row (fun i => bitAt x i && bitAt y i) (k + 1)).map Value.bool⟩, ⟨4, 1, p2, (k + 1), q2, (row (fun i => bitAt x i || bitAt y i) (k + 1)).map Value.bool⟩, ⟨4, 1, g4, k, d4, (row (fun i => bitAt x i != bitAt y i) k).map Value.bool⟩, ⟨4, 1, g5, k, d5, (row (muxF 0 x y) k).map Value.bool⟩] from Rows.step (j := 2) (HR1.out.alloc _) rfl hgrow (show Rw.Own ⟨4, 1, p2, k + 1, q2, _⟩ _ _ from by rw [← HS2.out]; exact hown) (by have := Rows.lies hat; simpa using this))
          have HB2 := Lib.hid (show Below w3.heap.size w3 u2_ from Rows.below (j := 2) (HB1.out.alloc (by omega) _) (by simp; omega) (HR1.out.alloc _) rfl hgrow)
          have zu2_ := HB2.out.size
          have e1_2 : u2_.cell? ⟨pb, po + k, none⟩ = some (.bool true) := (HB2.out.cell hpb3).trans ((HP3.out k hlt).trans (by rw [HPk.out]))
          have e2_2 : u2_.cell? ⟨qb, qo + k, none⟩ = some (.bool true) := (HB2.out.cell hqb).trans ((HQ.out k hlt).trans (by rw [HQk.out]))
          clear hown hgrow hat hlt_
          have nu1 := World.new_ne u2_ _ e1_2
          have nu2 := World.new_ne u2_ _ e2_2
          have HW4 := Lib.hid (fun o => World.ownsRow.alloc (show World.ownsRow u2_ w3.heap.size 4 1 (.slice (some ⟨g4, 0, none⟩) k d4) k ((row (fun i => bitAt x i != bitAt y i) k).map Value.bool) from HR2.out.at 3 rfl) o)
          go_wp2_with fail
          go_region_held3 (fun w' => w'.cell? ⟨pb, po + k, none⟩ = some (.bool true) ∧ w'.cell? ⟨qb, qo + k, none⟩ = some (.bool true)) (first | (simp [e1_3, e2_3]; done) | (simp [e1_2, e2_2, World.cell?_alloc_some, nu1, nu2]; done)) ((refine step_append_lies _ (by rfl) _ _ _ (by rfl) w3.heap.size 4 i0 (.bool false) 1 1 Try.underlying24 hi hz0 hz1 hz2 rfl (by decide) (.slice (some ⟨g4, 0, none⟩) k d4) k ((row (fun i => bitAt x i != bitAt y i) k).map Value.bool) (by rfl) (by first | exact (HW4.out _).drew | exact HW4.out _) ⟨u2_.heap.size, 0, none⟩ 1 1 [.bool false] (by rfl) (by rfl) (cell_one_new _ _ _) (by simp [Value.oneCell']) (by decide) (by unfold maxLen; omega) (by omega) (by simp; omega) (u2_.heap.size + 1) (by simp) ?_; intro p3 q3 u3_ hown hgrow hat hlt_; have HR3 := Lib.hid (show Rows u3_ w3.heap.size [⟨4, 1, p0, (k + 1), q0, (row (fun i => !bitAt x i) (k + 1)).map Value.bool⟩, ⟨4, 1, p1, (k + 1), q1, (row (fun i => bitAt x i && bitAt y i) (k + 1)).map Value.bool⟩, ⟨4, 1, p2, (k + 1), q2, (row (fun i => bitAt x i || bitAt y i) (k + 1)).map Value.bool⟩, ⟨4, 1, p3, (k + 1), q3, (row (fun i => bitAt x i != bitAt y i) (k + 1)).map Value.bool⟩, ⟨4, 1, g5, k, d5, (row (muxF 0 x y) k).map Value.bool⟩] from Rows.step (j := 3) (HR2.out.alloc _).drew rfl hgrow (show Rw.Own ⟨4, 1, p3, k + 1, q3, _⟩ _ _ from by rw [← HS3.out]; exact hown) (by have := Rows.lies hat; simpa using this)); have HB3 := Lib.hid (show Below w3.heap.size w3 u3_ from Rows.below (j := 3) (HB2.out.alloc (by omega) _).drew (by simp; omega) (HR2.out.alloc _).drew rfl hgrow); have zu3_ := HB3.out.size; have e1_3 : u3_.cell? ⟨pb, po + k, none⟩ = some (.bool true) := (HB3.out.cell hpb3).trans ((HP3.out k hlt).trans (by rw [HPk.out])); have e2_3 : u3_.cell? ⟨qb, qo + k, none⟩ = some (.bool true) := (HB3.out.cell hqb).trans ((HQ.out k hlt).trans (by rw [HQk.out])); clear hown hgrow hat hlt_))
          go_wp2_with (at_builtin; refine wpList_append_lies _ rfl _ _ 24 rfl w3.heap.size 4 i0 (.bool false) 1 1 Try.underlying24 hi hz0 hz1 hz2 rfl (by decide) (.slice (some ⟨g5, 0, none⟩) k d5) k ((row (muxF 0 x y) k).map Value.bool) rfl (World.ownsRow.alloc (HR3.out.at 4 rfl) _) ⟨u3_.heap.size, 0, none⟩ 1 1 [.bool true] rfl rfl (cell_one_new _ _ _) (by simp [Value.oneCell']) (by decide) (by unfold maxLen; omega) (by omega) (by simp; omega) (u3_.heap.size + 1) (by simp) ?_)
          intro p4 q4 u4_ hown hgrow hat hlt_
          have HR4 := Lib.hid (show Rows u4_ w3.heap.size [⟨4, 1, p0, (k + 1), q0, (row (fun i => !bitAt x i) (k + 1)).map Value.bool⟩, ⟨4, 1, p1, (k + 1), q1, (row (fun i => bitAt x i && bitAt y i) (k + 1)).map Value.bool⟩, ⟨4, 1, p2, (k + 1), q2, (row (fun i => bitAt x i || bitAt y i) (k + 1)).map Value.bool⟩, ⟨4, 1, p3, (k + 1), q3, (row (fun i => bitAt x i != bitAt y i) (k + 1)).map Value.bool⟩, ⟨4, 1, p4, (k + 1), q4, (row (muxF 0 x y) (k + 1)).map Value.bool⟩] from Rows.step (j := 4) (HR3.out.alloc _) rfl hgrow (show Rw.Own ⟨4, 1, p4, k + 1, q4, _⟩ _ _ from by rw [← HS4.out]; exact hown) (by have := Rows.lies hat; simpa using this))
          have HB4 := Lib.hid (show Below w3.heap.size w3 u4_ from Rows.below (j := 4) (HB3.out.alloc (by omega) _) (by simp; omega) (HR3.out.alloc _) rfl hgrow)
          have zu4_ := HB4.out.size
          have e1_4 : u4_.cell? ⟨pb, po + k, none⟩ = some (.bool true) := (HB4.out.cell hpb3).trans ((HP3.out k hlt).trans (by rw [HPk.out]))
          have e2_4 : u4_.cell? ⟨qb, qo + k, none⟩ = some (.bool true) := (HB4.out.cell hqb).trans ((HQ.out k hlt).trans (by rw [HQk.out]))
          clear hown hgrow hat hlt_
          go_wp2
          exact ⟨⟨HB4.out, k + 1, p0, p1, p2, p3, p4, q0, q1, q2, q3, q4, by omega, by go_num, rfl, rfl, rfl, rfl, rfl, HR4.out⟩, by simp [intOf]; omega⟩
        | false =>
          have HS0 := Lib.hid (row_snoc (fun i => !bitAt x i) k false (by simp [muxF, hP, hQ]))
          have HS1 := Lib.hid (row_snoc (fun i => bitAt x i && bitAt y i) k false (by simp [muxF, hP, hQ]))
          have HS2 := Lib.hid (row_snoc (fun i => bitAt x i || bitAt y i) k true (by simp [muxF, hP, hQ]))
          have HS3 := Lib.hid (row_snoc (fun i => bitAt x i != bitAt y i) k true (by simp [muxF, hP, hQ]))
          have HS4 := Lib.hid (row_snoc (muxF 0 x y) k false (by simp [muxF, hP, hQ]))
          have e1 : wr.cell? ⟨pb, po + k, none⟩ = some (.bool true) := (HB.out.cell hpb3).trans ((HP3.out k hlt).trans (by rw [hP]))
          have e2 : wr.cell? ⟨qb, qo + k, none⟩ = some (.bool false) := (HB.out.cell hqb).trans ((HQ.out k hlt).trans (by rw [hQ]))
          have HPk := Lib.hid hP
          have HQk := Lib.hid hQ
          clear hP hQ
          go_wp2_with (at_builtin; refine wpList_append_lies _ rfl _ _ 24 rfl w3.heap.size 4 i0 (.bool false) 1 1 Try.underlying24 hi hz0 hz1 hz2 rfl (by decide) (.slice (some ⟨g1, 0, none⟩) k d1) k ((row (fun i => !bitAt x i) k).map Value.bool) rfl (World.ownsRow.alloc (HR.out.at 0 rfl) _) ⟨wr.heap.size, 0, none⟩ 1 1 [.bool false] rfl rfl (cell_one_new _ _ _) (by simp [Value.oneCell']) (by decide) (by unfold maxLen; omega) (by omega) (by simp; omega) (wr.heap.size + 1) (by simp) ?_)
          intro p0 q0 u0_ hown hgrow hat hlt_
          have HR0 := Lib.hid (show Rows u0_ w3.heap.size [⟨4, 1, p0, (k + 1), q0, (row (fun i => !bitAt x i) (k + 1)).map Value.bool⟩, ⟨4, 1, g2, k, d2, (row (fun i => bitAt x i && bitAt y i) k).map Value.bool⟩, ⟨4, 1, g3, k, d3, (row (fun i => bitAt x i || bitAt y i) k).map Value.bool⟩, ⟨4, 1, g4, k, d4, (row (fun i => bitAt x i != bitAt y i) k).map Value.bool⟩, ⟨4, 1, g5, k, d5, (row (muxF 0 x y) k).map Value.bool⟩] from Rows.step (j := 0) (HR.out.alloc _) rfl hgrow (show Rw.Own ⟨4, 1, p0, k + 1, q0, _⟩ _ _ from by rw [← HS0.out]; exact hown) (by have := Rows.lies hat; simpa using this))
          have HB0 := Lib.hid (show Below w3.heap.size w3 u0_ from Rows.below (j := 0) (HB.out.alloc (by omega) _) (by simp; omega) (HR.out.alloc _) rfl hgrow)
          have zu0_ := HB0.out.size
          have e1_0 : u0_.cell? ⟨pb, po + k, none⟩ = some (.bool true) := (HB0.out.cell hpb3).trans ((HP3.out k hlt).trans (by rw [HPk.out]))
          have e2_0 : u0_.cell? ⟨qb, qo + k, none⟩ = some (.bool false) := (HB0.out.cell hqb).trans ((HQ.out k hlt).trans (by rw [HQk.out]))
          clear hown hgrow hat hlt_
          go_wp2_with (at_builtin; refine wpList_append_lies _ rfl _ _ 24 rfl w3.heap.size 4 i0 (.bool false) 1 1 Try.underlying24 hi hz0 hz1 hz2 rfl (by decide) (.slice (some ⟨g2, 0, none⟩) k d2) k ((row (fun i => bitAt x i && bitAt y i) k).map Value.bool) rfl (World.ownsRow.alloc (HR0.out.at 1 rfl) _) ⟨u0_.heap.size, 0, none⟩ 1 1 [.bool false] rfl rfl (cell_one_new _ _ _) (by simp [Value.oneCell']) (by decide) (by unfold maxLen; omega) (by omega) (by simp; omega) (u0_.heap.size + 1) (by simp) ?_)
          intro p1 q1 u1_ hown hgrow hat hlt_
          have HR1 := Lib.hid (show Rows u1_ w3.heap.size [⟨4, 1, p0, (k + 1), q0, (row (fun i => !bitAt x i) (k + 1)).map Value.bool⟩, ⟨4, 1, p1, (k + 1), q1, (row (fun i => bitAt x i && bitAt y i) (k + 1)).map Value.bool⟩, ⟨4, 1, g3, k, d3, (row (fun i => bitAt x i || bitAt y i) k).map Value.bool⟩, ⟨4, 1, g4, k, d4, (row (fun i => bitAt x i != bitAt y i) k).map Value.bool⟩, ⟨4, 1, g5, k, d5, (row (muxF 0 x y) k).map Value.bool⟩] from Rows.step (j := 1) (HR0.out.alloc _) rfl hgrow (show Rw.Own ⟨4, 1, p1, k + 1, q1, _⟩ _ _ from by rw [← HS1.out]; exact hown) (by have := Rows.lies hat; simpa using this))
          have HB1 := Lib.hid (show Below w3.heap.size w3 u1_ from Rows.below (j := 1) (HB0.out.alloc (by omega) _) (by simp; omega) (HR0.out.alloc _) rfl hgrow)
          have zu1_ := HB1.out.size
          have e1_1 : u1_.cell? ⟨pb, po + k, none⟩ = some (.bool true) := (HB1.out.cell hpb3).trans ((HP3.out k hlt).trans (by rw [HPk.out]))
          have e2_1 : u1_.cell? ⟨qb, qo + k, none⟩ = some (.bool false) := (HB1.out.cell hqb).trans ((HQ.out k hlt).trans (by rw [HQk.out]))
          clear hown hgrow hat hlt_
          go_wp2_with (at_builtin; refine wpList_append_lies _ rfl _ _ 24 rfl w3.heap.size 4 i0 (.bool false) 1 1 Try.underlying24 hi hz0 hz1 hz2 rfl (by decide) (.slice (some ⟨g3, 0, none⟩) k d3) k ((row (fun i => bitAt x i || bitAt y i) k).map Value.bool) rfl (World.ownsRow.alloc (HR1.out.at 2 rfl) _) ⟨u1_.heap.size, 0, none⟩ 1 1 [.bool true] rfl rfl (cell_one_new _ _ _) (by simp [Value.oneCell']) (by decide) (by unfold maxLen; omega) (by omega) (by simp; omega) (u1_.heap.size + 1) (by simp) ?_)
          intro p2 q2 u2_ hown hgrow hat hlt_
          have HR2 := Lib.hid (show Rows u2_ w3.heap.size [⟨4, 1, p0, (k + 1), q0, (row (fun i => !bitAt x i) (k + 1)).map Value.bool⟩, ⟨4, 1, p1, (k + 1), q1, (row (fun i => bitAt x i && bitAt y i) (k + 1)).map Value.bool⟩, ⟨4, 1, p2, (k + 1), q2, (row (fun i => bitAt x i || bitAt y i) (k + 1)).map Value.bool⟩, ⟨4, 1, g4, k, d4, (row (fun i => bitAt x i != bitAt y i) k).map Value.bool⟩, ⟨4, 1, g5, k, d5, (row (muxF 0 x y) k).map Value.bool⟩] from Rows.step (j := 2) (HR1.out.alloc _) rfl hgrow (show Rw.Own ⟨4, 1, p2, k + 1, q2, _⟩ _ _ from by rw [← HS2.out]; exact hown) (by have := Rows.lies hat; simpa using this))
          have HB2 := Lib.hid (show Below w3.heap.size w3 u2_ from Rows.below (j := 2) (HB1.out.alloc (by omega) _) (by simp; omega) (HR1.out.alloc _) rfl hgrow)
          have zu2_ := HB2.out.size
          have e1_2 : u2_.cell? ⟨pb, po + k, none⟩ = some (.bool true) := (HB2.out.cell hpb3).trans ((HP3.out k hlt).trans (by rw [HPk.out]))
          have e2_2 : u2_.cell? ⟨qb, qo + k, none⟩ = some (.bool false) := (HB2.out.cell hqb).trans ((HQ.out k hlt).trans (by rw [HQk.out]))
          clear hown hgrow hat hlt_
          have nu1 := World.new_ne u2_ _ e1_2
          have nu2 := World.new_ne u2_ _ e2_2
          have HW4 := Lib.hid (fun o => World.ownsRow.alloc (show World.ownsRow u2_ w3.heap.size 4 1 (.slice (some ⟨g4, 0, none⟩) k d4) k ((row (fun i => bitAt x i != bitAt y i) k).map Value.bool) from HR2.out.at 3 rfl) o)
          go_wp2_with fail
          go_region_held3 (fun w' => w'.cell? ⟨pb, po + k, none⟩ = some (.bool true) ∧ w'.cell? ⟨qb, qo + k, none⟩ = some (.bool false)) (first | (simp [e1_3, e2_3]; done) | (simp [e1_2, e2_2, World.cell?_alloc_some, nu1, nu2]; done)) ((refine step_append_lies _ (by rfl) _ _ _ (by rfl) w3.heap.size 4 i0 (.bool false) 1 1 Try.underlying24 hi hz0 hz1 hz2 rfl (by decide) (.slice (some ⟨g4, 0, none⟩) k d4) k ((row (fun i => bitAt x i != bitAt y i) k).map Value.bool) (by rfl) (by first | exact (HW4.out _).drew | exact HW4.out _) ⟨u2_.heap.size, 0, none⟩ 1 1 [.bool true] (by rfl) (by rfl) (cell_one_new _ _ _) (by simp [Value.oneCell']) (by decide) (by unfold maxLen; omega) (by omega) (by simp; omega) (u2_.heap.size + 1) (by simp) ?_; intro p3 q3 u3_ hown hgrow hat hlt_; have HR3 := Lib.hid (show Rows u3_ w3.heap.size [⟨4, 1, p0, (k + 1), q0, (row (fun i => !bitAt x i) (k + 1)).map Value.bool⟩, ⟨4, 1, p1, (k + 1), q1, (row (fun i => bitAt x i && bitAt y i) (k + 1)).map Value.bool⟩, ⟨4, 1, p2, (k + 1), q2, (row (fun i => bitAt x i || bitAt y i) (k + 1)).map Value.bool⟩, ⟨4, 1, p3, (k + 1), q3, (row (fun i => bitAt x i != bitAt y i) (k + 1)).map Value.bool⟩, ⟨4, 1, g5, k, d5, (row (muxF 0 x y) k).map Value.bool⟩] from Rows.step (j := 3) (HR2.out.alloc _).drew rfl hgrow (show Rw.Own ⟨4, 1, p3, k + 1, q3, _⟩ _ _ from by rw [← HS3.out]; exact hown) (by have := Rows.lies hat; simpa using this)); have HB3 := Lib.hid (show Below w3.heap.size w3 u3_ from Rows.below (j := 3) (HB2.out.alloc (by omega) _).drew (by simp; omega) (HR2.out.alloc _).drew rfl hgrow); have zu3_ := HB3.out.size; have e1_3 : u3_.cell? ⟨pb, po + k, none⟩ = some (.bool true) := (HB3.out.cell hpb3).trans ((HP3.out k hlt).trans (by rw [HPk.out])); have e2_3 : u3_.cell? ⟨qb, qo + k, none⟩ = some (.bool false) := (HB3.out.cell hqb).trans ((HQ.out k hlt).trans (by rw [HQk.out])); clear hown hgrow hat hlt_))
          go_wp2_with (at_builtin; refine wpList_append_lies _ rfl _ _ 24 rfl w3.heap.size 4 i0 (.bool false) 1 1 Try.underlying24 hi hz0 hz1 hz2 rfl (by decide) (.slice (some ⟨g5, 0, none⟩) k d5) k ((row (muxF 0 x y) k).map Value.bool) rfl (World.ownsRow.alloc (HR3.out.at 4 rfl) _) ⟨u3_.heap.size, 0, none⟩ 1 1 [.bool false] rfl rfl (cell_one_new _ _ _) (by simp [Value.oneCell']) (by decide) (by unfold maxLen; omega) (by omega) (by simp; omega) (u3_.heap.size + 1) (by simp) ?_)
          intro p4 q4 u4_ hown hgrow hat hlt_
          have HR4 := Lib.hid (show Rows u4_ w3.heap.size [⟨4, 1, p0, (k + 1), q0, (row (fun i => !bitAt x i) (k + 1)).map Value.bool⟩, ⟨4, 1, p1, (k + 1), q1, (row (fun i => bitAt x i && bitAt y i) (k + 1)).map Value.bool⟩, ⟨4, 1, p2, (k + 1), q2, (row (fun i => bitAt x i || bitAt y i) (k + 1)).map Value.bool⟩, ⟨4, 1, p3, (k + 1), q3, (row (fun i => bitAt x i != bitAt y i) (k + 1)).map Value.bool⟩, ⟨4, 1, p4, (k + 1), q4, (row (muxF 0 x y) (k + 1)).map Value.bool⟩] from Rows.step (j := 4) (HR3.out.alloc _) rfl hgrow (show Rw.Own ⟨4, 1, p4, k + 1, q4, _⟩ _ _ from by rw [← HS4.out]; exact hown) (by have := Rows.lies hat; simpa using this))
          have HB4 := Lib.hid (show Below w3.heap.size w3 u4_ from Rows.below (j := 4) (HB3.out.alloc (by omega) _) (by simp; omega) (HR3.out.alloc _) rfl hgrow)
          have zu4_ := HB4.out.size
          have e1_4 : u4_.cell? ⟨pb, po + k, none⟩ = some (.bool true) := (HB4.out.cell hpb3).trans ((HP3.out k hlt).trans (by rw [HPk.out]))
          have e2_4 : u4_.cell? ⟨qb, qo + k, none⟩ = some (.bool false) := (HB4.out.cell hqb).trans ((HQ.out k hlt).trans (by rw [HQk.out]))
          clear hown hgrow hat hlt_
          go_wp2
          exact ⟨⟨HB4.out, k + 1, p0, p1, p2, p3, p4, q0, q1, q2, q3, q4, by omega, by go_num, rfl, rfl, rfl, rfl, rfl, HR4.out⟩, by simp [intOf]; omega⟩
      | false =>
        cases hQ : bitAt y k with
        | true =>
          have HS0 := Lib.hid (row_snoc (fun i => !bitAt x i) k true (by simp [muxF, hP, hQ]))
          have HS1 := Lib.hid (row_snoc (fun i => bitAt x i && bitAt y i) k false (by simp [muxF, hP, hQ]))
          have HS2 := Lib.hid (row_snoc (fun i => bitAt x i || bitAt y i) k true (by simp [muxF, hP, hQ]))
          have HS3 := Lib.hid (row_snoc (fun i => bitAt x i != bitAt y i) k true (by simp [muxF, hP, hQ]))
          have HS4 := Lib.hid (row_snoc (muxF 0 x y) k true (by simp [muxF, hP, hQ]))
          have e1 : wr.cell? ⟨pb, po + k, none⟩ = some (.bool false) := (HB.out.cell hpb3).trans ((HP3.out k hlt).trans (by rw [hP]))
          have e2 : wr.cell? ⟨qb, qo + k, none⟩ = some (.bool true) := (HB.out.cell hqb).trans ((HQ.out k hlt).trans (by rw [hQ]))
          have HPk := Lib.hid hP
          have HQk := Lib.hid hQ
          clear hP hQ
          go_wp2_with (at_builtin; refine wpList_append_lies _ rfl _ _ 24 rfl w3.heap.size 4 i0 (.bool false) 1 1 Try.underlying24 hi hz0 hz1 hz2 rfl (by decide) (.slice (some ⟨g1, 0, none⟩) k d1) k ((row (fun i => !bitAt x i) k).map Value.bool) rfl (World.ownsRow.alloc (HR.out.at 0 rfl) _) ⟨wr.heap.size, 0, none⟩ 1 1 [.bool true] rfl rfl (cell_one_new _ _ _) (by simp [Value.oneCell']) (by decide) (by unfold maxLen; omega) (by omega) (by simp; omega) (wr.heap.size + 1) (by simp) ?_)
          intro p0 q0 u0_ hown hgrow hat hlt_
          have HR0 := Lib.hid (show Rows u0_ w3.heap.size [⟨4, 1, p0, (k + 1), q0, (row (fun i => !bitAt x i) (k + 1)).map Value.bool⟩, ⟨4, 1, g2, k, d2, (row (fun i => bitAt x i && bitAt y i) k).map Value.bool⟩, ⟨4, 1, g3, k, d3, (row (fun i => bitAt x i || bitAt y i) k).map Value.bool⟩, ⟨4, 1, g4, k, d4, (row (fun i => bitAt x i != bitAt y i) k).map Value.bool⟩, ⟨4, 1, g5, k, d5, (row (muxF 0 x y) k).map Value.bool⟩] from Rows.step (j := 0) (HR.out.alloc _) rfl hgrow (show Rw.Own ⟨4, 1, p0, k + 1, q0, _⟩ _ _ from by rw [← HS0.out]; exact hown) (by have := Rows.lies hat; simpa using this))
          have HB0 := Lib.hid (show Below w3.heap.size w3 u0_ from Rows.below (j := 0) (HB.out.alloc (by omega) _) (by simp; omega) (HR.out.alloc _) rfl hgrow)
          have zu0_ := HB0.out.size
          have e1_0 : u0_.cell? ⟨pb, po + k, none⟩ = some (.bool false) := (HB0.out.cell hpb3).trans ((HP3.out k hlt).trans (by rw [HPk.out]))
          have e2_0 : u0_.cell? ⟨qb, qo + k, none⟩ = some (.bool true) := (HB0.out.cell hqb).trans ((HQ.out k hlt).trans (by rw [HQk.out]))
          clear hown hgrow hat hlt_
          go_wp2_with (at_builtin; refine wpList_append_lies _ rfl _ _ 24 rfl w3.heap.size 4 i0 (.bool false) 1 1 Try.underlying24 hi hz0 hz1 hz2 rfl (by decide) (.slice (some ⟨g2, 0, none⟩) k d2) k ((row (fun i => bitAt x i && bitAt y i) k).map Value.bool) rfl (World.ownsRow.alloc (HR0.out.at 1 rfl) _) ⟨u0_.heap.size, 0, none⟩ 1 1 [.bool false] rfl rfl (cell_one_new _ _ _) (by simp [Value.oneCell']) (by decide) (by unfold maxLen; omega) (by omega) (by simp; omega) (u0_.heap.size + 1) (by simp) ?_)
          intro p1 q1 u1_ hown hgrow hat hlt_
          have HR1 := Lib.hid (show Rows u1_ w3.heap.size [⟨4, 1, p0, (k + 1), q0, (row (fun i => !bitAt x i) (k + 1)).map Value.bool⟩, ⟨4, 1, p1, (k + 1), q1, (row (fun i => bitAt x i && bitAt y i) (k + 1)).map Value.bool⟩, ⟨4, 1, g3, k, d3, (row (fun i => bitAt x i || bitAt y i) k).map Value.bool⟩, ⟨4, 1, g4, k, d4, (row (fun i => bitAt x i != bitAt y i) k).map Value.bool⟩, ⟨4, 1, g5, k, d5, (row (muxF 0 x y) k).map Value.bool⟩] from Rows.step (j := 1) (HR0.out.alloc _) rfl hgrow (show Rw.Own ⟨4, 1, p1, k + 1, q1, _⟩ _ _ from by rw [← HS1.out]; exact hown) (by have := Rows.lies hat; simpa using this))
          have HB1 := Lib.hid (show Below w3.heap.size w3 u1_ from Rows.below (j := 1) (HB0.out.alloc (by omega) _) (by simp; omega) (HR0.out.alloc _) rfl hgrow)
          have zu1_ := HB1.out.size
          have e1_1 : u1_.cell? ⟨pb, po + k, none⟩ = some (.bool false) := (HB1.out.cell hpb3).trans ((HP3.out k hlt).trans (by rw [HPk.out]))
          have e2_1 : u1_.cell? ⟨qb, qo + k, none⟩ = some (.bool true) := (HB1.out.cell hqb).trans ((HQ.out k hlt).trans (by rw [HQk.out]))
          clear hown hgrow hat hlt_
          go_wp2_with (at_builtin; refine wpList_append_lies _ rfl _ _ 24 rfl w3.heap.size 4 i0 (.bool false) 1 1 Try.underlying24 hi hz0 hz1 hz2 rfl (by decide) (.slice (some ⟨g3, 0, none⟩) k d3) k ((row (fun i => bitAt x i || bitAt y i) k).map Value.bool) rfl (World.ownsRow.alloc (HR1.out.at 2 rfl) _) ⟨u1_.heap.size, 0, none⟩ 1 1 [.bool true] rfl rfl (cell_one_new _ _ _) (by simp [Value.oneCell']) (by decide) (by unfold maxLen; omega) (by omega) (by simp; omega) (u1_.heap.size + 1) (by simp) ?_)
          intro p2 q2 u2_ hown hgrow hat hlt_
          have HR2 := Lib.hid (show Rows u2_ w3.heap.size [⟨4, 1, p0, (k + 1), q0, (row (fun i => !bitAt x i) (k + 1)).map Value.bool⟩, ⟨4, 1, p1, (k + 1), q1, (row (fun i => bitAt x i && bitAt y i) (k + 1)).map Value.bool⟩, ⟨4, 1, p2, (k + 1), q2, (row (fun i => bitAt x i || bitAt y i) (k + 1)).map Value.bool⟩, ⟨4, 1, g4, k, d4, (row (fun i => bitAt x i != bitAt y i) k).map Value.bool⟩, ⟨4, 1, g5, k, d5, (row (muxF 0 x y) k).map Value.bool⟩] from Rows.step (j := 2) (HR1.out.alloc _) rfl hgrow (show Rw.Own ⟨4, 1, p2, k + 1, q2, _⟩ _ _ from by rw [← HS2.out]; exact hown) (by have := Rows.lies hat; simpa using this))
          have HB2 := Lib.hid (show Below w3.heap.size w3 u2_ from Rows.below (j := 2) (HB1.out.alloc (by omega) _) (by simp; omega) (HR1.out.alloc _) rfl hgrow)
          have zu2_ := HB2.out.size
          have e1_2 : u2_.cell? ⟨pb, po + k, none⟩ = some (.bool false) := (HB2.out.cell hpb3).trans ((HP3.out k hlt).trans (by rw [HPk.out]))
          have e2_2 : u2_.cell? ⟨qb, qo + k, none⟩ = some (.bool true) := (HB2.out.cell hqb).trans ((HQ.out k hlt).trans (by rw [HQk.out]))
          clear hown hgrow hat hlt_
          have nu1 := World.new_ne u2_ _ e1_2
          have nu2 := World.new_ne u2_ _ e2_2
          have HW4 := Lib.hid (fun o => World.ownsRow.alloc (show World.ownsRow u2_ w3.heap.size 4 1 (.slice (some ⟨g4, 0, none⟩) k d4) k ((row (fun i => bitAt x i != bitAt y i) k).map Value.bool) from HR2.out.at 3 rfl) o)
          go_wp2_with fail
          go_region_held3 (fun w' => w'.cell? ⟨pb, po + k, none⟩ = some (.bool false) ∧ w'.cell? ⟨qb, qo + k, none⟩ = some (.bool true)) (first | (simp [e1_3, e2_3]; done) | (simp [e1_2, e2_2, World.cell?_alloc_some, nu1, nu2]; done)) ((refine step_append_lies _ (by rfl) _ _ _ (by rfl) w3.heap.size 4 i0 (.bool false) 1 1 Try.underlying24 hi hz0 hz1 hz2 rfl (by decide) (.slice (some ⟨g4, 0, none⟩) k d4) k ((row (fun i => bitAt x i != bitAt y i) k).map Value.bool) (by rfl) (by first | exact (HW4.out _).drew | exact HW4.out _) ⟨u2_.heap.size, 0, none⟩ 1 1 [.bool true] (by rfl) (by rfl) (cell_one_new _ _ _) (by simp [Value.oneCell']) (by decide) (by unfold maxLen; omega) (by omega) (by simp; omega) (u2_.heap.size + 1) (by simp) ?_; intro p3 q3 u3_ hown hgrow hat hlt_; have HR3 := Lib.hid (show Rows u3_ w3.heap.size [⟨4, 1, p0, (k + 1), q0, (row (fun i => !bitAt x i) (k + 1)).map Value.bool⟩, ⟨4, 1, p1, (k + 1), q1, (row (fun i => bitAt x i && bitAt y i) (k + 1)).map Value.bool⟩, ⟨4, 1, p2, (k + 1), q2, (row (fun i => bitAt x i || bitAt y i) (k + 1)).map Value.bool⟩, ⟨4, 1, p3, (k + 1), q3, (row (fun i => bitAt x i != bitAt y i) (k + 1)).map Value.bool⟩, ⟨4, 1, g5, k, d5, (row (muxF 0 x y) k).map Value.bool⟩] from Rows.step (j := 3) (HR2.out.alloc _).drew rfl hgrow (show Rw.Own ⟨4, 1, p3, k + 1, q3, _⟩ _ _ from by rw [← HS3.out]; exact hown) (by have := Rows.lies hat; simpa using this)); have HB3 := Lib.hid (show Below w3.heap.size w3 u3_ from Rows.below (j := 3) (HB2.out.alloc (by omega) _).drew (by simp; omega) (HR2.out.alloc _).drew rfl hgrow); have zu3_ := HB3.out.size; have e1_3 : u3_.cell? ⟨pb, po + k, none⟩ = some (.bool false) := (HB3.out.cell hpb3).trans ((HP3.out k hlt).trans (by rw [HPk.out])); have e2_3 : u3_.cell? ⟨qb, qo + k, none⟩ = some (.bool true) := (HB3.out.cell hqb).trans ((HQ.out k hlt).trans (by rw [HQk.out])); clear hown hgrow hat hlt_))
          go_wp2_with (at_builtin; refine wpList_append_lies _ rfl _ _ 24 rfl w3.heap.size 4 i0 (.bool false) 1 1 Try.underlying24 hi hz0 hz1 hz2 rfl (by decide) (.slice (some ⟨g5, 0, none⟩) k d5) k ((row (muxF 0 x y) k).map Value.bool) rfl (World.ownsRow.alloc (HR3.out.at 4 rfl) _) ⟨u3_.heap.size, 0, none⟩ 1 1 [.bool true] rfl rfl (cell_one_new _ _ _) (by simp [Value.oneCell']) (by decide) (by unfold maxLen; omega) (by omega) (by simp; omega) (u3_.heap.size + 1) (by simp) ?_)
          intro p4 q4 u4_ hown hgrow hat hlt_
          have HR4 := Lib.hid (show Rows u4_ w3.heap.size [⟨4, 1, p0, (k + 1), q0, (row (fun i => !bitAt x i) (k + 1)).map Value.bool⟩, ⟨4, 1, p1, (k + 1), q1, (row (fun i => bitAt x i && bitAt y i) (k + 1)).map Value.bool⟩, ⟨4, 1, p2, (k + 1), q2, (row (fun i => bitAt x i || bitAt y i) (k + 1)).map Value.bool⟩, ⟨4, 1, p3, (k + 1), q3, (row (fun i => bitAt x i != bitAt y i) (k + 1)).map Value.bool⟩, ⟨4, 1, p4, (k + 1), q4, (row (muxF 0 x y) (k + 1)).map Value.bool⟩] from Rows.step (j := 4) (HR3.out.alloc _) rfl hgrow (show Rw.Own ⟨4, 1, p4, k + 1, q4, _⟩ _ _ from by rw [← HS4.out]; exact hown) (by have := Rows.lies hat; simpa using this))
          have HB4 := Lib.hid (show Below w3.heap.size w3 u4_ from Rows.below (j := 4) (HB3.out.alloc (by omega) _) (by simp; omega) (HR3.out.alloc _) rfl hgrow)
          have zu4_ := HB4.out.size
          have e1_4 : u4_.cell? ⟨pb, po + k, none⟩ = some (.bool false) := (HB4.out.cell hpb3).trans ((HP3.out k hlt).trans (by rw [HPk.out]))
          have e2_4 : u4_.cell? ⟨qb, qo + k, none⟩ = some (.bool true) := (HB4.out.cell hqb).trans ((HQ.out k hlt).trans (by rw [HQk.out]))
          clear hown hgrow hat hlt_
          go_wp2
          exact ⟨⟨HB4.out, k + 1, p0, p1, p2, p3, p4, q0, q1, q2, q3, q4, by omega, by go_num, rfl, rfl, rfl, rfl, rfl, HR4.out⟩, by simp [intOf]; omega⟩
        | false =>
          have HS0 := Lib.hid (row_snoc (fun i => !bitAt x i) k true (by simp [muxF, hP, hQ]))
          have HS1 := Lib.hid (row_snoc (fun i => bitAt x i && bitAt y i) k false (by simp [muxF, hP, hQ]))
          have HS2 := Lib.hid (row_snoc (fun i => bitAt x i || bitAt y i) k false (by simp [muxF, hP, hQ]))
          have HS3 := Lib.hid (row_snoc (fun i => bitAt x i != bitAt y i) k false (by simp [muxF, hP, hQ]))
          have HS4 := Lib.hid (row_snoc (muxF 0 x y) k false (by simp [muxF, hP, hQ]))
          have e1 : wr.cell? ⟨pb, po + k, none⟩ = some (.bool false) := (HB.out.cell hpb3).trans ((HP3.out k hlt).trans (by rw [hP]))
          have e2 : wr.cell? ⟨qb, qo + k, none⟩ = some (.bool false) := (HB.out.cell hqb).trans ((HQ.out k hlt).trans (by rw [hQ]))
          have HPk := Lib.hid hP
          have HQk := Lib.hid hQ
          clear hP hQ
          go_wp2_with (at_builtin; refine wpList_append_lies _ rfl _ _ 24 rfl w3.heap.size 4 i0 (.bool false) 1 1 Try.underlying24 hi hz0 hz1 hz2 rfl (by decide) (.slice (some ⟨g1, 0, none⟩) k d1) k ((row (fun i => !bitAt x i) k).map Value.bool) rfl (World.ownsRow.alloc (HR.out.at 0 rfl) _) ⟨wr.heap.size, 0, none⟩ 1 1 [.bool true] rfl rfl (cell_one_new _ _ _) (by simp [Value.oneCell']) (by decide) (by unfold maxLen; omega) (by omega) (by simp; omega) (wr.heap.size + 1) (by simp) ?_)
          intro p0 q0 u0_ hown hgrow hat hlt_
          have HR0 := Lib.hid (show Rows u0_ w3.heap.size [⟨4, 1, p0, (k + 1), q0, (row (fun i => !bitAt x i) (k + 1)).map Value.bool⟩, ⟨4, 1, g2, k, d2, (row (fun i => bitAt x i && bitAt y i) k).map Value.bool⟩, ⟨4, 1, g3, k, d3, (row (fun i => bitAt x i || bitAt y i) k).map Value.bool⟩, ⟨4, 1, g4, k, d4, (row (fun i => bitAt x i != bitAt y i) k).map Value.bool⟩, ⟨4, 1, g5, k, d5, (row (muxF 0 x y) k).map Value.bool⟩] from Rows.step (j := 0) (HR.out.alloc _) rfl hgrow (show Rw.Own ⟨4, 1, p0, k + 1, q0, _⟩ _ _ from by rw [← HS0.out]; exact hown) (by have := Rows.lies hat; simpa using this))
          have HB0 := Lib.hid (show Below w3.heap.size w3 u0_ from Rows.below (j := 0) (HB.out.alloc (by omega) _) (by simp; omega) (HR.out.alloc _) rfl hgrow)
          have zu0_ := HB0.out.size
          have e1_0 : u0_.cell? ⟨pb, po + k, none⟩ = some (.bool false) := (HB0.out.cell hpb3).trans ((HP3.out k hlt).trans (by rw [HPk.out]))
          have e2_0 : u0_.cell? ⟨qb, qo + k, none⟩ = some (.bool false) := (HB0.out.cell hqb).trans ((HQ.out k hlt).trans (by rw [HQk.out]))
          clear hown hgrow hat hlt_
          go_wp2_with (at_builtin; refine wpList_append_lies _ rfl _ _ 24 rfl w3.heap.size 4 i0 (.bool false) 1 1 Try.underlying24 hi hz0 hz1 hz2 rfl (by decide) (.slice (some ⟨g2, 0, none⟩) k d2) k ((row (fun i => bitAt x i && bitAt y i) k).map Value.bool) rfl (World.ownsRow.alloc (HR0.out.at 1 rfl) _) ⟨u0_.heap.size, 0, none⟩ 1 1 [.bool false] rfl rfl (cell_one_new _ _ _) (by simp [Value.oneCell']) (by decide) (by unfold maxLen; omega) (by omega) (by simp; omega) (u0_.heap.size + 1) (by simp) ?_)
          intro p1 q1 u1_ hown hgrow hat hlt_
          have HR1 := Lib.hid (show Rows u1_ w3.heap.size [⟨4, 1, p0, (k + 1), q0, (row (fun i => !bitAt x i) (k + 1)).map Value.bool⟩, ⟨4, 1, p1, (k + 1), q1, (row (fun i => bitAt x i && bitAt y i) (k + 1)).map Value.bool⟩, ⟨4, 1, g3, k, d3, (row (fun i => bitAt x i || bitAt y i) k).map Value.bool⟩, ⟨4, 1, g4, k, d4, (row (fun i => bitAt x i != bitAt y i) k).map Value.bool⟩, ⟨4, 1, g5, k, d5, (row (muxF 0 x y) k).map Value.bool⟩] from Rows.step (j := 1) (HR0.out.alloc _) rfl hgrow (show Rw.Own ⟨4, 1, p1, k + 1, q1, _⟩ _ _ from by rw [← HS1.out]; exact hown) (by have := Rows.lies hat; simpa using this))
          have HB1 := Lib.hid (show Below w3.heap.size w3 u1_ from Rows.below (j := 1) (HB0.out.alloc (by omega) _) (by simp; omega) (HR0.out.alloc _) rfl hgrow)
          have zu1_ := HB1.out.size
          have e1_1 : u1_.cell? ⟨pb, po + k, none⟩ = some (.bool false) := (HB1.out.cell hpb3).trans ((HP3.out k hlt).trans (by rw [HPk.out]))
          have e2_1 : u1_.cell? ⟨qb, qo + k, none⟩ = some (.bool false) := (HB1.out.cell hqb).trans ((HQ.out k hlt).trans (by rw [HQk.out]))
          clear hown hgrow hat hlt_
          go_wp2_with (at_builtin; refine wpList_append_lies _ rfl _ _ 24 rfl w3.heap.size 4 i0 (.bool false) 1 1 Try.underlying24 hi hz0 hz1 hz2 rfl (by decide) (.slice (some ⟨g3, 0, none⟩) k d3) k ((row (fun i => bitAt x i || bitAt y i) k).map Value.bool) rfl (World.ownsRow.alloc (HR1.out.at 2 rfl) _) ⟨u1_.heap.size, 0, none⟩ 1 1 [.bool false] rfl rfl (cell_one_new _ _ _) (by simp [Value.oneCell']) (by decide) (by unfold maxLen; omega) (by omega) (by simp; omega) (u1_.heap.size + 1) (by simp) ?_)
          intro p2 q2 u2_ hown hgrow hat hlt_
          have HR2 := Lib.hid (show Rows u2_ w3.heap.size [⟨4, 1, p0, (k + 1), q0, (row (fun i => !bitAt x i) (k + 1)).map Value.bool⟩, ⟨4, 1, p1, (k + 1), q1, (row (fun i => bitAt x i && bitAt y i) (k + 1)).map Value.bool⟩, ⟨4, 1, p2, (k + 1), q2, (row (fun i => bitAt x i || bitAt y i) (k + 1)).map Value.bool⟩, ⟨4, 1, g4, k, d4, (row (fun i => bitAt x i != bitAt y i) k).map Value.bool⟩, ⟨4, 1, g5, k, d5, (row (muxF 0 x y) k).map Value.bool⟩] from Rows.step (j := 2) (HR1.out.alloc _) rfl hgrow (show Rw.Own ⟨4, 1, p2, k + 1, q2, _⟩ _ _ from by rw [← HS2.out]; exact hown) (by have := Rows.lies hat; simpa using this))
          have HB2 := Lib.hid (show Below w3.heap.size w3 u2_ from Rows.below (j := 2) (HB1.out.alloc (by omega) _) (by simp; omega) (HR1.out.alloc _) rfl hgrow)
          have zu2_ := HB2.out.size
          have e1_2 : u2_.cell? ⟨pb, po + k, none⟩ = some (.bool false) := (HB2.out.cell hpb3).trans ((HP3.out k hlt).trans (by rw [HPk.out]))
          have e2_2 : u2_.cell? ⟨qb, qo + k, none⟩ = some (.bool false) := (HB2.out.cell hqb).trans ((HQ.out k hlt).trans (by rw [HQk.out]))
          clear hown hgrow hat hlt_
          have nu1 := World.new_ne u2_ _ e1_2
          have nu2 := World.new_ne u2_ _ e2_2
          have HW4 := Lib.hid (fun o => World.ownsRow.alloc (show World.ownsRow u2_ w3.heap.size 4 1 (.slice (some ⟨g4, 0, none⟩) k d4) k ((row (fun i => bitAt x i != bitAt y i) k).map Value.bool) from HR2.out.at 3 rfl) o)
          go_wp2_with fail
          go_region_held3 (fun w' => w'.cell? ⟨pb, po + k, none⟩ = some (.bool false) ∧ w'.cell? ⟨qb, qo + k, none⟩ = some (.bool false)) (first | (simp [e1_3, e2_3]; done) | (simp [e1_2, e2_2, World.cell?_alloc_some, nu1, nu2]; done)) ((refine step_append_lies _ (by rfl) _ _ _ (by rfl) w3.heap.size 4 i0 (.bool false) 1 1 Try.underlying24 hi hz0 hz1 hz2 rfl (by decide) (.slice (some ⟨g4, 0, none⟩) k d4) k ((row (fun i => bitAt x i != bitAt y i) k).map Value.bool) (by rfl) (by first | exact (HW4.out _).drew | exact HW4.out _) ⟨u2_.heap.size, 0, none⟩ 1 1 [.bool false] (by rfl) (by rfl) (cell_one_new _ _ _) (by simp [Value.oneCell']) (by decide) (by unfold maxLen; omega) (by omega) (by simp; omega) (u2_.heap.size + 1) (by simp) ?_; intro p3 q3 u3_ hown hgrow hat hlt_; have HR3 := Lib.hid (show Rows u3_ w3.heap.size [⟨4, 1, p0, (k + 1), q0, (row (fun i => !bitAt x i) (k + 1)).map Value.bool⟩, ⟨4, 1, p1, (k + 1), q1, (row (fun i => bitAt x i && bitAt y i) (k + 1)).map Value.bool⟩, ⟨4, 1, p2, (k + 1), q2, (row (fun i => bitAt x i || bitAt y i) (k + 1)).map Value.bool⟩, ⟨4, 1, p3, (k + 1), q3, (row (fun i => bitAt x i != bitAt y i) (k + 1)).map Value.bool⟩, ⟨4, 1, g5, k, d5, (row (muxF 0 x y) k).map Value.bool⟩] from Rows.step (j := 3) (HR2.out.alloc _).drew rfl hgrow (show Rw.Own ⟨4, 1, p3, k + 1, q3, _⟩ _ _ from by rw [← HS3.out]; exact hown) (by have := Rows.lies hat; simpa using this)); have HB3 := Lib.hid (show Below w3.heap.size w3 u3_ from Rows.below (j := 3) (HB2.out.alloc (by omega) _).drew (by simp; omega) (HR2.out.alloc _).drew rfl hgrow); have zu3_ := HB3.out.size; have e1_3 : u3_.cell? ⟨pb, po + k, none⟩ = some (.bool false) := (HB3.out.cell hpb3).trans ((HP3.out k hlt).trans (by rw [HPk.out])); have e2_3 : u3_.cell? ⟨qb, qo + k, none⟩ = some (.bool false) := (HB3.out.cell hqb).trans ((HQ.out k hlt).trans (by rw [HQk.out])); clear hown hgrow hat hlt_))
          go_wp2_with (at_builtin; refine wpList_append_lies _ rfl _ _ 24 rfl w3.heap.size 4 i0 (.bool false) 1 1 Try.underlying24 hi hz0 hz1 hz2 rfl (by decide) (.slice (some ⟨g5, 0, none⟩) k d5) k ((row (muxF 0 x y) k).map Value.bool) rfl (World.ownsRow.alloc (HR3.out.at 4 rfl) _) ⟨u3_.heap.size, 0, none⟩ 1 1 [.bool false] rfl rfl (cell_one_new _ _ _) (by simp [Value.oneCell']) (by decide) (by unfold maxLen; omega) (by omega) (by simp; omega) (u3_.heap.size + 1) (by simp) ?_)
          intro p4 q4 u4_ hown hgrow hat hlt_
          have HR4 := Lib.hid (show Rows u4_ w3.heap.size [⟨4, 1, p0, (k + 1), q0, (row (fun i => !bitAt x i) (k + 1)).map Value.bool⟩, ⟨4, 1, p1, (k + 1), q1, (row (fun i => bitAt x i && bitAt y i) (k + 1)).map Value.bool⟩, ⟨4, 1, p2, (k + 1), q2, (row (fun i => bitAt x i || bitAt y i) (k + 1)).map Value.bool⟩, ⟨4, 1, p3, (k + 1), q3, (row (fun i => bitAt x i != bitAt y i) (k + 1)).map Value.bool⟩, ⟨4, 1, p4, (k + 1), q4, (row (muxF 0 x y) (k + 1)).map Value.bool⟩] from Rows.step (j := 4) (HR3.out.alloc _) rfl hgrow (show Rw.Own ⟨4, 1, p4, k + 1, q4, _⟩ _ _ from by rw [← HS4.out]; exact hown) (by have := Rows.lies hat; simpa using this))
          have HB4 := Lib.hid (show Below w3.heap.size w3 u4_ from Rows.below (j := 4) (HB3.out.alloc (by omega) _) (by simp; omega) (HR3.out.alloc _) rfl hgrow)
          have zu4_ := HB4.out.size
          have e1_4 : u4_.cell? ⟨pb, po + k, none⟩ = some (.bool false) := (HB4.out.cell hpb3).trans ((HP3.out k hlt).trans (by rw [HPk.out]))
          have e2_4 : u4_.cell? ⟨qb, qo + k, none⟩ = some (.bool false) := (HB4.out.cell hqb).trans ((HQ.out k hlt).trans (by rw [HQk.out]))
          clear hown hgrow hat hlt_
          go_wp2
          exact ⟨⟨HB4.out, k + 1, p0, p1, p2, p3, p4, q0, q1, q2, q3, q4, by omega, by go_num, rfl, rfl, rfl, rfl, rfl, HR4.out⟩, by simp [intOf]; omega⟩
    · obtain rfl : n = k := by omega
      have RB0 := Lib.hid (show RdB wr (some ⟨g1, 0, none⟩) (row (fun i => !bitAt x i) n) from rdb_ownrow (HR.out.at 0 rfl) rfl h8 rfl)
      have RC0 : n ≤ d1 := own_cap (HR.out.at 0 rfl)
      have RB1 := Lib.hid (show RdB wr (some ⟨g2, 0, none⟩) (row (fun i => bitAt x i && bitAt y i) n) from rdb_ownrow (HR.out.at 1 rfl) rfl h8 rfl)
      have RC1 : n ≤ d2 := own_cap (HR.out.at 1 rfl)
      have RB2 := Lib.hid (show RdB wr (some ⟨g3, 0, none⟩) (row (fun i => bitAt x i || bitAt y i) n) from rdb_ownrow (HR.out.at 2 rfl) rfl h8 rfl)
      have RC2 : n ≤ d3 := own_cap (HR.out.at 2 rfl)
      have RB3 := Lib.hid (show RdB wr (some ⟨g4, 0, none⟩) (row (fun i => bitAt x i != bitAt y i) n) from rdb_ownrow (HR.out.at 3 rfl) rfl h8 rfl)
      have RC3 : n ≤ d4 := own_cap (HR.out.at 3 rfl)
      have RB4 := Lib.hid (show RdB wr (some ⟨g5, 0, none⟩) (row (muxF 0 x y) n) from rdb_ownrow (HR.out.at 4 rfl) rfl h8 rfl)
      have RC4 : n ≤ d5 := own_cap (HR.out.at 4 rfl)
      have BF := Lib.hid (show Below W.heap.size W wr from (below_box B3.out).trans (HB.out.mono (by omega)))
      clear HP3 HQ
      go_wp2_with fail
      refine (apply_any 2 _ _ 1 1 [(n : Int)] [x] _ (rd_alloc (rd_at1 (by simp)) _) (rd_at1 (by simp))).mono ?_
      rintro e x1 ⟨rfl, hb⟩
      have X1 := Lib.hid (show Below wr.heap.size wr x1 from bel_call (by repeat (first | exact Below.refl _ _ | refine Below.drew ?_ | refine bel_drewN ?_ _ | refine Below.alloc ?_ (by first | omega | (simp; omega) | simp) _)) (by first | omega | (simp; omega) | simp) hb)
      have zx1 := X1.out.size
      clear hb
      go_wp2_with fail
      refine (Join_n g1 0 n d1 (row (fun i => !bitAt x i) n) r2 _ (row_length _ _) RC0 (RB0.out.below (by repeat (first | exact X1.out | refine Below.drew ?_ | refine bel_drewN ?_ _ | refine Below.alloc ?_ (by first | omega | (simp; omega) | simp) _))) j2.out).mono ?_
      rintro e w' ⟨rfl, rfl⟩
      go_wp2_with fail
      refine (two_any 3 n x y _).mono ?_
      rintro e x2 ⟨rfl, hb⟩
      have X2 := Lib.hid (show Below wr.heap.size wr x2 from bel_call (by repeat (first | exact X1.out | refine Below.drew ?_ | refine bel_drewN ?_ _ | refine Below.alloc ?_ (by first | omega | (simp; omega) | simp) _)) (by first | omega | (simp; omega) | simp) hb)
      have zx2 := X2.out.size
      clear hb
      go_wp2_with fail
      refine (Join_n g2 0 n d2 (row (fun i => bitAt x i && bitAt y i) n) r3 _ (row_length _ _) RC1 (RB1.out.below (by repeat (first | exact X2.out | refine Below.drew ?_ | refine bel_drewN ?_ _ | refine Below.alloc ?_ (by first | omega | (simp; omega) | simp) _))) j3.out).mono ?_
      rintro e w' ⟨rfl, rfl⟩
      go_wp2_with fail
      refine (two_any 4 n x y _).mono ?_
      rintro e x3 ⟨rfl, hb⟩
      have X3 := Lib.hid (show Below wr.heap.size wr x3 from bel_call (by repeat (first | exact X2.out | refine Below.drew ?_ | refine bel_drewN ?_ _ | refine Below.alloc ?_ (by first | omega | (simp; omega) | simp) _)) (by first | omega | (simp; omega) | simp) hb)
      have zx3 := X3.out.size
      clear hb
      go_wp2_with fail
      refine (Join_n g3 0 n d3 (row (fun i => bitAt x i || bitAt y i) n) r4 _ (row_length _ _) RC2 (RB2.out.below (by repeat (first | exact X3.out | refine Below.drew ?_ | refine bel_drewN ?_ _ | refine Below.alloc ?_ (by first | omega | (simp; omega) | simp) _))) j4.out).mono ?_
      rintro e w' ⟨rfl, rfl⟩
      go_wp2_with fail
      refine (two_any 5 n x y _).mono ?_
      rintro e x4 ⟨rfl, hb⟩
      have X4 := Lib.hid (show Below wr.heap.size wr x4 from bel_call (by repeat (first | exact X3.out | refine Below.drew ?_ | refine bel_drewN ?_ _ | refine Below.alloc ?_ (by first | omega | (simp; omega) | simp) _)) (by first | omega | (simp; omega) | simp) hb)
      have zx4 := X4.out.size
      clear hb
      go_wp2_with fail
      refine (Join_n g4 0 n d4 (row (fun i => bitAt x i != bitAt y i) n) r5 _ (row_length _ _) RC3 (RB3.out.below (by repeat (first | exact X4.out | refine Below.drew ?_ | refine bel_drewN ?_ _ | refine Below.alloc ?_ (by first | omega | (simp; omega) | simp) _))) j5.out).mono ?_
      rintro e w' ⟨rfl, rfl⟩
      go_wp2_with fail
      refine (apply_any 10 _ _ 3 3 [1, (n : Int), n] [0, x, y] _ (rd_alloc (rd_at3 (by simp)) _) (rd_at3 (by simp))).mono ?_
      rintro e x5 ⟨rfl, hb⟩
      have X5 := Lib.hid (show Below wr.heap.size wr x5 from bel_call (by repeat (first | exact X4.out | refine Below.drew ?_ | refine bel_drewN ?_ _ | refine Below.alloc ?_ (by first | omega | (simp; omega) | simp) _)) (by first | omega | (simp; omega) | simp) hb)
      have zx5 := X5.out.size
      clear hb
      go_wp2_with fail
      refine (Join_n g5 0 n d5 (row (muxF 0 x y) n) r10 _ (row_length _ _) RC4 (RB4.out.below (by repeat (first | exact X5.out | refine Below.drew ?_ | refine bel_drewN ?_ _ | refine Below.alloc ?_ (by first | omega | (simp; omega) | simp) _))) j10.out).mono ?_
      rintro e w' ⟨rfl, rfl⟩
      go_wp2
      go_ret
      exact ⟨rfl, BF.out.trans (X5.out.mono (by omega))⟩
set_option maxHeartbeats 8000000 in
set_option maxRecDepth 20000 in
theorem bitwise_1 (a b k0 k1 x y r2 r3 r4 r5 r10 : Int) (n : Nat) (W : World) (q0 : 0 ≤ k0 ∧ k0 ≤ 255) (q1 : 0 ≤ k1 ∧ k1 ≤ 255) (h1 : 1 ≤ n) (h8 : n ≤ 8) (eN : 1 + k0 % 8 = n) (eC : k1 % 2 = 1)
    (ex : Go.bits .and .i64 a (mask n) = x) (ey : Go.bits .and .i64 b (mask n) = y) (bx : 0 ≤ x ∧ x ≤ 255) (by_ : 0 ≤ y ∧ y ≤ 255) (ha : 0 ≤ a ∧ a ≤ 255) (hb0 : 0 ≤ b ∧ b ≤ 255)
    (jx : Hid (join (row (bitAt x) n) = x)) (jy : Hid (join (row (bitAt y) n) = y))
    (s2 : res 2 [(n : Int)] [x] [0, 0] = r2) (j2 : Hid (join (row (fun i => !bitAt x i) n) = r2)) (s3 : res 3 [(n : Int), n] [x, y] [0, 0] = r3) (j3 : Hid (join (row (fun i => bitAt x i && bitAt y i) n) = r3)) (s4 : res 4 [(n : Int), n] [x, y] [0, 0] = r4) (j4 : Hid (join (row (fun i => bitAt x i || bitAt y i) n) = r4))
    (s5 : res 5 [(n : Int), n] [x, y] [0, 0] = r5) (j5 : Hid (join (row (fun i => bitAt x i != bitAt y i) n) = r5)) (s10 : res 10 [1, (n : Int), n] [1, x, y] [0, 0] = r10) (j10 : Hid (join (row (muxF 1 x y) n) = r10)) :
    Calls Try.prog 8 #[.int .u8 a, .int .u8 b, .agg #[.int .u8 k0, .int .u8 k1]] W fun e W' => e = .returned (.bool true) ∧ Below W.heap.size W W' := by
  obtain ⟨i0, hi, hz0, hz1, hz2⟩ := info_parts infoB
  have n0 : (0 : Int) ≤ n := by omega
  have em1 : k0.tmod 8 = k0 % 8 := Int.tmod_eq_emod_of_nonneg q0.1
  have em2 : k1.tmod 2 = 1 := (Int.tmod_eq_emod_of_nonneg q1.1).trans eC
  have em3 : IntKind.i64.wrap (k0 % 8) = k0 % 8 := IntWalk.i64_in _ (by omega)
  have em4 : IntKind.i64.wrap (n : Int) = n := IntWalk.i64_in _ (by omega)
  have em5 : IntKind.i64.wrap 1 = 1 := rfl
  have hbx := Lib.hid (show -9223372036854775808 ≤ x ∧ x ≤ 9223372036854775807 by omega)
  have hby := Lib.hid (show -9223372036854775808 ≤ y ∧ y ≤ 9223372036854775807 by omega)
  go_enter Try.func8, Try.ntmps8
  go_wp2_with fail
  refine (examples_any _).mono ?_
  rintro e w1 ⟨rfl, hb⟩
  have B1 := Lib.hid (show Below (W.alloc (.cells #[.int .u8 k0, .int .u8 k1] 53)).heap.size (W.alloc (.cells #[.int .u8 k0, .int .u8 k1] 53)) w1 from hb)
  have z1 : W.heap.size + 1 ≤ w1.heap.size := by have := hb.size; simpa using this
  have c0 : w1.cell? ⟨W.heap.size, 0, none⟩ = some (.int .u8 k0) := (hb.cell (p := ⟨W.heap.size, 0, none⟩) (by simp)).trans (by simp)
  have c1 : w1.cell? ⟨W.heap.size, 1, none⟩ = some (.int .u8 k1) := (hb.cell (p := ⟨W.heap.size, 1, none⟩) (by simp)).trans (by simp)
  clear hb
  go_wp2
  go_quiet (fail)
  go_wp2_with (go_at_call 14; refine (Mask_any _ _).mono ?_; rintro e w' ⟨rfl, rfl⟩)
  refine (Split_n x n h1 h8 hbx.out _).mono ?_
  rintro e w2 ⟨⟨pb, po, pc, rfl, hpc, hpb, hp⟩, hb⟩
  have B2 := Lib.hid (show Below (W.alloc (.cells #[.int .u8 k0, .int .u8 k1] 53)).heap.size (W.alloc (.cells #[.int .u8 k0, .int .u8 k1] 53)) w2 from bel_call (by repeat (first | exact B1.out | refine Below.drew ?_ | refine bel_drewN ?_ _ | refine Below.alloc ?_ (by first | omega | (simp; omega) | simp) _)) (by first | omega | (simp; omega) | simp) hb)
  have HP := Lib.hid hp
  have z2 := hb.size
  (try simp at z2)
  clear hb hp c0 c1
  go_wp2_with fail
  refine (Split_n y n h1 h8 hby.out _).mono ?_
  rintro e w3 ⟨⟨qb, qo, qc, rfl, hqc, hqb, hq⟩, hb⟩
  have B3 := Lib.hid (show Below (W.alloc (.cells #[.int .u8 k0, .int .u8 k1] 53)).heap.size (W.alloc (.cells #[.int .u8 k0, .int .u8 k1] 53)) w3 from bel_call (by repeat (first | exact B2.out | refine Below.drew ?_ | refine bel_drewN ?_ _ | refine Below.alloc ?_ (by first | omega | (simp; omega) | simp) _)) (by first | omega | (simp; omega) | simp) hb)
  have HP3 := Lib.hid (fun j hj => (hb.cell (p := ⟨pb, po + j, none⟩) hpb).trans (HP.out j hj))
  have HQ := Lib.hid hq
  have z3 := hb.size
  (try simp at z3)
  have hpb3 : pb < w3.heap.size := by omega
  clear hb hq HP
  go_wp2_with fail
  refine (Join_n pb po n pc (row (bitAt x) n) x _ (row_length _ _) hpc (rdb_row h8 HP3.out) jx.out).mono ?_
  rintro e w' ⟨rfl, rfl⟩
  go_wp2_with fail
  refine (Join_n qb qo n qc (row (bitAt y) n) y _ (row_length _ _) hqc (rdb_row h8 HQ.out) jy.out).mono ?_
  rintro e w' ⟨rfl, rfl⟩
  go_wp2_with fail
  go_loopw [14, 15, 16, 17, 18, 19] (BwRel w3 n (fun i => !bitAt x i) (fun i => bitAt x i && bitAt y i) (fun i => bitAt x i || bitAt y i) (fun i => bitAt x i != bitAt y i) (muxF 1 x y)) (fun _ _ _ _ _ i _ => n - (intOf i).toNat)
  case atStart => exact bw_start w3 _ _ _ _ _ _ (Below.refl _ _) n rfl
  case round =>
    obtain ⟨hb, k, g1, g2, g3, g4, g5, d1, d2, d3, d4, d5, hk, rfl, rfl, rfl, rfl, rfl, rfl, hrows⟩ := hrel
    have HB := Lib.hid hb
    have HR := Lib.hid hrows
    have zr := hb.size
    clear hb hrows
    by_cases hlt : k < n
    · have dk0 : (0 : Int) ≤ k := by omega
      have dk1 : (k : Int) < n := by omega
      cases hP : bitAt x k with
      | true =>
        cases hQ : bitAt y k with
        | true =>
          have HS0 := Lib.hid (row_snoc (fun i => !bitAt x i) k false (by simp [muxF, hP, hQ]))
          have HS1 := Lib.hid (row_snoc (fun i => bitAt x i && bitAt y i) k true (by simp [muxF, hP, hQ]))
          have HS2 := Lib.hid (row_snoc (fun i => bitAt x i || bitAt y i) k true (by simp [muxF, hP, hQ]))
          have HS3 := Lib.hid (row_snoc (fun i => bitAt x i != bitAt y i) k false (by simp [muxF, hP, hQ]))
          have HS4 := Lib.hid (row_snoc (muxF 1 x y) k true (by simp [muxF, hP, hQ]))
          have e1 : wr.cell? ⟨pb, po + k, none⟩ = some (.bool true) := (HB.out.cell hpb3).trans ((HP3.out k hlt).trans (by rw [hP]))
          have e2 : wr.cell? ⟨qb, qo + k, none⟩ = some (.bool true) := (HB.out.cell hqb).trans ((HQ.out k hlt).trans (by rw [hQ]))
          have HPk := Lib.hid hP
          have HQk := Lib.hid hQ
          clear hP hQ
          go_wp2_with (at_builtin; refine wpList_append_lies _ rfl _ _ 24 rfl w3.heap.size 4 i0 (.bool false) 1 1 Try.underlying24 hi hz0 hz1 hz2 rfl (by decide) (.slice (some ⟨g1, 0, none⟩) k d1) k ((row (fun i => !bitAt x i) k).map Value.bool) rfl (World.ownsRow.alloc (HR.out.at 0 rfl) _) ⟨wr.heap.size, 0, none⟩ 1 1 [.bool false] rfl rfl (cell_one_new _ _ _) (by simp [Value.oneCell']) (by decide) (by unfold maxLen; omega) (by omega) (by simp; omega) (wr.heap.size + 1) (by simp) ?_)
          intro p0 q0 u0_ hown hgrow hat hlt_
          have HR0 := Lib.hid (show Rows u0_ w3.heap.size [⟨4, 1, p0, (k + 1), q0, (row (fun i => !bitAt x i) (k + 1)).map Value.bool⟩, ⟨4, 1, g2, k, d2, (row (fun i => bitAt x i && bitAt y i) k).map Value.bool⟩, ⟨4, 1, g3, k, d3, (row (fun i => bitAt x i || bitAt y i) k).map Value.bool⟩, ⟨4, 1, g4, k, d4, (row (fun i => bitAt x i != bitAt y i) k).map Value.bool⟩, ⟨4, 1, g5, k, d5, (row (muxF 1 x y) k).map Value.bool⟩] from Rows.step (j := 0) (HR.out.alloc _) rfl hgrow (show Rw.Own ⟨4, 1, p0, k + 1, q0, _⟩ _ _ from by rw [← HS0.out]; exact hown) (by have := Rows.lies hat; simpa using this))
          have HB0 := Lib.hid (show Below w3.heap.size w3 u0_ from Rows.below (j := 0) (HB.out.alloc (by omega) _) (by simp; omega) (HR.out.alloc _) rfl hgrow)
          have zu0_ := HB0.out.size
          have e1_0 : u0_.cell? ⟨pb, po + k, none⟩ = some (.bool true) := (HB0.out.cell hpb3).trans ((HP3.out k hlt).trans (by rw [HPk.out]))
          have e2_0 : u0_.cell? ⟨qb, qo + k, none⟩ = some (.bool true) := (HB0.out.cell hqb).trans ((HQ.out k hlt).trans (by rw [HQk.out]))
          clear hown hgrow hat hlt_
          go_wp2_with (at_builtin; refine wpList_append_lies _ rfl _ _ 24 rfl w3.heap.size 4 i0 (.bool false) 1 1 Try.underlying24 hi hz0 hz1 hz2 rfl (by decide) (.slice (some ⟨g2, 0, none⟩) k d2) k ((row (fun i => bitAt x i && bitAt y i) k).map Value.bool) rfl (World.ownsRow.alloc (HR0.out.at 1 rfl) _) ⟨u0_.heap.size, 0, none⟩ 1 1 [.bool true] rfl rfl (cell_one_new _ _ _) (by simp [Value.oneCell']) (by decide) (by unfold maxLen; omega) (by omega) (by simp; omega) (u0_.heap.size + 1) (by simp) ?_)
          intro p1 q1 u1_ hown hgrow hat hlt_
          have HR1 := Lib.hid (show Rows u1_ w3.heap.size [⟨4, 1, p0, (k + 1), q0, (row (fun i => !bitAt x i) (k + 1)).map Value.bool⟩, ⟨4, 1, p1, (k + 1), q1, (row (fun i => bitAt x i && bitAt y i) (k + 1)).map Value.bool⟩, ⟨4, 1, g3, k, d3, (row (fun i => bitAt x i || bitAt y i) k).map Value.bool⟩, ⟨4, 1, g4, k, d4, (row (fun i => bitAt x i != bitAt y i) k).map Value.bool⟩, ⟨4, 1, g5, k, d5, (row (muxF 1 x y) k).map Value.bool⟩] from Rows.step (j := 1) (HR0.out.alloc _) rfl hgrow (show Rw.Own ⟨4, 1, p1, k + 1, q1, _⟩ _ _ from by rw [← HS1.out]; exact hown) (by have := Rows.lies hat; simpa using this))
          have HB1 := Lib.hid (show Below w3.heap.size w3 u1_ from Rows.below (j := 1) (HB0.out.alloc (by omega) _) (by simp; omega) (HR0.out.alloc _) rfl hgrow)
          have zu1_ := HB1.out.size
          have e1_1 : u1_.cell? ⟨pb, po + k, none⟩ = some (.bool true) := (HB1.out.cell hpb3).trans ((HP3.out k hlt).trans (by rw [HPk.out]))
          have e2_1 : u1_.cell? ⟨qb, qo + k, none⟩ = some (.bool true) := (HB1.out.cell hqb).trans ((HQ.out k hlt).trans (by rw [HQk.out]))
          clear hown hgrow hat hlt_
          go_wp2_with (at_builtin; refine wpList_append_lies _ rfl _ _ 24 rfl w3.heap.size 4 i0 (.bool false) 1 1 Try.underlying24 hi hz0 hz1 hz2 rfl (by decide) (.slice (some ⟨g3, 0, none⟩) k d3) k ((row (fun i => bitAt x i || bitAt y i) k).map Value.bool) rfl (World.ownsRow.alloc (HR1.out.at 2 rfl) _) ⟨u1_.heap.size, 0, none⟩ 1 1 [.bool true] rfl rfl (cell_one_new _ _ _) (by simp [Value.oneCell']) (by decide) (by unfold maxLen; omega) (by omega) (by simp; omega) (u1_.heap.size + 1) (by simp) ?_)
          intro p2 q2 u2_ hown hgrow hat hlt_
          have HR2 := Lib.hid (show Rows u2_ w3.heap.size [⟨4, 1, p0, (k + 1), q0, (row (fun i => !bitAt x i) (k + 1)).map Value.bool⟩, ⟨4, 1, p1, (k + 1), q1, (row (fun i => bitAt x i && bitAt y i) (k + 1)).map Value.bool⟩, ⟨4, 1, p2, (k + 1), q2, (row (fun i => bitAt x i || bitAt y i) (k + 1)).map Value.bool⟩, ⟨4, 1, g4, k, d4, (row (fun i => bitAt x i != bitAt y i) k).map Value.bool⟩, ⟨4, 1, g5, k, d5, (row (muxF 1 x y) k).map Value.bool⟩] from Rows.step (j := 2) (HR1.out.alloc _) rfl hgrow (show Rw.Own ⟨4, 1, p2, k + 1, q2, _⟩ _ _ from by rw [← HS2.out]; exact hown) (by have := Rows.lies hat; simpa using this))
          have HB2 := Lib.hid (show Below w3.heap.size w3 u2_ from Rows.below (j := 2) (HB1.out.alloc (by omega) _) (by simp; omega) (HR1.out.alloc _) rfl hgrow)
          have zu2_ := HB2.out.size
          have e1_2 : u2_.cell? ⟨pb, po + k, none⟩ = some (.bool true) := (HB2.out.cell hpb3).trans ((HP3.out k hlt).trans (by rw [HPk.out]))
          have e2_2 : u2_.cell? ⟨qb, qo + k, none⟩ = some (.bool true) := (HB2.out.cell hqb).trans ((HQ.out k hlt).trans (by rw [HQk.out]))
          clear hown hgrow hat hlt_
          have nu1 := World.new_ne u2_ _ e1_2
          have nu2 := World.new_ne u2_ _ e2_2
          have HW4 := Lib.hid (fun o => World.ownsRow.alloc (show World.ownsRow u2_ w3.heap.size 4 1 (.slice (some ⟨g4, 0, none⟩) k d4) k ((row (fun i => bitAt x i != bitAt y i) k).map Value.bool) from HR2.out.at 3 rfl) o)
          go_wp2_with fail
          go_region_held3 (fun w' => w'.cell? ⟨pb, po + k, none⟩ = some (.bool true) ∧ w'.cell? ⟨qb, qo + k, none⟩ = some (.bool true)) (first | (simp [e1_3, e2_3]; done) | (simp [e1_2, e2_2, World.cell?_alloc_some, nu1, nu2]; done)) ((refine step_append_lies _ (by rfl) _ _ _ (by rfl) w3.heap.size 4 i0 (.bool false) 1 1 Try.underlying24 hi hz0 hz1 hz2 rfl (by decide) (.slice (some ⟨g4, 0, none⟩) k d4) k ((row (fun i => bitAt x i != bitAt y i) k).map Value.bool) (by rfl) (by first | exact (HW4.out _).drew | exact HW4.out _) ⟨u2_.heap.size, 0, none⟩ 1 1 [.bool false] (by rfl) (by rfl) (cell_one_new _ _ _) (by simp [Value.oneCell']) (by decide) (by unfold maxLen; omega) (by omega) (by simp; omega) (u2_.heap.size + 1) (by simp) ?_; intro p3 q3 u3_ hown hgrow hat hlt_; have HR3 := Lib.hid (show Rows u3_ w3.heap.size [⟨4, 1, p0, (k + 1), q0, (row (fun i => !bitAt x i) (k + 1)).map Value.bool⟩, ⟨4, 1, p1, (k + 1), q1, (row (fun i => bitAt x i && bitAt y i) (k + 1)).map Value.bool⟩, ⟨4, 1, p2, (k + 1), q2, (row (fun i => bitAt x i || bitAt y i) (k + 1)).map Value.bool⟩, ⟨4, 1, p3, (k + 1), q3, (row (fun i => bitAt x i != bitAt y i) (k + 1)).map Value.bool⟩, ⟨4, 1, g5, k, d5, (row (muxF 1 x y) k).map Value.bool⟩] from Rows.step (j := 3) (HR2.out.alloc _).drew rfl hgrow (show Rw.Own ⟨4, 1, p3, k + 1, q3, _⟩ _ _ from by rw [← HS3.out]; exact hown) (by have := Rows.lies hat; simpa using this)); have HB3 := Lib.hid (show Below w3.heap.size w3 u3_ from Rows.below (j := 3) (HB2.out.alloc (by omega) _).drew (by simp; omega) (HR2.out.alloc _).drew rfl hgrow); have zu3_ := HB3.out.size; have e1_3 : u3_.cell? ⟨pb, po + k, none⟩ = some (.bool true) := (HB3.out.cell hpb3).trans ((HP3.out k hlt).trans (by rw [HPk.out])); have e2_3 : u3_.cell? ⟨qb, qo + k, none⟩ = some (.bool true) := (HB3.out.cell hqb).trans ((HQ.out k hlt).trans (by rw [HQk.out])); clear hown hgrow hat hlt_))
          go_wp2_with (at_builtin; refine wpList_append_lies _ rfl _ _ 24 rfl w3.heap.size 4 i0 (.bool false) 1 1 Try.underlying24 hi hz0 hz1 hz2 rfl (by decide) (.slice (some ⟨g5, 0, none⟩) k d5) k ((row (muxF 1 x y) k).map Value.bool) rfl (World.ownsRow.alloc (HR3.out.at 4 rfl) _) ⟨u3_.heap.size, 0, none⟩ 1 1 [.bool true] rfl rfl (cell_one_new _ _ _) (by simp [Value.oneCell']) (by decide) (by unfold maxLen; omega) (by omega) (by simp; omega) (u3_.heap.size + 1) (by simp) ?_)
          intro p4 q4 u4_ hown hgrow hat hlt_
          have HR4 := Lib.hid (show Rows u4_ w3.heap.size [⟨4, 1, p0, (k + 1), q0, (row (fun i => !bitAt x i) (k + 1)).map Value.bool⟩, ⟨4, 1, p1, (k + 1), q1, (row (fun i => bitAt x i && bitAt y i) (k + 1)).map Value.bool⟩, ⟨4, 1, p2, (k + 1), q2, (row (fun i => bitAt x i || bitAt y i) (k + 1)).map Value.bool⟩, ⟨4, 1, p3, (k + 1), q3, (row (fun i => bitAt x i != bitAt y i) (k + 1)).map Value.bool⟩, ⟨4, 1, p4, (k + 1), q4, (row (muxF 1 x y) (k + 1)).map Value.bool⟩] from Rows.step (j := 4) (HR3.out.alloc _) rfl hgrow (show Rw.Own ⟨4, 1, p4, k + 1, q4, _⟩ _ _ from by rw [← HS4.out]; exact hown) (by have := Rows.lies hat; simpa using this))
          have HB4 := Lib.hid (show Below w3.heap.size w3 u4_ from Rows.below (j := 4) (HB3.out.alloc (by omega) _) (by simp; omega) (HR3.out.alloc _) rfl hgrow)
          have zu4_ := HB4.out.size
          have e1_4 : u4_.cell? ⟨pb, po + k, none⟩ = some (.bool true) := (HB4.out.cell hpb3).trans ((HP3.out k hlt).trans (by rw [HPk.out]))
          have e2_4 : u4_.cell? ⟨qb, qo + k, none⟩ = some (.bool true) := (HB4.out.cell hqb).trans ((HQ.out k hlt).trans (by rw [HQk.out]))
          clear hown hgrow hat hlt_
          go_wp2
          exact ⟨⟨HB4.out, k + 1, p0, p1, p2, p3, p4, q0, q1, q2, q3, q4, by omega, by go_num, rfl, rfl, rfl, rfl, rfl, HR4.out⟩, by simp [intOf]; omega⟩
        | false =>
          have HS0 := Lib.hid (row_snoc (fun i => !bitAt x i) k false (by simp [muxF, hP, hQ]))
          have HS1 := Lib.hid (row_snoc (fun i => bitAt x i && bitAt y i) k false (by simp [muxF, hP, hQ]))
          have HS2 := Lib.hid (row_snoc (fun i => bitAt x i || bitAt y i) k true (by simp [muxF, hP, hQ]))
          have HS3 := Lib.hid (row_snoc (fun i => bitAt x i != bitAt y i) k true (by simp [muxF, hP, hQ]))
          have HS4 := Lib.hid (row_snoc (muxF 1 x y) k true (by simp [muxF, hP, hQ]))
          have e1 : wr.cell? ⟨pb, po + k, none⟩ = some (.bool true) := (HB.out.cell hpb3).trans ((HP3.out k hlt).trans (by rw [hP]))
          have e2 : wr.cell? ⟨qb, qo + k, none⟩ = some (.bool false) := (HB.out.cell hqb).trans ((HQ.out k hlt).trans (by rw [hQ]))
          have HPk := Lib.hid hP
          have HQk := Lib.hid hQ
          clear hP hQ
          go_wp2_with (at_builtin; refine wpList_append_lies _ rfl _ _ 24 rfl w3.heap.size 4 i0 (.bool false) 1 1 Try.underlying24 hi hz0 hz1 hz2 rfl (by decide) (.slice (some ⟨g1, 0, none⟩) k d1) k ((row (fun i => !bitAt x i) k).map Value.bool) rfl (World.ownsRow.alloc (HR.out.at 0 rfl) _) ⟨wr.heap.size, 0, none⟩ 1 1 [.bool false] rfl rfl (cell_one_new _ _ _) (by simp [Value.oneCell']) (by decide) (by unfold maxLen; omega) (by omega) (by simp; omega) (wr.heap.size + 1) (by simp) ?_)
          intro p0 q0 u0_ hown hgrow hat hlt_
          have HR0 := Lib.hid (show Rows u0_ w3.heap.size [⟨4, 1, p0, (k + 1), q0, (row (fun i => !bitAt x i) (k + 1)).map Value.bool⟩, ⟨4, 1, g2, k, d2, (row (fun i => bitAt x i && bitAt y i) k).map Value.bool⟩, ⟨4, 1, g3, k, d3, (row (fun i => bitAt x i || bitAt y i) k).map Value.bool⟩, ⟨4, 1, g4, k, d4, (row (fun i => bitAt x i != bitAt y i) k).map Value.bool⟩, ⟨4, 1, g5, k, d5, (row (muxF 1 x y) k).map Value.bool⟩] from Rows.step (j := 0) (HR.out.alloc _) rfl hgrow (show Rw.Own ⟨4, 1, p0, k + 1, q0, _⟩ _ _ from by rw [← HS0.out]; exact hown) (by have := Rows.lies hat; simpa using this))
          have HB0 := Lib.hid (show Below w3.heap.size w3 u0_ from Rows.below (j := 0) (HB.out.alloc (by omega) _) (by simp; omega) (HR.out.alloc _) rfl hgrow)
          have zu0_ := HB0.out.size
          have e1_0 : u0_.cell? ⟨pb, po + k, none⟩ = some (.bool true) := (HB0.out.cell hpb3).trans ((HP3.out k hlt).trans (by rw [HPk.out]))
          have e2_0 : u0_.cell? ⟨qb, qo + k, none⟩ = some (.bool false) := (HB0.out.cell hqb).trans ((HQ.out k hlt).trans (by rw [HQk.out]))
          clear hown hgrow hat hlt_
          go_wp2_with (at_builtin; refine wpList_append_lies _ rfl _ _ 24 rfl w3.heap.size 4 i0 (.bool false) 1 1 Try.underlying24 hi hz0 hz1 hz2 rfl (by decide) (.slice (some ⟨g2, 0, none⟩) k d2) k ((row (fun i => bitAt x i && bitAt y i) k).map Value.bool) rfl (World.ownsRow.alloc (HR0.out.at 1 rfl) _) ⟨u0_.heap.size, 0, none⟩ 1 1 [.bool false] rfl rfl (cell_one_new _ _ _) (by simp [Value.oneCell']) (by decide) (by unfold maxLen; omega) (by omega) (by simp; omega) (u0_.heap.size + 1) (by simp) ?_)
          intro p1 q1 u1_ hown hgrow hat hlt_
          have HR1 := Lib.hid (show Rows u1_ w3.heap.size [⟨4, 1, p0, (k + 1), q0, (row (fun i => !bitAt x i) (k + 1)).map Value.bool⟩, ⟨4, 1, p1, (k + 1), q1, (row (fun i => bitAt x i && bitAt y i) (k + 1)).map Value.bool⟩, ⟨4, 1, g3, k, d3, (row (fun i => bitAt x i || bitAt y i) k).map Value.bool⟩, ⟨4, 1, g4, k, d4, (row (fun i => bitAt x i != bitAt y i) k).map Value.bool⟩, ⟨4, 1, g5, k, d5, (row (muxF 1 x y) k).map Value.bool⟩] from Rows.step (j := 1) (HR0.out.alloc _) rfl hgrow (show Rw.Own ⟨4, 1, p1, k + 1, q1, _⟩ _ _ from by rw [← HS1.out]; exact hown) (by have := Rows.lies hat; simpa using this))
          have HB1 := Lib.hid (show Below w3.heap.size w3 u1_ from Rows.below (j := 1) (HB0.out.alloc (by omega) _) (by simp; omega) (HR0.out.alloc _) rfl hgrow)
          have zu1_ := HB1.out.size
          have e1_1 : u1_.cell? ⟨pb, po + k, none⟩ = some (.bool true) := (HB1.out.cell hpb3).trans ((HP3.out k hlt).trans (by rw [HPk.out]))
          have e2_1 : u1_.cell? ⟨qb, qo + k, none⟩ = some (.bool false) := (HB1.out.cell hqb).trans ((HQ.out k hlt).trans (by rw [HQk.out]))
          clear hown hgrow hat hlt_
          go_wp2_with (at_builtin; refine wpList_append_lies _ rfl _ _ 24 rfl w3.heap.size 4 i0 (.bool false) 1 1 Try.underlying24 hi hz0 hz1 hz2 rfl (by decide) (.slice (some ⟨g3, 0, none⟩) k d3) k ((row (fun i => bitAt x i || bitAt y i) k).map Value.bool) rfl (World.ownsRow.alloc (HR1.out.at 2 rfl) _) ⟨u1_.heap.size, 0, none⟩ 1 1 [.bool true] rfl rfl (cell_one_new _ _ _) (by simp [Value.oneCell']) (by decide) (by unfold maxLen; omega) (by omega) (by simp; omega) (u1_.heap.size + 1) (by simp) ?_)
          intro p2 q2 u2_ hown hgrow hat hlt_
          have HR2 := Lib.hid (show Rows u2_ w3.heap.size [⟨4, 1, p0, (k + 1), q0, (row (fun i => !bitAt x i) (k + 1)).map Value.bool⟩, ⟨4, 1, p1, (k + 1), q1, (row (fun i => bitAt x i && bitAt y i) (k + 1)).map Value.bool⟩, ⟨4, 1, p2, (k + 1), q2, (row (fun i => bitAt x i || bitAt y i) (k + 1)).map Value.bool⟩, ⟨4, 1, g4, k, d4, (row (fun i => bitAt x i != bitAt y i) k).map Value.bool⟩, ⟨4, 1, g5, k, d5, (row (muxF 1 x y) k).map Value.bool⟩] from Rows.step (j := 2) (HR1.out.alloc _) rfl hgrow (show Rw.Own ⟨4, 1, p2, k + 1, q2, _⟩ _ _ from by rw [← HS2.out]; exact hown) (by have := Rows.lies hat; simpa using this))
          have HB2 := Lib.hid (show Below w3.heap.size w3 u2_ from Rows.below (j := 2) (HB1.out.alloc (by omega) _) (by simp; omega) (HR1.out.alloc _) rfl hgrow)
          have zu2_ := HB2.out.size
          have e1_2 : u2_.cell? ⟨pb, po + k, none⟩ = some (.bool true) := (HB2.out.cell hpb3).trans ((HP3.out k hlt).trans (by rw [HPk.out]))
          have e2_2 : u2_.cell? ⟨qb, qo + k, none⟩ = some (.bool false) := (HB2.out.cell hqb).trans ((HQ.out k hlt).trans (by rw [HQk.out]))
          clear hown hgrow hat hlt_
          have nu1 := World.new_ne u2_ _ e1_2
          have nu2 := World.new_ne u2_ _ e2_2
          have HW4 := Lib.hid (fun o => World.ownsRow.alloc (show World.ownsRow u2_ w3.heap.size 4 1 (.slice (some ⟨g4, 0, none⟩) k d4) k ((row (fun i => bitAt x i != bitAt y i) k).map Value.bool) from HR2.out.at 3 rfl) o)
          go_wp2_with fail
          go_region_held3 (fun w' => w'.cell? ⟨pb, po + k, none⟩ = some (.bool true) ∧ w'.cell? ⟨qb, qo + k, none⟩ = some (.bool false)) (first | (simp [e1_3, e2_3]; done) | (simp [e1_2, e2_2, World.cell?_alloc_some, nu1, nu2]; done)) ((refine step_append_lies _ (by rfl) _ _ _ (by rfl) w3.heap.size 4 i0 (.bool false) 1 1 Try.underlying24 hi hz0 hz1 hz2 rfl (by decide) (.slice (some ⟨g4, 0, none⟩) k d4) k ((row (fun i => bitAt x i != bitAt y i) k).map Value.bool) (by rfl) (by first | exact (HW4.out _).drew | exact HW4.out _) ⟨u2_.heap.size, 0, none⟩ 1 1 [.bool true] (by rfl) (by rfl) (cell_one_new _ _ _) (by simp [Value.oneCell']) (by decide) (by unfold maxLen; omega) (by omega) (by simp; omega) (u2_.heap.size + 1) (by simp) ?_; intro p3 q3 u3_ hown hgrow hat hlt_; have HR3 := Lib.hid (show Rows u3_ w3.heap.size [⟨4, 1, p0, (k + 1), q0, (row (fun i => !bitAt x i) (k + 1)).map Value.bool⟩, ⟨4, 1, p1, (k + 1), q1, (row (fun i => bitAt x i && bitAt y i) (k + 1)).map Value.bool⟩, ⟨4, 1, p2, (k + 1), q2, (row (fun i => bitAt x i || bitAt y i) (k + 1)).map Value.bool⟩, ⟨4, 1, p3, (k + 1), q3, (row (fun i => bitAt x i != bitAt y i) (k + 1)).map Value.bool⟩, ⟨4, 1, g5, k, d5, (row (muxF 1 x y) k).map Value.bool⟩] from Rows.step (j := 3) (HR2.out.alloc _).drew rfl hgrow (show Rw.Own ⟨4, 1, p3, k + 1, q3, _⟩ _ _ from by rw [← HS3.out]; exact hown) (by have := Rows.lies hat; simpa using this)); have HB3 := Lib.hid (show Below w3.heap.size w3 u3_ from Rows.below (j := 3) (HB2.out.alloc (by omega) _).drew (by simp; omega) (HR2.out.alloc _).drew rfl hgrow); have zu3_ := HB3.out.size; have e1_3 : u3_.cell? ⟨pb, po + k, none⟩ = some (.bool true) := (HB3.out.cell hpb3).trans ((HP3.out k hlt).trans (by rw [HPk.out])); have e2_3 : u3_.cell? ⟨qb, qo + k, none⟩ = some (.bool false) := (HB3.out.cell hqb).trans ((HQ.out k hlt).trans (by rw [HQk.out])); clear hown hgrow hat hlt_))
          go_wp2_with (at_builtin; refine wpList_append_lies _ rfl _ _ 24 rfl w3.heap.size 4 i0 (.bool false) 1 1 Try.underlying24 hi hz0 hz1 hz2 rfl (by decide) (.slice (some ⟨g5, 0, none⟩) k d5) k ((row (muxF 1 x y) k).map Value.bool) rfl (World.ownsRow.alloc (HR3.out.at 4 rfl) _) ⟨u3_.heap.size, 0, none⟩ 1 1 [.bool true] rfl rfl (cell_one_new _ _ _) (by simp [Value.oneCell']) (by decide) (by unfold maxLen; omega) (by omega) (by simp; omega) (u3_.heap.size + 1) (by simp) ?_)
          intro p4 q4 u4_ hown hgrow hat hlt_
          have HR4 := Lib.hid (show Rows u4_ w3.heap.size [⟨4, 1, p0, (k + 1), q0, (row (fun i => !bitAt x i) (k + 1)).map Value.bool⟩, ⟨4, 1, p1, (k + 1), q1, (row (fun i => bitAt x i && bitAt y i) (k + 1)).map Value.bool⟩, ⟨4, 1, p2, (k + 1), q2, (row (fun i => bitAt x i || bitAt y i) (k + 1)).map Value.bool⟩, ⟨4, 1, p3, (k + 1), q3, (row (fun i => bitAt x i != bitAt y i) (k + 1)).map Value.bool⟩, ⟨4, 1, p4, (k + 1), q4, (row (muxF 1 x y) (k + 1)).map Value.bool⟩] from Rows.step (j := 4) (HR3.out.alloc _) rfl hgrow (show Rw.Own ⟨4, 1, p4, k + 1, q4, _⟩ _ _ from by rw [← HS4.out]; exact hown) (by have := Rows.lies hat; simpa using this))
          have HB4 := Lib.hid (show Below w3.heap.size w3 u4_ from Rows.below (j := 4) (HB3.out.alloc (by omega) _) (by simp; omega) (HR3.out.alloc _) rfl hgrow)
          have zu4_ := HB4.out.size
          have e1_4 : u4_.cell? ⟨pb, po + k, none⟩ = some (.bool true) := (HB4.out.cell hpb3).trans ((HP3.out k hlt).trans (by rw [HPk.out]))
          have e2_4 : u4_.cell? ⟨qb, qo + k, none⟩ = some (.bool false) := (HB4.out.cell hqb).trans ((HQ.out k hlt).trans (by rw [HQk.out]))
          clear hown hgrow hat hlt_
          go_wp2
          exact ⟨⟨HB4.out, k + 1, p0, p1, p2, p3, p4, q0, q1, q2, q3, q4, by omega, by go_num, rfl, rfl, rfl, rfl, rfl, HR4.out⟩, by simp [intOf]; omega⟩
      | false =>
        cases hQ : bitAt y k with
        | true =>
          have HS0 := Lib.hid (row_snoc (fun i => !bitAt x i) k true (by simp [muxF, hP, hQ]))
          have HS1 := Lib.hid (row_snoc (fun i => bitAt x i && bitAt y i) k false (by simp [muxF, hP, hQ]))
          have HS2 := Lib.hid (row_snoc (fun i => bitAt x i || bitAt y i) k true (by simp [muxF, hP, hQ]))
          have HS3 := Lib.hid (row_snoc (fun i => bitAt x i != bitAt y i) k true (by simp [muxF, hP, hQ]))
          have HS4 := Lib.hid (row_snoc (muxF 1 x y) k false (by simp [muxF, hP, hQ]))
          have e1 : wr.cell? ⟨pb, po + k, none⟩ = some (.bool false) := (HB.out.cell hpb3).trans ((HP3.out k hlt).trans (by rw [hP]))
          have e2 : wr.cell? ⟨qb, qo + k, none⟩ = some (.bool true) := (HB.out.cell hqb).trans ((HQ.out k hlt).trans (by rw [hQ]))
          have HPk := Lib.hid hP
          have HQk := Lib.hid hQ
          clear hP hQ
          go_wp2_with (at_builtin; refine wpList_append_lies _ rfl _ _ 24 rfl w3.heap.size 4 i0 (.bool false) 1 1 Try.underlying24 hi hz0 hz1 hz2 rfl (by decide) (.slice (some ⟨g1, 0, none⟩) k d1) k ((row (fun i => !bitAt x i) k).map Value.bool) rfl (World.ownsRow.alloc (HR.out.at 0 rfl) _) ⟨wr.heap.size, 0, none⟩ 1 1 [.bool true] rfl rfl (cell_one_new _ _ _) (by simp [Value.oneCell']) (by decide) (by unfold maxLen; omega) (by omega) (by simp; omega) (wr.heap.size + 1) (by simp) ?_)
          intro p0 q0 u0_ hown hgrow hat hlt_
          have HR0 := Lib.hid (show Rows u0_ w3.heap.size [⟨4, 1, p0, (k + 1), q0, (row (fun i => !bitAt x i) (k + 1)).map Value.bool⟩, ⟨4, 1, g2, k, d2, (row (fun i => bitAt x i && bitAt y i) k).map Value.bool⟩, ⟨4, 1, g3, k, d3, (row (fun i => bitAt x i || bitAt y i) k).map Value.bool⟩, ⟨4, 1, g4, k, d4, (row (fun i => bitAt x i != bitAt y i) k).map Value.bool⟩, ⟨4, 1, g5, k, d5, (row (muxF 1 x y) k).map Value.bool⟩] from Rows.step (j := 0) (HR.out.alloc _) rfl hgrow (show Rw.Own ⟨4, 1, p0, k + 1, q0, _⟩ _ _ from by rw [← HS0.out]; exact hown) (by have := Rows.lies hat; simpa using this))
          have HB0 := Lib.hid (show Below w3.heap.size w3 u0_ from Rows.below (j := 0) (HB.out.alloc (by omega) _) (by simp; omega) (HR.out.alloc _) rfl hgrow)
          have zu0_ := HB0.out.size
          have e1_0 : u0_.cell? ⟨pb, po + k, none⟩ = some (.bool false) := (HB0.out.cell hpb3).trans ((HP3.out k hlt).trans (by rw [HPk.out]))
          have e2_0 : u0_.cell? ⟨qb, qo + k, none⟩ = some (.bool true) := (HB0.out.cell hqb).trans ((HQ.out k hlt).trans (by rw [HQk.out]))
          clear hown hgrow hat hlt_
          go_wp2_with (at_builtin; refine wpList_append_lies _ rfl _ _ 24 rfl w3.heap.size 4 i0 (.bool false) 1 1 Try.underlying24 hi hz0 hz1 hz2 rfl (by decide) (.slice (some ⟨g2, 0, none⟩) k d2) k ((row (fun i => bitAt x i && bitAt y i) k).map Value.bool) rfl (World.ownsRow.alloc (HR0.out.at 1 rfl) _) ⟨u0_.heap.size, 0, none⟩ 1 1 [.bool false] rfl rfl (cell_one_new _ _ _) (by simp [Value.oneCell']) (by decide) (by unfold maxLen; omega) (by omega) (by simp; omega) (u0_.heap.size + 1) (by simp) ?_)
          intro p1 q1 u1_ hown hgrow hat hlt_
          have HR1 := Lib.hid (show Rows u1_ w3.heap.size [⟨4, 1, p0, (k + 1), q0, (row (fun i => !bitAt x i) (k + 1)).map Value.bool⟩, ⟨4, 1, p1, (k + 1), q1, (row (fun i => bitAt x i && bitAt y i) (k + 1)).map Value.bool⟩, ⟨4, 1, g3, k, d3, (row (fun i => bitAt x i || bitAt y i) k).map Value.bool⟩, ⟨4, 1, g4, k, d4, (row (fun i => bitAt x i != bitAt y i) k).map Value.bool⟩, ⟨4, 1, g5, k, d5, (row (muxF 1 x y) k).map Value.bool⟩] from Rows.step (j := 1) (HR0.out.alloc _) rfl hgrow (show Rw.Own ⟨4, 1, p1, k + 1, q1, _⟩ _ _ from by rw [← HS1.out]; exact hown) (by have := Rows.lies hat; simpa using this))
          have HB1 := Lib.hid (show Below w3.heap.size w3 u1_ from Rows.below (j := 1) (HB0.out.alloc (by omega) _) (by simp; omega) (HR0.out.alloc _) rfl hgrow)
          have zu1_ := HB1.out.size
          have e1_1 : u1_.cell? ⟨pb, po + k, none⟩ = some (.bool false) := (HB1.out.cell hpb3).trans ((HP3.out k hlt).trans (by rw [HPk.out]))
          have e2_1 : u1_.cell? ⟨qb, qo + k, none⟩ = some (.bool true) := (HB1.out.cell hqb).trans ((HQ.out k hlt).trans (by rw [HQk.out]))
          clear hown hgrow hat hlt_
          go_wp2_with (at_builtin; refine wpList_append_lies _ rfl _ _ 24 rfl w3.heap.size 4 i0 (.bool false) 1 1 Try.underlying24 hi hz0 hz1 hz2 rfl (by decide) (.slice (some ⟨g3, 0, none⟩) k d3) k ((row (fun i => bitAt x i || bitAt y i) k).map Value.bool) rfl (World.ownsRow.alloc (HR1.out.at 2 rfl) _) ⟨u1_.heap.size, 0, none⟩ 1 1 [.bool true] rfl rfl (cell_one_new _ _ _) (by simp [Value.oneCell']) (by decide) (by unfold maxLen; omega) (by omega) (by simp; omega) (u1_.heap.size + 1) (by simp) ?_)
          intro p2 q2 u2_ hown hgrow hat hlt_
          have HR2 := Lib.hid (show Rows u2_ w3.heap.size [⟨4, 1, p0, (k + 1), q0, (row (fun i => !bitAt x i) (k + 1)).map Value.bool⟩, ⟨4, 1, p1, (k + 1), q1, (row (fun i => bitAt x i && bitAt y i) (k + 1)).map Value.bool⟩, ⟨4, 1, p2, (k + 1), q2, (row (fun i => bitAt x i || bitAt y i) (k + 1)).map Value.bool⟩, ⟨4, 1, g4, k, d4, (row (fun i => bitAt x i != bitAt y i) k).map Value.bool⟩, ⟨4, 1, g5, k, d5, (row (muxF 1 x y) k).map Value.bool⟩] from Rows.step (j := 2) (HR1.out.alloc _) rfl hgrow (show Rw.Own ⟨4, 1, p2, k + 1, q2, _⟩ _ _ from by rw [← HS2.out]; exact hown) (by have := Rows.lies hat; simpa using this))
          have HB2 := Lib.hid (show Below w3.heap.size w3 u2_ from Rows.below (j := 2) (HB1.out.alloc (by omega) _) (by simp; omega) (HR1.out.alloc _) rfl hgrow)
          have zu2_ := HB2.out.size
          have e1_2 : u2_.cell? ⟨pb, po + k, none⟩ = some (.bool false) := (HB2.out.cell hpb3).trans ((HP3.out k hlt).trans (by rw [HPk.out]))
          have e2_2 : u2_.cell? ⟨qb, qo + k, none⟩ = some (.bool true) := (HB2.out.cell hqb).trans ((HQ.out k hlt).trans (by rw [HQk.out]))
          clear hown hgrow hat hlt_
          have nu1 := World.new_ne u2_ _ e1_2
          have nu2 := World.new_ne u2_ _ e2_2
          have HW4 := Lib.hid (fun o => World.ownsRow.alloc (show World.ownsRow u2_ w3.heap.size 4 1 (.slice (some ⟨g4, 0, none⟩) k d4) k ((row (fun i => bitAt x i != bitAt y i) k).map Value.bool) from HR2.out.at 3 rfl) o)
          go_wp2_with fail
          go_region_held3 (fun w' => w'.cell? ⟨pb, po + k, none⟩ = some (.bool false) ∧ w'.cell? ⟨qb, qo + k, none⟩ = some (.bool true)) (first | (simp [e1_3, e2_3]; done) | (simp [e1_2, e2_2, World.cell?_alloc_some, nu1, nu2]; done)) ((refine step_append_lies _ (by rfl) _ _ _ (by rfl) w3.heap.size 4 i0 (.bool false) 1 1 Try.underlying24 hi hz0 hz1 hz2 rfl (by decide) (.slice (some ⟨g4, 0, none⟩) k d4) k ((row (fun i => bitAt x i != bitAt y i) k).map Value.bool) (by rfl) (by first | exact (HW4.out _).drew | exact HW4.out _) ⟨u2_.heap.size, 0, none⟩ 1 1 [.bool true] (by rfl) (by rfl) (cell_one_new _ _ _) (by simp [Value.oneCell']) (by decide) (by unfold maxLen; omega) (by omega) (by simp; omega) (u2_.heap.size + 1) (by simp) ?_; intro p3 q3 u3_ hown hgrow hat hlt_; have HR3 := Lib.hid (show Rows u3_ w3.heap.size [⟨4, 1, p0, (k + 1), q0, (row (fun i => !bitAt x i) (k + 1)).map Value.bool⟩, ⟨4, 1, p1, (k + 1), q1, (row (fun i => bitAt x i && bitAt y i) (k + 1)).map Value.bool⟩, ⟨4, 1, p2, (k + 1), q2, (row (fun i => bitAt x i || bitAt y i) (k + 1)).map Value.bool⟩, ⟨4, 1, p3, (k + 1), q3, (row (fun i => bitAt x i != bitAt y i) (k + 1)).map Value.bool⟩, ⟨4, 1, g5, k, d5, (row (muxF 1 x y) k).map Value.bool⟩] from Rows.step (j := 3) (HR2.out.alloc _).drew rfl hgrow (show Rw.Own ⟨4, 1, p3, k + 1, q3, _⟩ _ _ from by rw [← HS3.out]; exact hown) (by have := Rows.lies hat; simpa using this)); have HB3 := Lib.hid (show Below w3.heap.size w3 u3_ from Rows.below (j := 3) (HB2.out.alloc (by omega) _).drew (by simp; omega) (HR2.out.alloc _).drew rfl hgrow); have zu3_ := HB3.out.size; have e1_3 : u3_.cell? ⟨pb, po + k, none⟩ = some (.bool false) := (HB3.out.cell hpb3).trans ((HP3.out k hlt).trans (by rw [HPk.out])); have e2_3 : u3_.cell? ⟨qb, qo + k, none⟩ = some (.bool true) := (HB3.out.cell hqb).trans ((HQ.out k hlt).trans (by rw [HQk.out])); clear hown hgrow hat hlt_))
          go_wp2_with (at_builtin; refine wpList_append_lies _ rfl _ _ 24 rfl w3.heap.size 4 i0 (.bool false) 1 1 Try.underlying24 hi hz0 hz1 hz2 rfl (by decide) (.slice (some ⟨g5, 0, none⟩) k d5) k ((row (muxF 1 x y) k).map Value.bool) rfl (World.ownsRow.alloc (HR3.out.at 4 rfl) _) ⟨u3_.heap.size, 0, none⟩ 1 1 [.bool false] rfl rfl (cell_one_new _ _ _) (by simp [Value.oneCell']) (by decide) (by unfold maxLen; omega) (by omega) (by simp; omega) (u3_.heap.size + 1) (by simp) ?_)
          intro p4 q4 u4_ hown hgrow hat hlt_
          have HR4 := Lib.hid (show Rows u4_ w3.heap.size [⟨4, 1, p0, (k + 1), q0, (row (fun i => !bitAt x i) (k + 1)).map Value.bool⟩, ⟨4, 1, p1, (k + 1), q1, (row (fun i => bitAt x i && bitAt y i) (k + 1)).map Value.bool⟩, ⟨4, 1, p2, (k + 1), q2, (row (fun i => bitAt x i || bitAt y i) (k + 1)).map Value.bool⟩, ⟨4, 1, p3, (k + 1), q3, (row (fun i => bitAt x i != bitAt y i) (k + 1)).map Value.bool⟩, ⟨4, 1, p4, (k + 1), q4, (row (muxF 1 x y) (k + 1)).map Value.bool⟩] from Rows.step (j := 4) (HR3.out.alloc _) rfl hgrow (show Rw.Own ⟨4, 1, p4, k + 1, q4, _⟩ _ _ from by rw [← HS4.out]; exact hown) (by have := Rows.lies hat; simpa using this))
          have HB4 := Lib.hid (show Below w3.heap.size w3 u4_ from Rows.below (j := 4) (HB3.out.alloc (by omega) _) (by simp; omega) (HR3.out.alloc _) rfl hgrow)
          have zu4_ := HB4.out.size
          have e1_4 : u4_.cell? ⟨pb, po + k, none⟩ = some (.bool false) := (HB4.out.cell hpb3).trans ((HP3.out k hlt).trans (by rw [HPk.out]))
          have e2_4 : u4_.cell? ⟨qb, qo + k, none⟩ = some (.bool true) := (HB4.out.cell hqb).trans ((HQ.out k hlt).trans (by rw [HQk.out]))
          clear hown hgrow hat hlt_
          go_wp2
          exact ⟨⟨HB4.out, k + 1, p0, p1, p2, p3, p4, q0, q1, q2, q3, q4, by omega, by go_num, rfl, rfl, rfl, rfl, rfl, HR4.out⟩, by simp [intOf]; omega⟩
        | false =>
          have HS0 := Lib.hid (row_snoc (fun i => !bitAt x i) k true (by simp [muxF, hP, hQ]))
          have HS1 := Lib.hid (row_snoc (fun i => bitAt x i && bitAt y i) k false (by simp [muxF, hP, hQ]))
          have HS2 := Lib.hid (row_snoc (fun i => bitAt x i || bitAt y i) k false (by simp [muxF, hP, hQ]))
          have HS3 := Lib.hid (row_snoc (fun i => bitAt x i != bitAt y i) k false (by simp [muxF, hP, hQ]))
          have HS4 := Lib.hid (row_snoc (muxF 1 x y) k false (by simp [muxF, hP, hQ]))
          have e1 : wr.cell? ⟨pb, po + k, none⟩ = some (.bool false) := (HB.out.cell hpb3).trans ((HP3.out k hlt).trans (by rw [hP]))
          have e2 : wr.cell? ⟨qb, qo + k, none⟩ = some (.bool false) := (HB.out.cell hqb).trans ((HQ.out k hlt).trans (by rw [hQ]))
          have HPk := Lib.hid hP
          have HQk := Lib.hid hQ
          clear hP hQ
          go_wp2_with (at_builtin; refine wpList_append_lies _ rfl _ _ 24 rfl w3.heap.size 4 i0 (.bool false) 1 1 Try.underlying24 hi hz0 hz1 hz2 rfl (by decide) (.slice (some ⟨g1, 0, none⟩) k d1) k ((row (fun i => !bitAt x i) k).map Value.bool) rfl (World.ownsRow.alloc (HR.out.at 0 rfl) _) ⟨wr.heap.size, 0, none⟩ 1 1 [.bool true] rfl rfl (cell_one_new _ _ _) (by simp [Value.oneCell']) (by decide) (by unfold maxLen; omega) (by omega) (by simp; omega) (wr.heap.size + 1) (by simp) ?_)
          intro p0 q0 u0_ hown hgrow hat hlt_
          have HR0 := Lib.hid (show Rows u0_ w3.heap.size [⟨4, 1, p0, (k + 1), q0, (row (fun i => !bitAt x i) (k + 1)).map Value.bool⟩, ⟨4, 1, g2, k, d2, (row (fun i => bitAt x i && bitAt y i) k).map Value.bool⟩, ⟨4, 1, g3, k, d3, (row (fun i => bitAt x i || bitAt y i) k).map Value.bool⟩, ⟨4, 1, g4, k, d4, (row (fun i => bitAt x i != bitAt y i) k).map Value.bool⟩, ⟨4, 1, g5, k, d5, (row (muxF 1 x y) k).map Value.bool⟩] from Rows.step (j := 0) (HR.out.alloc _) rfl hgrow (show Rw.Own ⟨4, 1, p0, k + 1, q0, _⟩ _ _ from by rw [← HS0.out]; exact hown) (by have := Rows.lies hat; simpa using this))
          have HB0 := Lib.hid (show Below w3.heap.size w3 u0_ from Rows.below (j := 0) (HB.out.alloc (by omega) _) (by simp; omega) (HR.out.alloc _) rfl hgrow)
          have zu0_ := HB0.out.size
          have e1_0 : u0_.cell? ⟨pb, po + k, none⟩ = some (.bool false) := (HB0.out.cell hpb3).trans ((HP3.out k hlt).trans (by rw [HPk.out]))
          have e2_0 : u0_.cell? ⟨qb, qo + k, none⟩ = some (.bool false) := (HB0.out.cell hqb).trans ((HQ.out k hlt).trans (by rw [HQk.out]))
          clear hown hgrow hat hlt_
          go_wp2_with (at_builtin; refine wpList_append_lies _ rfl _ _ 24 rfl w3.heap.size 4 i0 (.bool false) 1 1 Try.underlying24 hi hz0 hz1 hz2 rfl (by decide) (.slice (some ⟨g2, 0, none⟩) k d2) k ((row (fun i => bitAt x i && bitAt y i) k).map Value.bool) rfl (World.ownsRow.alloc (HR0.out.at 1 rfl) _) ⟨u0_.heap.size, 0, none⟩ 1 1 [.bool false] rfl rfl (cell_one_new _ _ _) (by simp [Value.oneCell']) (by decide) (by unfold maxLen; omega) (by omega) (by simp; omega) (u0_.heap.size + 1) (by simp) ?_)
          intro p1 q1 u1_ hown hgrow hat hlt_
          have HR1 := Lib.hid (show Rows u1_ w3.heap.size [⟨4, 1, p0, (k + 1), q0, (row (fun i => !bitAt x i) (k + 1)).map Value.bool⟩, ⟨4, 1, p1, (k + 1), q1, (row (fun i => bitAt x i && bitAt y i) (k + 1)).map Value.bool⟩, ⟨4, 1, g3, k, d3, (row (fun i => bitAt x i || bitAt y i) k).map Value.bool⟩, ⟨4, 1, g4, k, d4, (row (fun i => bitAt x i != bitAt y i) k).map Value.bool⟩, ⟨4, 1, g5, k, d5, (row (muxF 1 x y) k).map Value.bool⟩] from Rows.step (j := 1) (HR0.out.alloc _) rfl hgrow (show Rw.Own ⟨4, 1, p1, k + 1, q1, _⟩ _ _ from by rw [← HS1.out]; exact hown) (by have := Rows.lies hat; simpa using this))
          have HB1 := Lib.hid (show Below w3.heap.size w3 u1_ from Rows.below (j := 1) (HB0.out.alloc (by omega) _) (by simp; omega) (HR0.out.alloc _) rfl hgrow)
          have zu1_ := HB1.out.size
          have e1_1 : u1_.cell? ⟨pb, po + k, none⟩ = some (.bool false) := (HB1.out.cell hpb3).trans ((HP3.out k hlt).trans (by rw [HPk.out]))
          have e2_1 : u1_.cell? ⟨qb, qo + k, none⟩ = some (.bool false) := (HB1.out.cell hqb).trans ((HQ.out k hlt).trans (by rw [HQk.out]))
          clear hown hgrow hat hlt_
          go_wp2_with (at_builtin; refine wpList_append_lies _ rfl _ _ 24 rfl w3.heap.size 4 i0 (.bool false) 1 1 Try.underlying24 hi hz0 hz1 hz2 rfl (by decide) (.slice (some ⟨g3, 0, none⟩) k d3) k ((row (fun i => bitAt x i || bitAt y i) k).map Value.bool) rfl (World.ownsRow.alloc (HR1.out.at 2 rfl) _) ⟨u1_.heap.size, 0, none⟩ 1 1 [.bool false] rfl rfl (cell_one_new _ _ _) (by simp [Value.oneCell']) (by decide) (by unfold maxLen; omega) (by omega) (by simp; omega) (u1_.heap.size + 1) (by simp) ?_)
          intro p2 q2 u2_ hown hgrow hat hlt_
          have HR2 := Lib.hid (show Rows u2_ w3.heap.size [⟨4, 1, p0, (k + 1), q0, (row (fun i => !bitAt x i) (k + 1)).map Value.bool⟩, ⟨4, 1, p1, (k + 1), q1, (row (fun i => bitAt x i && bitAt y i) (k + 1)).map Value.bool⟩, ⟨4, 1, p2, (k + 1), q2, (row (fun i => bitAt x i || bitAt y i) (k + 1)).map Value.bool⟩, ⟨4, 1, g4, k, d4, (row (fun i => bitAt x i != bitAt y i) k).map Value.bool⟩, ⟨4, 1, g5, k, d5, (row (muxF 1 x y) k).map Value.bool⟩] from Rows.step (j := 2) (HR1.out.alloc _) rfl hgrow (show Rw.Own ⟨4, 1, p2, k + 1, q2, _⟩ _ _ from by rw [← HS2.out]; exact hown) (by have := Rows.lies hat; simpa using this))
          have HB2 := Lib.hid (show Below w3.heap.size w3 u2_ from Rows.below (j := 2) (HB1.out.alloc (by omega) _) (by simp; omega) (HR1.out.alloc _) rfl hgrow)
          have zu2_ := HB2.out.size
          have e1_2 : u2_.cell? ⟨pb, po + k, none⟩ = some (.bool false) := (HB2.out.cell hpb3).trans ((HP3.out k hlt).trans (by rw [HPk.out]))
          have e2_2 : u2_.cell? ⟨qb, qo + k, none⟩ = some (.bool false) := (HB2.out.cell hqb).trans ((HQ.out k hlt).trans (by rw [HQk.out]))
          clear hown hgrow hat hlt_
          have nu1 := World.new_ne u2_ _ e1_2
          have nu2 := World.new_ne u2_ _ e2_2
          have HW4 := Lib.hid (fun o => World.ownsRow.alloc (show World.ownsRow u2_ w3.heap.size 4 1 (.slice (some ⟨g4, 0, none⟩) k d4) k ((row (fun i => bitAt x i != bitAt y i) k).map Value.bool) from HR2.out.at 3 rfl) o)
          go_wp2_with fail
          go_region_held3 (fun w' => w'.cell? ⟨pb, po + k, none⟩ = some (.bool false) ∧ w'.cell? ⟨qb, qo + k, none⟩ = some (.bool false)) (first | (simp [e1_3, e2_3]; done) | (simp [e1_2, e2_2, World.cell?_alloc_some, nu1, nu2]; done)) ((refine step_append_lies _ (by rfl) _ _ _ (by rfl) w3.heap.size 4 i0 (.bool false) 1 1 Try.underlying24 hi hz0 hz1 hz2 rfl (by decide) (.slice (some ⟨g4, 0, none⟩) k d4) k ((row (fun i => bitAt x i != bitAt y i) k).map Value.bool) (by rfl) (by first | exact (HW4.out _).drew | exact HW4.out _) ⟨u2_.heap.size, 0, none⟩ 1 1 [.bool false] (by rfl) (by rfl) (cell_one_new _ _ _) (by simp [Value.oneCell']) (by decide) (by unfold maxLen; omega) (by omega) (by simp; omega) (u2_.heap.size + 1) (by simp) ?_; intro p3 q3 u3_ hown hgrow hat hlt_; have HR3 := Lib.hid (show Rows u3_ w3.heap.size [⟨4, 1, p0, (k + 1), q0, (row (fun i => !bitAt x i) (k + 1)).map Value.bool⟩, ⟨4, 1, p1, (k + 1), q1, (row (fun i => bitAt x i && bitAt y i) (k + 1)).map Value.bool⟩, ⟨4, 1, p2, (k + 1), q2, (row (fun i => bitAt x i || bitAt y i) (k + 1)).map Value.bool⟩, ⟨4, 1, p3, (k + 1), q3, (row (fun i => bitAt x i != bitAt y i) (k + 1)).map Value.bool⟩, ⟨4, 1, g5, k, d5, (row (muxF 1 x y) k).map Value.bool⟩] from Rows.step (j := 3) (HR2.out.alloc _).drew rfl hgrow (show Rw.Own ⟨4, 1, p3, k + 1, q3, _⟩ _ _ from by rw [← HS3.out]; exact hown) (by have := Rows.lies hat; simpa using this)); have HB3 := Lib.hid (show Below w3.heap.size w3 u3_ from Rows.below (j := 3) (HB2.out.alloc (by omega) _).drew (by simp; omega) (HR2.out.alloc _).drew rfl hgrow); have zu3_ := HB3.out.size; have e1_3 : u3_.cell? ⟨pb, po + k, none⟩ = some (.bool false) := (HB3.out.cell hpb3).trans ((HP3.out k hlt).trans (by rw [HPk.out])); have e2_3 : u3_.cell? ⟨qb, qo + k, none⟩ = some (.bool false) := (HB3.out.cell hqb).trans ((HQ.out k hlt).trans (by rw [HQk.out])); clear hown hgrow hat hlt_))
          go_wp2_with (at_builtin; refine wpList_append_lies _ rfl _ _ 24 rfl w3.heap.size 4 i0 (.bool false) 1 1 Try.underlying24 hi hz0 hz1 hz2 rfl (by decide) (.slice (some ⟨g5, 0, none⟩) k d5) k ((row (muxF 1 x y) k).map Value.bool) rfl (World.ownsRow.alloc (HR3.out.at 4 rfl) _) ⟨u3_.heap.size, 0, none⟩ 1 1 [.bool false] rfl rfl (cell_one_new _ _ _) (by simp [Value.oneCell']) (by decide) (by unfold maxLen; omega) (by omega) (by simp; omega) (u3_.heap.size + 1) (by simp) ?_)
          intro p4 q4 u4_ hown hgrow hat hlt_
          have HR4 := Lib.hid (show Rows u4_ w3.heap.size [⟨4, 1, p0, (k + 1), q0, (row (fun i => !bitAt x i) (k + 1)).map Value.bool⟩, ⟨4, 1, p1, (k + 1), q1, (row (fun i => bitAt x i && bitAt y i) (k + 1)).map Value.bool⟩, ⟨4, 1, p2, (k + 1), q2, (row (fun i => bitAt x i || bitAt y i) (k + 1)).map Value.bool⟩, ⟨4, 1, p3, (k + 1), q3, (row (fun i => bitAt x i != bitAt y i) (k + 1)).map Value.bool⟩, ⟨4, 1, p4, (k + 1), q4, (row (muxF 1 x y) (k + 1)).map Value.bool⟩] from Rows.step (j := 4) (HR3.out.alloc _) rfl hgrow (show Rw.Own ⟨4, 1, p4, k + 1, q4, _⟩ _ _ from by rw [← HS4.out]; exact hown) (by have := Rows.lies hat; simpa using this))
          have HB4 := Lib.hid (show Below w3.heap.size w3 u4_ from Rows.below (j := 4) (HB3.out.alloc (by omega) _) (by simp; omega) (HR3.out.alloc _) rfl hgrow)
          have zu4_ := HB4.out.size
          have e1_4 : u4_.cell? ⟨pb, po + k, none⟩ = some (.bool false) := (HB4.out.cell hpb3).trans ((HP3.out k hlt).trans (by rw [HPk.out]))
          have e2_4 : u4_.cell? ⟨qb, qo + k, none⟩ = some (.bool false) := (HB4.out.cell hqb).trans ((HQ.out k hlt).trans (by rw [HQk.out]))
          clear hown hgrow hat hlt_
          go_wp2
          exact ⟨⟨HB4.out, k + 1, p0, p1, p2, p3, p4, q0, q1, q2, q3, q4, by omega, by go_num, rfl, rfl, rfl, rfl, rfl, HR4.out⟩, by simp [intOf]; omega⟩
    · obtain rfl : n = k := by omega
      have RB0 := Lib.hid (show RdB wr (some ⟨g1, 0, none⟩) (row (fun i => !bitAt x i) n) from rdb_ownrow (HR.out.at 0 rfl) rfl h8 rfl)
      have RC0 : n ≤ d1 := own_cap (HR.out.at 0 rfl)
      have RB1 := Lib.hid (show RdB wr (some ⟨g2, 0, none⟩) (row (fun i => bitAt x i && bitAt y i) n) from rdb_ownrow (HR.out.at 1 rfl) rfl h8 rfl)
      have RC1 : n ≤ d2 := own_cap (HR.out.at 1 rfl)
      have RB2 := Lib.hid (show RdB wr (some ⟨g3, 0, none⟩) (row (fun i => bitAt x i || bitAt y i) n) from rdb_ownrow (HR.out.at 2 rfl) rfl h8 rfl)
      have RC2 : n ≤ d3 := own_cap (HR.out.at 2 rfl)
      have RB3 := Lib.hid (show RdB wr (some ⟨g4, 0, none⟩) (row (fun i => bitAt x i != bitAt y i) n) from rdb_ownrow (HR.out.at 3 rfl) rfl h8 rfl)
      have RC3 : n ≤ d4 := own_cap (HR.out.at 3 rfl)
      have RB4 := Lib.hid (show RdB wr (some ⟨g5, 0, none⟩) (row (muxF 1 x y) n) from rdb_ownrow (HR.out.at 4 rfl) rfl h8 rfl)
      have RC4 : n ≤ d5 := own_cap (HR.out.at 4 rfl)
      have BF := Lib.hid (show Below W.heap.size W wr from (below_box B3.out).trans (HB.out.mono (by omega)))
      clear HP3 HQ
      go_wp2_with fail
      refine (apply_any 2 _ _ 1 1 [(n : Int)] [x] _ (rd_alloc (rd_at1 (by simp)) _) (rd_at1 (by simp))).mono ?_
      rintro e x1 ⟨rfl, hb⟩
      have X1 := Lib.hid (show Below wr.heap.size wr x1 from bel_call (by repeat (first | exact Below.refl _ _ | refine Below.drew ?_ | refine bel_drewN ?_ _ | refine Below.alloc ?_ (by first | omega | (simp; omega) | simp) _)) (by first | omega | (simp; omega) | simp) hb)
      have zx1 := X1.out.size
      clear hb
      go_wp2_with fail
      refine (Join_n g1 0 n d1 (row (fun i => !bitAt x i) n) r2 _ (row_length _ _) RC0 (RB0.out.below (by repeat (first | exact X1.out | refine Below.drew ?_ | refine bel_drewN ?_ _ | refine Below.alloc ?_ (by first | omega | (simp; omega) | simp) _))) j2.out).mono ?_
      rintro e w' ⟨rfl, rfl⟩
      go_wp2_with fail
      refine (two_any 3 n x y _).mono ?_
      rintro e x2 ⟨rfl, hb⟩
      have X2 := Lib.hid (show Below wr.heap.size wr x2 from bel_call (by repeat (first | exact X1.out | refine Below.drew ?_ | refine bel_drewN ?_ _ | refine Below.alloc ?_ (by first | omega | (simp; omega) | simp) _)) (by first | omega | (simp; omega) | simp) hb)
      have zx2 := X2.out.size
      clear hb
      go_wp2_with fail
      refine (Join_n g2 0 n d2 (row (fun i => bitAt x i && bitAt y i) n) r3 _ (row_length _ _) RC1 (RB1.out.below (by repeat (first | exact X2.out | refine Below.drew ?_ | refine bel_drewN ?_ _ | refine Below.alloc ?_ (by first | omega | (simp; omega) | simp) _))) j3.out).mono ?_
      rintro e w' ⟨rfl, rfl⟩
      go_wp2_with fail
      refine (two_any 4 n x y _).mono ?_
      rintro e x3 ⟨rfl, hb⟩
      have X3 := Lib.hid (show Below wr.heap.size wr x3 from bel_call (by repeat (first | exact X2.out | refine Below.drew ?_ | refine bel_drewN ?_ _ | refine Below.alloc ?_ (by first | omega | (simp; omega) | simp) _)) (by first | omega | (simp; omega) | simp) hb)
      have zx3 := X3.out.size
      clear hb
      go_wp2_with fail
      refine (Join_n g3 0 n d3 (row (fun i => bitAt x i || bitAt y i) n) r4 _ (row_length _ _) RC2 (RB2.out.below (by repeat (first | exact X3.out | refine Below.drew ?_ | refine bel_drewN ?_ _ | refine Below.alloc ?_ (by first | omega | (simp; omega) | simp) _))) j4.out).mono ?_
      rintro e w' ⟨rfl, rfl⟩
      go_wp2_with fail
      refine (two_any 5 n x y _).mono ?_
      rintro e x4 ⟨rfl, hb⟩
      have X4 := Lib.hid (show Below wr.heap.size wr x4 from bel_call (by repeat (first | exact X3.out | refine Below.drew ?_ | refine bel_drewN ?_ _ | refine Below.alloc ?_ (by first | omega | (simp; omega) | simp) _)) (by first | omega | (simp; omega) | simp) hb)
      have zx4 := X4.out.size
      clear hb
      go_wp2_with fail
      refine (Join_n g4 0 n d4 (row (fun i => bitAt x i != bitAt y i) n) r5 _ (row_length _ _) RC3 (RB3.out.below (by repeat (first | exact X4.out | refine Below.drew ?_ | refine bel_drewN ?_ _ | refine Below.alloc ?_ (by first | omega | (simp; omega) | simp) _))) j5.out).mono ?_
      rintro e w' ⟨rfl, rfl⟩
      go_wp2_with fail
      refine (apply_any 10 _ _ 3 3 [1, (n : Int), n] [1, x, y] _ (rd_alloc (rd_at3 (by simp)) _) (rd_at3 (by simp))).mono ?_
      rintro e x5 ⟨rfl, hb⟩
      have X5 := Lib.hid (show Below wr.heap.size wr x5 from bel_call (by repeat (first | exact X4.out | refine Below.drew ?_ | refine bel_drewN ?_ _ | refine Below.alloc ?_ (by first | omega | (simp; omega) | simp) _)) (by first | omega | (simp; omega) | simp) hb)
      have zx5 := X5.out.size
      clear hb
      go_wp2_with fail
      refine (Join_n g5 0 n d5 (row (muxF 1 x y) n) r10 _ (row_length _ _) RC4 (RB4.out.below (by repeat (first | exact X5.out | refine Below.drew ?_ | refine bel_drewN ?_ _ | refine Below.alloc ?_ (by first | omega | (simp; omega) | simp) _))) j10.out).mono ?_
      rintro e w' ⟨rfl, rfl⟩
      go_wp2
      go_ret
      exact ⟨rfl, BF.out.trans (X5.out.mono (by omega))⟩
theorem bitwise_law (a b k0 k1 : Int) (ha : 0 ≤ a ∧ a ≤ 255) (hb0 : 0 ≤ b ∧ b ≤ 255) (q0 : 0 ≤ k0 ∧ k0 ≤ 255) (q1 : 0 ≤ k1 ∧ k1 ≤ 255) (W : World) :
    Calls Try.prog 8 #[.int .u8 a, .int .u8 b, .agg #[.int .u8 k0, .int .u8 k1]] W fun e W' => e = .returned (.bool true) ∧ Below W.heap.size W W' := by
  obtain ⟨n, eN⟩ : ∃ n : Nat, 1 + k0 % 8 = n := ⟨(1 + k0 % 8).toNat, by omega⟩
  have h1 : 1 ≤ n := by omega
  have h8 : n ≤ 8 := by omega
  have fN : fit (n : Int) = true := fit_iff.2 (by omega)
  have bx := and_val fN ha
  have by_ := and_val fN hb0
  have hm := mask_le fN
  have hC : k1 % 2 = 0 ∨ k1 % 2 = 1 := by omega
  rcases hC with eC | eC
  · obtain ⟨r2, r3, r4, r5, r10, jx, jy, s2, j2, s3, j3, s4, j4, s5, j5, s10, j10⟩ := bitwise_facts (C := 0) h1 h8 bx by_ (by decide)
    exact bitwise_0 a b k0 k1 _ _ r2 r3 r4 r5 r10 n W q0 q1 h1 h8 eN eC rfl rfl ⟨bx.1, by omega⟩ ⟨by_.1, by omega⟩ ha hb0 jx jy s2 j2 s3 j3 s4 j4 s5 j5 s10 j10
  · obtain ⟨r2, r3, r4, r5, r10, jx, jy, s2, j2, s3, j3, s4, j4, s5, j5, s10, j10⟩ := bitwise_facts (C := 1) h1 h8 bx by_ (by decide)
    exact bitwise_1 a b k0 k1 _ _ r2 r3 r4 r5 r10 n W q0 q1 h1 h8 eN eC rfl rfl ⟨bx.1, by omega⟩ ⟨by_.1, by omega⟩ ha hb0 jx jy s2 j2 s3 j3 s4 j4 s5 j5 s10 j10
end Bt
end Go.Proofs.Ytpblhbagjmnmpaa
