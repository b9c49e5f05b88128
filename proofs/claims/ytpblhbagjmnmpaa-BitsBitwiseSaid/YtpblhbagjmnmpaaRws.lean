/- Several slices of a call's own, each in a block of its own: what an append to one of them leaves of all. Conditions: none. -/
import Derived.OwnWalk
import Derived.WalkKit
import Derived.Below
import Derived.Deep.Draws
import Derived.Laws.AppendOwn
import Derived.Deep.AppendLies
set_option linter.unusedVariables false
set_option linter.unusedSimpArgs false
namespace Go.Proofs.Ytpblhbagjmnmpaa
open Go Go.RowKit

/-- A slice of the call's own: its element's type and cells, its block, length, capacity and cells. -/
structure Rw where
  e : TypeId
  s : Nat
  g : Nat
  n : Nat
  c : Nat
  xs : List Value
/-- The slice lies in the world. -/
def Rw.Own (r : Rw) (W : World) (B : Nat) : Prop := W.ownsRow B r.e r.s (.slice (some ⟨r.g, 0, none⟩) r.n r.c) r.n r.xs
/-- All slices lie in the world, each in a block of its own. -/
def Rows (W : World) (B : Nat) (rs : List Rw) : Prop := (∀ r ∈ rs, r.Own W B) ∧ rs.Pairwise (fun a b => a.g ≠ b.g)
theorem Rw.Own.lt {r : Rw} {W : World} {B : Nat} (h : r.Own W B) : B ≤ r.g ∧ r.g < W.heap.size := World.ownsRow.lt h r.g rfl
theorem Rows.at {W : World} {B : Nat} {rs : List Rw} (h : Rows W B rs) (j : Nat) {r : Rw} (hj : rs[j]? = some r) : r.Own W B := h.1 r (List.mem_of_getElem? hj)
theorem Rows.alloc {W : World} {B : Nat} {rs : List Rw} (h : Rows W B rs) (o : Obj) : Rows (W.alloc o) B rs := ⟨fun r hr => World.ownsRow.alloc (h.1 r hr) o, h.2⟩
theorem Rows.drew {W : World} {B : Nat} {rs : List Rw} (h : Rows W B rs) : Rows W.drew B rs := h
theorem Rows.drewN {W : World} {B : Nat} {rs : List Rw} (h : Rows W B rs) (n : Nat) : Rows (W.drewN n) B rs := h
theorem Rows.nil (W : World) (B : Nat) : Rows W B [] := ⟨fun r hr => by simp at hr, List.Pairwise.nil⟩
theorem Rows.made {W : World} {B : Nat} {rs : List Rw} (h : Rows W B rs) (hB : B ≤ W.heap.size) (cur : Array Value) (cap s : Nat) (e : TypeId) (hm : cap ≤ maxLen) (hs : cur.size = cap * s) {g : Nat} (hg : W.heap.size = g) :
    Rows (W.alloc (.cells cur e)) B (rs ++ [⟨e, s, g, 0, cap, []⟩]) := by
  subst hg
  refine ⟨fun r hr => ?_, ?_⟩
  · rcases List.mem_append.1 hr with hr | hr
    · exact World.ownsRow.alloc (h.1 r hr) _
    · obtain rfl := List.mem_singleton.1 hr
      exact World.ownsRow_made W cur cap hB hm hs
  · rw [List.pairwise_append]
    refine ⟨h.2, List.pairwise_singleton _ _, fun a ha b hb => ?_⟩
    obtain rfl := List.mem_singleton.1 hb
    have := (Rw.Own.lt (h.1 a ha)).2
    show a.g ≠ W.heap.size
    omega
theorem Rows.step {W u : World} {B j : Nat} {rs : List Rw} {r r' : Rw} (h : Rows W B rs) (hj : rs[j]? = some r) (hg : W.grownBy u (some r.g)) (hn : r'.Own u B) (hat : r'.g = r.g ∨ r'.g = W.heap.size) : Rows u B (rs.set j r') := by
  obtain ⟨hlt, e⟩ := List.getElem?_eq_some_iff.1 hj
  have hne : ∀ i (hi : i < rs.length), i ≠ j → rs[i].g ≠ r.g := by
    intro i hi hij
    have hp := List.pairwise_iff_getElem.1 h.2
    rcases Nat.lt_or_gt_of_ne hij with hlt2 | hlt2
    · rw [← e]; exact hp i j hi hlt hlt2
    · rw [← e]; exact fun q => hp j i hlt hi hlt2 q.symm
  have hkeep : ∀ i (hi : i < rs.length), i ≠ j → rs[i].Own u B := fun i hi hij =>
    World.ownsRow.kept (h.1 _ (List.getElem_mem hi)) hg (.inr (by simpa [Value.ownBlock] using hne i hi hij))
  have hne' : ∀ i (hi : i < rs.length), i ≠ j → rs[i].g ≠ r'.g := by
    intro i hi hij
    have h1 := hne i hi hij
    have h2 := (Rw.Own.lt (h.1 _ (List.getElem_mem hi))).2
    rcases hat with q | q <;> rw [q] <;> omega
  refine ⟨fun r0 hr => ?_, ?_⟩
  · obtain ⟨i, hi, rfl⟩ := List.getElem_of_mem hr
    rw [List.getElem_set]
    split
    · exact hn
    · rename_i hij
      exact hkeep i (by simpa using hi) (fun q => hij q.symm)
  · rw [List.pairwise_iff_getElem]
    intro a b ha hb hab
    simp only [List.length_set] at ha hb
    rw [List.getElem_set, List.getElem_set]
    split <;> split
    · omega
    · rename_i h1 h2; subst h1; exact fun q => hne' b hb (fun q2 => h2 q2.symm) q.symm
    · rename_i h1 h2; subst h2; exact hne' a ha (fun q2 => h1 q2.symm)
    · exact List.pairwise_iff_getElem.1 h.2 a b ha hb hab
theorem Rows.below {X W u : World} {B j : Nat} {rs : List Rw} {r : Rw} (hB : Below B X W) (hs : B ≤ W.heap.size) (h : Rows W B rs) (hj : rs[j]? = some r) (hg : W.grownBy u (some r.g)) : Below B X u :=
  hB.grown hg hs (fun k e => by injection e with e; subst e; exact (h.at j hj).lt.1)
theorem Rows.lies {g g' n c H : Nat} (h : (Value.slice (some ⟨g, 0, none⟩) n c).ownBlock = some g' ∨ g' = H) : g' = g ∨ g' = H := by
  rcases h with h | h
  · left; simpa [Value.ownBlock] using h.symm
  · right; exact h
end Go.Proofs.Ytpblhbagjmnmpaa
