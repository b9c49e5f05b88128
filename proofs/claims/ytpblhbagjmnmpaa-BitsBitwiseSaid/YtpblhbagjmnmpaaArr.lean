/- An array of whole numbers, given by value: opened and shut for its row. Conditions: the element's type is a whole number's. -/
import Derived.OpenShut
set_option linter.unusedVariables false
set_option linter.unusedSimpArgs false
namespace Go.Proofs.Ytpblhbagjmnmpaa
open Go
namespace Arr
section
variable {H : Type} {enc : TypeId × Value → H} {P : Program} {w : World} {base : Nat} {spare : Nat → Bool} {held : Bool}

theorem shut {t e : TypeId} {n : Nat} {k : IntKind} (l : List Int) (ht : P.underlying t = some (.array n e)) (he : P.underlying e = some (.int k)) (hce : P.cellsOf e = 1) (hct : P.cellsOf t = n)
    (hl : l.length = n) (hw : ∀ a ∈ l, (Lit.int k a).wf = true) :
    DataW.Trod enc P w base spare held t (.agg (l.map (Value.int k)).toArray) (.agg (l.map fun a => .lit (.int k a))) [] := by
  refine ⟨2, ?_⟩
  unfold DataW.trod
  rw [ht]
  simp only [Value.cells, hct, hce, Nat.mul_one]
  have hm : (List.range n).mapM (fun i => DataW.trod enc P w base spare held 1 e (((l.map (Value.int k)).drop i).take 1)) = some (l.map fun a => ((.lit (.int k a) : DataW H), ([] : List MemPlace))) := by
    subst hl
    have key : ∀ (l0 : List Int), (∀ a ∈ l0, a ∈ l) → ∀ j, l.drop j = l0 → ((List.range' j l0.length).mapM (fun i => DataW.trod enc P w base spare held 1 e (((l.map (Value.int k)).drop i).take 1)) = some (l0.map fun a => ((.lit (.int k a) : DataW H), ([] : List MemPlace)))) := by
      intro l0
      induction l0 with
      | nil => intro _ j _; rfl
      | cons a l0 ih =>
        intro hin j hj
        have hd : ((l.map (Value.int k)).drop j).take 1 = [.int k a] := by rw [← List.map_drop, hj]; rfl
        have hn : l.drop (j + 1) = l0 := by rw [← List.drop_drop, hj]; rfl
        have h1 := ih (fun b hb => hin b (List.mem_cons_of_mem _ hb)) (j + 1) hn
        simp only [List.length_cons, List.range'_succ, List.mapM_cons, hd]
        rw [h1]
        simp [DataW.trod, he, hw a (hin a (List.mem_cons_self ..))]
    have := key l (fun _ h => h) 0 rfl
    rw [List.range_eq_range']
    exact this
  simp [hm, hl]

theorem open_arr {r : Reach} {b0 : Nat} {t e : TypeId} {n : Nat} {k : IntKind} {v : Value} {d : DataW H} {p : List MemPlace} (ht : P.underlying t = some (.array n e)) (he : P.underlying e = some (.int k)) (hce : P.cellsOf e = 1) (hct : P.cellsOf t = n)
    (hv : Value.okWide P w r b0 t v) (h : DataW.Trod enc P w base spare held t v d p) :
    ∃ l : List Int, l.length = n ∧ v = .agg (l.map (Value.int k)).toArray ∧ d = .agg (l.map fun a => .lit (.int k a)) ∧ p = [] ∧ ∀ a ∈ l, (Lit.int k a).wf = true := by
  have hcs : ∃ cs, v = .agg cs ∧ cs.size = P.cellsOf t := by
    simp only [Value.okWide, ht] at hv
    obtain ⟨cs, h1, h2, _⟩ := hv
    exact ⟨cs, h1, h2⟩
  obtain ⟨cs, rfl, hsz⟩ := hcs
  obtain ⟨fuel, hf⟩ := h
  obtain ⟨xs, m, _, hx, _, hl, hi⟩ := DataW.trod_array ht hf
  simp only [Prod.mk.injEq] at hx
  simp only [hce, Nat.mul_one, Value.cells] at hi
  rw [hct] at hsz
  have hall : ∀ i, i < n → ∃ a, cs.toList[i]? = some (.int k a) ∧ xs[i]? = some (.lit (.int k a), []) ∧ (Lit.int k a).wf = true := by
    intro i h
    have hc : i < cs.toList.length := by simpa [hsz] using h
    have h1 := hi i h
    have h2 : (cs.toList.drop i).take 1 = [cs.toList[i]] := by
      rw [List.drop_eq_getElem_cons hc]; rfl
    rw [h2, List.getElem?_eq_getElem (by omega : i < xs.length)] at h1
    obtain ⟨a, e1, e2, hw⟩ := DataW.trod_int he h1
    simp at e1
    exact ⟨a, by rw [List.getElem?_eq_getElem hc]; simp [e1], by rw [List.getElem?_eq_getElem (by omega : i < xs.length), e2], hw⟩
  have key : ∀ (vs : List Value) (ys : List (DataW H × List MemPlace)), vs.length = ys.length → (∀ i, i < vs.length → ∃ a, vs[i]? = some (.int k a) ∧ ys[i]? = some (.lit (.int k a), []) ∧ (Lit.int k a).wf = true) →
      ∃ l : List Int, l.length = vs.length ∧ vs = l.map (Value.int k) ∧ ys.map (·.1) = l.map (fun a => .lit (.int k a)) ∧ ys.flatMap (·.2) = [] ∧ ∀ a ∈ l, (Lit.int k a).wf = true := by
    intro vs
    induction vs with
    | nil => intro ys hy _; cases ys with
      | nil => exact ⟨[], rfl, rfl, rfl, rfl, by simp⟩
      | cons y ys => simp at hy
    | cons v vs ih =>
      intro ys hy ha
      cases ys with
      | nil => simp at hy
      | cons y ys =>
        obtain ⟨a, h1, h2, h3⟩ := ha 0 (by simp)
        obtain ⟨l, g1, g2, g3, g4, g5⟩ := ih ys (by simpa using hy) (fun i hi => by simpa using ha (i + 1) (by simpa using hi))
        simp at h1 h2
        subst h1 h2
        exact ⟨a :: l, by simp [g1], by simp [g2], by simp [g3], by simp [g4], by simpa using ⟨h3, g5⟩⟩
  obtain ⟨l, g1, g2, g3, g4, g5⟩ := key cs.toList xs (by simp [hsz, hl]) (fun i h => hall i (by simpa [hsz] using h))
  refine ⟨l, by rw [g1]; simpa using hsz, ?_, ?_, ?_, g5⟩
  · rw [← g2]
  · rw [hx.1, g3]
  · rw [hx.2, g4]
theorem open_arr2 {r : Reach} {b0 : Nat} {t e : TypeId} {k : IntKind} {v : Value} {d : DataW H} {p : List MemPlace} (ht : P.underlying t = some (.array 2 e)) (he : P.underlying e = some (.int k)) (hce : P.cellsOf e = 1) (hct : P.cellsOf t = 2)
    (hv : Value.okWide P w r b0 t v) (h : DataW.Trod enc P w base spare held t v d p) :
    ∃ a0 a1 : Int, v = .agg #[.int k a0, .int k a1] ∧ d = .agg [.lit (.int k a0), .lit (.int k a1)] ∧ p = [] ∧ (Lit.int k a0).wf = true ∧ (Lit.int k a1).wf = true := by
  obtain ⟨l, hl, rfl, rfl, rfl, hw⟩ := open_arr ht he hce hct hv h
  match l, hl with
  | [a0, a1], _ => exact ⟨a0, a1, rfl, rfl, rfl, hw _ (by simp), hw _ (by simp)⟩
theorem shut2 {t e : TypeId} {k : IntKind} {a0 a1 : Int} (ht : P.underlying t = some (.array 2 e)) (he : P.underlying e = some (.int k)) (hce : P.cellsOf e = 1) (hct : P.cellsOf t = 2)
    (hw : (Lit.int k a0).wf = true ∧ (Lit.int k a1).wf = true) : DataW.Trod enc P w base spare held t (.agg #[.int k a0, .int k a1]) (.agg [.lit (.int k a0), .lit (.int k a1)]) [] :=
  shut [a0, a1] ht he hce hct rfl (by simpa using hw)
theorem open_arr3 {r : Reach} {b0 : Nat} {t e : TypeId} {k : IntKind} {v : Value} {d : DataW H} {p : List MemPlace} (ht : P.underlying t = some (.array 3 e)) (he : P.underlying e = some (.int k)) (hce : P.cellsOf e = 1) (hct : P.cellsOf t = 3)
    (hv : Value.okWide P w r b0 t v) (h : DataW.Trod enc P w base spare held t v d p) :
    ∃ a0 a1 a2 : Int, v = .agg #[.int k a0, .int k a1, .int k a2] ∧ d = .agg [.lit (.int k a0), .lit (.int k a1), .lit (.int k a2)] ∧ p = [] ∧ (Lit.int k a0).wf = true ∧ (Lit.int k a1).wf = true ∧ (Lit.int k a2).wf = true := by
  obtain ⟨l, hl, rfl, rfl, rfl, hw⟩ := open_arr ht he hce hct hv h
  match l, hl with
  | [a0, a1, a2], _ => exact ⟨a0, a1, a2, rfl, rfl, rfl, hw _ (by simp), hw _ (by simp), hw _ (by simp)⟩
theorem shut3 {t e : TypeId} {k : IntKind} {a0 a1 a2 : Int} (ht : P.underlying t = some (.array 3 e)) (he : P.underlying e = some (.int k)) (hce : P.cellsOf e = 1) (hct : P.cellsOf t = 3)
    (hw : (Lit.int k a0).wf = true ∧ (Lit.int k a1).wf = true ∧ (Lit.int k a2).wf = true) : DataW.Trod enc P w base spare held t (.agg #[.int k a0, .int k a1, .int k a2]) (.agg [.lit (.int k a0), .lit (.int k a1), .lit (.int k a2)]) [] :=
  shut [a0, a1, a2] ht he hce hct rfl (by simpa using hw)
theorem open_arr5 {r : Reach} {b0 : Nat} {t e : TypeId} {k : IntKind} {v : Value} {d : DataW H} {p : List MemPlace} (ht : P.underlying t = some (.array 5 e)) (he : P.underlying e = some (.int k)) (hce : P.cellsOf e = 1) (hct : P.cellsOf t = 5)
    (hv : Value.okWide P w r b0 t v) (h : DataW.Trod enc P w base spare held t v d p) :
    ∃ a0 a1 a2 a3 a4 : Int, v = .agg #[.int k a0, .int k a1, .int k a2, .int k a3, .int k a4] ∧ d = .agg [.lit (.int k a0), .lit (.int k a1), .lit (.int k a2), .lit (.int k a3), .lit (.int k a4)] ∧ p = [] ∧ (Lit.int k a0).wf = true ∧ (Lit.int k a1).wf = true ∧ (Lit.int k a2).wf = true ∧ (Lit.int k a3).wf = true ∧ (Lit.int k a4).wf = true := by
  obtain ⟨l, hl, rfl, rfl, rfl, hw⟩ := open_arr ht he hce hct hv h
  match l, hl with
  | [a0, a1, a2, a3, a4], _ => exact ⟨a0, a1, a2, a3, a4, rfl, rfl, rfl, hw _ (by simp), hw _ (by simp), hw _ (by simp), hw _ (by simp), hw _ (by simp)⟩
theorem shut5 {t e : TypeId} {k : IntKind} {a0 a1 a2 a3 a4 : Int} (ht : P.underlying t = some (.array 5 e)) (he : P.underlying e = some (.int k)) (hce : P.cellsOf e = 1) (hct : P.cellsOf t = 5)
    (hw : (Lit.int k a0).wf = true ∧ (Lit.int k a1).wf = true ∧ (Lit.int k a2).wf = true ∧ (Lit.int k a3).wf = true ∧ (Lit.int k a4).wf = true) : DataW.Trod enc P w base spare held t (.agg #[.int k a0, .int k a1, .int k a2, .int k a3, .int k a4]) (.agg [.lit (.int k a0), .lit (.int k a1), .lit (.int k a2), .lit (.int k a3), .lit (.int k a4)]) [] :=
  shut [a0, a1, a2, a3, a4] ht he hce hct rfl (by simpa using hw)
end
end Arr
end Go.Proofs.Ytpblhbagjmnmpaa
