/- Augmentation and the cut, plain. -/
import Derived.Test.YtnnlhmialmhpfaaFlC
set_option linter.unusedSimpArgs false
set_option linter.unusedVariables false
namespace Go.Proofs.Ytnnlhmialmhpfaa

theorem bound_list (g : Nat → Int) : ∀ n, ∃ C : Int, 0 ≤ C ∧ ∀ i, i < n → g i ≤ C
  | 0 => ⟨0, Int.le_refl _, fun i hi => by omega⟩
  | n + 1 => by
    obtain ⟨C, h0, h⟩ := bound_list g n
    by_cases e : g n ≤ C
    · exact ⟨C, h0, fun i hi => by
        by_cases e2 : i = n
        · rw [e2]; exact e
        · exact h i (by omega)⟩
    · exact ⟨g n, by omega, fun i hi => by
        by_cases e2 : i = n
        · rw [e2]; exact Int.le_refl _
        · have := h i (by omega); omega⟩
theorem sC_bd {s : List Int} {A : List Ark} (hV : vN s A) {i : Nat} (hi : i < A.length) (b : Bool) : -1000 ≤ sC A i b ∧ sC A i b ≤ 1000 := by
  have := (hV.a i hi).2.2.2
  unfold sC
  cases b <;> simp <;> omega
theorem sF_lt {s : List Int} {A : List Ark} (hV : vN s A) {i : Nat} (hi : i < A.length) (b : Bool) : sF A i b < s.length := by
  unfold sF
  cases b
  · exact hV.vF hi
  · exact hV.vT hi
theorem sT_lt {s : List Int} {A : List Ark} (hV : vN s A) {i : Nat} (hi : i < A.length) (b : Bool) : sT A i b < s.length := by
  unfold sT
  cases b
  · exact hV.vT hi
  · exact hV.vF hi
theorem fit_add {A : List Ark} {f : List Int} (hf : Fit A f) {P : List (Nat × Bool)} (hp : P.Pairwise fun x y => x.1 ≠ y.1) (hP : ∀ x ∈ P, x ∈ resL A f A.length) {k : Int} (h0 : 0 ≤ k) (hk : ∀ x ∈ P, k ≤ sR A f x.1 x.2) : Fit A (addP f k P) := by
  have hm : ∀ x ∈ P, x.1 < f.length := fun x hx => by
    have := (mem_resL (i := x.1) (b := x.2)).1 (hP x hx)
    rw [hf.l]; exact this.1
  refine ⟨by rw [addP_length]; exact hf.l, fun i hi => ?_⟩
  rw [ge_addP k P f hp hm]
  have hb := hf.b i hi
  by_cases e1 : (i, false) ∈ P
  · rw [if_pos e1]
    have := hk _ e1
    simp [sR] at this
    omega
  · rw [if_neg e1]
    by_cases e2 : (i, true) ∈ P
    · rw [if_pos e2]
      have := hk _ e2
      simp [sR] at this
      omega
    · rw [if_neg e2]; exact hb
/-- The labels give a potential of the new residual network. -/
theorem pot_add {s : List Int} {A : List Ark} (hV : vN s A) {f : List Int} (hf : Fit A f) {π : Nat → Int} (hpot : Pot A f π) {far : Int} {d : List Int} {ch : Nat → List Nat} {P : List (Nat × Bool)} {a t : Nat}
    (hs : Settled far A (resL A f A.length) d) (hw : Wy s.length A (resL A f A.length) far d ch P a t) (k : Int) : ∃ π', Pot A (addP f k P) π' := by
  obtain ⟨C, hC0, hC⟩ := bound_list (fun j => (if ge d (vF A j) = far then ge d (vT A j) - cst A j - π (vF A j) else 0) + (if ge d (vT A j) = far then ge d (vF A j) + cst A j - π (vT A j) else 0)) A.length
  obtain ⟨C1, hC01, hC1⟩ := bound_list (fun j => ge d (vT A j) - cst A j - π (vF A j)) A.length
  obtain ⟨C2, hC02, hC2⟩ := bound_list (fun j => ge d (vF A j) + cst A j - π (vT A j)) A.length
  refine ⟨fun v => if ge d v = far then π v + (C1 + C2) else ge d v, fun i b hR => ?_⟩
  obtain ⟨hi, hr⟩ := hR
  have hm : ∀ x ∈ P, x.1 < f.length := fun x hx => by
    have := (mem_resL (i := x.1) (b := x.2)).1 (hw.stp x hx).1
    rw [hf.l]; exact this.1
  have hge := ge_addP k P f hw.arcs hm i
  -- the arc's ends bound C1, C2
  have c1 := hC1 i hi
  have c2 := hC2 i hi
  try simp only at c1 c2
  -- is it an old step, or the reverse of a tight one
  by_cases hold : Rs A f i b
  · obtain ⟨t', ht'⟩ := List.getElem?_of_mem ((mem_resL (A := A) (f := f) (i := i) (b := b) (k := A.length)).2 ⟨hi, hold.2⟩)
    have hp := hpot i b hold
    rcases hs t' i b ht' with g | ⟨g1, g2⟩
    · by_cases g3 : ge d (sT A i b) = far
      · simp only [g, g3, if_true]; omega
      · simp only [g, g3, if_true, if_false]
        cases b <;> simp [sF, sT, sC] at * <;> omega
    · by_cases g : ge d (sF A i b) = far
      · simp only [g, g1, if_true, if_false]
        cases b <;> simp [sF, sT, sC] at * <;> omega
      · simp only [g, g1, if_false]; omega
  · have hrev : (i, !b) ∈ P := by
      by_cases e1 : (i, false) ∈ P
      · rw [if_pos e1] at hge
        cases b
        · exact absurd ⟨hi, by simp [sR] at hr ⊢; have := (mem_resL.1 (hw.stp _ e1).1).2; simp [sR] at this; omega⟩ hold
        · exact e1
      · rw [if_neg e1] at hge
        by_cases e2 : (i, true) ∈ P
        · cases b
          · exact e2
          · exact absurd ⟨hi, by have := (mem_resL.1 (hw.stp _ e2).1).2; exact this⟩ hold
        · rw [if_neg e2] at hge
          refine absurd ⟨hi, ?_⟩ hold
          unfold sR at hr ⊢
          rw [hge] at hr
          exact hr
    obtain ⟨_, ht, _, f1, f2⟩ := hw.stp _ hrev
    simp only at ht f1 f2
    have a1 : sF A i b = sT A i !b := by cases b <;> rfl
    have a2 : sT A i b = sF A i !b := by cases b <;> rfl
    have a3 : sC A i b = -sC A i !b := by cases b <;> simp [sC]
    rw [a1, a2, a3]
    simp only [f1, f2, if_false]
    omega

/-- The cut: no flow if nothing that lacks can be reached. -/
theorem cut_no {s : List Int} {A : List Ark} (hV : vN s A) {f : List Int} (hf : Fit A f) {far : Int} {d : List Int} (hs : Settled far A (resL A f A.length) d) (hpos : ∀ v, v < s.length → ge d v ≠ far → 0 ≤ exc s A f v)
    {a : Nat} (ha : a < s.length) (haf : ge d a ≠ far) (ha0 : 0 < exc s A f a) : ∀ g, ¬ isFlow s A g := by
  intro g hg
  -- sums over the vertices that are reached
  have key : ∀ x : List Int, sumN (fun v => if ge d v ≠ far then exc s A x v else 0) s.length = sumN (fun v => if ge d v ≠ far then ge s v else 0) s.length + sumN (fun i => ((if ge d (vT A i) ≠ far then 1 else 0) - (if ge d (vF A i) ≠ far then 1 else 0)) * ge x i) A.length := fun x => by
    rw [pot_sum hV (fun v => if ge d v ≠ far then 1 else 0), ← sumN_add]
    refine sumN_congr fun v _ => ?_
    unfold exc inF
    split
    · rw [Int.one_mul]
    · rw [Int.zero_mul]; rfl
  have h1 : 0 < sumN (fun v => if ge d v ≠ far then exc s A f v else 0) s.length := by
    have := sumN_ge (f := fun v => if ge d v ≠ far then exc s A f v else 0) ha (fun v hv => by
      show 0 ≤ if ge d v ≠ far then exc s A f v else 0
      split
      · rename_i h; exact hpos v hv h
      · exact Int.le_refl _)
    simp only [if_pos haf] at this
    omega
  have h2 : sumN (fun v => if ge d v ≠ far then exc s A g v else 0) s.length = 0 := sumN_zero fun v hv => by
    split
    · exact hg.2 v hv
    · rfl
  rw [key] at h1 h2
  have h3 : sumN (fun i => ((if ge d (vT A i) ≠ far then 1 else 0) - (if ge d (vF A i) ≠ far then 1 else 0)) * ge f i) A.length ≤ sumN (fun i => ((if ge d (vT A i) ≠ far then 1 else 0) - (if ge d (vF A i) ≠ far then 1 else 0)) * ge g i) A.length := sumN_le fun i hi => by
    have b1 := hf.b i hi
    have b2 := hg.1.b i hi
    by_cases eF : ge d (vF A i) = far
    · by_cases eT : ge d (vT A i) = far
      · simp [eF, eT]
      · simp only [eF, eT, ne_eq, not_true, not_false_iff, if_true, if_false, Int.sub_zero, Int.one_mul]
        -- no backward step: f is 0
        by_cases e : 0 < ge f i
        · obtain ⟨t', ht'⟩ := List.getElem?_of_mem ((mem_resL (A := A) (f := f) (i := i) (b := true) (k := A.length)).2 ⟨hi, e⟩)
          rcases hs t' i true ht' with g1 | ⟨g1, _⟩
          · exact absurd g1 eT
          · exact absurd eF g1
        · omega
    · by_cases eT : ge d (vT A i) = far
      · simp only [eF, eT, ne_eq, not_true, not_false_iff, if_true, if_false]
        by_cases e : ge f i < cap A i
        · obtain ⟨t', ht'⟩ := List.getElem?_of_mem ((mem_resL (A := A) (f := f) (i := i) (b := false) (k := A.length)).2 ⟨hi, by simp [sR]; omega⟩)
          rcases hs t' i false ht' with g1 | ⟨g1, _⟩
          · exact absurd g1 eF
          · exact absurd eT g1
        · omega
      · simp [eF, eT]
  omega
end Go.Proofs.Ytnnlhmialmhpfaa
