/- Networks with twice the capacities and supplies, plain. -/
import Derived.Test.YtnnlhmialmhpfaaFlL2
set_option linter.unusedSimpArgs false
set_option linter.unusedVariables false
namespace Go.Proofs.Ytnnlhmialmhpfaa
open Go.RowKit

def dbl (s : List Int) : List Int := s.map fun x => 2 * x
def dblA (A : List Ark) : List Ark := A.map fun a => ⟨a.fr, a.ed, 2 * a.cap, a.cost⟩
theorem dbl_len (s : List Int) : (dbl s).length = s.length := by simp [dbl]
theorem dblA_len (A : List Ark) : (dblA A).length = A.length := by simp [dblA]
theorem ge_dbl (s : List Int) (v : Nat) : ge (dbl s) v = 2 * ge s v := by
  unfold ge dbl
  rw [List.getD_eq_getElem?_getD, List.getD_eq_getElem?_getD, List.getElem?_map]
  cases s[v]? <;> rfl
theorem aK_dbl (A : List Ark) (i : Nat) : aK (dblA A) i = ⟨(aK A i).fr, (aK A i).ed, 2 * (aK A i).cap, (aK A i).cost⟩ := by
  unfold aK dblA
  rw [List.getD_eq_getElem?_getD, List.getD_eq_getElem?_getD, List.getElem?_map]
  cases A[i]? <;> rfl
theorem vF_dbl (A : List Ark) (i : Nat) : vF (dblA A) i = vF A i := by unfold vF; rw [aK_dbl]
theorem vT_dbl (A : List Ark) (i : Nat) : vT (dblA A) i = vT A i := by unfold vT; rw [aK_dbl]
theorem cap_dbl (A : List Ark) (i : Nat) : cap (dblA A) i = 2 * cap A i := by unfold cap; rw [aK_dbl]
theorem cst_dbl (A : List Ark) (i : Nat) : cst (dblA A) i = cst A i := by unfold cst; rw [aK_dbl]
theorem sumN_two (f : Nat → Int) : ∀ n, sumN (fun i => 2 * f i) n = 2 * sumN f n
  | 0 => rfl
  | n + 1 => by rw [sumN, sumN, sumN_two f n]; omega
theorem vN_dbl {s : List Int} {A : List Ark} (h : vN s A) (h1 : ∀ v, v < s.length → -1000 ≤ ge s v ∧ ge s v ≤ 1000) (h2 : ∀ i, i < A.length → cap A i ≤ 1000) : vN (dbl s) (dblA A) := by
  refine ⟨by rw [dbl_len]; exact h.n, by rw [dblA_len]; exact h.m, fun v hv => ?_, fun i hi => ?_, ?_⟩
  · rw [dbl_len] at hv
    have := h1 v hv
    rw [ge_dbl]
    omega
  · rw [dblA_len] at hi
    have := h2 i hi
    have := h.a i hi
    rw [cap_dbl, cst_dbl, aK_dbl, dbl_len]
    dsimp only
    omega
  · have e : sumN (fun v => ge (dbl s) v) (dbl s).length = sumN (fun v => 2 * ge s v) s.length := by rw [dbl_len]; exact sumN_congr fun v _ => ge_dbl s v
    rw [e, sumN_two, h.z]
    rfl
theorem inF_dbl (A : List Ark) (f : List Int) (v k : Nat) : inF (dblA A) (dbl f) v k = 2 * inF A f v k := by
  unfold inF
  rw [← sumN_two]
  refine sumN_congr fun i _ => ?_
  rw [vF_dbl, vT_dbl, ge_dbl]
  split <;> split <;> omega
theorem flow_dbl {s : List Int} {A : List Ark} {f : List Int} (h : isFlow s A f) : isFlow (dbl s) (dblA A) (dbl f) := by
  obtain ⟨⟨h1, h2⟩, h3⟩ := h
  refine ⟨⟨by rw [dbl_len, dblA_len]; exact h1, fun i hi => ?_⟩, fun v hv => ?_⟩
  · rw [dblA_len] at hi
    have := h2 i hi
    rw [ge_dbl, cap_dbl]
    omega
  · rw [dbl_len] at hv
    have := h3 v hv
    unfold exc at this ⊢
    rw [ge_dbl, dblA_len, inF_dbl]
    omega
theorem pot_dbl {A : List Ark} {f : List Int} {π : Nat → Int} (h : Pot A f π) : Pot (dblA A) (dbl f) π := by
  intro i b ⟨hi, hr⟩
  rw [dblA_len] at hi
  have := h i b ⟨hi, by
    unfold sR at hr ⊢
    rw [ge_dbl, cap_dbl] at hr
    cases b <;> simp at hr ⊢ <;> omega⟩
  unfold sC sF sT at this ⊢
  rw [vF_dbl, vT_dbl, cst_dbl]
  exact this
theorem cost_dbl (A : List Ark) (f : List Int) : costF (dblA A) (dbl f) = 2 * costF A f := by
  unfold costF
  rw [dblA_len, ← sumN_two]
  refine sumN_congr fun i _ => ?_
  rw [ge_dbl, cst_dbl, Int.mul_assoc]
theorem cut_dbl {s : List Int} {A : List Ark} (h : Cut s A) : Cut (dbl s) (dblA A) := by
  obtain ⟨R, h⟩ := h
  refine ⟨R, ?_⟩
  have e1 : sumN (fun i => if R (vF (dblA A) i) = true ∧ R (vT (dblA A) i) = false then cap (dblA A) i else 0) (dblA A).length = 2 * sumN (fun i => if R (vF A i) = true ∧ R (vT A i) = false then cap A i else 0) A.length := by
    rw [dblA_len, ← sumN_two]
    refine sumN_congr fun i _ => ?_
    rw [vF_dbl, vT_dbl, cap_dbl]
    split <;> rfl
  have e2 : sumN (fun v => if R v = true then ge (dbl s) v else 0) (dbl s).length = 2 * sumN (fun v => if R v = true then ge s v else 0) s.length := by
    rw [dbl_len, ← sumN_two]
    refine sumN_congr fun v _ => ?_
    rw [ge_dbl]
    split <;> rfl
  rw [e1, e2]
  omega
theorem cos_nil (s : List Int) (A : List Ark) : cosS s A [] = 0 := by
  unfold cosS
  split
  · rename_i h
    have := (fitsS_zero h).2.l
    simp at this
    unfold costF
    rw [← this]
    rfl
  · rfl
theorem dbl_take {s : List Int} {k : Nat} (hk : k < s.length) : dbl (s.take (k + 1)) = dbl (s.take k) ++ [2 * ge s k] := by
  rw [List.take_add_one, List.getElem?_eq_getElem hk, ge_eq s hk]
  simp only [dbl, List.map_append, List.map_cons, List.map_nil, Option.toList]
theorem dblA_take {A : List Ark} {k : Nat} (hk : k < A.length) : dblA (A.take (k + 1)) = dblA (A.take k) ++ [⟨(aK A k).fr, (aK A k).ed, 2 * (aK A k).cap, (aK A k).cost⟩] := by
  rw [List.take_add_one, List.getElem?_eq_getElem hk, aK_eq A hk]
  simp only [dblA, List.map_append, List.map_cons, List.map_nil, Option.toList]
/-- The costs of both. -/
theorem scale_cost {s : List Int} {A : List Ark} {f g : List Int} (hV2 : vN (dbl s) (dblA A)) (hf : isFlow s A f) (hp : ∃ π, Pot A f π) (hg : isFlow (dbl s) (dblA A) g) (hq : ∃ π, Pot (dblA A) g π) : costF (dblA A) g = 2 * costF A f := by
  obtain ⟨π, hp⟩ := hp
  obtain ⟨ρ, hq⟩ := hq
  have h1 := pot_least hV2 (pot_dbl hp) (flow_dbl hf) hg
  have h2 := pot_least hV2 hq hg (flow_dbl hf)
  rw [cost_dbl] at h1 h2
  omega
end Go.Proofs.Ytnnlhmialmhpfaa
