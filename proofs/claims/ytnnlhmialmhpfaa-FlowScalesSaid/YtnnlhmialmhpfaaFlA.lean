/- Networks and flows, plain: excess, residual steps, potentials. -/
import Derived.Test.YtnnlhmialmhpfaaInts
set_option linter.unusedSimpArgs false
set_option linter.unusedVariables false
namespace Go.Proofs.Ytnnlhmialmhpfaa

structure Ark where
  fr : Int
  ed : Int
  cap : Int
  cost : Int
def aK (A : List Ark) (i : Nat) : Ark := A.getD i ⟨0, 0, 0, 0⟩
theorem aK_eq (A : List Ark) {i : Nat} (h : i < A.length) : aK A i = A[i] := by simp [aK, h]
def vF (A : List Ark) (i : Nat) : Nat := (aK A i).fr.toNat
def vT (A : List Ark) (i : Nat) : Nat := (aK A i).ed.toNat
def cap (A : List Ark) (i : Nat) : Int := (aK A i).cap
def cst (A : List Ark) (i : Nat) : Int := (aK A i).cost
/-- A valid network. -/
structure vN (s : List Int) (A : List Ark) : Prop where
  n : s.length ≤ 256
  m : A.length ≤ 2048
  sb : ∀ v, v < s.length → -1048576 ≤ ge s v ∧ ge s v ≤ 1048576
  a : ∀ i, i < A.length → (0 ≤ (aK A i).fr ∧ (aK A i).fr < s.length) ∧ (0 ≤ (aK A i).ed ∧ (aK A i).ed < s.length) ∧ (0 ≤ cap A i ∧ cap A i ≤ 1048576) ∧ (-1000 ≤ cst A i ∧ cst A i ≤ 1000)
  z : sumN (fun v => ge s v) s.length = 0
theorem vN.vF {s : List Int} {A : List Ark} (h : vN s A) {i : Nat} (hi : i < A.length) : vF A i < s.length := by
  have := (h.a i hi).1
  unfold Proofs.Ytnnlhmialmhpfaa.vF
  omega
theorem vN.vT {s : List Int} {A : List Ark} (h : vN s A) {i : Nat} (hi : i < A.length) : vT A i < s.length := by
  have := (h.a i hi).2.1
  unfold Proofs.Ytnnlhmialmhpfaa.vT
  omega
theorem vN.fr {s : List Int} {A : List Ark} (h : vN s A) {i : Nat} (hi : i < A.length) : (aK A i).fr = (Proofs.Ytnnlhmialmhpfaa.vF A i : Nat) := by
  have := (h.a i hi).1
  unfold Proofs.Ytnnlhmialmhpfaa.vF
  omega
theorem vN.ed {s : List Int} {A : List Ark} (h : vN s A) {i : Nat} (hi : i < A.length) : (aK A i).ed = (Proofs.Ytnnlhmialmhpfaa.vT A i : Nat) := by
  have := (h.a i hi).2.1
  unfold Proofs.Ytnnlhmialmhpfaa.vT
  omega

/-- Numbers on the arcs that fit. -/
structure Fit (A : List Ark) (f : List Int) : Prop where
  l : f.length = A.length
  b : ∀ i, i < A.length → 0 ≤ ge f i ∧ ge f i ≤ cap A i

/-- What the first k arcs bring to v. -/
def inF (A : List Ark) (f : List Int) (v k : Nat) : Int := sumN (fun i => (if vT A i = v then ge f i else 0) - (if vF A i = v then ge f i else 0)) k
/-- The excess of v. -/
def exc (s : List Int) (A : List Ark) (f : List Int) (v : Nat) : Int := ge s v + inF A f v A.length
/-- The list of excesses after k arcs, as the programs reckon it. -/
def exL (s : List Int) (A : List Ark) (f : List Int) : Nat → List Int
  | 0 => s
  | k + 1 => ((exL s A f k).set (vF A k) (ge (exL s A f k) (vF A k) - ge f k)).set (vT A k) (ge ((exL s A f k).set (vF A k) (ge (exL s A f k) (vF A k) - ge f k)) (vT A k) + ge f k)
theorem exL_length (s : List Int) (A : List Ark) (f : List Int) : ∀ k, (exL s A f k).length = s.length
  | 0 => rfl
  | k + 1 => by simp only [exL, List.length_set]; exact exL_length s A f k
theorem ge_exL {s : List Int} {A : List Ark} (hV : vN s A) (f : List Int) : ∀ k, k ≤ A.length → ∀ v, ge (exL s A f k) v = ge s v + inF A f v k
  | 0, _, v => by show ge s v = _; simp [inF, sumN]
  | k + 1, hk, v => by
    have ih := ge_exL hV f k (by omega)
    have h1 := hV.vF (i := k) (by omega)
    have h2 := hV.vT (i := k) (by omega)
    have hl := exL_length s A f k
    simp only [exL]
    rw [ge_set _ (by rw [List.length_set, hl]; exact h2), ge_set _ (by rw [hl]; exact h1), ge_set _ (by rw [hl]; exact h1)]
    have e : inF A f v (k + 1) = inF A f v k + ((if vT A k = v then ge f k else 0) - (if vF A k = v then ge f k else 0)) := rfl
    rw [e]
    by_cases e1 : v = vT A k
    · subst e1
      rw [if_pos rfl, if_pos rfl]
      by_cases e2 : vT A k = vF A k
      · rw [if_pos e2, if_pos e2.symm, ← e2, ih]; omega
      · rw [if_neg e2, if_neg (Ne.symm e2), ih]; omega
    · rw [if_neg e1, if_neg (Ne.symm e1)]
      by_cases e2 : v = vF A k
      · rw [if_pos e2, if_pos e2.symm, e2, ih]; omega
      · rw [if_neg e2, if_neg (Ne.symm e2), ih]; omega
def isFlow (s : List Int) (A : List Ark) (f : List Int) : Prop := Fit A f ∧ ∀ v, v < s.length → exc s A f v = 0
/-- The cost. -/
def costF (A : List Ark) (f : List Int) : Int := sumN (fun i => ge f i * cst A i) A.length

/-! ### Residual steps -/
def sF (A : List Ark) (i : Nat) (b : Bool) : Nat := if b then vT A i else vF A i
def sT (A : List Ark) (i : Nat) (b : Bool) : Nat := if b then vF A i else vT A i
def sC (A : List Ark) (i : Nat) (b : Bool) : Int := if b then -cst A i else cst A i
def sR (A : List Ark) (f : List Int) (i : Nat) (b : Bool) : Int := if b then ge f i else cap A i - ge f i
def Rs (A : List Ark) (f : List Int) (i : Nat) (b : Bool) : Prop := i < A.length ∧ 0 < sR A f i b
def Pot (A : List Ark) (f : List Int) (π : Nat → Int) : Prop := ∀ i b, Rs A f i b → 0 ≤ sC A i b + π (sF A i b) - π (sT A i b)
def resL (A : List Ark) (f : List Int) : Nat → List (Nat × Bool)
  | 0 => []
  | k + 1 => resL A f k ++ ((if ge f k < cap A k then [(k, false)] else []) ++ (if 0 < ge f k then [(k, true)] else []))
theorem mem_resL {A : List Ark} {f : List Int} {i : Nat} {b : Bool} : ∀ {k : Nat}, (i, b) ∈ resL A f k ↔ i < k ∧ 0 < sR A f i b
  | 0 => by simp [resL]
  | k + 1 => by
    simp only [resL, List.mem_append, mem_resL (k := k)]
    by_cases e : i = k
    · subst e
      unfold sR
      cases b
      · by_cases h : ge f i < cap A i
        · by_cases h2 : 0 < ge f i <;> simp [h, h2] <;> omega
        · by_cases h2 : 0 < ge f i <;> simp [h, h2] <;> omega
      · by_cases h : ge f i < cap A i
        · by_cases h2 : 0 < ge f i <;> simp [h, h2]
        · by_cases h2 : 0 < ge f i <;> simp [h, h2]
    · have n1 : (i, b) ∉ (if ge f k < cap A k then [(k, false)] else []) := by split <;> simp [e]
      have n2 : (i, b) ∉ (if 0 < ge f k then [(k, true)] else []) := by split <;> simp [e]
      constructor
      · rintro (h | h | h)
        · exact ⟨by omega, h.2⟩
        · exact absurd h n1
        · exact absurd h n2
      · intro h; exact Or.inl ⟨by omega, h.2⟩
theorem resL_len (A : List Ark) (f : List Int) : ∀ k, (resL A f k).length ≤ 2 * k
  | 0 => by simp [resL]
  | k + 1 => by
    have := resL_len A f k
    simp only [resL, List.length_append]
    split <;> split <;> simp <;> omega

/-! ### A potential means least cost -/
/-- Sum over the arcs of a difference of potentials. -/
theorem pot_sum {s : List Int} {A : List Ark} (hV : vN s A) (π : Nat → Int) (x : Nat → Int) :
    sumN (fun i => (π (vT A i) - π (vF A i)) * x i) A.length = sumN (fun v => π v * sumN (fun i => (if vT A i = v then x i else 0) - (if vF A i = v then x i else 0)) A.length) s.length := by
  have e1 : sumN (fun v => π v * sumN (fun i => (if vT A i = v then x i else 0) - (if vF A i = v then x i else 0)) A.length) s.length =
      sumN (fun v => sumN (fun i => π v * ((if vT A i = v then x i else 0) - (if vF A i = v then x i else 0))) A.length) s.length := sumN_congr fun v _ => by
    generalize A.length = k
    induction k with
    | zero => simp [sumN]
    | succ k ih => simp only [sumN, Int.mul_add, ih]
  rw [e1, sumN_swap]
  refine sumN_congr fun i hi => ?_
  have h1 := hV.vF hi
  have h2 := hV.vT hi
  have e2 : sumN (fun v => π v * ((if vT A i = v then x i else 0) - (if vF A i = v then x i else 0))) s.length =
      sumN (fun v => (if v = vT A i then π (vT A i) * x i else 0) + (if v = vF A i then -(π (vF A i) * x i) else 0)) s.length := sumN_congr fun v _ => by
    by_cases g1 : vT A i = v
    · by_cases g2 : vF A i = v
      · rw [if_pos g1, if_pos g2, if_pos g1.symm, if_pos g2.symm, g1, g2]; grind
      · rw [if_pos g1, if_neg g2, if_pos g1.symm, if_neg (Ne.symm g2), g1]; grind
    · by_cases g2 : vF A i = v
      · rw [if_neg g1, if_pos g2, if_neg (Ne.symm g1), if_pos g2.symm, g2]; grind
      · rw [if_neg g1, if_neg g2, if_neg (Ne.symm g1), if_neg (Ne.symm g2)]; grind
  rw [e2, sumN_add, sumN_one h2 (fun j _ hne => if_neg hne), if_pos rfl, sumN_one h1 (fun j _ hne => if_neg hne), if_pos rfl]
  grind
def rcst (A : List Ark) (π : Nat → Int) (i : Nat) : Int := cst A i + π (vF A i) - π (vT A i)
theorem flow_diff {s : List Int} {A : List Ark} (hV : vN s A) {f g : List Int} (hf : isFlow s A f) (hg : isFlow s A g) (π : Nat → Int) :
    costF A g - costF A f = sumN (fun i => rcst A π i * (ge g i - ge f i)) A.length := by
  have h1 : sumN (fun i => (π (vT A i) - π (vF A i)) * (ge g i - ge f i)) A.length = 0 := by
    rw [pot_sum hV π]
    refine sumN_zero fun v hv => ?_
    have e : sumN (fun i => (if vT A i = v then ge g i - ge f i else 0) - (if vF A i = v then ge g i - ge f i else 0)) A.length = inF A g v A.length - inF A f v A.length := by
      unfold inF
      have : sumN (fun i => ((if vT A i = v then ge g i - ge f i else 0) - (if vF A i = v then ge g i - ge f i else 0)) + ((if vT A i = v then ge f i else 0) - (if vF A i = v then ge f i else 0))) A.length = sumN (fun i => (if vT A i = v then ge g i else 0) - (if vF A i = v then ge g i else 0)) A.length := sumN_congr fun i _ => by
        split <;> split <;> omega
      rw [sumN_add] at this
      omega
    have a1 := hf.2 v hv
    have a2 := hg.2 v hv
    unfold exc at a1 a2
    rw [e, show inF A g v A.length - inF A f v A.length = 0 by omega, Int.mul_zero]
  have h2 : costF A g - costF A f = sumN (fun i => (ge g i - ge f i) * cst A i) A.length := by
    unfold costF
    have : sumN (fun i => (ge g i - ge f i) * cst A i + ge f i * cst A i) A.length = sumN (fun i => ge g i * cst A i) A.length := sumN_congr fun i _ => by grind
    rw [sumN_add] at this
    omega
  rw [h2]
  have h3 : sumN (fun i => rcst A π i * (ge g i - ge f i) + (π (vT A i) - π (vF A i)) * (ge g i - ge f i)) A.length = sumN (fun i => (ge g i - ge f i) * cst A i) A.length := sumN_congr fun i _ => by unfold rcst; grind
  rw [sumN_add, h1, Int.add_zero] at h3
  exact h3.symm
theorem pot_arc {A : List Ark} {f : List Int} {π : Nat → Int} (hP : Pot A f π) {i : Nat} (hi : i < A.length) : (ge f i < cap A i → 0 ≤ rcst A π i) ∧ (0 < ge f i → rcst A π i ≤ 0) := by
  constructor
  · intro h
    have := hP i false ⟨hi, by unfold sR; simp; omega⟩
    simpa [sC, sF, sT, rcst] using this
  · intro h
    have := hP i true ⟨hi, by unfold sR; simp; omega⟩
    simp [sC, sF, sT] at this
    unfold rcst
    omega
theorem pot_term {A : List Ark} {f g : List Int} {π : Nat → Int} (hP : Pot A f π) (hf : Fit A f) (hg : Fit A g) {i : Nat} (hi : i < A.length) : 0 ≤ rcst A π i * (ge g i - ge f i) := by
  obtain ⟨h1, h2⟩ := pot_arc hP hi
  have a1 := hf.b i hi
  have a2 := hg.b i hi
  rcases Int.lt_trichotomy (rcst A π i) 0 with h | h | h
  · have : ¬ ge f i < cap A i := fun e => by have := h1 e; omega
    exact Int.mul_nonneg_of_nonpos_of_nonpos (by omega) (by omega)
  · rw [h, Int.zero_mul]; exact Int.le_refl _
  · have : ¬ 0 < ge f i := fun e => by have := h2 e; omega
    exact Int.mul_nonneg (by omega) (by omega)
theorem pot_least {s : List Int} {A : List Ark} (hV : vN s A) {f g : List Int} {π : Nat → Int} (hP : Pot A f π) (hf : isFlow s A f) (hg : isFlow s A g) : costF A f ≤ costF A g := by
  have h1 := flow_diff hV hf hg π
  have h2 := sumN_nonneg (f := fun i => rcst A π i * (ge g i - ge f i)) (n := A.length) (fun i hi => pot_term hP hf.1 hg.1 hi)
  omega
/-- A flow of the same cost has the same potential. -/
theorem pot_same {s : List Int} {A : List Ark} (hV : vN s A) {f g : List Int} {π : Nat → Int} (hP : Pot A f π) (hf : isFlow s A f) (hg : isFlow s A g) (hc : costF A g = costF A f) : Pot A g π := by
  have h1 := flow_diff hV hf hg π
  have hz : ∀ i, i < A.length → rcst A π i * (ge g i - ge f i) = 0 := fun i hi => by
    have h2 := sumN_ge (f := fun i => rcst A π i * (ge g i - ge f i)) hi (fun j hj => pot_term hP hf.1 hg.1 hj)
    have h3 := pot_term hP hf.1 hg.1 hi
    try simp only at h2
    omega
  intro i b hR
  obtain ⟨hi, hr⟩ := hR
  obtain ⟨p1, p2⟩ := pot_arc hP hi
  have a1 := hf.1.b i hi
  have a2 := hg.1.b i hi
  have hz' := hz i hi
  have key : rcst A π i = 0 ∨ ge g i = ge f i := by
    rcases Int.mul_eq_zero.1 hz' with h | h
    · exact Or.inl h
    · exact Or.inr (by omega)
  cases b
  · have hr : ge g i < cap A i := by simp only [sR] at hr; simp at hr; omega
    have : 0 ≤ rcst A π i := by
      rcases key with h | h
      · omega
      · exact p1 (by omega)
    simpa [sC, sF, sT, rcst] using this
  · have hr : 0 < ge g i := hr
    have : rcst A π i ≤ 0 := by
      rcases key with h | h
      · omega
      · exact p2 (by omega)
    simp [sC, sF, sT]
    unfold rcst at this
    omega
end Go.Proofs.Ytnnlhmialmhpfaa
