/- Plain part of LabelsAgree: with the slots as candidates of every label, placements are assignments. -/
import Derived.Test.YtdenjldadlgniaaLabV
set_option linter.unusedSimpArgs false
set_option linter.unusedVariables false
namespace Go.Proofs.Ytdenjldadlgniaa

def posB (b : Bx) : Prop := b.x0 < b.x1 ∧ b.y0 < b.y1
theorem ovB_comm (a b : Bx) : ovB a b = ovB b a := by
  unfold ovB
  have h1 : mxI a.x0 b.x0 = mxI b.x0 a.x0 := by unfold mxI; split <;> split <;> omega
  have h2 : mnI a.x1 b.x1 = mnI b.x1 a.x1 := by unfold mnI; split <;> split <;> omega
  have h3 : mxI a.y0 b.y0 = mxI b.y0 a.y0 := by unfold mxI; split <;> split <;> omega
  have h4 : mnI a.y1 b.y1 = mnI b.y1 a.y1 := by unfold mnI; split <;> split <;> omega
  rw [h1, h2, h3, h4, Bool.and_comm (bvB a) (bvB b)]
theorem ovB_self {a : Bx} (hv : bvB a = true) (hp : posB a) : ovB a a = true := by
  obtain ⟨h1, h2⟩ := hp
  unfold ovB mxI mnI
  simp [hv, h1, h2]
theorem rep_row {s : List Bx} {n u : Nat} (h : u < n) : bRow (List.replicate n s) u = s := by
  rw [bRow_eq _ (by simpa using h)]
  simp
theorem ov_ne {s : List Bx} (hn : NoOv s) {x y : Nat} (hx : x < s.length) (hy : y < s.length) (h : x ≠ y) : ovB (bK s x) (bK s y) = false := by
  rcases Nat.lt_or_gt_of_ne h with g | g
  · exact (fr_take hy).1 (hn y hy) x g
  · rw [ovB_comm]; exact (fr_take hx).1 (hn x hx) y g
theorem cm_asg {s : List Bx} {c : List (List Int)} (hn : NoOv s) (hb : ∀ u, u < s.length → bvB (bK s u) = true) (hp : ∀ u, u < s.length → posB (bK s u)) (hV : vL (List.replicate c.length s) c) (b : List Nat) : Cm (List.replicate c.length s) b ↔ Asg c b := by
  have hml : (List.replicate c.length s).length = c.length := by simp
  have hrow : ∀ u, u < c.length → (rowOf c u).length = s.length := fun u hu => by
    have := hV.co u (by rw [hml]; exact hu)
    rw [rep_row hu] at this
    exact this
  have hk : 0 < c.length → kO c = s.length := fun h => hrow 0 h
  constructor
  · intro h
    have hl : b.length = c.length := by rw [h.2, hml]
    have hlt : ∀ i, i < c.length → gn b i < s.length := fun i hi => by
      have := h.1.lt i (by omega)
      rw [rep_row hi] at this
      exact this
    have hne : ∀ i j, i < c.length → j < i → gn b i ≠ gn b j := fun i j hi hj e => by
      have := h.1.fr i (by omega) j hj
      unfold bxAt at this
      rw [rep_row (by omega), rep_row hi, e, ovB_self (hb _ (hlt j (by omega))) (hp _ (hlt j (by omega)))] at this
      cases this
    refine ⟨hl, fun i j hi hj e => ?_, fun i hi => by rw [hk (by omega)]; exact hlt i hi, fun i hi => (hV.cb i (by rw [hml]; exact hi) _ (by rw [hrow i hi]; exact hlt i hi)).1⟩
    rcases Nat.lt_trichotomy i j with g | g | g
    · exact absurd e.symm (hne j i hj g)
    · exact g
    · exact absurd e (hne i j hi g)
  · intro h
    have hl : b.length = c.length := h.l
    have hlt : ∀ i, i < c.length → gn b i < s.length := fun i hi => by rw [← hk (by omega)]; exact h.lt i hi
    refine ⟨⟨by rw [hml]; omega, fun i hi => by rw [rep_row (by omega)]; exact hlt i (by omega), fun i hi j hj => ?_⟩, by rw [hml]; exact hl⟩
    unfold bxAt
    rw [rep_row (by omega), rep_row (by omega)]
    exact ov_ne hn (hlt j (by omega)) (hlt i (by omega)) (fun e => by have := h.nd j i (by omega) (by omega) e; omega)
end Go.Proofs.Ytdenjldadlgniaa
