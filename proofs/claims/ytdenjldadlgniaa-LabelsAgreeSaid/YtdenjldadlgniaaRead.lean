/- Arguments read: slices of integers, slices of them. -/
import Derived.Test.YtdenjldadlgniaaInts
set_option linter.unusedSimpArgs false
set_option linter.unusedVariables false
namespace Go.Proofs.Ytdenjldadlgniaa
open Go.RowKit

theorem slat_ints {w : World} {p : Option Addr} {cap : Nat} {xs : List Int} (h : SlAt (rInt .i64) 1 w p cap xs) : Ints w p xs := by
  obtain ⟨h1, h2, h3, h4⟩ := h
  refine ⟨by simp only [maxLen] at h2; omega, fun x hx => ?_, ?_⟩
  · obtain ⟨i, hi, rfl⟩ := List.getElem_of_mem hx
    obtain ⟨b, o, ce, _, _, _, hr, _⟩ := h4 i _ (List.getElem?_eq_getElem hi)
    have := hr.2
    simp [Lit.wf, IntKind.min, IntKind.max, IntKind.bits, IntKind.signed] at this
    omega
  · cases hp : p with
    | none =>
      refine ⟨0, 0, fun h0 => ?_, fun i hi => ?_⟩
      · have := h3 hp; omega
      · have := h3 hp; omega
    | some a =>
      obtain ⟨b, o, s⟩ := a
      by_cases h0 : 0 < xs.length
      · obtain ⟨b', o', ce, e1, e2, _⟩ := h4 0 _ (List.getElem?_eq_getElem h0)
        rw [hp] at e1
        cases e1
        refine ⟨b, o, fun _ => ⟨rfl, e2⟩, fun i hi => ?_⟩
        obtain ⟨b', o', ce, e1, _, e3, e4, e5⟩ := h4 i _ (List.getElem?_eq_getElem hi)
        rw [hp] at e1
        cases e1
        have := e5 0 (by omega)
        rw [Nat.mul_one, Nat.add_zero] at this
        rw [this, e4.1, ge_eq xs hi]
        rfl
      · exact ⟨0, 0, fun h => absurd h h0, fun i hi => by omega⟩

theorem slat_mat {w : World} {p : Option Addr} {cap : Nat} {m : List (List Int)} (h : SlAt (rSl (rInt .i64) 1) 1 w p cap m) : Mat w p m := by
  obtain ⟨h1, h2, h3, h4⟩ := h
  refine ⟨by simp only [maxLen] at h2; omega, ?_⟩
  cases hp : p with
  | none =>
    refine ⟨0, 0, fun _ => none, fun _ => 0, fun h0 => ?_, fun i hi => ?_⟩
    · have := h3 hp; omega
    · have := h3 hp; omega
  | some a =>
    obtain ⟨b, o, s⟩ := a
    by_cases h0 : 0 < m.length
    · obtain ⟨b', o', ce, e1, e2, _⟩ := h4 0 _ (List.getElem?_eq_getElem h0)
      rw [hp] at e1
      cases e1
      have key : ∀ u, ∃ pc : Option Addr × Nat, u < m.length → w.cell? ⟨b, o + u, none⟩ = some (.slice pc.1 (rowOf m u).length pc.2) ∧ Ints w pc.1 (rowOf m u) := by
        intro u
        by_cases hu : u < m.length
        · obtain ⟨b', o', ce, e1, _, e3, e4, e5⟩ := h4 u _ (List.getElem?_eq_getElem hu)
          rw [hp] at e1
          cases e1
          obtain ⟨q, cq, e6, e7⟩ := e4
          have := e5 0 (by omega)
          rw [Nat.mul_one, Nat.add_zero, e6] at this
          refine ⟨(q, cq), fun _ => ?_⟩
          rw [rowOf_eq m hu]
          exact ⟨this, slat_ints e7⟩
        · exact ⟨(none, 0), fun h => absurd h hu⟩
      refine ⟨b, o, fun u => (Classical.choose (key u)).1, fun u => (Classical.choose (key u)).2, fun _ => ⟨rfl, e2⟩, fun u hu => Classical.choose_spec (key u) hu⟩
    · exact ⟨0, 0, fun _ => none, fun _ => 0, fun h => absurd h h0, fun i hi => by omega⟩

theorem opens_ints : Opens Try.prog 24 (rSl (rInt .i64) 1) := opens_slice Try.underlying24 (by kernel_rfl) (by omega) (opens_int Try.underlying3)

/-- An argument that is a slice of integers. -/
theorem arg_ints {H : Type} {enc : TypeId × Value → H} {w : World} {r : Reach} {base n : Nat} {v : Value} {x : DataW H × List MemPlace} (hok : Value.okWide Try.prog w r base 24 v)
    (h : DataW.trod enc Try.prog w 0 (fun _ => true) true n 24 v.cells.toList = some x) : ∃ p cap xs, v = .slice p xs.length cap ∧ Ints w p xs ∧ xs.length ≤ cap ∧ (p = none → cap = 0) := by
  rw [okWide_slice Try.underlying24 hok] at h
  obtain ⟨xs, p, cap, h1, h2⟩ := opens_ints _ _ _ _ _ _ h
  simp at h1
  exact ⟨p, cap, xs, h1, slat_ints h2, h2.1, h2.2.2.1⟩

end Go.Proofs.Ytdenjldadlgniaa
