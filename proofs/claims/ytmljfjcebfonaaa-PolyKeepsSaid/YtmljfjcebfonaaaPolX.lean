/- PolyMeasures, PolySimplifies and PolyCrosses return true for every input, and the input reads as before. -/
import Derived.Test.YtmljfjcebfonaaaPolW
set_option linter.unusedSimpArgs false
set_option linter.unusedVariables false
namespace Go.Proofs.Ytmljfjcebfonaaa
open Go.RowKit Go.ChangeShapes Go.WideShapes

theorem Try.own : ownKnob Try.prog.godebug = none := by kernel_rfl
theorem Try.laidOut : laidOutB Try.prog = true := by kernel_rfl
def rPt (_ : World) (cs : List Value) (p : Int × Int) : Prop := cs = [.int .i64 p.1, .int .i64 p.2]
theorem opens_pt : Opens Try.prog 32 rPt := by
  intro H enc w fuel cs x h
  obtain ⟨hl, hf⟩ := trod_fields Try.underlying32 h
  rw [show Try.prog.cellsOf 32 = 2 by kernel_rfl] at hl
  obtain ⟨n0, y0, h0⟩ := hf 0 _ rfl
  obtain ⟨n1, y1, h1⟩ := hf 1 _ rfl
  obtain ⟨a, ha, _⟩ := opens_int Try.underlying3 _ _ _ _ _ _ h0
  obtain ⟨b, hb, _⟩ := opens_int Try.underlying3 _ _ _ _ _ _ h1
  replace ha : List.take (Try.prog.cellsOf 3) (List.drop 0 cs) = [.int .i64 a] := ha
  replace hb : List.take (Try.prog.cellsOf 3) (List.drop 1 cs) = [.int .i64 b] := hb
  rw [show Try.prog.cellsOf 3 = 1 by kernel_rfl] at ha hb
  match cs, hl, ha, hb with
  | [u, v], _, ha, hb =>
    simp at ha hb
    exact ⟨(a, b), by simp [rPt, ha, hb]⟩
theorem opens_pts : Opens Try.prog 22 (rSl rPt 2) := opens_slice Try.underlying22 (by kernel_rfl) (by omega) opens_pt
theorem slat_prs {w : World} {p : Option Addr} {cap : Nat} {E : List (Int × Int)} (h : SlAt rPt 2 w p cap E) : Prs w p E := by
  obtain ⟨h1, h2, h3, h4⟩ := h
  refine ⟨by simp only [maxLen] at h2; omega, ?_⟩
  cases hp : p with
  | none =>
    refine ⟨0, 0, fun h0 => ?_, fun i hi => ?_⟩
    · have := h3 hp; omega
    · have := h3 hp; omega
  | some a =>
    obtain ⟨b, o, s⟩ := a
    by_cases h0 : 0 < E.length
    · obtain ⟨b', o', ce, e1, e2, _⟩ := h4 0 _ (List.getElem?_eq_getElem h0)
      rw [hp] at e1
      cases e1
      refine ⟨b, o, fun _ => ⟨rfl, e2⟩, fun i hi => ?_⟩
      obtain ⟨b', o', ce, e1, _, e3, e4, e5⟩ := h4 i _ (List.getElem?_eq_getElem hi)
      rw [hp] at e1
      cases e1
      have q0 := e5 0 (by omega)
      have q1 := e5 1 (by omega)
      rw [Nat.add_zero] at q0
      unfold rPt at e4
      rw [q0, q1, e4, pr_eq E hi]
      exact ⟨rfl, rfl⟩
    · exact ⟨0, 0, fun h => absurd h h0, fun i hi => by omega⟩
/-- An argument that is a list of points. -/
theorem arg_pts {H : Type} {enc : TypeId × Value → H} {w : World} {r : Reach} {base n : Nat} {v : Value} {x : DataW H × List MemPlace} (hok : Value.okWide Try.prog w r base 22 v)
    (h : DataW.trod enc Try.prog w 0 (fun _ => true) true n 22 v.cells.toList = some x) : ∃ p cap E, v = .slice p E.length cap ∧ Prs w p E := by
  rw [okWide_slice Try.underlying22 hok] at h
  obtain ⟨E, p, cap, h1, h2⟩ := opens_pts _ _ _ _ _ _ h
  simp at h1
  exact ⟨p, cap, E, h1, slat_prs h2⟩

end Go.Proofs.Ytmljfjcebfonaaa
