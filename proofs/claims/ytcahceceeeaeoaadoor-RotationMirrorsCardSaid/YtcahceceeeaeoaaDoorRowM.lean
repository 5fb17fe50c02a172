/- RotationMirrors returns true for every input, and the input reads as before. The program's table of limits is tied to its text. -/
import Derived.Test.YtcahceceeeaeoaaDoorRotRow
import Derived.Test.YtcahceceeeaeoaaDoorLmir
set_option linter.unusedSimpArgs false
set_option linter.unusedVariables false
namespace Go.Proofs.YtcahceceeeaeoaaDoor
open Go.RowKit Go.ChangeShapes Go.WideShapes

theorem slat_matc {w : World} {p : Option Addr} {cap : Nat} {m : List (List Int)} (h : SlAt (rSl (rInt .i64) 1) 1 w p cap m) : MatC w p m := by
  obtain ⟨h1, h2, h3, h4⟩ := h
  refine ⟨by simp only [maxLen] at h2; omega, ?_⟩
  cases hp : p with
  | none =>
    refine ⟨0, 0, fun _ => none, fun _ => 0, fun h0 => ?_, fun i hi => ?_⟩
    · have := h3 hp; omega
    · have := h3 hp; omega
  | some a =>
    obtain ⟨b, o, s⟩ := a
    by_cases h0 : 0 < m.length
    · obtain ⟨b', o', ce, e1, e2, _⟩ := h4 0 _ (List.getElem?_eq_getElem h0)
      rw [hp] at e1
      cases e1
      have key : ∀ u, ∃ pc : Option Addr × Nat, u < m.length → w.cell? ⟨b, o + u, none⟩ = some (.slice pc.1 (rowOf m u).length pc.2) ∧ Ints w pc.1 (rowOf m u) ∧ (rowOf m u).length ≤ pc.2 ∧ pc.2 ≤ 9223372036854775807 := by
        intro u
        by_cases hu : u < m.length
        · obtain ⟨b', o', ce, e1, _, e3, e4, e5⟩ := h4 u _ (List.getElem?_eq_getElem hu)
          rw [hp] at e1
          cases e1
          obtain ⟨q, cq, e6, e7⟩ := e4
          have := e5 0 (by omega)
          rw [Nat.mul_one, Nat.add_zero, e6] at this
          refine ⟨(q, cq), fun _ => ?_⟩
          rw [rowOf_eq m hu]
          exact ⟨this, slat_ints e7, e7.1, by have := e7.2.1; simp only [maxLen] at this; omega⟩
        · exact ⟨(none, 0), fun h => absurd h hu⟩
      refine ⟨b, o, fun u => (Classical.choose (key u)).1, fun u => (Classical.choose (key u)).2, fun _ => ⟨rfl, e2⟩, fun u hu => Classical.choose_spec (key u) hu⟩
    · exact ⟨0, 0, fun _ => none, fun _ => 0, fun h => absurd h h0, fun i hi => by omega⟩
/-- An argument that is a rotation system, with what is known of its capacities. -/
theorem arg_rotc {H : Type} {enc : TypeId × Value → H} {w : World} {r : Reach} {base n : Nat} {v : Value} {x : DataW H × List MemPlace} (hok : Value.okWide Tryd.prog w r base 25 v)
    (h : DataW.trod enc Tryd.prog w 0 (fun _ => true) true n 25 v.cells.toList = some x) : ∃ N p q cE cA E A, v = .agg #[.int .i64 N, .slice p E.length cE, .slice q A.length cA] ∧ Prs w p E ∧ MatC w q A ∧ (p = none → cE = 0) := by
  obtain ⟨cs, rfl⟩ := okWide_agg Tryd.underlying25 hok
  obtain ⟨hl, hf⟩ := trod_fields Tryd.underlying25 h
  rw [show Tryd.prog.cellsOf 25 = 3 by kernel_rfl] at hl
  obtain ⟨n0, y0, h0⟩ := hf 0 _ rfl
  obtain ⟨n1, y1, h1⟩ := hf 1 _ rfl
  obtain ⟨n2, y2, h2⟩ := hf 2 _ rfl
  obtain ⟨a, ha, _⟩ := opens_int Tryd.underlying3 _ _ _ _ _ _ h0
  obtain ⟨E, p, cE, hb, hE⟩ := opens_arcs _ _ _ _ _ _ h1
  obtain ⟨A, q, cA, hc, hA⟩ := opens_mat _ _ _ _ _ _ h2
  replace ha : List.take (Tryd.prog.cellsOf 3) (List.drop 0 cs.toList) = [.int .i64 a] := ha
  replace hb : List.take (Tryd.prog.cellsOf 22) (List.drop 1 cs.toList) = [.slice p E.length cE] := hb
  replace hc : List.take (Tryd.prog.cellsOf 23) (List.drop 2 cs.toList) = [.slice q A.length cA] := hc
  rw [show Tryd.prog.cellsOf 3 = 1 by kernel_rfl] at ha
  rw [show Tryd.prog.cellsOf 22 = 1 by kernel_rfl] at hb
  rw [show Tryd.prog.cellsOf 23 = 1 by kernel_rfl] at hc
  replace hl : cs.toList.length = 3 := hl
  obtain ⟨l⟩ := cs
  match l, hl, ha, hb, hc with
  | [u, v, z], _, ha, hb, hc =>
    simp at ha hb hc
    exact ⟨a, p, q, cE, cA, E, A, by rw [ha, hb, hc], slat_prs hE, slat_matc hA, hE.2.2.1⟩

theorem RotationMirrors_row : Rows.RotationMirrorsSaid :=
  OpenClaim.holds_of_wide 7 Tryd.f7 rfl rfl rfl rfl rfl rfl rfl ⟨rfl, rfl, rfl, rfl, rfl⟩ rfl rfl rfl rfl rfl (by kernel_rfl) Tryd.func7 (by kernel_rfl)
    (of_decide_eq_true (by kernel_rfl)) (by unfold Func.isWrapper; first | (rw [if_pos (by decide +kernel)]; kernel_rfl) | (rw [if_neg (by decide +kernel)]; exact ⟨rfl, rfl⟩))
    (fun os started H enc _ => by
      refine law_laid (C := Tryd.checked) (s := Rows.rotationMirrorsSpec) laidL Tryd.own started (by kernel_rfl) Tryd.func7
        (ChangeSpec.witness_at (enc := enc) (C := Tryd.checked) (os := os) (X := fun w _ => laidMet Tryd.prog laidL w) false (laidWorld os) #[.agg #[.int .i64 0, .slice none 0 0, .slice none 0 0], .agg #[.int .i64 0, .slice none 0 0, .slice none 0 0]] 8 rfl (by kernel_rfl) (by kernel_rfl) (by kernel_rfl) (by kernel_rfl) (by kernel_rfl)
          (laidMet_of_run' 8 (by kernel_rfl) (by kernel_rfl)))
        Tryd.laidOut rfl Tryd.underlying4 (by kernel_rfl) rfl ?_ ?_
      · intro ds hds
        match ds, hds with
        | [_, _], _ => exact ⟨rfl, rfl, rfl⟩
      · intro W base args ds ps hval hA hLd
        have hA' := hA
        rw [Tryd.params7] at hA'
        obtain ⟨v0, v1, rfl, ⟨n0, y0, h0⟩, ⟨n1, y1, h1⟩⟩ := trodAll_split2 hA'
        obtain ⟨N, p, q, cE, cA, E, A, rfl, hE, hM, hc⟩ := arg_rotc (hval 0 _ _ rfl rfl) h0
        obtain ⟨N', p', q', cE', cA', E', A', rfl, hE', hM', hc'⟩ := arg_rotc (hval 1 _ _ rfl rfl) h1
        exact mirrorsL _ _ _ _ _ _ _ _ _ _ _ _ _ _ _ _ _ _ _ hE hM hE' hM' hc (lim_of hLd) rfl rfl rfl rfl)

theorem RotationMirrors_card : Rows.RotationMirrorsCardSaid :=
  Claim7.holds_tied_plain_at .later [] [.data] true Rows.rotationMirrorsCard.stood.harness false
    RotationMirrors_row (fun _ h => by cases h) (by kernel_rfl) (fun _ h => by cases h) rotationMirrors_row_tie rfl ⟨rfl, rfl⟩ (by kernel_rfl) rfl
    (fun f fn hf hfn => by
      obtain rfl : f = 7 := (Option.some.inj ((show Tryd.prog.funcNamed "layout/layoutlaw29.RotationMirrors" = some 7 by kernel_rfl).symm.trans hf)).symm
      obtain rfl : fn = Tryd.f7 := (Option.some.inj (Tryd.func7.symm.trans hfn)).symm
      refine ⟨by kernel_rfl, fun j t ht => ?_⟩
      rw [Tryd.params7] at ht
      match j, ht with
        | 0, ht => cases ht; exact (show Tryd.prog.wantsStandIn 25 = false by kernel_rfl)
        | 1, ht => cases ht; exact (show Tryd.prog.wantsStandIn 25 = false by kernel_rfl))
    (by kernel_rfl)
end Go.Proofs.YtcahceceeeaeoaaDoor
