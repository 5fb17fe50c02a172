/- Layer 2: the laws of points and segments, as the statements say them: each law returns true for every input, and the input reads as before. -/
import Derived.Test.YtomkamohcdcmhaaGeom9
set_option linter.unusedSimpArgs false
set_option linter.unusedVariables false
namespace Go.Proofs.Ytomkamohcdcmhaa
open Go.RowKit Go.ChangeShapes Go.WideShapes

theorem Try.own : ownKnob Try.prog.godebug = none := by kernel_rfl
theorem Try.laidOut : laidOutB Try.prog = true := by kernel_rfl

def rPt (_ : World) (cs : List Value) (p : Int × Int) : Prop := cs = [.int .i64 p.1, .int .i64 p.2]
theorem opens_pt : Opens Try.prog 23 rPt := by
  intro H enc w fuel cs x h
  obtain ⟨hl, hf⟩ := trod_fields Try.underlying23 h
  rw [show Try.prog.cellsOf 23 = 2 by kernel_rfl] at hl
  obtain ⟨n0, y0, h0⟩ := hf 0 _ rfl
  obtain ⟨n1, y1, h1⟩ := hf 1 _ rfl
  obtain ⟨a, ha, _⟩ := opens_int Try.underlying3 _ _ _ _ _ _ h0
  obtain ⟨b, hb, _⟩ := opens_int Try.underlying3 _ _ _ _ _ _ h1
  replace ha : List.take (Try.prog.cellsOf 3) (List.drop 0 cs) = [.int .i64 a] := ha
  replace hb : List.take (Try.prog.cellsOf 3) (List.drop 1 cs) = [.int .i64 b] := hb
  rw [show Try.prog.cellsOf 3 = 1 by kernel_rfl] at ha hb
  match cs, hl, ha, hb with
  | [u, v], _, ha, hb =>
    simp at ha hb
    exact ⟨(a, b), by simp [rPt, ha, hb]⟩
def rSeg (_ : World) (cs : List Value) (p : (Int × Int) × (Int × Int)) : Prop := cs = [.int .i64 p.1.1, .int .i64 p.1.2, .int .i64 p.2.1, .int .i64 p.2.2]
theorem opens_seg : Opens Try.prog 30 rSeg := by
  intro H enc w fuel cs x h
  obtain ⟨hl, hf⟩ := trod_fields Try.underlying30 h
  rw [show Try.prog.cellsOf 30 = 4 by kernel_rfl] at hl
  obtain ⟨n0, y0, h0⟩ := hf 0 _ rfl
  obtain ⟨n1, y1, h1⟩ := hf 1 _ rfl
  obtain ⟨a, ha⟩ := opens_pt _ _ _ _ _ _ h0
  obtain ⟨b, hb⟩ := opens_pt _ _ _ _ _ _ h1
  unfold rPt at ha hb
  replace ha : List.take (Try.prog.cellsOf 23) (List.drop 0 cs) = [.int .i64 a.1, .int .i64 a.2] := ha
  replace hb : List.take (Try.prog.cellsOf 23) (List.drop 2 cs) = [.int .i64 b.1, .int .i64 b.2] := hb
  rw [show Try.prog.cellsOf 23 = 2 by kernel_rfl] at ha hb
  match cs, hl, ha, hb with
  | [u, v, u', v'], _, ha, hb =>
    simp at ha hb
    exact ⟨(a, b), by simp [rSeg, ha, hb]⟩

theorem GeomPoints_row : Rows.GeomPointsSaid :=
  OpenClaim.holds_of_wide 3 Try.f3 rfl rfl rfl rfl rfl rfl rfl ⟨rfl, rfl, rfl, rfl, rfl⟩ rfl rfl rfl rfl rfl (by kernel_rfl) Try.func3 (by kernel_rfl)
    (of_decide_eq_true (by kernel_rfl)) (by unfold Func.isWrapper; first | (rw [if_pos (by decide +kernel)]; kernel_rfl) | (rw [if_neg (by decide +kernel)]; exact ⟨rfl, rfl⟩))
    (fun os started H enc _ => by
      refine law_lifted (C := Try.checked) (s := Rows.geomPointsSpec) Try.own started (by kernel_rfl) Try.func3
        (ChangeSpec.witness6 (enc := enc) (C := Try.checked) false ⟨#[], #[.agg #[.int .i64 0, .int .i64 0], .agg #[.int .i64 0, .int .i64 0], .agg #[.int .i64 0, .int .i64 0]], []⟩ 8 (by kernel_rfl) (by kernel_rfl) (by kernel_rfl) (by kernel_rfl))
        Try.laidOut rfl Try.underlying4 (by kernel_rfl) rfl ?_ ?_
      · intro ds hds
        match ds, hds with
        | [_, _, _], _ => exact ⟨rfl, rfl, rfl⟩
      · intro W base args ds ps hval hA
        have hA' := hA
        rw [Try.params3] at hA'
        obtain ⟨v0, v1, v2, rfl, ⟨n0, y0, h0⟩, ⟨n1, y1, h1⟩, ⟨n2, y2, h2⟩⟩ := trodAll_split3 hA'
        obtain ⟨c0, rfl⟩ := okWide_agg Try.underlying23 (hval 0 23 v0 rfl rfl)
        obtain ⟨p0, e0⟩ := opens_pt _ _ _ _ _ _ h0
        have e0' : c0 = #[.int .i64 p0.1, .int .i64 p0.2] := Array.toList_inj.1 e0
        subst e0'
        obtain ⟨c1, rfl⟩ := okWide_agg Try.underlying23 (hval 1 23 v1 rfl rfl)
        obtain ⟨p1, e1⟩ := opens_pt _ _ _ _ _ _ h1
        have e1' : c1 = #[.int .i64 p1.1, .int .i64 p1.2] := Array.toList_inj.1 e1
        subst e1'
        obtain ⟨c2, rfl⟩ := okWide_agg Try.underlying23 (hval 2 23 v2 rfl rfl)
        obtain ⟨p2, e2⟩ := opens_pt _ _ _ _ _ _ h2
        have e2' : c2 = #[.int .i64 p2.1, .int .i64 p2.2] := Array.toList_inj.1 e2
        subst e2'
        exact points_l _ _ _ _ _ _ _)

theorem GeomOn_row : Rows.GeomOnSaid :=
  OpenClaim.holds_of_wide 4 Try.f4 rfl rfl rfl rfl rfl rfl rfl ⟨rfl, rfl, rfl, rfl, rfl⟩ rfl rfl rfl rfl rfl (by kernel_rfl) Try.func4 (by kernel_rfl)
    (of_decide_eq_true (by kernel_rfl)) (by unfold Func.isWrapper; first | (rw [if_pos (by decide +kernel)]; kernel_rfl) | (rw [if_neg (by decide +kernel)]; exact ⟨rfl, rfl⟩))
    (fun os started H enc _ => by
      refine law_lifted (C := Try.checked) (s := Rows.geomOnSpec) Try.own started (by kernel_rfl) Try.func4
        (ChangeSpec.witness6 (enc := enc) (C := Try.checked) false ⟨#[], #[.agg #[.int .i64 0, .int .i64 0], .agg #[.int .i64 0, .int .i64 0, .int .i64 0, .int .i64 0]], []⟩ 8 (by kernel_rfl) (by kernel_rfl) (by kernel_rfl) (by kernel_rfl))
        Try.laidOut rfl Try.underlying4 (by kernel_rfl) rfl ?_ ?_
      · intro ds hds
        match ds, hds with
        | [_, _], _ => exact ⟨rfl, rfl, rfl⟩
      · intro W base args ds ps hval hA
        have hA' := hA
        rw [Try.params4] at hA'
        obtain ⟨v0, v1, rfl, ⟨n0, y0, h0⟩, ⟨n1, y1, h1⟩⟩ := trodAll_split2 hA'
        obtain ⟨c0, rfl⟩ := okWide_agg Try.underlying23 (hval 0 23 v0 rfl rfl)
        obtain ⟨p0, e0⟩ := opens_pt _ _ _ _ _ _ h0
        have e0' : c0 = #[.int .i64 p0.1, .int .i64 p0.2] := Array.toList_inj.1 e0
        subst e0'
        obtain ⟨c1, rfl⟩ := okWide_agg Try.underlying30 (hval 1 30 v1 rfl rfl)
        obtain ⟨p1, e1⟩ := opens_seg _ _ _ _ _ _ h1
        have e1' : c1 = #[.int .i64 p1.1.1, .int .i64 p1.1.2, .int .i64 p1.2.1, .int .i64 p1.2.2] := Array.toList_inj.1 e1
        subst e1'
        exact on_l _ _ _ _ _ _ _)

theorem GeomPairs_row : Rows.GeomPairsSaid :=
  OpenClaim.holds_of_wide 5 Try.f5 rfl rfl rfl rfl rfl rfl rfl ⟨rfl, rfl, rfl, rfl, rfl⟩ rfl rfl rfl rfl rfl (by kernel_rfl) Try.func5 (by kernel_rfl)
    (of_decide_eq_true (by kernel_rfl)) (by unfold Func.isWrapper; first | (rw [if_pos (by decide +kernel)]; kernel_rfl) | (rw [if_neg (by decide +kernel)]; exact ⟨rfl, rfl⟩))
    (fun os started H enc _ => by
      refine law_lifted (C := Try.checked) (s := Rows.geomPairsSpec) Try.own started (by kernel_rfl) Try.func5
        (ChangeSpec.witness6 (enc := enc) (C := Try.checked) false ⟨#[], #[.agg #[.int .i64 0, .int .i64 0, .int .i64 0, .int .i64 0], .agg #[.int .i64 0, .int .i64 0, .int .i64 0, .int .i64 0]], []⟩ 8 (by kernel_rfl) (by kernel_rfl) (by kernel_rfl) (by kernel_rfl))
        Try.laidOut rfl Try.underlying4 (by kernel_rfl) rfl ?_ ?_
      · intro ds hds
        match ds, hds with
        | [_, _], _ => exact ⟨rfl, rfl, rfl⟩
      · intro W base args ds ps hval hA
        have hA' := hA
        rw [Try.params5] at hA'
        obtain ⟨v0, v1, rfl, ⟨n0, y0, h0⟩, ⟨n1, y1, h1⟩⟩ := trodAll_split2 hA'
        obtain ⟨c0, rfl⟩ := okWide_agg Try.underlying30 (hval 0 30 v0 rfl rfl)
        obtain ⟨p0, e0⟩ := opens_seg _ _ _ _ _ _ h0
        have e0' : c0 = #[.int .i64 p0.1.1, .int .i64 p0.1.2, .int .i64 p0.2.1, .int .i64 p0.2.2] := Array.toList_inj.1 e0
        subst e0'
        obtain ⟨c1, rfl⟩ := okWide_agg Try.underlying30 (hval 1 30 v1 rfl rfl)
        obtain ⟨p1, e1⟩ := opens_seg _ _ _ _ _ _ h1
        have e1' : c1 = #[.int .i64 p1.1.1, .int .i64 p1.1.2, .int .i64 p1.2.1, .int .i64 p1.2.2] := Array.toList_inj.1 e1
        subst e1'
        exact pairs_l _ _ _ _ _ _ _ _ _)

theorem GeomTurns_row : Rows.GeomTurnsSaid :=
  OpenClaim.holds_of_wide 6 Try.f6 rfl rfl rfl rfl rfl rfl rfl ⟨rfl, rfl, rfl, rfl, rfl⟩ rfl rfl rfl rfl rfl (by kernel_rfl) Try.func6 (by kernel_rfl)
    (of_decide_eq_true (by kernel_rfl)) (by unfold Func.isWrapper; first | (rw [if_pos (by decide +kernel)]; kernel_rfl) | (rw [if_neg (by decide +kernel)]; exact ⟨rfl, rfl⟩))
    (fun os started H enc _ => by
      refine law_lifted (C := Try.checked) (s := Rows.geomTurnsSpec) Try.own started (by kernel_rfl) Try.func6
        (ChangeSpec.witness6 (enc := enc) (C := Try.checked) false ⟨#[], #[.agg #[.int .i64 0, .int .i64 0], .agg #[.int .i64 0, .int .i64 0], .agg #[.int .i64 0, .int .i64 0]], []⟩ 8 (by kernel_rfl) (by kernel_rfl) (by kernel_rfl) (by kernel_rfl))
        Try.laidOut rfl Try.underlying4 (by kernel_rfl) rfl ?_ ?_
      · intro ds hds
        match ds, hds with
        | [_, _, _], _ => exact ⟨rfl, rfl, rfl⟩
      · intro W base args ds ps hval hA
        have hA' := hA
        rw [Try.params6] at hA'
        obtain ⟨v0, v1, v2, rfl, ⟨n0, y0, h0⟩, ⟨n1, y1, h1⟩, ⟨n2, y2, h2⟩⟩ := trodAll_split3 hA'
        obtain ⟨c0, rfl⟩ := okWide_agg Try.underlying23 (hval 0 23 v0 rfl rfl)
        obtain ⟨p0, e0⟩ := opens_pt _ _ _ _ _ _ h0
        have e0' : c0 = #[.int .i64 p0.1, .int .i64 p0.2] := Array.toList_inj.1 e0
        subst e0'
        obtain ⟨c1, rfl⟩ := okWide_agg Try.underlying23 (hval 1 23 v1 rfl rfl)
        obtain ⟨p1, e1⟩ := opens_pt _ _ _ _ _ _ h1
        have e1' : c1 = #[.int .i64 p1.1, .int .i64 p1.2] := Array.toList_inj.1 e1
        subst e1'
        obtain ⟨c2, rfl⟩ := okWide_agg Try.underlying23 (hval 2 23 v2 rfl rfl)
        obtain ⟨p2, e2⟩ := opens_pt _ _ _ _ _ _ h2
        have e2' : c2 = #[.int .i64 p2.1, .int .i64 p2.2] := Array.toList_inj.1 e2
        subst e2'
        exact turns_l _ _ _ _ _ _ _)

theorem GeomSymmetric_row : Rows.GeomSymmetricSaid :=
  OpenClaim.holds_of_wide 7 Try.f7 rfl rfl rfl rfl rfl rfl rfl ⟨rfl, rfl, rfl, rfl, rfl⟩ rfl rfl rfl rfl rfl (by kernel_rfl) Try.func7 (by kernel_rfl)
    (of_decide_eq_true (by kernel_rfl)) (by unfold Func.isWrapper; first | (rw [if_pos (by decide +kernel)]; kernel_rfl) | (rw [if_neg (by decide +kernel)]; exact ⟨rfl, rfl⟩))
    (fun os started H enc _ => by
      refine law_lifted (C := Try.checked) (s := Rows.geomSymmetricSpec) Try.own started (by kernel_rfl) Try.func7
        (ChangeSpec.witness6 (enc := enc) (C := Try.checked) false ⟨#[], #[.agg #[.int .i64 0, .int .i64 0, .int .i64 0, .int .i64 0], .agg #[.int .i64 0, .int .i64 0, .int .i64 0, .int .i64 0]], []⟩ 8 (by kernel_rfl) (by kernel_rfl) (by kernel_rfl) (by kernel_rfl))
        Try.laidOut rfl Try.underlying4 (by kernel_rfl) rfl ?_ ?_
      · intro ds hds
        match ds, hds with
        | [_, _], _ => exact ⟨rfl, rfl, rfl⟩
      · intro W base args ds ps hval hA
        have hA' := hA
        rw [Try.params7] at hA'
        obtain ⟨v0, v1, rfl, ⟨n0, y0, h0⟩, ⟨n1, y1, h1⟩⟩ := trodAll_split2 hA'
        obtain ⟨c0, rfl⟩ := okWide_agg Try.underlying30 (hval 0 30 v0 rfl rfl)
        obtain ⟨p0, e0⟩ := opens_seg _ _ _ _ _ _ h0
        have e0' : c0 = #[.int .i64 p0.1.1, .int .i64 p0.1.2, .int .i64 p0.2.1, .int .i64 p0.2.2] := Array.toList_inj.1 e0
        subst e0'
        obtain ⟨c1, rfl⟩ := okWide_agg Try.underlying30 (hval 1 30 v1 rfl rfl)
        obtain ⟨p1, e1⟩ := opens_seg _ _ _ _ _ _ h1
        have e1' : c1 = #[.int .i64 p1.1.1, .int .i64 p1.1.2, .int .i64 p1.2.1, .int .i64 p1.2.2] := Array.toList_inj.1 e1
        subst e1'
        exact symmetric_l _ _ _ _ _ _ _ _ _)

theorem GeomMetric_row : Rows.GeomMetricSaid :=
  OpenClaim.holds_of_wide 8 Try.f8 rfl rfl rfl rfl rfl rfl rfl ⟨rfl, rfl, rfl, rfl, rfl⟩ rfl rfl rfl rfl rfl (by kernel_rfl) Try.func8 (by kernel_rfl)
    (of_decide_eq_true (by kernel_rfl)) (by unfold Func.isWrapper; first | (rw [if_pos (by decide +kernel)]; kernel_rfl) | (rw [if_neg (by decide +kernel)]; exact ⟨rfl, rfl⟩))
    (fun os started H enc _ => by
      refine law_lifted (C := Try.checked) (s := Rows.geomMetricSpec) Try.own started (by kernel_rfl) Try.func8
        (ChangeSpec.witness6 (enc := enc) (C := Try.checked) false ⟨#[], #[.agg #[.int .i64 0, .int .i64 0], .agg #[.int .i64 0, .int .i64 0], .agg #[.int .i64 0, .int .i64 0]], []⟩ 8 (by kernel_rfl) (by kernel_rfl) (by kernel_rfl) (by kernel_rfl))
        Try.laidOut rfl Try.underlying4 (by kernel_rfl) rfl ?_ ?_
      · intro ds hds
        match ds, hds with
        | [_, _, _], _ => exact ⟨rfl, rfl, rfl⟩
      · intro W base args ds ps hval hA
        have hA' := hA
        rw [Try.params8] at hA'
        obtain ⟨v0, v1, v2, rfl, ⟨n0, y0, h0⟩, ⟨n1, y1, h1⟩, ⟨n2, y2, h2⟩⟩ := trodAll_split3 hA'
        obtain ⟨c0, rfl⟩ := okWide_agg Try.underlying23 (hval 0 23 v0 rfl rfl)
        obtain ⟨p0, e0⟩ := opens_pt _ _ _ _ _ _ h0
        have e0' : c0 = #[.int .i64 p0.1, .int .i64 p0.2] := Array.toList_inj.1 e0
        subst e0'
        obtain ⟨c1, rfl⟩ := okWide_agg Try.underlying23 (hval 1 23 v1 rfl rfl)
        obtain ⟨p1, e1⟩ := opens_pt _ _ _ _ _ _ h1
        have e1' : c1 = #[.int .i64 p1.1, .int .i64 p1.2] := Array.toList_inj.1 e1
        subst e1'
        obtain ⟨c2, rfl⟩ := okWide_agg Try.underlying23 (hval 2 23 v2 rfl rfl)
        obtain ⟨p2, e2⟩ := opens_pt _ _ _ _ _ _ h2
        have e2' : c2 = #[.int .i64 p2.1, .int .i64 p2.2] := Array.toList_inj.1 e2
        subst e2'
        exact metric_l _ _ _ _ _ _ _)

end Go.Proofs.Ytomkamohcdcmhaa
