/- Layer 17: the laws as the statements say them: each law returns true for every input, and the input reads as before. No conditions. -/
import Derived.Test.YtnnlhmialmhpfaaFlL3
import Derived.Test.YtnnlhmialmhpfaaRead
set_option linter.unusedSimpArgs false
set_option linter.unusedVariables false
namespace Go.Proofs.Ytnnlhmialmhpfaa
open Go.RowKit Go.ChangeShapes Go.WideShapes

theorem Try.own : ownKnob Try.prog.godebug = none := by kernel_rfl
theorem Try.laidOut : laidOutB Try.prog = true := by kernel_rfl
def w64i (x : Int) : Prop := (Lit.int .i64 x).wf = true
def rArk (_ : World) (cs : List Value) (a : Ark) : Prop := cs = [.int .i64 a.fr, .int .i64 a.ed, .int .i64 a.cap, .int .i64 a.cost] ∧ w64i a.fr ∧ w64i a.ed ∧ w64i a.cap ∧ w64i a.cost
theorem w64i.w64 {x : Int} (h : w64i x) : Proofs.Ytnnlhmialmhpfaa.w64 x := by
  unfold w64i at h
  unfold Proofs.Ytnnlhmialmhpfaa.w64
  simp [Lit.wf, IntKind.min, IntKind.max, IntKind.bits, IntKind.signed] at h
  omega
theorem opens_ark : Opens Try.prog 36 rArk := by
  intro H enc w fuel cs x h
  obtain ⟨hl, hf⟩ := trod_fields Try.underlying36 h
  rw [show Try.prog.cellsOf 36 = 4 by kernel_rfl] at hl
  obtain ⟨n0, y0, h0⟩ := hf 0 _ rfl
  obtain ⟨n1, y1, h1⟩ := hf 1 _ rfl
  obtain ⟨n2, y2, h2⟩ := hf 2 _ rfl
  obtain ⟨n3, y3, h3⟩ := hf 3 _ rfl
  obtain ⟨a, ha, wa⟩ := opens_int Try.underlying3 _ _ _ _ _ _ h0
  obtain ⟨b, hb, wb⟩ := opens_int Try.underlying3 _ _ _ _ _ _ h1
  obtain ⟨c, hc, wc⟩ := opens_int Try.underlying3 _ _ _ _ _ _ h2
  obtain ⟨d, hd, wd⟩ := opens_int Try.underlying3 _ _ _ _ _ _ h3
  replace ha : List.take (Try.prog.cellsOf 3) (List.drop 0 cs) = [.int .i64 a] := ha
  replace hb : List.take (Try.prog.cellsOf 3) (List.drop 1 cs) = [.int .i64 b] := hb
  replace hc : List.take (Try.prog.cellsOf 3) (List.drop 2 cs) = [.int .i64 c] := hc
  replace hd : List.take (Try.prog.cellsOf 3) (List.drop 3 cs) = [.int .i64 d] := hd
  rw [show Try.prog.cellsOf 3 = 1 by kernel_rfl] at ha hb hc hd
  match cs, hl, ha, hb, hc, hd with
  | [u, v, y, z], _, ha, hb, hc, hd =>
    simp at ha hb hc hd
    exact ⟨⟨a, b, c, d⟩, by rw [ha, hb, hc, hd], wa, wb, wc, wd⟩
theorem opens_arks : Opens Try.prog 23 (rSl rArk 4) := opens_slice Try.underlying23 (by kernel_rfl) (by omega) opens_ark
theorem slat_arks {w : World} {p : Option Addr} {cap : Nat} {A : List Ark} (h : SlAt rArk 4 w p cap A) : Arks w p A := by
  obtain ⟨h1, h2, h3, h4⟩ := h
  refine ⟨by simp only [maxLen] at h2; omega, fun i hi => ?_, ?_⟩
  · obtain ⟨b', o', ce, _, _, _, e4, _⟩ := h4 i _ (List.getElem?_eq_getElem hi)
    rw [aK_eq A hi]
    exact ⟨e4.2.1.w64, e4.2.2.1.w64, e4.2.2.2.1.w64, e4.2.2.2.2.w64⟩
  · cases hp : p with
    | none =>
      refine ⟨0, 0, fun h0 => ?_, fun i hi => ?_⟩
      · have := h3 hp; omega
      · have := h3 hp; omega
    | some a =>
      obtain ⟨b, o, s⟩ := a
      by_cases h0 : 0 < A.length
      · obtain ⟨b', o', ce, e1, e2, _⟩ := h4 0 _ (List.getElem?_eq_getElem h0)
        rw [hp] at e1
        cases e1
        refine ⟨b, o, fun _ => ⟨rfl, e2⟩, fun i hi => ?_⟩
        obtain ⟨b', o', ce, e1, _, e3, e4, e5⟩ := h4 i _ (List.getElem?_eq_getElem hi)
        rw [hp] at e1
        cases e1
        have q0 := e5 0 (by omega)
        have q1 := e5 1 (by omega)
        have q2 := e5 2 (by omega)
        have q3 := e5 3 (by omega)
        rw [Nat.add_zero] at q0
        rw [q0, q1, q2, q3, e4.1, aK_eq A hi]
        exact ⟨rfl, rfl, rfl, rfl⟩
      · exact ⟨0, 0, fun h => absurd h h0, fun i hi => by omega⟩
/-- An argument that is a network. -/
theorem arg_net {H : Type} {enc : TypeId × Value → H} {w : World} {r : Reach} {base n : Nat} {v : Value} {x : DataW H × List MemPlace} (hok : Value.okWide Try.prog w r base 25 v)
    (h : DataW.trod enc Try.prog w 0 (fun _ => true) true n 25 v.cells.toList = some x) : ∃ p cp q cq s A, v = .agg #[.slice p s.length cp, .slice q A.length cq] ∧ Ints w p s ∧ Arks w q A ∧ (p = none → s.length = 0 ∧ cp = 0) := by
  obtain ⟨cs, rfl⟩ := okWide_agg Try.underlying25 hok
  obtain ⟨hl, hf⟩ := trod_fields Try.underlying25 h
  rw [show Try.prog.cellsOf 25 = 2 by kernel_rfl] at hl
  obtain ⟨n0, y0, h0⟩ := hf 0 _ rfl
  obtain ⟨n1, y1, h1⟩ := hf 1 _ rfl
  obtain ⟨s, p, cp, hb, hS⟩ := opens_ints _ _ _ _ _ _ h0
  obtain ⟨A, q, cq, hc, hA⟩ := opens_arks _ _ _ _ _ _ h1
  replace hb : List.take (Try.prog.cellsOf 22) (List.drop 0 cs.toList) = [.slice p s.length cp] := hb
  replace hc : List.take (Try.prog.cellsOf 23) (List.drop 1 cs.toList) = [.slice q A.length cq] := hc
  rw [show Try.prog.cellsOf 22 = 1 by kernel_rfl] at hb
  rw [show Try.prog.cellsOf 23 = 1 by kernel_rfl] at hc
  replace hl : cs.toList.length = 2 := hl
  obtain ⟨l⟩ := cs
  match l, hl, hb, hc with
  | [u, v], _, hb, hc =>
    simp at hb hc
    refine ⟨p, cp, q, cq, s, A, by rw [hb, hc], slat_ints hS, slat_arks hA, fun hp => ?_⟩
    have h1 := hS.2.2.1 hp
    have h2 := hS.1
    exact ⟨by omega, h1⟩

theorem FlowChecks_row : Rows.FlowChecksSaid :=
  OpenClaim.holds_of_wide 3 Try.f3 rfl rfl rfl rfl rfl rfl rfl ⟨rfl, rfl, rfl, rfl, rfl⟩ rfl rfl rfl rfl rfl (by kernel_rfl) Try.func3 (by kernel_rfl)
    (of_decide_eq_true (by kernel_rfl)) (by unfold Func.isWrapper; first | (rw [if_pos (by decide +kernel)]; kernel_rfl) | (rw [if_neg (by decide +kernel)]; exact ⟨rfl, rfl⟩))
    (fun os started H enc _ => by
      refine law_lifted (C := Try.checked) (s := Rows.flowChecksSpec) Try.own started (by kernel_rfl) Try.func3
        (ChangeSpec.witness6 (enc := enc) (C := Try.checked) false ⟨#[], #[.agg #[.slice none 0 0, .slice none 0 0], .slice none 0 0], []⟩ 8 (by kernel_rfl) (by kernel_rfl) (by kernel_rfl) (by kernel_rfl))
        Try.laidOut rfl Try.underlying4 (by kernel_rfl) rfl ?_ ?_
      · intro ds hds
        match ds, hds with
        | [_, _], _ => exact ⟨rfl, rfl, rfl⟩
      · intro W base args ds ps hval hA
        have hA' := hA
        rw [Try.params3] at hA'
        obtain ⟨v0, v1, rfl, ⟨n0, y0, h0⟩, ⟨n1, y1, h1⟩⟩ := trodAll_split2 hA'
        obtain ⟨p, cp, q, cq, s, A, rfl, hS, hR, hnil⟩ := arg_net (hval 0 _ _ rfl rfl) h0
        obtain ⟨r, cr, f, rfl, hx, _, _⟩ := arg_ints (hval 1 _ _ rfl rfl) h1
        exact checks_l _ _ _ _ _ _ _ _ _ _ _ _ _ hS hR hx rfl rfl rfl hnil)

theorem FlowOptimal_row : Rows.FlowOptimalSaid :=
  OpenClaim.holds_of_wide 4 Try.f4 rfl rfl rfl rfl rfl rfl rfl ⟨rfl, rfl, rfl, rfl, rfl⟩ rfl rfl rfl rfl rfl (by kernel_rfl) Try.func4 (by kernel_rfl)
    (of_decide_eq_true (by kernel_rfl)) (by unfold Func.isWrapper; first | (rw [if_pos (by decide +kernel)]; kernel_rfl) | (rw [if_neg (by decide +kernel)]; exact ⟨rfl, rfl⟩))
    (fun os started H enc _ => by
      refine law_lifted (C := Try.checked) (s := Rows.flowOptimalSpec) Try.own started (by kernel_rfl) Try.func4
        (ChangeSpec.witness6 (enc := enc) (C := Try.checked) false ⟨#[], #[.agg #[.slice none 0 0, .slice none 0 0], .slice none 0 0], []⟩ 8 (by kernel_rfl) (by kernel_rfl) (by kernel_rfl) (by kernel_rfl))
        Try.laidOut rfl Try.underlying4 (by kernel_rfl) rfl ?_ ?_
      · intro ds hds
        match ds, hds with
        | [_, _], _ => exact ⟨rfl, rfl, rfl⟩
      · intro W base args ds ps hval hA
        have hA' := hA
        rw [Try.params4] at hA'
        obtain ⟨v0, v1, rfl, ⟨n0, y0, h0⟩, ⟨n1, y1, h1⟩⟩ := trodAll_split2 hA'
        obtain ⟨p, cp, q, cq, s, A, rfl, hS, hR, hnil⟩ := arg_net (hval 0 _ _ rfl rfl) h0
        obtain ⟨r, cr, f, rfl, hx, _, _⟩ := arg_ints (hval 1 _ _ rfl rfl) h1
        exact optimal_l _ _ _ _ _ _ _ _ _ _ _ _ _ hS hR hx rfl rfl rfl hnil)

theorem FlowSolves_row : Rows.FlowSolvesSaid :=
  OpenClaim.holds_of_wide 5 Try.f5 rfl rfl rfl rfl rfl rfl rfl ⟨rfl, rfl, rfl, rfl, rfl⟩ rfl rfl rfl rfl rfl (by kernel_rfl) Try.func5 (by kernel_rfl)
    (of_decide_eq_true (by kernel_rfl)) (by unfold Func.isWrapper; first | (rw [if_pos (by decide +kernel)]; kernel_rfl) | (rw [if_neg (by decide +kernel)]; exact ⟨rfl, rfl⟩))
    (fun os started H enc _ => by
      refine law_lifted (C := Try.checked) (s := Rows.flowSolvesSpec) Try.own started (by kernel_rfl) Try.func5
        (ChangeSpec.witness6 (enc := enc) (C := Try.checked) false ⟨#[], #[.agg #[.slice none 0 0, .slice none 0 0]], []⟩ 8 (by kernel_rfl) (by kernel_rfl) (by kernel_rfl) (by kernel_rfl))
        Try.laidOut rfl Try.underlying4 (by kernel_rfl) rfl ?_ ?_
      · intro ds hds
        match ds, hds with
        | [_], _ => exact ⟨rfl, rfl, rfl⟩
      · intro W base args ds ps hval hA
        have hA' := hA
        rw [Try.params5] at hA'
        obtain ⟨v0, rfl, ⟨n0, y0, h0⟩⟩ := trodAll_split1 hA'
        obtain ⟨p, cp, q, cq, s, A, rfl, hS, hR, hnil⟩ := arg_net (hval 0 _ _ rfl rfl) h0
        exact solves_l _ _ _ _ _ _ _ _ _ hS hR rfl rfl hnil)

theorem FlowLeast_row : Rows.FlowLeastSaid :=
  OpenClaim.holds_of_wide 6 Try.f6 rfl rfl rfl rfl rfl rfl rfl ⟨rfl, rfl, rfl, rfl, rfl⟩ rfl rfl rfl rfl rfl (by kernel_rfl) Try.func6 (by kernel_rfl)
    (of_decide_eq_true (by kernel_rfl)) (by unfold Func.isWrapper; first | (rw [if_pos (by decide +kernel)]; kernel_rfl) | (rw [if_neg (by decide +kernel)]; exact ⟨rfl, rfl⟩))
    (fun os started H enc _ => by
      refine law_lifted (C := Try.checked) (s := Rows.flowLeastSpec) Try.own started (by kernel_rfl) Try.func6
        (ChangeSpec.witness6 (enc := enc) (C := Try.checked) false ⟨#[], #[.agg #[.slice none 0 0, .slice none 0 0], .slice none 0 0], []⟩ 8 (by kernel_rfl) (by kernel_rfl) (by kernel_rfl) (by kernel_rfl))
        Try.laidOut rfl Try.underlying4 (by kernel_rfl) rfl ?_ ?_
      · intro ds hds
        match ds, hds with
        | [_, _], _ => exact ⟨rfl, rfl, rfl⟩
      · intro W base args ds ps hval hA
        have hA' := hA
        rw [Try.params6] at hA'
        obtain ⟨v0, v1, rfl, ⟨n0, y0, h0⟩, ⟨n1, y1, h1⟩⟩ := trodAll_split2 hA'
        obtain ⟨p, cp, q, cq, s, A, rfl, hS, hR, hnil⟩ := arg_net (hval 0 _ _ rfl rfl) h0
        obtain ⟨r, cr, f, rfl, hx, _, _⟩ := arg_ints (hval 1 _ _ rfl rfl) h1
        exact least_l _ _ _ _ _ _ _ _ _ _ _ _ _ hS hR hx rfl rfl rfl hnil)

end Go.Proofs.Ytnnlhmialmhpfaa
