/- BendNets returns true for every input, and the input reads as before. The program's table of limits is tied to its text. -/
import Derived.Test.YtiihgpgpbgafiaaDoorRNe
import Derived.Test.YtiihgpgpbgafiaaDoorCards
import Derived.Test.YtiihgpgpbgafiaaDoorTie
set_option linter.unusedSimpArgs false
set_option linter.unusedVariables false
namespace Go.Proofs.YtiihgpgpbgafiaaDoor
open Go.RowKit Go.ChangeShapes Go.WideShapes

theorem Tryd.own : ownKnob Tryd.prog.godebug = none := by kernel_rfl
theorem Tryd.laidOut : laidOutB Tryd.prog = true := by kernel_rfl
def rArc (_ : World) (cs : List Value) (p : Int × Int) : Prop := cs = [.int .i64 p.1, .int .i64 p.2]
set_option maxRecDepth 20000 in
theorem opens_arc : Opens Tryd.prog 61 rArc := by
  intro H enc w fuel cs x h
  obtain ⟨hl, hf⟩ := trod_fields Tryd.underlying61 h
  rw [show Tryd.prog.cellsOf 61 = 2 by kernel_rfl] at hl
  obtain ⟨n0, y0, h0⟩ := hf 0 _ rfl
  obtain ⟨n1, y1, h1⟩ := hf 1 _ rfl
  obtain ⟨a, ha, _⟩ := opens_int Tryd.underlying3 _ _ _ _ _ _ h0
  obtain ⟨b, hb, _⟩ := opens_int Tryd.underlying3 _ _ _ _ _ _ h1
  replace ha : List.take (Tryd.prog.cellsOf 3) (List.drop 0 cs) = [.int .i64 a] := ha
  replace hb : List.take (Tryd.prog.cellsOf 3) (List.drop 1 cs) = [.int .i64 b] := hb
  rw [show Tryd.prog.cellsOf 3 = 1 by kernel_rfl] at ha hb
  match cs, hl, ha, hb with
  | [u, v], _, ha, hb =>
    simp at ha hb
    exact ⟨(a, b), by simp [rArc, ha, hb]⟩
theorem opens_mat : Opens Tryd.prog 23 (rSl (rSl (rInt .i64) 1) 1) := opens_slice Tryd.underlying23 (by kernel_rfl) (by omega) opens_ints
theorem opens_arcs : Opens Tryd.prog 22 (rSl rArc 2) := opens_slice Tryd.underlying22 (by kernel_rfl) (by omega) opens_arc
theorem slat_prs {w : World} {p : Option Addr} {cap : Nat} {E : List (Int × Int)} (h : SlAt rArc 2 w p cap E) : Prs w p E := by
  obtain ⟨h1, h2, h3, h4⟩ := h
  refine ⟨by simp only [maxLen] at h2; omega, ?_⟩
  cases hp : p with
  | none =>
    refine ⟨0, 0, fun h0 => ?_, fun i hi => ?_⟩
    · have := h3 hp; omega
    · have := h3 hp; omega
  | some a =>
    obtain ⟨b, o, s⟩ := a
    by_cases h0 : 0 < E.length
    · obtain ⟨b', o', ce, e1, e2, _⟩ := h4 0 _ (List.getElem?_eq_getElem h0)
      rw [hp] at e1
      cases e1
      refine ⟨b, o, fun _ => ⟨rfl, e2⟩, fun i hi => ?_⟩
      obtain ⟨b', o', ce, e1, _, e3, e4, e5⟩ := h4 i _ (List.getElem?_eq_getElem hi)
      rw [hp] at e1
      cases e1
      have q0 := e5 0 (by omega)
      have q1 := e5 1 (by omega)
      rw [Nat.add_zero] at q0
      unfold rArc at e4
      rw [q0, q1, e4, pr_eq E hi]
      exact ⟨rfl, rfl⟩
    · exact ⟨0, 0, fun h => absurd h h0, fun i hi => by omega⟩
set_option maxRecDepth 20000 in
/-- An argument that is a rotation system. -/
theorem arg_rot {H : Type} {enc : TypeId × Value → H} {w : World} {r : Reach} {base n : Nat} {v : Value} {x : DataW H × List MemPlace} (hok : Value.okWide Tryd.prog w r base 25 v)
    (h : DataW.trod enc Tryd.prog w 0 (fun _ => true) true n 25 v.cells.toList = some x) : ∃ N p q cE cA E A, v = .agg #[.int .i64 N, .slice p E.length cE, .slice q A.length cA] ∧ Prs w p E ∧ Mat w q A ∧ E.length ≤ cE ∧ cE ≤ maxLen := by
  obtain ⟨cs, rfl⟩ := okWide_agg Tryd.underlying25 hok
  obtain ⟨hl, hf⟩ := trod_fields Tryd.underlying25 h
  rw [show Tryd.prog.cellsOf 25 = 3 by kernel_rfl] at hl
  obtain ⟨n0, y0, h0⟩ := hf 0 _ rfl
  obtain ⟨n1, y1, h1⟩ := hf 1 _ rfl
  obtain ⟨n2, y2, h2⟩ := hf 2 _ rfl
  obtain ⟨a, ha, _⟩ := opens_int Tryd.underlying3 _ _ _ _ _ _ h0
  obtain ⟨E, p, cE, hb, hE⟩ := opens_arcs _ _ _ _ _ _ h1
  obtain ⟨A, q, cA, hc, hA⟩ := opens_mat _ _ _ _ _ _ h2
  replace ha : List.take (Tryd.prog.cellsOf 3) (List.drop 0 cs.toList) = [.int .i64 a] := ha
  replace hb : List.take (Tryd.prog.cellsOf 22) (List.drop 1 cs.toList) = [.slice p E.length cE] := hb
  replace hc : List.take (Tryd.prog.cellsOf 23) (List.drop 2 cs.toList) = [.slice q A.length cA] := hc
  rw [show Tryd.prog.cellsOf 3 = 1 by kernel_rfl] at ha
  rw [show Tryd.prog.cellsOf 22 = 1 by kernel_rfl] at hb
  rw [show Tryd.prog.cellsOf 23 = 1 by kernel_rfl] at hc
  replace hl : cs.toList.length = 3 := hl
  obtain ⟨l⟩ := cs
  match l, hl, ha, hb, hc with
  | [u, v, z], _, ha, hb, hc =>
    simp at ha hb hc
    exact ⟨a, p, q, cE, cA, E, A, by rw [ha, hb, hc], slat_prs hE, slat_mat hA, hE.1, hE.2.1⟩

set_option maxRecDepth 20000 in
theorem arg_ints2 {H : Type} {enc : TypeId × Value → H} {w : World} {r : Reach} {base n : Nat} {v : Value} {x : DataW H × List MemPlace} (hok : Value.okWide Tryd.prog w r base 28 v)
    (h : DataW.trod enc Tryd.prog w 0 (fun _ => true) true n 28 v.cells.toList = some x) : ∃ p cap xs, v = .slice p xs.length cap ∧ Ints w p xs ∧ xs.length ≤ cap ∧ cap ≤ maxLen := by
  rw [okWide_slice Tryd.underlying28 hok] at h
  obtain ⟨xs, p, cap, h1, h2⟩ := opens_ints _ _ _ _ _ _ h
  simp at h1
  exact ⟨p, cap, xs, h1, slat_ints h2, h2.1, h2.2.1⟩

/-! ### The table of limits -/
theorem Tryd.lim : Tryd.prog.globalNamed "layout/rotation.limits" = some 0 := by kernel_rfl
theorem Tryd.limType : (Tryd.prog.globals[0]?).map (·.type) = some 76 := by kernel_rfl
theorem Tryd.limCells : Tryd.prog.cellsOf 76 = 2 := by kernel_rfl
theorem Tryd.intCells : Tryd.prog.cellsOf 3 = 1 := by kernel_rfl
theorem lim_of {W : World} (h : laidMet Tryd.prog [("layout/rotation.limits", Rows.laid_layout_rotation_limits)] W) : Lim W := by
  have hT := Lib.tabIs_of_head (k := .i64) (zs := [16384, 32768]) (rest := []) Tryd.lim Tryd.limType Tryd.underlying76 Tryd.underlying3 Tryd.intCells Tryd.limCells h
  exact ⟨hT.cell Tryd.lim 0 (by decide), hT.cell Tryd.lim 1 (by decide)⟩
def limCs : Array Value := #[.int .i64 16384, .int .i64 32768]
noncomputable def laidWorld (os : Os) : World :=
  { World.holding Tryd.prog os ⟨#[], #[], []⟩ with heap := (World.holding Tryd.prog os ⟨#[], #[], []⟩).heap.modify 0 fun
      | .cells _ t frozen => .cells limCs t frozen
      | o => o }
def laidL : List (String × DataW Unit) := [("layout/rotation.limits", Rows.laid_layout_rotation_limits)]

set_option maxRecDepth 20000 in
theorem BendNets_row : Rows.BendNetsSaid :=
  OpenClaim.holds_of_wide 3 Tryd.f3 rfl rfl rfl rfl rfl rfl rfl ⟨rfl, rfl, rfl, rfl, rfl⟩ rfl rfl rfl rfl rfl (by kernel_rfl) Tryd.func3 (by kernel_rfl)
    (of_decide_eq_true (by kernel_rfl)) (by unfold Func.isWrapper; first | (rw [if_pos (by decide +kernel)]; kernel_rfl) | (rw [if_neg (by decide +kernel)]; exact ⟨rfl, rfl⟩))
    (fun os started H enc _ => by
      refine law_laid (C := Tryd.checked) (s := Rows.bendNetsSpec) laidL Tryd.own started (by kernel_rfl) Tryd.func3
        (ChangeSpec.witness_at (enc := enc) (C := Tryd.checked) (os := os) (X := fun w _ => laidMet Tryd.prog laidL w) false (laidWorld os) #[.agg #[.int .i64 0, .slice none 0 0, .slice none 0 0], .int .i64 0] 8 rfl (by kernel_rfl) (by kernel_rfl) (by kernel_rfl) (by kernel_rfl) (by kernel_rfl)
          (laidMet_of_run' 8 (by kernel_rfl) (by kernel_rfl)))
        Tryd.laidOut rfl Tryd.underlying4 (by kernel_rfl) rfl ?_ ?_
      · intro ds hds
        match ds, hds with
        | [_, _], _ => exact ⟨rfl, rfl, rfl⟩
      · intro W base args ds ps hval hA hLd
        have hA' := hA
        rw [Tryd.params3] at hA'
        obtain ⟨v0, v1, rfl, ⟨n0, y0, h0⟩, ⟨n1, y1, h1⟩⟩ := trodAll_split2 hA'
        obtain ⟨N, p, q, cE, cA, E, A, rfl, hE, hM, c1, c2⟩ := arg_rot (hval 0 _ _ rfl rfl) h0
        obtain ⟨d, rfl⟩ := okWide_int Tryd.underlying3 (hval 1 _ _ rfl rfl)
        exact netsL _ _ _ _ _ _ _ _ _ _ _ hE hM (lim_of hLd) rfl rfl)

theorem BendNets_card : Rows.BendNetsCardSaid :=
  Claim7.holds_tied_plain_at .later [] [.data] true Rows.bendNetsCard.stood.harness false
    BendNets_row (fun _ h => by cases h) (by kernel_rfl) (fun _ h => by cases h) bendNets_row_tie rfl ⟨rfl, rfl⟩ (by kernel_rfl) rfl
    (fun f fn hf hfn => by
      obtain rfl : f = 3 := (Option.some.inj ((show Tryd.prog.funcNamed "layout/layoutlaw40.BendNets" = some 3 by kernel_rfl).symm.trans hf)).symm
      obtain rfl : fn = Tryd.f3 := (Option.some.inj (Tryd.func3.symm.trans hfn)).symm
      refine ⟨by kernel_rfl, fun j t ht => ?_⟩
      rw [Tryd.params3] at ht
      match j, ht with
        | 0, ht => cases ht; exact (show Tryd.prog.wantsStandIn 25 = false by kernel_rfl)
        | 1, ht => cases ht; exact (show Tryd.prog.wantsStandIn 3 = false by kernel_rfl))
    (by kernel_rfl)
end Go.Proofs.YtiihgpgpbgafiaaDoor
