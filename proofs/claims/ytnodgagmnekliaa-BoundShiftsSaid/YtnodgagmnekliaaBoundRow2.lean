/- Layer 24: the laws BoundShifts and BoundTight as the statements say them: each law returns true for every input, and the input reads as before. No conditions. -/
import Derived.Test.YtnodgagmnekliaaTight
import Derived.Test.YtnodgagmnekliaaBoundRow
import Derived.OpenShut
set_option linter.unusedSimpArgs false
set_option linter.unusedVariables false
namespace Go.Proofs.Ytnodgagmnekliaa
open Go.RowKit Go.ChangeShapes Go.WideShapes

theorem okWide_arr {P : Program} {w : World} {r : Reach} {b n : Nat} {t e : TypeId} {v : Value} (ht : P.underlying t = some (.array n e)) (h : Value.okWide P w r b t v) : ∃ cs, v = .agg cs := by
  unfold Value.okWide at h
  rw [ht] at h
  obtain ⟨cs, h, _⟩ := h
  exact ⟨cs, h⟩
theorem opens_pair : Opens Try.prog 34 (fun _ cs (p : Int × Int) => cs = [.int .u8 p.1, .int .u8 p.2] ∧ (0 ≤ p.1 ∧ p.1 ≤ 255) ∧ (0 ≤ p.2 ∧ p.2 ≤ 255)) := by
  intro H enc w fuel cs x h
  obtain ⟨xs, m, _, _, hl, hn, hel⟩ := DataW.trod_array Try.underlying34 h
  rw [show Try.prog.cellsOf 34 = 2 by kernel_rfl] at hl
  rw [show Try.prog.cellsOf 5 = 1 by kernel_rfl] at hel
  have h0 := hel 0 (by omega)
  have h1 := hel 1 (by omega)
  rw [List.getElem?_eq_getElem (by omega)] at h0 h1
  obtain ⟨a, ha, wa⟩ := opens_int Try.underlying5 _ _ _ _ _ _ h0
  obtain ⟨b, hb, wb⟩ := opens_int Try.underlying5 _ _ _ _ _ _ h1
  have wa' := bounds_u8 wa
  have wb' := bounds_u8 wb
  match cs, hl, ha, hb with
  | [u, v], _, ha, hb =>
    simp at ha hb
    exact ⟨(a, b), by simp [ha, hb], wa', wb'⟩

theorem BoundShifts_row : Rows.BoundShiftsSaid :=
  OpenClaim.holds_of_wide 5 Try.f5 rfl rfl rfl rfl rfl rfl rfl ⟨rfl, rfl, rfl, rfl, rfl⟩ rfl rfl rfl rfl rfl (by kernel_rfl) Try.func5 (by kernel_rfl)
    (of_decide_eq_true (by kernel_rfl)) (by unfold Func.isWrapper; first | (rw [if_pos (by decide +kernel)]; kernel_rfl) | (rw [if_neg (by decide +kernel)]; exact ⟨rfl, rfl⟩))
    (fun os started H enc _ => by
      refine law_lifted (C := Try.checked) (s := Rows.boundShiftsSpec) Try.own started (by kernel_rfl) Try.func5
        (ChangeSpec.witness6 (enc := enc) (C := Try.checked) false ⟨#[], #[.slice none 0 0, .agg #[.int .u8 0, .int .u8 0], .int .u16 0], []⟩ 8 (by kernel_rfl) (by kernel_rfl) (by kernel_rfl) (by kernel_rfl))
        Try.laidOut rfl Try.underlying4 (by kernel_rfl) rfl ?_ ?_
      · intro ds hds
        match ds, hds with
        | [_, _, _], _ => exact ⟨rfl, rfl, rfl⟩
      · intro W base args ds ps hval hA
        have hA' := hA
        rw [Try.params5] at hA'
        obtain ⟨v0, v1, v2, rfl, ⟨n0, y0, h0⟩, ⟨n1, y1, h1⟩, ⟨n2, y2, h2⟩⟩ := trodAll_split3 hA'
        obtain ⟨p, cp, m, rfl, hM⟩ := arg_mat (hval 0 _ _ rfl rfl) h0
        obtain ⟨cs, rfl⟩ := okWide_arr Try.underlying34 (hval 1 34 v1 rfl rfl)
        obtain ⟨ab, e1, ⟨a1, a2⟩, b1, b2⟩ := opens_pair _ _ _ _ _ _ h1
        have e1' : cs = #[.int .u8 ab.1, .int .u8 ab.2] := Array.toList_inj.1 e1
        subst e1'
        obtain ⟨d, rfl⟩ := okWide_int Try.underlying35 (hval 2 35 v2 rfl rfl)
        obtain ⟨d', e2, wd⟩ := opens_int Try.underlying35 _ _ _ _ _ _ h2
        cases e2
        have wd' := bounds_u16 wd
        obtain ⟨a, ha⟩ := Int.eq_ofNat_of_zero_le a1
        obtain ⟨b, hb⟩ := Int.eq_ofNat_of_zero_le b1
        rw [ha, hb]
        exact shifts_l _ _ _ _ _ _ _ _ hM rfl (by omega) (by omega) wd'.1 wd'.2)

theorem BoundTight_row : Rows.BoundTightSaid :=
  OpenClaim.holds_of_wide 6 Try.f6 rfl rfl rfl rfl rfl rfl rfl ⟨rfl, rfl, rfl, rfl, rfl⟩ rfl rfl rfl rfl rfl (by kernel_rfl) Try.func6 (by kernel_rfl)
    (of_decide_eq_true (by kernel_rfl)) (by unfold Func.isWrapper; first | (rw [if_pos (by decide +kernel)]; kernel_rfl) | (rw [if_neg (by decide +kernel)]; exact ⟨rfl, rfl⟩))
    (fun os started H enc _ => by
      refine law_lifted (C := Try.checked) (s := Rows.boundTightSpec) Try.own started (by kernel_rfl) Try.func6
        (ChangeSpec.witness6 (enc := enc) (C := Try.checked) false ⟨#[], #[.slice none 0 0, .slice none 0 0], []⟩ 8 (by kernel_rfl) (by kernel_rfl) (by kernel_rfl) (by kernel_rfl))
        Try.laidOut rfl Try.underlying4 (by kernel_rfl) rfl ?_ ?_
      · intro ds hds
        match ds, hds with
        | [_, _], _ => exact ⟨rfl, rfl, rfl⟩
      · intro W base args ds ps hval hA
        have hA' := hA
        rw [Try.params6] at hA'
        obtain ⟨v0, v1, rfl, ⟨n0, y0, h0⟩, ⟨n1, y1, h1⟩⟩ := trodAll_split2 hA'
        obtain ⟨q, cq, xs, rfl, hx, hc, _⟩ := arg_ints (hval 0 _ _ rfl rfl) h0
        obtain ⟨p, cp, m, rfl, hM⟩ := arg_mat (hval 1 _ _ rfl rfl) h1
        exact tight_l _ _ _ _ _ _ _ _ _ hM hx rfl rfl hc)

end Go.Proofs.Ytnodgagmnekliaa
