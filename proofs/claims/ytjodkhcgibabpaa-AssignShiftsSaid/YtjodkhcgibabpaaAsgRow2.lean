/- Layer 18: the laws AssignShifts and AssignWidens as the statements say them. No conditions. -/
import Derived.Test.YtjodkhcgibabpaaAsgN
import Derived.Test.YtjodkhcgibabpaaAsgRow
import Derived.OpenShut
set_option linter.unusedSimpArgs false
set_option linter.unusedVariables false
namespace Go.Proofs.Ytjodkhcgibabpaa
open Go.RowKit Go.ChangeShapes Go.WideShapes

theorem AssignShifts_row : Rows.AssignShiftsSaid :=
  OpenClaim.holds_of_wide 5 Try.f5 rfl rfl rfl rfl rfl rfl rfl ⟨rfl, rfl, rfl, rfl, rfl⟩ rfl rfl rfl rfl rfl (by kernel_rfl) Try.func5 (by kernel_rfl)
    (of_decide_eq_true (by kernel_rfl)) (by unfold Func.isWrapper; first | (rw [if_pos (by decide +kernel)]; kernel_rfl) | (rw [if_neg (by decide +kernel)]; exact ⟨rfl, rfl⟩))
    (fun os started H enc _ => by
      refine law_lifted (C := Try.checked) (s := Rows.assignShiftsSpec) Try.own started (by kernel_rfl) Try.func5
        (ChangeSpec.witness6 (enc := enc) (C := Try.checked) false ⟨#[], #[.slice none 0 0, .int .u8 0, .int .u16 0], []⟩ 8 (by kernel_rfl) (by kernel_rfl) (by kernel_rfl) (by kernel_rfl))
        Try.laidOut rfl Try.underlying4 (by kernel_rfl) rfl ?_ ?_
      · intro ds hds
        match ds, hds with
        | [_, _, _], _ => exact ⟨rfl, rfl, rfl⟩
      · intro W base args ds ps hval hA
        have hA' := hA
        rw [Try.params5] at hA'
        obtain ⟨v0, v1, v2, rfl, ⟨n0, y0, h0⟩, ⟨n1, y1, h1⟩, ⟨n2, y2, h2⟩⟩ := trodAll_split3 hA'
        obtain ⟨p, cp, m, rfl, hM⟩ := arg_mat (hval 0 _ _ rfl rfl) h0
        obtain ⟨a, rfl⟩ := okWide_int Try.underlying5 (hval 1 5 v1 rfl rfl)
        obtain ⟨a', e1, wa⟩ := opens_int Try.underlying5 _ _ _ _ _ _ h1
        cases e1
        have wa' := bounds_u8 wa
        obtain ⟨d, rfl⟩ := okWide_int Try.underlying33 (hval 2 33 v2 rfl rfl)
        obtain ⟨d', e2, wd⟩ := opens_int Try.underlying33 _ _ _ _ _ _ h2
        cases e2
        have wd' := bounds_u16 wd
        obtain ⟨x, hx⟩ := Int.eq_ofNat_of_zero_le wa'.1
        rw [hx]
        exact shifts_l _ _ _ _ _ _ _ hM rfl (by omega) wd'.1 wd'.2)

theorem AssignWidens_row : Rows.AssignWidensSaid :=
  OpenClaim.holds_of_wide 6 Try.f6 rfl rfl rfl rfl rfl rfl rfl ⟨rfl, rfl, rfl, rfl, rfl⟩ rfl rfl rfl rfl rfl (by kernel_rfl) Try.func6 (by kernel_rfl)
    (of_decide_eq_true (by kernel_rfl)) (by unfold Func.isWrapper; first | (rw [if_pos (by decide +kernel)]; kernel_rfl) | (rw [if_neg (by decide +kernel)]; exact ⟨rfl, rfl⟩))
    (fun os started H enc _ => by
      refine law_lifted (C := Try.checked) (s := Rows.assignWidensSpec) Try.own started (by kernel_rfl) Try.func6
        (ChangeSpec.witness6 (enc := enc) (C := Try.checked) false ⟨#[], #[.slice none 0 0, .int .u8 0], []⟩ 8 (by kernel_rfl) (by kernel_rfl) (by kernel_rfl) (by kernel_rfl))
        Try.laidOut rfl Try.underlying4 (by kernel_rfl) rfl ?_ ?_
      · intro ds hds
        match ds, hds with
        | [_, _], _ => exact ⟨rfl, rfl, rfl⟩
      · intro W base args ds ps hval hA
        have hA' := hA
        rw [Try.params6] at hA'
        obtain ⟨v0, v1, rfl, ⟨n0, y0, h0⟩, ⟨n1, y1, h1⟩⟩ := trodAll_split2 hA'
        obtain ⟨p, cp, m, rfl, hM⟩ := arg_mat (hval 0 _ _ rfl rfl) h0
        obtain ⟨a, rfl⟩ := okWide_int Try.underlying5 (hval 1 5 v1 rfl rfl)
        obtain ⟨a', e1, wa⟩ := opens_int Try.underlying5 _ _ _ _ _ _ h1
        cases e1
        have wa' := bounds_u8 wa
        obtain ⟨x, hx⟩ := Int.eq_ofNat_of_zero_le wa'.1
        rw [hx]
        exact widens_l _ _ _ _ _ _ hM rfl (by omega))

end Go.Proofs.Ytjodkhcgibabpaa
