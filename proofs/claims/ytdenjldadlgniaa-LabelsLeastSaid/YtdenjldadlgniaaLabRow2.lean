/- Layer 50: the law LabelsLeast as the statement says it. -/
import Derived.Test.YtdenjldadlgniaaLabR
import Derived.Test.YtdenjldadlgniaaLabRow
set_option linter.unusedSimpArgs false
set_option linter.unusedVariables false
namespace Go.Proofs.Ytdenjldadlgniaa
open Go.RowKit Go.ChangeShapes Go.WideShapes

theorem LabelsLeast_row : Rows.LabelsLeastSaid :=
  OpenClaim.holds_of_wide 6 Try.f6 rfl rfl rfl rfl rfl rfl rfl ⟨rfl, rfl, rfl, rfl, rfl⟩ rfl rfl rfl rfl rfl (by kernel_rfl) Try.func6 (by kernel_rfl)
    (of_decide_eq_true (by kernel_rfl)) (by unfold Func.isWrapper; first | (rw [if_pos (by decide +kernel)]; kernel_rfl) | (rw [if_neg (by decide +kernel)]; exact ⟨rfl, rfl⟩))
    (fun os started H enc _ => by
      refine law_lifted (C := Try.checked) (s := Rows.labelsLeastSpec) Try.own started (by kernel_rfl) Try.func6
        (ChangeSpec.witness6 (enc := enc) (C := Try.checked) false ⟨#[], #[.slice none 0 0, .slice none 0 0, .slice none 0 0], []⟩ 8 (by kernel_rfl) (by kernel_rfl) (by kernel_rfl) (by kernel_rfl))
        Try.laidOut rfl Try.underlying4 (by kernel_rfl) rfl ?_ ?_
      · intro ds hds
        match ds, hds with
        | [_, _, _], _ => exact ⟨rfl, rfl, rfl⟩
      · intro W base args ds ps hval hA
        have hA' := hA
        rw [Try.params6] at hA'
        obtain ⟨v0, v1, v2, rfl, ⟨n0, y0, h0⟩, ⟨n1, y1, h1⟩, ⟨n2, y2, h2⟩⟩ := trodAll_split3 hA'
        obtain ⟨p, cp, m, rfl, hM⟩ := arg_bmat (hval 0 _ _ rfl rfl) h0
        obtain ⟨q, cq, c, rfl, hC⟩ := arg_mat (hval 1 _ _ rfl rfl) h1
        obtain ⟨r, cr, xs, rfl, hx, h5, h6⟩ := arg_int5 (hval 2 _ _ rfl rfl) h2
        exact least_l _ _ _ _ _ _ _ _ _ _ _ _ _ hM hC hx rfl rfl rfl h5 h6)

end Go.Proofs.Ytdenjldadlgniaa
