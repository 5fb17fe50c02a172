/- Layer 50: the law LabelsAgree as the statement says it. -/
import Derived.Test.YtdenjldadlgniaaLabZ
import Derived.Test.YtdenjldadlgniaaLabRow
set_option linter.unusedSimpArgs false
set_option linter.unusedVariables false
namespace Go.Proofs.Ytdenjldadlgniaa
open Go.RowKit Go.ChangeShapes Go.WideShapes

theorem LabelsAgree_row : Rows.LabelsAgreeSaid :=
  OpenClaim.holds_of_wide 7 Try.f7 rfl rfl rfl rfl rfl rfl rfl ⟨rfl, rfl, rfl, rfl, rfl⟩ rfl rfl rfl rfl rfl (by kernel_rfl) Try.func7 (by kernel_rfl)
    (of_decide_eq_true (by kernel_rfl)) (by unfold Func.isWrapper; first | (rw [if_pos (by decide +kernel)]; kernel_rfl) | (rw [if_neg (by decide +kernel)]; exact ⟨rfl, rfl⟩))
    (fun os started H enc _ => by
      refine law_lifted (C := Try.checked) (s := Rows.labelsAgreeSpec) Try.own started (by kernel_rfl) Try.func7
        (ChangeSpec.witness6 (enc := enc) (C := Try.checked) false ⟨#[], #[.slice none 0 0, .slice none 0 0], []⟩ 8 (by kernel_rfl) (by kernel_rfl) (by kernel_rfl) (by kernel_rfl))
        Try.laidOut rfl Try.underlying4 (by kernel_rfl) rfl ?_ ?_
      · intro ds hds
        match ds, hds with
        | [_, _], _ => exact ⟨rfl, rfl, rfl⟩
      · intro W base args ds ps hval hA
        have hA' := hA
        rw [Try.params7] at hA'
        obtain ⟨v0, v1, rfl, ⟨n0, y0, h0⟩, ⟨n1, y1, h1⟩⟩ := trodAll_split2 hA'
        obtain ⟨p, cp, s, rfl, hI, h5, h6⟩ := arg_bxs (hval 0 _ _ rfl rfl) h0
        obtain ⟨q, cq, c, rfl, hC⟩ := arg_mat (hval 1 _ _ rfl rfl) h1
        exact agree_l _ _ _ _ _ _ _ _ _ hI hC rfl rfl h5 h6)

end Go.Proofs.Ytdenjldadlgniaa
