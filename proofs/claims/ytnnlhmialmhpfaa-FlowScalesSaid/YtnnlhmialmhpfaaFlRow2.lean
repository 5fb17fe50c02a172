/- Layer 17: the law FlowScales as its statement says it: it returns true for every input, and the input reads as before. No conditions. -/
import Derived.Test.YtnnlhmialmhpfaaFlL5
import Derived.Test.YtnnlhmialmhpfaaFlRow
set_option linter.unusedSimpArgs false
set_option linter.unusedVariables false
namespace Go.Proofs.Ytnnlhmialmhpfaa
open Go.RowKit Go.ChangeShapes Go.WideShapes

theorem FlowScales_row : Rows.FlowScalesSaid :=
  OpenClaim.holds_of_wide 7 Try.f7 rfl rfl rfl rfl rfl rfl rfl ⟨rfl, rfl, rfl, rfl, rfl⟩ rfl rfl rfl rfl rfl (by kernel_rfl) Try.func7 (by kernel_rfl)
    (of_decide_eq_true (by kernel_rfl)) (by unfold Func.isWrapper; first | (rw [if_pos (by decide +kernel)]; kernel_rfl) | (rw [if_neg (by decide +kernel)]; exact ⟨rfl, rfl⟩))
    (fun os started H enc _ => by
      refine law_lifted (C := Try.checked) (s := Rows.flowScalesSpec) Try.own started (by kernel_rfl) Try.func7
        (ChangeSpec.witness6 (enc := enc) (C := Try.checked) false ⟨#[], #[.agg #[.slice none 0 0, .slice none 0 0]], []⟩ 8 (by kernel_rfl) (by kernel_rfl) (by kernel_rfl) (by kernel_rfl))
        Try.laidOut rfl Try.underlying4 (by kernel_rfl) rfl ?_ ?_
      · intro ds hds
        match ds, hds with
        | [_], _ => exact ⟨rfl, rfl, rfl⟩
      · intro W base args ds ps hval hA
        have hA' := hA
        rw [Try.params7] at hA'
        obtain ⟨v0, rfl, ⟨n0, y0, h0⟩⟩ := trodAll_split1 hA'
        obtain ⟨p, cp, q, cq, s, A, rfl, hS, hR, hnil⟩ := arg_net (hval 0 _ _ rfl rfl) h0
        exact scales_l _ _ _ _ _ _ _ _ _ hS hR rfl rfl hnil)

end Go.Proofs.Ytnnlhmialmhpfaa
