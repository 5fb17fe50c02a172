/- Layer 7: the law TreeBack as the statement says it: it returns true for every input, and the input reads as before. No conditions. -/
import Derived.Test.YtbamckfjikpjlaaTreZd
import Derived.Test.YtbamckfjikpjlaaTreRow2
set_option linter.unusedSimpArgs false
set_option linter.unusedVariables false
namespace Go.Proofs.Ytbamckfjikpjlaa
open Go.RowKit Go.ChangeShapes Go.WideShapes

theorem TreeBack_row : Rows.TreeBackSaid :=
  OpenClaim.holds_of_wide 7 Try.f7 rfl rfl rfl rfl rfl rfl rfl ⟨rfl, rfl, rfl, rfl, rfl⟩ rfl rfl rfl rfl rfl (by kernel_rfl) Try.func7 (by kernel_rfl)
    (of_decide_eq_true (by kernel_rfl)) (by unfold Func.isWrapper; first | (rw [if_pos (by decide +kernel)]; kernel_rfl) | (rw [if_neg (by decide +kernel)]; exact ⟨rfl, rfl⟩))
    (fun os started H enc _ => by
      refine law_lifted (C := Try.checked) (s := Rows.treeBackSpec) Try.own started (by kernel_rfl) Try.func7
        (ChangeSpec.witness6 (enc := enc) (C := Try.checked) false ⟨#[], #[.agg #[.string ⟨#[]⟩, .bool false, .slice none 0 0], .string ⟨#[]⟩, .string ⟨#[]⟩], []⟩ 8 (by kernel_rfl) (by kernel_rfl) (by kernel_rfl) (by kernel_rfl))
        Try.laidOut rfl Try.underlying4 (by kernel_rfl) rfl ?_ ?_
      · intro ds hds
        match ds, hds with
        | [_, _, _], _ => exact ⟨rfl, rfl, rfl⟩
      · intro W base args ds ps hval hA
        have hA' := hA
        rw [Try.params7] at hA'
        obtain ⟨v0, v1, v2, rfl, ⟨n0, y0, h0⟩, ⟨n1, y1, h1⟩, ⟨n2, y2, h2⟩⟩ := trodAll_split3 hA'
        obtain ⟨name, dir, p, l, cap, N, rfl, hS⟩ := arg_tree (hval 0 _ _ rfl rfl) h0
        obtain ⟨f, rfl, hf⟩ := arg_str (hval 1 _ _ rfl rfl) h1
        obtain ⟨t, rfl, ht⟩ := arg_str (hval 2 _ _ rfl rfl) h2
        exact back_l _ _ _ _ _ _ _ _ _ _ hS rfl hf ht)

end Go.Proofs.Ytbamckfjikpjlaa
