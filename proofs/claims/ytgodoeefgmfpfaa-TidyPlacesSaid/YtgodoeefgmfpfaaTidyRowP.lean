/- TidyPlaces returns true for every input, and the input reads as before. No conditions. -/
import Derived.Test.YtgodoeefgmfpfaaTidyZ
set_option linter.unusedSimpArgs false
set_option linter.unusedVariables false
namespace Go.Proofs.Ytgodoeefgmfpfaa
open Go.RowKit Go.ChangeShapes Go.WideShapes

theorem Try.own : ownKnob Try.prog.godebug = none := by kernel_rfl
theorem Try.laidOut : laidOutB Try.prog = true := by kernel_rfl

theorem TidyPlaces_row : Rows.TidyPlacesSaid :=
  OpenClaim.holds_of_wide 3 Try.f3 rfl rfl rfl rfl rfl rfl rfl ⟨rfl, rfl, rfl, rfl, rfl⟩ rfl rfl rfl rfl rfl (by kernel_rfl) Try.func3 (by kernel_rfl)
    (of_decide_eq_true (by kernel_rfl)) (by unfold Func.isWrapper; first | (rw [if_pos (by decide +kernel)]; kernel_rfl) | (rw [if_neg (by decide +kernel)]; exact ⟨rfl, rfl⟩))
    (fun os started H enc _ => by
      refine law_lifted (C := Try.checked) (s := Rows.tidyPlacesSpec) Try.own started (by kernel_rfl) Try.func3
        (ChangeSpec.witness6 (enc := enc) (C := Try.checked) false ⟨#[], #[.slice none 0 0, .slice none 0 0, .int .i64 0], []⟩ 8 (by kernel_rfl) (by kernel_rfl) (by kernel_rfl) (by kernel_rfl))
        Try.laidOut rfl Try.underlying4 (by kernel_rfl) rfl ?_ ?_
      · intro ds hds
        match ds, hds with
        | [_, _, _], _ => exact ⟨rfl, rfl, rfl⟩
      · intro W base args ds ps hval hA
        have hA' := hA
        rw [Try.params3] at hA'
        obtain ⟨v0, v1, v2, rfl, ⟨n0, y0, h0⟩, ⟨n1, y1, h1⟩, ⟨n2, y2, h2⟩⟩ := trodAll_split3 hA'
        obtain ⟨p, cp, xs, rfl, hx, _⟩ := arg_ints (hval 0 _ _ rfl rfl) h0
        obtain ⟨q, cq, ys, rfl, hy, _⟩ := arg_ints (hval 1 _ _ rfl rfl) h1
        obtain ⟨i, rfl⟩ := okWide_int Try.underlying3 (hval 2 3 v2 rfl rfl)
        exact places_l hx hy rfl rfl)

end Go.Proofs.Ytgodoeefgmfpfaa
