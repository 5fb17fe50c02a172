/- CanonContours returns true for every input, and the input reads as before. -/
import Derived.Test.YtdacnkjmimhcaaaDoorCanP
import Derived.Test.YtdacnkjmimhcaaaDoorCanRow
set_option linter.unusedSimpArgs false
set_option linter.unusedVariables false
namespace Go.Proofs.YtdacnkjmimhcaaaDoor
open Go.RowKit Go.ChangeShapes Go.WideShapes

theorem CanonContours_row : Rows.CanonContoursSaid :=
  OpenClaim.holds_of_wide 5 Tryd.f5 rfl rfl rfl rfl rfl rfl rfl ⟨rfl, rfl, rfl, rfl, rfl⟩ rfl rfl rfl rfl rfl (by kernel_rfl) Tryd.func5 (by kernel_rfl)
    (of_decide_eq_true (by kernel_rfl)) (by unfold Func.isWrapper; first | (rw [if_pos (by decide +kernel)]; kernel_rfl) | (rw [if_neg (by decide +kernel)]; exact ⟨rfl, rfl⟩))
    (fun os started H enc _ => by
      refine law_laid (C := Tryd.checked) (s := Rows.canonContoursSpec) laidL Tryd.own started (by kernel_rfl) Tryd.func5
        (ChangeSpec.witness_at (enc := enc) (C := Tryd.checked) (os := os) (X := fun w _ => laidMet Tryd.prog laidL w) false (laidWorld os) #[.agg #[.int .i64 0, .slice none 0 0, .slice none 0 0], .slice none 0 0] 8 rfl (by kernel_rfl) (by kernel_rfl) (by kernel_rfl) (by kernel_rfl) (by kernel_rfl)
          (laidMet_of_run' 8 (by kernel_rfl) (by kernel_rfl)))
        Tryd.laidOut rfl Tryd.underlying4 (by kernel_rfl) rfl ?_ ?_
      · intro ds hds
        match ds, hds with
        | [_, _], _ => exact ⟨rfl, rfl, rfl⟩
      · intro W base args ds ps hval hA hLd
        have hA' := hA
        rw [Tryd.params5] at hA'
        obtain ⟨v0, v1, rfl, ⟨n0, y0, h0⟩, ⟨n1, y1, h1⟩⟩ := trodAll_split2 hA'
        obtain ⟨N, p, q, cE, cA, E, A, rfl, hE, hM, c1, c2⟩ := arg_rot (hval 0 _ _ rfl rfl) h0
        obtain ⟨pO, cO, O, rfl, hO, c3, c4⟩ := arg_ints2 (hval 1 _ _ rfl rfl) h1
        exact contoursL _ _ _ _ _ _ _ _ _ _ _ _ _ _ hE hM c1 c2 hO c3 c4 (lim_of hLd) rfl rfl rfl)

theorem CanonContours_card : Rows.CanonContoursCardSaid :=
  Claim7.holds_tied_plain_at .later [] [.data] true Rows.canonContoursCard.stood.harness false
    CanonContours_row (fun _ h => by cases h) (by kernel_rfl) (fun _ h => by cases h) canonContours_row_tie rfl ⟨rfl, rfl⟩ (by kernel_rfl) rfl
    (fun f fn hf hfn => by
      obtain rfl : f = 5 := (Option.some.inj ((show Tryd.prog.funcNamed "layout/layoutlaw36.CanonContours" = some 5 by kernel_rfl).symm.trans hf)).symm
      obtain rfl : fn = Tryd.f5 := (Option.some.inj (Tryd.func5.symm.trans hfn)).symm
      refine ⟨by kernel_rfl, fun j t ht => ?_⟩
      rw [Tryd.params5] at ht
      match j, ht with
        | 0, ht => cases ht; exact (show Tryd.prog.wantsStandIn 25 = false by kernel_rfl)
        | 1, ht => cases ht; exact (show Tryd.prog.wantsStandIn 26 = false by kernel_rfl))
    (by kernel_rfl)
end Go.Proofs.YtdacnkjmimhcaaaDoor
