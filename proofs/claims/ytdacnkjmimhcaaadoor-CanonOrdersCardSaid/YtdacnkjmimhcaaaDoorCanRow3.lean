/- CanonOrders returns true for every input, and the input reads as before. -/
import Derived.Test.YtdacnkjmimhcaaaDoorCanQ
import Derived.Test.YtdacnkjmimhcaaaDoorCanRow
set_option linter.unusedSimpArgs false
set_option linter.unusedVariables false
namespace Go.Proofs.YtdacnkjmimhcaaaDoor
open Go.RowKit Go.ChangeShapes Go.WideShapes

theorem CanonOrders_row : Rows.CanonOrdersSaid :=
  OpenClaim.holds_of_wide 4 Tryd.f4 rfl rfl rfl rfl rfl rfl rfl ⟨rfl, rfl, rfl, rfl, rfl⟩ rfl rfl rfl rfl rfl (by kernel_rfl) Tryd.func4 (by kernel_rfl)
    (of_decide_eq_true (by kernel_rfl)) (by unfold Func.isWrapper; first | (rw [if_pos (by decide +kernel)]; kernel_rfl) | (rw [if_neg (by decide +kernel)]; exact ⟨rfl, rfl⟩))
    (fun os started H enc _ => by
      refine law_laid (C := Tryd.checked) (s := Rows.canonOrdersSpec) laidL Tryd.own started (by kernel_rfl) Tryd.func4
        (ChangeSpec.witness_at (enc := enc) (C := Tryd.checked) (os := os) (X := fun w _ => laidMet Tryd.prog laidL w) false (laidWorld os) #[.agg #[.int .i64 0, .slice none 0 0, .slice none 0 0]] 8 rfl (by kernel_rfl) (by kernel_rfl) (by kernel_rfl) (by kernel_rfl) (by kernel_rfl)
          (laidMet_of_run' 8 (by kernel_rfl) (by kernel_rfl)))
        Tryd.laidOut rfl Tryd.underlying4 (by kernel_rfl) rfl ?_ ?_
      · intro ds hds
        match ds, hds with
        | [_], _ => exact ⟨rfl, rfl, rfl⟩
      · intro W base args ds ps hval hA hLd
        have hA' := hA
        rw [Tryd.params4] at hA'
        obtain ⟨v0, rfl, ⟨n0, y0, h0⟩⟩ := trodAll_split1 hA'
        obtain ⟨N, p, q, cE, cA, E, A, rfl, hE, hM, c1, c2⟩ := arg_rot (hval 0 _ _ rfl rfl) h0
        exact ordersL _ _ _ _ _ _ _ _ _ _ hE hM c1 c2 (lim_of hLd) rfl rfl)

theorem CanonOrders_card : Rows.CanonOrdersCardSaid :=
  Claim7.holds_tied_plain_at .later [] [.data] true Rows.canonOrdersCard.stood.harness false
    CanonOrders_row (fun _ h => by cases h) (by kernel_rfl) (fun _ h => by cases h) canonOrders_row_tie rfl ⟨rfl, rfl⟩ (by kernel_rfl) rfl
    (fun f fn hf hfn => by
      obtain rfl : f = 4 := (Option.some.inj ((show Tryd.prog.funcNamed "layout/layoutlaw36.CanonOrders" = some 4 by kernel_rfl).symm.trans hf)).symm
      obtain rfl : fn = Tryd.f4 := (Option.some.inj (Tryd.func4.symm.trans hfn)).symm
      refine ⟨by kernel_rfl, fun j t ht => ?_⟩
      rw [Tryd.params4] at ht
      match j, ht with
        | 0, ht => cases ht; exact (show Tryd.prog.wantsStandIn 25 = false by kernel_rfl))
    (by kernel_rfl)
end Go.Proofs.YtdacnkjmimhcaaaDoor
