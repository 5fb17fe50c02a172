/- The law RotationDeletes: the walk. -/
import Derived.Test.YtcahceceeeaeoaaDoorRotX
import Derived.Test.YtcahceceeeaeoaaDoorSax
import Derived.Test.YtcahceceeeaeoaaDoorGen
set_option linter.unusedSimpArgs false
set_option linter.unusedVariables false
namespace Go.Proofs.YtcahceceeeaeoaaDoor
open Go.RowKit
attribute [local go_sem ↓] Go.wp_at_zero Go.wp_at_succ

theorem delRow_le (e : Int) : ∀ l : List Int, (delRow e l).length ≤ l.length
  | [] => Nat.le_refl _
  | x :: l => by
    have := delRow_le e l
    rw [delRow_cons, List.length_append, List.length_cons]
    have : (delOne e x).length ≤ 1 := by unfold delOne; split <;> (try split) <;> simp
    omega
/-- What Delete returns is small, and its genus is not greater. -/
structure DelOK (N : Int) (E : List (Int × Int)) (A : List (List Int)) (D : Del) : Prop where
  e1 : D.E.length ≤ 100
  a1 : D.A.length ≤ 100
  r1 : ∀ v, v < D.A.length → (rowOf D.A v).length ≤ 100
  gen : D.err = 0 → genusF D.N D.E D.A ≤ genusF N E A
theorem delF_ok {N : Int} {E : List (Int × Int)} {A : List (List Int)} {e : Int} (he : E.length ≤ 100) (ha : A.length ≤ 100) (hr : ∀ v, v < A.length → (rowOf A v).length ≤ 100) : DelOK N E A (delF N E A e) := by
  by_cases hv : vRotB N E A = true
  · by_cases hin : 0 ≤ e ∧ e < E.length
    · obtain ⟨m, rfl⟩ := Int.eq_ofNat_of_zero_le hin.1
      have hm : m < E.length := by omega
      have : delF N E A m = ⟨0, N, E.eraseIdx m, A.map (delRow m)⟩ := by unfold delF; rw [if_pos hv, if_pos hin]; rfl
      rw [this]
      refine ⟨by rw [List.length_eraseIdx, if_pos hm]; omega, by rw [List.length_map]; exact ha, fun v h => ?_, fun _ => gen_del (vRotB_iff.1 hv) hm⟩
      show (rowOf (A.map (delRow m)) v).length ≤ 100
      rw [rowOf_map (delRow m) rfl]
      rw [List.length_map] at h
      have := delRow_le m (rowOf A v)
      have := hr v h
      omega
    · have : delF N E A e = ⟨3, 0, [], []⟩ := by unfold delF; rw [if_pos hv, if_neg hin]
      rw [this]
      exact ⟨by simp, by simp, fun v h => by simp at h, fun h => by simp at h⟩
  · have : delF N E A e = ⟨13, 0, [], []⟩ := by unfold delF; rw [if_neg hv]
    rw [this]
    exact ⟨by simp, by simp, fun v h => by simp at h, fun h => by simp at h⟩
theorem delete_re {N : Int} {pE pA : Option Addr} {nE nA cE cA : Nat} {E : List (Int × Int)} {A : List (List Int)} {e : Int} {w : World} {D : Del} (h : delF N E A e = D) (hR : RotAt w pE pA E A) (hnE : E.length = nE) (hnA : A.length = nA) :
    Calls Tryd.prog 22 #[.agg #[.int .i64 N, .slice pE nE cE, .slice pA nA cA], .int .i64 e] w (RotPost D w) := h ▸ delete_r N pE pA nE nA cE cA E A e w hR hnE hnA

set_option maxRecDepth 8000 in
set_option maxHeartbeats 8000000 in
theorem deletesL (N : Int) (pE pA : Option Addr) (nE nA cE cA : Nat) (E : List (Int × Int)) (A : List (List Int)) (e : Int) (w : World) (hE : Prs w pE E) (hA : Mat w pA A) (hL : Lim w) (hnE : E.length = nE) (hnA : A.length = nA) :
    Calls Tryd.prog 5 #[.agg #[.int .i64 N, .slice pE nE cE, .slice pA nA cA], .int .i64 e] w fun e w' => e = .returned (.bool true) ∧ Grew w w' := by
  subst hnE hnA
  have HE := Lib.hid hE
  have HA := Lib.hid hA
  have HL := Lib.hid hL
  clear hE hA hL
  cases hf : fewB E A
  case false =>
    have Hf := Lib.hid hf
    clear hf
    go_enter Tryd.func5, Tryd.ntmps5
    go_wp2_with (first
      | (go_at_call 8; apply Calls.mono; (with_reducible exact few_e Hf.out (HE.out.grew (by (repeat (first | exact Grew.refl _ | refine Grew.over ?_ _ | refine Grew.alloc ?_ _ | refine Grew.drew ?_ | refine Grew.drewN ?_ _)))) (HA.out.grew (by (repeat (first | exact Grew.refl _ | refine Grew.over ?_ _ | refine Grew.alloc ?_ _ | refine Grew.drew ?_ | refine Grew.drewN ?_ _)))) rfl rfl); rintro e w' ⟨rfl, x1, rfl⟩)
      | (go_at_call 9; apply Calls.mono; (with_reducible exact awake_l _ (HL.out.grew (by (repeat (first | exact Grew.refl _ | refine Grew.over ?_ _ | refine Grew.alloc ?_ _ | refine Grew.drew ?_ | refine Grew.drewN ?_ _))))); rintro e w' ⟨rfl, x2, rfl⟩))
    go_ret
    exact ⟨rfl, by (repeat (first | exact Grew.refl _ | refine Grew.over ?_ _ | refine Grew.alloc ?_ _ | refine Grew.drew ?_ | refine Grew.drewN ?_ _))⟩
  case true =>
    have Hf := Lib.hid hf
    have hR := few_at hf HE.out HA.out
    have HR := Lib.hid hR
    obtain ⟨D, hD⟩ : ∃ D, delF N E A e = D := ⟨_, rfl⟩
    have hok := delF_ok (N := N) (e := e) hR.e1 hR.a1 hR.r1
    rw [hD] at hok
    have HD := Lib.hid hD
    have Hok := Lib.hid hok
    have hl1 := hok.e1
    have hl2 := hok.a1
    obtain ⟨g, hg⟩ : ∃ g, genusF N E A = g := ⟨_, rfl⟩
    obtain ⟨g', hg'⟩ : ∃ g', genusF D.N D.E D.A = g' := ⟨_, rfl⟩
    have Hg := Lib.hid hg
    have Hg' := Lib.hid hg'
    have hgg : D.err = 0 → g' ≤ g := by rw [← hg, ← hg']; exact hok.gen
    clear hf hR hD hok hg hg'
    obtain ⟨er, DN, DE, DA⟩ := D
    dsimp only at hgg hl1 hl2 Hok Hg'
    by_cases h0 : er = 0
    · subst h0
      have hle := hgg rfl
      clear hgg
      go_enter Tryd.func5, Tryd.ntmps5
      go_upto_region 5 with (first
        | (go_at_call 8; apply Calls.mono; (with_reducible exact few_e Hf.out (HE.out.grew (by (repeat (first | exact Grew.refl _ | refine Grew.over ?_ _ | refine Grew.alloc ?_ _ | refine Grew.drew ?_ | refine Grew.drewN ?_ _)))) (HA.out.grew (by (repeat (first | exact Grew.refl _ | refine Grew.over ?_ _ | refine Grew.alloc ?_ _ | refine Grew.drew ?_ | refine Grew.drewN ?_ _)))) rfl rfl); rintro e w' ⟨rfl, x1, rfl⟩)
        | (go_at_call 21; apply Calls.mono; (with_reducible exact delete_pe HD.out (HR.out.grew (by (repeat (first | exact Grew.refl _ | refine Grew.over ?_ _ | refine Grew.alloc ?_ _ | refine Grew.drew ?_ | refine Grew.drewN ?_ _)))) (HL.out.grew (by (repeat (first | exact Grew.refl _ | refine Grew.over ?_ _ | refine Grew.alloc ?_ _ | refine Grew.drew ?_ | refine Grew.drewN ?_ _)))) rfl rfl); rintro e w' ⟨⟨x2, rfl⟩, pD, qD, cD, dD, rfl, hP1, hM1⟩; have HR1 := Lib.hid (RotAt.mk hP1 hM1 Hok.out.e1 Hok.out.a1 Hok.out.r1); clear hP1 hM1)
        | (go_at_call 22; apply Calls.mono; (with_reducible exact delete_re HD.out (HR.out.grew (by (repeat (first | exact Grew.refl _ | refine Grew.over ?_ _ | refine Grew.alloc ?_ _ | refine Grew.drew ?_ | refine Grew.drewN ?_ _)))) rfl rfl); rintro e w' ⟨⟨x3, rfl⟩, pF, qF, cF, dF, rfl, hP2, hM2⟩; have HR2 := Lib.hid (RotAt.mk hP2 hM2 Hok.out.e1 Hok.out.a1 Hok.out.r1); clear hP2 hM2))
      refine wp_region_over (by kernel_rfl) (by kernel_rfl) ?_; (repeat (go_big_quiet_step (first
              | (go_at_call 16; apply over_call; with_reducible exact genus_re Hg'.out (HR1.out.grew (by (repeat (first | exact Grew.refl _ | refine Grew.over ?_ _ | refine Grew.alloc ?_ _ | refine Grew.drew ?_ | refine Grew.drewN ?_ _)))) rfl rfl)
              | (go_at_call 16; apply over_call; with_reducible exact genus_re Hg.out (HR.out.grew (by (repeat (first | exact Grew.refl _ | refine Grew.over ?_ _ | refine Grew.alloc ?_ _ | refine Grew.drew ?_ | refine Grew.drewN ?_ _)))) rfl rfl)))); refine wpQuiet_nil ?_; rintro _ ⟨x, rfl⟩
      go_wp2_with (first
        | (go_at_call 23; apply Calls.mono; (with_reducible exact exact_e _ _ _ _ _ _ _ _ _ _ _ _ _ _ _ _ (HR1.out.grew (by (repeat (first | exact Grew.refl _ | refine Grew.over ?_ _ | refine Grew.alloc ?_ _ | refine Grew.drew ?_ | refine Grew.drewN ?_ _)))) (HR2.out.grew (by (repeat (first | exact Grew.refl _ | refine Grew.over ?_ _ | refine Grew.alloc ?_ _ | refine Grew.drew ?_ | refine Grew.drewN ?_ _)))) rfl rfl rfl rfl); rintro e w' ⟨rfl, x5, rfl⟩)
        | (go_at_call 9; apply Calls.mono; (with_reducible exact awake_l _ (HL.out.grew (by (repeat (first | exact Grew.refl _ | refine Grew.over ?_ _ | refine Grew.alloc ?_ _ | refine Grew.drew ?_ | refine Grew.drewN ?_ _))))); rintro e w' ⟨rfl, x6, rfl⟩))
      go_ret
      exact ⟨rfl, by (repeat (first | exact Grew.refl _ | refine Grew.over ?_ _ | refine Grew.alloc ?_ _ | refine Grew.drew ?_ | refine Grew.drewN ?_ _))⟩
    · have h0' : (er == 0) = false := beq_eq_false_iff_ne.2 h0
      clear hgg h0
      go_enter Tryd.func5, Tryd.ntmps5
      go_upto_region 5 with (first
        | (go_at_call 8; apply Calls.mono; (with_reducible exact few_e Hf.out (HE.out.grew (by (repeat (first | exact Grew.refl _ | refine Grew.over ?_ _ | refine Grew.alloc ?_ _ | refine Grew.drew ?_ | refine Grew.drewN ?_ _)))) (HA.out.grew (by (repeat (first | exact Grew.refl _ | refine Grew.over ?_ _ | refine Grew.alloc ?_ _ | refine Grew.drew ?_ | refine Grew.drewN ?_ _)))) rfl rfl); rintro e w' ⟨rfl, x1, rfl⟩)
        | (go_at_call 21; apply Calls.mono; (with_reducible exact delete_pe HD.out (HR.out.grew (by (repeat (first | exact Grew.refl _ | refine Grew.over ?_ _ | refine Grew.alloc ?_ _ | refine Grew.drew ?_ | refine Grew.drewN ?_ _)))) (HL.out.grew (by (repeat (first | exact Grew.refl _ | refine Grew.over ?_ _ | refine Grew.alloc ?_ _ | refine Grew.drew ?_ | refine Grew.drewN ?_ _)))) rfl rfl); rintro e w' ⟨⟨x2, rfl⟩, pD, qD, cD, dD, rfl, hP1, hM1⟩; have HR1 := Lib.hid (RotAt.mk hP1 hM1 Hok.out.e1 Hok.out.a1 Hok.out.r1); clear hP1 hM1)
        | (go_at_call 22; apply Calls.mono; (with_reducible exact delete_re HD.out (HR.out.grew (by (repeat (first | exact Grew.refl _ | refine Grew.over ?_ _ | refine Grew.alloc ?_ _ | refine Grew.drew ?_ | refine Grew.drewN ?_ _)))) rfl rfl); rintro e w' ⟨⟨x3, rfl⟩, pF, qF, cF, dF, rfl, hP2, hM2⟩; have HR2 := Lib.hid (RotAt.mk hP2 hM2 Hok.out.e1 Hok.out.a1 Hok.out.r1); clear hP2 hM2))
      refine wp_region_over (by kernel_rfl) (by kernel_rfl) ?_; (repeat (go_big_quiet_step (fail))); refine wpQuiet_nil ?_; rintro _ ⟨x, rfl⟩
      go_wp2_with (first
        | (go_at_call 23; apply Calls.mono; (with_reducible exact exact_e _ _ _ _ _ _ _ _ _ _ _ _ _ _ _ _ (HR1.out.grew (by (repeat (first | exact Grew.refl _ | refine Grew.over ?_ _ | refine Grew.alloc ?_ _ | refine Grew.drew ?_ | refine Grew.drewN ?_ _)))) (HR2.out.grew (by (repeat (first | exact Grew.refl _ | refine Grew.over ?_ _ | refine Grew.alloc ?_ _ | refine Grew.drew ?_ | refine Grew.drewN ?_ _)))) rfl rfl rfl rfl); rintro e w' ⟨rfl, x5, rfl⟩)
        | (go_at_call 9; apply Calls.mono; (with_reducible exact awake_l _ (HL.out.grew (by (repeat (first | exact Grew.refl _ | refine Grew.over ?_ _ | refine Grew.alloc ?_ _ | refine Grew.drew ?_ | refine Grew.drewN ?_ _))))); rintro e w' ⟨rfl, x6, rfl⟩))
      go_ret
      exact ⟨rfl, by (repeat (first | exact Grew.refl _ | refine Grew.over ?_ _ | refine Grew.alloc ?_ _ | refine Grew.drew ?_ | refine Grew.drewN ?_ _))⟩
end Go.Proofs.YtcahceceeeaeoaaDoor
