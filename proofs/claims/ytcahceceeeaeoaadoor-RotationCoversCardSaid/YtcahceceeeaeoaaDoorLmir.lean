/- The law RotationMirrors: the walk. -/
import Derived.Test.YtcahceceeeaeoaaDoorMim
import Derived.Test.YtcahceceeeaeoaaDoorMis
import Derived.Test.YtcahceceeeaeoaaDoorSap
import Derived.Test.YtcahceceeeaeoaaDoorLdel
set_option linter.unusedSimpArgs false
set_option linter.unusedVariables false
namespace Go.Proofs.YtcahceceeeaeoaaDoor
open Go.RowKit
attribute [local go_sem ↓] Go.wp_at_zero Go.wp_at_succ

structure MirOK (N : Int) (E : List (Int × Int)) (A : List (List Int)) (D : Del) : Prop where
  e1 : D.E.length ≤ 100
  a1 : D.A.length ≤ 100
  r1 : ∀ v, v < D.A.length → (rowOf D.A v).length ≤ 100
  gen : vRotB N E A = true → genusF D.N D.E D.A = genusF N E A
theorem mirF_ok {N : Int} {E : List (Int × Int)} {A : List (List Int)} (he : E.length ≤ 100) (ha : A.length ≤ 100) (hr : ∀ v, v < A.length → (rowOf A v).length ≤ 100) : MirOK N E A (mirF N E A) := by
  by_cases hv : vRotB N E A = true
  · have : mirF N E A = ⟨0, N, E, A.map List.reverse⟩ := by unfold mirF; rw [if_pos hv]
    rw [this]
    refine ⟨he, by rw [List.length_map]; exact ha, fun v h => ?_, fun _ => mir_genus (vRotB_iff.1 hv)⟩
    show (rowOf (A.map List.reverse) v).length ≤ 100
    rw [rowOf_map List.reverse rfl, List.length_reverse]
    rw [List.length_map] at h
    exact hr v h
  · have : mirF N E A = ⟨0, 0, [], []⟩ := by unfold mirF; rw [if_neg hv]
    rw [this]
    exact ⟨by simp, by simp, fun v h => by simp at h, fun h => absurd h hv⟩
theorem mirror_pe {N : Int} {pE pA : Option Addr} {nE nA cE cA : Nat} {E : List (Int × Int)} {A : List (List Int)} {w : World} {D : Del} (h : mirF N E A = D) (hR : RotAt w pE pA E A) (hL : Lim w) (hnE : E.length = nE) (hnA : A.length = nA) :
    Calls Tryd.prog 24 #[.agg #[.int .i64 N, .slice pE nE cE, .slice pA nA cA]] w (RotPost1 D w) := h ▸ mirror_p N pE pA nE nA cE cA E A w hR hL hnE hnA
theorem mirror_re {N : Int} {pE pA : Option Addr} {nE nA cE cA : Nat} {E : List (Int × Int)} {A : List (List Int)} {w : World} {D : Del} (h : mirF N E A = D) (hR : RotAt w pE pA E A) (hc0 : pE = none → cE = 0) (hnE : E.length = nE) (hnA : A.length = nA) :
    Calls Tryd.prog 26 #[.agg #[.int .i64 N, .slice pE nE cE, .slice pA nA cA]] w (RotPost1 D w) := h ▸ mirror_r N pE pA nE nA cE cA E A w hR hc0 hnE hnA
theorem same_re {N N' : Int} {pE pA pE' pA' : Option Addr} {nE nA cE cA nE' nA' cE' cA' : Nat} {E E' : List (Int × Int)} {A A' : List (List Int)} {w : World} {r : Bool} (h : sameB N E A N' E' A' = r) (hR : RotAt w pE pA E A) (hR' : RotAt w pE' pA' E' A')
    (hnE : E.length = nE) (hnA : A.length = nA) (hnE' : E'.length = nE') (hnA' : A'.length = nA') :
    Calls Tryd.prog 28 #[.agg #[.int .i64 N, .slice pE nE cE, .slice pA nA cA], .agg #[.int .i64 N', .slice pE' nE' cE', .slice pA' nA' cA']] w fun e w' => e = .returned (.bool r) ∧ Grew w w' := h ▸ same_r N N' pE pA pE' pA' nE nA cE cA nE' nA' cE' cA' E E' A A' w hR hR' hnE hnA hnE' hnA'
theorem same_pe {N N' : Int} {pE pA pE' pA' : Option Addr} {nE nA cE cA nE' nA' cE' cA' : Nat} {E E' : List (Int × Int)} {A A' : List (List Int)} {w : World} {r : Bool} (h : sameB N E A N' E' A' = r) (hR : RotAt w pE pA E A) (hR' : RotAt w pE' pA' E' A') (hM : MatC w pA A) (hM' : MatC w pA' A')
    (hnE : E.length = nE) (hnA : A.length = nA) (hnE' : E'.length = nE') (hnA' : A'.length = nA') :
    Calls Tryd.prog 27 #[.agg #[.int .i64 N, .slice pE nE cE, .slice pA nA cA], .agg #[.int .i64 N', .slice pE' nE' cE', .slice pA' nA' cA']] w fun e w' => e = .returned (.bool r) ∧ Grew w w' := h ▸ same_p N N' pE pA pE' pA' nE nA cE cA nE' nA' cE' cA' E E' A A' w hR hR' hM hM' hnE hnA hnE' hnA'

set_option maxRecDepth 8000 in
set_option maxHeartbeats 16000000 in
theorem mirrorsL (N N' : Int) (pE pA pE' pA' : Option Addr) (nE nA cE cA nE' nA' cE' cA' : Nat) (E E' : List (Int × Int)) (A A' : List (List Int)) (w : World) (hE : Prs w pE E) (hM : MatC w pA A) (hE' : Prs w pE' E') (hM' : MatC w pA' A') (hc0 : pE = none → cE = 0) (hL : Lim w)
    (hnE : E.length = nE) (hnA : A.length = nA) (hnE' : E'.length = nE') (hnA' : A'.length = nA') :
    Calls Tryd.prog 7 #[.agg #[.int .i64 N, .slice pE nE cE, .slice pA nA cA], .agg #[.int .i64 N', .slice pE' nE' cE', .slice pA' nA' cA']] w fun e w' => e = .returned (.bool true) ∧ Grew w w' := by
  subst hnE hnA hnE' hnA'
  have HE := Lib.hid hE
  have HM := Lib.hid hM
  have HE' := Lib.hid hE'
  have HM' := Lib.hid hM'
  have HL := Lib.hid hL
  have Hc0 := Lib.hid hc0
  clear hE hM hE' hM' hL hc0
  cases hf : fewB E A
  case false =>
    have Hf := Lib.hid hf
    clear hf
    go_enter Tryd.func7, Tryd.ntmps7
    go_wp2_with (first
      | (go_at_call 8; apply Calls.mono; (with_reducible exact few_e Hf.out (HE.out.grew (by (repeat (first | exact Grew.refl _ | refine Grew.over ?_ _ | refine Grew.alloc ?_ _ | refine Grew.drew ?_ | refine Grew.drewN ?_ _)))) (HM.out.mat.grew (by (repeat (first | exact Grew.refl _ | refine Grew.over ?_ _ | refine Grew.alloc ?_ _ | refine Grew.drew ?_ | refine Grew.drewN ?_ _)))) rfl rfl); rintro e w' ⟨rfl, x1, rfl⟩)
      | (go_at_call 9; apply Calls.mono; (with_reducible exact awake_l _ (HL.out.grew (by (repeat (first | exact Grew.refl _ | refine Grew.over ?_ _ | refine Grew.alloc ?_ _ | refine Grew.drew ?_ | refine Grew.drewN ?_ _))))); rintro e w' ⟨rfl, x2, rfl⟩))
    go_ret
    exact ⟨rfl, by (repeat (first | exact Grew.refl _ | refine Grew.over ?_ _ | refine Grew.alloc ?_ _ | refine Grew.drew ?_ | refine Grew.drewN ?_ _))⟩
  cases hf' : fewB E' A'
  case false =>
    have Hf := Lib.hid hf
    have Hf' := Lib.hid hf'
    clear hf hf'
    go_enter Tryd.func7, Tryd.ntmps7
    go_wp2_with (first
      | (go_at_call 8; apply Calls.mono; (with_reducible exact few_e Hf.out (HE.out.grew (by (repeat (first | exact Grew.refl _ | refine Grew.over ?_ _ | refine Grew.alloc ?_ _ | refine Grew.drew ?_ | refine Grew.drewN ?_ _)))) (HM.out.mat.grew (by (repeat (first | exact Grew.refl _ | refine Grew.over ?_ _ | refine Grew.alloc ?_ _ | refine Grew.drew ?_ | refine Grew.drewN ?_ _)))) rfl rfl); rintro e w' ⟨rfl, x1, rfl⟩)
      | (go_at_call 8; apply Calls.mono; (with_reducible exact few_e Hf'.out (HE'.out.grew (by (repeat (first | exact Grew.refl _ | refine Grew.over ?_ _ | refine Grew.alloc ?_ _ | refine Grew.drew ?_ | refine Grew.drewN ?_ _)))) (HM'.out.mat.grew (by (repeat (first | exact Grew.refl _ | refine Grew.over ?_ _ | refine Grew.alloc ?_ _ | refine Grew.drew ?_ | refine Grew.drewN ?_ _)))) rfl rfl); rintro e w' ⟨rfl, x3, rfl⟩)
      | (go_at_call 9; apply Calls.mono; (with_reducible exact awake_l _ (HL.out.grew (by (repeat (first | exact Grew.refl _ | refine Grew.over ?_ _ | refine Grew.alloc ?_ _ | refine Grew.drew ?_ | refine Grew.drewN ?_ _))))); rintro e w' ⟨rfl, x2, rfl⟩))
    go_ret
    exact ⟨rfl, by (repeat (first | exact Grew.refl _ | refine Grew.over ?_ _ | refine Grew.alloc ?_ _ | refine Grew.drew ?_ | refine Grew.drewN ?_ _))⟩
  have Hf := Lib.hid hf
  have Hf' := Lib.hid hf'
  have hR := few_at hf HE.out HM.out.mat
  have HR := Lib.hid hR
  have HR' := Lib.hid (few_at hf' HE'.out HM'.out.mat)
  obtain ⟨D, hD⟩ : ∃ D, mirF N E A = D := ⟨_, rfl⟩
  have hok := mirF_ok (N := N) hR.e1 hR.a1 hR.r1
  rw [hD] at hok
  have HD := Lib.hid hD
  have Hok := Lib.hid hok
  obtain ⟨g, hg⟩ : ∃ g, genusF N E A = g := ⟨_, rfl⟩
  obtain ⟨sb, hsb⟩ : ∃ sb, sameB N E A N' E' A' = sb := ⟨_, rfl⟩
  have Hg := Lib.hid hg
  have Hsb := Lib.hid hsb
  have Hsb2 : Hid (sameB N' E' A' N E A = sb) := Lib.hid (by rw [sameB_symm]; exact hsb)
  have Hsb3 : Hid (sameB N E A N E A = true) := Lib.hid (sameB_yes (sameP_refl N E A))
  obtain ⟨vb, hvb⟩ : ∃ vb, vRotB N E A = vb := ⟨_, rfl⟩
  have Hvb := Lib.hid hvb
  have hgen := hok.gen
  rw [hvb, hg] at hgen
  have Hgen := Lib.hid hgen
  clear hf hf' hR hD hok hg hsb hvb hgen
  obtain ⟨er, DN, DE, DA⟩ := D
  dsimp only at Hgen Hok
  go_enter Tryd.func7, Tryd.ntmps7
  go_upto_region 4 with (first
    | (go_at_call 8; apply Calls.mono; (with_reducible exact few_e Hf.out (HE.out.grew (by (repeat (first | exact Grew.refl _ | refine Grew.over ?_ _ | refine Grew.alloc ?_ _ | refine Grew.drew ?_ | refine Grew.drewN ?_ _)))) (HM.out.mat.grew (by (repeat (first | exact Grew.refl _ | refine Grew.over ?_ _ | refine Grew.alloc ?_ _ | refine Grew.drew ?_ | refine Grew.drewN ?_ _)))) rfl rfl); rintro e w' ⟨rfl, x1, rfl⟩)
    | (go_at_call 8; apply Calls.mono; (with_reducible exact few_e Hf'.out (HE'.out.grew (by (repeat (first | exact Grew.refl _ | refine Grew.over ?_ _ | refine Grew.alloc ?_ _ | refine Grew.drew ?_ | refine Grew.drewN ?_ _)))) (HM'.out.mat.grew (by (repeat (first | exact Grew.refl _ | refine Grew.over ?_ _ | refine Grew.alloc ?_ _ | refine Grew.drew ?_ | refine Grew.drewN ?_ _)))) rfl rfl); rintro e w' ⟨rfl, x3, rfl⟩)
    | (go_at_call 24; apply Calls.mono; (with_reducible exact mirror_pe HD.out (HR.out.grew (by (repeat (first | exact Grew.refl _ | refine Grew.over ?_ _ | refine Grew.alloc ?_ _ | refine Grew.drew ?_ | refine Grew.drewN ?_ _)))) (HL.out.grew (by (repeat (first | exact Grew.refl _ | refine Grew.over ?_ _ | refine Grew.alloc ?_ _ | refine Grew.drew ?_ | refine Grew.drewN ?_ _)))) rfl rfl); rintro e w3 ⟨hg3, pD, qD, cD, dD, rfl, hP1, hM1⟩; have HR1 := Lib.hid (RotAt.mk hP1 hM1 Hok.out.e1 Hok.out.a1 Hok.out.r1); have Hg3 : Hid (Grew w w3) := Lib.hid (Grew.trans (by (repeat (first | exact Grew.refl _ | refine Grew.over ?_ _ | refine Grew.alloc ?_ _ | refine Grew.drew ?_ | refine Grew.drewN ?_ _))) hg3); have hs3 := hg3.below.size; simp at hs3;
       have r0 : w3.cell? ⟨w.heap.size, 0, none⟩ = some (.int .i64 N) := hg3.cellEq (by first | (go_simp; done) | (simp [go_sem, ↓IntWalk.iteOmega, *]; done));
       have r1 : w3.cell? ⟨w.heap.size, 1, none⟩ = some (.slice pE E.length cE) := hg3.cellEq (by first | (go_simp; done) | (simp [go_sem, ↓IntWalk.iteOmega, *]; done));
       have r2 : w3.cell? ⟨w.heap.size, 2, none⟩ = some (.slice pA A.length cA) := hg3.cellEq (by first | (go_simp; done) | (simp [go_sem, ↓IntWalk.iteOmega, *]; done));
       have r3 : w3.cell? ⟨w.heap.size + 1, 0, none⟩ = some (.int .i64 N') := hg3.cellEq (by first | (go_simp; done) | (simp [go_sem, ↓IntWalk.iteOmega, *]; done));
       have r4 : w3.cell? ⟨w.heap.size + 1, 1, none⟩ = some (.slice pE' E'.length cE') := hg3.cellEq (by first | (go_simp; done) | (simp [go_sem, ↓IntWalk.iteOmega, *]; done));
       have r5 : w3.cell? ⟨w.heap.size + 1, 2, none⟩ = some (.slice pA' A'.length cA') := hg3.cellEq (by first | (go_simp; done) | (simp [go_sem, ↓IntWalk.iteOmega, *]; done));
       clear hP1 hM1 hg3))
  cases vb
  · refine wp_region_over (by kernel_rfl) (by kernel_rfl) ?_; (repeat (go_big_quiet_step ((go_at_call 11; apply over_call; with_reducible exact valid_re Hvb.out (HR.out.grew (Hg3.out.trans (by (repeat (first | exact Grew.refl _ | refine Grew.over ?_ _ | refine Grew.alloc ?_ _ | refine Grew.drew ?_ | refine Grew.drewN ?_ _))))) rfl rfl)))); refine wpQuiet_nil ?_; rintro _ ⟨x, rfl⟩
    go_upto_region 6 with fail
    obtain ⟨W4, hW4⟩ : ∃ W4, over (w3.alloc (.cells #[.int .i64 DN, .slice pD DE.length cD, .slice qD DA.length dD] 25)) x = W4 := ⟨_, rfl⟩
    have hg4 : Grew w3 W4 := by rw [← hW4]; (repeat (first | exact Grew.refl _ | refine Grew.over ?_ _ | refine Grew.alloc ?_ _ | refine Grew.drew ?_ | refine Grew.drewN ?_ _))
    have hs4 : w3.heap.size < W4.heap.size := World.block_lt_of_cell? W4 _ (show W4.cell? ⟨w3.heap.size, 0, none⟩ = some (.int .i64 DN) by rw [← hW4]; (simp [go_sem, ↓IntWalk.iteOmega]))
    have q0 := hg4.cellEq r0
    have q1 := hg4.cellEq r1
    have q2 := hg4.cellEq r2
    have q3 := hg4.cellEq r3
    have q4 := hg4.cellEq r4
    have q5 := hg4.cellEq r5
    have q6 : W4.cell? ⟨w3.heap.size, 0, none⟩ = some (.int .i64 DN) := by rw [← hW4]; (simp [go_sem, ↓IntWalk.iteOmega])
    have q7 : W4.cell? ⟨w3.heap.size, 1, none⟩ = some (.slice pD DE.length cD) := by rw [← hW4]; (simp [go_sem, ↓IntWalk.iteOmega])
    have q8 : W4.cell? ⟨w3.heap.size, 2, none⟩ = some (.slice qD DA.length dD) := by rw [← hW4]; (simp [go_sem, ↓IntWalk.iteOmega])
    have Hg4 : Hid (Grew w W4) := Lib.hid (Hg3.out.trans hg4)
    have HR4 := Lib.hid (HR1.out.grew hg4)
    rw [hW4]
    clear hW4 hg4 r0 r1 r2 r3 r4 r5
    go_region_held (fun w' => w'.cell? ⟨w.heap.size, 0, none⟩ = some (.int .i64 N) ∧ w'.cell? ⟨w.heap.size, 1, none⟩ = some (.slice pE E.length cE) ∧ w'.cell? ⟨w.heap.size, 2, none⟩ = some (.slice pA A.length cA) ∧
        w'.cell? ⟨w.heap.size + 1, 0, none⟩ = some (.int .i64 N') ∧ w'.cell? ⟨w.heap.size + 1, 1, none⟩ = some (.slice pE' E'.length cE') ∧ w'.cell? ⟨w.heap.size + 1, 2, none⟩ = some (.slice pA' A'.length cA') ∧
        w'.cell? ⟨w3.heap.size, 0, none⟩ = some (.int .i64 DN) ∧ w'.cell? ⟨w3.heap.size, 1, none⟩ = some (.slice pD DE.length cD) ∧ w'.cell? ⟨w3.heap.size, 2, none⟩ = some (.slice qD DA.length dD)) (first | (simp [go_sem, ↓IntWalk.iteOmega, *]; done) | go_keep) (first
      | (go_at_call 26; apply Calls.mono; (with_reducible exact mirror_re HD.out (HR.out.grew (Hg4.out.trans (by (repeat (first | exact Grew.refl _ | refine Grew.over ?_ _ | refine Grew.alloc ?_ _ | refine Grew.drew ?_ | refine Grew.drewN ?_ _))))) Hc0.out rfl rfl); rintro e w' ⟨⟨x5, rfl⟩, pF, qF, cF, dF, rfl, hP2, hM2⟩; have HR2 := Lib.hid (RotAt.mk hP2 hM2 Hok.out.e1 Hok.out.a1 Hok.out.r1); clear hP2 hM2)
      | (go_at_call 23; apply Calls.mono; (with_reducible exact exact_e _ _ _ _ _ _ _ _ _ _ _ _ _ _ _ _ (HR4.out.grew (by (repeat (first | exact Grew.refl _ | refine Grew.over ?_ _ | refine Grew.alloc ?_ _ | refine Grew.drew ?_ | refine Grew.drewN ?_ _)))) (HR2.out.grew (by (repeat (first | exact Grew.refl _ | refine Grew.over ?_ _ | refine Grew.alloc ?_ _ | refine Grew.drew ?_ | refine Grew.drewN ?_ _)))) rfl rfl rfl rfl); rintro e w' ⟨rfl, x6, rfl⟩)
      | (go_at_call 27; apply Calls.mono; (with_reducible exact same_pe Hsb.out (HR.out.grew (Hg4.out.trans (by (repeat (first | exact Grew.refl _ | refine Grew.over ?_ _ | refine Grew.alloc ?_ _ | refine Grew.drew ?_ | refine Grew.drewN ?_ _))))) (HR'.out.grew (Hg4.out.trans (by (repeat (first | exact Grew.refl _ | refine Grew.over ?_ _ | refine Grew.alloc ?_ _ | refine Grew.drew ?_ | refine Grew.drewN ?_ _))))) (HM.out.grew (Hg4.out.trans (by (repeat (first | exact Grew.refl _ | refine Grew.over ?_ _ | refine Grew.alloc ?_ _ | refine Grew.drew ?_ | refine Grew.drewN ?_ _))))) (HM'.out.grew (Hg4.out.trans (by (repeat (first | exact Grew.refl _ | refine Grew.over ?_ _ | refine Grew.alloc ?_ _ | refine Grew.drew ?_ | refine Grew.drewN ?_ _))))) rfl rfl rfl rfl); rintro e w' ⟨rfl, x7, rfl⟩)
      | (go_at_call 27; apply Calls.mono; (with_reducible exact same_pe Hsb2.out (HR'.out.grew (Hg4.out.trans (by (repeat (first | exact Grew.refl _ | refine Grew.over ?_ _ | refine Grew.alloc ?_ _ | refine Grew.drew ?_ | refine Grew.drewN ?_ _))))) (HR.out.grew (Hg4.out.trans (by (repeat (first | exact Grew.refl _ | refine Grew.over ?_ _ | refine Grew.alloc ?_ _ | refine Grew.drew ?_ | refine Grew.drewN ?_ _))))) (HM'.out.grew (Hg4.out.trans (by (repeat (first | exact Grew.refl _ | refine Grew.over ?_ _ | refine Grew.alloc ?_ _ | refine Grew.drew ?_ | refine Grew.drewN ?_ _))))) (HM.out.grew (Hg4.out.trans (by (repeat (first | exact Grew.refl _ | refine Grew.over ?_ _ | refine Grew.alloc ?_ _ | refine Grew.drew ?_ | refine Grew.drewN ?_ _))))) rfl rfl rfl rfl); rintro e w' ⟨rfl, x8, rfl⟩)
      | (go_at_call 27; apply Calls.mono; (with_reducible exact same_pe Hsb3.out (HR.out.grew (Hg4.out.trans (by (repeat (first | exact Grew.refl _ | refine Grew.over ?_ _ | refine Grew.alloc ?_ _ | refine Grew.drew ?_ | refine Grew.drewN ?_ _))))) (HR.out.grew (Hg4.out.trans (by (repeat (first | exact Grew.refl _ | refine Grew.over ?_ _ | refine Grew.alloc ?_ _ | refine Grew.drew ?_ | refine Grew.drewN ?_ _))))) (HM.out.grew (Hg4.out.trans (by (repeat (first | exact Grew.refl _ | refine Grew.over ?_ _ | refine Grew.alloc ?_ _ | refine Grew.drew ?_ | refine Grew.drewN ?_ _))))) (HM.out.grew (Hg4.out.trans (by (repeat (first | exact Grew.refl _ | refine Grew.over ?_ _ | refine Grew.alloc ?_ _ | refine Grew.drew ?_ | refine Grew.drewN ?_ _))))) rfl rfl rfl rfl); rintro e w' ⟨rfl, x9, rfl⟩)
      | (go_at_call 28; apply Calls.mono; (with_reducible exact same_re Hsb.out (HR.out.grew (Hg4.out.trans (by (repeat (first | exact Grew.refl _ | refine Grew.over ?_ _ | refine Grew.alloc ?_ _ | refine Grew.drew ?_ | refine Grew.drewN ?_ _))))) (HR'.out.grew (Hg4.out.trans (by (repeat (first | exact Grew.refl _ | refine Grew.over ?_ _ | refine Grew.alloc ?_ _ | refine Grew.drew ?_ | refine Grew.drewN ?_ _))))) rfl rfl rfl rfl); rintro e w' ⟨rfl, x10, rfl⟩)
      | (go_at_call 9; apply Calls.mono; (with_reducible exact awake_l _ (HL.out.grew (Hg4.out.trans (by (repeat (first | exact Grew.refl _ | refine Grew.over ?_ _ | refine Grew.alloc ?_ _ | refine Grew.drew ?_ | refine Grew.drewN ?_ _)))))); rintro e w' ⟨rfl, x11, rfl⟩))
    go_wp2_with fail
    go_ret
    exact ⟨rfl, Hg4.out.trans (by (repeat (first | exact Grew.refl _ | refine Grew.over ?_ _ | refine Grew.alloc ?_ _ | refine Grew.drew ?_ | refine Grew.drewN ?_ _)))⟩
  · have Hg' := Lib.hid (Hgen.out rfl)
    refine wp_region_over (by kernel_rfl) (by kernel_rfl) ?_; (repeat (go_big_quiet_step (first
          | (go_at_call 11; apply over_call; with_reducible exact valid_re Hvb.out (HR.out.grew (Hg3.out.trans (by (repeat (first | exact Grew.refl _ | refine Grew.over ?_ _ | refine Grew.alloc ?_ _ | refine Grew.drew ?_ | refine Grew.drewN ?_ _))))) rfl rfl)
          | (go_at_call 15; apply over_call; with_reducible exact genus_pe Hg'.out (HR1.out.grew (by (repeat (first | exact Grew.refl _ | refine Grew.over ?_ _ | refine Grew.alloc ?_ _ | refine Grew.drew ?_ | refine Grew.drewN ?_ _)))) (HL.out.grew (Hg3.out.trans (by (repeat (first | exact Grew.refl _ | refine Grew.over ?_ _ | refine Grew.alloc ?_ _ | refine Grew.drew ?_ | refine Grew.drewN ?_ _))))) rfl rfl)
          | (go_at_call 15; apply over_call; with_reducible exact genus_pe Hg.out (HR.out.grew (Hg3.out.trans (by (repeat (first | exact Grew.refl _ | refine Grew.over ?_ _ | refine Grew.alloc ?_ _ | refine Grew.drew ?_ | refine Grew.drewN ?_ _))))) (HL.out.grew (Hg3.out.trans (by (repeat (first | exact Grew.refl _ | refine Grew.over ?_ _ | refine Grew.alloc ?_ _ | refine Grew.drew ?_ | refine Grew.drewN ?_ _))))) rfl rfl)))); refine wpQuiet_nil ?_; rintro _ ⟨x, rfl⟩
    go_upto_region 6 with fail
    obtain ⟨W4, hW4⟩ : ∃ W4, over (w3.alloc (.cells #[.int .i64 DN, .slice pD DE.length cD, .slice qD DA.length dD] 25)) x = W4 := ⟨_, rfl⟩
    have hg4 : Grew w3 W4 := by rw [← hW4]; (repeat (first | exact Grew.refl _ | refine Grew.over ?_ _ | refine Grew.alloc ?_ _ | refine Grew.drew ?_ | refine Grew.drewN ?_ _))
    have hs4 : w3.heap.size < W4.heap.size := World.block_lt_of_cell? W4 _ (show W4.cell? ⟨w3.heap.size, 0, none⟩ = some (.int .i64 DN) by rw [← hW4]; (simp [go_sem, ↓IntWalk.iteOmega]))
    have q0 := hg4.cellEq r0
    have q1 := hg4.cellEq r1
    have q2 := hg4.cellEq r2
    have q3 := hg4.cellEq r3
    have q4 := hg4.cellEq r4
    have q5 := hg4.cellEq r5
    have q6 : W4.cell? ⟨w3.heap.size, 0, none⟩ = some (.int .i64 DN) := by rw [← hW4]; (simp [go_sem, ↓IntWalk.iteOmega])
    have q7 : W4.cell? ⟨w3.heap.size, 1, none⟩ = some (.slice pD DE.length cD) := by rw [← hW4]; (simp [go_sem, ↓IntWalk.iteOmega])
    have q8 : W4.cell? ⟨w3.heap.size, 2, none⟩ = some (.slice qD DA.length dD) := by rw [← hW4]; (simp [go_sem, ↓IntWalk.iteOmega])
    have Hg4 : Hid (Grew w W4) := Lib.hid (Hg3.out.trans hg4)
    have HR4 := Lib.hid (HR1.out.grew hg4)
    rw [hW4]
    clear hW4 hg4 r0 r1 r2 r3 r4 r5
    go_region_held (fun w' => w'.cell? ⟨w.heap.size, 0, none⟩ = some (.int .i64 N) ∧ w'.cell? ⟨w.heap.size, 1, none⟩ = some (.slice pE E.length cE) ∧ w'.cell? ⟨w.heap.size, 2, none⟩ = some (.slice pA A.length cA) ∧
        w'.cell? ⟨w.heap.size + 1, 0, none⟩ = some (.int .i64 N') ∧ w'.cell? ⟨w.heap.size + 1, 1, none⟩ = some (.slice pE' E'.length cE') ∧ w'.cell? ⟨w.heap.size + 1, 2, none⟩ = some (.slice pA' A'.length cA') ∧
        w'.cell? ⟨w3.heap.size, 0, none⟩ = some (.int .i64 DN) ∧ w'.cell? ⟨w3.heap.size, 1, none⟩ = some (.slice pD DE.length cD) ∧ w'.cell? ⟨w3.heap.size, 2, none⟩ = some (.slice qD DA.length dD)) (first | (simp [go_sem, ↓IntWalk.iteOmega, *]; done) | go_keep) (first
      | (go_at_call 26; apply Calls.mono; (with_reducible exact mirror_re HD.out (HR.out.grew (Hg4.out.trans (by (repeat (first | exact Grew.refl _ | refine Grew.over ?_ _ | refine Grew.alloc ?_ _ | refine Grew.drew ?_ | refine Grew.drewN ?_ _))))) Hc0.out rfl rfl); rintro e w' ⟨⟨x5, rfl⟩, pF, qF, cF, dF, rfl, hP2, hM2⟩; have HR2 := Lib.hid (RotAt.mk hP2 hM2 Hok.out.e1 Hok.out.a1 Hok.out.r1); clear hP2 hM2)
      | (go_at_call 23; apply Calls.mono; (with_reducible exact exact_e _ _ _ _ _ _ _ _ _ _ _ _ _ _ _ _ (HR4.out.grew (by (repeat (first | exact Grew.refl _ | refine Grew.over ?_ _ | refine Grew.alloc ?_ _ | refine Grew.drew ?_ | refine Grew.drewN ?_ _)))) (HR2.out.grew (by (repeat (first | exact Grew.refl _ | refine Grew.over ?_ _ | refine Grew.alloc ?_ _ | refine Grew.drew ?_ | refine Grew.drewN ?_ _)))) rfl rfl rfl rfl); rintro e w' ⟨rfl, x6, rfl⟩)
      | (go_at_call 27; apply Calls.mono; (with_reducible exact same_pe Hsb.out (HR.out.grew (Hg4.out.trans (by (repeat (first | exact Grew.refl _ | refine Grew.over ?_ _ | refine Grew.alloc ?_ _ | refine Grew.drew ?_ | refine Grew.drewN ?_ _))))) (HR'.out.grew (Hg4.out.trans (by (repeat (first | exact Grew.refl _ | refine Grew.over ?_ _ | refine Grew.alloc ?_ _ | refine Grew.drew ?_ | refine Grew.drewN ?_ _))))) (HM.out.grew (Hg4.out.trans (by (repeat (first | exact Grew.refl _ | refine Grew.over ?_ _ | refine Grew.alloc ?_ _ | refine Grew.drew ?_ | refine Grew.drewN ?_ _))))) (HM'.out.grew (Hg4.out.trans (by (repeat (first | exact Grew.refl _ | refine Grew.over ?_ _ | refine Grew.alloc ?_ _ | refine Grew.drew ?_ | refine Grew.drewN ?_ _))))) rfl rfl rfl rfl); rintro e w' ⟨rfl, x7, rfl⟩)
      | (go_at_call 27; apply Calls.mono; (with_reducible exact same_pe Hsb2.out (HR'.out.grew (Hg4.out.trans (by (repeat (first | exact Grew.refl _ | refine Grew.over ?_ _ | refine Grew.alloc ?_ _ | refine Grew.drew ?_ | refine Grew.drewN ?_ _))))) (HR.out.grew (Hg4.out.trans (by (repeat (first | exact Grew.refl _ | refine Grew.over ?_ _ | refine Grew.alloc ?_ _ | refine Grew.drew ?_ | refine Grew.drewN ?_ _))))) (HM'.out.grew (Hg4.out.trans (by (repeat (first | exact Grew.refl _ | refine Grew.over ?_ _ | refine Grew.alloc ?_ _ | refine Grew.drew ?_ | refine Grew.drewN ?_ _))))) (HM.out.grew (Hg4.out.trans (by (repeat (first | exact Grew.refl _ | refine Grew.over ?_ _ | refine Grew.alloc ?_ _ | refine Grew.drew ?_ | refine Grew.drewN ?_ _))))) rfl rfl rfl rfl); rintro e w' ⟨rfl, x8, rfl⟩)
      | (go_at_call 27; apply Calls.mono; (with_reducible exact same_pe Hsb3.out (HR.out.grew (Hg4.out.trans (by (repeat (first | exact Grew.refl _ | refine Grew.over ?_ _ | refine Grew.alloc ?_ _ | refine Grew.drew ?_ | refine Grew.drewN ?_ _))))) (HR.out.grew (Hg4.out.trans (by (repeat (first | exact Grew.refl _ | refine Grew.over ?_ _ | refine Grew.alloc ?_ _ | refine Grew.drew ?_ | refine Grew.drewN ?_ _))))) (HM.out.grew (Hg4.out.trans (by (repeat (first | exact Grew.refl _ | refine Grew.over ?_ _ | refine Grew.alloc ?_ _ | refine Grew.drew ?_ | refine Grew.drewN ?_ _))))) (HM.out.grew (Hg4.out.trans (by (repeat (first | exact Grew.refl _ | refine Grew.over ?_ _ | refine Grew.alloc ?_ _ | refine Grew.drew ?_ | refine Grew.drewN ?_ _))))) rfl rfl rfl rfl); rintro e w' ⟨rfl, x9, rfl⟩)
      | (go_at_call 28; apply Calls.mono; (with_reducible exact same_re Hsb.out (HR.out.grew (Hg4.out.trans (by (repeat (first | exact Grew.refl _ | refine Grew.over ?_ _ | refine Grew.alloc ?_ _ | refine Grew.drew ?_ | refine Grew.drewN ?_ _))))) (HR'.out.grew (Hg4.out.trans (by (repeat (first | exact Grew.refl _ | refine Grew.over ?_ _ | refine Grew.alloc ?_ _ | refine Grew.drew ?_ | refine Grew.drewN ?_ _))))) rfl rfl rfl rfl); rintro e w' ⟨rfl, x10, rfl⟩)
      | (go_at_call 9; apply Calls.mono; (with_reducible exact awake_l _ (HL.out.grew (Hg4.out.trans (by (repeat (first | exact Grew.refl _ | refine Grew.over ?_ _ | refine Grew.alloc ?_ _ | refine Grew.drew ?_ | refine Grew.drewN ?_ _)))))); rintro e w' ⟨rfl, x11, rfl⟩))
    go_wp2_with fail
    go_ret
    exact ⟨rfl, Hg4.out.trans (by (repeat (first | exact Grew.refl _ | refine Grew.over ?_ _ | refine Grew.alloc ?_ _ | refine Grew.drew ?_ | refine Grew.drewN ?_ _)))⟩
end Go.Proofs.YtcahceceeeaeoaaDoor
