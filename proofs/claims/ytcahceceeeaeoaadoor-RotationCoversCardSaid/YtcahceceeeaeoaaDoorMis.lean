/- Mirror of the reference. -/
import Derived.Test.YtcahceceeeaeoaaDoorMir
import Derived.Deep.DeepCutAuto
set_option linter.unusedSimpArgs false
set_option linter.unusedVariables false
namespace Go.Proofs.YtcahceceeeaeoaaDoor
open Go.RowKit
attribute [local go_sem ↓] Go.wp_at_zero Go.wp_at_succ

set_option maxRecDepth 8000 in
set_option maxHeartbeats 16000000 in
theorem mirror_r (N : Int) (pE pA : Option Addr) (nE nA cE cA : Nat) (E : List (Int × Int)) (A : List (List Int)) (w : World) (hR : RotAt w pE pA E A) (hc0 : pE = none → cE = 0) (hnE : E.length = nE) (hnA : A.length = nA) :
    Calls Tryd.prog 26 #[.agg #[.int .i64 N, .slice pE nE cE, .slice pA nA cA]] w (RotPost1 (mirF N E A) w) := by
  subst hnE hnA
  have he1 := hR.e1
  have ha1 := hR.a1
  have HR := Lib.hid hR
  cases hv : vRotB N E A
  case false =>
    have Hf : Hid (mirF N E A = ⟨0, 0, [], []⟩) := Lib.hid (by unfold mirF; simp [hv])
    have Hv := Lib.hid hv
    clear hv hR
    go_enter Tryd.func26, Tryd.ntmps26
    go_wp2_with (go_at_call 11; apply Calls.mono; (with_reducible exact valid_re Hv.out (HR.out.grew (by (repeat (first | exact Grew.refl _ | refine Grew.over ?_ _ | refine Grew.alloc ?_ _ | refine Grew.drew ?_ | refine Grew.drewN ?_ _)))) rfl rfl); rintro e w' ⟨rfl, x, rfl⟩)
    (try simp only [Exit.inBlock, Exit.then])
    refine ret_rot1 rfl rfl (by rw [heap_over, if_pos (by simp)]; exact heap_alloc2_new w _ _) rfl ?_
    rw [Hf.out]
    exact ⟨by (repeat (first | exact Grew.refl _ | refine Grew.over ?_ _ | refine Grew.alloc ?_ _ | refine Grew.drew ?_ | refine Grew.drewN ?_ _)), none, none, 0, 0, rfl, ⟨by simp, 0, 0, fun h => by simp at h, fun i hi => by simp at hi⟩, Mat.nil _ _⟩
  case true =>
  have Hv := Lib.hid hv
  have hV := vRotB_iff.1 hv
  have HV := Lib.hid hV
  have hN : N = A.length := hV.al.symm
  subst hN
  have Hf : Hid (mirF A.length E A = ⟨0, A.length, E, A.map List.reverse⟩) := Lib.hid (by unfold mirF; rw [if_pos hv])
  have HE := Lib.hid hR.hE
  clear hv hR hV
  go_enter Tryd.func26, Tryd.ntmps26
  go_upto_region 3 with (go_at_call 11; apply Calls.mono; (with_reducible exact valid_re Hv.out (HR.out.grew (by (repeat (first | exact Grew.refl _ | refine Grew.over ?_ _ | refine Grew.alloc ?_ _ | refine Grew.drew ?_ | refine Grew.drewN ?_ _)))) rfl rfl); rintro e w' ⟨rfl, x, rfl⟩)
  obtain ⟨wB, hwB⟩ : ∃ wB, (w.alloc (.cells #[.int .i64 A.length, .slice pE E.length cE, .slice pA A.length cA] 25)).alloc (.cells #[.int .i64 0, .slice none 0 0, .slice none 0 0] 25) = wB := ⟨_, rfl⟩
  obtain ⟨wz, hwz⟩ : ∃ wz, over ((w.alloc (.cells #[.int .i64 A.length, .slice pE E.length cE, .slice pA A.length cA] 25)).alloc (.cells #[.int .i64 0, .slice none 0 0, .slice none 0 0] 25)) x = wz := ⟨_, rfl⟩
  have HwB : Hid (Grew w wB) := Lib.hid (by rw [← hwB]; (repeat (first | exact Grew.refl _ | refine Grew.over ?_ _ | refine Grew.alloc ?_ _ | refine Grew.drew ?_ | refine Grew.drewN ?_ _)))
  have hsB : wB.heap.size = w.heap.size + 2 := by rw [← hwB]; simp
  have b0 : wB.cell? ⟨w.heap.size, 0, none⟩ = some (.int .i64 A.length) := by rw [← hwB]; simp [go_sem]
  have b1 : wB.cell? ⟨w.heap.size, 1, none⟩ = some (.slice pE E.length cE) := by rw [← hwB]; simp [go_sem]
  have b2 : wB.cell? ⟨w.heap.size, 2, none⟩ = some (.slice pA A.length cA) := by rw [← hwB]; simp [go_sem]
  have bh : wB.heap[w.heap.size + 1]? = some (.cells #[.int .i64 0, .slice none 0 0, .slice none 0 0] 25) := by rw [← hwB]; exact heap_alloc2_new w _ _
  have Hgz : Hid (Grew wB wz) := Lib.hid (by rw [← hwz, ← hwB]; (repeat (first | exact Grew.refl _ | refine Grew.over ?_ _ | refine Grew.alloc ?_ _ | refine Grew.drew ?_ | refine Grew.drewN ?_ _)))
  rw [hwz]
  have z0 := Hgz.out.cellEq b0
  have z1 := Hgz.out.cellEq b1
  have Hb0 := Lib.hid b0
  have Hb2 := Lib.hid b2
  have Hbh := Lib.hid bh
  have hsz := Hgz.out.below.size
  have Hnil : Hid (pE = none → E.length = 0) := Lib.hid (fun h => by
    cases hE : E with
    | nil => rfl
    | cons a l =>
      obtain ⟨_, _, e, _⟩ := HE.out.cells (by rw [hE]; simp)
      rw [h] at e
      cases e)
  have HEz : Hid (Prs wz pE E) := Lib.hid (HE.out.grew (HwB.out.trans Hgz.out))
  clear hwB hwz b0 b1 b2 bh
  go_cut [3] (fun v3 wx => ∃ (O : Nat) (q : Option Addr) (c : Nat), v3 = .pointer (some ⟨O, 0, none⟩) ∧ Grew wB wx ∧ Owns wx (w.heap.size + 2) [outRow O A.length (.slice q E.length c) (.slice none 0 0), edN (.slice q E.length c) E])
  case first =>
    refine wp_region_T (s := 8) (S := fun w' => w'.cell? ⟨w.heap.size, 0, none⟩ = some (.int .i64 A.length) ∧ w'.cell? ⟨w.heap.size, 1, none⟩ = some (.slice pE E.length cE)) (by kernel_rfl) ⟨z0, z1⟩ (fun hH => ?_)
    refine wpAnyT_takeL (i := 0) (v := ?_) rfl (by kernel_rfl) (by kernel_rfl) (by kernel_rfl) (by kernel_rfl) (fun _ _ _ h => h) (Or.inl ⟨by rfl, ?_⟩) (by assumption) ?_
    rotate_left
    · (intro w hSw; (try dsimp only at hSw); go_simp; (try with_reducible rfl))
    (try simp only [Act.put, List.setIfInBounds_toArray, List.set_cons_zero, List.set_cons_succ])
    refine wpAnyT_takeL (i := 1) (v := ?_) rfl (by kernel_rfl) (by kernel_rfl) (by kernel_rfl) (by kernel_rfl) (fun _ _ _ h => h) (Or.inl ⟨by rfl, ?_⟩) (by assumption) ?_
    rotate_left
    · (intro w hSw; (try dsimp only at hSw); go_simp; (try with_reducible rfl))
    (try simp only [Act.put, List.setIfInBounds_toArray, List.set_cons_zero, List.set_cons_succ])
    refine wpAnyT_takeL (i := 3) (v := ?_) rfl (by kernel_rfl) (by kernel_rfl) (by kernel_rfl) (by kernel_rfl) (fun _ _ _ h => h) (Or.inl ⟨by rfl, ?_⟩) (by assumption) ?_
    rotate_left
    · (intro w hSw; (try dsimp only at hSw); go_simp; (try with_reducible rfl))
    (try simp only [Act.put, List.setIfInBounds_toArray, List.set_cons_zero, List.set_cons_succ])
    refine wpAnyT_takeL (i := 4) (v := ?_) rfl (by kernel_rfl) (by kernel_rfl) (by kernel_rfl) (by kernel_rfl) (fun _ _ _ h => h) (Or.inl ⟨by rfl, ?_⟩) (by assumption) ?_
    rotate_left
    · (intro w hSw; (try dsimp only at hSw); go_simp; (try with_reducible rfl))
    (try simp only [Act.put, List.setIfInBounds_toArray, List.set_cons_zero, List.set_cons_succ])
    refine wpAnyT_all (rs := [2, 7]) (by kernel_rfl) (by simp) (AllT.consL (i := 2) rfl (fun K hK => ?_) (AllT.consL (i := 7) rfl (fun K hK => ?_) AllT.nil))
    · go_simp
      refine hK.out _ _ ?_ (fun hH => ?_)
      · (first | (simp [go_sem, ↓IntWalk.iteOmega, *]; done) | go_keep)
      clear hK K
      (try simp only [Act.put, List.setIfInBounds_toArray, List.set_cons_zero, List.set_cons_succ])
      refine wpAnyT_all (rs := [5, 7]) (by kernel_rfl) (by simp) (AllT.consL (i := 5) rfl (fun K hK => ?_) (AllT.consL (i := 7) rfl (fun K hK => ?_) AllT.nil))
      · refine step_append_owns rfl _ _ 22 (by rfl) 41 2 16 (.agg #[.int .i64 0, .int .i64 0]) Tryd.underlying22 Tryd.infoArc rfl (by decide) (w.heap.size + 2) _ 0 _ _ _ (((Owns.nil wz (w.heap.size + 2)).made (by omega) #[] 41 2 0 (wz.heap.size) rfl (by decide) (by simp)).grew (by (repeat (first | exact Grew.refl _ | refine Grew.over ?_ _ | refine Grew.alloc ?_ _ | refine Grew.drew ?_ | refine Grew.drewN ?_ _)))) rfl (by rfl) pE E.length cE (by rfl) (prVs E) (prVs_len E) (fun h => ⟨Hnil.out h, hc0 h⟩) (HEz.out.news (by (repeat (first | exact Grew.refl _ | refine Grew.over ?_ _ | refine Grew.alloc ?_ _ | refine Grew.drew ?_ | refine Grew.drewN ?_ _)))) (prVs_one E) (by simp only [maxLen]; omega) (by omega) (by first | rfl | omega | (simp <;> omega)) ?_
        intro v1 w1 hO1 hg1 hb1 hz1
        clear hz1
        simp only [List.set_cons_zero, List.set_cons_succ, Nat.zero_add, List.nil_append] at hO1
        obtain ⟨q1, c1, rfl, _⟩ := prs_of_owns hO1 (k := 0) rfl
        have hG1 : Grew wz w1 := Grew.grownBy (by (repeat (first | exact Grew.refl _ | refine Grew.over ?_ _ | refine Grew.alloc ?_ _ | refine Grew.drew ?_ | refine Grew.drewN ?_ _))) hg1 (fun g h => by simp [Value.ownBlock] at h; omega)
        have r0 := hG1.cellEq z0
        have r1 := hG1.cellEq z1
        have HO1 := Lib.hid hO1
        have HG1 := Lib.hid hG1
        refine hK.out _ _ ⟨r0, r1⟩ (fun hH => ?_)
        clear hK K hO1 hg1 hb1 hG1
        (try simp only [Act.put, List.setIfInBounds_toArray, List.set_cons_zero, List.set_cons_succ])
        refine wpAnyT_takeL (i := 6) (v := ?_) rfl (by kernel_rfl) (by kernel_rfl) (by kernel_rfl) (by kernel_rfl) (fun _ _ _ h => h) (Or.inl ⟨by rfl, ?_⟩) (by assumption) ?_
        rotate_left
        · (intro w hSw; (try dsimp only at hSw); go_simp; (try with_reducible rfl))
        (try simp only [Act.put, List.setIfInBounds_toArray, List.set_cons_zero, List.set_cons_succ])
        refine wpAnyT_all (rs := [7]) (by kernel_rfl) (by simp) (AllT.consL (i := 7) rfl (fun K hK => ?_) AllT.nil)
        go_simp
        refine hK.out _ _ ?_ (fun hH => ?_)
        · (first | (simp [go_sem, ↓IntWalk.iteOmega, *]; done) | go_keep)
        clear hK K
        (try simp only [Act.put, List.setIfInBounds_toArray, List.set_cons_zero, List.set_cons_succ])
        refine wpAnyT_all (rs := [8]) (by kernel_rfl) (by simp) (AllT.lastL rfl (fun K hK => ?_))
        go_simp
        refine hK.out _ _ ?_
        clear hK K
        (try simp only [Act.put, List.setIfInBounds_toArray, List.set_cons_zero, List.set_cons_succ])
        refine wpAnyT_done (by kernel_rfl) ?_ _
        go_wp2_with fail
        go_meet
        exact ⟨_, q1, c1, rfl, Grew.alloc (Hgz.out.trans HG1.out) _, out_made (B := w.heap.size + 2) HO1.out (by have := HG1.out.below.size; omega) _ _ _ _ rfl⟩
      · go_simp
        refine hK.out _ _ ?_ (fun hH => ?_)
        · (first | (simp [go_sem, ↓IntWalk.iteOmega, *]; done) | go_keep)
        clear hK K
        (try simp only [Act.put, List.setIfInBounds_toArray, List.set_cons_zero, List.set_cons_succ])
        refine wpAnyT_all (rs := [5]) (by kernel_rfl) (by simp) (AllT.consL (i := 5) rfl (fun K hK => ?_) AllT.nil)
        refine step_append_owns rfl _ _ 22 (by rfl) 41 2 16 (.agg #[.int .i64 0, .int .i64 0]) Tryd.underlying22 Tryd.infoArc rfl (by decide) (w.heap.size + 2) _ 1 _ _ _ ((((Owns.nil wz (w.heap.size + 2)).made (by omega) #[] 41 2 0 (wz.heap.size) rfl (by decide) (by simp)).made (by simp; omega) #[.int .i64 0, .slice none 0 0, .slice none 0 0] 25 1 3 (wz.heap.size + 1) rfl (by decide) (by simp)).grew (by (repeat (first | exact Grew.refl _ | refine Grew.over ?_ _ | refine Grew.alloc ?_ _ | refine Grew.drew ?_ | refine Grew.drewN ?_ _)))) rfl (by rfl) pE E.length cE (by rfl) (prVs E) (prVs_len E) (fun h => ⟨Hnil.out h, hc0 h⟩) (HEz.out.news (by (repeat (first | exact Grew.refl _ | refine Grew.over ?_ _ | refine Grew.alloc ?_ _ | refine Grew.drew ?_ | refine Grew.drewN ?_ _)))) (prVs_one E) (by simp only [maxLen]; omega) (by omega) (by first | rfl | omega | (simp <;> omega)) ?_
        intro v1 w1 hO1 hg1 hb1 hz1
        clear hz1
        simp only [List.set_cons_zero, List.set_cons_succ, Nat.zero_add, List.nil_append] at hO1
        obtain ⟨q1, c1, rfl, _⟩ := prs_of_owns hO1 (k := 1) rfl
        have hG1 : Grew wz w1 := Grew.grownBy (by (repeat (first | exact Grew.refl _ | refine Grew.over ?_ _ | refine Grew.alloc ?_ _ | refine Grew.drew ?_ | refine Grew.drewN ?_ _))) hg1 (fun g h => by simp [Value.ownBlock] at h; omega)
        obtain ⟨gP, cP, eP, _, kP, _, _, nP, mP⟩ := hO1.some (k := 0) rfl (by omega)
        cases eP
        have y0 := mP 0 _ rfl
        have y1 := mP 1 _ rfl
        have y2 := mP 2 _ rfl
        have f0 := nP 0
        have f1 := nP 1
        have f2 := nP 2
        clear nP mP
        have r0 := hG1.cellEq z0
        have r1 := hG1.cellEq z1
        have HO1 := Lib.hid hO1
        have HG1 := Lib.hid hG1
        refine hK.out _ _ ⟨r0, r1⟩ (fun hH => ?_)
        clear hK K hO1 hg1 hb1 hG1
        (try simp only [Act.put, List.setIfInBounds_toArray, List.set_cons_zero, List.set_cons_succ])
        refine wpAnyT_takeL (i := 6) (v := ?_) rfl (by kernel_rfl) (by kernel_rfl) (by kernel_rfl) (by kernel_rfl) (fun _ _ _ h => h) (Or.inl ⟨by rfl, ?_⟩) (by assumption) ?_
        rotate_left
        · (intro w hSw; (try dsimp only at hSw); go_simp; (try with_reducible rfl))
        (try simp only [Act.put, List.setIfInBounds_toArray, List.set_cons_zero, List.set_cons_succ])
        refine wpAnyT_all (rs := [8]) (by kernel_rfl) (by simp) (AllT.lastL rfl (fun K hK => ?_))
        go_simp
        refine hK.out _ _ ?_
        clear hK K
        (try simp only [Act.put, List.setIfInBounds_toArray, List.set_cons_zero, List.set_cons_succ])
        refine wpAnyT_done (by kernel_rfl) ?_ _
        go_wp2_with fail
        go_meet
        have h0 := HO1.out.set (k := 0) (e := 25) (sz := 1) (n := 3) (g := (wz.heap.size + 1)) (cap := 3) rfl 0 (.int .i64 A.length)
        have h1 := h0.set (k := 0) (e := 25) (sz := 1) (n := 3) (g := (wz.heap.size + 1)) (cap := 3) rfl 1 (.slice q1 E.length c1)
        have h2 := h1.set (k := 0) (e := 25) (sz := 1) (n := 3) (g := (wz.heap.size + 1)) (cap := 3) rfl 2 (.slice none 0 0)
        exact ⟨_, q1, c1, rfl, Grew.setCell (Grew.setCell (Grew.setCell (Hgz.out.trans HG1.out) (show wB.heap.size ≤ (wz.heap.size + 1) by omega) _) (show wB.heap.size ≤ (wz.heap.size + 1) by omega) _) (show wB.heap.size ≤ (wz.heap.size + 1) by omega) _, h2⟩
    · go_simp
      refine hK.out _ _ ?_ (fun hH => ?_)
      · (first | (simp [go_sem, ↓IntWalk.iteOmega, *]; done) | go_keep)
      clear hK K
      (try simp only [Act.put, List.setIfInBounds_toArray, List.set_cons_zero, List.set_cons_succ])
      refine wpAnyT_all (rs := [2]) (by kernel_rfl) (by simp) (AllT.consL (i := 2) rfl (fun K hK => ?_) AllT.nil)
      go_simp
      refine hK.out _ _ ?_ (fun hH => ?_)
      · (first | (simp [go_sem, ↓IntWalk.iteOmega, *]; done) | go_keep)
      clear hK K
      (try simp only [Act.put, List.setIfInBounds_toArray, List.set_cons_zero, List.set_cons_succ])
      refine wpAnyT_all (rs := [5]) (by kernel_rfl) (by simp) (AllT.consL (i := 5) rfl (fun K hK => ?_) AllT.nil)
      refine step_append_owns rfl _ _ 22 (by rfl) 41 2 16 (.agg #[.int .i64 0, .int .i64 0]) Tryd.underlying22 Tryd.infoArc rfl (by decide) (w.heap.size + 2) _ 0 _ _ _ ((((Owns.nil wz (w.heap.size + 2)).made (by omega) #[.int .i64 0, .slice none 0 0, .slice none 0 0] 25 1 3 (wz.heap.size) rfl (by decide) (by simp)).made (by simp; omega) #[] 41 2 0 (wz.heap.size + 1) rfl (by decide) (by simp)).grew (by (repeat (first | exact Grew.refl _ | refine Grew.over ?_ _ | refine Grew.alloc ?_ _ | refine Grew.drew ?_ | refine Grew.drewN ?_ _)))) rfl (by rfl) pE E.length cE (by rfl) (prVs E) (prVs_len E) (fun h => ⟨Hnil.out h, hc0 h⟩) (HEz.out.news (by (repeat (first | exact Grew.refl _ | refine Grew.over ?_ _ | refine Grew.alloc ?_ _ | refine Grew.drew ?_ | refine Grew.drewN ?_ _)))) (prVs_one E) (by simp only [maxLen]; omega) (by omega) (by first | rfl | omega | (simp <;> omega)) ?_
      intro v1 w1 hO1 hg1 hb1 hz1
      clear hz1
      simp only [List.set_cons_zero, List.set_cons_succ, Nat.zero_add, List.nil_append] at hO1
      obtain ⟨q1, c1, rfl, _⟩ := prs_of_owns hO1 (k := 0) rfl
      have hG1 : Grew wz w1 := Grew.grownBy (by (repeat (first | exact Grew.refl _ | refine Grew.over ?_ _ | refine Grew.alloc ?_ _ | refine Grew.drew ?_ | refine Grew.drewN ?_ _))) hg1 (fun g h => by simp [Value.ownBlock] at h; omega)
      obtain ⟨gP, cP, eP, _, kP, _, _, nP, mP⟩ := hO1.some (k := 1) rfl (by omega)
      cases eP
      have y0 := mP 0 _ rfl
      have y1 := mP 1 _ rfl
      have y2 := mP 2 _ rfl
      have f0 := nP 0
      have f1 := nP 1
      have f2 := nP 2
      clear nP mP
      have r0 := hG1.cellEq z0
      have r1 := hG1.cellEq z1
      have HO1 := Lib.hid hO1
      have HG1 := Lib.hid hG1
      refine hK.out _ _ ⟨r0, r1⟩ (fun hH => ?_)
      clear hK K hO1 hg1 hb1 hG1
      (try simp only [Act.put, List.setIfInBounds_toArray, List.set_cons_zero, List.set_cons_succ])
      refine wpAnyT_takeL (i := 6) (v := ?_) rfl (by kernel_rfl) (by kernel_rfl) (by kernel_rfl) (by kernel_rfl) (fun _ _ _ h => h) (Or.inl ⟨by rfl, ?_⟩) (by assumption) ?_
      rotate_left
      · (intro w hSw; (try dsimp only at hSw); go_simp; (try with_reducible rfl))
      (try simp only [Act.put, List.setIfInBounds_toArray, List.set_cons_zero, List.set_cons_succ])
      refine wpAnyT_all (rs := [8]) (by kernel_rfl) (by simp) (AllT.lastL rfl (fun K hK => ?_))
      go_simp
      refine hK.out _ _ ?_
      clear hK K
      (try simp only [Act.put, List.setIfInBounds_toArray, List.set_cons_zero, List.set_cons_succ])
      refine wpAnyT_done (by kernel_rfl) ?_ _
      go_wp2_with fail
      go_meet
      have h0 := HO1.out.set (k := 1) (e := 25) (sz := 1) (n := 3) (g := wz.heap.size) (cap := 3) rfl 0 (.int .i64 A.length)
      have h1 := h0.set (k := 1) (e := 25) (sz := 1) (n := 3) (g := wz.heap.size) (cap := 3) rfl 1 (.slice q1 E.length c1)
      have h2 := h1.set (k := 1) (e := 25) (sz := 1) (n := 3) (g := wz.heap.size) (cap := 3) rfl 2 (.slice none 0 0)
      exact ⟨_, q1, c1, rfl, Grew.setCell (Grew.setCell (Grew.setCell (Hgz.out.trans HG1.out) (show wB.heap.size ≤ wz.heap.size by omega) _) (show wB.heap.size ≤ wz.heap.size by omega) _) (show wB.heap.size ≤ wz.heap.size by omega) _, h2.perm (List.Perm.swap _ _ _)⟩
  case rest =>
    obtain ⟨O, q, c, rfl, hgx, hOx⟩ := hcut
    have Hgx := Lib.hid hgx
    have HOx := Lib.hid hOx
    clear hgx hOx z0 z1
    go_wp2_with fail
    go_loopw [4] (fun i wq => ∃ v : Nat, v ≤ A.length ∧ i = .int .i64 v ∧ Grew wB wq ∧ ∃ (vA : Value) (vals : List Value), vals.length = v ∧
      Owns wq (w.heap.size + 2) (deV O A.length (.slice q E.length c) E vA vals ((A.take v).map List.reverse) (matRows vals ((A.take v).map List.reverse)))) (fun i _ => A.length - (intOf i).toNat)
    case atStart =>
      refine ⟨0, Nat.zero_le _, rfl, Hgx.out, .slice none 0 0, [], rfl, ?_⟩
      exact (HOx.out.none 38 1).perm ((List.Perm.swap _ _ _).trans (List.Perm.cons _ (List.Perm.swap _ _ _)))
    case round =>
      obtain ⟨v, hv, rfl, hgq, vA, vals, hvl, hOq⟩ := hrel
      obtain ⟨fs, hfs⟩ : ∃ fs, (A.take v).map List.reverse = fs := ⟨_, rfl⟩
      have hfl : fs.length = v := by rw [← hfs]; simp; omega
      rw [hfs] at hOq
      have Hgq := Lib.hid hgq
      have HOq := Lib.hid hOq
      have Hvl : Hid (vals.length = fs.length) := Lib.hid (hvl.trans hfl.symm)
      have Hfs := Lib.hid hfs
      have hszq := hgq.below.size
      have q0 := hgq.cellEq Hb0.out
      have q2 := hgq.cellEq Hb2.out
      obtain ⟨pO, cO, rfl, _, _, _, _, _⟩ := hOq.form (k := 2) rfl
      have Hfl := Lib.hid hfl
      have hfl2 : fs.length ≤ 100 := by omega
      clear hgq hOq hvl hfs hfl
      by_cases hlt : v < A.length
      · obtain ⟨bA, oA, rp, rc, rfl, lA, cA'⟩ := HR.out.hA.rows (by omega)
        obtain ⟨_, a2⟩ := cA' w (Grew.refl _) v hlt
        have CA := Lib.hid (fun (W1 : World) (hg : Grew w W1) => (cA' W1 hg v hlt).1)
        obtain ⟨rv, hrv⟩ : ∃ rv, rp v = rv := ⟨_, rfl⟩
        rw [hrv] at CA a2
        clear hrv
        have Ha2 := Lib.hid a2
        have hrl := HR.out.r1 v hlt
        obtain ⟨ls, hls⟩ : ∃ ls, rowOf A v = ls := ⟨_, rfl⟩
        rw [hls] at CA Ha2 hrl
        have Hst : Hid ((A.take (v + 1)).map List.reverse = fs ++ [ls.reverse]) := Lib.hid (by
          rw [List.take_succ_eq_append_getElem hlt, List.map_append, Hfs.out, ← hls, rowOf_eq A hlt]
          rfl)
        have a1 := CA.out wr (HwB.out.trans Hgq.out)
        clear cA' a2 hls
        go_wp2_with fail
        clear a1 q0 q2
        go_loopw [5, 6] (fun v5 i wk => ∃ k : Nat, k ≤ ls.length ∧ i = .int .i64 ((ls.length : Int) - 1 - k) ∧ Grew wB wk ∧ wr.heap.size ≤ wk.heap.size ∧
          Owns wk (w.heap.size + 2) (deV O A.length (.slice q E.length c) E (.slice pO fs.length cO) vals fs (⟨v5, 3, 1, k, intVs (ls.reverse.take k)⟩ :: matRows vals fs))) (fun _ i _ => (intOf i + 1).toNat)
        case atStart =>
          refine ⟨0, Nat.zero_le _, by simp, Hgq.out.trans (by (repeat (first | exact Grew.refl _ | refine Grew.over ?_ _ | refine Grew.alloc ?_ _ | refine Grew.drew ?_ | refine Grew.drewN ?_ _))), (by first | rfl | omega | (simp <;> omega)), ?_⟩
          exact (HOq.out.made (by omega) #[] 3 1 0 wr.heap.size rfl (by decide) rfl).perm (List.perm_middle (l₁ := [_, _, _])).symm
        case round =>
          obtain ⟨k, hk, rfl, hgk, hsk, hOk⟩ := hrel
          have Hgk := Lib.hid hgk
          have HOk := Lib.hid hOk
          have hszk := hgk.below.size
          have q2 := hgk.cellEq Hb2.out
          have a1 := CA.out wr (HwB.out.trans hgk)
          clear hgk hOk
          by_cases hlk : k < ls.length
          · obtain ⟨bR, oR, rfl, lR, cR⟩ := Ha2.out.cells (by omega)
            obtain ⟨j, hj⟩ : ∃ j, j + k + 1 = ls.length := ⟨ls.length - 1 - k, by omega⟩
            have ej : (ls.length : Int) - 1 - k = j := by omega
            have hjl : j < ls.length := by omega
            have e1 := cR wr (HwB.out.trans Hgk.out) j hjl
            obtain ⟨d, hd⟩ : ∃ d, ge ls j = d := ⟨_, rfl⟩
            rw [hd] at e1
            have Hst2 : Hid (ls.reverse.take (k + 1) = ls.reverse.take k ++ [d]) := Lib.hid (by
              rw [List.take_succ_eq_append_getElem (by rw [List.length_reverse]; exact hlk), List.getElem_reverse, ← hd, ge_eq _ hjl]
              congr 3
              omega)
            rw [ej]
            clear cR hd
            go_wp2_with (at_builtin; refine wp_append_owns rfl _ _ 38 rfl 3 1 8 (.int .i64 0) Tryd.underlying38 Tryd.infoInt rfl (by decide) (w.heap.size + 2) _ 3 _ _ _ (HOk.out.grew (by (repeat (first | exact Grew.refl _ | refine Grew.over ?_ _ | refine Grew.alloc ?_ _ | refine Grew.drew ?_ | refine Grew.drewN ?_ _)))) rfl rfl _ 1 1 rfl [.int .i64 d] rfl (fun h => by cases h) (one_news _ (by (simp [go_sem, ↓IntWalk.iteOmega]))) (by simp [Value.oneCell']) (by simp only [maxLen]; omega) (by omega) (by first | rfl | omega | (simp <;> omega)) ?_; intro v1 w1 hO1 hg1 hb1 _; have Hg1 := Lib.hid (Grew.grownBy (w0 := wB) (Hgk.out.trans (by (repeat (first | exact Grew.refl _ | refine Grew.over ?_ _ | refine Grew.alloc ?_ _ | refine Grew.drew ?_ | refine Grew.drewN ?_ _)))) hg1 (fun g h => by have := hb1 g h; omega)); have HO1 := Lib.hid hO1; have hs1 := hg1.size; simp at hs1; clear hO1 hg1 hb1)
            go_roundw
            case rel =>
              refine ⟨k + 1, by omega, by go_num, Hg1.out, by omega, ?_⟩
              have h := HO1.out
              rw [Hst2.out, intVs_app']
              simp only [deV, List.set_cons_succ, List.set_cons_zero] at h ⊢
              exact h
            case measure => simp [intOf]
          · have hke : k = ls.length := by omega
            have Hle : Hid (ls.reverse.take k = ls.reverse) := Lib.hid (by rw [List.take_of_length_le (by rw [List.length_reverse]; omega)])
            have ej : (ls.length : Int) - 1 - k = -1 := by omega
            rw [ej]
            clear ej
            obtain ⟨p3, c3, rfl, _, _, _, _, _⟩ := HOk.out.form (k := 3) rfl
            obtain ⟨gO, cO', eO, _, kO, _, _, nO, mO⟩ := HOk.out.some (k := 0) rfl (by omega)
            cases eO
            have y2 := mO 2 _ rfl
            have Hke := Lib.hid hke
            clear nO mO hke
            go_wp2_with (at_builtin; refine wp_append_owns rfl _ _ 23 rfl 38 1 24 (.slice none 0 0) Tryd.underlying23 Tryd.infoInts rfl (by decide) (w.heap.size + 2) _ 2 _ _ _ (HOk.out.grew (by (repeat (first | exact Grew.refl _ | refine Grew.over ?_ _ | refine Grew.alloc ?_ _ | refine Grew.drew ?_ | refine Grew.drewN ?_ _)))) rfl rfl _ 1 1 rfl [.slice p3 k c3] rfl (fun h => by cases h) (one_news _ (by (simp [go_sem, ↓IntWalk.iteOmega]))) (by simp [Value.oneCell']) (by simp only [maxLen]; omega) (by omega) (by first | rfl | omega | (simp <;> omega)) ?_; intro v1 w1 hO1 hg1 hb1 _; have Hg1 := Lib.hid (Grew.grownBy (w0 := wB) (Hgk.out.trans (by (repeat (first | exact Grew.refl _ | refine Grew.over ?_ _ | refine Grew.alloc ?_ _ | refine Grew.drew ?_ | refine Grew.drewN ?_ _)))) hg1 (fun g h => by have := hb1 g h; omega)); obtain ⟨p1, c1, rfl, _, _, _, _, _⟩ := hO1.form (k := 2) rfl; obtain ⟨gP, cP, eP, _, kP, _, _, nP, mP⟩ := hO1.some (k := 0) rfl (by omega); cases eP; have z2 := mP 2 _ rfl; have f2 := nP 2; have HO1 := Lib.hid hO1; have hs1 := hg1.size; simp at hs1; clear hO1 hg1 hb1 nP mP)
            go_roundw
            case rel =>
              refine ⟨v + 1, by omega, by go_num, Hg1.out.setCell (show wB.heap.size ≤ O by omega) _, .slice p1 (fs.length + 1) c1, vals ++ [.slice p3 k c3], by rw [List.length_append, Hvl.out, Hfl.out]; rfl, ?_⟩
              rw [Hst.out]
              have h := HO1.out.set (k := 0) (e := 25) (sz := 1) (n := 3) (g := O) (cap := 3) rfl 2 (.slice p1 (fs.length + 1) c1)
              simp only [deV, List.set_cons_succ, List.set_cons_zero] at h
              unfold deV
              rw [List.length_append, matRows_snoc Hvl.out]
              refine h.perm ?_
              unfold matRow
              rw [List.length_reverse, Hle.out, Hke.out]
              exact List.Perm.cons _ (List.Perm.cons _ (List.Perm.cons _ (List.perm_append_singleton _ _).symm))
            case measure => simp [intOf]; omega
      · have Hall : Hid (fs = A.map List.reverse) := Lib.hid (by rw [← Hfs.out, List.take_of_length_le (by omega)])
        obtain ⟨gO, cO', eO, _, kO, _, _, nO, mO⟩ := HOq.out.some (k := 0) rfl (by omega)
        cases eO
        have y0 := mO 0 _ rfl
        have y1 := mO 1 _ rfl
        have y2 := mO 2 _ rfl
        have hbh : wr.heap[w.heap.size + 1]? = some (.cells #[.int .i64 0, .slice none 0 0, .slice none 0 0] 25) := (Hgq.out.below.block (w.heap.size + 1) (by omega)).trans Hbh.out
        obtain ⟨z0, z1, z2, f0, f1, f2⟩ := zero3 hbh
        have Hbr := Lib.hid hbh
        clear hbh nO mO
        go_wp2_with fail
        (try simp only [Exit.inBlock, Exit.then])
        have Hb : Hid (∀ l ∈ fs, ∀ x ∈ l, -9223372036854775808 ≤ x ∧ x ≤ 9223372036854775807) := Lib.hid (fun l hl x hx => by
          rw [Hall.out] at hl
          obtain ⟨r, hr, rfl⟩ := List.mem_map.1 hl
          rw [List.mem_reverse] at hx
          obtain ⟨i, hi, rfl⟩ := List.getElem_of_mem hr
          rw [← rowOf_eq A hi] at hx
          obtain ⟨h0, h1, _⟩ := mem_row HV.out hi hx
          omega)
        refine ret_rot1 rfl rfl (heap_setCell_same _ _ _ _ _ _ (heap_setCell_same _ _ _ _ _ _ (heap_setCell_same _ _ _ _ _ _ Hbr.out))) rfl ?_
        have hGr : Gr (fun k => k = w.heap.size + 1) wr (((wr.setCell ⟨w.heap.size + 1, 0, none⟩ (.int .i64 A.length)).setCell ⟨w.heap.size + 1, 1, none⟩ (.slice q E.length c)).setCell ⟨w.heap.size + 1, 2, none⟩ (.slice pO fs.length cO)) :=
          (((Gr.refl (fun k => k = w.heap.size + 1) wr).setCell (b := w.heap.size + 1) (by rfl) _).setCell (b := w.heap.size + 1) (by rfl) _).setCell (b := w.heap.size + 1) (by rfl) _
        have hOw := HOq.out.gr hGr (fun k h1 _ e => by omega)
        obtain ⟨q1, k1, ev1, _, hP⟩ := prs_of_owns hOw (k := 1) rfl
        cases ev1
        obtain ⟨q2, k2, ev2, hM⟩ := mat_of_owns (rs := [outRow O A.length (.slice q E.length c) (.slice pO fs.length cO), edN (.slice q E.length c) E]) Hvl.out Hb.out (hOw.perm (List.perm_append_comm (l₁ := [_, _])))
        cases ev2
        rw [Hf.out, ← Hall.out]
        exact ⟨Grew.setCell (Grew.setCell (Grew.setCell (HwB.out.trans Hgq.out) (show w.heap.size ≤ w.heap.size + 1 by omega) _) (show w.heap.size ≤ w.heap.size + 1 by omega) _) (show w.heap.size ≤ w.heap.size + 1 by omega) _, _, _, _, _, rfl, hP, hM⟩

end Go.Proofs.YtcahceceeeaeoaaDoor
