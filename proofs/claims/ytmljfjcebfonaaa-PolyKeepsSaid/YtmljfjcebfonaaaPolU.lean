/- Simplify of the program. -/
import Derived.Test.YtmljfjcebfonaaaPolR
import Derived.Test.YtmljfjcebfonaaaPolT
set_option linter.unusedSimpArgs false
set_option linter.unusedVariables false
namespace Go.Proofs.Ytmljfjcebfonaaa
open Go.RowKit
attribute [local go_sem ↓] Go.wp_at_zero Go.wp_at_succ

theorem points_pe {p : Option Addr} {n c : Nat} {E : List (Int × Int)} {w : World} {b : Bool} (h : ptsB E = b) (hP : Prs w p E) (hn : E.length = n) :
    Calls Try.prog 27 #[.slice p n c] w fun e w' => e = .returned (.bool b) ∧ Grew w w' := h ▸ points_p p n c E w hP hn

set_option maxHeartbeats 4000000 in
theorem simplify_p (p : Option Addr) (n c : Nat) (E : List (Int × Int)) (w : World) (hP : Prs w p E) (hn : E.length = n) :
    Calls Try.prog 20 #[.slice p n c] w (SimPost E w) := by
  subst hn
  have HP := Lib.hid hP
  clear hP
  cases hv : ptsB E
  case false =>
    have Hf : Hid (simF E = []) := Lib.hid (by unfold simF; rw [hv]; rfl)
    have Hv := Lib.hid hv
    clear hv
    go_enter Try.func20, Try.ntmps20
    go_wp2_with (go_at_call 27; apply Calls.mono; (with_reducible exact points_pe Hv.out HP.out rfl); rintro e w' ⟨rfl, x, rfl⟩)
    go_ret
    exact SimPost.nil Hf.out (by (repeat (first | exact Grew.refl _ | refine Grew.over ?_ _ | refine Grew.alloc ?_ _ | refine Grew.drew ?_ | refine Grew.drewN ?_ _)))
  have Hv := Lib.hid hv
  obtain ⟨hl1, hl2, _⟩ := ptsB_iff.1 hv
  obtain ⟨q1, q2⟩ := cmpl_len hv
  have hl0 : 0 < E.length := by omega
  have Hcx : Hid (∀ w', Grew w w' → Calls Try.prog 35 #[.slice p E.length c] w' _) := Lib.hid (fun w' hg => clone_pt p E.length c E w' (HP.out.grew hg) hl2 rfl hl0)
  clear hv
  go_enter Try.func20, Try.ntmps20
  go_upto_region 4 with (first
    | (go_at_call 27; apply Calls.mono; (with_reducible exact points_pe Hv.out HP.out rfl); rintro e w' ⟨rfl, x, rfl⟩)
    | (go_at_call 35; apply Calls.mono; (with_reducible exact Hcx.out _ (by (repeat (first | exact Grew.refl _ | refine Grew.over ?_ _ | refine Grew.alloc ?_ _ | refine Grew.drew ?_ | refine Grew.drewN ?_ _)))); rintro e w1 ⟨hg1, g, c1, rfl, hO1⟩; have Hg1 := Lib.hid ((show Grew w _ by (repeat (first | exact Grew.refl _ | refine Grew.over ?_ _ | refine Grew.alloc ?_ _ | refine Grew.drew ?_ | refine Grew.drewN ?_ _))).trans hg1); have HO1 := Lib.hid (hO1.base (show w.heap.size ≤ _ from (show Grew w _ by (repeat (first | exact Grew.refl _ | refine Grew.over ?_ _ | refine Grew.alloc ?_ _ | refine Grew.drew ?_ | refine Grew.drewN ?_ _))).below.size)); clear hg1 hO1)
    | (go_at_call 34; apply Calls.mono; (with_reducible exact compact_pt _ _ _ _ _ _ HO1.out hl2 rfl hl0); rintro e w2 ⟨hg2, v0, rfl, hO2⟩; have Hg2 := Lib.hid hg2; have HO2 := Lib.hid hO2; clear hg2 hO2))
  obtain ⟨P, hPe⟩ : ∃ P, cmpl E = P := ⟨_, rfl⟩
  have hgb : w.heap.size ≤ g := ((HO1.out.1 0 _ rfl).lt g rfl).1
  have hg0 : Grew w w2 := Hg2.out.stay Hg1.out (fun k e => by subst e; exact hgb)
  have Hg0 := Lib.hid hg0
  have Hvd : Hid (∀ i, i < P.length → vld (pr P i).1 (pr P i).2 = true) := Lib.hid (fun i hi => by rw [← hPe] at hi ⊢; exact cmpl_ok Hv.out hi)
  have Hsf : Hid (simF E = simK P P.length) := Lib.hid (by unfold simF; rw [Hv.out, hPe]; rfl)
  rw [hPe] at q1 q2 HO2
  obtain ⟨b, cap, rfl, hBb, hbl, hle, hcm, hfr, hce⟩ := HO2.out.some (k := 0) rfl (show 0 < P.length by omega)
  have Hcl : Hid (∀ W, Grew w2 W → ∀ i, i < P.length → W.cell? ⟨b, i * 2, none⟩ = some (.int .i64 (pr P i).1) ∧ W.cell? ⟨b, i * 2 + 1, none⟩ = some (.int .i64 (pr P i).2)) := Lib.hid (fun W hW i hi => by
    obtain ⟨g1, g2⟩ := prVs_get P i hi
    exact ⟨hW.cellEq (hce _ _ g1), hW.cellEq (hce _ _ g2)⟩)
  obtain ⟨w0, hw0⟩ : ∃ w0, w0 = w2 := ⟨_, rfl⟩
  subst hw0
  clear hPe hce hfr hg0 Hg1 HO1 Hg2 HO2 hgb Hcx
  go_wp2
  go_loopw [3, 14] (fun v3 i wx => ∃ (k : Nat) (S : List (Int × Int)), k ≤ P.length ∧ i = .int .i64 k ∧ simK P k = S ∧ Grew w0 wx ∧ Owns wx w0.heap.size [ptRow v3 S]) (fun _ i _ => P.length - (intOf i).toNat)
  case atStart => exact ⟨0, [], by omega, rfl, rfl, by (repeat (first | exact Grew.refl _ | refine Grew.over ?_ _ | refine Grew.alloc ?_ _ | refine Grew.drew ?_ | refine Grew.drewN ?_ _)), (Owns.nil _ _).none _ _⟩
  case round =>
    obtain ⟨k, S, hk, rfl, hcm2, hg2, hO2⟩ := hrel
    have hSl := simK_len P k
    rw [hcm2] at hSl
    have Hg2 := Lib.hid hg2
    have HO2 := Lib.hid hO2
    have Hcm2 := Lib.hid hcm2
    clear hg2 hO2 hcm2
    by_cases hlt : k < P.length
    · obtain ⟨d1, d2⟩ := Hcl.out wr Hg2.out k hlt
      have hsz := Hg2.out.below.size
      obtain ⟨ax, hax⟩ : ∃ x, (pr P k).1 = x := ⟨_, rfl⟩
      obtain ⟨ay, hay⟩ : ∃ x, (pr P k).2 = x := ⟨_, rfl⟩
      have Hpk : Hid (pr P k = (ax, ay)) := Lib.hid (by rw [← hax, ← hay])
      rw [hax] at d1
      rw [hay] at d2
      rcases Nat.eq_zero_or_pos k with hz | hz
      · subst hz
        have Hst : Hid (simK P (0 + 1) = S ++ [(ax, ay)]) := Lib.hid (by rw [simK, if_pos (by unfold keep; simp), Hcm2.out, Hpk.out])
        simp only [Nat.zero_mul] at d1 d2
        clear hax hay
        go_upto_region 8 with fail
        obtain ⟨wv, hwv⟩ : ∃ wv, wr.alloc (.cells #[.int .i64 ax, .int .i64 ay] 32) = wv := ⟨_, rfl⟩
        have hgv : Grew wr wv := by rw [← hwv]; (repeat (first | exact Grew.refl _ | refine Grew.over ?_ _ | refine Grew.alloc ?_ _ | refine Grew.drew ?_ | refine Grew.drewN ?_ _))
        have hsv : wr.heap.size < wv.heap.size := by rw [← hwv]; simp
        have p1 : wv.cell? ⟨wr.heap.size, 0, none⟩ = some (.int .i64 ax) := by rw [← hwv]; simp [go_sem]
        have p2 : wv.cell? ⟨wr.heap.size, 1, none⟩ = some (.int .i64 ay) := by rw [← hwv]; simp [go_sem]
        rw [hwv]
        obtain ⟨gv, hgvb⟩ : ∃ gv, wr.heap.size = gv := ⟨_, rfl⟩
        rw [hgvb] at p1 p2 hsv ⊢
        clear hwv hgvb
        refine wp_region_over (by kernel_rfl) (by kernel_rfl) ?_; (repeat (go_big_quiet_step (fail))); refine wpQuiet_nil ?_; rintro _ ⟨x, rfl⟩
        go_wp2_with (at_builtin; refine wp_append_pt rfl _ _ rfl w0 _ S (HO2.out.grew (hgv.trans (by (repeat (first | exact Grew.refl _ | refine Grew.over ?_ _ | refine Grew.alloc ?_ _ | refine Grew.drew ?_ | refine Grew.drewN ?_ _))))) (Hg2.out.trans (hgv.trans (by (repeat (first | exact Grew.refl _ | refine Grew.over ?_ _ | refine Grew.alloc ?_ _ | refine Grew.drew ?_ | refine Grew.drewN ?_ _))))) rfl _ rfl ax ay (by (simp [go_sem, ↓IntWalk.iteOmega])) (by (simp [go_sem, ↓IntWalk.iteOmega])) (by omega) ?_; intro v1 w1 hO1 hg1; have HO1 := Lib.hid hO1; have Hg1 := Lib.hid hg1; clear hO1 hg1)
        go_roundw
        case rel => exact ⟨0 + 1, _, by omega, by go_num, Hst.out, Hg1.out, HO1.out⟩
        case measure => simp [intOf]; omega
      have hk0 : ((k : Int) == 0) = false := by rw [beq_eq_false_iff_ne]; omega
      by_cases hl : k + 1 = P.length
      · have hk1 : ((k : Int) == (P.length : Int) - 1) = true := by rw [beq_iff_eq]; omega
        have Hst : Hid (simK P (k + 1) = S ++ [(ax, ay)]) := Lib.hid (by rw [simK, if_pos (by unfold keep; simp [hl]), Hcm2.out, Hpk.out])
        clear hl hax hay
        go_upto_region 8 with fail
        obtain ⟨wv, hwv⟩ : ∃ wv, wr.alloc (.cells #[.int .i64 ax, .int .i64 ay] 32) = wv := ⟨_, rfl⟩
        have hgv : Grew wr wv := by rw [← hwv]; (repeat (first | exact Grew.refl _ | refine Grew.over ?_ _ | refine Grew.alloc ?_ _ | refine Grew.drew ?_ | refine Grew.drewN ?_ _))
        have hsv : wr.heap.size < wv.heap.size := by rw [← hwv]; simp
        have p1 : wv.cell? ⟨wr.heap.size, 0, none⟩ = some (.int .i64 ax) := by rw [← hwv]; simp [go_sem]
        have p2 : wv.cell? ⟨wr.heap.size, 1, none⟩ = some (.int .i64 ay) := by rw [← hwv]; simp [go_sem]
        rw [hwv]
        obtain ⟨gv, hgvb⟩ : ∃ gv, wr.heap.size = gv := ⟨_, rfl⟩
        rw [hgvb] at p1 p2 hsv ⊢
        clear hwv hgvb
        refine wp_region_over (by kernel_rfl) (by kernel_rfl) ?_; (repeat (go_big_quiet_step (fail))); refine wpQuiet_nil ?_; rintro _ ⟨x, rfl⟩
        go_wp2_with (at_builtin; refine wp_append_pt rfl _ _ rfl w0 _ S (HO2.out.grew (hgv.trans (by (repeat (first | exact Grew.refl _ | refine Grew.over ?_ _ | refine Grew.alloc ?_ _ | refine Grew.drew ?_ | refine Grew.drewN ?_ _))))) (Hg2.out.trans (hgv.trans (by (repeat (first | exact Grew.refl _ | refine Grew.over ?_ _ | refine Grew.alloc ?_ _ | refine Grew.drew ?_ | refine Grew.drewN ?_ _))))) rfl _ rfl ax ay (by (simp [go_sem, ↓IntWalk.iteOmega])) (by (simp [go_sem, ↓IntWalk.iteOmega])) (by omega) ?_; intro v1 w1 hO1 hg1; have HO1 := Lib.hid hO1; have Hg1 := Lib.hid hg1; clear hO1 hg1)
        go_roundw
        case rel => exact ⟨k + 1, _, by omega, by go_num, Hst.out, Hg1.out, HO1.out⟩
        case measure => simp [intOf]; omega
      have hk1 : ((k : Int) == (P.length : Int) - 1) = false := by rw [beq_eq_false_iff_ne]; omega
      obtain ⟨j, hj⟩ : ∃ j, j + 1 = k := ⟨k - 1, by omega⟩
      obtain ⟨c1, c2⟩ := Hcl.out wr Hg2.out j (by omega)
      obtain ⟨e1, e2⟩ := Hcl.out wr Hg2.out (k + 1) (by omega)
      have v1 := Hvd.out j (by omega)
      have v2 := Hvd.out k (by omega)
      have v3 := Hvd.out (k + 1) (by omega)
      have hkj : k - 1 = j := by omega
      have Hkp := Lib.hid (fun b h => keep_eq (P := P) (k := k) (b := b) (by omega) hl h)
      rw [hkj] at Hkp
      obtain ⟨bx, hbx⟩ : ∃ x, (pr P j).1 = x := ⟨_, rfl⟩
      obtain ⟨bZ, hbZ⟩ : ∃ x, (pr P j).2 = x := ⟨_, rfl⟩
      obtain ⟨cx, hcx⟩ : ∃ x, (pr P (k + 1)).1 = x := ⟨_, rfl⟩
      obtain ⟨cy, hcy⟩ : ∃ x, (pr P (k + 1)).2 = x := ⟨_, rfl⟩
      rw [hbx] at c1 v1
      rw [hbZ] at c2 v1
      rw [hax, hay] at v2
      rw [hcx] at e1 v3
      rw [hcy] at e2 v3
      rw [hax, hay, hbx, hbZ, hcx, hcy] at Hkp
      have V1 := Lib.hid v1
      have V2 := Lib.hid v2
      have V3 := Lib.hid v3
      obtain ⟨k1, hk1'⟩ : ∃ k1, k + 1 = k1 := ⟨_, rfl⟩
      have hi1 : (k : Int) + 1 = (k1 : Int) := by omega
      have hsub : (k : Int) - 1 = (j : Int) := by omega
      have hlt1 : k1 < P.length := by omega
      have hltj : j < P.length := by omega
      rw [hk1'] at e1 e2
      have Hk1 := Lib.hid hk1'
      cases hbe : benB bx bZ ax ay cx cy
      · have Hb := Lib.hid hbe
        have Hst : Hid (simK P (k + 1) = S) := Lib.hid (by rw [simK, if_neg (by rw [Hkp.out _ hbe]; decide), Hcm2.out])
        clear v1 v2 v3 hax hay hbx hbZ hcx hcy hk1' hj hkj hbe hl
        go_upto_region 8 with fail
        obtain ⟨wv, hwv⟩ : ∃ wv, wr.alloc (.cells #[.int .i64 ax, .int .i64 ay] 32) = wv := ⟨_, rfl⟩
        have hgv : Grew wr wv := by rw [← hwv]; (repeat (first | exact Grew.refl _ | refine Grew.over ?_ _ | refine Grew.alloc ?_ _ | refine Grew.drew ?_ | refine Grew.drewN ?_ _))
        have hsv : wr.heap.size < wv.heap.size := by rw [← hwv]; simp
        have p1 : wv.cell? ⟨wr.heap.size, 0, none⟩ = some (.int .i64 ax) := by rw [← hwv]; simp [go_sem]
        have p2 : wv.cell? ⟨wr.heap.size, 1, none⟩ = some (.int .i64 ay) := by rw [← hwv]; simp [go_sem]
        rw [hwv]
        obtain ⟨gv, hgvb⟩ : ∃ gv, wr.heap.size = gv := ⟨_, rfl⟩
        rw [hgvb] at p1 p2 hsv ⊢
        clear hwv hgvb
        replace c1 := hgv.cellEq c1
        replace c2 := hgv.cellEq c2
        replace e1 := hgv.cellEq e1
        replace e2 := hgv.cellEq e2
        have hszv := hgv.below.size
        refine wp_region_over (by kernel_rfl) (by kernel_rfl) ?_; (repeat (go_big_quiet_step ((go_at_call 32; apply over_call; with_reducible exact bend_pe Hb.out V1.out V2.out V3.out _)))); refine wpQuiet_nil ?_; rintro _ ⟨x, rfl⟩
        go_wp2
        go_roundw
        case rel => exact ⟨k + 1, S, by omega, by go_num, Hst.out, Hg2.out.trans (hgv.trans (by (repeat (first | exact Grew.refl _ | refine Grew.over ?_ _ | refine Grew.alloc ?_ _ | refine Grew.drew ?_ | refine Grew.drewN ?_ _)))), HO2.out.grew (hgv.trans (by (repeat (first | exact Grew.refl _ | refine Grew.over ?_ _ | refine Grew.alloc ?_ _ | refine Grew.drew ?_ | refine Grew.drewN ?_ _))))⟩
        case measure => simp [intOf]; omega
      · have Hb := Lib.hid hbe
        have Hst : Hid (simK P (k + 1) = S ++ [(ax, ay)]) := Lib.hid (by rw [simK, if_pos (by rw [Hkp.out _ hbe]), Hcm2.out, Hpk.out])
        clear v1 v2 v3 hax hay hbx hbZ hcx hcy hk1' hj hkj hbe hl
        go_upto_region 8 with fail
        obtain ⟨wv, hwv⟩ : ∃ wv, wr.alloc (.cells #[.int .i64 ax, .int .i64 ay] 32) = wv := ⟨_, rfl⟩
        have hgv : Grew wr wv := by rw [← hwv]; (repeat (first | exact Grew.refl _ | refine Grew.over ?_ _ | refine Grew.alloc ?_ _ | refine Grew.drew ?_ | refine Grew.drewN ?_ _))
        have hsv : wr.heap.size < wv.heap.size := by rw [← hwv]; simp
        have p1 : wv.cell? ⟨wr.heap.size, 0, none⟩ = some (.int .i64 ax) := by rw [← hwv]; simp [go_sem]
        have p2 : wv.cell? ⟨wr.heap.size, 1, none⟩ = some (.int .i64 ay) := by rw [← hwv]; simp [go_sem]
        rw [hwv]
        obtain ⟨gv, hgvb⟩ : ∃ gv, wr.heap.size = gv := ⟨_, rfl⟩
        rw [hgvb] at p1 p2 hsv ⊢
        clear hwv hgvb
        replace c1 := hgv.cellEq c1
        replace c2 := hgv.cellEq c2
        replace e1 := hgv.cellEq e1
        replace e2 := hgv.cellEq e2
        have hszv := hgv.below.size
        refine wp_region_over (by kernel_rfl) (by kernel_rfl) ?_; (repeat (go_big_quiet_step ((go_at_call 32; apply over_call; with_reducible exact bend_pe Hb.out V1.out V2.out V3.out _)))); refine wpQuiet_nil ?_; rintro _ ⟨x, rfl⟩
        go_wp2_with (at_builtin; refine wp_append_pt rfl _ _ rfl w0 _ S (HO2.out.grew (hgv.trans (by (repeat (first | exact Grew.refl _ | refine Grew.over ?_ _ | refine Grew.alloc ?_ _ | refine Grew.drew ?_ | refine Grew.drewN ?_ _))))) (Hg2.out.trans (hgv.trans (by (repeat (first | exact Grew.refl _ | refine Grew.over ?_ _ | refine Grew.alloc ?_ _ | refine Grew.drew ?_ | refine Grew.drewN ?_ _))))) rfl _ rfl ax ay (by (simp [go_sem, ↓IntWalk.iteOmega])) (by (simp [go_sem, ↓IntWalk.iteOmega])) (by omega) ?_; intro v1 w1 hO1 hg1; have HO1 := Lib.hid hO1; have Hg1 := Lib.hid hg1; clear hO1 hg1)
        go_roundw
        case rel => exact ⟨k + 1, _, by omega, by go_num, Hst.out, Hg1.out, HO1.out⟩
        case measure => simp [intOf]; omega
    · have hke : k = P.length := by omega
      subst hke
      have Hsf2 : Hid (simF E = S) := Lib.hid (by rw [Hsf.out, Hcm2.out])
      go_wp2
      go_ret
      refine ⟨Hg0.out.trans Hg2.out, _, rfl, ?_⟩
      rw [Hsf2.out]
      exact HO2.out.base Hg0.out.below.size
end Go.Proofs.Ytmljfjcebfonaaa
