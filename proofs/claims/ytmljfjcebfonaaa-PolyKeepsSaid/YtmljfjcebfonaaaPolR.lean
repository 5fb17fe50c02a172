/- Simplify of the reference. -/
import Derived.Test.YtmljfjcebfonaaaPolQ
set_option linter.unusedSimpArgs false
set_option linter.unusedVariables false
namespace Go.Proofs.Ytmljfjcebfonaaa
open Go.RowKit
attribute [local go_sem ↓] Go.wp_at_zero Go.wp_at_succ

theorem keep_eq {P : List (Int × Int)} {k : Nat} {b : Bool} (h0 : k ≠ 0) (h1 : k + 1 ≠ P.length) (h : benB (pr P (k - 1)).1 (pr P (k - 1)).2 (pr P k).1 (pr P k).2 (pr P (k + 1)).1 (pr P (k + 1)).2 = b) : keep P k = b := by
  unfold keep
  rw [bend3_eq, h]
  simp [h0, h1]

set_option maxHeartbeats 4000000 in
theorem simplify_r (p : Option Addr) (n c : Nat) (E : List (Int × Int)) (w : World) (hP : Prs w p E) (hn : E.length = n) :
    Calls Try.prog 21 #[.slice p n c] w (SimPost E w) := by
  subst hn
  have hmx := hP.1
  have HP := Lib.hid hP
  clear hP
  by_cases h1 : E.length < 1
  · have Hf : Hid (simF E = []) := Lib.hid (by unfold simF; rw [ptsB_no fun h => by omega]; rfl)
    go_enter Try.func21, Try.ntmps21
    go_wp2
    go_ret
    exact SimPost.nil Hf.out (Grew.refl _)
  by_cases h2 : 512 < E.length
  · have Hf : Hid (simF E = []) := Lib.hid (by unfold simF; rw [ptsB_no fun h => by omega]; rfl)
    go_enter Try.func21, Try.ntmps21
    go_wp2
    go_ret
    exact SimPost.nil Hf.out (Grew.refl _)
  go_enter Try.func21, Try.ntmps21
  go_wp2
  go_loopw [3, 4] (fun v3 i wr => ∃ (k : Nat) (P : List (Int × Int)), k ≤ E.length ∧ i = .int .i64 k ∧ (∀ j, j < k → ok1 (pr E j) = true) ∧ cmpK E k = P ∧ Grew w wr ∧ Owns wr w.heap.size [ptRow v3 P]) (fun _ i _ => E.length - (intOf i).toNat)
  case atStart => exact ⟨0, [], by omega, rfl, fun j hj => by omega, rfl, by (repeat (first | exact Grew.refl _ | refine Grew.over ?_ _ | refine Grew.alloc ?_ _ | refine Grew.drew ?_ | refine Grew.drewN ?_ _)), (Owns.nil w w.heap.size).made (Nat.le_refl _) #[] 32 2 0 w.heap.size rfl (by decide) rfl⟩
  case round =>
    obtain ⟨k, P, hk, rfl, hok, hcm, hg, hO⟩ := hrel
    have Hok := Lib.hid hok
    have Hg := Lib.hid hg
    have HO := Lib.hid hO
    have hPl := (cmpK_len E k).1
    rw [hcm] at hPl
    have Hcm := Lib.hid hcm
    clear hok hg hO hcm
    by_cases hlt : k < E.length
    · obtain ⟨b, o, rfl, hb, hc⟩ := HP.out.cells (by omega)
      obtain ⟨d1, d2⟩ := hc wr Hg.out k hlt
      have hsz := Hg.out.below.size
      obtain ⟨ax, hax⟩ : ∃ x, (pr E k).1 = x := ⟨_, rfl⟩
      obtain ⟨ay, hay⟩ : ∃ x, (pr E k).2 = x := ⟨_, rfl⟩
      have Hpk : Hid (pr E k = (ax, ay)) := Lib.hid (by rw [← hax, ← hay])
      rw [hax] at d1
      rw [hay] at d2
      cases hv : vld ax ay
      · have Hf : Hid (simF E = []) := Lib.hid (by unfold simF; rw [ptsB_no fun h => by have := h.2.2 k hlt; unfold ok1 at this; rw [hax, hay, hv] at this; cases this]; rfl)
        have Hv := Lib.hid hv
        clear hv hc hax hay
        go_wp2_with (go_at_call 28; apply Calls.mono; (with_reducible exact point_e Hv.out _); rintro e w' ⟨rfl, x, rfl⟩)
        go_ret
        exact SimPost.nil Hf.out (Hg.out.trans (by (repeat (first | exact Grew.refl _ | refine Grew.over ?_ _ | refine Grew.alloc ?_ _ | refine Grew.drew ?_ | refine Grew.drewN ?_ _))))
      have Hv := Lib.hid hv
      have Hok2 : Hid (∀ j, j < k + 1 → ok1 (pr E j) = true) := Lib.hid (fun i hi => by
        by_cases e : i = k
        · subst e; unfold ok1; rw [hax, hay]; exact hv
        · exact Hok.out i (by omega))
      clear hv
      rcases Nat.eq_zero_or_pos k with hz | hz
      · subst hz
        have Hst : Hid (cmpK E (0 + 1) = P ++ [(ax, ay)]) := Lib.hid (by rw [cmpK, if_pos (Or.inl rfl), Hcm.out, Hpk.out])
        simp only [Nat.zero_mul, Nat.add_zero] at d1 d2
        clear hc hax hay
        go_upto_region 9 with (go_at_call 28; apply Calls.mono; (with_reducible exact point_e Hv.out _); rintro e w' ⟨rfl, x, rfl⟩)
        refine wp_region_over (by kernel_rfl) (by kernel_rfl) ?_; (repeat (go_big_quiet_step (fail))); refine wpQuiet_nil ?_; rintro _ ⟨x, rfl⟩
        go_wp2_with (at_builtin; refine wp_append_pt rfl _ _ rfl w _ P (HO.out.grew (by (repeat (first | exact Grew.refl _ | refine Grew.over ?_ _ | refine Grew.alloc ?_ _ | refine Grew.drew ?_ | refine Grew.drewN ?_ _)))) (Hg.out.trans (by (repeat (first | exact Grew.refl _ | refine Grew.over ?_ _ | refine Grew.alloc ?_ _ | refine Grew.drew ?_ | refine Grew.drewN ?_ _)))) rfl _ rfl ax ay (by (simp [go_sem, ↓IntWalk.iteOmega])) (by (simp [go_sem, ↓IntWalk.iteOmega])) (by omega) ?_; intro v1 w1 hO1 hg1; have HO1 := Lib.hid hO1; have Hg1 := Lib.hid hg1; clear hO1 hg1)
        go_roundw
        case rel => exact ⟨0 + 1, _, by omega, by go_num, Hok2.out, Hst.out, Hg1.out, HO1.out⟩
        case measure => simp [intOf]; omega
      · obtain ⟨j, hj⟩ : ∃ j, j + 1 = k := ⟨k - 1, by omega⟩
        obtain ⟨c1, c2⟩ := hc wr Hg.out j (by omega)
        have hk0 : ((k : Int) == 0) = false := by rw [beq_eq_false_iff_ne]; omega
        have hsub : (k : Int) - 1 = (j : Int) := by omega
        have hkj : k - 1 = j := by omega
        have Hkj := Lib.hid hj
        by_cases he : pr E k = pr E j
        · have he' := eqb_yes he
          have hno : ¬ (k = 0 ∨ pr E k ≠ pr E (k - 1)) := by
            rw [hkj]
            exact fun h => h.elim (fun h => by omega) (fun h => h he)
          have Hst : Hid (cmpK E (k + 1) = P) := Lib.hid (by rw [cmpK, if_neg hno, Hcm.out])
          clear hno
          rw [hax, hay] at he'
          clear he hc hj hax hay hkj
          go_upto_region 9 with (go_at_call 28; apply Calls.mono; (with_reducible exact point_e Hv.out _); rintro e w' ⟨rfl, x, rfl⟩)
          refine wp_region_over (by kernel_rfl) (by kernel_rfl) ?_; (repeat (go_big_quiet_step (fail))); refine wpQuiet_nil ?_; rintro _ ⟨x, rfl⟩
          go_wp2
          go_roundw
          case rel => exact ⟨k + 1, P, by omega, by go_num, Hok2.out, Hst.out, Hg.out.trans (by (repeat (first | exact Grew.refl _ | refine Grew.over ?_ _ | refine Grew.alloc ?_ _ | refine Grew.drew ?_ | refine Grew.drewN ?_ _))), HO.out.grew (by (repeat (first | exact Grew.refl _ | refine Grew.over ?_ _ | refine Grew.alloc ?_ _ | refine Grew.drew ?_ | refine Grew.drewN ?_ _)))⟩
          case measure => simp [intOf]; omega
        · have he' := eqb_no he
          have Hst : Hid (cmpK E (k + 1) = P ++ [(ax, ay)]) := Lib.hid (by rw [cmpK, if_pos (Or.inr (by rw [hkj]; exact he)), Hcm.out, Hpk.out])
          rw [hax, hay] at he'
          clear he hc hj hax hay hkj
          go_upto_region 9 with (go_at_call 28; apply Calls.mono; (with_reducible exact point_e Hv.out _); rintro e w' ⟨rfl, x, rfl⟩)
          refine wp_region_over (by kernel_rfl) (by kernel_rfl) ?_; (repeat (go_big_quiet_step (fail))); refine wpQuiet_nil ?_; rintro _ ⟨x, rfl⟩
          go_wp2_with (at_builtin; refine wp_append_pt rfl _ _ rfl w _ P (HO.out.grew (by (repeat (first | exact Grew.refl _ | refine Grew.over ?_ _ | refine Grew.alloc ?_ _ | refine Grew.drew ?_ | refine Grew.drewN ?_ _)))) (Hg.out.trans (by (repeat (first | exact Grew.refl _ | refine Grew.over ?_ _ | refine Grew.alloc ?_ _ | refine Grew.drew ?_ | refine Grew.drewN ?_ _)))) rfl _ rfl ax ay (by (simp [go_sem, ↓IntWalk.iteOmega])) (by (simp [go_sem, ↓IntWalk.iteOmega])) (by omega) ?_; intro v1 w1 hO1 hg1; have HO1 := Lib.hid hO1; have Hg1 := Lib.hid hg1; clear hO1 hg1)
          go_roundw
          case rel => exact ⟨k + 1, _, by omega, by go_num, Hok2.out, Hst.out, Hg1.out, HO1.out⟩
          case measure => simp [intOf]; omega
    · have hke : k = E.length := by omega
      subst hke
      obtain ⟨w0, hw0⟩ : ∃ w0, w0 = wr := ⟨_, rfl⟩
      subst hw0
      have Hpt : Hid (ptsB E = true) := Lib.hid (ptsB_iff.2 ⟨by omega, by omega, Hok.out⟩)
      obtain ⟨q1, q2⟩ := cmpl_len Hpt.out
      have hPe : cmpl E = P := Hcm.out
      rw [hPe] at q1 q2
      obtain ⟨g, cap, rfl, hgb, hgl, hle, hcm, hfr, hce⟩ := HO.out.some (k := 0) rfl (show 0 < P.length by omega)
      have Hcl : Hid (∀ W, Grew w0 W → ∀ i, i < P.length → W.cell? ⟨g, i * 2, none⟩ = some (.int .i64 (pr P i).1) ∧ W.cell? ⟨g, i * 2 + 1, none⟩ = some (.int .i64 (pr P i).2)) := Lib.hid (fun W hW i hi => by
        obtain ⟨g1, g2⟩ := prVs_get P i hi
        exact ⟨hW.cellEq (hce _ _ g1), hW.cellEq (hce _ _ g2)⟩)
      have Hvd : Hid (∀ i, i < P.length → vld (pr P i).1 (pr P i).2 = true) := Lib.hid (fun i hi => by rw [← hPe] at hi ⊢; exact cmpl_ok Hpt.out hi)
      have Hsf : Hid (simF E = simK P P.length) := Lib.hid (by unfold simF; rw [Hpt.out, hPe]; rfl)
      clear hce hPe hfr hPl hlt hk
      go_wp2
      go_loopw [5, 6] (fun v5 i wx => ∃ (k : Nat) (S : List (Int × Int)), k ≤ P.length ∧ i = .int .i64 k ∧ simK P k = S ∧ Grew w0 wx ∧ Owns wx w0.heap.size [ptRow v5 S]) (fun _ i _ => P.length - (intOf i).toNat)
      case atStart => exact ⟨0, [], by omega, rfl, rfl, by (repeat (first | exact Grew.refl _ | refine Grew.over ?_ _ | refine Grew.alloc ?_ _ | refine Grew.drew ?_ | refine Grew.drewN ?_ _)), (Owns.nil w0 w0.heap.size).made (Nat.le_refl _) #[] 32 2 0 w0.heap.size rfl (by decide) rfl⟩
      case round =>
        obtain ⟨k, S, hk, rfl, hcm2, hg2, hO2⟩ := hrel
        have hSl := simK_len P k
        rw [hcm2] at hSl
        have Hg2 := Lib.hid hg2
        have HO2 := Lib.hid hO2
        have Hcm2 := Lib.hid hcm2
        clear hg2 hO2 hcm2
        by_cases hlt : k < P.length
        · obtain ⟨d1, d2⟩ := Hcl.out wr Hg2.out k hlt
          have hsz := Hg2.out.below.size
          obtain ⟨ax, hax⟩ : ∃ x, (pr P k).1 = x := ⟨_, rfl⟩
          obtain ⟨ay, hay⟩ : ∃ x, (pr P k).2 = x := ⟨_, rfl⟩
          have Hpk : Hid (pr P k = (ax, ay)) := Lib.hid (by rw [← hax, ← hay])
          rw [hax] at d1
          rw [hay] at d2
          rcases Nat.eq_zero_or_pos k with hz | hz
          · subst hz
            have Hst : Hid (simK P (0 + 1) = S ++ [(ax, ay)]) := Lib.hid (by rw [simK, if_pos (by unfold keep; simp), Hcm2.out, Hpk.out])
            simp only [Nat.zero_mul] at d1 d2
            clear hax hay
            go_upto_region 15 with fail
            refine wp_region_over (by kernel_rfl) (by kernel_rfl) ?_; (repeat (go_big_quiet_step (fail))); refine wpQuiet_nil ?_; rintro _ ⟨x, rfl⟩
            go_wp2_with (at_builtin; refine wp_append_pt rfl _ _ rfl w0 _ S (HO2.out.grew (by (repeat (first | exact Grew.refl _ | refine Grew.over ?_ _ | refine Grew.alloc ?_ _ | refine Grew.drew ?_ | refine Grew.drewN ?_ _)))) (Hg2.out.trans (by (repeat (first | exact Grew.refl _ | refine Grew.over ?_ _ | refine Grew.alloc ?_ _ | refine Grew.drew ?_ | refine Grew.drewN ?_ _)))) rfl _ rfl ax ay (by (simp [go_sem, ↓IntWalk.iteOmega])) (by (simp [go_sem, ↓IntWalk.iteOmega])) (by omega) ?_; intro v1 w1 hO1 hg1; have HO1 := Lib.hid hO1; have Hg1 := Lib.hid hg1; clear hO1 hg1)
            go_roundw
            case rel => exact ⟨0 + 1, _, by omega, by go_num, Hst.out, Hg1.out, HO1.out⟩
            case measure => simp [intOf]; omega
          have hk0 : ((k : Int) == 0) = false := by rw [beq_eq_false_iff_ne]; omega
          by_cases hl : k + 1 = P.length
          · have hk1 : ((k : Int) + 1 == (P.length : Int)) = true := by rw [beq_iff_eq]; omega
            have Hst : Hid (simK P (k + 1) = S ++ [(ax, ay)]) := Lib.hid (by rw [simK, if_pos (by unfold keep; simp [hl]), Hcm2.out, Hpk.out])
            clear hl hax hay
            go_upto_region 15 with fail
            refine wp_region_over (by kernel_rfl) (by kernel_rfl) ?_; (repeat (go_big_quiet_step (fail))); refine wpQuiet_nil ?_; rintro _ ⟨x, rfl⟩
            go_wp2_with (at_builtin; refine wp_append_pt rfl _ _ rfl w0 _ S (HO2.out.grew (by (repeat (first | exact Grew.refl _ | refine Grew.over ?_ _ | refine Grew.alloc ?_ _ | refine Grew.drew ?_ | refine Grew.drewN ?_ _)))) (Hg2.out.trans (by (repeat (first | exact Grew.refl _ | refine Grew.over ?_ _ | refine Grew.alloc ?_ _ | refine Grew.drew ?_ | refine Grew.drewN ?_ _)))) rfl _ rfl ax ay (by (simp [go_sem, ↓IntWalk.iteOmega])) (by (simp [go_sem, ↓IntWalk.iteOmega])) (by omega) ?_; intro v1 w1 hO1 hg1; have HO1 := Lib.hid hO1; have Hg1 := Lib.hid hg1; clear hO1 hg1)
            go_roundw
            case rel => exact ⟨k + 1, _, by omega, by go_num, Hst.out, Hg1.out, HO1.out⟩
            case measure => simp [intOf]; omega
          have hk1 : ((k : Int) + 1 == (P.length : Int)) = false := by rw [beq_eq_false_iff_ne]; omega
          obtain ⟨j, hj⟩ : ∃ j, j + 1 = k := ⟨k - 1, by omega⟩
          obtain ⟨c1, c2⟩ := Hcl.out wr Hg2.out j (by omega)
          obtain ⟨e1, e2⟩ := Hcl.out wr Hg2.out (k + 1) (by omega)
          have v1 := Hvd.out j (by omega)
          have v2 := Hvd.out k (by omega)
          have v3 := Hvd.out (k + 1) (by omega)
          have hkj : k - 1 = j := by omega
          have Hkp := Lib.hid (fun b h => keep_eq (P := P) (k := k) (b := b) (by omega) hl h)
          rw [hkj] at Hkp
          obtain ⟨bx, hbx⟩ : ∃ x, (pr P j).1 = x := ⟨_, rfl⟩
          obtain ⟨bZ, hbZ⟩ : ∃ x, (pr P j).2 = x := ⟨_, rfl⟩
          obtain ⟨cx, hcx⟩ : ∃ x, (pr P (k + 1)).1 = x := ⟨_, rfl⟩
          obtain ⟨cy, hcy⟩ : ∃ x, (pr P (k + 1)).2 = x := ⟨_, rfl⟩
          rw [hbx] at c1 v1
          rw [hbZ] at c2 v1
          rw [hax, hay] at v2
          rw [hcx] at e1 v3
          rw [hcy] at e2 v3
          rw [hax, hay, hbx, hbZ, hcx, hcy] at Hkp
          have V1 := Lib.hid v1
          have V2 := Lib.hid v2
          have V3 := Lib.hid v3
          obtain ⟨k1, hk1'⟩ : ∃ k1, k + 1 = k1 := ⟨_, rfl⟩
          have hi1 : (k : Int) + 1 = (k1 : Int) := by omega
          have hsub : (k : Int) - 1 = (j : Int) := by omega
          have hlt1 : k1 < P.length := by omega
          have hltj : j < P.length := by omega
          rw [hk1'] at e1 e2
          rw [hi1] at hk1
          have Hk1 := Lib.hid hk1'
          cases hbe : benB bx bZ ax ay cx cy
          · have Hb := Lib.hid hbe
            have Hst : Hid (simK P (k + 1) = S) := Lib.hid (by rw [simK, if_neg (by rw [Hkp.out _ hbe]; decide), Hcm2.out])
            clear v1 v2 v3 hax hay hbx hbZ hcx hcy hk1' hj hkj hbe hl
            go_upto_region 15 with fail
            refine wp_region_over (by kernel_rfl) (by kernel_rfl) ?_; (repeat (go_big_quiet_step ((go_at_call 33; apply over_call; with_reducible exact bend_re Hb.out V1.out V2.out V3.out _)))); refine wpQuiet_nil ?_; rintro _ ⟨x, rfl⟩
            go_wp2
            go_roundw
            case rel => exact ⟨k + 1, S, by omega, by go_num, Hst.out, Hg2.out.trans (by (repeat (first | exact Grew.refl _ | refine Grew.over ?_ _ | refine Grew.alloc ?_ _ | refine Grew.drew ?_ | refine Grew.drewN ?_ _))), HO2.out.grew (by (repeat (first | exact Grew.refl _ | refine Grew.over ?_ _ | refine Grew.alloc ?_ _ | refine Grew.drew ?_ | refine Grew.drewN ?_ _)))⟩
            case measure => simp [intOf]; omega
          · have Hb := Lib.hid hbe
            have Hst : Hid (simK P (k + 1) = S ++ [(ax, ay)]) := Lib.hid (by rw [simK, if_pos (by rw [Hkp.out _ hbe]), Hcm2.out, Hpk.out])
            clear v1 v2 v3 hax hay hbx hbZ hcx hcy hk1' hj hkj hbe hl
            go_upto_region 15 with fail
            refine wp_region_over (by kernel_rfl) (by kernel_rfl) ?_; (repeat (go_big_quiet_step ((go_at_call 33; apply over_call; with_reducible exact bend_re Hb.out V1.out V2.out V3.out _)))); refine wpQuiet_nil ?_; rintro _ ⟨x, rfl⟩
            go_wp2_with (at_builtin; refine wp_append_pt rfl _ _ rfl w0 _ S (HO2.out.grew (by (repeat (first | exact Grew.refl _ | refine Grew.over ?_ _ | refine Grew.alloc ?_ _ | refine Grew.drew ?_ | refine Grew.drewN ?_ _)))) (Hg2.out.trans (by (repeat (first | exact Grew.refl _ | refine Grew.over ?_ _ | refine Grew.alloc ?_ _ | refine Grew.drew ?_ | refine Grew.drewN ?_ _)))) rfl _ rfl ax ay (by (simp [go_sem, ↓IntWalk.iteOmega])) (by (simp [go_sem, ↓IntWalk.iteOmega])) (by omega) ?_; intro v1 w1 hO1 hg1; have HO1 := Lib.hid hO1; have Hg1 := Lib.hid hg1; clear hO1 hg1)
            go_roundw
            case rel => exact ⟨k + 1, _, by omega, by go_num, Hst.out, Hg1.out, HO1.out⟩
            case measure => simp [intOf]; omega
        · have hke : k = P.length := by omega
          subst hke
          have Hsf2 : Hid (simF E = S) := Lib.hid (by rw [Hsf.out, Hcm2.out])
          go_wp2
          go_ret
          refine ⟨Hg.out.trans Hg2.out, _, rfl, ?_⟩
          rw [Hsf2.out]
          exact HO2.out.base Hg.out.below.size

end Go.Proofs.Ytmljfjcebfonaaa
