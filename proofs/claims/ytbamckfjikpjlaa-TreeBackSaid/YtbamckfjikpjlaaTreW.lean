/- Rename of the reference. -/
import Derived.Test.YtbamckfjikpjlaaTreV
set_option linter.unusedSimpArgs false
set_option linter.unusedVariables false
namespace Go.Proofs.Ytbamckfjikpjlaa
open Go.RowKit
attribute [local go_sem ↓] Go.wp_at_zero Go.wp_at_succ

set_option maxHeartbeats 4000000 in
theorem rename_r (name : ByteArray) (dir : Bool) (p : Option Addr) (n cap : Nat) (l : List St) (f t : ByteArray) (w : World) (hS : Sts 20 w p cap l) (hn : l.length = n) (hc : cntL l ≤ 600) (hd : depL l ≤ 20) (hsm : smL l) (ht : t.size ≤ maxLen) :
    Calls Try.prog 16 #[.agg #[.string name, .bool dir, .slice p n cap], .string f, .string t] w fun e w' => RnPost name dir l f t e w' ∧ Grew w w' := by
  have HS := Lib.hid hS
  have Hb := Lib.hid (RnB.start w (.string name) (.bool dir) (.slice p n cap) 24)
  clear hS
  obtain ⟨e0, he⟩ : ∃ e, vlE name l = e := ⟨_, rfl⟩
  have He := Lib.hid he
  clear he
  by_cases h0 : e0 = 0
  case neg =>
    have hr := Lib.hid (show rnE name l f t = 1 from if_neg (by rw [He.out]; exact h0))
    have h0' : (e0 == 0) = false := beq_eq_false_iff_ne.2 h0
    have h0'' : (e0 != 0) = true := bne_iff_ne.2 h0
    go_enter Try.func16, Try.ntmps16
    go_wp2_with (go_at_call 21; apply Calls.mono; (with_reducible exact validr_e He.out HS.out (by (repeat (first | exact Grew.refl _ | refine Grew.over ?_ _ | refine Grew.alloc ?_ _ | refine Grew.drew ?_ | refine Grew.drewN ?_ _))) hn hc hd); rintro e w1 ⟨rfl, hg1⟩; have Hg1 := Lib.hid (show Grew w w1 from Grew.trans (by (repeat (first | exact Grew.refl _ | refine Grew.over ?_ _ | refine Grew.alloc ?_ _ | refine Grew.drew ?_ | refine Grew.drewN ?_ _))) hg1); obtain ⟨k0, ⟨k1, k2, k3, k4⟩, k5, k6, k7, k8, k9, k10⟩ := Hb.out.grew hg1; clear hg1)
    refine bodyPost_ret (v := .tuple #[.agg #[.string ⟨#[]⟩, .bool false, .slice none 0 0], .int .i64 1]) (by rw [results_cell_tmp rfl]; simp [go_sem, *]) rfl ⟨RnPost.err hr.out (by decide), ?_⟩
    exact ((Hg1.out.setCell (Nat.le_succ _) _).setCell (Nat.le_succ _) _).setCell (Nat.le_succ _) _
  subst h0
  obtain ⟨N, hN⟩ : ∃ N, namesL name l = N := ⟨_, rfl⟩
  obtain ⟨C, hC⟩ : ∃ C, clustL name l = C := ⟨_, rfl⟩
  have HN := Lib.hid hN
  have HC := Lib.hid hC
  have Hsm := Lib.hid hsm
  have HG := Lib.hid (Grew.refl ((w.alloc (.cells #[.string name, .bool dir, .slice p n cap] 24)).alloc (.cells #[.string ⟨#[]⟩, .bool false, .slice none 0 0] 24)))
  have hcs := rn_cases (f := f) (t := t) He.out hN hC
  clear hN hC hsm
  rcases hcs with ⟨hnf, hr⟩ | ⟨hnf, hnt, hr⟩ | ⟨hnf, hnt, hmf, hr⟩ | ⟨hnf, hnt, hmf, hmt, hr⟩ | ⟨hnf, hnt, hmf, hmt, hmc, hr⟩ | ⟨hnf, hnt, hmf, hmt, hmc, hr⟩
  · try replace hnf := Lib.hid hnf
    try replace hnt := Lib.hid hnt
    try replace hmf := Lib.hid hmf
    try replace hmt := Lib.hid hmt
    try replace hmc := Lib.hid hmc
    replace hr := Lib.hid hr
    go_enter Try.func16, Try.ntmps16
    go_wp2_with (first
      | (go_at_call 21; apply Calls.mono; (with_reducible exact validr_e He.out HS.out (Grew.trans (by (repeat (first | exact Grew.refl _ | refine Grew.over ?_ _ | refine Grew.alloc ?_ _ | refine Grew.drew ?_ | refine Grew.drewN ?_ _))) HG.out) hn hc hd); rintro e w1 ⟨rfl, hg1⟩; have HG := Lib.hid (HG.out.trans (Grew.trans (by (repeat (first | exact Grew.refl _ | refine Grew.over ?_ _ | refine Grew.alloc ?_ _ | refine Grew.drew ?_ | refine Grew.drewN ?_ _))) hg1)); obtain ⟨k0, ⟨k1, k2, k3, k4⟩, k5, k6, k7, k8, k9, k10⟩ := Hb.out.grew HG.out; clear hg1)
      | (go_at_call 35; apply Calls.mono; (with_reducible exact name_e hnf.out); rintro e w' ⟨rfl, rfl⟩)
      | (go_at_call 35; apply Calls.mono; (with_reducible exact name_e hnt.out); rintro e w' ⟨rfl, rfl⟩)
      | (go_at_call 12; apply Calls.mono; (with_reducible exact namesr_e HN.out HS.out (Grew.trans (by (repeat (first | exact Grew.refl _ | refine Grew.over ?_ _ | refine Grew.alloc ?_ _ | refine Grew.drew ?_ | refine Grew.drewN ?_ _))) HG.out) hn hc hd Hsm.out); rintro e w1 ⟨⟨qN, cN, rfl, hsN⟩, hg1⟩; have HG := Lib.hid (HG.out.trans (Grew.trans (by (repeat (first | exact Grew.refl _ | refine Grew.over ?_ _ | refine Grew.alloc ?_ _ | refine Grew.drew ?_ | refine Grew.drewN ?_ _))) hg1)); obtain ⟨k0, ⟨k1, k2, k3, k4⟩, k5, k6, k7, k8, k9, k10⟩ := Hb.out.grew HG.out; have HsN := Lib.hid hsN; clear hg1 hsN)
      | (go_at_call 14; apply Calls.mono; (with_reducible exact clustr_e HC.out HS.out (Grew.trans (by (repeat (first | exact Grew.refl _ | refine Grew.over ?_ _ | refine Grew.alloc ?_ _ | refine Grew.drew ?_ | refine Grew.drewN ?_ _))) HG.out) hn hc hd); rintro e w1 ⟨⟨qC, cC, rfl, hsC⟩, hg1⟩; have HG := Lib.hid (HG.out.trans (Grew.trans (by (repeat (first | exact Grew.refl _ | refine Grew.over ?_ _ | refine Grew.alloc ?_ _ | refine Grew.drew ?_ | refine Grew.drewN ?_ _))) hg1)); obtain ⟨k0, ⟨k1, k2, k3, k4⟩, k5, k6, k7, k8, k9, k10⟩ := Hb.out.grew HG.out; have HsC := Lib.hid hsC; clear hg1 hsC)
      | (go_at_call 31; apply Calls.mono; (with_reducible exact hasr_e hmc.out HsC.out rfl); rintro e w1 ⟨rfl, hg1⟩; have HG := Lib.hid (HG.out.trans (Grew.trans (by (repeat (first | exact Grew.refl _ | refine Grew.over ?_ _ | refine Grew.alloc ?_ _ | refine Grew.drew ?_ | refine Grew.drewN ?_ _))) hg1)); obtain ⟨k0, ⟨k1, k2, k3, k4⟩, k5, k6, k7, k8, k9, k10⟩ := Hb.out.grew HG.out; clear hg1)
      | (go_at_call 31; apply Calls.mono; (with_reducible exact hasr_e hmf.out HsN.out rfl); rintro e w1 ⟨rfl, hg1⟩; have HG := Lib.hid (HG.out.trans (Grew.trans (by (repeat (first | exact Grew.refl _ | refine Grew.over ?_ _ | refine Grew.alloc ?_ _ | refine Grew.drew ?_ | refine Grew.drewN ?_ _))) hg1)); obtain ⟨k0, ⟨k1, k2, k3, k4⟩, k5, k6, k7, k8, k9, k10⟩ := Hb.out.grew HG.out; have HsN := Lib.hid (HsN.out.grew stable_str hg1); clear hg1)
      | (go_at_call 31; apply Calls.mono; (with_reducible exact hasr_e hmt.out HsN.out rfl); rintro e w1 ⟨rfl, hg1⟩; have HG := Lib.hid (HG.out.trans (Grew.trans (by (repeat (first | exact Grew.refl _ | refine Grew.over ?_ _ | refine Grew.alloc ?_ _ | refine Grew.drew ?_ | refine Grew.drewN ?_ _))) hg1)); obtain ⟨k0, ⟨k1, k2, k3, k4⟩, k5, k6, k7, k8, k9, k10⟩ := Hb.out.grew HG.out; have HsN := Lib.hid (HsN.out.grew stable_str hg1); clear hg1)
      | (go_at_call 36; apply Calls.mono; (with_reducible exact renamed_r f t ht 20 _ _ _ l w _ HS.out hn hc Hsm.out (Grew.trans (by (repeat (first | exact Grew.refl _ | refine Grew.over ?_ _ | refine Grew.alloc ?_ _ | refine Grew.drew ?_ | refine Grew.drewN ?_ _))) HG.out)); rintro e w1 ⟨⟨q6, c6, rfl, hs6⟩, hg1⟩; have hbw := k0; have HG := Lib.hid (HG.out.trans (Grew.trans (by (repeat (first | exact Grew.refl _ | refine Grew.over ?_ _ | refine Grew.alloc ?_ _ | refine Grew.drew ?_ | refine Grew.drewN ?_ _))) hg1)); obtain ⟨k0, ⟨k1, k2, k3, k4⟩, k5, k6, k7, k8, k9, k10⟩ := Hb.out.grew HG.out; have Hs6 := Lib.hid hs6; have Hbw := Lib.hid hbw; clear hg1 hs6 hbw))
    refine bodyPost_ret (v := .tuple #[.agg #[.string ⟨#[]⟩, .bool false, .slice none 0 0], .int .i64 5]) (by rw [results_cell_tmp rfl]; simp [go_sem, *]) rfl ⟨RnPost.err hr.out (by decide), ?_⟩
    exact (((Grew.trans (by (repeat (first | exact Grew.refl _ | refine Grew.over ?_ _ | refine Grew.alloc ?_ _ | refine Grew.drew ?_ | refine Grew.drewN ?_ _))) HG.out).setCell (Nat.le_succ _) _).setCell (Nat.le_succ _) _).setCell (Nat.le_succ _) _
  · try replace hnf := Lib.hid hnf
    try replace hnt := Lib.hid hnt
    try replace hmf := Lib.hid hmf
    try replace hmt := Lib.hid hmt
    try replace hmc := Lib.hid hmc
    replace hr := Lib.hid hr
    go_enter Try.func16, Try.ntmps16
    go_wp2_with (first
      | (go_at_call 21; apply Calls.mono; (with_reducible exact validr_e He.out HS.out (Grew.trans (by (repeat (first | exact Grew.refl _ | refine Grew.over ?_ _ | refine Grew.alloc ?_ _ | refine Grew.drew ?_ | refine Grew.drewN ?_ _))) HG.out) hn hc hd); rintro e w1 ⟨rfl, hg1⟩; have HG := Lib.hid (HG.out.trans (Grew.trans (by (repeat (first | exact Grew.refl _ | refine Grew.over ?_ _ | refine Grew.alloc ?_ _ | refine Grew.drew ?_ | refine Grew.drewN ?_ _))) hg1)); obtain ⟨k0, ⟨k1, k2, k3, k4⟩, k5, k6, k7, k8, k9, k10⟩ := Hb.out.grew HG.out; clear hg1)
      | (go_at_call 35; apply Calls.mono; (with_reducible exact name_e hnf.out); rintro e w' ⟨rfl, rfl⟩)
      | (go_at_call 35; apply Calls.mono; (with_reducible exact name_e hnt.out); rintro e w' ⟨rfl, rfl⟩)
      | (go_at_call 12; apply Calls.mono; (with_reducible exact namesr_e HN.out HS.out (Grew.trans (by (repeat (first | exact Grew.refl _ | refine Grew.over ?_ _ | refine Grew.alloc ?_ _ | refine Grew.drew ?_ | refine Grew.drewN ?_ _))) HG.out) hn hc hd Hsm.out); rintro e w1 ⟨⟨qN, cN, rfl, hsN⟩, hg1⟩; have HG := Lib.hid (HG.out.trans (Grew.trans (by (repeat (first | exact Grew.refl _ | refine Grew.over ?_ _ | refine Grew.alloc ?_ _ | refine Grew.drew ?_ | refine Grew.drewN ?_ _))) hg1)); obtain ⟨k0, ⟨k1, k2, k3, k4⟩, k5, k6, k7, k8, k9, k10⟩ := Hb.out.grew HG.out; have HsN := Lib.hid hsN; clear hg1 hsN)
      | (go_at_call 14; apply Calls.mono; (with_reducible exact clustr_e HC.out HS.out (Grew.trans (by (repeat (first | exact Grew.refl _ | refine Grew.over ?_ _ | refine Grew.alloc ?_ _ | refine Grew.drew ?_ | refine Grew.drewN ?_ _))) HG.out) hn hc hd); rintro e w1 ⟨⟨qC, cC, rfl, hsC⟩, hg1⟩; have HG := Lib.hid (HG.out.trans (Grew.trans (by (repeat (first | exact Grew.refl _ | refine Grew.over ?_ _ | refine Grew.alloc ?_ _ | refine Grew.drew ?_ | refine Grew.drewN ?_ _))) hg1)); obtain ⟨k0, ⟨k1, k2, k3, k4⟩, k5, k6, k7, k8, k9, k10⟩ := Hb.out.grew HG.out; have HsC := Lib.hid hsC; clear hg1 hsC)
      | (go_at_call 31; apply Calls.mono; (with_reducible exact hasr_e hmc.out HsC.out rfl); rintro e w1 ⟨rfl, hg1⟩; have HG := Lib.hid (HG.out.trans (Grew.trans (by (repeat (first | exact Grew.refl _ | refine Grew.over ?_ _ | refine Grew.alloc ?_ _ | refine Grew.drew ?_ | refine Grew.drewN ?_ _))) hg1)); obtain ⟨k0, ⟨k1, k2, k3, k4⟩, k5, k6, k7, k8, k9, k10⟩ := Hb.out.grew HG.out; clear hg1)
      | (go_at_call 31; apply Calls.mono; (with_reducible exact hasr_e hmf.out HsN.out rfl); rintro e w1 ⟨rfl, hg1⟩; have HG := Lib.hid (HG.out.trans (Grew.trans (by (repeat (first | exact Grew.refl _ | refine Grew.over ?_ _ | refine Grew.alloc ?_ _ | refine Grew.drew ?_ | refine Grew.drewN ?_ _))) hg1)); obtain ⟨k0, ⟨k1, k2, k3, k4⟩, k5, k6, k7, k8, k9, k10⟩ := Hb.out.grew HG.out; have HsN := Lib.hid (HsN.out.grew stable_str hg1); clear hg1)
      | (go_at_call 31; apply Calls.mono; (with_reducible exact hasr_e hmt.out HsN.out rfl); rintro e w1 ⟨rfl, hg1⟩; have HG := Lib.hid (HG.out.trans (Grew.trans (by (repeat (first | exact Grew.refl _ | refine Grew.over ?_ _ | refine Grew.alloc ?_ _ | refine Grew.drew ?_ | refine Grew.drewN ?_ _))) hg1)); obtain ⟨k0, ⟨k1, k2, k3, k4⟩, k5, k6, k7, k8, k9, k10⟩ := Hb.out.grew HG.out; have HsN := Lib.hid (HsN.out.grew stable_str hg1); clear hg1)
      | (go_at_call 36; apply Calls.mono; (with_reducible exact renamed_r f t ht 20 _ _ _ l w _ HS.out hn hc Hsm.out (Grew.trans (by (repeat (first | exact Grew.refl _ | refine Grew.over ?_ _ | refine Grew.alloc ?_ _ | refine Grew.drew ?_ | refine Grew.drewN ?_ _))) HG.out)); rintro e w1 ⟨⟨q6, c6, rfl, hs6⟩, hg1⟩; have hbw := k0; have HG := Lib.hid (HG.out.trans (Grew.trans (by (repeat (first | exact Grew.refl _ | refine Grew.over ?_ _ | refine Grew.alloc ?_ _ | refine Grew.drew ?_ | refine Grew.drewN ?_ _))) hg1)); obtain ⟨k0, ⟨k1, k2, k3, k4⟩, k5, k6, k7, k8, k9, k10⟩ := Hb.out.grew HG.out; have Hs6 := Lib.hid hs6; have Hbw := Lib.hid hbw; clear hg1 hs6 hbw))
    refine bodyPost_ret (v := .tuple #[.agg #[.string ⟨#[]⟩, .bool false, .slice none 0 0], .int .i64 5]) (by rw [results_cell_tmp rfl]; simp [go_sem, *]) rfl ⟨RnPost.err hr.out (by decide), ?_⟩
    exact (((Grew.trans (by (repeat (first | exact Grew.refl _ | refine Grew.over ?_ _ | refine Grew.alloc ?_ _ | refine Grew.drew ?_ | refine Grew.drewN ?_ _))) HG.out).setCell (Nat.le_succ _) _).setCell (Nat.le_succ _) _).setCell (Nat.le_succ _) _
  · try replace hnf := Lib.hid hnf
    try replace hnt := Lib.hid hnt
    try replace hmf := Lib.hid hmf
    try replace hmt := Lib.hid hmt
    try replace hmc := Lib.hid hmc
    replace hr := Lib.hid hr
    go_enter Try.func16, Try.ntmps16
    go_wp2_with (first
      | (go_at_call 21; apply Calls.mono; (with_reducible exact validr_e He.out HS.out (Grew.trans (by (repeat (first | exact Grew.refl _ | refine Grew.over ?_ _ | refine Grew.alloc ?_ _ | refine Grew.drew ?_ | refine Grew.drewN ?_ _))) HG.out) hn hc hd); rintro e w1 ⟨rfl, hg1⟩; have HG := Lib.hid (HG.out.trans (Grew.trans (by (repeat (first | exact Grew.refl _ | refine Grew.over ?_ _ | refine Grew.alloc ?_ _ | refine Grew.drew ?_ | refine Grew.drewN ?_ _))) hg1)); obtain ⟨k0, ⟨k1, k2, k3, k4⟩, k5, k6, k7, k8, k9, k10⟩ := Hb.out.grew HG.out; clear hg1)
      | (go_at_call 35; apply Calls.mono; (with_reducible exact name_e hnf.out); rintro e w' ⟨rfl, rfl⟩)
      | (go_at_call 35; apply Calls.mono; (with_reducible exact name_e hnt.out); rintro e w' ⟨rfl, rfl⟩)
      | (go_at_call 12; apply Calls.mono; (with_reducible exact namesr_e HN.out HS.out (Grew.trans (by (repeat (first | exact Grew.refl _ | refine Grew.over ?_ _ | refine Grew.alloc ?_ _ | refine Grew.drew ?_ | refine Grew.drewN ?_ _))) HG.out) hn hc hd Hsm.out); rintro e w1 ⟨⟨qN, cN, rfl, hsN⟩, hg1⟩; have HG := Lib.hid (HG.out.trans (Grew.trans (by (repeat (first | exact Grew.refl _ | refine Grew.over ?_ _ | refine Grew.alloc ?_ _ | refine Grew.drew ?_ | refine Grew.drewN ?_ _))) hg1)); obtain ⟨k0, ⟨k1, k2, k3, k4⟩, k5, k6, k7, k8, k9, k10⟩ := Hb.out.grew HG.out; have HsN := Lib.hid hsN; clear hg1 hsN)
      | (go_at_call 14; apply Calls.mono; (with_reducible exact clustr_e HC.out HS.out (Grew.trans (by (repeat (first | exact Grew.refl _ | refine Grew.over ?_ _ | refine Grew.alloc ?_ _ | refine Grew.drew ?_ | refine Grew.drewN ?_ _))) HG.out) hn hc hd); rintro e w1 ⟨⟨qC, cC, rfl, hsC⟩, hg1⟩; have HG := Lib.hid (HG.out.trans (Grew.trans (by (repeat (first | exact Grew.refl _ | refine Grew.over ?_ _ | refine Grew.alloc ?_ _ | refine Grew.drew ?_ | refine Grew.drewN ?_ _))) hg1)); obtain ⟨k0, ⟨k1, k2, k3, k4⟩, k5, k6, k7, k8, k9, k10⟩ := Hb.out.grew HG.out; have HsC := Lib.hid hsC; clear hg1 hsC)
      | (go_at_call 31; apply Calls.mono; (with_reducible exact hasr_e hmc.out HsC.out rfl); rintro e w1 ⟨rfl, hg1⟩; have HG := Lib.hid (HG.out.trans (Grew.trans (by (repeat (first | exact Grew.refl _ | refine Grew.over ?_ _ | refine Grew.alloc ?_ _ | refine Grew.drew ?_ | refine Grew.drewN ?_ _))) hg1)); obtain ⟨k0, ⟨k1, k2, k3, k4⟩, k5, k6, k7, k8, k9, k10⟩ := Hb.out.grew HG.out; clear hg1)
      | (go_at_call 31; apply Calls.mono; (with_reducible exact hasr_e hmf.out HsN.out rfl); rintro e w1 ⟨rfl, hg1⟩; have HG := Lib.hid (HG.out.trans (Grew.trans (by (repeat (first | exact Grew.refl _ | refine Grew.over ?_ _ | refine Grew.alloc ?_ _ | refine Grew.drew ?_ | refine Grew.drewN ?_ _))) hg1)); obtain ⟨k0, ⟨k1, k2, k3, k4⟩, k5, k6, k7, k8, k9, k10⟩ := Hb.out.grew HG.out; have HsN := Lib.hid (HsN.out.grew stable_str hg1); clear hg1)
      | (go_at_call 31; apply Calls.mono; (with_reducible exact hasr_e hmt.out HsN.out rfl); rintro e w1 ⟨rfl, hg1⟩; have HG := Lib.hid (HG.out.trans (Grew.trans (by (repeat (first | exact Grew.refl _ | refine Grew.over ?_ _ | refine Grew.alloc ?_ _ | refine Grew.drew ?_ | refine Grew.drewN ?_ _))) hg1)); obtain ⟨k0, ⟨k1, k2, k3, k4⟩, k5, k6, k7, k8, k9, k10⟩ := Hb.out.grew HG.out; have HsN := Lib.hid (HsN.out.grew stable_str hg1); clear hg1)
      | (go_at_call 36; apply Calls.mono; (with_reducible exact renamed_r f t ht 20 _ _ _ l w _ HS.out hn hc Hsm.out (Grew.trans (by (repeat (first | exact Grew.refl _ | refine Grew.over ?_ _ | refine Grew.alloc ?_ _ | refine Grew.drew ?_ | refine Grew.drewN ?_ _))) HG.out)); rintro e w1 ⟨⟨q6, c6, rfl, hs6⟩, hg1⟩; have hbw := k0; have HG := Lib.hid (HG.out.trans (Grew.trans (by (repeat (first | exact Grew.refl _ | refine Grew.over ?_ _ | refine Grew.alloc ?_ _ | refine Grew.drew ?_ | refine Grew.drewN ?_ _))) hg1)); obtain ⟨k0, ⟨k1, k2, k3, k4⟩, k5, k6, k7, k8, k9, k10⟩ := Hb.out.grew HG.out; have Hs6 := Lib.hid hs6; have Hbw := Lib.hid hbw; clear hg1 hs6 hbw))
    refine bodyPost_ret (v := .tuple #[.agg #[.string ⟨#[]⟩, .bool false, .slice none 0 0], .int .i64 15]) (by rw [results_cell_tmp rfl]; simp [go_sem, *]) rfl ⟨RnPost.err hr.out (by decide), ?_⟩
    exact (((Grew.trans (by (repeat (first | exact Grew.refl _ | refine Grew.over ?_ _ | refine Grew.alloc ?_ _ | refine Grew.drew ?_ | refine Grew.drewN ?_ _))) HG.out).setCell (Nat.le_succ _) _).setCell (Nat.le_succ _) _).setCell (Nat.le_succ _) _
  · try replace hnf := Lib.hid hnf
    try replace hnt := Lib.hid hnt
    try replace hmf := Lib.hid hmf
    try replace hmt := Lib.hid hmt
    try replace hmc := Lib.hid hmc
    replace hr := Lib.hid hr
    go_enter Try.func16, Try.ntmps16
    go_wp2_with (first
      | (go_at_call 21; apply Calls.mono; (with_reducible exact validr_e He.out HS.out (Grew.trans (by (repeat (first | exact Grew.refl _ | refine Grew.over ?_ _ | refine Grew.alloc ?_ _ | refine Grew.drew ?_ | refine Grew.drewN ?_ _))) HG.out) hn hc hd); rintro e w1 ⟨rfl, hg1⟩; have HG := Lib.hid (HG.out.trans (Grew.trans (by (repeat (first | exact Grew.refl _ | refine Grew.over ?_ _ | refine Grew.alloc ?_ _ | refine Grew.drew ?_ | refine Grew.drewN ?_ _))) hg1)); obtain ⟨k0, ⟨k1, k2, k3, k4⟩, k5, k6, k7, k8, k9, k10⟩ := Hb.out.grew HG.out; clear hg1)
      | (go_at_call 35; apply Calls.mono; (with_reducible exact name_e hnf.out); rintro e w' ⟨rfl, rfl⟩)
      | (go_at_call 35; apply Calls.mono; (with_reducible exact name_e hnt.out); rintro e w' ⟨rfl, rfl⟩)
      | (go_at_call 12; apply Calls.mono; (with_reducible exact namesr_e HN.out HS.out (Grew.trans (by (repeat (first | exact Grew.refl _ | refine Grew.over ?_ _ | refine Grew.alloc ?_ _ | refine Grew.drew ?_ | refine Grew.drewN ?_ _))) HG.out) hn hc hd Hsm.out); rintro e w1 ⟨⟨qN, cN, rfl, hsN⟩, hg1⟩; have HG := Lib.hid (HG.out.trans (Grew.trans (by (repeat (first | exact Grew.refl _ | refine Grew.over ?_ _ | refine Grew.alloc ?_ _ | refine Grew.drew ?_ | refine Grew.drewN ?_ _))) hg1)); obtain ⟨k0, ⟨k1, k2, k3, k4⟩, k5, k6, k7, k8, k9, k10⟩ := Hb.out.grew HG.out; have HsN := Lib.hid hsN; clear hg1 hsN)
      | (go_at_call 14; apply Calls.mono; (with_reducible exact clustr_e HC.out HS.out (Grew.trans (by (repeat (first | exact Grew.refl _ | refine Grew.over ?_ _ | refine Grew.alloc ?_ _ | refine Grew.drew ?_ | refine Grew.drewN ?_ _))) HG.out) hn hc hd); rintro e w1 ⟨⟨qC, cC, rfl, hsC⟩, hg1⟩; have HG := Lib.hid (HG.out.trans (Grew.trans (by (repeat (first | exact Grew.refl _ | refine Grew.over ?_ _ | refine Grew.alloc ?_ _ | refine Grew.drew ?_ | refine Grew.drewN ?_ _))) hg1)); obtain ⟨k0, ⟨k1, k2, k3, k4⟩, k5, k6, k7, k8, k9, k10⟩ := Hb.out.grew HG.out; have HsC := Lib.hid hsC; clear hg1 hsC)
      | (go_at_call 31; apply Calls.mono; (with_reducible exact hasr_e hmc.out HsC.out rfl); rintro e w1 ⟨rfl, hg1⟩; have HG := Lib.hid (HG.out.trans (Grew.trans (by (repeat (first | exact Grew.refl _ | refine Grew.over ?_ _ | refine Grew.alloc ?_ _ | refine Grew.drew ?_ | refine Grew.drewN ?_ _))) hg1)); obtain ⟨k0, ⟨k1, k2, k3, k4⟩, k5, k6, k7, k8, k9, k10⟩ := Hb.out.grew HG.out; clear hg1)
      | (go_at_call 31; apply Calls.mono; (with_reducible exact hasr_e hmf.out HsN.out rfl); rintro e w1 ⟨rfl, hg1⟩; have HG := Lib.hid (HG.out.trans (Grew.trans (by (repeat (first | exact Grew.refl _ | refine Grew.over ?_ _ | refine Grew.alloc ?_ _ | refine Grew.drew ?_ | refine Grew.drewN ?_ _))) hg1)); obtain ⟨k0, ⟨k1, k2, k3, k4⟩, k5, k6, k7, k8, k9, k10⟩ := Hb.out.grew HG.out; have HsN := Lib.hid (HsN.out.grew stable_str hg1); clear hg1)
      | (go_at_call 31; apply Calls.mono; (with_reducible exact hasr_e hmt.out HsN.out rfl); rintro e w1 ⟨rfl, hg1⟩; have HG := Lib.hid (HG.out.trans (Grew.trans (by (repeat (first | exact Grew.refl _ | refine Grew.over ?_ _ | refine Grew.alloc ?_ _ | refine Grew.drew ?_ | refine Grew.drewN ?_ _))) hg1)); obtain ⟨k0, ⟨k1, k2, k3, k4⟩, k5, k6, k7, k8, k9, k10⟩ := Hb.out.grew HG.out; have HsN := Lib.hid (HsN.out.grew stable_str hg1); clear hg1)
      | (go_at_call 36; apply Calls.mono; (with_reducible exact renamed_r f t ht 20 _ _ _ l w _ HS.out hn hc Hsm.out (Grew.trans (by (repeat (first | exact Grew.refl _ | refine Grew.over ?_ _ | refine Grew.alloc ?_ _ | refine Grew.drew ?_ | refine Grew.drewN ?_ _))) HG.out)); rintro e w1 ⟨⟨q6, c6, rfl, hs6⟩, hg1⟩; have hbw := k0; have HG := Lib.hid (HG.out.trans (Grew.trans (by (repeat (first | exact Grew.refl _ | refine Grew.over ?_ _ | refine Grew.alloc ?_ _ | refine Grew.drew ?_ | refine Grew.drewN ?_ _))) hg1)); obtain ⟨k0, ⟨k1, k2, k3, k4⟩, k5, k6, k7, k8, k9, k10⟩ := Hb.out.grew HG.out; have Hs6 := Lib.hid hs6; have Hbw := Lib.hid hbw; clear hg1 hs6 hbw))
    refine bodyPost_ret (v := .tuple #[.agg #[.string ⟨#[]⟩, .bool false, .slice none 0 0], .int .i64 6]) (by rw [results_cell_tmp rfl]; simp [go_sem, *]) rfl ⟨RnPost.err hr.out (by decide), ?_⟩
    exact (((Grew.trans (by (repeat (first | exact Grew.refl _ | refine Grew.over ?_ _ | refine Grew.alloc ?_ _ | refine Grew.drew ?_ | refine Grew.drewN ?_ _))) HG.out).setCell (Nat.le_succ _) _).setCell (Nat.le_succ _) _).setCell (Nat.le_succ _) _
  · try replace hnf := Lib.hid hnf
    try replace hnt := Lib.hid hnt
    try replace hmf := Lib.hid hmf
    try replace hmt := Lib.hid hmt
    try replace hmc := Lib.hid hmc
    replace hr := Lib.hid hr
    go_enter Try.func16, Try.ntmps16
    go_wp2_with (first
      | (go_at_call 21; apply Calls.mono; (with_reducible exact validr_e He.out HS.out (Grew.trans (by (repeat (first | exact Grew.refl _ | refine Grew.over ?_ _ | refine Grew.alloc ?_ _ | refine Grew.drew ?_ | refine Grew.drewN ?_ _))) HG.out) hn hc hd); rintro e w1 ⟨rfl, hg1⟩; have HG := Lib.hid (HG.out.trans (Grew.trans (by (repeat (first | exact Grew.refl _ | refine Grew.over ?_ _ | refine Grew.alloc ?_ _ | refine Grew.drew ?_ | refine Grew.drewN ?_ _))) hg1)); obtain ⟨k0, ⟨k1, k2, k3, k4⟩, k5, k6, k7, k8, k9, k10⟩ := Hb.out.grew HG.out; clear hg1)
      | (go_at_call 35; apply Calls.mono; (with_reducible exact name_e hnf.out); rintro e w' ⟨rfl, rfl⟩)
      | (go_at_call 35; apply Calls.mono; (with_reducible exact name_e hnt.out); rintro e w' ⟨rfl, rfl⟩)
      | (go_at_call 12; apply Calls.mono; (with_reducible exact namesr_e HN.out HS.out (Grew.trans (by (repeat (first | exact Grew.refl _ | refine Grew.over ?_ _ | refine Grew.alloc ?_ _ | refine Grew.drew ?_ | refine Grew.drewN ?_ _))) HG.out) hn hc hd Hsm.out); rintro e w1 ⟨⟨qN, cN, rfl, hsN⟩, hg1⟩; have HG := Lib.hid (HG.out.trans (Grew.trans (by (repeat (first | exact Grew.refl _ | refine Grew.over ?_ _ | refine Grew.alloc ?_ _ | refine Grew.drew ?_ | refine Grew.drewN ?_ _))) hg1)); obtain ⟨k0, ⟨k1, k2, k3, k4⟩, k5, k6, k7, k8, k9, k10⟩ := Hb.out.grew HG.out; have HsN := Lib.hid hsN; clear hg1 hsN)
      | (go_at_call 14; apply Calls.mono; (with_reducible exact clustr_e HC.out HS.out (Grew.trans (by (repeat (first | exact Grew.refl _ | refine Grew.over ?_ _ | refine Grew.alloc ?_ _ | refine Grew.drew ?_ | refine Grew.drewN ?_ _))) HG.out) hn hc hd); rintro e w1 ⟨⟨qC, cC, rfl, hsC⟩, hg1⟩; have HG := Lib.hid (HG.out.trans (Grew.trans (by (repeat (first | exact Grew.refl _ | refine Grew.over ?_ _ | refine Grew.alloc ?_ _ | refine Grew.drew ?_ | refine Grew.drewN ?_ _))) hg1)); obtain ⟨k0, ⟨k1, k2, k3, k4⟩, k5, k6, k7, k8, k9, k10⟩ := Hb.out.grew HG.out; have HsC := Lib.hid hsC; clear hg1 hsC)
      | (go_at_call 31; apply Calls.mono; (with_reducible exact hasr_e hmc.out HsC.out rfl); rintro e w1 ⟨rfl, hg1⟩; have HG := Lib.hid (HG.out.trans (Grew.trans (by (repeat (first | exact Grew.refl _ | refine Grew.over ?_ _ | refine Grew.alloc ?_ _ | refine Grew.drew ?_ | refine Grew.drewN ?_ _))) hg1)); obtain ⟨k0, ⟨k1, k2, k3, k4⟩, k5, k6, k7, k8, k9, k10⟩ := Hb.out.grew HG.out; clear hg1)
      | (go_at_call 31; apply Calls.mono; (with_reducible exact hasr_e hmf.out HsN.out rfl); rintro e w1 ⟨rfl, hg1⟩; have HG := Lib.hid (HG.out.trans (Grew.trans (by (repeat (first | exact Grew.refl _ | refine Grew.over ?_ _ | refine Grew.alloc ?_ _ | refine Grew.drew ?_ | refine Grew.drewN ?_ _))) hg1)); obtain ⟨k0, ⟨k1, k2, k3, k4⟩, k5, k6, k7, k8, k9, k10⟩ := Hb.out.grew HG.out; have HsN := Lib.hid (HsN.out.grew stable_str hg1); clear hg1)
      | (go_at_call 31; apply Calls.mono; (with_reducible exact hasr_e hmt.out HsN.out rfl); rintro e w1 ⟨rfl, hg1⟩; have HG := Lib.hid (HG.out.trans (Grew.trans (by (repeat (first | exact Grew.refl _ | refine Grew.over ?_ _ | refine Grew.alloc ?_ _ | refine Grew.drew ?_ | refine Grew.drewN ?_ _))) hg1)); obtain ⟨k0, ⟨k1, k2, k3, k4⟩, k5, k6, k7, k8, k9, k10⟩ := Hb.out.grew HG.out; have HsN := Lib.hid (HsN.out.grew stable_str hg1); clear hg1)
      | (go_at_call 36; apply Calls.mono; (with_reducible exact renamed_r f t ht 20 _ _ _ l w _ HS.out hn hc Hsm.out (Grew.trans (by (repeat (first | exact Grew.refl _ | refine Grew.over ?_ _ | refine Grew.alloc ?_ _ | refine Grew.drew ?_ | refine Grew.drewN ?_ _))) HG.out)); rintro e w1 ⟨⟨q6, c6, rfl, hs6⟩, hg1⟩; have hbw := k0; have HG := Lib.hid (HG.out.trans (Grew.trans (by (repeat (first | exact Grew.refl _ | refine Grew.over ?_ _ | refine Grew.alloc ?_ _ | refine Grew.drew ?_ | refine Grew.drewN ?_ _))) hg1)); obtain ⟨k0, ⟨k1, k2, k3, k4⟩, k5, k6, k7, k8, k9, k10⟩ := Hb.out.grew HG.out; have Hs6 := Lib.hid hs6; have Hbw := Lib.hid hbw; clear hg1 hs6 hbw))
    refine bodyPost_ret (v := .tuple #[.agg #[.string ⟨#[]⟩, .bool false, .slice none 0 0], .int .i64 6]) (by rw [results_cell_tmp rfl]; simp [go_sem, *]) rfl ⟨RnPost.err hr.out (by decide), ?_⟩
    exact (((Grew.trans (by (repeat (first | exact Grew.refl _ | refine Grew.over ?_ _ | refine Grew.alloc ?_ _ | refine Grew.drew ?_ | refine Grew.drewN ?_ _))) HG.out).setCell (Nat.le_succ _) _).setCell (Nat.le_succ _) _).setCell (Nat.le_succ _) _
  · replace hnf := Lib.hid hnf
    replace hnt := Lib.hid hnt
    replace hmf := Lib.hid hmf
    replace hmt := Lib.hid hmt
    replace hmc := Lib.hid hmc
    replace hr := Lib.hid hr
    go_enter Try.func16, Try.ntmps16
    go_wp2_with (first
      | (go_at_call 21; apply Calls.mono; (with_reducible exact validr_e He.out HS.out (Grew.trans (by (repeat (first | exact Grew.refl _ | refine Grew.over ?_ _ | refine Grew.alloc ?_ _ | refine Grew.drew ?_ | refine Grew.drewN ?_ _))) HG.out) hn hc hd); rintro e w1 ⟨rfl, hg1⟩; have HG := Lib.hid (HG.out.trans (Grew.trans (by (repeat (first | exact Grew.refl _ | refine Grew.over ?_ _ | refine Grew.alloc ?_ _ | refine Grew.drew ?_ | refine Grew.drewN ?_ _))) hg1)); obtain ⟨k0, ⟨k1, k2, k3, k4⟩, k5, k6, k7, k8, k9, k10⟩ := Hb.out.grew HG.out; clear hg1)
      | (go_at_call 35; apply Calls.mono; (with_reducible exact name_e hnf.out); rintro e w' ⟨rfl, rfl⟩)
      | (go_at_call 35; apply Calls.mono; (with_reducible exact name_e hnt.out); rintro e w' ⟨rfl, rfl⟩)
      | (go_at_call 12; apply Calls.mono; (with_reducible exact namesr_e HN.out HS.out (Grew.trans (by (repeat (first | exact Grew.refl _ | refine Grew.over ?_ _ | refine Grew.alloc ?_ _ | refine Grew.drew ?_ | refine Grew.drewN ?_ _))) HG.out) hn hc hd Hsm.out); rintro e w1 ⟨⟨qN, cN, rfl, hsN⟩, hg1⟩; have HG := Lib.hid (HG.out.trans (Grew.trans (by (repeat (first | exact Grew.refl _ | refine Grew.over ?_ _ | refine Grew.alloc ?_ _ | refine Grew.drew ?_ | refine Grew.drewN ?_ _))) hg1)); obtain ⟨k0, ⟨k1, k2, k3, k4⟩, k5, k6, k7, k8, k9, k10⟩ := Hb.out.grew HG.out; have HsN := Lib.hid hsN; clear hg1 hsN)
      | (go_at_call 14; apply Calls.mono; (with_reducible exact clustr_e HC.out HS.out (Grew.trans (by (repeat (first | exact Grew.refl _ | refine Grew.over ?_ _ | refine Grew.alloc ?_ _ | refine Grew.drew ?_ | refine Grew.drewN ?_ _))) HG.out) hn hc hd); rintro e w1 ⟨⟨qC, cC, rfl, hsC⟩, hg1⟩; have HG := Lib.hid (HG.out.trans (Grew.trans (by (repeat (first | exact Grew.refl _ | refine Grew.over ?_ _ | refine Grew.alloc ?_ _ | refine Grew.drew ?_ | refine Grew.drewN ?_ _))) hg1)); obtain ⟨k0, ⟨k1, k2, k3, k4⟩, k5, k6, k7, k8, k9, k10⟩ := Hb.out.grew HG.out; have HsC := Lib.hid hsC; clear hg1 hsC)
      | (go_at_call 31; apply Calls.mono; (with_reducible exact hasr_e hmc.out HsC.out rfl); rintro e w1 ⟨rfl, hg1⟩; have HG := Lib.hid (HG.out.trans (Grew.trans (by (repeat (first | exact Grew.refl _ | refine Grew.over ?_ _ | refine Grew.alloc ?_ _ | refine Grew.drew ?_ | refine Grew.drewN ?_ _))) hg1)); obtain ⟨k0, ⟨k1, k2, k3, k4⟩, k5, k6, k7, k8, k9, k10⟩ := Hb.out.grew HG.out; clear hg1)
      | (go_at_call 31; apply Calls.mono; (with_reducible exact hasr_e hmf.out HsN.out rfl); rintro e w1 ⟨rfl, hg1⟩; have HG := Lib.hid (HG.out.trans (Grew.trans (by (repeat (first | exact Grew.refl _ | refine Grew.over ?_ _ | refine Grew.alloc ?_ _ | refine Grew.drew ?_ | refine Grew.drewN ?_ _))) hg1)); obtain ⟨k0, ⟨k1, k2, k3, k4⟩, k5, k6, k7, k8, k9, k10⟩ := Hb.out.grew HG.out; have HsN := Lib.hid (HsN.out.grew stable_str hg1); clear hg1)
      | (go_at_call 31; apply Calls.mono; (with_reducible exact hasr_e hmt.out HsN.out rfl); rintro e w1 ⟨rfl, hg1⟩; have HG := Lib.hid (HG.out.trans (Grew.trans (by (repeat (first | exact Grew.refl _ | refine Grew.over ?_ _ | refine Grew.alloc ?_ _ | refine Grew.drew ?_ | refine Grew.drewN ?_ _))) hg1)); obtain ⟨k0, ⟨k1, k2, k3, k4⟩, k5, k6, k7, k8, k9, k10⟩ := Hb.out.grew HG.out; have HsN := Lib.hid (HsN.out.grew stable_str hg1); clear hg1)
      | (go_at_call 36; apply Calls.mono; (with_reducible exact renamed_r f t ht 20 _ _ _ l w _ HS.out hn hc Hsm.out (Grew.trans (by (repeat (first | exact Grew.refl _ | refine Grew.over ?_ _ | refine Grew.alloc ?_ _ | refine Grew.drew ?_ | refine Grew.drewN ?_ _))) HG.out)); rintro e w1 ⟨⟨q6, c6, rfl, hs6⟩, hg1⟩; have hbw := k0; have HG := Lib.hid (HG.out.trans (Grew.trans (by (repeat (first | exact Grew.refl _ | refine Grew.over ?_ _ | refine Grew.alloc ?_ _ | refine Grew.drew ?_ | refine Grew.drewN ?_ _))) hg1)); obtain ⟨k0, ⟨k1, k2, k3, k4⟩, k5, k6, k7, k8, k9, k10⟩ := Hb.out.grew HG.out; have Hs6 := Lib.hid hs6; have Hbw := Lib.hid hbw; clear hg1 hs6 hbw))
    refine wp_region_T (s := 11) (S := fun w' => w'.cell? ⟨w.heap.size, 0, none⟩ = some (.string name) ∧ w'.cell? ⟨w.heap.size, 1, none⟩ = some (.bool dir) ∧ w'.cell? ⟨w.heap.size, 2, none⟩ = some (.slice p n cap)) (by kernel_rfl) ⟨by simpa using k1, by simpa using k2, by simpa using k3⟩ (fun hH => ?_)
    refine wpAnyT_takeL (i := 0) (v := ?_) rfl (by kernel_rfl) (by kernel_rfl) (by kernel_rfl) (by kernel_rfl) (fun _ _ _ h => h) (Or.inl ⟨by rfl, ?_⟩) (by assumption) ?_
    rotate_left
    · (intro w hSw; (try dsimp only at hSw); go_simp; (try with_reducible rfl))
    (try simp only [Act.put, List.setIfInBounds_toArray, List.set_cons_zero, List.set_cons_succ])
    refine wpAnyT_takeL (i := 1) (v := ?_) rfl (by kernel_rfl) (by kernel_rfl) (by kernel_rfl) (by kernel_rfl) (fun _ _ _ h => h) (Or.inl ⟨by rfl, ?_⟩) (by assumption) ?_
    rotate_left
    · (intro w hSw; (try dsimp only at hSw); go_simp; (try with_reducible rfl))
    (try simp only [Act.put, List.setIfInBounds_toArray, List.set_cons_zero, List.set_cons_succ])
    refine wpAnyT_takeL (i := 2) (v := ?_) rfl (by kernel_rfl) (by kernel_rfl) (by kernel_rfl) (by kernel_rfl) (fun _ _ _ h => h) (Or.inl ⟨by rfl, ?_⟩) (by assumption) ?_
    rotate_left
    · (intro w hSw; (try dsimp only at hSw); go_simp; (try with_reducible rfl))
    (try simp only [Act.put, List.setIfInBounds_toArray, List.set_cons_zero, List.set_cons_succ])
    refine wpAnyT_takeL (i := 3) (v := ?_) rfl (by kernel_rfl) (by kernel_rfl) (by kernel_rfl) (by kernel_rfl) (fun _ _ _ h => h) (Or.inl ⟨by rfl, ?_⟩) (by assumption) ?_
    rotate_left
    · (intro w hSw; (try dsimp only at hSw); go_simp; (try with_reducible rfl))
    (try simp only [Act.put, List.setIfInBounds_toArray, List.set_cons_zero, List.set_cons_succ])
    refine wpAnyT_takeL (i := 4) (v := ?_) rfl (by kernel_rfl) (by kernel_rfl) (by kernel_rfl) (by kernel_rfl) (fun _ _ _ h => h) (Or.inl ⟨by rfl, ?_⟩) (by assumption) ?_
    rotate_left
    · (intro w hSw; (try dsimp only at hSw); go_simp; (try with_reducible rfl))
    (try simp only [Act.put, List.setIfInBounds_toArray, List.set_cons_zero, List.set_cons_succ])
    refine wpAnyT_takeL (i := 5) (v := ?_) rfl (by kernel_rfl) (by kernel_rfl) (by kernel_rfl) (by kernel_rfl) (fun _ _ _ h => h) (Or.inl ⟨by rfl, ?_⟩) (by assumption) ?_
    rotate_left
    · (intro w hSw; (try dsimp only at hSw); go_simp; (try with_reducible rfl))
    (try simp only [Act.put, List.setIfInBounds_toArray, List.set_cons_zero, List.set_cons_succ])
    refine wpAnyT_takeL (i := 6) (v := ?_) rfl (by kernel_rfl) (by kernel_rfl) (by kernel_rfl) (by kernel_rfl) (fun _ _ _ h => h) (Or.inl ⟨by rfl, ?_⟩) (by assumption) ?_
    rotate_left
    · (intro w hSw; (try dsimp only at hSw); go_simp; (try with_reducible rfl))
    (try simp only [Act.put, List.setIfInBounds_toArray, List.set_cons_zero, List.set_cons_succ])
    refine wpAnyT_takeL (i := 7) (v := ?_) rfl (by kernel_rfl) (by kernel_rfl) (by kernel_rfl) (by kernel_rfl) (fun _ _ _ h => h) (Or.inl ⟨by rfl, ?_⟩) (by assumption) ?_
    rotate_left
    · (intro w hSw; (try dsimp only at hSw); go_simp; (try with_reducible rfl))
    (try simp only [Act.put, List.setIfInBounds_toArray, List.set_cons_zero, List.set_cons_succ])
    refine wpAnyT_all (rs := [8]) (by kernel_rfl) (by simp) (AllT.consL (i := 8) rfl (fun K hK => ?_) AllT.nil)
    go_simp; go_wp2_with (go_at_call 36; apply Calls.mono; (with_reducible exact renamed_r f t ht 20 _ _ _ l w _ HS.out hn hc Hsm.out ((Grew.trans (by (repeat (first | exact Grew.refl _ | refine Grew.over ?_ _ | refine Grew.alloc ?_ _ | refine Grew.drew ?_ | refine Grew.drewN ?_ _))) HG.out).trans (by (repeat (first | exact Grew.refl _ | refine Grew.over ?_ _ | refine Grew.alloc ?_ _ | refine Grew.drew ?_ | refine Grew.drewN ?_ _))))); rintro e w9 ⟨⟨q6, c6, rfl, hs6⟩, hg1⟩; have hbw := k0; have HG := Lib.hid (HG.out.trans (Grew.trans (by (repeat (first | exact Grew.refl _ | refine Grew.over ?_ _ | refine Grew.alloc ?_ _ | refine Grew.drew ?_ | refine Grew.drewN ?_ _))) hg1)); obtain ⟨k0, ⟨k1, k2, k3, k4⟩, k5, k6, k7, k8, k9, k10⟩ := Hb.out.grew HG.out; have Hs6 := Lib.hid hs6; have Hbw := Lib.hid hbw; clear hg1 hs6 hbw)
    refine hK.out _ _ ?_ (fun hH => ?_)
    · (first | (simp [go_sem, ↓IntWalk.iteOmega, *]; done) | go_keep)
    clear hK K
    (try simp only [Act.put, List.setIfInBounds_toArray, List.set_cons_zero, List.set_cons_succ])
    refine wpAnyT_takeL (i := 9) (v := ?_) rfl (by kernel_rfl) (by kernel_rfl) (by kernel_rfl) (by kernel_rfl) (fun _ _ _ h => h) (Or.inl ⟨by rfl, ?_⟩) (by assumption) ?_
    rotate_left
    · (intro w hSw; (try dsimp only at hSw); go_simp; (try with_reducible rfl))
    (try simp only [Act.put, List.setIfInBounds_toArray, List.set_cons_zero, List.set_cons_succ])
    refine wpAnyT_all (rs := [10]) (by kernel_rfl) (by simp) (AllT.consL (i := 10) rfl (fun K hK => ?_) AllT.nil)
    go_simp
    refine hK.out _ _ ?_ (fun hH => ?_)
    · (first | (simp [go_sem, ↓IntWalk.iteOmega, *]; done) | go_keep)
    clear hK K
    (try simp only [Act.put, List.setIfInBounds_toArray, List.set_cons_zero, List.set_cons_succ])
    refine wpAnyT_all (rs := [11]) (by kernel_rfl) (by simp) (AllT.lastL rfl (fun K hK => ?_))
    go_simp
    refine hK.out _ _ ?_
    clear hK K
    (try simp only [Act.put, List.setIfInBounds_toArray, List.set_cons_zero, List.set_cons_succ])
    refine wpAnyT_done (by kernel_rfl) ?_ _
    go_wp2
    refine bodyPost_ret (v := .tuple #[.agg #[.string name, .bool dir, .slice q6 n c6], .int .i64 0]) (by rw [results_cell_tmp rfl]; simp [go_sem, *]) rfl ⟨RnPost.ok hr.out hn ?_, ?_⟩
    · exact rn_sts Hs6.out Hbw.out ((((Gr.refl _ w9).setCell (Or.inr rfl) _).setCell (Or.inr rfl) _).setCell (Or.inr rfl) _)
    · exact (((Grew.trans (by (repeat (first | exact Grew.refl _ | refine Grew.over ?_ _ | refine Grew.alloc ?_ _ | refine Grew.drew ?_ | refine Grew.drewN ?_ _))) HG.out).setCell (Nat.le_succ _) _).setCell (Nat.le_succ _) _).setCell (Nat.le_succ _) _
end Go.Proofs.Ytbamckfjikpjlaa
