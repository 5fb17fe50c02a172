/- The law LabelsAgree: the walk. -/
import Derived.Test.YtdenjldadlgniaaLabY
set_option linter.unusedSimpArgs false
set_option linter.unusedVariables false
namespace Go.Proofs.Ytdenjldadlgniaa
open Go.RowKit
attribute [local go_sem ↓] Go.wp_at_zero Go.wp_at_succ

set_option maxHeartbeats 16000000 in
theorem agree_l (p q : Option Addr) (n k cp cq : Nat) (s : List Bx) (c : List (List Int)) (w : World) (hI : Bxs w p s) (hC : Mat w q c) (hn : s.length = n) (hk : c.length = k) (hcp : n ≤ cp) (hcp2 : cp ≤ 9223372036854775807) :
    Calls Try.prog 7 #[.slice p n cp, .slice q k cq] w fun e w' => e = .returned (.bool true) ∧ Grew w w' := by
  have HI := Lib.hid hI
  have HC := Lib.hid hC
  have hmm := hI.1
  have hmc := hC.1
  rw [hn] at hmm
  rw [hk] at hmc
  have HN := Lib.hid hn
  have HK := Lib.hid hk
  clear hI hC hn hk
  by_cases g1 : 6 < n
  · go_enter Try.func7, Try.ntmps7
    go_wp2_with ((go_at_call 9; apply Calls.mono; (with_reducible exact awake_l _); rintro e w' ⟨rfl, x, rfl⟩))
    go_ret
    exact ⟨rfl, by (repeat (first | exact Grew.refl _ | refine Grew.over ?_ _ | refine Grew.alloc ?_ _ | refine Grew.drew ?_ | refine Grew.drewN ?_ _))⟩
  by_cases g2 : 5 < k
  · go_enter Try.func7, Try.ntmps7
    go_wp2_with ((go_at_call 9; apply Calls.mono; (with_reducible exact awake_l _); rintro e w' ⟨rfl, x, rfl⟩))
    go_ret
    exact ⟨rfl, by (repeat (first | exact Grew.refl _ | refine Grew.over ?_ _ | refine Grew.alloc ?_ _ | refine Grew.drew ?_ | refine Grew.drewN ?_ _))⟩
  go_enter Try.func7, Try.ntmps7
  go_wp2
  go_loopw [5] (fun v wr => ∃ i : Nat, i ≤ n ∧ v = .int .i64 i ∧ (∀ j, j < i → posB (bK s j)) ∧ Grew w wr) (fun v _ => n - (intOf v).toNat)
  case atStart => exact ⟨0, Nat.zero_le _, rfl, fun j hj => by omega, by (repeat (first | exact Grew.refl _ | refine Grew.over ?_ _ | refine Grew.alloc ?_ _ | refine Grew.drew ?_ | refine Grew.drewN ?_ _))⟩
  case round =>
    obtain ⟨i, hi, rfl, hall, hg⟩ := hrel
    have Hall := Lib.hid hall
    have Hg := Lib.hid hg
    clear hall hg
    by_cases hlt : i < n
    · obtain ⟨_, bb, oo, h3, h4⟩ := HI.out.grew Hg.out
      obtain ⟨rfl, hbb⟩ := h3 (by rw [HN.out]; omega)
      obtain ⟨k1, k2, k3, k4⟩ := h4 i (by rw [HN.out]; exact hlt)
      clear h3 h4
      obtain ⟨⟨xa, xb, xc, xd⟩, hbe⟩ : ∃ b, bK s i = b := ⟨_, rfl⟩
      rw [hbe] at k1 k2 k3 k4
      dsimp only at k1 k2 k3 k4
      have Hbe := Lib.hid hbe
      clear hbe
      by_cases e1 : xc ≤ xa
      · have q1 : decide (xc ≤ xa) = true := decide_eq_true e1
        go_wp2
        refine wp_region_over (by kernel_rfl) (by kernel_rfl) ?_; (repeat (go_big_quiet_step (fail))); refine wpQuiet_nil ?_; rintro _ ⟨x, rfl⟩
        go_wp2_with ((go_at_call 9; apply Calls.mono; (with_reducible exact awake_l _); rintro e w' ⟨rfl, x, rfl⟩))
        go_ret
        exact ⟨rfl, Hg.out.trans (by (repeat (first | exact Grew.refl _ | refine Grew.over ?_ _ | refine Grew.alloc ?_ _ | refine Grew.drew ?_ | refine Grew.drewN ?_ _)))⟩
      have q1 : decide (xc ≤ xa) = false := decide_eq_false e1
      by_cases e2 : xd ≤ xb
      · have q2 : decide (xd ≤ xb) = true := decide_eq_true e2
        go_wp2
        refine wp_region_over (by kernel_rfl) (by kernel_rfl) ?_; (repeat (go_big_quiet_step (fail))); refine wpQuiet_nil ?_; rintro _ ⟨x, rfl⟩
        go_wp2_with ((go_at_call 9; apply Calls.mono; (with_reducible exact awake_l _); rintro e w' ⟨rfl, x, rfl⟩))
        go_ret
        exact ⟨rfl, Hg.out.trans (by (repeat (first | exact Grew.refl _ | refine Grew.over ?_ _ | refine Grew.alloc ?_ _ | refine Grew.drew ?_ | refine Grew.drewN ?_ _)))⟩
      · have q2 : decide (xd ≤ xb) = false := decide_eq_false e2
        have Hpos : Hid (posB ⟨xa, xb, xc, xd⟩) := Lib.hid ⟨by show xa < xc; omega, by show xb < xd; omega⟩
        go_wp2
        refine wp_region_over (by kernel_rfl) (by kernel_rfl) ?_; (repeat (go_big_quiet_step (fail))); refine wpQuiet_nil ?_; rintro _ ⟨x, rfl⟩
        go_wp2
        go_roundw
        case rel => exact ⟨i + 1, by omega, by go_num, fun j hj => (by
          by_cases e : j = i
          · rw [e, Hbe.out]; exact Hpos.out
          · exact Hall.out j (by omega)), Hg.out.trans (by (repeat (first | exact Grew.refl _ | refine Grew.over ?_ _ | refine Grew.alloc ?_ _ | refine Grew.drew ?_ | refine Grew.drewN ?_ _)))⟩
        case measure => simp [intOf]; omega
    · have Hpos : Hid (∀ u, u < s.length → posB (bK s u)) := Lib.hid (fun u hu => Hall.out u (by rw [HN.out] at hu; omega))
      clear Hall
      obtain ⟨wq, hwq⟩ : ∃ wq, wq = wr := ⟨_, rfl⟩
      subst hwq
      go_wp2
      go_loopw [6, 7] (fun v6 v7 wr => ∃ j : Nat, j ≤ k ∧ v7 = .int .i64 j ∧ Owns wr wq.heap.size [⟨v6, 35, 1, j, List.replicate j (.slice p n cp)⟩] ∧ Grew wq wr) (fun _ v _ => k - (intOf v).toNat)
      case atStart => exact ⟨0, Nat.zero_le _, rfl, (Owns.nil _ _).none _ _, by (repeat (first | exact Grew.refl _ | refine Grew.over ?_ _ | refine Grew.alloc ?_ _ | refine Grew.drew ?_ | refine Grew.drewN ?_ _))⟩
      case round =>
        obtain ⟨j, hj, rfl, hO, hg⟩ := hrel
        have HO := Lib.hid hO
        have Hgl := Lib.hid hg
        clear hO hg
        by_cases hlt : j < k
        · go_wp2_with (at_builtin; refine wp_append_owns rfl _ _ 22 rfl 35 1 24 (.slice none 0 0) Try.underlying22 Try.infoBoxs rfl (by decide) wq.heap.size _ 0 _ _ _ (HO.out.grew (by (repeat (first | exact Grew.refl _ | refine Grew.over ?_ _ | refine Grew.alloc ?_ _ | refine Grew.drew ?_ | refine Grew.drewN ?_ _)))) rfl rfl _ 1 1 rfl [.slice p n cp] rfl (fun h => by cases h) (one_news _ (by rw [Addr.add_lit]; (simp [go_sem, ↓IntWalk.iteOmega]))) (by simp [Value.oneCell']) (by simp only [maxLen]; omega) (by omega) (Grew.below (Hgl.out.trans (by (repeat (first | exact Grew.refl _ | refine Grew.over ?_ _ | refine Grew.alloc ?_ _ | refine Grew.drew ?_ | refine Grew.drewN ?_ _))))).size ?_; intro v1 w1 hO1 hg1 hb1 _; have Hg1 := Lib.hid (Grew.grownBy (w0 := wq) (Hgl.out.trans (by (repeat (first | exact Grew.refl _ | refine Grew.over ?_ _ | refine Grew.alloc ?_ _ | refine Grew.drew ?_ | refine Grew.drewN ?_ _)))) hg1 hb1); have HO1 := Lib.hid hO1; clear hO1 hg1 hb1)
          go_roundw
          case rel => exact ⟨j + 1, by omega, by go_num, (by
            have h := HO1.out
            simp only [List.set_cons_zero] at h
            rw [List.replicate_succ']
            exact h), Hg1.out⟩
          case measure => simp [intOf]; omega
        · have hjk : j = k := by omega
          subst hjk
          obtain ⟨qq, cap, rfl, hBM⟩ := bmat_of_owns (s := s) (p := p) (cp := cp) HO.out (k := 0) (by rw [HN.out]; rfl) (HI.out.grew (Hg.out.trans Hgl.out))
          have HBM := Lib.hid hBM
          have HML : Hid ((List.replicate j s).length = j) := Lib.hid (by simp)
          have HA := Lib.hid (agree_det s c Hpos.out)
          rw [HK.out] at HA
          clear hBM
          rcases HA.out with ⟨er, h0, h15, hd⟩ | hvf | ⟨z, er, hz, hd, hpl⟩
          · have Hd := Lib.hid hd
            have r1 : (er != 0) = true := by rw [bne_iff_ne]; exact h0
            have r2 : (er != 15) = true := by rw [bne_iff_ne]; exact h15
            clear hd h0 h15
            go_wp2_with (first
              | (go_at_call 20; apply Calls.mono; (with_reducible exact slots_e1 Hd.out (HI.out.grew (Hg.out.trans (Hgl.out.trans (by (repeat (first | exact Grew.refl _ | refine Grew.over ?_ _ | refine Grew.alloc ?_ _ | refine Grew.drew ?_ | refine Grew.drewN ?_ _)))))) (HC.out.grew (Hg.out.trans (Hgl.out.trans (by (repeat (first | exact Grew.refl _ | refine Grew.over ?_ _ | refine Grew.alloc ?_ _ | refine Grew.drew ?_ | refine Grew.drewN ?_ _)))))) HN.out HK.out hcp hcp2); rintro e w2 ⟨rfl, hg2⟩; have HG2 := Lib.hid (Grew.trans (show Grew wr _ by (repeat (first | exact Grew.refl _ | refine Grew.over ?_ _ | refine Grew.alloc ?_ _ | refine Grew.drew ?_ | refine Grew.drewN ?_ _))) hg2); clear hg2)
              | (go_at_call 9; apply Calls.mono; (with_reducible exact awake_l _); rintro e w' ⟨rfl, x, rfl⟩))
            go_ret
            exact ⟨rfl, Hg.out.trans (Hgl.out.trans (HG2.out.trans (by (repeat (first | exact Grew.refl _ | refine Grew.over ?_ _ | refine Grew.alloc ?_ _ | refine Grew.drew ?_ | refine Grew.drewN ?_ _)))))⟩
          · have Hv := Lib.hid hvf
            obtain ⟨L, z, er, hd0⟩ := slots_det s c
            have Hd : Hid (∀ w e w', SlotsPost s c w e w' → Grew w w' ∧ ∃ q k cp, e = .returned (.tuple #[.slice q k cp, .int .i64 z, .int .i64 er])) := Lib.hid (fun w e w' h => by
              obtain ⟨g1, q, cp, g2, _⟩ := hd0 w e w' h
              exact ⟨g1, q, _, cp, g2⟩)
            clear hd0 hvf
            by_cases h0 : er = 0
            · subst h0
              go_wp2_with (first | (go_at_call 20; apply Calls.mono; (with_reducible exact slots_e2 Hd.out (HI.out.grew (Hg.out.trans (Hgl.out.trans (by (repeat (first | exact Grew.refl _ | refine Grew.over ?_ _ | refine Grew.alloc ?_ _ | refine Grew.drew ?_ | refine Grew.drewN ?_ _)))))) (HC.out.grew (Hg.out.trans (Hgl.out.trans (by (repeat (first | exact Grew.refl _ | refine Grew.over ?_ _ | refine Grew.alloc ?_ _ | refine Grew.drew ?_ | refine Grew.drewN ?_ _)))))) HN.out HK.out hcp hcp2); rintro e w2 ⟨hg2, q2, k2, c2, rfl⟩; have HG2 := Lib.hid (Grew.trans (show Grew wr _ by (repeat (first | exact Grew.refl _ | refine Grew.over ?_ _ | refine Grew.alloc ?_ _ | refine Grew.drew ?_ | refine Grew.drewN ?_ _))) hg2); clear hg2) | (go_at_call 11; apply Calls.mono; (with_reducible exact valid50r_e Hv.out (HBM.out.grew (HG2.out.trans (by (repeat (first | exact Grew.refl _ | refine Grew.over ?_ _ | refine Grew.alloc ?_ _ | refine Grew.drew ?_ | refine Grew.drewN ?_ _))))) (HC.out.grew (Hg.out.trans (Hgl.out.trans (HG2.out.trans (by (repeat (first | exact Grew.refl _ | refine Grew.over ?_ _ | refine Grew.alloc ?_ _ | refine Grew.drew ?_ | refine Grew.drewN ?_ _))))))) HML.out HK.out); rintro e w' ⟨rfl, x, rfl⟩) | (go_at_call 9; apply Calls.mono; (with_reducible exact awake_l _); rintro e w' ⟨rfl, x, rfl⟩))
              go_ret
              exact ⟨rfl, Hg.out.trans (Hgl.out.trans (HG2.out.trans (by (repeat (first | exact Grew.refl _ | refine Grew.over ?_ _ | refine Grew.alloc ?_ _ | refine Grew.drew ?_ | refine Grew.drewN ?_ _)))))⟩
            by_cases h15 : er = 15
            · subst h15
              go_wp2_with (first | (go_at_call 20; apply Calls.mono; (with_reducible exact slots_e2 Hd.out (HI.out.grew (Hg.out.trans (Hgl.out.trans (by (repeat (first | exact Grew.refl _ | refine Grew.over ?_ _ | refine Grew.alloc ?_ _ | refine Grew.drew ?_ | refine Grew.drewN ?_ _)))))) (HC.out.grew (Hg.out.trans (Hgl.out.trans (by (repeat (first | exact Grew.refl _ | refine Grew.over ?_ _ | refine Grew.alloc ?_ _ | refine Grew.drew ?_ | refine Grew.drewN ?_ _)))))) HN.out HK.out hcp hcp2); rintro e w2 ⟨hg2, q2, k2, c2, rfl⟩; have HG2 := Lib.hid (Grew.trans (show Grew wr _ by (repeat (first | exact Grew.refl _ | refine Grew.over ?_ _ | refine Grew.alloc ?_ _ | refine Grew.drew ?_ | refine Grew.drewN ?_ _))) hg2); clear hg2) | (go_at_call 11; apply Calls.mono; (with_reducible exact valid50r_e Hv.out (HBM.out.grew (HG2.out.trans (by (repeat (first | exact Grew.refl _ | refine Grew.over ?_ _ | refine Grew.alloc ?_ _ | refine Grew.drew ?_ | refine Grew.drewN ?_ _))))) (HC.out.grew (Hg.out.trans (Hgl.out.trans (HG2.out.trans (by (repeat (first | exact Grew.refl _ | refine Grew.over ?_ _ | refine Grew.alloc ?_ _ | refine Grew.drew ?_ | refine Grew.drewN ?_ _))))))) HML.out HK.out); rintro e w' ⟨rfl, x, rfl⟩) | (go_at_call 9; apply Calls.mono; (with_reducible exact awake_l _); rintro e w' ⟨rfl, x, rfl⟩))
              go_ret
              exact ⟨rfl, Hg.out.trans (Hgl.out.trans (HG2.out.trans (by (repeat (first | exact Grew.refl _ | refine Grew.over ?_ _ | refine Grew.alloc ?_ _ | refine Grew.drew ?_ | refine Grew.drewN ?_ _)))))⟩
            have r1 : (er != 0) = true := by rw [bne_iff_ne]; exact h0
            have r2 : (er != 15) = true := by rw [bne_iff_ne]; exact h15
            clear h0 h15
            go_wp2_with (first | (go_at_call 20; apply Calls.mono; (with_reducible exact slots_e2 Hd.out (HI.out.grew (Hg.out.trans (Hgl.out.trans (by (repeat (first | exact Grew.refl _ | refine Grew.over ?_ _ | refine Grew.alloc ?_ _ | refine Grew.drew ?_ | refine Grew.drewN ?_ _)))))) (HC.out.grew (Hg.out.trans (Hgl.out.trans (by (repeat (first | exact Grew.refl _ | refine Grew.over ?_ _ | refine Grew.alloc ?_ _ | refine Grew.drew ?_ | refine Grew.drewN ?_ _)))))) HN.out HK.out hcp hcp2); rintro e w2 ⟨hg2, q2, k2, c2, rfl⟩; have HG2 := Lib.hid (Grew.trans (show Grew wr _ by (repeat (first | exact Grew.refl _ | refine Grew.over ?_ _ | refine Grew.alloc ?_ _ | refine Grew.drew ?_ | refine Grew.drewN ?_ _))) hg2); clear hg2) | (go_at_call 11; apply Calls.mono; (with_reducible exact valid50r_e Hv.out (HBM.out.grew (HG2.out.trans (by (repeat (first | exact Grew.refl _ | refine Grew.over ?_ _ | refine Grew.alloc ?_ _ | refine Grew.drew ?_ | refine Grew.drewN ?_ _))))) (HC.out.grew (Hg.out.trans (Hgl.out.trans (HG2.out.trans (by (repeat (first | exact Grew.refl _ | refine Grew.over ?_ _ | refine Grew.alloc ?_ _ | refine Grew.drew ?_ | refine Grew.drewN ?_ _))))))) HML.out HK.out); rintro e w' ⟨rfl, x, rfl⟩) | (go_at_call 9; apply Calls.mono; (with_reducible exact awake_l _); rintro e w' ⟨rfl, x, rfl⟩))
            go_ret
            exact ⟨rfl, Hg.out.trans (Hgl.out.trans (HG2.out.trans (by (repeat (first | exact Grew.refl _ | refine Grew.over ?_ _ | refine Grew.alloc ?_ _ | refine Grew.drew ?_ | refine Grew.drewN ?_ _)))))⟩
          · have Hd := Lib.hid hd
            have Hp := Lib.hid hpl
            obtain ⟨bv, hbv⟩ : ∃ b, vLB (List.replicate j s) c = b := ⟨_, rfl⟩
            have Hv := Lib.hid hbv
            clear hd hpl hbv
            rcases hz with rfl | rfl <;> cases bv
            · go_wp2_with (first | (go_at_call 20; apply Calls.mono; (with_reducible exact slots_e2 Hd.out (HI.out.grew (Hg.out.trans (Hgl.out.trans (by (repeat (first | exact Grew.refl _ | refine Grew.over ?_ _ | refine Grew.alloc ?_ _ | refine Grew.drew ?_ | refine Grew.drewN ?_ _)))))) (HC.out.grew (Hg.out.trans (Hgl.out.trans (by (repeat (first | exact Grew.refl _ | refine Grew.over ?_ _ | refine Grew.alloc ?_ _ | refine Grew.drew ?_ | refine Grew.drewN ?_ _)))))) HN.out HK.out hcp hcp2); rintro e w2 ⟨hg2, q2, k2, c2, rfl⟩; have HG2 := Lib.hid (Grew.trans (show Grew wr _ by (repeat (first | exact Grew.refl _ | refine Grew.over ?_ _ | refine Grew.alloc ?_ _ | refine Grew.drew ?_ | refine Grew.drewN ?_ _))) hg2); clear hg2) | (go_at_call 11; apply Calls.mono; (with_reducible exact valid50r_e Hv.out (HBM.out.grew (HG2.out.trans (by (repeat (first | exact Grew.refl _ | refine Grew.over ?_ _ | refine Grew.alloc ?_ _ | refine Grew.drew ?_ | refine Grew.drewN ?_ _))))) (HC.out.grew (Hg.out.trans (Hgl.out.trans (HG2.out.trans (by (repeat (first | exact Grew.refl _ | refine Grew.over ?_ _ | refine Grew.alloc ?_ _ | refine Grew.drew ?_ | refine Grew.drewN ?_ _))))))) HML.out HK.out); rintro e w' ⟨rfl, x, rfl⟩) | (go_at_call 9; apply Calls.mono; (with_reducible exact awake_l _); rintro e w' ⟨rfl, x, rfl⟩))
              go_ret
              exact ⟨rfl, Hg.out.trans (Hgl.out.trans (HG2.out.trans (by (repeat (first | exact Grew.refl _ | refine Grew.over ?_ _ | refine Grew.alloc ?_ _ | refine Grew.drew ?_ | refine Grew.drewN ?_ _)))))⟩
            · go_wp2_with (first | (go_at_call 20; apply Calls.mono; (with_reducible exact slots_e2 Hd.out (HI.out.grew (Hg.out.trans (Hgl.out.trans (by (repeat (first | exact Grew.refl _ | refine Grew.over ?_ _ | refine Grew.alloc ?_ _ | refine Grew.drew ?_ | refine Grew.drewN ?_ _)))))) (HC.out.grew (Hg.out.trans (Hgl.out.trans (by (repeat (first | exact Grew.refl _ | refine Grew.over ?_ _ | refine Grew.alloc ?_ _ | refine Grew.drew ?_ | refine Grew.drewN ?_ _)))))) HN.out HK.out hcp hcp2); rintro e w2 ⟨hg2, q2, k2, c2, rfl⟩; have HG2 := Lib.hid (Grew.trans (show Grew wr _ by (repeat (first | exact Grew.refl _ | refine Grew.over ?_ _ | refine Grew.alloc ?_ _ | refine Grew.drew ?_ | refine Grew.drewN ?_ _))) hg2); clear hg2) | (go_at_call 11; apply Calls.mono; (with_reducible exact valid50r_e Hv.out (HBM.out.grew (HG2.out.trans (by (repeat (first | exact Grew.refl _ | refine Grew.over ?_ _ | refine Grew.alloc ?_ _ | refine Grew.drew ?_ | refine Grew.drewN ?_ _))))) (HC.out.grew (Hg.out.trans (Hgl.out.trans (HG2.out.trans (by (repeat (first | exact Grew.refl _ | refine Grew.over ?_ _ | refine Grew.alloc ?_ _ | refine Grew.drew ?_ | refine Grew.drewN ?_ _))))))) HML.out HK.out); rintro e w' ⟨rfl, x, rfl⟩) | (go_at_call 17; apply Calls.mono; (with_reducible exact place_e2 Hp.out (HBM.out.grew (HG2.out.trans (by (repeat (first | exact Grew.refl _ | refine Grew.over ?_ _ | refine Grew.alloc ?_ _ | refine Grew.drew ?_ | refine Grew.drewN ?_ _))))) (HC.out.grew (Hg.out.trans (Hgl.out.trans (HG2.out.trans (by (repeat (first | exact Grew.refl _ | refine Grew.over ?_ _ | refine Grew.alloc ?_ _ | refine Grew.drew ?_ | refine Grew.drewN ?_ _))))))) HML.out HK.out); rintro e w3 ⟨hg3, q3, k3, c3, rfl⟩; have HG3 := Lib.hid (HG2.out.trans (Grew.trans (by (repeat (first | exact Grew.refl _ | refine Grew.over ?_ _ | refine Grew.alloc ?_ _ | refine Grew.drew ?_ | refine Grew.drewN ?_ _))) hg3)); clear hg3) | (go_at_call 9; apply Calls.mono; (with_reducible exact awake_l _); rintro e w' ⟨rfl, x, rfl⟩))
              go_ret
              exact ⟨rfl, Hg.out.trans (Hgl.out.trans (HG3.out.trans (by (repeat (first | exact Grew.refl _ | refine Grew.over ?_ _ | refine Grew.alloc ?_ _ | refine Grew.drew ?_ | refine Grew.drewN ?_ _)))))⟩
            · go_wp2_with (first | (go_at_call 20; apply Calls.mono; (with_reducible exact slots_e2 Hd.out (HI.out.grew (Hg.out.trans (Hgl.out.trans (by (repeat (first | exact Grew.refl _ | refine Grew.over ?_ _ | refine Grew.alloc ?_ _ | refine Grew.drew ?_ | refine Grew.drewN ?_ _)))))) (HC.out.grew (Hg.out.trans (Hgl.out.trans (by (repeat (first | exact Grew.refl _ | refine Grew.over ?_ _ | refine Grew.alloc ?_ _ | refine Grew.drew ?_ | refine Grew.drewN ?_ _)))))) HN.out HK.out hcp hcp2); rintro e w2 ⟨hg2, q2, k2, c2, rfl⟩; have HG2 := Lib.hid (Grew.trans (show Grew wr _ by (repeat (first | exact Grew.refl _ | refine Grew.over ?_ _ | refine Grew.alloc ?_ _ | refine Grew.drew ?_ | refine Grew.drewN ?_ _))) hg2); clear hg2) | (go_at_call 11; apply Calls.mono; (with_reducible exact valid50r_e Hv.out (HBM.out.grew (HG2.out.trans (by (repeat (first | exact Grew.refl _ | refine Grew.over ?_ _ | refine Grew.alloc ?_ _ | refine Grew.drew ?_ | refine Grew.drewN ?_ _))))) (HC.out.grew (Hg.out.trans (Hgl.out.trans (HG2.out.trans (by (repeat (first | exact Grew.refl _ | refine Grew.over ?_ _ | refine Grew.alloc ?_ _ | refine Grew.drew ?_ | refine Grew.drewN ?_ _))))))) HML.out HK.out); rintro e w' ⟨rfl, x, rfl⟩) | (go_at_call 9; apply Calls.mono; (with_reducible exact awake_l _); rintro e w' ⟨rfl, x, rfl⟩))
              go_ret
              exact ⟨rfl, Hg.out.trans (Hgl.out.trans (HG2.out.trans (by (repeat (first | exact Grew.refl _ | refine Grew.over ?_ _ | refine Grew.alloc ?_ _ | refine Grew.drew ?_ | refine Grew.drewN ?_ _)))))⟩
            · go_wp2_with (first | (go_at_call 20; apply Calls.mono; (with_reducible exact slots_e2 Hd.out (HI.out.grew (Hg.out.trans (Hgl.out.trans (by (repeat (first | exact Grew.refl _ | refine Grew.over ?_ _ | refine Grew.alloc ?_ _ | refine Grew.drew ?_ | refine Grew.drewN ?_ _)))))) (HC.out.grew (Hg.out.trans (Hgl.out.trans (by (repeat (first | exact Grew.refl _ | refine Grew.over ?_ _ | refine Grew.alloc ?_ _ | refine Grew.drew ?_ | refine Grew.drewN ?_ _)))))) HN.out HK.out hcp hcp2); rintro e w2 ⟨hg2, q2, k2, c2, rfl⟩; have HG2 := Lib.hid (Grew.trans (show Grew wr _ by (repeat (first | exact Grew.refl _ | refine Grew.over ?_ _ | refine Grew.alloc ?_ _ | refine Grew.drew ?_ | refine Grew.drewN ?_ _))) hg2); clear hg2) | (go_at_call 11; apply Calls.mono; (with_reducible exact valid50r_e Hv.out (HBM.out.grew (HG2.out.trans (by (repeat (first | exact Grew.refl _ | refine Grew.over ?_ _ | refine Grew.alloc ?_ _ | refine Grew.drew ?_ | refine Grew.drewN ?_ _))))) (HC.out.grew (Hg.out.trans (Hgl.out.trans (HG2.out.trans (by (repeat (first | exact Grew.refl _ | refine Grew.over ?_ _ | refine Grew.alloc ?_ _ | refine Grew.drew ?_ | refine Grew.drewN ?_ _))))))) HML.out HK.out); rintro e w' ⟨rfl, x, rfl⟩) | (go_at_call 17; apply Calls.mono; (with_reducible exact place_e2 Hp.out (HBM.out.grew (HG2.out.trans (by (repeat (first | exact Grew.refl _ | refine Grew.over ?_ _ | refine Grew.alloc ?_ _ | refine Grew.drew ?_ | refine Grew.drewN ?_ _))))) (HC.out.grew (Hg.out.trans (Hgl.out.trans (HG2.out.trans (by (repeat (first | exact Grew.refl _ | refine Grew.over ?_ _ | refine Grew.alloc ?_ _ | refine Grew.drew ?_ | refine Grew.drewN ?_ _))))))) HML.out HK.out); rintro e w3 ⟨hg3, q3, k3, c3, rfl⟩; have HG3 := Lib.hid (HG2.out.trans (Grew.trans (by (repeat (first | exact Grew.refl _ | refine Grew.over ?_ _ | refine Grew.alloc ?_ _ | refine Grew.drew ?_ | refine Grew.drewN ?_ _))) hg3)); clear hg3) | (go_at_call 9; apply Calls.mono; (with_reducible exact awake_l _); rintro e w' ⟨rfl, x, rfl⟩))
              go_ret
              exact ⟨rfl, Hg.out.trans (Hgl.out.trans (HG3.out.trans (by (repeat (first | exact Grew.refl _ | refine Grew.over ?_ _ | refine Grew.alloc ?_ _ | refine Grew.drew ?_ | refine Grew.drewN ?_ _)))))⟩
end Go.Proofs.Ytdenjldadlgniaa
