/- The law on distances. -/
import Derived.Test.YtomkamohcdcmhaaGeom8
set_option linter.unusedSimpArgs false
set_option linter.unusedVariables false
namespace Go.Proofs.Ytomkamohcdcmhaa
open Go.RowKit

theorem dst_tri {ax ay bx bZ cx cy : Int} (ha : vld ax ay = true) (hb : vld bx bZ = true) (hc : vld cx cy = true) : dst ax ay cx cy ≤ dst ax ay bx bZ + dst bx bZ cx cy := by
  rw [dst_yes ha hb, dst_yes hb hc, dst_yes ha hc]
  omega
theorem dst_zero {ax ay bx bZ : Int} (ha : vld ax ay = true) (hb : vld bx bZ = true) : dst ax ay bx bZ = 0 ↔ ax = bx ∧ ay = bZ := by
  rw [dst_yes ha hb]
  omega
theorem dst_on {ax ay bx bZ cx cy : Int} (ha : vld ax ay = true) (hb : vld bx bZ = true) (hc : vld cx cy = true) (h : onS bx bZ ax ay cx cy = true) : dst ax ay bx bZ + dst bx bZ cx cy = dst ax ay cx cy := by
  rw [dst_yes ha hb, dst_yes hb hc, dst_yes ha hc]
  unfold onS onl inb at h
  simp at h
  omega
theorem dst_bd (ax ay bx bZ : Int) : dst ax ay bx bZ ≤ 2000000000 := by
  unfold dst
  split
  · rename_i h
    have := and_vld h
    rw [vld_iff, vld_iff] at this
    omega
  · omega

set_option maxHeartbeats 4000000 in
theorem metric_l (ax ay bx bZ cx cy : Int) (w : World) : Calls Try.prog 8 #[pt ax ay, pt bx bZ, pt cx cy] w fun e w' => e = .returned (.bool true) ∧ Grew w w' := by
  have e1 := dst_comm ax ay bx bZ
  have p1 := dst_pos ax ay bx bZ
  have hS : (vld ax ay = false ∨ vld ax ay = true ∧ (vld bx bZ = false ∨ vld bx bZ = true ∧ vld cx cy = false)) ∨ (vld ax ay = true ∧ vld bx bZ = true ∧ vld cx cy = true) := by
    cases vld ax ay <;> cases vld bx bZ <;> cases vld cx cy <;> simp
  rcases hS with hn | ⟨ha, hb, hc⟩
  · rcases hn with h1 | ⟨h1, h2 | ⟨h2, h3⟩⟩
    all_goals
      go_enter Try.func8, Try.ntmps8
      go_wp2
      refine wp_region_over (by kernel_rfl) (by kernel_rfl) ?_; (repeat (go_big_quiet_step ((go_at_call 13; with_reducible exact over_call (Distance_p _ _ _ _ _))))); refine wpQuiet_nil ?_; rintro _ ⟨x, rfl⟩
      go_wp2_with (first | (go_at_call 10; (with_reducible refine (valid_r _ _ _).mono ?_); rintro e w' ⟨rfl, x, rfl⟩) | (go_at_call 16; (with_reducible refine (On_p _ _ _ _ _ _ _).mono ?_); rintro e w' ⟨rfl, x, rfl⟩) | (go_at_call 15; (with_reducible refine (awake_l _).mono ?_); rintro e w' ⟨rfl, x, rfl⟩))
      go_ret
      exact ⟨rfl, by (repeat (first | exact Grew.refl _ | refine Grew.over ?_ _ | refine Grew.alloc ?_ _ | refine Grew.drew ?_ | refine Grew.drewN ?_ _))⟩
  · have p2 := dst_pos bx bZ cx cy
    have b1 := dst_bd ax ay bx bZ
    have b2 := dst_bd bx bZ cx cy
    have t1 := dst_tri ha hb hc
    have z1 := dst_zero ha hb
    have o1 := Lib.hid (dst_on ha hb hc)
    by_cases hq : ax = bx ∧ ay = bZ
    · obtain ⟨q1, q2⟩ := hq
      have z2 := z1.2 ⟨q1, q2⟩
      clear z1
      subst q1
      subst q2
      cases ho : onS ax ay ax ay cx cy
      · clear o1
        go_enter Try.func8, Try.ntmps8
        go_wp2
        refine wp_region_over (by kernel_rfl) (by kernel_rfl) ?_; (repeat (go_big_quiet_step ((go_at_call 13; with_reducible exact over_call (Distance_p _ _ _ _ _))))); refine wpQuiet_nil ?_; rintro _ ⟨x, rfl⟩
        go_wp2_with (first | (go_at_call 10; (with_reducible refine (valid_r _ _ _).mono ?_); rintro e w' ⟨rfl, x, rfl⟩) | (go_at_call 16; (with_reducible refine (On_p _ _ _ _ _ _ _).mono ?_); rintro e w' ⟨rfl, x, rfl⟩) | (go_at_call 15; (with_reducible refine (awake_l _).mono ?_); rintro e w' ⟨rfl, x, rfl⟩))
        refine wp_region_over (by kernel_rfl) (by kernel_rfl) ?_; (repeat (go_big_quiet_step ((go_at_call 13; with_reducible exact over_call (Distance_p _ _ _ _ _))))); refine wpQuiet_nil ?_; rintro _ ⟨x, rfl⟩
        go_wp2_with (first | (go_at_call 10; (with_reducible refine (valid_r _ _ _).mono ?_); rintro e w' ⟨rfl, x, rfl⟩) | (go_at_call 16; (with_reducible refine (On_p _ _ _ _ _ _ _).mono ?_); rintro e w' ⟨rfl, x, rfl⟩) | (go_at_call 15; (with_reducible refine (awake_l _).mono ?_); rintro e w' ⟨rfl, x, rfl⟩))
        go_ret
        exact ⟨rfl, by (repeat (first | exact Grew.refl _ | refine Grew.over ?_ _ | refine Grew.alloc ?_ _ | refine Grew.drew ?_ | refine Grew.drewN ?_ _))⟩
      · have o2 := o1.out ho
        clear o1
        go_enter Try.func8, Try.ntmps8
        go_wp2
        refine wp_region_over (by kernel_rfl) (by kernel_rfl) ?_; (repeat (go_big_quiet_step ((go_at_call 13; with_reducible exact over_call (Distance_p _ _ _ _ _))))); refine wpQuiet_nil ?_; rintro _ ⟨x, rfl⟩
        go_wp2_with (first | (go_at_call 10; (with_reducible refine (valid_r _ _ _).mono ?_); rintro e w' ⟨rfl, x, rfl⟩) | (go_at_call 16; (with_reducible refine (On_p _ _ _ _ _ _ _).mono ?_); rintro e w' ⟨rfl, x, rfl⟩) | (go_at_call 15; (with_reducible refine (awake_l _).mono ?_); rintro e w' ⟨rfl, x, rfl⟩))
        refine wp_region_over (by kernel_rfl) (by kernel_rfl) ?_; (repeat (go_big_quiet_step ((go_at_call 13; with_reducible exact over_call (Distance_p _ _ _ _ _))))); refine wpQuiet_nil ?_; rintro _ ⟨x, rfl⟩
        go_wp2_with (first | (go_at_call 10; (with_reducible refine (valid_r _ _ _).mono ?_); rintro e w' ⟨rfl, x, rfl⟩) | (go_at_call 16; (with_reducible refine (On_p _ _ _ _ _ _ _).mono ?_); rintro e w' ⟨rfl, x, rfl⟩) | (go_at_call 15; (with_reducible refine (awake_l _).mono ?_); rintro e w' ⟨rfl, x, rfl⟩))
        go_ret
        exact ⟨rfl, by (repeat (first | exact Grew.refl _ | refine Grew.over ?_ _ | refine Grew.alloc ?_ _ | refine Grew.drew ?_ | refine Grew.drewN ?_ _))⟩
    · have z2 : (dst ax ay bx bZ == 0) = false := by
        rw [beq_eq_false_iff_ne]
        exact fun h => hq (z1.1 h)
      clear z1
      by_cases q1 : ax = bx
      · have q2 : (ay == bZ) = false := by
          rw [beq_eq_false_iff_ne]
          exact fun h => hq ⟨q1, h⟩
        clear hq
        subst q1
        cases ho : onS ax bZ ax ay cx cy
        case' true => have o2 := o1.out ho
        all_goals
          clear o1
          go_enter Try.func8, Try.ntmps8
          go_wp2
          refine wp_region_over (by kernel_rfl) (by kernel_rfl) ?_; (repeat (go_big_quiet_step ((go_at_call 13; with_reducible exact over_call (Distance_p _ _ _ _ _))))); refine wpQuiet_nil ?_; rintro _ ⟨x, rfl⟩
          go_wp2_with (first | (go_at_call 10; (with_reducible refine (valid_r _ _ _).mono ?_); rintro e w' ⟨rfl, x, rfl⟩) | (go_at_call 16; (with_reducible refine (On_p _ _ _ _ _ _ _).mono ?_); rintro e w' ⟨rfl, x, rfl⟩) | (go_at_call 15; (with_reducible refine (awake_l _).mono ?_); rintro e w' ⟨rfl, x, rfl⟩))
          refine wp_region_over (by kernel_rfl) (by kernel_rfl) ?_; (repeat (go_big_quiet_step ((go_at_call 13; with_reducible exact over_call (Distance_p _ _ _ _ _))))); refine wpQuiet_nil ?_; rintro _ ⟨x, rfl⟩
          go_wp2_with (first | (go_at_call 10; (with_reducible refine (valid_r _ _ _).mono ?_); rintro e w' ⟨rfl, x, rfl⟩) | (go_at_call 16; (with_reducible refine (On_p _ _ _ _ _ _ _).mono ?_); rintro e w' ⟨rfl, x, rfl⟩) | (go_at_call 15; (with_reducible refine (awake_l _).mono ?_); rintro e w' ⟨rfl, x, rfl⟩))
          all_goals
            go_ret
            exact ⟨rfl, by (repeat (first | exact Grew.refl _ | refine Grew.over ?_ _ | refine Grew.alloc ?_ _ | refine Grew.drew ?_ | refine Grew.drewN ?_ _))⟩
      · have q2 : (ax == bx) = false := beq_eq_false_iff_ne.2 q1
        clear hq q1
        cases ho : onS bx bZ ax ay cx cy
        case' true => have o2 := o1.out ho
        all_goals
          clear o1
          go_enter Try.func8, Try.ntmps8
          go_wp2
          refine wp_region_over (by kernel_rfl) (by kernel_rfl) ?_; (repeat (go_big_quiet_step ((go_at_call 13; with_reducible exact over_call (Distance_p _ _ _ _ _))))); refine wpQuiet_nil ?_; rintro _ ⟨x, rfl⟩
          go_wp2_with (first | (go_at_call 10; (with_reducible refine (valid_r _ _ _).mono ?_); rintro e w' ⟨rfl, x, rfl⟩) | (go_at_call 16; (with_reducible refine (On_p _ _ _ _ _ _ _).mono ?_); rintro e w' ⟨rfl, x, rfl⟩) | (go_at_call 15; (with_reducible refine (awake_l _).mono ?_); rintro e w' ⟨rfl, x, rfl⟩))
          refine wp_region_over (by kernel_rfl) (by kernel_rfl) ?_; (repeat (go_big_quiet_step ((go_at_call 13; with_reducible exact over_call (Distance_p _ _ _ _ _))))); refine wpQuiet_nil ?_; rintro _ ⟨x, rfl⟩
          go_wp2_with (first | (go_at_call 10; (with_reducible refine (valid_r _ _ _).mono ?_); rintro e w' ⟨rfl, x, rfl⟩) | (go_at_call 16; (with_reducible refine (On_p _ _ _ _ _ _ _).mono ?_); rintro e w' ⟨rfl, x, rfl⟩) | (go_at_call 15; (with_reducible refine (awake_l _).mono ?_); rintro e w' ⟨rfl, x, rfl⟩))
          all_goals
            go_ret
            exact ⟨rfl, by (repeat (first | exact Grew.refl _ | refine Grew.over ?_ _ | refine Grew.alloc ?_ _ | refine Grew.drew ?_ | refine Grew.drewN ?_ _))⟩

end Go.Proofs.Ytomkamohcdcmhaa
