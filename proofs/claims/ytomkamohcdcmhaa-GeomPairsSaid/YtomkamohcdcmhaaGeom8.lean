/- The example of the chapter, and the laws of layer 2: each returns true. -/
import Derived.Test.YtomkamohcdcmhaaGeom7
set_option linter.unusedSimpArgs false
set_option linter.unusedVariables false
namespace Go.Proofs.Ytomkamohcdcmhaa
open Go.RowKit

set_option maxHeartbeats 4000000 in
theorem awake_l (w : World) : Calls Try.prog 15 #[] w fun e w' => e = .returned (.bool true) ∧ Grew w w' := by
  have e1 : ori 0 0 2 0 2 2 = 1 := by decide
  have e2 : crossS 0 0 4 4 0 4 4 0 = true := by decide
  have e3 : meetS 0 0 4 0 2 0 2 5 = true := by decide
  have e4 : crossS 0 0 4 0 2 0 2 5 = false := by decide
  have e5 : onS 2 2 0 0 4 4 = true := by decide
  have e6 : onS 5 5 0 0 4 4 = false := by decide
  have e7 : dst 0 0 3 (-4) = 7 := by decide
  have e8 : vld 4 4 = true := by decide
  have e9 : vld 536870912 0 = false := by decide
  go_enter Try.func15, Try.ntmps15
  go_wp2_with (first | (go_at_call 11; (with_reducible refine (orient_p _ _ _ _ _ _ _).mono ?_); rintro e w' ⟨rfl, x, rfl⟩) | (go_at_call 20; (with_reducible refine (Cross_p _ _ _ _ _ _ _ _ _).mono ?_); rintro e w' ⟨rfl, x, rfl⟩) | (go_at_call 18; (with_reducible refine (Meet_p _ _ _ _ _ _ _ _ _).mono ?_); rintro e w' ⟨rfl, x, rfl⟩) | (go_at_call 16; (with_reducible refine (On_p _ _ _ _ _ _ _).mono ?_); rintro e w' ⟨rfl, x, rfl⟩) | (go_at_call 13; (with_reducible refine (Distance_p _ _ _ _ _).mono ?_); rintro e w' ⟨rfl, x, rfl⟩) | (go_at_call 9; (with_reducible refine (valid_p _ _ _).mono ?_); rintro e w' ⟨rfl, x, rfl⟩))
  go_ret
  exact ⟨rfl, by (repeat (first | exact Grew.refl _ | refine Grew.over ?_ _ | refine Grew.alloc ?_ _ | refine Grew.drew ?_ | refine Grew.drewN ?_ _))⟩

theorem crs_rot (ax ay bx bZ cx cy : Int) : crs bx bZ cx cy ax ay = crs ax ay bx bZ cx cy := by
  unfold crs
  simp only [Int.sub_mul, Int.mul_sub, Int.mul_comm]
  omega
theorem crs_swap (ax ay bx bZ cx cy : Int) : crs bx bZ ax ay cx cy = -crs ax ay bx bZ cx cy := by
  unfold crs
  simp only [Int.sub_mul, Int.mul_sub, Int.mul_comm]
  omega
theorem sgn_neg (n : Int) : sgn (-n) = -sgn n := by unfold sgn; repeat' split <;> omega
theorem ori_rot (ax ay bx bZ cx cy : Int) : ori bx bZ cx cy ax ay = ori ax ay bx bZ cx cy := by
  unfold ori
  rw [crs_rot]
  cases vld ax ay <;> cases vld bx bZ <;> cases vld cx cy <;> simp
theorem ori_swap (ax ay bx bZ cx cy : Int) : ori bx bZ ax ay cx cy = -ori ax ay bx bZ cx cy := by
  unfold ori
  rw [crs_swap, sgn_neg]
  cases vld ax ay <;> cases vld bx bZ <;> cases vld cx cy <;> simp
theorem inb_swap (ax ay bx bZ px py : Int) : inb bx bZ ax ay px py = inb ax ay bx bZ px py := by
  unfold inb
  rw [Int.min_comm, Int.max_comm, Int.min_comm bZ, Int.max_comm bZ]
theorem onl_swap (ax ay bx bZ px py : Int) : onl bx bZ ax ay px py = onl ax ay bx bZ px py := by
  unfold onl
  rw [inb_swap, crs_swap, sgn_neg]
  congr 1
  rw [Bool.eq_iff_iff]
  simp
theorem ptsd_swap (ax ay bx bZ cx cy dx dy : Int) : ptsd bx bZ ax ay cx cy dx dy = ptsd ax ay bx bZ cx cy dx dy := by
  unfold ptsd
  rw [crs_swap ax ay bx bZ cx cy, crs_swap ax ay bx bZ dx dy, sgn_neg, sgn_neg, Int.neg_mul_neg]
theorem ptsd_swap2 (ax ay bx bZ cx cy dx dy : Int) : ptsd ax ay bx bZ dx dy cx cy = ptsd ax ay bx bZ cx cy dx dy := by
  unfold ptsd
  rw [Int.mul_comm]
theorem crossS_comm (ax ay bx bZ cx cy dx dy : Int) : crossS cx cy dx dy ax ay bx bZ = crossS ax ay bx bZ cx cy dx dy := by
  unfold crossS
  cases (vld ax ay && vld bx bZ) <;> cases (vld cx cy && vld dx dy) <;> simp [Bool.and_comm]
theorem crossS_back (ax ay bx bZ cx cy dx dy : Int) : crossS bx bZ ax ay cx cy dx dy = crossS ax ay bx bZ cx cy dx dy := by
  unfold crossS
  rw [ptsd_swap, ptsd_swap2 cx cy dx dy, Bool.and_comm (vld bx bZ)]
theorem meetS_comm (ax ay bx bZ cx cy dx dy : Int) : meetS cx cy dx dy ax ay bx bZ = meetS ax ay bx bZ cx cy dx dy := by
  unfold meetS
  cases (vld ax ay && vld bx bZ) <;> cases (vld cx cy && vld dx dy) <;> simp
  cases ptsd ax ay bx bZ cx cy dx dy <;> cases ptsd cx cy dx dy ax ay bx bZ <;> cases onl ax ay bx bZ cx cy <;> cases onl ax ay bx bZ dx dy <;> cases onl cx cy dx dy ax ay <;> simp
theorem meetS_back (ax ay bx bZ cx cy dx dy : Int) : meetS bx bZ ax ay cx cy dx dy = meetS ax ay bx bZ cx cy dx dy := by
  unfold meetS
  rw [ptsd_swap, ptsd_swap2 cx cy dx dy, Bool.and_comm (vld bx bZ), onl_swap ax ay bx bZ cx cy, onl_swap ax ay bx bZ dx dy]
  cases (vld ax ay && vld bx bZ) <;> cases (vld cx cy && vld dx dy) <;> simp
  cases ptsd ax ay bx bZ cx cy dx dy <;> cases ptsd cx cy dx dy ax ay bx bZ <;> cases onl ax ay bx bZ cx cy <;> cases onl ax ay bx bZ dx dy <;> cases onl cx cy dx dy ax ay <;> simp
theorem meetS_of_cross {ax ay bx bZ cx cy dx dy : Int} (h : crossS ax ay bx bZ cx cy dx dy = true) : meetS ax ay bx bZ cx cy dx dy = true := by
  unfold crossS at h
  unfold meetS
  simp at h ⊢
  simp [h]

set_option maxHeartbeats 4000000 in
theorem points_l (ax ay bx bZ cx cy : Int) (w : World) : Calls Try.prog 3 #[pt ax ay, pt bx bZ, pt cx cy] w fun e w' => e = .returned (.bool true) ∧ Grew w w' := by
  go_enter Try.func3, Try.ntmps3
  go_wp2
  refine wp_region_over (by kernel_rfl) (by kernel_rfl) ?_; (repeat (go_big_quiet_step (first | (go_at_call 9; with_reducible exact over_call (valid_p _ _ _)) | (go_at_call 10; with_reducible exact over_call (valid_r _ _ _)) | (go_at_call 11; with_reducible exact over_call (orient_p _ _ _ _ _ _ _)) | (go_at_call 12; with_reducible exact over_call (orient_r _ _ _ _ _ _ _)) | (go_at_call 13; with_reducible exact over_call (Distance_p _ _ _ _ _)) | (go_at_call 14; with_reducible exact over_call (distance_r _ _ _ _ _)) | (go_at_call 15; with_reducible exact over_call (awake_l _))))); refine wpQuiet_nil ?_; rintro _ ⟨x, rfl⟩
  go_wp2
  go_ret
  exact ⟨rfl, by (repeat (first | exact Grew.refl _ | refine Grew.over ?_ _ | refine Grew.alloc ?_ _ | refine Grew.drew ?_ | refine Grew.drewN ?_ _))⟩

set_option maxHeartbeats 4000000 in
theorem on_l (px py ax ay bx bZ : Int) (w : World) : Calls Try.prog 4 #[pt px py, seg ax ay bx bZ] w fun e w' => e = .returned (.bool true) ∧ Grew w w' := by
  go_enter Try.func4, Try.ntmps4
  go_wp2
  refine wp_region_over (by kernel_rfl) (by kernel_rfl) ?_; (repeat (go_big_quiet_step (first | (go_at_call 16; with_reducible exact over_call (On_p _ _ _ _ _ _ _)) | (go_at_call 17; with_reducible exact over_call (on_r _ _ _ _ _ _ _)) | (go_at_call 15; with_reducible exact over_call (awake_l _))))); refine wpQuiet_nil ?_; rintro _ ⟨x, rfl⟩
  go_wp2
  go_ret
  exact ⟨rfl, by (repeat (first | exact Grew.refl _ | refine Grew.over ?_ _ | refine Grew.alloc ?_ _ | refine Grew.drew ?_ | refine Grew.drewN ?_ _))⟩

set_option maxHeartbeats 4000000 in
theorem pairs_l (ax ay bx bZ cx cy dx dy : Int) (w : World) : Calls Try.prog 5 #[seg ax ay bx bZ, seg cx cy dx dy] w fun e w' => e = .returned (.bool true) ∧ Grew w w' := by
  go_enter Try.func5, Try.ntmps5
  go_wp2
  refine wp_region_over (by kernel_rfl) (by kernel_rfl) ?_; (repeat (go_big_quiet_step (first | (go_at_call 18; with_reducible exact over_call (Meet_p _ _ _ _ _ _ _ _ _)) | (go_at_call 19; with_reducible exact over_call (meet_r _ _ _ _ _ _ _ _ _)) | (go_at_call 20; with_reducible exact over_call (Cross_p _ _ _ _ _ _ _ _ _)) | (go_at_call 21; with_reducible exact over_call (cross_r _ _ _ _ _ _ _ _ _)) | (go_at_call 15; with_reducible exact over_call (awake_l _))))); refine wpQuiet_nil ?_; rintro _ ⟨x, rfl⟩
  go_wp2
  go_ret
  exact ⟨rfl, by (repeat (first | exact Grew.refl _ | refine Grew.over ?_ _ | refine Grew.alloc ?_ _ | refine Grew.drew ?_ | refine Grew.drewN ?_ _))⟩

set_option maxHeartbeats 4000000 in
theorem turns_l (ax ay bx bZ cx cy : Int) (w : World) : Calls Try.prog 6 #[pt ax ay, pt bx bZ, pt cx cy] w fun e w' => e = .returned (.bool true) ∧ Grew w w' := by
  have e1 := ori_rot ax ay bx bZ cx cy
  have e2 := ori_swap ax ay bx bZ cx cy
  obtain ⟨b1, b2⟩ := ori_bd ax ay bx bZ cx cy
  generalize e0 : ori ax ay bx bZ cx cy = o at *
  go_enter Try.func6, Try.ntmps6
  go_wp2_with (first | (go_at_call 11; (with_reducible refine (orient_p _ _ _ _ _ _ _).mono ?_); rintro e w' ⟨rfl, x, rfl⟩) | (go_at_call 15; (with_reducible refine (awake_l _).mono ?_); rintro e w' ⟨rfl, x, rfl⟩))
  go_ret
  exact ⟨rfl, by (repeat (first | exact Grew.refl _ | refine Grew.over ?_ _ | refine Grew.alloc ?_ _ | refine Grew.drew ?_ | refine Grew.drewN ?_ _))⟩

set_option maxHeartbeats 4000000 in
theorem symmetric_l (ax ay bx bZ cx cy dx dy : Int) (w : World) : Calls Try.prog 7 #[seg ax ay bx bZ, seg cx cy dx dy] w fun e w' => e = .returned (.bool true) ∧ Grew w w' := by
  have e1 := crossS_comm ax ay bx bZ cx cy dx dy
  have e2 := meetS_comm ax ay bx bZ cx cy dx dy
  have e3 := crossS_back ax ay bx bZ cx cy dx dy
  have e4 := meetS_back ax ay bx bZ cx cy dx dy
  have h := meetS_of_cross (ax := ax) (ay := ay) (bx := bx) (bZ := bZ) (cx := cx) (cy := cy) (dx := dx) (dy := dy)
  cases hc : crossS ax ay bx bZ cx cy dx dy <;> cases hm : meetS ax ay bx bZ cx cy dx dy
  all_goals
    rw [hc] at e1 e3
    rw [hm] at e2 e4
  case true.false =>
    rw [h hc] at hm
    cases hm
  all_goals
    clear h
    go_enter Try.func7, Try.ntmps7
    go_wp2_with (first | (go_at_call 18; (with_reducible refine (Meet_p _ _ _ _ _ _ _ _ _).mono ?_); rintro e w' ⟨rfl, x, rfl⟩) | (go_at_call 20; (with_reducible refine (Cross_p _ _ _ _ _ _ _ _ _).mono ?_); rintro e w' ⟨rfl, x, rfl⟩) | (go_at_call 15; (with_reducible refine (awake_l _).mono ?_); rintro e w' ⟨rfl, x, rfl⟩))
    refine wp_region_over (by kernel_rfl) (by kernel_rfl) ?_; (repeat (go_big_quiet_step (first | (go_at_call 18; with_reducible exact over_call (Meet_p _ _ _ _ _ _ _ _ _)) | (go_at_call 20; with_reducible exact over_call (Cross_p _ _ _ _ _ _ _ _ _)) | (go_at_call 15; with_reducible exact over_call (awake_l _))))); refine wpQuiet_nil ?_; rintro _ ⟨x, rfl⟩
    go_wp2_with (first | (go_at_call 18; (with_reducible refine (Meet_p _ _ _ _ _ _ _ _ _).mono ?_); rintro e w' ⟨rfl, x, rfl⟩) | (go_at_call 20; (with_reducible refine (Cross_p _ _ _ _ _ _ _ _ _).mono ?_); rintro e w' ⟨rfl, x, rfl⟩) | (go_at_call 15; (with_reducible refine (awake_l _).mono ?_); rintro e w' ⟨rfl, x, rfl⟩))
    go_ret
    exact ⟨rfl, by (repeat (first | exact Grew.refl _ | refine Grew.over ?_ _ | refine Grew.alloc ?_ _ | refine Grew.drew ?_ | refine Grew.drewN ?_ _))⟩

theorem dst_comm (ax ay bx bZ : Int) : dst bx bZ ax ay = dst ax ay bx bZ := by
  unfold dst
  rw [Bool.and_comm]
  split <;> omega
theorem dst_pos (ax ay bx bZ : Int) : 0 ≤ dst ax ay bx bZ := by
  unfold dst
  split <;> omega

end Go.Proofs.Ytomkamohcdcmhaa
