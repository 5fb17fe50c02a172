/- Contracts of geom's reference. -/
import Derived.Test.YtomkamohcdcmhaaGeom5
set_option linter.unusedSimpArgs false
set_option linter.unusedVariables false
namespace Go.Proofs.Ytomkamohcdcmhaa
open Go.RowKit

set_option maxHeartbeats 2000000 in
theorem whole_r (ax ay bx bZ : Int) (w : World) :
    Calls Try.prog 28 #[seg ax ay bx bZ] w fun e w' => e = .returned (.bool (vld ax ay && vld bx bZ)) ∧ Grew w w' := by
  cases ha : vld ax ay
  all_goals
    have ka := Lib.hid ha
    go_enter Try.func28, Try.ntmps28
    go_wp2_with (first | (go_at_call 10; (with_reducible refine (valid_r _ _ _).mono ?_); rintro e w' ⟨rfl, x, rfl⟩))
    go_ret
    refine ⟨ret_bool ?_, ?_⟩
    · simp
    · (repeat (first | exact Grew.refl _ | refine Grew.over ?_ _ | refine Grew.alloc ?_ _ | refine Grew.drew ?_ | refine Grew.drewN ?_ _))

set_option maxHeartbeats 2000000 in
theorem orient_r (ax ay bx bZ cx cy : Int) (w : World) :
    Calls Try.prog 12 #[pt ax ay, pt bx bZ, pt cx cy] w fun e w' => e = .returned (.int .i64 (ori ax ay bx bZ cx cy)) ∧ Grew w w' := by
  have hS : (vld ax ay = false ∨ vld ax ay = true ∧ (vld bx bZ = false ∨ vld bx bZ = true ∧ vld cx cy = false)) ∨ (vld ax ay = true ∧ vld bx bZ = true ∧ vld cx cy = true) := by
    cases vld ax ay <;> cases vld bx bZ <;> cases vld cx cy <;> simp
  rcases hS with hn | ⟨ha, hb, hc⟩
  · have hz : ori ax ay bx bZ cx cy = 0 := ori_no (by rcases hn with h | ⟨_, h | ⟨_, h⟩⟩ <;> simp [h])
    have kz := Lib.hid hz
    clear hz
    rcases hn with h1 | ⟨h1, h2 | ⟨h2, h3⟩⟩
    all_goals
      go_enter Try.func12, Try.ntmps12
      go_wp2_with (first | (go_at_call 10; (with_reducible refine (valid_r _ _ _).mono ?_); rintro e w' ⟨rfl, x, rfl⟩))
      go_ret
      exact ⟨ret_int kz.out.symm, by (repeat (first | exact Grew.refl _ | refine Grew.over ?_ _ | refine Grew.alloc ?_ _ | refine Grew.drew ?_ | refine Grew.drewN ?_ _))⟩
  · have kz := Lib.hid (ori_yes ha hb hc)
    obtain ⟨⟨m1, m2⟩, m3, m4⟩ := side_bd ha hb hc
    obtain ⟨a1, a2, a3, a4⟩ := vld_iff.1 ha
    obtain ⟨b1, b2, b3, b4⟩ := vld_iff.1 hb
    obtain ⟨c1, c2, c3, c4⟩ := vld_iff.1 hc
    go_enter Try.func12, Try.ntmps12
    go_wp2_with (first | (go_at_call 10; (with_reducible refine (valid_r _ _ _).mono ?_); rintro e w' ⟨rfl, x, rfl⟩) | (go_at_call 23; (with_reducible refine (sign_r _ _).mono ?_); rintro e w' ⟨rfl, rfl⟩))
    go_ret
    exact ⟨ret_int kz.out.symm, by (repeat (first | exact Grew.refl _ | refine Grew.over ?_ _ | refine Grew.alloc ?_ _ | refine Grew.drew ?_ | refine Grew.drewN ?_ _))⟩

set_option maxHeartbeats 2000000 in
theorem distance_r (ax ay bx bZ : Int) (w : World) :
    Calls Try.prog 14 #[pt ax ay, pt bx bZ] w fun e w' => e = .returned (.int .i64 (dst ax ay bx bZ)) ∧ Grew w w' := by
  have hS : (vld ax ay = false ∨ vld ax ay = true ∧ vld bx bZ = false) ∨ (vld ax ay = true ∧ vld bx bZ = true) := by
    cases vld ax ay <;> cases vld bx bZ <;> simp
  rcases hS with hn | ⟨ha, hb⟩
  · have kz := Lib.hid (dst_no (ax := ax) (ay := ay) (bx := bx) (bZ := bZ) (by rcases hn with h | ⟨_, h⟩ <;> simp [h]))
    rcases hn with h1 | ⟨h1, h2⟩
    all_goals
      go_enter Try.func14, Try.ntmps14
      go_wp2_with (first | (go_at_call 10; (with_reducible refine (valid_r _ _ _).mono ?_); rintro e w' ⟨rfl, x, rfl⟩))
      go_ret
      exact ⟨ret_int kz.out.symm, by (repeat (first | exact Grew.refl _ | refine Grew.over ?_ _ | refine Grew.alloc ?_ _ | refine Grew.drew ?_ | refine Grew.drewN ?_ _))⟩
  · have ka := Lib.hid (dst_yes ha hb)
    obtain ⟨a1, a2, a3, a4⟩ := vld_iff.1 ha
    obtain ⟨b1, b2, b3, b4⟩ := vld_iff.1 hb
    obtain ⟨c1, c2, c3, c4⟩ := abs_bd ⟨a1, a2⟩ ⟨b1, b2⟩
    obtain ⟨d1, d2, d3, d4⟩ := abs_bd ⟨a3, a4⟩ ⟨b3, b4⟩
    go_enter Try.func14, Try.ntmps14
    go_wp2_with (first | (go_at_call 10; (with_reducible refine (valid_r _ _ _).mono ?_); rintro e w' ⟨rfl, x, rfl⟩))
    refine wp_region_over (by kernel_rfl) (by kernel_rfl) ?_; (repeat (go_big_quiet_step (first | (go_at_call 25; with_reducible exact over_callE (abs_r _ _ c1 c2)) | (go_at_call 25; with_reducible exact over_callE (abs_r _ _ d1 d2))))); refine wpQuiet_nil ?_; rintro _ ⟨x, rfl⟩
    go_wp2
    go_ret
    exact ⟨ret_int ka.out.symm, by (repeat (first | exact Grew.refl _ | refine Grew.over ?_ _ | refine Grew.alloc ?_ _ | refine Grew.drew ?_ | refine Grew.drewN ?_ _))⟩

set_option maxHeartbeats 2000000 in
theorem on_r (px py ax ay bx bZ : Int) (w : World) :
    Calls Try.prog 17 #[pt px py, seg ax ay bx bZ] w fun e w' => e = .returned (.bool (onS px py ax ay bx bZ)) ∧ Grew w w' := by
  cases hp : vld px py
  case false =>
    have kp := Lib.hid hp
    go_enter Try.func17, Try.ntmps17
    go_wp2_with (first | (go_at_call 10; (with_reducible refine (valid_r _ _ _).mono ?_); rintro e w' ⟨rfl, x, rfl⟩))
    go_ret
    refine ⟨ret_bool ?_, ?_⟩
    · unfold onS
      rw [kp.out]
      simp
    · (repeat (first | exact Grew.refl _ | refine Grew.over ?_ _ | refine Grew.alloc ?_ _ | refine Grew.drew ?_ | refine Grew.drewN ?_ _))
  case true =>
    cases ha : (vld ax ay && vld bx bZ)
    case false =>
      have ka := Lib.hid ha
      go_enter Try.func17, Try.ntmps17
      go_wp2_with (first | (go_at_call 10; (with_reducible refine (valid_r _ _ _).mono ?_); rintro e w' ⟨rfl, x, rfl⟩) | (go_at_call 28; (with_reducible refine (whole_r _ _ _ _ _).mono ?_); rintro e w' ⟨rfl, x, rfl⟩))
      go_ret
      refine ⟨ret_bool ?_, ?_⟩
      · unfold onS
        rw [ka.out]
        simp
      · (repeat (first | exact Grew.refl _ | refine Grew.over ?_ _ | refine Grew.alloc ?_ _ | refine Grew.drew ?_ | refine Grew.drewN ?_ _))
    case true =>
      have kp := Lib.hid hp
      have ka := Lib.hid ha
      have ko : ori ax ay bx bZ px py = sgn (crs ax ay bx bZ px py) := ori_yes (and_vld ha).1 (and_vld ha).2 hp
      cases ho : (ori ax ay bx bZ px py != 0)
      case true =>
        have kk := Lib.hid ko
        clear ko
        have kh := Lib.hid ho
        go_enter Try.func17, Try.ntmps17
        go_wp2_with (first | (go_at_call 10; (with_reducible refine (valid_r _ _ _).mono ?_); rintro e w' ⟨rfl, x, rfl⟩) | (go_at_call 28; (with_reducible refine (whole_r _ _ _ _ _).mono ?_); rintro e w' ⟨rfl, x, rfl⟩) | (go_at_call 12; (with_reducible refine (orient_r _ _ _ _ _ _ _).mono ?_); rintro e w' ⟨rfl, x, rfl⟩))
        go_ret
        refine ⟨ret_bool ?_, ?_⟩
        · have := kh.out
          rw [kk.out] at this
          unfold onS onl
          simp at this
          simp [this]
        · (repeat (first | exact Grew.refl _ | refine Grew.over ?_ _ | refine Grew.alloc ?_ _ | refine Grew.drew ?_ | refine Grew.drewN ?_ _))
      case false =>
        have kk := Lib.hid ko
        clear ko
        have kh := Lib.hid ho
        go_enter Try.func17, Try.ntmps17
        go_wp2_with (first | (go_at_call 10; (with_reducible refine (valid_r _ _ _).mono ?_); rintro e w' ⟨rfl, x, rfl⟩) | (go_at_call 28; (with_reducible refine (whole_r _ _ _ _ _).mono ?_); rintro e w' ⟨rfl, x, rfl⟩) | (go_at_call 12; (with_reducible refine (orient_r _ _ _ _ _ _ _).mono ?_); rintro e w' ⟨rfl, x, rfl⟩))
        all_goals
          go_ret
          refine ⟨ret_bool ?_, ?_⟩
          · have := kh.out
            rw [kk.out] at this
            unfold onS onl
            rw [kp.out, ka.out]
            simp at this
            rw [Bool.eq_iff_iff]
            simp [this, inb]
            try omega
          · (repeat (first | exact Grew.refl _ | refine Grew.over ?_ _ | refine Grew.alloc ?_ _ | refine Grew.drew ?_ | refine Grew.drewN ?_ _))

end Go.Proofs.Ytomkamohcdcmhaa
