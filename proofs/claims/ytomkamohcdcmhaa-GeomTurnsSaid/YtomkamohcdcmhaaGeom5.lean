/- Contracts of geom's Meet and Distance. -/
import Derived.Test.YtomkamohcdcmhaaGeom4
set_option linter.unusedSimpArgs false
set_option linter.unusedVariables false
namespace Go.Proofs.Ytomkamohcdcmhaa
open Go.RowKit

theorem and_vld {ax ay bx bZ : Int} (h : (vld ax ay && vld bx bZ) = true) : vld ax ay = true ∧ vld bx bZ = true := by simpa using h

set_option maxHeartbeats 2000000 in
theorem Meet_p (ax ay bx bZ cx cy dx dy : Int) (w : World) :
    Calls Try.prog 18 #[seg ax ay bx bZ, seg cx cy dx dy] w fun e w' => e = .returned (.bool (meetS ax ay bx bZ cx cy dx dy)) ∧ Grew w w' := by
  cases ha : (vld ax ay && vld bx bZ)
  case false =>
    have ka := Lib.hid ha
    go_enter Try.func18, Try.ntmps18
    go_wp2_with (first | (go_at_call 26; (with_reducible refine (of_p _ _ _ _ _).mono ?_); rintro e w' ⟨rfl, x, rfl⟩))
    go_ret
    refine ⟨ret_bool ?_, ?_⟩
    · unfold meetS
      rw [ka.out]
      simp
    · (repeat (first | exact Grew.refl _ | refine Grew.over ?_ _ | refine Grew.alloc ?_ _ | refine Grew.drew ?_ | refine Grew.drewN ?_ _))
  case true =>
    cases hc : (vld cx cy && vld dx dy)
    case false =>
      have ka := Lib.hid ha
      have kc := Lib.hid hc
      go_enter Try.func18, Try.ntmps18
      go_wp2_with (first | (go_at_call 26; (with_reducible refine (of_p _ _ _ _ _).mono ?_); rintro e w' ⟨rfl, x, rfl⟩))
      go_ret
      refine ⟨ret_bool ?_, ?_⟩
      · unfold meetS
        rw [ka.out, kc.out]
        simp
      · (repeat (first | exact Grew.refl _ | refine Grew.over ?_ _ | refine Grew.alloc ?_ _ | refine Grew.drew ?_ | refine Grew.drewN ?_ _))
    case true =>
      have ka := Lib.hid (and_vld ha)
      have kc := Lib.hid (and_vld hc)
      have kaa := Lib.hid ha
      have kcc := Lib.hid hc
      have hS : (ptsd ax ay bx bZ cx cy dx dy = true ∧ ptsd cx cy dx dy ax ay bx bZ = true) ∨
          (ptsd ax ay bx bZ cx cy dx dy = false ∨ ptsd ax ay bx bZ cx cy dx dy = true ∧ ptsd cx cy dx dy ax ay bx bZ = false) ∧
          (onl ax ay bx bZ cx cy = true ∨ onl ax ay bx bZ cx cy = false ∧ (onl ax ay bx bZ dx dy = true ∨ onl ax ay bx bZ dx dy = false ∧ (onl cx cy dx dy ax ay = true ∨ onl cx cy dx dy ax ay = false))) := by
        cases ptsd ax ay bx bZ cx cy dx dy <;> cases ptsd cx cy dx dy ax ay bx bZ <;> cases onl ax ay bx bZ cx cy <;> cases onl ax ay bx bZ dx dy <;> cases onl cx cy dx dy ax ay <;> simp
      rcases hS with ⟨h1, h2⟩ | ⟨h1 | ⟨h1, h2⟩, h3 | ⟨h3, h4 | ⟨h4, h5 | h5⟩⟩⟩
      all_goals
        have k1 := Lib.hid h1
        try have k2 := Lib.hid h2
        try have k3 := Lib.hid h3
        try have k4 := Lib.hid h4
        try have k5 := Lib.hid h5
        go_enter Try.func18, Try.ntmps18
        go_wp2_with (first | (go_at_call 26; (with_reducible refine (of_p _ _ _ _ _).mono ?_); rintro e w' ⟨rfl, x, rfl⟩) | (go_at_call 29; (with_reducible refine (parts_p _ _ _ _ _ _ _ _ _ ka.out.1 ka.out.2 kc.out.1 kc.out.2).mono ?_); rintro e w' ⟨rfl, x, rfl⟩) | (go_at_call 29; (with_reducible refine (parts_p _ _ _ _ _ _ _ _ _ kc.out.1 kc.out.2 ka.out.1 ka.out.2).mono ?_); rintro e w' ⟨rfl, x, rfl⟩) | (go_at_call 27; (with_reducible refine (on_p _ _ _ _ _ _ _ ka.out.1 ka.out.2 kc.out.1).mono ?_); rintro e w' ⟨rfl, x, rfl⟩) | (go_at_call 27; (with_reducible refine (on_p _ _ _ _ _ _ _ ka.out.1 ka.out.2 kc.out.2).mono ?_); rintro e w' ⟨rfl, x, rfl⟩) | (go_at_call 27; (with_reducible refine (on_p _ _ _ _ _ _ _ kc.out.1 kc.out.2 ka.out.1).mono ?_); rintro e w' ⟨rfl, x, rfl⟩) | (go_at_call 27; (with_reducible refine (on_p _ _ _ _ _ _ _ kc.out.1 kc.out.2 ka.out.2).mono ?_); rintro e w' ⟨rfl, x, rfl⟩))
        go_ret
        refine ⟨ret_bool ?_, ?_⟩
        · unfold meetS
          rw [kaa.out, kcc.out, k1.out]
          try rw [k2.out]
          try rw [k3.out]
          try rw [k4.out]
          try rw [k5.out]
          simp
        · (repeat (first | exact Grew.refl _ | refine Grew.over ?_ _ | refine Grew.alloc ?_ _ | refine Grew.drew ?_ | refine Grew.drewN ?_ _))

theorem abs_bd {a b : Int} (ha : -268435456 ≤ a ∧ a ≤ 268435456) (hb : -268435456 ≤ b ∧ b ≤ 268435456) : -1000000000 ≤ a - b ∧ a - b ≤ 1000000000 ∧ 0 ≤ max (a - b) (-(a - b)) ∧ max (a - b) (-(a - b)) ≤ 1000000000 := by omega

set_option maxHeartbeats 2000000 in
theorem Distance_p (ax ay bx bZ : Int) (w : World) :
    Calls Try.prog 13 #[pt ax ay, pt bx bZ] w fun e w' => e = .returned (.int .i64 (dst ax ay bx bZ)) ∧ Grew w w' := by
  cases ha : vld ax ay
  case false =>
    have ka := Lib.hid ha
    go_enter Try.func13, Try.ntmps13
    go_wp2_with (first | (go_at_call 9; (with_reducible refine (valid_p _ _ _).mono ?_); rintro e w' ⟨rfl, x, rfl⟩))
    go_ret
    exact ⟨ret_int (dst_no (Or.inl ka.out)).symm, by (repeat (first | exact Grew.refl _ | refine Grew.over ?_ _ | refine Grew.alloc ?_ _ | refine Grew.drew ?_ | refine Grew.drewN ?_ _))⟩
  case true =>
    cases hb : vld bx bZ
    case false =>
      have ka := Lib.hid hb
      go_enter Try.func13, Try.ntmps13
      go_wp2_with (first | (go_at_call 9; (with_reducible refine (valid_p _ _ _).mono ?_); rintro e w' ⟨rfl, x, rfl⟩))
      go_ret
      exact ⟨ret_int (dst_no (Or.inr ka.out)).symm, by (repeat (first | exact Grew.refl _ | refine Grew.over ?_ _ | refine Grew.alloc ?_ _ | refine Grew.drew ?_ | refine Grew.drewN ?_ _))⟩
    case true =>
      have ka := Lib.hid (dst_yes ha hb)
      obtain ⟨a1, a2, a3, a4⟩ := vld_iff.1 ha
      obtain ⟨b1, b2, b3, b4⟩ := vld_iff.1 hb
      obtain ⟨c1, c2, c3, c4⟩ := abs_bd ⟨a1, a2⟩ ⟨b1, b2⟩
      obtain ⟨d1, d2, d3, d4⟩ := abs_bd ⟨a3, a4⟩ ⟨b3, b4⟩
      go_enter Try.func13, Try.ntmps13
      go_wp2_with (first | (go_at_call 9; (with_reducible refine (valid_p _ _ _).mono ?_); rintro e w' ⟨rfl, x, rfl⟩))
      refine wp_region_over (by kernel_rfl) (by kernel_rfl) ?_; (repeat (go_big_quiet_step (first | (go_at_call 24; with_reducible exact over_callE (abs_p _ _ c1 c2)) | (go_at_call 24; with_reducible exact over_callE (abs_p _ _ d1 d2))))); refine wpQuiet_nil ?_; rintro _ ⟨x, rfl⟩
      go_wp2
      go_ret
      exact ⟨ret_int ka.out.symm, by (repeat (first | exact Grew.refl _ | refine Grew.over ?_ _ | refine Grew.alloc ?_ _ | refine Grew.drew ?_ | refine Grew.drewN ?_ _))⟩

end Go.Proofs.Ytomkamohcdcmhaa
