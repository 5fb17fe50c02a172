/- Contracts of geom's reference: Cross and Meet. -/
import Derived.Test.YtomkamohcdcmhaaGeom6
set_option linter.unusedSimpArgs false
set_option linter.unusedVariables false
namespace Go.Proofs.Ytomkamohcdcmhaa
open Go.RowKit

theorem ptsd_ori {ax ay bx bZ cx cy dx dy : Int} (ha : vld ax ay = true) (hb : vld bx bZ = true) (hc : vld cx cy = true) (hd : vld dx dy = true) :
    ptsd ax ay bx bZ cx cy dx dy = decide (ori ax ay bx bZ cx cy * ori ax ay bx bZ dx dy < 0) := by
  rw [ori_yes ha hb hc, ori_yes ha hb hd]; rfl
theorem ori_bd (ax ay bx bZ cx cy : Int) : -1 ≤ ori ax ay bx bZ cx cy ∧ ori ax ay bx bZ cx cy ≤ 1 := by
  unfold ori; split
  · exact sgn_bd _
  · omega

set_option maxHeartbeats 2000000 in
theorem cross_r (ax ay bx bZ cx cy dx dy : Int) (w : World) :
    Calls Try.prog 21 #[seg ax ay bx bZ, seg cx cy dx dy] w fun e w' => e = .returned (.bool (crossS ax ay bx bZ cx cy dx dy)) ∧ Grew w w' := by
  cases ha : (vld ax ay && vld bx bZ)
  case false =>
    have ka := Lib.hid ha
    go_enter Try.func21, Try.ntmps21
    go_wp2_with (first | (go_at_call 28; (with_reducible refine (whole_r _ _ _ _ _).mono ?_); rintro e w' ⟨rfl, x, rfl⟩))
    go_ret
    refine ⟨ret_bool ?_, ?_⟩
    · unfold crossS
      rw [ka.out]
      simp
    · (repeat (first | exact Grew.refl _ | refine Grew.over ?_ _ | refine Grew.alloc ?_ _ | refine Grew.drew ?_ | refine Grew.drewN ?_ _))
  case true =>
    cases hc : (vld cx cy && vld dx dy)
    case false =>
      have ka := Lib.hid hc
      go_enter Try.func21, Try.ntmps21
      go_wp2_with (first | (go_at_call 28; (with_reducible refine (whole_r _ _ _ _ _).mono ?_); rintro e w' ⟨rfl, x, rfl⟩))
      go_ret
      refine ⟨ret_bool ?_, ?_⟩
      · unfold crossS
        rw [ka.out]
        simp
      · (repeat (first | exact Grew.refl _ | refine Grew.over ?_ _ | refine Grew.alloc ?_ _ | refine Grew.drew ?_ | refine Grew.drewN ?_ _))
    case true =>
      have ka := Lib.hid ha
      have kc := Lib.hid hc
      have k1 := Lib.hid (ptsd_ori (and_vld ha).1 (and_vld ha).2 (and_vld hc).1 (and_vld hc).2)
      have k2 := Lib.hid (ptsd_ori (and_vld hc).1 (and_vld hc).2 (and_vld ha).1 (and_vld ha).2)
      obtain ⟨m1, m2⟩ := one_bd (ori_bd ax ay bx bZ cx cy) (ori_bd ax ay bx bZ dx dy)
      obtain ⟨m3, m4⟩ := one_bd (ori_bd cx cy dx dy ax ay) (ori_bd cx cy dx dy bx bZ)
      cases h : decide (ori ax ay bx bZ cx cy * ori ax ay bx bZ dx dy < 0)
      all_goals
        have kh := Lib.hid h
        go_enter Try.func21, Try.ntmps21
        go_wp2_with (first | (go_at_call 28; (with_reducible refine (whole_r _ _ _ _ _).mono ?_); rintro e w' ⟨rfl, x, rfl⟩))
        refine wp_region_over (by kernel_rfl) (by kernel_rfl) ?_; (repeat (go_big_quiet_step ((go_at_call 12; with_reducible exact over_call (orient_r _ _ _ _ _ _ _))))); refine wpQuiet_nil ?_; rintro _ ⟨x, rfl⟩
        go_wp2
        go_ret
        refine ⟨ret_bool ?_, ?_⟩
        · unfold crossS
          rw [ka.out, kc.out, k1.out, k2.out, kh.out]
          simp
        · (repeat (first | exact Grew.refl _ | refine Grew.over ?_ _ | refine Grew.alloc ?_ _ | refine Grew.drew ?_ | refine Grew.drewN ?_ _))

set_option maxHeartbeats 4000000 in
theorem meet_r (ax ay bx bZ cx cy dx dy : Int) (w : World) :
    Calls Try.prog 19 #[seg ax ay bx bZ, seg cx cy dx dy] w fun e w' => e = .returned (.bool (meetS ax ay bx bZ cx cy dx dy)) ∧ Grew w w' := by
  have hm : meetS ax ay bx bZ cx cy dx dy = (crossS ax ay bx bZ cx cy dx dy || onS ax ay cx cy dx dy && (vld ax ay && vld bx bZ) || onS bx bZ cx cy dx dy && (vld ax ay && vld bx bZ) ||
      onS cx cy ax ay bx bZ && (vld cx cy && vld dx dy) || onS dx dy ax ay bx bZ && (vld cx cy && vld dx dy)) := by
    unfold meetS crossS onS
    cases vld ax ay <;> cases vld bx bZ <;> cases vld cx cy <;> cases vld dx dy <;> cases ptsd ax ay bx bZ cx cy dx dy <;> cases ptsd cx cy dx dy ax ay bx bZ <;> cases onl ax ay bx bZ cx cy <;> cases onl ax ay bx bZ dx dy <;> simp
    all_goals
      cases onl cx cy dx dy ax ay <;> simp
  have km := Lib.hid hm
  clear hm
  have e0 : (vld ax ay && vld bx bZ) = false → crossS ax ay bx bZ cx cy dx dy = false ∧ onS cx cy ax ay bx bZ = false ∧ onS dx dy ax ay bx bZ = false := fun h => by simp [crossS, onS, h]
  have e1 : (vld cx cy && vld dx dy) = false → crossS ax ay bx bZ cx cy dx dy = false ∧ onS ax ay cx cy dx dy = false ∧ onS bx bZ cx cy dx dy = false := fun h => by simp [crossS, onS, h]
  have hS : ((vld ax ay && vld bx bZ) = true ∧ (vld cx cy && vld dx dy) = true ∧ (crossS ax ay bx bZ cx cy dx dy = true ∨ crossS ax ay bx bZ cx cy dx dy = false ∧ (onS ax ay cx cy dx dy = true ∨ onS ax ay cx cy dx dy = false ∧
        (onS bx bZ cx cy dx dy = true ∨ onS bx bZ cx cy dx dy = false ∧ (onS cx cy ax ay bx bZ = true ∨ onS cx cy ax ay bx bZ = false ∧ (onS dx dy ax ay bx bZ = true ∨ onS dx dy ax ay bx bZ = false)))))) ∨
      ((vld ax ay && vld bx bZ) = true ∧ (vld cx cy && vld dx dy) = false ∧ crossS ax ay bx bZ cx cy dx dy = false ∧ onS ax ay cx cy dx dy = false ∧ onS bx bZ cx cy dx dy = false ∧ (onS cx cy ax ay bx bZ = true ∨ onS cx cy ax ay bx bZ = false) ∧ (onS dx dy ax ay bx bZ = true ∨ onS dx dy ax ay bx bZ = false)) ∨
      ((vld ax ay && vld bx bZ) = false ∧ (vld cx cy && vld dx dy) = true ∧ crossS ax ay bx bZ cx cy dx dy = false ∧ onS cx cy ax ay bx bZ = false ∧ onS dx dy ax ay bx bZ = false ∧ (onS ax ay cx cy dx dy = true ∨ onS ax ay cx cy dx dy = false) ∧ (onS bx bZ cx cy dx dy = true ∨ onS bx bZ cx cy dx dy = false)) ∨
      ((vld ax ay && vld bx bZ) = false ∧ (vld cx cy && vld dx dy) = false ∧ crossS ax ay bx bZ cx cy dx dy = false ∧ onS cx cy ax ay bx bZ = false ∧ onS dx dy ax ay bx bZ = false ∧ onS ax ay cx cy dx dy = false ∧ onS bx bZ cx cy dx dy = false) := by
    cases hA : (vld ax ay && vld bx bZ) <;> cases hB : (vld cx cy && vld dx dy)
    · have := e0 hA
      have := e1 hB
      simp_all
    · have := e0 hA
      simp_all
    · have := e1 hB
      simp_all
    · left
      refine ⟨rfl, rfl, ?_⟩
      cases crossS ax ay bx bZ cx cy dx dy <;> cases onS ax ay cx cy dx dy <;> cases onS bx bZ cx cy dx dy <;> cases onS cx cy ax ay bx bZ <;> cases onS dx dy ax ay bx bZ <;> simp
  clear e0 e1
  rcases hS with ⟨hA, hB, h1 | ⟨h1, h2 | ⟨h2, h3 | ⟨h3, h4 | ⟨h4, h5 | h5⟩⟩⟩⟩⟩ | ⟨hA, hB, h1, h2, h3, h4 | h4, h5 | h5⟩ | ⟨hA, hB, h1, h2, h3, h4 | h4, h5 | h5⟩ | ⟨hA, hB, h1, h2, h3, h4, h5⟩
  all_goals
    have kA := Lib.hid hA
    have kB := Lib.hid hB
    have k1 := Lib.hid h1
    try have k2 := Lib.hid h2
    try have k3 := Lib.hid h3
    try have k4 := Lib.hid h4
    try have k5 := Lib.hid h5
    go_enter Try.func19, Try.ntmps19
    go_wp2_with (first | (go_at_call 28; (with_reducible refine (whole_r _ _ _ _ _).mono ?_); rintro e w' ⟨rfl, x, rfl⟩) | (go_at_call 21; (with_reducible refine (cross_r _ _ _ _ _ _ _ _ _).mono ?_); rintro e w' ⟨rfl, x, rfl⟩) | (go_at_call 17; (with_reducible refine (on_r _ _ _ _ _ _ _).mono ?_); rintro e w' ⟨rfl, x, rfl⟩))
    go_ret
    refine ⟨ret_bool ?_, ?_⟩
    · rw [km.out, kA.out, kB.out, k1.out]
      try rw [k2.out]
      try rw [k3.out]
      try rw [k4.out]
      try rw [k5.out]
      simp
    · (repeat (first | exact Grew.refl _ | refine Grew.over ?_ _ | refine Grew.alloc ?_ _ | refine Grew.drew ?_ | refine Grew.drewN ?_ _))

end Go.Proofs.Ytomkamohcdcmhaa
