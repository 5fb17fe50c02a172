/- Contracts of geom's exported functions. -/
import Derived.Test.YtomkamohcdcmhaaGeom3
set_option linter.unusedSimpArgs false
set_option linter.unusedVariables false
namespace Go.Proofs.Ytomkamohcdcmhaa
open Go.RowKit

def onS (px py ax ay bx bZ : Int) : Bool := (vld ax ay && vld bx bZ) && vld px py && onl ax ay bx bZ px py
def crossS (ax ay bx bZ cx cy dx dy : Int) : Bool := (vld ax ay && vld bx bZ) && (vld cx cy && vld dx dy) && (ptsd ax ay bx bZ cx cy dx dy && ptsd cx cy dx dy ax ay bx bZ)
def meetS (ax ay bx bZ cx cy dx dy : Int) : Bool := (vld ax ay && vld bx bZ) && (vld cx cy && vld dx dy) &&
  (ptsd ax ay bx bZ cx cy dx dy && ptsd cx cy dx dy ax ay bx bZ || onl ax ay bx bZ cx cy || onl ax ay bx bZ dx dy || onl cx cy dx dy ax ay || onl cx cy dx dy bx bZ)

set_option maxHeartbeats 2000000 in
theorem On_p (px py ax ay bx bZ : Int) (w : World) :
    Calls Try.prog 16 #[pt px py, seg ax ay bx bZ] w fun e w' => e = .returned (.bool (onS px py ax ay bx bZ)) ∧ Grew w w' := by
  cases ha : vld ax ay <;> cases hb : vld bx bZ <;> cases hp : vld px py
  all_goals
    have ka := Lib.hid ha
    have kb := Lib.hid hb
    have kp := Lib.hid hp
    go_enter Try.func16, Try.ntmps16
    go_wp2_with (first | (go_at_call 26; (with_reducible refine (of_p _ _ _ _ _).mono ?_); rintro e w' ⟨rfl, x, rfl⟩) | (go_at_call 9; (with_reducible refine (valid_p _ _ _).mono ?_); rintro e w' ⟨rfl, x, rfl⟩) | (go_at_call 27; (with_reducible refine (on_p _ _ _ _ _ _ _ ka.out kb.out kp.out).mono ?_); rintro e w' ⟨rfl, x, rfl⟩))
    go_ret
    refine ⟨ret_bool ?_, ?_⟩
    · unfold onS
      rw [ka.out, kb.out, kp.out]
      simp
    · (repeat (first | exact Grew.refl _ | refine Grew.over ?_ _ | refine Grew.alloc ?_ _ | refine Grew.drew ?_ | refine Grew.drewN ?_ _))

set_option maxHeartbeats 2000000 in
theorem Cross_p (ax ay bx bZ cx cy dx dy : Int) (w : World) :
    Calls Try.prog 20 #[seg ax ay bx bZ, seg cx cy dx dy] w fun e w' => e = .returned (.bool (crossS ax ay bx bZ cx cy dx dy)) ∧ Grew w w' := by
  cases ha : vld ax ay <;> cases hb : vld bx bZ <;> cases hc : vld cx cy <;> cases hd : vld dx dy
  all_goals
    have ka := Lib.hid ha
    have kb := Lib.hid hb
    have kc := Lib.hid hc
    have kd := Lib.hid hd
    cases hq : ptsd ax ay bx bZ cx cy dx dy
  all_goals
    have kq := Lib.hid hq
    go_enter Try.func20, Try.ntmps20
    go_wp2_with (first | (go_at_call 26; (with_reducible refine (of_p _ _ _ _ _).mono ?_); rintro e w' ⟨rfl, x, rfl⟩) | (go_at_call 29; (with_reducible refine (parts_p _ _ _ _ _ _ _ _ _ ka.out kb.out kc.out kd.out).mono ?_); rintro e w' ⟨rfl, x, rfl⟩) | (go_at_call 29; (with_reducible refine (parts_p _ _ _ _ _ _ _ _ _ kc.out kd.out ka.out kb.out).mono ?_); rintro e w' ⟨rfl, x, rfl⟩))
    go_ret
    refine ⟨ret_bool ?_, ?_⟩
    · unfold crossS
      rw [ka.out, kb.out, kc.out, kd.out, kq.out]
      simp
    · (repeat (first | exact Grew.refl _ | refine Grew.over ?_ _ | refine Grew.alloc ?_ _ | refine Grew.drew ?_ | refine Grew.drewN ?_ _))

end Go.Proofs.Ytomkamohcdcmhaa
