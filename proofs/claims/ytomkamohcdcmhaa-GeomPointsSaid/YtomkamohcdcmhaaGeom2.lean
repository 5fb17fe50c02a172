/- Contracts of geom and of its reference: orientation, distance, points on segments, segments that meet and cross. -/
import Derived.Test.YtomkamohcdcmhaaGeom1
set_option linter.unusedSimpArgs false
set_option linter.unusedVariables false
namespace Go.Proofs.Ytomkamohcdcmhaa
open Go.RowKit

def ori (ax ay bx bZ cx cy : Int) : Int := if vld ax ay && vld bx bZ && vld cx cy then sgn (crs ax ay bx bZ cx cy) else 0
theorem ori_yes {ax ay bx bZ cx cy : Int} (ha : vld ax ay = true) (hb : vld bx bZ = true) (hc : vld cx cy = true) : ori ax ay bx bZ cx cy = sgn (crs ax ay bx bZ cx cy) := by unfold ori; simp [ha, hb, hc]
theorem ori_no {ax ay bx bZ cx cy : Int} (h : vld ax ay = false ∨ vld bx bZ = false ∨ vld cx cy = false) : ori ax ay bx bZ cx cy = 0 := by
  unfold ori; rcases h with h | h | h <;> simp [h]

def dst (ax ay bx bZ : Int) : Int := if vld ax ay && vld bx bZ then max (ax - bx) (-(ax - bx)) + max (ay - bZ) (-(ay - bZ)) else 0
theorem dst_yes {ax ay bx bZ : Int} (ha : vld ax ay = true) (hb : vld bx bZ = true) : dst ax ay bx bZ = max (ax - bx) (-(ax - bx)) + max (ay - bZ) (-(ay - bZ)) := by unfold dst; simp [ha, hb]
theorem dst_no {ax ay bx bZ : Int} (h : vld ax ay = false ∨ vld bx bZ = false) : dst ax ay bx bZ = 0 := by
  unfold dst; rcases h with h | h <;> simp [h]

theorem grew1 (w : World) (a : Obj) (x : World) : Grew w (over (w.alloc a) x) := ((Grew.refl w).alloc _).over _

set_option maxHeartbeats 1000000 in
theorem orient_p (ax ay bx bZ cx cy : Int) (w : World) :
    Calls Try.prog 11 #[pt ax ay, pt bx bZ, pt cx cy] w fun e w' => e = .returned (.int .i64 (ori ax ay bx bZ cx cy)) ∧ Grew w w' := by
  cases ha : vld ax ay
  case false =>
    have hz := Lib.hid (ori_no (bx := bx) (bZ := bZ) (cx := cx) (cy := cy) (Or.inl ha))
    go_enter Try.func11, Try.ntmps11
    go_wp2_with (go_at_call 9; refine (valid_p _ _ _).mono ?_; rintro e w' ⟨rfl, x, rfl⟩)
    go_ret
    exact ⟨ret_int hz.out.symm, by repeat (first | exact Grew.refl _ | refine Grew.over ?_ _ | refine Grew.alloc ?_ _)⟩
  case true =>
    cases hb : vld bx bZ
    case false =>
      have hz := Lib.hid (ori_no (ax := ax) (ay := ay) (cx := cx) (cy := cy) (Or.inr (Or.inl hb)))
      go_enter Try.func11, Try.ntmps11
      go_wp2_with (go_at_call 9; refine (valid_p _ _ _).mono ?_; rintro e w' ⟨rfl, x, rfl⟩)
      go_ret
      exact ⟨ret_int hz.out.symm, by repeat (first | exact Grew.refl _ | refine Grew.over ?_ _ | refine Grew.alloc ?_ _)⟩
    case true =>
      cases hc : vld cx cy
      case false =>
        have hz := Lib.hid (ori_no (ax := ax) (ay := ay) (bx := bx) (bZ := bZ) (Or.inr (Or.inr hc)))
        go_enter Try.func11, Try.ntmps11
        go_wp2_with (go_at_call 9; refine (valid_p _ _ _).mono ?_; rintro e w' ⟨rfl, x, rfl⟩)
        go_ret
        exact ⟨ret_int hz.out.symm, by repeat (first | exact Grew.refl _ | refine Grew.over ?_ _ | refine Grew.alloc ?_ _)⟩
      case true =>
        have hz := Lib.hid (ori_yes ha hb hc)
        have ka := Lib.hid ha
        have kb := Lib.hid hb
        have kc := Lib.hid hc
        go_enter Try.func11, Try.ntmps11
        go_wp2_with (first | (go_at_call 9; refine (valid_p _ _ _).mono ?_; rintro e w' ⟨rfl, x, rfl⟩) | (go_at_call 22; refine (side_p _ _ _ _ _ _ _ ka.out kb.out kc.out).mono ?_; rintro e w' ⟨rfl, x, rfl⟩))
        go_ret
        exact ⟨ret_int hz.out.symm, by repeat (first | exact Grew.refl _ | refine Grew.over ?_ _ | refine Grew.alloc ?_ _)⟩

end Go.Proofs.Ytomkamohcdcmhaa
