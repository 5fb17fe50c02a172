/- Contracts of geom, and the small functions of the reference. -/
import Derived.Test.YtmljfjcebfonaaaLex
set_option linter.unusedSimpArgs false
set_option linter.unusedVariables false
namespace Go.Proofs.Ytmljfjcebfonaaa
open Go.RowKit


/-- A point is valid. -/
def vld (x y : Int) : Bool := decide (-268435456 ≤ x ∧ x ≤ 268435456 ∧ -268435456 ≤ y ∧ y ≤ 268435456)
theorem vld_iff {x y : Int} : vld x y = true ↔ -268435456 ≤ x ∧ x ≤ 268435456 ∧ -268435456 ≤ y ∧ y ≤ 268435456 := by unfold vld; simp
theorem vld_of {x y : Int} (h : -268435456 ≤ x ∧ x ≤ 268435456 ∧ -268435456 ≤ y ∧ y ≤ 268435456) : vld x y = true := vld_iff.2 h
theorem vld_not {x y : Int} (h : ¬ (-268435456 ≤ x ∧ x ≤ 268435456 ∧ -268435456 ≤ y ∧ y ≤ 268435456)) : vld x y = false := by
  rw [← Bool.not_eq_true, vld_iff]; exact h

/-- The sign of a number. -/
def sgn (n : Int) : Int := if 0 < n then 1 else if n < 0 then -1 else 0

abbrev pt (x y : Int) : Value := .agg #[.int .i64 x, .int .i64 y]
abbrev seg (a b c d : Int) : Value := .agg #[.int .i64 a, .int .i64 b, .int .i64 c, .int .i64 d]

theorem ret_bool {a b : Bool} (h : a = b) : Ending.returned (.bool a) = .returned (.bool b) := by rw [h]
theorem ret_int {k : IntKind} {a b : Int} (h : a = b) : Ending.returned (.int k a) = .returned (.int k b) := by rw [h]

set_option maxHeartbeats 400000 in
theorem valid_p (x y : Int) (w : World) :
    Calls Try.prog 41 #[pt x y] w fun e w' => e = .returned (.bool (vld x y)) ∧ Grew w w' := by
  go_enter Try.func41, Try.ntmps41
  go_wp2
  all_goals
    go_ret
    refine ⟨ret_bool (Eq.symm ?_), (Grew.refl w).alloc _⟩
    first
    | (refine vld_of ?_; omega)
    | (refine vld_not ?_; omega)
    | (rw [Bool.eq_iff_iff, vld_iff]; simp; omega)

/-- The cross product of b - a and c - a. -/
def crs (ax ay bx bZ cx cy : Int) : Int := (bx - ax) * (cy - ay) - (bZ - ay) * (cx - ax)

theorem mul_bd {a b : Int} {n m : Int} (h1 : -n ≤ a) (h2 : a ≤ n) (h3 : -m ≤ b) (h4 : b ≤ m) : -(n * m) ≤ a * b ∧ a * b ≤ n * m := by
  have e1 : 0 ≤ (n - a) * (m - b) := Int.mul_nonneg (by omega) (by omega)
  have e2 : 0 ≤ (n + a) * (m + b) := Int.mul_nonneg (by omega) (by omega)
  have e3 : 0 ≤ (n - a) * (m + b) := Int.mul_nonneg (by omega) (by omega)
  have e4 : 0 ≤ (n + a) * (m - b) := Int.mul_nonneg (by omega) (by omega)
  simp only [Int.sub_mul, Int.mul_sub, Int.add_mul, Int.mul_add] at e1 e2 e3 e4
  omega

set_option maxHeartbeats 400000 in
theorem abs_p (n : Int) (w : World) (h1 : -1000000000 ≤ n) (h2 : n ≤ 1000000000) :
    Calls Try.prog 43 #[.int .i64 n] w fun e w' => e = .returned (.int .i64 (max n (-n))) ∧ w = w' := by
  go_enter Try.func43, Try.ntmps43
  go_wp2
  all_goals
    go_ret
    exact ⟨ret_int (by omega), rfl⟩

/-- Products in the walk's own spelling. -/
theorem side_bd {ax ay bx bZ cx cy : Int} (ha : vld ax ay = true) (hb : vld bx bZ = true) (hc : vld cx cy = true) :
    (-288230376151711744 ≤ (bx - ax) * (cy - ay) ∧ (bx - ax) * (cy - ay) ≤ 288230376151711744) ∧ (-288230376151711744 ≤ (bZ - ay) * (cx - ax) ∧ (bZ - ay) * (cx - ax) ≤ 288230376151711744) := by
  rw [vld_iff] at ha hb hc
  exact ⟨mul_bd (n := 536870912) (m := 536870912) (by omega) (by omega) (by omega) (by omega), mul_bd (n := 536870912) (m := 536870912) (by omega) (by omega) (by omega) (by omega)⟩

set_option maxHeartbeats 1000000 in
theorem side_p (ax ay bx bZ cx cy : Int) (w : World) (ha : vld ax ay = true) (hb : vld bx bZ = true) (hc : vld cx cy = true) :
    Calls Try.prog 50 #[seg ax ay bx bZ, pt cx cy] w fun e w' => e = .returned (.int .i64 (sgn (crs ax ay bx bZ cx cy))) ∧ Grew w w' := by
  obtain ⟨⟨m1, m2⟩, m3, m4⟩ := side_bd ha hb hc
  obtain ⟨a1, a2, a3, a4⟩ := vld_iff.1 ha
  obtain ⟨b1, b2, b3, b4⟩ := vld_iff.1 hb
  obtain ⟨c1, c2, c3, c4⟩ := vld_iff.1 hc
  clear ha hb hc
  go_enter Try.func50, Try.ntmps50
  go_wp2
  all_goals
    go_ret
    refine ⟨ret_int ?_, ((Grew.refl w).alloc _).alloc _⟩
    unfold sgn crs
    repeat' split
    all_goals omega



def ori (ax ay bx bZ cx cy : Int) : Int := if vld ax ay && vld bx bZ && vld cx cy then sgn (crs ax ay bx bZ cx cy) else 0
theorem ori_yes {ax ay bx bZ cx cy : Int} (ha : vld ax ay = true) (hb : vld bx bZ = true) (hc : vld cx cy = true) : ori ax ay bx bZ cx cy = sgn (crs ax ay bx bZ cx cy) := by unfold ori; simp [ha, hb, hc]
theorem ori_no {ax ay bx bZ cx cy : Int} (h : vld ax ay = false ∨ vld bx bZ = false ∨ vld cx cy = false) : ori ax ay bx bZ cx cy = 0 := by
  unfold ori; rcases h with h | h | h <;> simp [h]

def dst (ax ay bx bZ : Int) : Int := if vld ax ay && vld bx bZ then max (ax - bx) (-(ax - bx)) + max (ay - bZ) (-(ay - bZ)) else 0
theorem dst_yes {ax ay bx bZ : Int} (ha : vld ax ay = true) (hb : vld bx bZ = true) : dst ax ay bx bZ = max (ax - bx) (-(ax - bx)) + max (ay - bZ) (-(ay - bZ)) := by unfold dst; simp [ha, hb]
theorem dst_no {ax ay bx bZ : Int} (h : vld ax ay = false ∨ vld bx bZ = false) : dst ax ay bx bZ = 0 := by
  unfold dst; rcases h with h | h <;> simp [h]

theorem grew1 (w : World) (a : Obj) (x : World) : Grew w (over (w.alloc a) x) := ((Grew.refl w).alloc _).over _

set_option maxHeartbeats 1000000 in
theorem orient_p (ax ay bx bZ cx cy : Int) (w : World) :
    Calls Try.prog 44 #[pt ax ay, pt bx bZ, pt cx cy] w fun e w' => e = .returned (.int .i64 (ori ax ay bx bZ cx cy)) ∧ Grew w w' := by
  cases ha : vld ax ay
  case false =>
    have hz := Lib.hid (ori_no (bx := bx) (bZ := bZ) (cx := cx) (cy := cy) (Or.inl ha))
    go_enter Try.func44, Try.ntmps44
    go_wp2_with (go_at_call 41; refine (valid_p _ _ _).mono ?_; rintro e w' ⟨rfl, x, rfl⟩)
    go_ret
    exact ⟨ret_int hz.out.symm, by repeat (first | exact Grew.refl _ | refine Grew.over ?_ _ | refine Grew.alloc ?_ _)⟩
  case true =>
    cases hb : vld bx bZ
    case false =>
      have hz := Lib.hid (ori_no (ax := ax) (ay := ay) (cx := cx) (cy := cy) (Or.inr (Or.inl hb)))
      go_enter Try.func44, Try.ntmps44
      go_wp2_with (go_at_call 41; refine (valid_p _ _ _).mono ?_; rintro e w' ⟨rfl, x, rfl⟩)
      go_ret
      exact ⟨ret_int hz.out.symm, by repeat (first | exact Grew.refl _ | refine Grew.over ?_ _ | refine Grew.alloc ?_ _)⟩
    case true =>
      cases hc : vld cx cy
      case false =>
        have hz := Lib.hid (ori_no (ax := ax) (ay := ay) (bx := bx) (bZ := bZ) (Or.inr (Or.inr hc)))
        go_enter Try.func44, Try.ntmps44
        go_wp2_with (go_at_call 41; refine (valid_p _ _ _).mono ?_; rintro e w' ⟨rfl, x, rfl⟩)
        go_ret
        exact ⟨ret_int hz.out.symm, by repeat (first | exact Grew.refl _ | refine Grew.over ?_ _ | refine Grew.alloc ?_ _)⟩
      case true =>
        have hz := Lib.hid (ori_yes ha hb hc)
        have ka := Lib.hid ha
        have kb := Lib.hid hb
        have kc := Lib.hid hc
        go_enter Try.func44, Try.ntmps44
        go_wp2_with (first | (go_at_call 41; refine (valid_p _ _ _).mono ?_; rintro e w' ⟨rfl, x, rfl⟩) | (go_at_call 50; refine (side_p _ _ _ _ _ _ _ ka.out kb.out kc.out).mono ?_; rintro e w' ⟨rfl, x, rfl⟩))
        go_ret
        exact ⟨ret_int hz.out.symm, by repeat (first | exact Grew.refl _ | refine Grew.over ?_ _ | refine Grew.alloc ?_ _)⟩




theorem valid_e {x y : Int} {b : Bool} (h : vld x y = b) (w : World) : Calls Try.prog 41 #[pt x y] w fun e w' => e = .returned (.bool b) ∧ Grew w w' := h ▸ valid_p x y w

set_option maxHeartbeats 1000000 in
theorem of_p (ax ay bx bZ : Int) (w : World) :
    Calls Try.prog 47 #[seg ax ay bx bZ] w fun e w' => e = .returned (.tuple #[seg ax ay bx bZ, .bool (vld ax ay && vld bx bZ)]) ∧ Grew w w' := by
  cases ha : vld ax ay
  all_goals
    go_enter Try.func47, Try.ntmps47
    go_wp2
    refine wp_region_lex (One 13 (fun b => (w.alloc (.cells #[.int .i64 ax, .int .i64 ay, .int .i64 bx, .int .i64 bZ] 39)).alloc (.cells (if b then #[.int .i64 ax, .int .i64 ay, .int .i64 bx, .int .i64 bZ] else #[.int .i64 0, .int .i64 0, .int .i64 0, .int .i64 0]) 49))) (by kernel_rfl) (by kernel_rfl) ?_ ?_
    · (repeat (first | exact Grew.refl _ | refine Grew.over ?_ _ | refine Grew.alloc ?_ _ | refine Grew.drew ?_ | refine Grew.drewN ?_ _))
    repeat (first
      | (refine lex_skip rfl ?_ ?_
         · exact One.keep (by decide)
         (try simp only [Act.put, List.setIfInBounds_toArray, List.set_cons_zero, List.set_cons_succ]))
      | (refine lex_pure (v := ?_) rfl ?_ (fun d w hd hr hC => ?_) ?_
         rotate_left
         · exact One.keep (by decide)
         · (obtain ⟨x, rfl⟩ := hC; simp [go_sem, ↓IntWalk.iteOmega]; try rfl)
         (try simp only [Act.put, List.setIfInBounds_toArray, List.set_cons_zero, List.set_cons_succ]))
      | (refine lex_call (v := ?_) (f := ?_) (args := ?_) rfl ?_ One.grew (fun d w hd hr hC => ?_) (fun d w hd hr hC => ?_) ?_
         rotate_left 3
         · exact One.keep (by decide)
         · (obtain ⟨x, rfl⟩ := hC; simp [go_sem, ↓IntWalk.iteOmega]; (refine ⟨?_, ?_⟩ <;> rfl))
         · (obtain ⟨x, rfl⟩ := hC; (first | (go_at_call 41; with_reducible exact valid_e ha _) | (go_at_call 41; with_reducible exact valid_p _ _ _)))
         (try simp only [Act.put, List.setIfInBounds_toArray, List.set_cons_zero, List.set_cons_succ]))
      | (refine lex_store rfl (fun d w hd hr hC => ?_) ?_
         · (unfold One at hC ⊢; rw [hd] at hC; rw [mark_same]; obtain ⟨x, rfl⟩ := hC; refine ⟨?_, ?_, ?_⟩; rotate_left; (simp [go_sem, ↓IntWalk.iteOmega]; try rfl); (simp; exact ⟨_, rfl⟩))
         (try simp only [Act.put, List.setIfInBounds_toArray, List.set_cons_zero, List.set_cons_succ])))
    refine lex_nil ?_
    intro dLx w hd hC
    unfold One at hC; rw [hd 13 (by decide)] at hC; obtain ⟨x, rfl⟩ := hC; simp only [if_true]
    go_wp2
    refine bodyPost_ret (v := .tuple #[seg ax ay bx bZ, .bool (vld ax ay && vld bx bZ)]) (by simp [results, Try.results47, go_sem, ha, ↓IntWalk.iteOmega]) rfl ⟨by simp [ha], ?_⟩
    (repeat (first | exact Grew.refl _ | refine Grew.over ?_ _ | refine Grew.alloc ?_ _ | refine Grew.drew ?_ | refine Grew.drewN ?_ _))

theorem sgn_bd (n : Int) : -1 ≤ sgn n ∧ sgn n ≤ 1 := by unfold sgn; repeat' split <;> omega
theorem sgn_zero (n : Int) : sgn n = 0 ↔ n = 0 := by unfold sgn; repeat' split <;> omega

/-- The ends of one segment lie on different sides of the other one's line. -/
def ptsd (ax ay bx bZ cx cy dx dy : Int) : Bool := decide (sgn (crs ax ay bx bZ cx cy) * sgn (crs ax ay bx bZ dx dy) < 0)

theorem one_bd {a b : Int} (h : -1 ≤ a ∧ a ≤ 1) (k : -1 ≤ b ∧ b ≤ 1) : -1 ≤ a * b ∧ a * b ≤ 1 := by
  have := mul_bd (n := 1) (m := 1) h.1 h.2 k.1 k.2
  omega

set_option maxHeartbeats 1000000 in
theorem parts_p (ax ay bx bZ cx cy dx dy : Int) (w : World) (ha : vld ax ay = true) (hb : vld bx bZ = true) (hc : vld cx cy = true) (hd : vld dx dy = true) :
    Calls Try.prog 48 #[seg ax ay bx bZ, seg cx cy dx dy] w fun e w' => e = .returned (.bool (ptsd ax ay bx bZ cx cy dx dy)) ∧ Grew w w' := by
  have ka := Lib.hid ha
  have kb := Lib.hid hb
  have kc := Lib.hid hc
  have kd := Lib.hid hd
  clear ha hb hc hd
  obtain ⟨m1, m2⟩ := one_bd (sgn_bd (crs ax ay bx bZ cx cy)) (sgn_bd (crs ax ay bx bZ dx dy))
  go_enter Try.func48, Try.ntmps48
  go_wp2
  refine wp_region_over (by kernel_rfl) (by kernel_rfl) ?_; (repeat (go_big_quiet_step (first | (go_at_call 50; apply over_call; with_reducible exact side_p _ _ _ _ _ _ _ ka.out kb.out kc.out) | (go_at_call 50; apply over_call; with_reducible exact side_p _ _ _ _ _ _ _ ka.out kb.out kd.out)))); refine wpQuiet_nil ?_; rintro _ ⟨x, rfl⟩
  go_wp2
  go_ret
  refine ⟨ret_bool ?_, ?_⟩
  · unfold ptsd
    simp
  · (repeat (first | exact Grew.refl _ | refine Grew.over ?_ _ | refine Grew.alloc ?_ _ | refine Grew.drew ?_ | refine Grew.drewN ?_ _))



def crossS (ax ay bx bZ cx cy dx dy : Int) : Bool := (vld ax ay && vld bx bZ) && (vld cx cy && vld dx dy) && (ptsd ax ay bx bZ cx cy dx dy && ptsd cx cy dx dy ax ay bx bZ)
set_option maxHeartbeats 2000000 in
theorem Cross_p (ax ay bx bZ cx cy dx dy : Int) (w : World) :
    Calls Try.prog 37 #[seg ax ay bx bZ, seg cx cy dx dy] w fun e w' => e = .returned (.bool (crossS ax ay bx bZ cx cy dx dy)) ∧ Grew w w' := by
  cases ha : vld ax ay <;> cases hb : vld bx bZ <;> cases hc : vld cx cy <;> cases hd : vld dx dy
  all_goals
    have ka := Lib.hid ha
    have kb := Lib.hid hb
    have kc := Lib.hid hc
    have kd := Lib.hid hd
    cases hq : ptsd ax ay bx bZ cx cy dx dy
  all_goals
    have kq := Lib.hid hq
    go_enter Try.func37, Try.ntmps37
    go_wp2_with (first | (go_at_call 47; apply Calls.mono; (with_reducible exact of_p _ _ _ _ _); rintro e w' ⟨rfl, x, rfl⟩) | (go_at_call 48; apply Calls.mono; (with_reducible exact parts_p _ _ _ _ _ _ _ _ _ ka.out kb.out kc.out kd.out); rintro e w' ⟨rfl, x, rfl⟩) | (go_at_call 48; apply Calls.mono; (with_reducible exact parts_p _ _ _ _ _ _ _ _ _ kc.out kd.out ka.out kb.out); rintro e w' ⟨rfl, x, rfl⟩))
    go_ret
    refine ⟨ret_bool ?_, ?_⟩
    · unfold crossS
      rw [ka.out, kb.out, kc.out, kd.out, kq.out]
      simp
    · (repeat (first | exact Grew.refl _ | refine Grew.over ?_ _ | refine Grew.alloc ?_ _ | refine Grew.drew ?_ | refine Grew.drewN ?_ _))



theorem and_vld {ax ay bx bZ : Int} (h : (vld ax ay && vld bx bZ) = true) : vld ax ay = true ∧ vld bx bZ = true := by simpa using h

theorem abs_bd {a b : Int} (ha : -268435456 ≤ a ∧ a ≤ 268435456) (hb : -268435456 ≤ b ∧ b ≤ 268435456) : -1000000000 ≤ a - b ∧ a - b ≤ 1000000000 ∧ 0 ≤ max (a - b) (-(a - b)) ∧ max (a - b) (-(a - b)) ≤ 1000000000 := by omega

set_option maxHeartbeats 2000000 in
theorem Distance_p (ax ay bx bZ : Int) (w : World) :
    Calls Try.prog 30 #[pt ax ay, pt bx bZ] w fun e w' => e = .returned (.int .i64 (dst ax ay bx bZ)) ∧ Grew w w' := by
  cases ha : vld ax ay
  case false =>
    have ka := Lib.hid ha
    go_enter Try.func30, Try.ntmps30
    go_wp2_with (first | (go_at_call 41; apply Calls.mono; (with_reducible exact valid_p _ _ _); rintro e w' ⟨rfl, x, rfl⟩))
    go_ret
    exact ⟨ret_int (dst_no (Or.inl ka.out)).symm, by (repeat (first | exact Grew.refl _ | refine Grew.over ?_ _ | refine Grew.alloc ?_ _ | refine Grew.drew ?_ | refine Grew.drewN ?_ _))⟩
  case true =>
    cases hb : vld bx bZ
    case false =>
      have ka := Lib.hid hb
      go_enter Try.func30, Try.ntmps30
      go_wp2_with (first | (go_at_call 41; apply Calls.mono; (with_reducible exact valid_p _ _ _); rintro e w' ⟨rfl, x, rfl⟩))
      go_ret
      exact ⟨ret_int (dst_no (Or.inr ka.out)).symm, by (repeat (first | exact Grew.refl _ | refine Grew.over ?_ _ | refine Grew.alloc ?_ _ | refine Grew.drew ?_ | refine Grew.drewN ?_ _))⟩
    case true =>
      have ka := Lib.hid (dst_yes ha hb)
      obtain ⟨a1, a2, a3, a4⟩ := vld_iff.1 ha
      obtain ⟨b1, b2, b3, b4⟩ := vld_iff.1 hb
      obtain ⟨c1, c2, c3, c4⟩ := abs_bd ⟨a1, a2⟩ ⟨b1, b2⟩
      obtain ⟨d1, d2, d3, d4⟩ := abs_bd ⟨a3, a4⟩ ⟨b3, b4⟩
      go_enter Try.func30, Try.ntmps30
      go_wp2_with (first | (go_at_call 41; apply Calls.mono; (with_reducible exact valid_p _ _ _); rintro e w' ⟨rfl, x, rfl⟩))
      refine wp_region_over (by kernel_rfl) (by kernel_rfl) ?_; (repeat (go_big_quiet_step (first | (go_at_call 43; apply over_callE; with_reducible exact abs_p _ _ c1 c2) | (go_at_call 43; apply over_callE; with_reducible exact abs_p _ _ d1 d2)))); refine wpQuiet_nil ?_; rintro _ ⟨x, rfl⟩
      go_wp2
      go_ret
      exact ⟨ret_int ka.out.symm, by (repeat (first | exact Grew.refl _ | refine Grew.over ?_ _ | refine Grew.alloc ?_ _ | refine Grew.drew ?_ | refine Grew.drewN ?_ _))⟩


/-! ### The reference -/
set_option maxHeartbeats 400000 in
theorem valid_r (x y : Int) (w : World) :
    Calls Try.prog 28 #[pt x y] w fun e w' => e = .returned (.bool (vld x y)) ∧ Grew w w' := by
  go_enter Try.func28, Try.ntmps28
  go_wp2
  all_goals
    go_ret
    refine ⟨ret_bool (Eq.symm ?_), (Grew.refl w).alloc _⟩
    first
    | (refine vld_of ?_; omega)
    | (refine vld_not ?_; omega)
    | (rw [Bool.eq_iff_iff, vld_iff]; simp; omega)

set_option maxHeartbeats 400000 in
theorem sign_r (n : Int) (w : World) :
    Calls Try.prog 46 #[.int .i64 n] w fun e w' => e = .returned (.int .i64 (sgn n)) ∧ w = w' := by
  go_enter Try.func46, Try.ntmps46
  go_wp2
  all_goals
    go_ret
    refine ⟨ret_int ?_, rfl⟩
    unfold sgn
    repeat' split
    all_goals omega

set_option maxHeartbeats 400000 in
theorem abs_r (n : Int) (w : World) (h1 : -1000000000 ≤ n) (h2 : n ≤ 1000000000) :
    Calls Try.prog 31 #[.int .i64 n] w fun e w' => e = .returned (.int .i64 (max n (-n))) ∧ w = w' := by
  go_enter Try.func31, Try.ntmps31
  go_wp2
  all_goals
    go_ret
    exact ⟨ret_int (by omega), rfl⟩
set_option maxHeartbeats 1000000 in
theorem orient_r (ax ay bx bZ cx cy : Int) (w : World) (ha : vld ax ay = true) (hb : vld bx bZ = true) (hc : vld cx cy = true) :
    Calls Try.prog 45 #[pt ax ay, pt bx bZ, pt cx cy] w fun e w' => e = .returned (.int .i64 (crs ax ay bx bZ cx cy)) ∧ Grew w w' := by
  obtain ⟨⟨m1, m2⟩, m3, m4⟩ := side_bd ha hb hc
  obtain ⟨a1, a2, a3, a4⟩ := vld_iff.1 ha
  obtain ⟨b1, b2, b3, b4⟩ := vld_iff.1 hb
  obtain ⟨c1, c2, c3, c4⟩ := vld_iff.1 hc
  clear ha hb hc
  go_enter Try.func45, Try.ntmps45
  go_wp2
  all_goals
    go_ret
    refine ⟨ret_int ?_, by (repeat (first | exact Grew.refl _ | refine Grew.over ?_ _ | refine Grew.alloc ?_ _ | refine Grew.drew ?_ | refine Grew.drewN ?_ _))⟩
    unfold crs
    omega
end Go.Proofs.Ytmljfjcebfonaaa
