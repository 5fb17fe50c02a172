/- Contracts of geom and of its reference. -/
import Derived.Test.YtomkamohcdcmhaaBase
set_option linter.unusedSimpArgs false
set_option linter.unusedVariables false
namespace Go.Proofs.Ytomkamohcdcmhaa
open Go.RowKit

/-- A point is valid. -/
def vld (x y : Int) : Bool := decide (-268435456 ≤ x ∧ x ≤ 268435456 ∧ -268435456 ≤ y ∧ y ≤ 268435456)
theorem vld_iff {x y : Int} : vld x y = true ↔ -268435456 ≤ x ∧ x ≤ 268435456 ∧ -268435456 ≤ y ∧ y ≤ 268435456 := by unfold vld; simp
theorem vld_of {x y : Int} (h : -268435456 ≤ x ∧ x ≤ 268435456 ∧ -268435456 ≤ y ∧ y ≤ 268435456) : vld x y = true := vld_iff.2 h
theorem vld_not {x y : Int} (h : ¬ (-268435456 ≤ x ∧ x ≤ 268435456 ∧ -268435456 ≤ y ∧ y ≤ 268435456)) : vld x y = false := by
  rw [← Bool.not_eq_true, vld_iff]; exact h

/-- The sign of a number. -/
def sgn (n : Int) : Int := if 0 < n then 1 else if n < 0 then -1 else 0

abbrev pt (x y : Int) : Value := .agg #[.int .i64 x, .int .i64 y]
abbrev seg (a b c d : Int) : Value := .agg #[.int .i64 a, .int .i64 b, .int .i64 c, .int .i64 d]

theorem ret_bool {a b : Bool} (h : a = b) : Ending.returned (.bool a) = .returned (.bool b) := by rw [h]
theorem ret_int {k : IntKind} {a b : Int} (h : a = b) : Ending.returned (.int k a) = .returned (.int k b) := by rw [h]

set_option maxHeartbeats 400000 in
theorem valid_p (x y : Int) (w : World) :
    Calls Try.prog 9 #[pt x y] w fun e w' => e = .returned (.bool (vld x y)) ∧ Grew w w' := by
  go_enter Try.func9, Try.ntmps9
  go_wp2
  all_goals
    go_ret
    refine ⟨ret_bool (Eq.symm ?_), (Grew.refl w).alloc _⟩
    first
    | (refine vld_of ?_; omega)
    | (refine vld_not ?_; omega)
    | (rw [Bool.eq_iff_iff, vld_iff]; simp; omega)

set_option maxHeartbeats 400000 in
theorem valid_r (x y : Int) (w : World) :
    Calls Try.prog 10 #[pt x y] w fun e w' => e = .returned (.bool (vld x y)) ∧ Grew w w' := by
  go_enter Try.func10, Try.ntmps10
  go_wp2
  all_goals
    go_ret
    refine ⟨ret_bool (Eq.symm ?_), (Grew.refl w).alloc _⟩
    first
    | (refine vld_of ?_; omega)
    | (refine vld_not ?_; omega)
    | (rw [Bool.eq_iff_iff, vld_iff]; simp; omega)

/-- The cross product of b - a and c - a. -/
def crs (ax ay bx bZ cx cy : Int) : Int := (bx - ax) * (cy - ay) - (bZ - ay) * (cx - ax)

theorem mul_bd {a b : Int} {n m : Int} (h1 : -n ≤ a) (h2 : a ≤ n) (h3 : -m ≤ b) (h4 : b ≤ m) : -(n * m) ≤ a * b ∧ a * b ≤ n * m := by
  have e1 : 0 ≤ (n - a) * (m - b) := Int.mul_nonneg (by omega) (by omega)
  have e2 : 0 ≤ (n + a) * (m + b) := Int.mul_nonneg (by omega) (by omega)
  have e3 : 0 ≤ (n - a) * (m + b) := Int.mul_nonneg (by omega) (by omega)
  have e4 : 0 ≤ (n + a) * (m - b) := Int.mul_nonneg (by omega) (by omega)
  simp only [Int.sub_mul, Int.mul_sub, Int.add_mul, Int.mul_add] at e1 e2 e3 e4
  omega

set_option maxHeartbeats 400000 in
theorem sign_r (n : Int) (w : World) :
    Calls Try.prog 23 #[.int .i64 n] w fun e w' => e = .returned (.int .i64 (sgn n)) ∧ w = w' := by
  go_enter Try.func23, Try.ntmps23
  go_wp2
  all_goals
    go_ret
    refine ⟨ret_int ?_, rfl⟩
    unfold sgn
    repeat' split
    all_goals omega

set_option maxHeartbeats 400000 in
theorem abs_r (n : Int) (w : World) (h1 : -1000000000 ≤ n) (h2 : n ≤ 1000000000) :
    Calls Try.prog 25 #[.int .i64 n] w fun e w' => e = .returned (.int .i64 (max n (-n))) ∧ w = w' := by
  go_enter Try.func25, Try.ntmps25
  go_wp2
  all_goals
    go_ret
    exact ⟨ret_int (by omega), rfl⟩
set_option maxHeartbeats 400000 in
theorem abs_p (n : Int) (w : World) (h1 : -1000000000 ≤ n) (h2 : n ≤ 1000000000) :
    Calls Try.prog 24 #[.int .i64 n] w fun e w' => e = .returned (.int .i64 (max n (-n))) ∧ w = w' := by
  go_enter Try.func24, Try.ntmps24
  go_wp2
  all_goals
    go_ret
    exact ⟨ret_int (by omega), rfl⟩

/-- Products in the walk's own spelling. -/
theorem side_bd {ax ay bx bZ cx cy : Int} (ha : vld ax ay = true) (hb : vld bx bZ = true) (hc : vld cx cy = true) :
    (-288230376151711744 ≤ (bx - ax) * (cy - ay) ∧ (bx - ax) * (cy - ay) ≤ 288230376151711744) ∧ (-288230376151711744 ≤ (bZ - ay) * (cx - ax) ∧ (bZ - ay) * (cx - ax) ≤ 288230376151711744) := by
  rw [vld_iff] at ha hb hc
  exact ⟨mul_bd (n := 536870912) (m := 536870912) (by omega) (by omega) (by omega) (by omega), mul_bd (n := 536870912) (m := 536870912) (by omega) (by omega) (by omega) (by omega)⟩

set_option maxHeartbeats 1000000 in
theorem side_p (ax ay bx bZ cx cy : Int) (w : World) (ha : vld ax ay = true) (hb : vld bx bZ = true) (hc : vld cx cy = true) :
    Calls Try.prog 22 #[seg ax ay bx bZ, pt cx cy] w fun e w' => e = .returned (.int .i64 (sgn (crs ax ay bx bZ cx cy))) ∧ Grew w w' := by
  obtain ⟨⟨m1, m2⟩, m3, m4⟩ := side_bd ha hb hc
  obtain ⟨a1, a2, a3, a4⟩ := vld_iff.1 ha
  obtain ⟨b1, b2, b3, b4⟩ := vld_iff.1 hb
  obtain ⟨c1, c2, c3, c4⟩ := vld_iff.1 hc
  clear ha hb hc
  go_enter Try.func22, Try.ntmps22
  go_wp2
  all_goals
    go_ret
    refine ⟨ret_int ?_, ((Grew.refl w).alloc _).alloc _⟩
    unfold sgn crs
    repeat' split
    all_goals omega

end Go.Proofs.Ytomkamohcdcmhaa
