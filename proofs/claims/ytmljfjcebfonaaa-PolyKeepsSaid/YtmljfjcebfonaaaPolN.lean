/- Crossings of the reference. -/
import Derived.Test.YtmljfjcebfonaaaPolD
set_option linter.unusedSimpArgs false
set_option linter.unusedVariables false
namespace Go.Proofs.Ytmljfjcebfonaaa
open Go.RowKit
attribute [local go_sem ↓] Go.wp_at_zero Go.wp_at_succ

theorem sign_re {n s : Int} (h : sgn n = s) (w : World) : Calls Try.prog 46 #[.int .i64 n] w fun e w' => e = .returned (.int .i64 s) ∧ w = w' := h ▸ sign_r n w

set_option maxRecDepth 8000 in
set_option maxHeartbeats 4000000 in
theorem cross_r (ax ay bx bZ cx cy dx dy : Int) (w : World) (ha : vld ax ay = true) (hb : vld bx bZ = true) (hc : vld cx cy = true) (hd : vld dx dy = true) :
    Calls Try.prog 36 #[pt ax ay, pt bx bZ, pt cx cy, pt dx dy] w fun e w' => e = .returned (.bool (crossS ax ay bx bZ cx cy dx dy)) ∧ Grew w w' := by
  have Hf : Hid (crossS ax ay bx bZ cx cy dx dy = (ptsd ax ay bx bZ cx cy dx dy && ptsd cx cy dx dy ax ay bx bZ)) := Lib.hid (by unfold crossS; simp [ha, hb, hc, hd])
  have HA := Lib.hid ha
  have HB := Lib.hid hb
  have HC := Lib.hid hc
  have HD := Lib.hid hd
  obtain ⟨m1, hm1⟩ : ∃ m, crs ax ay bx bZ cx cy = m := ⟨_, rfl⟩
  obtain ⟨m2, hm2⟩ : ∃ m, crs ax ay bx bZ dx dy = m := ⟨_, rfl⟩
  obtain ⟨m3, hm3⟩ : ∃ m, crs cx cy dx dy ax ay = m := ⟨_, rfl⟩
  obtain ⟨m4, hm4⟩ : ∃ m, crs cx cy dx dy bx bZ = m := ⟨_, rfl⟩
  obtain ⟨s1, hs1⟩ : ∃ s, sgn m1 = s := ⟨_, rfl⟩
  obtain ⟨s2, hs2⟩ : ∃ s, sgn m2 = s := ⟨_, rfl⟩
  obtain ⟨s3, hs3⟩ : ∃ s, sgn m3 = s := ⟨_, rfl⟩
  obtain ⟨s4, hs4⟩ : ∃ s, sgn m4 = s := ⟨_, rfl⟩
  have hp1 : ptsd ax ay bx bZ cx cy dx dy = decide (s1 * s2 < 0) := by unfold ptsd; rw [hm1, hm2, hs1, hs2]
  have hp2 : ptsd cx cy dx dy ax ay bx bZ = decide (s3 * s4 < 0) := by unfold ptsd; rw [hm3, hm4, hs3, hs4]
  have b12 := one_bd (hs1 ▸ sgn_bd m1) (hs2 ▸ sgn_bd m2)
  have b34 := one_bd (hs3 ▸ sgn_bd m3) (hs4 ▸ sgn_bd m4)
  obtain ⟨r1, hr1⟩ : ∃ r, s1 * s2 = r := ⟨_, rfl⟩
  obtain ⟨r2, hr2⟩ : ∃ r, s3 * s4 = r := ⟨_, rfl⟩
  rw [hr1] at hp1 b12
  rw [hr2] at hp2 b34
  have Hp1 := Lib.hid hp1
  have Hp2 := Lib.hid hp2
  have M1 := Lib.hid hm1
  have M2 := Lib.hid hm2
  have M3 := Lib.hid hm3
  have M4 := Lib.hid hm4
  have S1 := Lib.hid hs1
  have S2 := Lib.hid hs2
  have S3 := Lib.hid hs3
  have S4 := Lib.hid hs4
  obtain ⟨b1, b2⟩ := b12
  obtain ⟨b3, b4⟩ := b34
  clear ha hb hc hd hm1 hm2 hm3 hm4 hs1 hs2 hs3 hs4 hp1 hp2
  by_cases h1 : r1 < 0
  · go_enter Try.func36, Try.ntmps36
    go_upto_region 1 with fail
    refine wp_region_over (by kernel_rfl) (by kernel_rfl) ?_; (repeat (go_big_quiet_step (first
          | (go_at_call 45; apply over_call; with_reducible exact orient_re M1.out HA.out HB.out HC.out _)
          | (go_at_call 45; apply over_call; with_reducible exact orient_re M2.out HA.out HB.out HD.out _)
          | (go_at_call 45; apply over_call; with_reducible exact orient_re M3.out HC.out HD.out HA.out _)
          | (go_at_call 45; apply over_call; with_reducible exact orient_re M4.out HC.out HD.out HB.out _)
          | (go_at_call 46; apply over_callE; with_reducible exact sign_re S1.out _)
          | (go_at_call 46; apply over_callE; with_reducible exact sign_re S2.out _)
          | (go_at_call 46; apply over_callE; with_reducible exact sign_re S3.out _)
          | (go_at_call 46; apply over_callE; with_reducible exact sign_re S4.out _)))); refine wpQuiet_nil ?_; rintro _ ⟨x, rfl⟩
    go_wp2
    go_ret
    refine ⟨?_, by (repeat (first | exact Grew.refl _ | refine Grew.over ?_ _ | refine Grew.alloc ?_ _ | refine Grew.drew ?_ | refine Grew.drewN ?_ _))⟩
    rw [Hf.out, Hp1.out, Hp2.out, decide_eq_true h1, Bool.true_and]
    rfl
  · go_enter Try.func36, Try.ntmps36
    go_upto_region 1 with fail
    refine wp_region_over (by kernel_rfl) (by kernel_rfl) ?_; (repeat (go_big_quiet_step (first
          | (go_at_call 45; apply over_call; with_reducible exact orient_re M1.out HA.out HB.out HC.out _)
          | (go_at_call 45; apply over_call; with_reducible exact orient_re M2.out HA.out HB.out HD.out _)
          | (go_at_call 46; apply over_callE; with_reducible exact sign_re S1.out _)
          | (go_at_call 46; apply over_callE; with_reducible exact sign_re S2.out _)))); refine wpQuiet_nil ?_; rintro _ ⟨x, rfl⟩
    go_wp2
    go_ret
    refine ⟨?_, by (repeat (first | exact Grew.refl _ | refine Grew.over ?_ _ | refine Grew.alloc ?_ _ | refine Grew.drew ?_ | refine Grew.drewN ?_ _))⟩
    rw [Hf.out, Hp1.out, decide_eq_false (by omega : ¬ r1 < 0), Bool.false_and]
    rfl

/-! ### The number of crossings -/
def crs2 (a b c d : Int × Int) : Bool := crossS a.1 a.2 b.1 b.2 c.1 c.2 d.1 d.2
def croRow (A B : List (Int × Int)) (i : Nat) : Nat → Int
  | 0 => 0
  | k + 1 => croRow A B i k + if crs2 (pr A i) (pr A (i + 1)) (pr B k) (pr B (k + 1)) then 1 else 0
def croK (A B : List (Int × Int)) : Nat → Int
  | 0 => 0
  | i + 1 => croK A B i + croRow A B i (B.length - 1)
def croF (A B : List (Int × Int)) : Int := if vPB A && vPB B then croK A B (A.length - 1) else 0
theorem croRow_bd (A B : List (Int × Int)) (i : Nat) : ∀ k, 0 ≤ croRow A B i k ∧ croRow A B i k ≤ k
  | 0 => by simp [croRow]
  | k + 1 => by
    have := croRow_bd A B i k
    rw [croRow]
    push_cast
    split <;> omega
theorem croK_bd (A B : List (Int × Int)) : ∀ i, 0 ≤ croK A B i ∧ croK A B i ≤ i * (B.length : Int)
  | 0 => by simp [croK]
  | i + 1 => by
    have h1 := croK_bd A B i
    have h2 := croRow_bd A B i (B.length - 1)
    rw [croK]
    push_cast
    rw [Int.add_mul]
    omega
theorem cross_re {ax ay bx bZ cx cy dx dy : Int} {b : Bool} (h : crossS ax ay bx bZ cx cy dx dy = b) (ha : vld ax ay = true) (hb : vld bx bZ = true) (hc : vld cx cy = true) (hd : vld dx dy = true) (w : World) :
    Calls Try.prog 36 #[pt ax ay, pt bx bZ, pt cx cy, pt dx dy] w fun e w' => e = .returned (.bool b) ∧ Grew w w' := h ▸ cross_r ax ay bx bZ cx cy dx dy w ha hb hc hd
end Go.Proofs.Ytmljfjcebfonaaa
