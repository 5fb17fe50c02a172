/- Bends. -/
import Derived.Test.YtmljfjcebfonaaaPolC
set_option linter.unusedSimpArgs false
set_option linter.unusedVariables false
namespace Go.Proofs.Ytmljfjcebfonaaa
open Go.RowKit
attribute [local go_sem ↓] Go.wp_at_zero Go.wp_at_succ

theorem bend_bd {ax ay bx bZ cx cy : Int} (ha : vld ax ay = true) (hb : vld bx bZ = true) (hc : vld cx cy = true) :
    (-288230376151711744 ≤ (bx - ax) * (cx - bx) ∧ (bx - ax) * (cx - bx) ≤ 288230376151711744) ∧ (-288230376151711744 ≤ (bZ - ay) * (cy - bZ) ∧ (bZ - ay) * (cy - bZ) ≤ 288230376151711744) := by
  rw [vld_iff] at ha hb hc
  exact ⟨mul_bd (n := 536870912) (m := 536870912) (by omega) (by omega) (by omega) (by omega), mul_bd (n := 536870912) (m := 536870912) (by omega) (by omega) (by omega) (by omega)⟩
theorem bend_ng (ax ay bx bZ cx cy : Int) : (ax - bx) * (cx - bx) = -((bx - ax) * (cx - bx)) ∧ (ay - bZ) * (cy - bZ) = -((bZ - ay) * (cy - bZ)) := by
  constructor
  · rw [← Int.neg_mul, show -(bx - ax) = ax - bx by omega]
  · rw [← Int.neg_mul, show -(bZ - ay) = ay - bZ by omega]

theorem orient_pe {ax ay bx bZ cx cy s : Int} (h : ori ax ay bx bZ cx cy = s) (w : World) : Calls Try.prog 44 #[pt ax ay, pt bx bZ, pt cx cy] w fun e w' => e = .returned (.int .i64 s) ∧ Grew w w' := h ▸ orient_p ax ay bx bZ cx cy w
theorem orient_re {ax ay bx bZ cx cy s : Int} (h : crs ax ay bx bZ cx cy = s) (ha : vld ax ay = true) (hb : vld bx bZ = true) (hc : vld cx cy = true) (w : World) : Calls Try.prog 45 #[pt ax ay, pt bx bZ, pt cx cy] w fun e w' => e = .returned (.int .i64 s) ∧ Grew w w' := h ▸ orient_r ax ay bx bZ cx cy w ha hb hc

def benB (ax ay bx bZ cx cy : Int) : Bool := decide (crs ax ay bx bZ cx cy ≠ 0) || decide ((bx - ax) * (cx - bx) + (bZ - ay) * (cy - bZ) < 0)
theorem bend3_eq (p q r : Int × Int) : bend3 p q r = benB p.1 p.2 q.1 q.2 r.1 r.2 := rfl

set_option maxHeartbeats 2000000 in
theorem bend_p (ax ay bx bZ cx cy : Int) (w : World) (ha : vld ax ay = true) (hb : vld bx bZ = true) (hc : vld cx cy = true) :
    Calls Try.prog 32 #[pt ax ay, pt bx bZ, pt cx cy] w fun e w' => e = .returned (.bool (benB ax ay bx bZ cx cy)) ∧ Grew w w' := by
  obtain ⟨⟨m1, m2⟩, m3, m4⟩ := bend_bd ha hb hc
  obtain ⟨n1, n2⟩ := bend_ng ax ay bx bZ cx cy
  obtain ⟨a1, a2, a3, a4⟩ := vld_iff.1 ha
  obtain ⟨b1, b2, b3, b4⟩ := vld_iff.1 hb
  obtain ⟨c1, c2, c3, c4⟩ := vld_iff.1 hc
  have ho := ori_yes ha hb hc
  by_cases h : crs ax ay bx bZ cx cy = 0
  · rw [h, show sgn 0 = 0 from rfl] at ho
    have Ho := Lib.hid ho
    have Hf : Hid (benB ax ay bx bZ cx cy = decide ((bx - ax) * (cx - bx) + (bZ - ay) * (cy - bZ) < 0)) := Lib.hid (by unfold benB; rw [h]; simp)
    obtain ⟨u, hu⟩ : ∃ u, (ax - bx) * (cx - bx) = u := ⟨_, rfl⟩
    obtain ⟨v, hv⟩ : ∃ v, (ay - bZ) * (cy - bZ) = v := ⟨_, rfl⟩
    obtain ⟨u', hu'⟩ : ∃ u', (bx - ax) * (cx - bx) = u' := ⟨_, rfl⟩
    obtain ⟨v', hv'⟩ : ∃ v', (bZ - ay) * (cy - bZ) = v' := ⟨_, rfl⟩
    rw [hu'] at m1 m2 n1 Hf
    rw [hv'] at m3 m4 n2 Hf
    rw [hu] at n1
    rw [hv] at n2
    have Hn : Hid (u = -u' ∧ v = -v') := Lib.hid ⟨n1, n2⟩
    have k1 : -288230376151711744 ≤ u ∧ u ≤ 288230376151711744 := by omega
    have k2 : -288230376151711744 ≤ v ∧ v ≤ 288230376151711744 := by omega
    obtain ⟨k1, k3⟩ := k1
    obtain ⟨k2, k4⟩ := k2
    clear h ho ha hb hc n1 n2 m1 m2 m3 m4 hu' hv'
    go_enter Try.func32, Try.ntmps32
    go_wp2_with (go_at_call 44; apply Calls.mono; (with_reducible exact orient_pe Ho.out _); rintro e w' ⟨rfl, x, rfl⟩)
    go_ret
    refine ⟨?_, by (repeat (first | exact Grew.refl _ | refine Grew.over ?_ _ | refine Grew.alloc ?_ _ | refine Grew.drew ?_ | refine Grew.drewN ?_ _))⟩
    rw [Hf.out]
    simp
    obtain ⟨h1, h2⟩ := Hn.out
    omega
  · have hs : sgn (crs ax ay bx bZ cx cy) ≠ 0 := fun e => h ((sgn_zero _).1 e)
    obtain ⟨s, hse⟩ : ∃ s, sgn (crs ax ay bx bZ cx cy) = s := ⟨_, rfl⟩
    rw [hse] at ho hs
    have hs' : ¬ s = 0 := hs
    have Ho := Lib.hid ho
    have Hf : Hid (benB ax ay bx bZ cx cy = true) := Lib.hid (by unfold benB; simp [h])
    clear h ho ha hb hc n1 n2 hse hs
    go_enter Try.func32, Try.ntmps32
    go_wp2_with (go_at_call 44; apply Calls.mono; (with_reducible exact orient_pe Ho.out _); rintro e w' ⟨rfl, x, rfl⟩)
    go_ret
    exact ⟨by rw [Hf.out]; rfl, by (repeat (first | exact Grew.refl _ | refine Grew.over ?_ _ | refine Grew.alloc ?_ _ | refine Grew.drew ?_ | refine Grew.drewN ?_ _))⟩

set_option maxHeartbeats 2000000 in
theorem bend_r (ax ay bx bZ cx cy : Int) (w : World) (ha : vld ax ay = true) (hb : vld bx bZ = true) (hc : vld cx cy = true) :
    Calls Try.prog 33 #[pt ax ay, pt bx bZ, pt cx cy] w fun e w' => e = .returned (.bool (benB ax ay bx bZ cx cy)) ∧ Grew w w' := by
  obtain ⟨⟨m1, m2⟩, m3, m4⟩ := bend_bd ha hb hc
  obtain ⟨a1, a2, a3, a4⟩ := vld_iff.1 ha
  obtain ⟨b1, b2, b3, b4⟩ := vld_iff.1 hb
  obtain ⟨c1, c2, c3, c4⟩ := vld_iff.1 hc
  have HA := Lib.hid ha
  have HB := Lib.hid hb
  have HC := Lib.hid hc
  by_cases h : crs ax ay bx bZ cx cy = 0
  · have Ho := Lib.hid h
    have Hf : Hid (benB ax ay bx bZ cx cy = decide ((bx - ax) * (cx - bx) + (bZ - ay) * (cy - bZ) < 0)) := Lib.hid (by unfold benB; rw [h]; simp)
    obtain ⟨u', hu'⟩ : ∃ u', (bx - ax) * (cx - bx) = u' := ⟨_, rfl⟩
    obtain ⟨v', hv'⟩ : ∃ v', (bZ - ay) * (cy - bZ) = v' := ⟨_, rfl⟩
    rw [hu'] at m1 m2 Hf
    rw [hv'] at m3 m4 Hf
    clear h ha hb hc
    go_enter Try.func33, Try.ntmps33
    go_wp2_with (go_at_call 45; apply Calls.mono; (with_reducible exact orient_re Ho.out HA.out HB.out HC.out _); rintro e w' ⟨rfl, x, rfl⟩)
    go_ret
    refine ⟨?_, by (repeat (first | exact Grew.refl _ | refine Grew.over ?_ _ | refine Grew.alloc ?_ _ | refine Grew.drew ?_ | refine Grew.drewN ?_ _))⟩
    rw [Hf.out]
    simp
  · obtain ⟨s, hse⟩ : ∃ s, crs ax ay bx bZ cx cy = s := ⟨_, rfl⟩
    have hs' : ¬ s = 0 := by rw [← hse]; exact h
    have Ho := Lib.hid hse
    have Hf : Hid (benB ax ay bx bZ cx cy = true) := Lib.hid (by unfold benB; simp [h])
    clear h ha hb hc hse
    go_enter Try.func33, Try.ntmps33
    go_wp2_with (go_at_call 45; apply Calls.mono; (with_reducible exact orient_re Ho.out HA.out HB.out HC.out _); rintro e w' ⟨rfl, x, rfl⟩)
    go_ret
    exact ⟨by rw [Hf.out]; rfl, by (repeat (first | exact Grew.refl _ | refine Grew.over ?_ _ | refine Grew.alloc ?_ _ | refine Grew.drew ?_ | refine Grew.drewN ?_ _))⟩
theorem bend_pe {ax ay bx bZ cx cy : Int} {b : Bool} (h : benB ax ay bx bZ cx cy = b) (ha : vld ax ay = true) (hb : vld bx bZ = true) (hc : vld cx cy = true) (w : World) :
    Calls Try.prog 32 #[pt ax ay, pt bx bZ, pt cx cy] w fun e w' => e = .returned (.bool b) ∧ Grew w w' := h ▸ bend_p ax ay bx bZ cx cy w ha hb hc
theorem bend_re {ax ay bx bZ cx cy : Int} {b : Bool} (h : benB ax ay bx bZ cx cy = b) (ha : vld ax ay = true) (hb : vld bx bZ = true) (hc : vld cx cy = true) (w : World) :
    Calls Try.prog 33 #[pt ax ay, pt bx bZ, pt cx cy] w fun e w' => e = .returned (.bool b) ∧ Grew w w' := h ▸ bend_r ax ay bx bZ cx cy w ha hb hc
end Go.Proofs.Ytmljfjcebfonaaa
