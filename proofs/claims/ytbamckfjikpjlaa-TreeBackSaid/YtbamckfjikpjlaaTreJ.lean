/- The reference's first error of a statement. -/
import Derived.Test.YtbamckfjikpjlaaTreI
set_option linter.unusedSimpArgs false
set_option linter.unusedVariables false
namespace Go.Proofs.Ytbamckfjikpjlaa
open Go.RowKit
attribute [local go_sem ↓] Go.wp_at_zero Go.wp_at_succ

theorem name_e {s : ByteArray} {b : Bool} {w : World} (h : nameB s = b) : Calls Try.prog 35 #[.string s] w fun e w' => e = .returned (.bool b) ∧ w = w' := h ▸ name_r s w

set_option maxHeartbeats 4000000 in
theorem fields_r (k : Int) (nm : ByteArray) (rp ap bp : Option Addr) (rl rc al ac bl bc : Nat) (ats : List P2) (w : World) (hA : P2s w ap ac ats) (ha : ats.length = al) :
    Calls Try.prog 53 #[.agg #[.int .i64 k, .string nm, .slice rp rl rc, .slice ap al ac, .slice bp bl bc]] w fun e w' => e = .returned (.int .i64 (fmE k nm rl ats bl)) ∧ Grew w w' := by
  subst ha
  have HA := Lib.hid hA
  clear hA
  obtain ⟨r, hr⟩ : ∃ r, fmE k nm rl ats bl = r := ⟨_, rfl⟩
  rw [hr]
  have Hr := Lib.hid hr
  clear hr
  have hz : ∀ n : Nat, n = 0 ∨ (decide (0 < (n : Int)) = true ∧ 0 < n) := fun n => by
    rcases Nat.eq_zero_or_pos n with h | h
    · exact Or.inl h
    · exact Or.inr ⟨decide_eq_true (by omega), h⟩
  have he := empty_iff nm
  by_cases h1 : k = 1
  · subst h1
    rcases hz rl with rfl | ⟨e1, q1⟩ <;> rcases hz bl with rfl | ⟨e2, q2⟩
    all_goals
      have H := Lib.hid (Hr.out.symm.trans (by first | exact fmE_y (by rw [fm1]; exact decide_eq_true (by omega)) | exact fmE_n (by rw [fm1]; exact decide_eq_false (by omega))))
      go_enter Try.func53, Try.ntmps53
      go_wp2
      go_ret
      exact ⟨ret_int H.out.symm, by (repeat (first | exact Grew.refl _ | refine Grew.over ?_ _ | refine Grew.alloc ?_ _ | refine Grew.drew ?_ | refine Grew.drewN ?_ _))⟩
  by_cases h2 : k = 2
  · subst h2
    clear h1
    by_cases q0 : nm.size = 0 <;> rcases hz bl with rfl | ⟨e2, q2⟩ <;> by_cases q3 : 2 ≤ rl
    all_goals
      first
      | (have e3 : decide ((rl : Int) < 2) = false := decide_eq_false (by omega))
      | (have e3 : decide ((rl : Int) < 2) = true := decide_eq_true (by omega))
      first
      | rw [decide_eq_true q0] at he
      | rw [decide_eq_false q0] at he
      have H := Lib.hid (Hr.out.symm.trans (by first | exact fmE_y (by rw [fm2]; exact decide_eq_true (by omega)) | exact fmE_n (by rw [fm2]; exact decide_eq_false (by omega))))
      go_enter Try.func53, Try.ntmps53
      go_wp2
      go_ret
      exact ⟨ret_int H.out.symm, by (repeat (first | exact Grew.refl _ | refine Grew.over ?_ _ | refine Grew.alloc ?_ _ | refine Grew.drew ?_ | refine Grew.drewN ?_ _))⟩
  by_cases h3 : k = 3
  · subst h3
    clear h1 h2
    rcases hz rl with rfl | ⟨e1, q1⟩ <;> rcases hz bl with rfl | ⟨e2, q2⟩ <;> cases q3 : kw3 nm <;> cases q4 : kw4 nm
    all_goals
      have H := Lib.hid (Hr.out.symm.trans (by first | exact fmE_y (by rw [fm3, q3, q4]; first | rfl | exact decide_eq_true (by omega)) | exact fmE_n (by rw [fm3, q3, q4]; first | exact Bool.and_false _ | (rw [decide_eq_false (by omega)]; rfl))))
      have q3' : (nm.toList != [110, 111, 100, 101]) = !kw3 nm := rfl
      have q4' : (nm.toList != [101, 100, 103, 101]) = !kw4 nm := rfl
      rw [q3] at q3'
      rw [q4] at q4'
      unfold kw3 at q3
      unfold kw4 at q4
      go_enter Try.func53, Try.ntmps53
      go_wp2
      go_ret
      exact ⟨ret_int H.out.symm, by (repeat (first | exact Grew.refl _ | refine Grew.over ?_ _ | refine Grew.alloc ?_ _ | refine Grew.drew ?_ | refine Grew.drewN ?_ _))⟩
  by_cases h4 : k = 4
  · subst h4
    clear h1 h2 h3
    by_cases q3 : ats.length = 1 ∧ rl = 0 ∧ bl = 0
    · obtain ⟨q3, rfl, rfl⟩ := q3
      obtain ⟨b, o, x, y, rfl, hb, hx, -, -, c0, c1⟩ := p2_el HA.out (i := 0) (by omega)
      have hk := p2K_eq hx
      have hx0 := empty_iff x
      by_cases q0 : x.size = 0
      all_goals
        first
        | rw [decide_eq_true q0] at hx0
        | rw [decide_eq_false q0] at hx0
        have H := Lib.hid (Hr.out.symm.trans (by first | exact fmE_y (by rw [fm4, hk]; exact decide_eq_true ⟨rfl, rfl, q3, q0⟩) | exact fmE_n (by rw [fm4, hk]; exact decide_eq_false (fun h => q0 h.2.2.2))))
        have hsl : Value.slice (some ⟨b, o, none⟩) ats.length ac = Value.slice (some ⟨b, o, none⟩) 1 ac := by rw [q3]
        rw [hsl]
        clear hsl hk hx
        rw [Nat.zero_mul, Nat.add_zero] at c0 c1
        go_enter Try.func53, Try.ntmps53
        go_wp2
        go_ret
        exact ⟨ret_int H.out.symm, by (repeat (first | exact Grew.refl _ | refine Grew.over ?_ _ | refine Grew.alloc ?_ _ | refine Grew.drew ?_ | refine Grew.drewN ?_ _))⟩
    by_cases q4 : ats.length = 1 <;> rcases hz rl with rfl | ⟨e1, q1⟩ <;> rcases hz bl with rfl | ⟨e2, q2⟩
    all_goals try (exfalso; omega)
    all_goals
      have H := Lib.hid (Hr.out.symm.trans (by exact fmE_n (by rw [fm4]; exact decide_eq_false (by omega))))
      first
      | (have e3 : ((ats.length : Int) == 1) = false := beq_eq_false_iff_ne.2 (by omega)
         have e4 : ((ats.length : Int) != 1) = true := bne_iff_ne.2 (by omega))
      | (have e3 : ((ats.length : Int) == 1) = true := beq_iff_eq.2 (by omega)
         have e4 : ((ats.length : Int) != 1) = false := by rw [bne, e3]; rfl)
      clear q3
      go_enter Try.func53, Try.ntmps53
      go_wp2
      go_ret
      exact ⟨ret_int H.out.symm, by (repeat (first | exact Grew.refl _ | refine Grew.over ?_ _ | refine Grew.alloc ?_ _ | refine Grew.drew ?_ | refine Grew.drewN ?_ _))⟩
  by_cases h5 : k = 5
  · subst h5
    clear h1 h2 h3 h4
    rcases hz rl with rfl | ⟨e1, q1⟩ <;> rcases hz ats.length with q2 | ⟨e2, q2⟩
    all_goals
      have H := Lib.hid (Hr.out.symm.trans (by first | exact fmE_y (by rw [fm5]; exact decide_eq_true (by omega)) | exact fmE_n (by rw [fm5]; exact decide_eq_false (by omega))))
      go_enter Try.func53, Try.ntmps53
      go_wp2
      go_ret
      exact ⟨ret_int H.out.symm, by (repeat (first | exact Grew.refl _ | refine Grew.over ?_ _ | refine Grew.alloc ?_ _ | refine Grew.drew ?_ | refine Grew.drewN ?_ _))⟩
  have H := Lib.hid (Hr.out.symm.trans (fmE_n (fm6 h1 h2 h3 h4 h5)))
  rcases Int.lt_or_le k 1 with h | h
  · go_enter Try.func53, Try.ntmps53
    go_wp2
    go_ret
    exact ⟨ret_int H.out.symm, by (repeat (first | exact Grew.refl _ | refine Grew.over ?_ _ | refine Grew.alloc ?_ _ | refine Grew.drew ?_ | refine Grew.drewN ?_ _))⟩
  · have h' : 5 < k := by omega
    go_enter Try.func53, Try.ntmps53
    go_wp2
    go_ret
    exact ⟨ret_int H.out.symm, by (repeat (first | exact Grew.refl _ | refine Grew.over ?_ _ | refine Grew.alloc ?_ _ | refine Grew.drew ?_ | refine Grew.drewN ?_ _))⟩
end Go.Proofs.Ytbamckfjikpjlaa
