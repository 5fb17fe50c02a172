/- PolyTurns and PolyKeeps return true for every input, and the input reads as before. -/
import Derived.Test.YtmljfjcebfonaaaPolX
import Derived.Test.YtmljfjcebfonaaaPlaB
set_option linter.unusedSimpArgs false
set_option linter.unusedVariables false
namespace Go.Proofs.Ytmljfjcebfonaaa
open Go.RowKit Go.ChangeShapes Go.WideShapes
attribute [local go_sem ↓] Go.wp_at_zero Go.wp_at_succ

theorem reversed_e {p : Option Addr} {n c : Nat} {E R : List (Int × Int)} {w : World} (h : E.reverse = R) (hP : Prs w p E) (hn : E.length = n) (he : E.length ≤ 2000) :
    Calls Try.prog 22 #[.slice p n c] w fun e w' => Grew w w' ∧ ∃ q c, e = .returned (.slice q R.length c) ∧ Prs w' q R := by
  subst h
  refine (reversed_l p n c E w hP hn he).mono fun e w' ⟨hg, v, h1, hO⟩ => ?_
  obtain ⟨q, c, rfl, _, hQ⟩ := prs_of_owns hO (k := 0) rfl
  exact ⟨hg, q, c, h1, hQ⟩

set_option maxHeartbeats 8000000 in
theorem turns_l (p : Option Addr) (n c : Nat) (E : List (Int × Int)) (w : World) (hP : Prs w p E) (hn : E.length = n) :
    Calls Try.prog 5 #[.slice p n c] w fun e w' => e = .returned (.bool true) ∧ Grew w w' := by
  subst hn
  have hmx := hP.1
  have HP := Lib.hid hP
  clear hP
  by_cases hlen : 512 < E.length
  · go_enter Try.func5, Try.ntmps5
    go_wp2_with (go_at_call 8; apply Calls.mono; (with_reducible exact awake_l _); rintro e w' ⟨rfl, x, rfl⟩)
    go_ret
    exact ⟨rfl, by (repeat (first | exact Grew.refl _ | refine Grew.over ?_ _ | refine Grew.alloc ?_ _ | refine Grew.drew ?_ | refine Grew.drewN ?_ _))⟩
  cases hv : vPB E
  case false =>
    have H1 := Lib.hid hv
    clear hv
    go_enter Try.func5, Try.ntmps5
    go_wp2_with (first
      | (go_at_call 9; apply Calls.mono; (with_reducible exact valid_pe H1.out HP.out rfl); rintro e w' ⟨rfl, x, rfl⟩)
      | (go_at_call 8; apply Calls.mono; (with_reducible exact awake_l _); rintro e w' ⟨rfl, x, rfl⟩))
    go_ret
    exact ⟨rfl, by (repeat (first | exact Grew.refl _ | refine Grew.over ?_ _ | refine Grew.alloc ?_ _ | refine Grew.drew ?_ | refine Grew.drewN ?_ _))⟩
  obtain ⟨k1, k2, k3, k4, k5⟩ := rev_same hv
  obtain ⟨R, hR⟩ : ∃ R, E.reverse = R := ⟨_, rfl⟩
  obtain ⟨v2, hv2⟩ : ∃ b, lenF E = b := ⟨_, rfl⟩
  obtain ⟨v3, hv3⟩ : ∃ b, bndF E = b := ⟨_, rfl⟩
  obtain ⟨v4, hv4⟩ : ∃ b, benF E = b := ⟨_, rfl⟩
  obtain ⟨S, hS⟩ : ∃ S, simF E = S := ⟨_, rfl⟩
  obtain ⟨T, hT⟩ : ∃ T, S.reverse = T := ⟨_, rfl⟩
  rw [hR] at k1 k2 k3 k4 k5
  rw [hv2] at k2
  rw [hv3] at k3
  rw [hv4] at k4
  rw [hS, hT] at k5
  have hSl : S.length ≤ 2000 := by
    have := (sim_keeps hv hS).2.1
    omega
  have H1 := Lib.hid hv
  have H2 := Lib.hid hv2
  have H3 := Lib.hid hv3
  have H4 := Lib.hid hv4
  have H5 := Lib.hid hS
  have HR := Lib.hid hR
  have HT := Lib.hid hT
  have K1 := Lib.hid k1
  have K2 := Lib.hid k2
  have K3 := Lib.hid k3
  have K4 := Lib.hid k4
  have K5 := Lib.hid k5
  have hEl : E.length ≤ 2000 := by omega
  obtain ⟨x0, y0, x1, y1⟩ := v3
  have hbx := eqx_self ⟨x0, y0, x1, y1⟩
  clear hv hv2 hv3 hv4 hS hR hT k1 k2 k3 k4 k5
  go_enter Try.func5, Try.ntmps5
  go_upto_region 4 with (first
    | (go_at_call 9; apply Calls.mono; (with_reducible exact valid_pe H1.out HP.out rfl); rintro e w' ⟨rfl, x, rfl⟩)
    | (go_at_call 22; apply Calls.mono; (with_reducible exact reversed_e HR.out (HP.out.grew (by (repeat (first | exact Grew.refl _ | refine Grew.over ?_ _ | refine Grew.alloc ?_ _ | refine Grew.drew ?_ | refine Grew.drewN ?_ _)))) rfl hEl); rintro e w1 ⟨hg1, q1, c1, rfl, hR1⟩; have Hg1 := Lib.hid ((show Grew w _ by (repeat (first | exact Grew.refl _ | refine Grew.over ?_ _ | refine Grew.alloc ?_ _ | refine Grew.drew ?_ | refine Grew.drewN ?_ _))).trans hg1); have HR1 := Lib.hid hR1; clear hg1 hR1))
  have HP1 := Lib.hid (HP.out.grew Hg1.out)
  go_wp2_with (first
    | (go_at_call 9; apply Calls.mono; (with_reducible exact valid_pe K1.out (HR1.out.grew (by (repeat (first | exact Grew.refl _ | refine Grew.over ?_ _ | refine Grew.alloc ?_ _ | refine Grew.drew ?_ | refine Grew.drewN ?_ _)))) rfl); rintro e w' ⟨rfl, x, rfl⟩)
    | (go_at_call 11; apply Calls.mono; (with_reducible exact length_pe K2.out (HR1.out.grew (by (repeat (first | exact Grew.refl _ | refine Grew.over ?_ _ | refine Grew.alloc ?_ _ | refine Grew.drew ?_ | refine Grew.drewN ?_ _)))) rfl); rintro e w' ⟨rfl, x, rfl⟩)
    | (go_at_call 11; apply Calls.mono; (with_reducible exact length_pe H2.out (HP1.out.grew (by (repeat (first | exact Grew.refl _ | refine Grew.over ?_ _ | refine Grew.alloc ?_ _ | refine Grew.drew ?_ | refine Grew.drewN ?_ _)))) rfl); rintro e w' ⟨rfl, x, rfl⟩)
    | (go_at_call 13; apply Calls.mono; (with_reducible exact bounds_pe K3.out (HR1.out.grew (by (repeat (first | exact Grew.refl _ | refine Grew.over ?_ _ | refine Grew.alloc ?_ _ | refine Grew.drew ?_ | refine Grew.drewN ?_ _)))) rfl); rintro e w' ⟨rfl, x, rfl⟩)
    | (go_at_call 13; apply Calls.mono; (with_reducible exact bounds_pe H3.out (HP1.out.grew (by (repeat (first | exact Grew.refl _ | refine Grew.over ?_ _ | refine Grew.alloc ?_ _ | refine Grew.drew ?_ | refine Grew.drewN ?_ _)))) rfl); rintro e w' ⟨rfl, x, rfl⟩)
    | (go_at_call 15; apply Calls.mono; (with_reducible exact bends_pe K4.out (HR1.out.grew (by (repeat (first | exact Grew.refl _ | refine Grew.over ?_ _ | refine Grew.alloc ?_ _ | refine Grew.drew ?_ | refine Grew.drewN ?_ _)))) rfl); rintro e w' ⟨rfl, x, rfl⟩)
    | (go_at_call 15; apply Calls.mono; (with_reducible exact bends_pe H4.out (HP1.out.grew (by (repeat (first | exact Grew.refl _ | refine Grew.over ?_ _ | refine Grew.alloc ?_ _ | refine Grew.drew ?_ | refine Grew.drewN ?_ _)))) rfl); rintro e w' ⟨rfl, x, rfl⟩)
    | (go_at_call 20; apply Calls.mono; (with_reducible exact simplify_pe K5.out (HR1.out.grew (by (repeat (first | exact Grew.refl _ | refine Grew.over ?_ _ | refine Grew.alloc ?_ _ | refine Grew.drew ?_ | refine Grew.drewN ?_ _)))) rfl); rintro e w2 ⟨hg2, q2, c2, rfl, hS2⟩; have Hg2 := Lib.hid ((show Grew w1 _ by (repeat (first | exact Grew.refl _ | refine Grew.over ?_ _ | refine Grew.alloc ?_ _ | refine Grew.drew ?_ | refine Grew.drewN ?_ _))).trans hg2); have HS2 := Lib.hid hS2; clear hg2 hS2)
    | (go_at_call 20; apply Calls.mono; (with_reducible exact simplify_pe H5.out (HP1.out.grew (Hg2.out.trans (by (repeat (first | exact Grew.refl _ | refine Grew.over ?_ _ | refine Grew.alloc ?_ _ | refine Grew.drew ?_ | refine Grew.drewN ?_ _))))) rfl); rintro e w3 ⟨hg3, q3, c3, rfl, hS3⟩; have Hg3 := Lib.hid hg3; have HS3 := Lib.hid hS3; clear hg3 hS3)
    | (go_at_call 22; apply Calls.mono; (with_reducible exact reversed_e HT.out HS3.out rfl hSl); rintro e w4 ⟨hg4, q4, c4, rfl, hR4⟩; have Hg4 := Lib.hid (Hg3.out.trans hg4); have HR4 := Lib.hid hR4; clear hg4 hR4)
    | (go_at_call 19; apply Calls.mono; (with_reducible exact same_re (decide_eq_true (rfl : T = T)) (HS2.out.grew Hg4.out) HR4.out rfl rfl); rintro e w' ⟨rfl, x, rfl⟩)
    | (go_at_call 8; apply Calls.mono; (with_reducible exact awake_l _); rintro e w' ⟨rfl, x, rfl⟩))
  go_ret
  exact ⟨rfl, Hg1.out.trans (Hg2.out.trans (Hg4.out.trans (by (repeat (first | exact Grew.refl _ | refine Grew.over ?_ _ | refine Grew.alloc ?_ _ | refine Grew.drew ?_ | refine Grew.drewN ?_ _)))))⟩

set_option maxHeartbeats 8000000 in
theorem keeps_l (p : Option Addr) (n c : Nat) (E : List (Int × Int)) (w : World) (hP : Prs w p E) (hn : E.length = n) :
    Calls Try.prog 6 #[.slice p n c] w fun e w' => e = .returned (.bool true) ∧ Grew w w' := by
  subst hn
  have hmx := hP.1
  have HP := Lib.hid hP
  clear hP
  by_cases hlen : 512 < E.length
  · go_enter Try.func6, Try.ntmps6
    go_wp2_with (go_at_call 8; apply Calls.mono; (with_reducible exact awake_l _); rintro e w' ⟨rfl, x, rfl⟩)
    go_ret
    exact ⟨rfl, by (repeat (first | exact Grew.refl _ | refine Grew.over ?_ _ | refine Grew.alloc ?_ _ | refine Grew.drew ?_ | refine Grew.drewN ?_ _))⟩
  cases hv : vPB E
  case false =>
    have H1 := Lib.hid hv
    clear hv
    go_enter Try.func6, Try.ntmps6
    go_wp2_with (first
      | (go_at_call 9; apply Calls.mono; (with_reducible exact valid_pe H1.out HP.out rfl); rintro e w' ⟨rfl, x, rfl⟩)
      | (go_at_call 8; apply Calls.mono; (with_reducible exact awake_l _); rintro e w' ⟨rfl, x, rfl⟩))
    go_ret
    exact ⟨rfl, by (repeat (first | exact Grew.refl _ | refine Grew.over ?_ _ | refine Grew.alloc ?_ _ | refine Grew.drew ?_ | refine Grew.drewN ?_ _))⟩
  obtain ⟨S, hS⟩ : ∃ S, simF E = S := ⟨_, rfl⟩
  obtain ⟨s1, s2, s3, s4, k1, k2, k3, k4, k5, k6⟩ := sim_keeps hv hS
  obtain ⟨v2, hv2⟩ : ∃ b, lenF E = b := ⟨_, rfl⟩
  obtain ⟨v3, hv3⟩ : ∃ b, bndF E = b := ⟨_, rfl⟩
  obtain ⟨v4, hv4⟩ : ∃ b, benF E = b := ⟨_, rfl⟩
  rw [hv2] at k2
  rw [hv3] at k3
  rw [hv4] at k4
  rw [k4] at k5
  have H1 := Lib.hid hv
  have H2 := Lib.hid hv2
  have H3 := Lib.hid hv3
  have H4 := Lib.hid hv4
  have H5 := Lib.hid hS
  have K1 := Lib.hid k1
  have K2 := Lib.hid k2
  have K3 := Lib.hid k3
  have K4 := Lib.hid k4
  have K6 := Lib.hid k6
  obtain ⟨x0, y0, x1, y1⟩ := v3
  have hbx := eqx_self ⟨x0, y0, x1, y1⟩
  obtain ⟨i, hi⟩ : ∃ i, i + 1 = S.length := ⟨S.length - 1, by omega⟩
  obtain ⟨j, hj⟩ : ∃ j, j + 1 = E.length := ⟨E.length - 1, by omega⟩
  have e1 := eqb_yes s3
  rw [show S.length - 1 = i by omega, show E.length - 1 = j by omega] at s4
  have e2 := eqb_yes s4
  have hiS : (S.length : Int) - 1 = (i : Int) := by omega
  have hjE : (E.length : Int) - 1 = (j : Int) := by omega
  have hd1 : decide ((S.length : Int) < 1) = false := decide_eq_false (by omega)
  have hd2 : decide (E.length < S.length) = false := decide_eq_false (by omega)
  have hil : i < S.length := by omega
  have hjl : j < E.length := by omega
  have hi0 : 0 < S.length := by omega
  have hj0 : 0 < E.length := by omega
  have hSm : S.length ≤ 512 := by omega
  obtain ⟨bE, oE, rfl, hbE, hcE⟩ := HP.out.cells hj0
  have HcE := Lib.hid hcE
  have Hij : Hid (i + 1 = S.length ∧ j + 1 = E.length) := Lib.hid ⟨hi, hj⟩
  have HB : Hid (∀ b, v4 = b → benF S = b) := Lib.hid (fun b hb => by rw [K4.out, hb])
  clear hv hv2 hv3 hv4 hS k1 k2 k3 k4 k6 s1 s2 s3 s4 hi hj hcE
  go_enter Try.func6, Try.ntmps6
  go_upto_region 4 with (first
    | (go_at_call 9; apply Calls.mono; (with_reducible exact valid_pe H1.out HP.out rfl); rintro e w' ⟨rfl, x, rfl⟩)
    | (go_at_call 20; apply Calls.mono; (with_reducible exact simplify_pe H5.out (HP.out.grew (by (repeat (first | exact Grew.refl _ | refine Grew.over ?_ _ | refine Grew.alloc ?_ _ | refine Grew.drew ?_ | refine Grew.drewN ?_ _)))) rfl); rintro e w1 ⟨hg1, q1, c1, rfl, hS1⟩; have Hg1 := Lib.hid ((show Grew w _ by (repeat (first | exact Grew.refl _ | refine Grew.over ?_ _ | refine Grew.alloc ?_ _ | refine Grew.drew ?_ | refine Grew.drewN ?_ _))).trans hg1); have HS1 := Lib.hid hS1; clear hg1 hS1))
  obtain ⟨bS, oS, rfl, hbS, hcS⟩ := HS1.out.cells hi0
  obtain ⟨a1, a2⟩ := hcS w1 (Grew.refl _) 0 hi0
  obtain ⟨a3, a4⟩ := hcS w1 (Grew.refl _) i hil
  obtain ⟨b1, b2⟩ := HcE.out w1 Hg1.out 0 hj0
  obtain ⟨b3, b4⟩ := HcE.out w1 Hg1.out j hjl
  have hsz := Hg1.out.below.size
  have HP1 := Lib.hid (HP.out.grew Hg1.out)
  simp only [Nat.zero_mul, Nat.add_zero] at a1 a2 b1 b2
  clear hcS
  refine wp_region_over (by kernel_rfl) (by kernel_rfl) ?_; (repeat (go_big_quiet_step (fail))); refine wpQuiet_nil ?_; rintro _ ⟨x, rfl⟩
  go_upto_region 6 with fail
  rcases Nat.lt_or_ge S.length 2 with hS2 | hS2
  · have hS1 : (S.length : Int) - 2 = -1 := by omega
    have hv4 : v4 = 0 := by omega
    subst hv4
    clear k5 hS2
    go_wp2_with (first
      | (go_at_call 9; apply Calls.mono; (with_reducible exact valid_pe K1.out (HS1.out.grew (by (repeat (first | exact Grew.refl _ | refine Grew.over ?_ _ | refine Grew.alloc ?_ _ | refine Grew.drew ?_ | refine Grew.drewN ?_ _)))) rfl); rintro e w' ⟨rfl, x, rfl⟩)
      | (go_at_call 11; apply Calls.mono; (with_reducible exact length_pe K2.out (HS1.out.grew (by (repeat (first | exact Grew.refl _ | refine Grew.over ?_ _ | refine Grew.alloc ?_ _ | refine Grew.drew ?_ | refine Grew.drewN ?_ _)))) rfl); rintro e w' ⟨rfl, x, rfl⟩)
      | (go_at_call 11; apply Calls.mono; (with_reducible exact length_pe H2.out (HP1.out.grew (by (repeat (first | exact Grew.refl _ | refine Grew.over ?_ _ | refine Grew.alloc ?_ _ | refine Grew.drew ?_ | refine Grew.drewN ?_ _)))) rfl); rintro e w' ⟨rfl, x, rfl⟩)
      | (go_at_call 13; apply Calls.mono; (with_reducible exact bounds_pe K3.out (HS1.out.grew (by (repeat (first | exact Grew.refl _ | refine Grew.over ?_ _ | refine Grew.alloc ?_ _ | refine Grew.drew ?_ | refine Grew.drewN ?_ _)))) rfl); rintro e w' ⟨rfl, x, rfl⟩)
      | (go_at_call 13; apply Calls.mono; (with_reducible exact bounds_pe H3.out (HP1.out.grew (by (repeat (first | exact Grew.refl _ | refine Grew.over ?_ _ | refine Grew.alloc ?_ _ | refine Grew.drew ?_ | refine Grew.drewN ?_ _)))) rfl); rintro e w' ⟨rfl, x, rfl⟩)
      | (go_at_call 15; apply Calls.mono; (with_reducible exact bends_pe K4.out (HS1.out.grew (by (repeat (first | exact Grew.refl _ | refine Grew.over ?_ _ | refine Grew.alloc ?_ _ | refine Grew.drew ?_ | refine Grew.drewN ?_ _)))) rfl); rintro e w' ⟨rfl, x, rfl⟩)
      | (go_at_call 15; apply Calls.mono; (with_reducible exact bends_pe H4.out (HP1.out.grew (by (repeat (first | exact Grew.refl _ | refine Grew.over ?_ _ | refine Grew.alloc ?_ _ | refine Grew.drew ?_ | refine Grew.drewN ?_ _)))) rfl); rintro e w' ⟨rfl, x, rfl⟩)
      | (go_at_call 20; apply Calls.mono; (with_reducible exact simplify_pe K6.out (HS1.out.grew (by (repeat (first | exact Grew.refl _ | refine Grew.over ?_ _ | refine Grew.alloc ?_ _ | refine Grew.drew ?_ | refine Grew.drewN ?_ _)))) rfl); rintro e w2 ⟨hg2, q2, c2, rfl, hS2⟩; have Hg2 := Lib.hid ((show Grew w1 _ by (repeat (first | exact Grew.refl _ | refine Grew.over ?_ _ | refine Grew.alloc ?_ _ | refine Grew.drew ?_ | refine Grew.drewN ?_ _))).trans hg2); have HS3 := Lib.hid hS2; clear hg2 hS2)
      | (go_at_call 19; apply Calls.mono; (with_reducible exact same_re (decide_eq_true (rfl : S = S)) HS3.out (HS1.out.grew Hg2.out) rfl rfl); rintro e w' ⟨rfl, x, rfl⟩)
      | (go_at_call 8; apply Calls.mono; (with_reducible exact awake_l _); rintro e w' ⟨rfl, x, rfl⟩))
    go_ret
    exact ⟨rfl, Hg1.out.trans (Hg2.out.trans (by (repeat (first | exact Grew.refl _ | refine Grew.over ?_ _ | refine Grew.alloc ?_ _ | refine Grew.drew ?_ | refine Grew.drewN ?_ _))))⟩
  · obtain ⟨m, hm⟩ : ∃ m, m + 2 = S.length := ⟨S.length - 2, by omega⟩
    have hS1 : (S.length : Int) - 2 = (m : Int) := by omega
    have hv4 : v4 = (m : Int) := by omega
    subst hv4
    clear k5 hS2 hm
    go_wp2_with (first
      | (go_at_call 9; apply Calls.mono; (with_reducible exact valid_pe K1.out (HS1.out.grew (by (repeat (first | exact Grew.refl _ | refine Grew.over ?_ _ | refine Grew.alloc ?_ _ | refine Grew.drew ?_ | refine Grew.drewN ?_ _)))) rfl); rintro e w' ⟨rfl, x, rfl⟩)
      | (go_at_call 11; apply Calls.mono; (with_reducible exact length_pe K2.out (HS1.out.grew (by (repeat (first | exact Grew.refl _ | refine Grew.over ?_ _ | refine Grew.alloc ?_ _ | refine Grew.drew ?_ | refine Grew.drewN ?_ _)))) rfl); rintro e w' ⟨rfl, x, rfl⟩)
      | (go_at_call 11; apply Calls.mono; (with_reducible exact length_pe H2.out (HP1.out.grew (by (repeat (first | exact Grew.refl _ | refine Grew.over ?_ _ | refine Grew.alloc ?_ _ | refine Grew.drew ?_ | refine Grew.drewN ?_ _)))) rfl); rintro e w' ⟨rfl, x, rfl⟩)
      | (go_at_call 13; apply Calls.mono; (with_reducible exact bounds_pe K3.out (HS1.out.grew (by (repeat (first | exact Grew.refl _ | refine Grew.over ?_ _ | refine Grew.alloc ?_ _ | refine Grew.drew ?_ | refine Grew.drewN ?_ _)))) rfl); rintro e w' ⟨rfl, x, rfl⟩)
      | (go_at_call 13; apply Calls.mono; (with_reducible exact bounds_pe H3.out (HP1.out.grew (by (repeat (first | exact Grew.refl _ | refine Grew.over ?_ _ | refine Grew.alloc ?_ _ | refine Grew.drew ?_ | refine Grew.drewN ?_ _)))) rfl); rintro e w' ⟨rfl, x, rfl⟩)
      | (go_at_call 15; apply Calls.mono; (with_reducible exact bends_pe K4.out (HS1.out.grew (by (repeat (first | exact Grew.refl _ | refine Grew.over ?_ _ | refine Grew.alloc ?_ _ | refine Grew.drew ?_ | refine Grew.drewN ?_ _)))) rfl); rintro e w' ⟨rfl, x, rfl⟩)
      | (go_at_call 15; apply Calls.mono; (with_reducible exact bends_pe H4.out (HP1.out.grew (by (repeat (first | exact Grew.refl _ | refine Grew.over ?_ _ | refine Grew.alloc ?_ _ | refine Grew.drew ?_ | refine Grew.drewN ?_ _)))) rfl); rintro e w' ⟨rfl, x, rfl⟩)
      | (go_at_call 20; apply Calls.mono; (with_reducible exact simplify_pe K6.out (HS1.out.grew (by (repeat (first | exact Grew.refl _ | refine Grew.over ?_ _ | refine Grew.alloc ?_ _ | refine Grew.drew ?_ | refine Grew.drewN ?_ _)))) rfl); rintro e w2 ⟨hg2, q2, c2, rfl, hS2⟩; have Hg2 := Lib.hid ((show Grew w1 _ by (repeat (first | exact Grew.refl _ | refine Grew.over ?_ _ | refine Grew.alloc ?_ _ | refine Grew.drew ?_ | refine Grew.drewN ?_ _))).trans hg2); have HS3 := Lib.hid hS2; clear hg2 hS2)
      | (go_at_call 19; apply Calls.mono; (with_reducible exact same_re (decide_eq_true (rfl : S = S)) HS3.out (HS1.out.grew Hg2.out) rfl rfl); rintro e w' ⟨rfl, x, rfl⟩)
      | (go_at_call 8; apply Calls.mono; (with_reducible exact awake_l _); rintro e w' ⟨rfl, x, rfl⟩))
    go_ret
    exact ⟨rfl, Hg1.out.trans (Hg2.out.trans (by (repeat (first | exact Grew.refl _ | refine Grew.over ?_ _ | refine Grew.alloc ?_ _ | refine Grew.drew ?_ | refine Grew.drewN ?_ _))))⟩

theorem PolyTurns_row : Rows.PolyTurnsSaid :=
  OpenClaim.holds_of_wide 5 Try.f5 rfl rfl rfl rfl rfl rfl rfl ⟨rfl, rfl, rfl, rfl, rfl⟩ rfl rfl rfl rfl rfl (by kernel_rfl) Try.func5 (by kernel_rfl)
    (of_decide_eq_true (by kernel_rfl)) (by unfold Func.isWrapper; first | (rw [if_pos (by decide +kernel)]; kernel_rfl) | (rw [if_neg (by decide +kernel)]; exact ⟨rfl, rfl⟩))
    (fun os started H enc _ => by
      refine law_lifted (C := Try.checked) (s := Rows.polyTurnsSpec) Try.own started (by kernel_rfl) Try.func5
        (ChangeSpec.witness6 (enc := enc) (C := Try.checked) false ⟨#[], #[.slice none 0 0], []⟩ 8 (by kernel_rfl) (by kernel_rfl) (by kernel_rfl) (by kernel_rfl))
        Try.laidOut rfl Try.underlying4 (by kernel_rfl) rfl ?_ ?_
      · intro ds hds
        match ds, hds with
        | [_], _ => exact ⟨rfl, rfl, rfl⟩
      · intro W base args ds ps hval hA
        have hA' := hA
        rw [Try.params5] at hA'
        obtain ⟨v0, rfl, ⟨n0, y0, h0⟩⟩ := trodAll_split1 hA'
        obtain ⟨p, cp, E, rfl, hE⟩ := arg_pts (hval 0 _ _ rfl rfl) h0
        exact turns_l _ _ _ _ _ hE rfl)

theorem PolyKeeps_row : Rows.PolyKeepsSaid :=
  OpenClaim.holds_of_wide 6 Try.f6 rfl rfl rfl rfl rfl rfl rfl ⟨rfl, rfl, rfl, rfl, rfl⟩ rfl rfl rfl rfl rfl (by kernel_rfl) Try.func6 (by kernel_rfl)
    (of_decide_eq_true (by kernel_rfl)) (by unfold Func.isWrapper; first | (rw [if_pos (by decide +kernel)]; kernel_rfl) | (rw [if_neg (by decide +kernel)]; exact ⟨rfl, rfl⟩))
    (fun os started H enc _ => by
      refine law_lifted (C := Try.checked) (s := Rows.polyKeepsSpec) Try.own started (by kernel_rfl) Try.func6
        (ChangeSpec.witness6 (enc := enc) (C := Try.checked) false ⟨#[], #[.slice none 0 0], []⟩ 8 (by kernel_rfl) (by kernel_rfl) (by kernel_rfl) (by kernel_rfl))
        Try.laidOut rfl Try.underlying4 (by kernel_rfl) rfl ?_ ?_
      · intro ds hds
        match ds, hds with
        | [_], _ => exact ⟨rfl, rfl, rfl⟩
      · intro W base args ds ps hval hA
        have hA' := hA
        rw [Try.params6] at hA'
        obtain ⟨v0, rfl, ⟨n0, y0, h0⟩⟩ := trodAll_split1 hA'
        obtain ⟨p, cp, E, rfl, hE⟩ := arg_pts (hval 0 _ _ rfl rfl) h0
        exact keeps_l _ _ _ _ _ hE rfl)

end Go.Proofs.Ytmljfjcebfonaaa
