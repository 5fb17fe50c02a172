/- PolyMeasures, PolySimplifies and PolyCrosses. -/
import Derived.Test.YtmljfjcebfonaaaPolX
set_option linter.unusedSimpArgs false
set_option linter.unusedVariables false
namespace Go.Proofs.Ytmljfjcebfonaaa
open Go.RowKit Go.ChangeShapes Go.WideShapes
attribute [local go_sem ↓] Go.wp_at_zero Go.wp_at_succ

set_option maxHeartbeats 4000000 in
theorem measures_l (p : Option Addr) (n c : Nat) (E : List (Int × Int)) (w : World) (hP : Prs w p E) (hn : E.length = n) :
    Calls Try.prog 3 #[.slice p n c] w fun e w' => e = .returned (.bool true) ∧ Grew w w' := by
  subst hn
  have hmx := hP.1
  have HP := Lib.hid hP
  by_cases hlen : 1100 < E.length
  · go_enter Try.func3, Try.ntmps3
    go_wp2_with (go_at_call 8; apply Calls.mono; (with_reducible exact awake_l _); rintro e w' ⟨rfl, x, rfl⟩)
    go_ret
    exact ⟨rfl, by (repeat (first | exact Grew.refl _ | refine Grew.over ?_ _ | refine Grew.alloc ?_ _ | refine Grew.drew ?_ | refine Grew.drewN ?_ _))⟩
  obtain ⟨v1, hv1⟩ : ∃ b, vPB E = b := ⟨_, rfl⟩
  obtain ⟨v2, hv2⟩ : ∃ b, lenF E = b := ⟨_, rfl⟩
  obtain ⟨v3, hv3⟩ : ∃ b, bndF E = b := ⟨_, rfl⟩
  obtain ⟨v4, hv4⟩ : ∃ b, benF E = b := ⟨_, rfl⟩
  obtain ⟨v5, hv5⟩ : ∃ b, orthF E = b := ⟨_, rfl⟩
  have H1 := Lib.hid hv1
  have H2 := Lib.hid hv2
  have H3 := Lib.hid hv3
  have H4 := Lib.hid hv4
  have H5 := Lib.hid hv5
  obtain ⟨x0, y0, x1, y1⟩ := v3
  have hbx := eqx_self ⟨x0, y0, x1, y1⟩
  clear hP hv1 hv2 hv3 hv4 hv5
  go_enter Try.func3, Try.ntmps3
  go_wp2_with (first
    | (go_at_call 9; apply Calls.mono; (with_reducible exact valid_pe H1.out (HP.out.grew (by (repeat (first | exact Grew.refl _ | refine Grew.over ?_ _ | refine Grew.alloc ?_ _ | refine Grew.drew ?_ | refine Grew.drewN ?_ _)))) rfl); rintro e w' ⟨rfl, x, rfl⟩)
    | (go_at_call 10; apply Calls.mono; (with_reducible exact valid_re H1.out (HP.out.grew (by (repeat (first | exact Grew.refl _ | refine Grew.over ?_ _ | refine Grew.alloc ?_ _ | refine Grew.drew ?_ | refine Grew.drewN ?_ _)))) rfl); rintro e w' ⟨rfl, x, rfl⟩)
    | (go_at_call 11; apply Calls.mono; (with_reducible exact length_pe H2.out (HP.out.grew (by (repeat (first | exact Grew.refl _ | refine Grew.over ?_ _ | refine Grew.alloc ?_ _ | refine Grew.drew ?_ | refine Grew.drewN ?_ _)))) rfl); rintro e w' ⟨rfl, x, rfl⟩)
    | (go_at_call 12; apply Calls.mono; (with_reducible exact length_re H2.out (HP.out.grew (by (repeat (first | exact Grew.refl _ | refine Grew.over ?_ _ | refine Grew.alloc ?_ _ | refine Grew.drew ?_ | refine Grew.drewN ?_ _)))) rfl); rintro e w' ⟨rfl, x, rfl⟩)
    | (go_at_call 13; apply Calls.mono; (with_reducible exact bounds_pe H3.out (HP.out.grew (by (repeat (first | exact Grew.refl _ | refine Grew.over ?_ _ | refine Grew.alloc ?_ _ | refine Grew.drew ?_ | refine Grew.drewN ?_ _)))) rfl); rintro e w' ⟨rfl, x, rfl⟩)
    | (go_at_call 14; apply Calls.mono; (with_reducible exact bounds_re H3.out (HP.out.grew (by (repeat (first | exact Grew.refl _ | refine Grew.over ?_ _ | refine Grew.alloc ?_ _ | refine Grew.drew ?_ | refine Grew.drewN ?_ _)))) rfl); rintro e w' ⟨rfl, x, rfl⟩)
    | (go_at_call 15; apply Calls.mono; (with_reducible exact bends_pe H4.out (HP.out.grew (by (repeat (first | exact Grew.refl _ | refine Grew.over ?_ _ | refine Grew.alloc ?_ _ | refine Grew.drew ?_ | refine Grew.drewN ?_ _)))) rfl); rintro e w' ⟨rfl, x, rfl⟩)
    | (go_at_call 16; apply Calls.mono; (with_reducible exact bends_re H4.out (HP.out.grew (by (repeat (first | exact Grew.refl _ | refine Grew.over ?_ _ | refine Grew.alloc ?_ _ | refine Grew.drew ?_ | refine Grew.drewN ?_ _)))) rfl); rintro e w' ⟨rfl, x, rfl⟩)
    | (go_at_call 17; apply Calls.mono; (with_reducible exact orth_pe H5.out (HP.out.grew (by (repeat (first | exact Grew.refl _ | refine Grew.over ?_ _ | refine Grew.alloc ?_ _ | refine Grew.drew ?_ | refine Grew.drewN ?_ _)))) rfl); rintro e w' ⟨rfl, x, rfl⟩)
    | (go_at_call 18; apply Calls.mono; (with_reducible exact orth_re H5.out (HP.out.grew (by (repeat (first | exact Grew.refl _ | refine Grew.over ?_ _ | refine Grew.alloc ?_ _ | refine Grew.drew ?_ | refine Grew.drewN ?_ _)))) rfl); rintro e w' ⟨rfl, x, rfl⟩)
    | (go_at_call 8; apply Calls.mono; (with_reducible exact awake_l _); rintro e w' ⟨rfl, x, rfl⟩))
  go_ret
  exact ⟨rfl, by (repeat (first | exact Grew.refl _ | refine Grew.over ?_ _ | refine Grew.alloc ?_ _ | refine Grew.drew ?_ | refine Grew.drewN ?_ _))⟩

set_option maxHeartbeats 4000000 in
theorem simplifies_l (p : Option Addr) (n c : Nat) (E : List (Int × Int)) (w : World) (hP : Prs w p E) (hn : E.length = n) :
    Calls Try.prog 4 #[.slice p n c] w fun e w' => e = .returned (.bool true) ∧ Grew w w' := by
  subst hn
  have hmx := hP.1
  have HP := Lib.hid hP
  clear hP
  by_cases hlen : 1100 < E.length
  · go_enter Try.func4, Try.ntmps4
    go_wp2_with (go_at_call 8; apply Calls.mono; (with_reducible exact awake_l _); rintro e w' ⟨rfl, x, rfl⟩)
    go_ret
    exact ⟨rfl, by (repeat (first | exact Grew.refl _ | refine Grew.over ?_ _ | refine Grew.alloc ?_ _ | refine Grew.drew ?_ | refine Grew.drewN ?_ _))⟩
  obtain ⟨S, hS⟩ : ∃ S, simF E = S := ⟨_, rfl⟩
  have HS := Lib.hid hS
  clear hS
  go_enter Try.func4, Try.ntmps4
  go_wp2_with (first
    | (go_at_call 20; apply Calls.mono; (with_reducible exact simplify_pe HS.out HP.out rfl); rintro e w1 ⟨hg1, q1, c1, rfl, hS1⟩; have Hg1 := Lib.hid hg1; have HS1 := Lib.hid hS1; clear hg1 hS1)
    | (go_at_call 21; apply Calls.mono; (with_reducible exact simplify_re HS.out (HP.out.grew Hg1.out) rfl); rintro e w2 ⟨hg2, q2, c2, rfl, hS2⟩; have Hg2 := Lib.hid hg2; have HS2 := Lib.hid hS2; clear hg2 hS2)
    | (go_at_call 19; apply Calls.mono; (with_reducible exact same_re (decide_eq_true (rfl : S = S)) (HS1.out.grew Hg2.out) HS2.out rfl rfl); rintro e w' ⟨rfl, x, rfl⟩)
    | (go_at_call 8; apply Calls.mono; (with_reducible exact awake_l _); rintro e w' ⟨rfl, x, rfl⟩))
  go_ret
  exact ⟨rfl, Hg1.out.trans (Hg2.out.trans (by (repeat (first | exact Grew.refl _ | refine Grew.over ?_ _ | refine Grew.alloc ?_ _ | refine Grew.drew ?_ | refine Grew.drewN ?_ _))))⟩

/-! ### Crossings in either order -/
theorem crossS_comm (ax ay bx bZ cx cy dx dy : Int) : crossS ax ay bx bZ cx cy dx dy = crossS cx cy dx dy ax ay bx bZ := by
  unfold crossS
  cases vld ax ay <;> cases vld bx bZ <;> cases vld cx cy <;> cases vld dx dy <;> simp [Bool.and_comm]
def croT (A B : List (Int × Int)) (m : Nat) : Nat → Int
  | 0 => 0
  | i + 1 => croT A B m i + croRow A B i m
theorem croK_T (A B : List (Int × Int)) : ∀ i, croK A B i = croT A B (B.length - 1) i
  | 0 => rfl
  | i + 1 => by rw [croK, croT, croK_T]
theorem croT_zero (A B : List (Int × Int)) : ∀ i, croT A B 0 i = 0
  | 0 => rfl
  | i + 1 => by rw [croT, croT_zero, croRow]; rfl
theorem croT_step (A B : List (Int × Int)) (m : Nat) : ∀ j, croT B A (m + 1) j = croT B A m j + croRow A B m j
  | 0 => rfl
  | j + 1 => by
    rw [croT, croT_step A B m j, croT, croRow, croRow]
    unfold crs2
    rw [crossS_comm]
    omega
theorem croT_comm (A B : List (Int × Int)) (m : Nat) : ∀ i, croT A B m i = croT B A i m
  | 0 => (croT_zero B A m).symm
  | i + 1 => by rw [croT, croT_comm A B m i, croT_step]
theorem croF_comm (A B : List (Int × Int)) : croF B A = croF A B := by
  unfold croF
  rw [Bool.and_comm, croK_T, croK_T, croT_comm]

set_option maxHeartbeats 4000000 in
theorem crosses_l (p q : Option Addr) (n m c d : Nat) (A B : List (Int × Int)) (w : World) (hP : Prs w p A) (hQ : Prs w q B) (hn : A.length = n) (hm : B.length = m) :
    Calls Try.prog 7 #[.slice p n c, .slice q m d] w fun e w' => e = .returned (.bool true) ∧ Grew w w' := by
  subst hn hm
  have hcom := croF_comm A B
  have hmx := hP.1
  have hmy := hQ.1
  have HP := Lib.hid hP
  have HQ := Lib.hid hQ
  clear hP hQ
  by_cases hlen : 60 < A.length
  · go_enter Try.func7, Try.ntmps7
    go_wp2_with (go_at_call 8; apply Calls.mono; (with_reducible exact awake_l _); rintro e w' ⟨rfl, x, rfl⟩)
    go_ret
    exact ⟨rfl, by (repeat (first | exact Grew.refl _ | refine Grew.over ?_ _ | refine Grew.alloc ?_ _ | refine Grew.drew ?_ | refine Grew.drewN ?_ _))⟩
  by_cases hlen2 : 60 < B.length
  · go_enter Try.func7, Try.ntmps7
    go_wp2_with (go_at_call 8; apply Calls.mono; (with_reducible exact awake_l _); rintro e w' ⟨rfl, x, rfl⟩)
    go_ret
    exact ⟨rfl, by (repeat (first | exact Grew.refl _ | refine Grew.over ?_ _ | refine Grew.alloc ?_ _ | refine Grew.drew ?_ | refine Grew.drewN ?_ _))⟩
  obtain ⟨z, hz⟩ : ∃ z, croF A B = z := ⟨_, rfl⟩
  rw [hz] at hcom
  obtain ⟨b, hb⟩ : ∃ b, decide (A = B) = b := ⟨_, rfl⟩
  have HA := Lib.hid hz
  have HB := Lib.hid hcom
  have HE := Lib.hid hb
  have HX := Lib.hid (fun (W : World) (hg : Grew w W) => (crossings_pe HA.out (HP.out.grew hg) (HQ.out.grew hg) rfl rfl : Calls Try.prog 24 #[.slice p A.length c, .slice q B.length d] W fun e w' => e = .returned (.int .i64 z) ∧ Grew W w'))
  have HY := Lib.hid (fun (W : World) (hg : Grew w W) => (crossings_pe HB.out (HQ.out.grew hg) (HP.out.grew hg) rfl rfl : Calls Try.prog 24 #[.slice q B.length d, .slice p A.length c] W fun e w' => e = .returned (.int .i64 z) ∧ Grew W w'))
  have HZ := Lib.hid (fun (W : World) (hg : Grew w W) => (same_pe HE.out (HP.out.grew hg) (HQ.out.grew hg) rfl rfl : Calls Try.prog 25 #[.slice p A.length c, .slice q B.length d] W fun e w' => e = .returned (.bool b) ∧ Grew W w'))
  have HW := Lib.hid (fun (W : World) (hg : Grew w W) => (same_pe (decide_eq_true (rfl : A = A)) (HP.out.grew hg) (HP.out.grew hg) rfl rfl : Calls Try.prog 25 #[.slice p A.length c, .slice p A.length c] W fun e w' => e = .returned (.bool true) ∧ Grew W w'))
  clear hz hcom hb
  go_enter Try.func7, Try.ntmps7
  go_wp2_with (first
    | (go_at_call 23; apply Calls.mono; (with_reducible exact crossings_re HA.out HP.out HQ.out rfl rfl); rintro e w' ⟨rfl, x, rfl⟩)
    | (go_at_call 24; apply Calls.mono; (with_reducible exact HX.out _ (by (repeat (first | exact Grew.refl _ | refine Grew.over ?_ _ | refine Grew.alloc ?_ _ | refine Grew.drew ?_ | refine Grew.drewN ?_ _)))); rintro e w' ⟨rfl, x, rfl⟩)
    | (go_at_call 24; apply Calls.mono; (with_reducible exact HY.out _ (by (repeat (first | exact Grew.refl _ | refine Grew.over ?_ _ | refine Grew.alloc ?_ _ | refine Grew.drew ?_ | refine Grew.drewN ?_ _)))); rintro e w' ⟨rfl, x, rfl⟩)
    | (go_at_call 25; apply Calls.mono; (with_reducible exact HZ.out _ (by (repeat (first | exact Grew.refl _ | refine Grew.over ?_ _ | refine Grew.alloc ?_ _ | refine Grew.drew ?_ | refine Grew.drewN ?_ _)))); rintro e w' ⟨rfl, x, rfl⟩)
    | (go_at_call 25; apply Calls.mono; (with_reducible exact HW.out _ (by (repeat (first | exact Grew.refl _ | refine Grew.over ?_ _ | refine Grew.alloc ?_ _ | refine Grew.drew ?_ | refine Grew.drewN ?_ _)))); rintro e w' ⟨rfl, x, rfl⟩)
    | (go_at_call 19; apply Calls.mono; (with_reducible exact same_re HE.out (HP.out.grew (by (repeat (first | exact Grew.refl _ | refine Grew.over ?_ _ | refine Grew.alloc ?_ _ | refine Grew.drew ?_ | refine Grew.drewN ?_ _)))) (HQ.out.grew (by (repeat (first | exact Grew.refl _ | refine Grew.over ?_ _ | refine Grew.alloc ?_ _ | refine Grew.drew ?_ | refine Grew.drewN ?_ _)))) rfl rfl); rintro e w' ⟨rfl, x, rfl⟩)
    | (go_at_call 8; apply Calls.mono; (with_reducible exact awake_l _); rintro e w' ⟨rfl, x, rfl⟩))
  go_ret
  exact ⟨rfl, by (repeat (first | exact Grew.refl _ | refine Grew.over ?_ _ | refine Grew.alloc ?_ _ | refine Grew.drew ?_ | refine Grew.drewN ?_ _))⟩

theorem PolyMeasures_row : Rows.PolyMeasuresSaid :=
  OpenClaim.holds_of_wide 3 Try.f3 rfl rfl rfl rfl rfl rfl rfl ⟨rfl, rfl, rfl, rfl, rfl⟩ rfl rfl rfl rfl rfl (by kernel_rfl) Try.func3 (by kernel_rfl)
    (of_decide_eq_true (by kernel_rfl)) (by unfold Func.isWrapper; first | (rw [if_pos (by decide +kernel)]; kernel_rfl) | (rw [if_neg (by decide +kernel)]; exact ⟨rfl, rfl⟩))
    (fun os started H enc _ => by
      refine law_lifted (C := Try.checked) (s := Rows.polyMeasuresSpec) Try.own started (by kernel_rfl) Try.func3
        (ChangeSpec.witness6 (enc := enc) (C := Try.checked) false ⟨#[], #[.slice none 0 0], []⟩ 8 (by kernel_rfl) (by kernel_rfl) (by kernel_rfl) (by kernel_rfl))
        Try.laidOut rfl Try.underlying4 (by kernel_rfl) rfl ?_ ?_
      · intro ds hds
        match ds, hds with
        | [_], _ => exact ⟨rfl, rfl, rfl⟩
      · intro W base args ds ps hval hA
        have hA' := hA
        rw [Try.params3] at hA'
        obtain ⟨v0, rfl, ⟨n0, y0, h0⟩⟩ := trodAll_split1 hA'
        obtain ⟨p, cp, E, rfl, hE⟩ := arg_pts (hval 0 _ _ rfl rfl) h0
        exact measures_l _ _ _ _ _ hE rfl)

theorem PolySimplifies_row : Rows.PolySimplifiesSaid :=
  OpenClaim.holds_of_wide 4 Try.f4 rfl rfl rfl rfl rfl rfl rfl ⟨rfl, rfl, rfl, rfl, rfl⟩ rfl rfl rfl rfl rfl (by kernel_rfl) Try.func4 (by kernel_rfl)
    (of_decide_eq_true (by kernel_rfl)) (by unfold Func.isWrapper; first | (rw [if_pos (by decide +kernel)]; kernel_rfl) | (rw [if_neg (by decide +kernel)]; exact ⟨rfl, rfl⟩))
    (fun os started H enc _ => by
      refine law_lifted (C := Try.checked) (s := Rows.polySimplifiesSpec) Try.own started (by kernel_rfl) Try.func4
        (ChangeSpec.witness6 (enc := enc) (C := Try.checked) false ⟨#[], #[.slice none 0 0], []⟩ 8 (by kernel_rfl) (by kernel_rfl) (by kernel_rfl) (by kernel_rfl))
        Try.laidOut rfl Try.underlying4 (by kernel_rfl) rfl ?_ ?_
      · intro ds hds
        match ds, hds with
        | [_], _ => exact ⟨rfl, rfl, rfl⟩
      · intro W base args ds ps hval hA
        have hA' := hA
        rw [Try.params4] at hA'
        obtain ⟨v0, rfl, ⟨n0, y0, h0⟩⟩ := trodAll_split1 hA'
        obtain ⟨p, cp, E, rfl, hE⟩ := arg_pts (hval 0 _ _ rfl rfl) h0
        exact simplifies_l _ _ _ _ _ hE rfl)

theorem PolyCrosses_row : Rows.PolyCrossesSaid :=
  OpenClaim.holds_of_wide 7 Try.f7 rfl rfl rfl rfl rfl rfl rfl ⟨rfl, rfl, rfl, rfl, rfl⟩ rfl rfl rfl rfl rfl (by kernel_rfl) Try.func7 (by kernel_rfl)
    (of_decide_eq_true (by kernel_rfl)) (by unfold Func.isWrapper; first | (rw [if_pos (by decide +kernel)]; kernel_rfl) | (rw [if_neg (by decide +kernel)]; exact ⟨rfl, rfl⟩))
    (fun os started H enc _ => by
      refine law_lifted (C := Try.checked) (s := Rows.polyCrossesSpec) Try.own started (by kernel_rfl) Try.func7
        (ChangeSpec.witness6 (enc := enc) (C := Try.checked) false ⟨#[], #[.slice none 0 0, .slice none 0 0], []⟩ 8 (by kernel_rfl) (by kernel_rfl) (by kernel_rfl) (by kernel_rfl))
        Try.laidOut rfl Try.underlying4 (by kernel_rfl) rfl ?_ ?_
      · intro ds hds
        match ds, hds with
        | [_, _], _ => exact ⟨rfl, rfl, rfl⟩
      · intro W base args ds ps hval hA
        have hA' := hA
        rw [Try.params7] at hA'
        obtain ⟨v0, v1, rfl, ⟨n0, y0, h0⟩, ⟨n1, y1, h1⟩⟩ := trodAll_split2 hA'
        obtain ⟨p, cp, E, rfl, hE⟩ := arg_pts (hval 0 _ _ rfl rfl) h0
        obtain ⟨q, cq, F, rfl, hF⟩ := arg_pts (hval 1 _ _ rfl rfl) h1
        exact crosses_l _ _ _ _ _ _ _ _ _ hE hF rfl rfl)

end Go.Proofs.Ytmljfjcebfonaaa
