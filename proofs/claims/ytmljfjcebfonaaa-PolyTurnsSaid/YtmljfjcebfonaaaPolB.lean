/- Valid of the program and of the reference. -/
import Derived.Test.YtmljfjcebfonaaaPolA
set_option linter.unusedSimpArgs false
set_option linter.unusedVariables false
namespace Go.Proofs.Ytmljfjcebfonaaa
open Go.RowKit
attribute [local go_sem ↓] Go.wp_at_zero Go.wp_at_succ

theorem i64_le {a b : Nat} (h : a ≤ b) (hb : b ≤ 9223372036854775807) : (a : Int) ≤ 9223372036854775807 := by omega

set_option maxHeartbeats 2000000 in
theorem distinct_p (p : Option Addr) (n c : Nat) (E : List (Int × Int)) (w : World) (hP : Prs w p E) (hn : E.length = n) :
    Calls Try.prog 26 #[.slice p n c] w fun e w' => e = .returned (.bool (dstB E)) ∧ Grew w w' := by
  subst hn
  have hmx := hP.1
  have HP := Lib.hid hP
  clear hP
  go_enter Try.func26, Try.ntmps26
  go_wp2
  go_loopw [3] (fun i wr => ∃ k : Nat, 1 ≤ k ∧ (k ≤ E.length ∨ k = 1) ∧ i = .int .i64 k ∧ (∀ j, j + 1 < k → pr E j ≠ pr E (j + 1)) ∧ Grew w wr) (fun i _ => E.length - (intOf i).toNat)
  case atStart => exact ⟨1, by omega, Or.inr rfl, rfl, fun j hj => by omega, Grew.refl _⟩
  case round =>
    obtain ⟨k, hk1, hk2, rfl, hall, hg⟩ := hrel
    have Hall := Lib.hid hall
    have Hg := Lib.hid hg
    clear hall hg
    by_cases hlt : k < E.length
    · obtain ⟨j, rfl⟩ : ∃ j, k = j + 1 := ⟨k - 1, by omega⟩
      obtain ⟨b, o, rfl, hb, hc⟩ := HP.out.cells (by omega)
      obtain ⟨c1, c2⟩ := hc wr Hg.out j (by omega)
      obtain ⟨d1, d2⟩ := hc wr Hg.out (j + 1) hlt
      obtain ⟨k, hkj⟩ : ∃ k, j + 1 = k := ⟨_, rfl⟩
      have hsub : (k : Int) - 1 = (j : Int) := by omega
      have hsz := Hg.out.below.size
      rw [hkj] at d1 d2 hlt ⊢
      have Hkj := Lib.hid hkj
      clear hc hkj hk1 hk2
      go_upto_region 4 with fail
      refine wp_region_over (by kernel_rfl) (by kernel_rfl) ?_; (repeat (go_big_quiet_step (fail))); refine wpQuiet_nil ?_; rintro _ ⟨x, rfl⟩
      by_cases he : pr E j = pr E k
      · have he' := eqb_yes he
        have Hf : Hid (dstB E = false) := Lib.hid (dstB_no (i := j) (by rw [Hkj.out]; exact hlt) (by rw [Hkj.out]; exact he))
        rw [he']
        clear he
        go_wp2
        go_ret
        exact ⟨by rw [Hf.out]; rfl, Hg.out.trans (by (repeat (first | exact Grew.refl _ | refine Grew.over ?_ _ | refine Grew.alloc ?_ _ | refine Grew.drew ?_ | refine Grew.drewN ?_ _)))⟩
      · have he' := eqb_no he
        have He := Lib.hid he
        rw [he']
        clear he
        go_wp2
        go_roundw
        case rel => exact ⟨k + 1, by omega, Or.inl (by omega), by go_num, (fun i hi => by
          by_cases e : i = j
          · subst e; rw [Hkj.out]; exact He.out
          · exact Hall.out i (by rw [Hkj.out]; omega)), Hg.out.trans (by (repeat (first | exact Grew.refl _ | refine Grew.over ?_ _ | refine Grew.alloc ?_ _ | refine Grew.drew ?_ | refine Grew.drewN ?_ _)))⟩
        case measure => simp [intOf]; omega
    · have Hf : Hid (dstB E = true) := Lib.hid (dstB_iff.2 fun i hi => Hall.out i (by omega))
      clear hk1 hk2
      go_wp2
      go_ret
      exact ⟨by rw [Hf.out]; rfl, Hg.out⟩

set_option maxHeartbeats 1000000 in
theorem point1_p (x y : Int) (w : World) : Calls Try.prog 40 #[pt x y] w fun e w' => e = .returned (.bool (!vld x y)) ∧ Grew w w' := by
  go_enter Try.func40, Try.ntmps40
  go_wp2_with (go_at_call 41; apply Calls.mono; (with_reducible exact valid_p _ _ _); rintro e w' ⟨rfl, x, rfl⟩)
  go_ret
  exact ⟨rfl, by (repeat (first | exact Grew.refl _ | refine Grew.over ?_ _ | refine Grew.alloc ?_ _ | refine Grew.drew ?_ | refine Grew.drewN ?_ _))⟩
theorem point1_e {x y : Int} {b : Bool} (h : vld x y = b) (w : World) : Calls Try.prog 40 #[pt x y] w fun e w' => e = .returned (.bool (!b)) ∧ Grew w w' := h ▸ point1_p x y w

/-- All points are valid. -/
def allB (E : List (Int × Int)) : Bool := E.all ok1
theorem allB_iff {E : List (Int × Int)} : allB E = true ↔ ∀ i, i < E.length → vld (pr E i).1 (pr E i).2 = true := by
  unfold allB
  rw [List.all_eq_true]
  refine ⟨fun h i hi => h _ (pr_mem hi), fun h p hp => ?_⟩
  obtain ⟨i, hi, rfl⟩ := List.getElem_of_mem hp
  rw [← pr_eq E hi]
  exact h i hi
theorem allB_no {E : List (Int × Int)} {i : Nat} (hi : i < E.length) (h : vld (pr E i).1 (pr E i).2 = false) : allB E = false := Bool.eq_false_iff.2 fun e => by
  rw [allB_iff.1 e i hi] at h
  cases h

set_option maxHeartbeats 2000000 in
theorem index_p (p : Option Addr) (n c : Nat) (E : List (Int × Int)) (w : World) (hP : Prs w p E) (hn : E.length = n) :
    Calls Try.prog 49 #[.slice p n c, .func (.func 40) #[] #[]] w fun e w' => (∃ x : Int, e = .returned (.int .i64 x) ∧ allB E = decide (x < 0)) ∧ Grew w w' := by
  subst hn
  have hmx := hP.1
  have HP := Lib.hid hP
  clear hP
  go_enter Try.func49, Try.ntmps49
  go_wp2
  go_loopw [8] (fun i wr => ∃ k : Nat, k ≤ E.length ∧ i = .int .i64 k ∧ (∀ j, j < k → vld (pr E j).1 (pr E j).2 = true) ∧ Grew w wr) (fun i _ => E.length - (intOf i).toNat)
  case atStart => exact ⟨0, by omega, rfl, fun j hj => by omega, Grew.refl _⟩
  case round =>
    obtain ⟨k, hk, rfl, hall, hg⟩ := hrel
    have Hall := Lib.hid hall
    have Hg := Lib.hid hg
    clear hall hg
    by_cases hlt : k < E.length
    · obtain ⟨b, o, rfl, hb, hc⟩ := HP.out.cells (by omega)
      obtain ⟨c1, c2⟩ := hc wr Hg.out k hlt
      have hsz := Hg.out.below.size
      clear hc
      cases hv : vld (pr E k).1 (pr E k).2
      · have Hf : Hid (allB E = false) := Lib.hid (allB_no hlt hv)
        have Hv := Lib.hid hv
        clear hv
        go_wp2_with (go_at_call 40; apply Calls.mono; (with_reducible exact point1_e Hv.out _); rintro e w' ⟨rfl, x, rfl⟩)
        go_ret
        exact ⟨⟨k, rfl, by rw [Hf.out]; exact (decide_eq_false (by omega)).symm⟩, Hg.out.trans (by (repeat (first | exact Grew.refl _ | refine Grew.over ?_ _ | refine Grew.alloc ?_ _ | refine Grew.drew ?_ | refine Grew.drewN ?_ _)))⟩
      · have Hv := Lib.hid hv
        clear hv
        go_wp2_with (go_at_call 40; apply Calls.mono; (with_reducible exact point1_e Hv.out _); rintro e w' ⟨rfl, x, rfl⟩)
        go_roundw
        case rel => exact ⟨k + 1, by omega, by go_num, (fun i hi => by
          by_cases e : i = k
          · subst e; exact Hv.out
          · exact Hall.out i (by omega)), Hg.out.trans (by (repeat (first | exact Grew.refl _ | refine Grew.over ?_ _ | refine Grew.alloc ?_ _ | refine Grew.drew ?_ | refine Grew.drewN ?_ _)))⟩
        case measure => simp [intOf]; omega
    · have Hf : Hid (allB E = true) := Lib.hid (allB_iff.2 fun i hi => Hall.out i (by omega))
      go_wp2
      go_ret
      exact ⟨⟨-1, rfl, by rw [Hf.out]; rfl⟩, Hg.out⟩

set_option maxHeartbeats 2000000 in
theorem contains_p (p : Option Addr) (n c : Nat) (E : List (Int × Int)) (w : World) (hP : Prs w p E) (hn : E.length = n) :
    Calls Try.prog 39 #[.slice p n c, .func (.func 40) #[] #[]] w fun e w' => e = .returned (.bool (!allB E)) ∧ Grew w w' := by
  subst hn
  have HP := Lib.hid hP
  clear hP
  go_enter Try.func39, Try.ntmps39
  go_wp2_with (go_at_call 49; apply Calls.mono; (with_reducible exact index_p _ _ _ _ _ HP.out rfl); rintro e w' ⟨⟨y, rfl, hy⟩, x, rfl⟩; have Hy := Lib.hid hy; clear hy)
  go_ret
  refine ⟨?_, by (repeat (first | exact Grew.refl _ | refine Grew.over ?_ _ | refine Grew.alloc ?_ _ | refine Grew.drew ?_ | refine Grew.drewN ?_ _))⟩
  rw [Hy.out]
  by_cases h : y < 0
  · simp [h]
  · simp [h]; omega

theorem ptsB_all {E : List (Int × Int)} : ptsB E = (decide (1 ≤ E.length ∧ E.length ≤ 512) && allB E) := rfl
set_option maxHeartbeats 2000000 in
theorem points_p (p : Option Addr) (n c : Nat) (E : List (Int × Int)) (w : World) (hP : Prs w p E) (hn : E.length = n) :
    Calls Try.prog 27 #[.slice p n c] w fun e w' => e = .returned (.bool (ptsB E)) ∧ Grew w w' := by
  subst hn
  have hmx := hP.1
  have HP := Lib.hid hP
  clear hP
  by_cases h1 : 1 ≤ E.length ∧ E.length ≤ 512
  · have Hf : Hid (ptsB E = allB E) := Lib.hid (by rw [ptsB_all, decide_eq_true h1, Bool.true_and])
    obtain ⟨h1, h2⟩ := h1
    go_enter Try.func27, Try.ntmps27
    go_wp2_with (go_at_call 39; apply Calls.mono; (with_reducible exact contains_p _ _ _ _ _ HP.out rfl); rintro e w' ⟨rfl, x, rfl⟩)
    go_ret
    exact ⟨by rw [Hf.out]; simp, by (repeat (first | exact Grew.refl _ | refine Grew.over ?_ _ | refine Grew.alloc ?_ _ | refine Grew.drew ?_ | refine Grew.drewN ?_ _))⟩
  · have Hf : Hid (ptsB E = false) := Lib.hid (by rw [ptsB_all, decide_eq_false h1, Bool.false_and])
    by_cases h2 : 1 ≤ E.length
    · have h3 : ¬ E.length ≤ 512 := fun h => h1 ⟨h2, h⟩
      clear h1
      go_enter Try.func27, Try.ntmps27
      go_wp2
      go_ret
      exact ⟨by rw [Hf.out]; rfl, Grew.refl _⟩
    · clear h1
      go_enter Try.func27, Try.ntmps27
      go_wp2
      go_ret
      exact ⟨by rw [Hf.out]; rfl, Grew.refl _⟩

set_option maxHeartbeats 2000000 in
theorem valid_l (p : Option Addr) (n c : Nat) (E : List (Int × Int)) (w : World) (hP : Prs w p E) (hn : E.length = n) :
    Calls Try.prog 9 #[.slice p n c] w fun e w' => e = .returned (.bool (vPB E)) ∧ Grew w w' := by
  subst hn
  have HP := Lib.hid hP
  clear hP
  cases hd : dstB E
  · have Hd : Hid (vPB E = false) := Lib.hid (by unfold vPB; rw [hd]; rfl)
    have Hc := Lib.hid (fun W hg => hd ▸ distinct_p p E.length c E W (HP.out.grew hg) rfl)
    clear hd
    go_enter Try.func9, Try.ntmps9
    go_wp2_with (go_at_call 26; apply Calls.mono; (with_reducible exact Hc.out _ (by (repeat (first | exact Grew.refl _ | refine Grew.over ?_ _ | refine Grew.alloc ?_ _ | refine Grew.drew ?_ | refine Grew.drewN ?_ _)))); rintro e w' ⟨rfl, x, rfl⟩)
    go_ret
    exact ⟨by rw [Hd.out]; rfl, by (repeat (first | exact Grew.refl _ | refine Grew.over ?_ _ | refine Grew.alloc ?_ _ | refine Grew.drew ?_ | refine Grew.drewN ?_ _))⟩
  · have Hd : Hid (vPB E = ptsB E) := Lib.hid (by unfold vPB; rw [hd]; rfl)
    have Hc := Lib.hid (fun W hg => hd ▸ distinct_p p E.length c E W (HP.out.grew hg) rfl)
    clear hd
    go_enter Try.func9, Try.ntmps9
    go_wp2_with (first
      | (go_at_call 26; apply Calls.mono; (with_reducible exact Hc.out _ (by (repeat (first | exact Grew.refl _ | refine Grew.over ?_ _ | refine Grew.alloc ?_ _ | refine Grew.drew ?_ | refine Grew.drewN ?_ _)))); rintro e w' ⟨rfl, x, rfl⟩)
      | (go_at_call 27; apply Calls.mono; (with_reducible exact points_p _ _ _ _ _ (HP.out.grew (by (repeat (first | exact Grew.refl _ | refine Grew.over ?_ _ | refine Grew.alloc ?_ _ | refine Grew.drew ?_ | refine Grew.drewN ?_ _)))) rfl); rintro e w' ⟨rfl, x, rfl⟩))
    go_ret
    exact ⟨by rw [Hd.out]; rfl, by (repeat (first | exact Grew.refl _ | refine Grew.over ?_ _ | refine Grew.alloc ?_ _ | refine Grew.drew ?_ | refine Grew.drewN ?_ _))⟩
theorem valid_pe {p : Option Addr} {n c : Nat} {E : List (Int × Int)} {w : World} {b : Bool} (h : vPB E = b) (hP : Prs w p E) (hn : E.length = n) :
    Calls Try.prog 9 #[.slice p n c] w fun e w' => e = .returned (.bool b) ∧ Grew w w' := h ▸ valid_l p n c E w hP hn
end Go.Proofs.Ytmljfjcebfonaaa
