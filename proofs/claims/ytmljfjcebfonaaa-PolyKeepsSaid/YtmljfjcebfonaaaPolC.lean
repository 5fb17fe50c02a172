/- Valid of the reference. -/
import Derived.Test.YtmljfjcebfonaaaPolB
set_option linter.unusedSimpArgs false
set_option linter.unusedVariables false
namespace Go.Proofs.Ytmljfjcebfonaaa
open Go.RowKit
attribute [local go_sem ↓] Go.wp_at_zero Go.wp_at_succ

theorem point_e {x y : Int} {b : Bool} (h : vld x y = b) (w : World) : Calls Try.prog 28 #[pt x y] w fun e w' => e = .returned (.bool b) ∧ Grew w w' := h ▸ valid_r x y w

set_option maxHeartbeats 4000000 in
theorem valid_rl (p : Option Addr) (n c : Nat) (E : List (Int × Int)) (w : World) (hP : Prs w p E) (hn : E.length = n) :
    Calls Try.prog 10 #[.slice p n c] w fun e w' => e = .returned (.bool (vPB E)) ∧ Grew w w' := by
  subst hn
  have hmx := hP.1
  have HP := Lib.hid hP
  clear hP
  by_cases h1 : E.length < 1
  · have Hf : Hid (vPB E = false) := Lib.hid (vPB_no fun h => by have := h.l1; omega)
    go_enter Try.func10, Try.ntmps10
    go_wp2
    go_ret
    exact ⟨by rw [Hf.out]; rfl, Grew.refl _⟩
  by_cases h2 : 512 < E.length
  · have Hf : Hid (vPB E = false) := Lib.hid (vPB_no fun h => by have := h.l2; omega)
    go_enter Try.func10, Try.ntmps10
    go_wp2
    go_ret
    exact ⟨by rw [Hf.out]; rfl, Grew.refl _⟩
  go_enter Try.func10, Try.ntmps10
  go_wp2
  go_loopw [3] (fun i wr => ∃ k : Nat, k ≤ E.length ∧ i = .int .i64 k ∧ (∀ j, j < k → vld (pr E j).1 (pr E j).2 = true) ∧ (∀ j, j + 1 < k → pr E j ≠ pr E (j + 1)) ∧ Grew w wr) (fun i _ => E.length - (intOf i).toNat)
  case atStart => exact ⟨0, by omega, rfl, fun j hj => by omega, fun j hj => by omega, Grew.refl _⟩
  case round =>
    obtain ⟨k, hk, rfl, hok, hne, hg⟩ := hrel
    have Hok := Lib.hid hok
    have Hne := Lib.hid hne
    have Hg := Lib.hid hg
    clear hok hne hg
    by_cases hlt : k < E.length
    · obtain ⟨b, o, rfl, hb, hc⟩ := HP.out.cells (by omega)
      obtain ⟨d1, d2⟩ := hc wr Hg.out k hlt
      have hsz := Hg.out.below.size
      cases hv : vld (pr E k).1 (pr E k).2
      · have Hf : Hid (vPB E = false) := Lib.hid (vPB_no fun h => by rw [h.ok k hlt] at hv; cases hv)
        have Hv := Lib.hid hv
        clear hv hc
        go_upto_region 6 with fail
        refine wp_region_over (by kernel_rfl) (by kernel_rfl) ?_; (repeat (go_big_quiet_step ((go_at_call 28; apply over_call; with_reducible exact point_e Hv.out _)))); refine wpQuiet_nil ?_; rintro _ ⟨x, rfl⟩
        go_wp2
        go_ret
        exact ⟨by rw [Hf.out]; rfl, Hg.out.trans (by (repeat (first | exact Grew.refl _ | refine Grew.over ?_ _ | refine Grew.alloc ?_ _ | refine Grew.drew ?_ | refine Grew.drewN ?_ _)))⟩
      have Hv := Lib.hid hv
      have Hok2 : Hid (∀ j, j < k + 1 → vld (pr E j).1 (pr E j).2 = true) := Lib.hid (fun i hi => by
        by_cases e : i = k
        · subst e; exact hv
        · exact Hok.out i (by omega))
      clear hv
      rcases Nat.eq_zero_or_pos k with hz | hz
      · have hf0 : ¬ 0 < k := by omega
        have hf1 : ¬ (0 : Int) < (k : Int) := by omega
        have Hz := Lib.hid hz
        clear hz hc
        go_upto_region 6 with fail
        refine wp_region_over (by kernel_rfl) (by kernel_rfl) ?_; (repeat (go_big_quiet_step ((go_at_call 28; apply over_call; with_reducible exact point_e Hv.out _)))); refine wpQuiet_nil ?_; rintro _ ⟨x, rfl⟩
        go_wp2
        go_roundw
        case rel => exact ⟨k + 1, by omega, by go_num, Hok2.out, (fun i hi => by have := Hz.out; omega), Hg.out.trans (by (repeat (first | exact Grew.refl _ | refine Grew.over ?_ _ | refine Grew.alloc ?_ _ | refine Grew.drew ?_ | refine Grew.drewN ?_ _)))⟩
        case measure => simp [intOf]; omega
      · obtain ⟨j, hj⟩ : ∃ j, j + 1 = k := ⟨k - 1, by omega⟩
        obtain ⟨c1, c2⟩ := hc wr Hg.out j (by omega)
        have hf1 : (0 : Int) < (k : Int) := by omega
        have hsub : (k : Int) - 1 = (j : Int) := by omega
        have Hkj := Lib.hid hj
        clear hc hj
        by_cases he : pr E k = pr E j
        · have he' := eqb_yes he
          have Hf : Hid (vPB E = false) := Lib.hid (vPB_no fun h => h.ne j (by rw [Hkj.out]; exact hlt) (by rw [Hkj.out]; exact he.symm))
          clear he
          go_upto_region 6 with fail
          refine wp_region_over (by kernel_rfl) (by kernel_rfl) ?_; (repeat (go_big_quiet_step ((go_at_call 28; apply over_call; with_reducible exact point_e Hv.out _)))); refine wpQuiet_nil ?_; rintro _ ⟨x, rfl⟩
          go_wp2
          go_ret
          exact ⟨by rw [Hf.out]; rfl, Hg.out.trans (by (repeat (first | exact Grew.refl _ | refine Grew.over ?_ _ | refine Grew.alloc ?_ _ | refine Grew.drew ?_ | refine Grew.drewN ?_ _)))⟩
        · have he' := eqb_no he
          have He := Lib.hid he
          clear he
          go_upto_region 6 with fail
          refine wp_region_over (by kernel_rfl) (by kernel_rfl) ?_; (repeat (go_big_quiet_step ((go_at_call 28; apply over_call; with_reducible exact point_e Hv.out _)))); refine wpQuiet_nil ?_; rintro _ ⟨x, rfl⟩
          go_wp2
          go_roundw
          case rel => exact ⟨k + 1, by omega, by go_num, Hok2.out, (fun i hi => by
            by_cases e : i = j
            · subst e; rw [Hkj.out]; exact fun h => He.out h.symm
            · exact Hne.out i (by have := Hkj.out; omega)), Hg.out.trans (by (repeat (first | exact Grew.refl _ | refine Grew.over ?_ _ | refine Grew.alloc ?_ _ | refine Grew.drew ?_ | refine Grew.drewN ?_ _)))⟩
          case measure => simp [intOf]; omega
    · have Hf : Hid (vPB E = true) := Lib.hid (vPB_iff.2 ⟨by omega, by omega, fun i hi => Hok.out i (by omega), fun i hi => Hne.out i (by omega)⟩)
      go_wp2
      go_ret
      exact ⟨by rw [Hf.out]; rfl, Hg.out⟩
theorem valid_re {p : Option Addr} {n c : Nat} {E : List (Int × Int)} {w : World} {b : Bool} (h : vPB E = b) (hP : Prs w p E) (hn : E.length = n) :
    Calls Try.prog 10 #[.slice p n c] w fun e w' => e = .returned (.bool b) ∧ Grew w w' := h ▸ valid_rl p n c E w hP hn
end Go.Proofs.Ytmljfjcebfonaaa
