/- The law FlowLeast. -/
import Derived.Test.YtnnlhmialmhpfaaFlL2
set_option linter.unusedSimpArgs false
set_option linter.unusedVariables false
namespace Go.Proofs.Ytnnlhmialmhpfaa
open Go.RowKit
attribute [local go_sem ↓] Go.wp_at_zero Go.wp_at_succ

theorem optB_least {s : List Int} {A : List Ark} {f g : List Int} (hV : vN s A) (hf : isFlow s A f) (hg : isFlow s A g) (hp : ∃ π, Pot A g π) : optB s A f = decide (costF A g = costF A f) := by
  obtain ⟨π, hp⟩ := hp
  rw [Bool.eq_iff_iff, optB_iff, decide_eq_true_iff]
  constructor
  · rintro ⟨_, π', hp'⟩
    have a1 := pot_least hV hp hg hf
    have a2 := pot_least hV hp' hf hg
    omega
  · intro e
    exact ⟨chk_iff.2 ⟨hV, hf⟩, π, pot_same hV hp hg hf e.symm⟩
set_option maxHeartbeats 16000000 in
theorem least_l (p q r : Option Addr) (n cp m cq k cr : Nat) (s : List Int) (A : List Ark) (f : List Int) (w : World) (hS : Ints w p s) (hA : Arks w q A) (hF : Ints w r f) (hn : s.length = n) (hm : A.length = m) (hk : f.length = k) (hnil : p = none → n = 0 ∧ cp = 0) :
    Calls Try.prog 6 #[.agg #[.slice p n cp, .slice q m cq], .slice r k cr] w fun e w' => e = .returned (.bool true) ∧ Grew w w' := by
  subst hn hm hk
  have hsm := hS.1
  have ham := hA.1
  have hfm := hF.1
  have HS := Lib.hid hS
  have HA := Lib.hid hA
  have HF := Lib.hid hF
  have Hnil := Lib.hid hnil
  clear hS hA hF hnil
  cases hb : smB s.length A.length 12 40
  · have Hb := Lib.hid hb
    clear hb
    go_enter Try.func6, Try.ntmps6
    go_wp2_with (first | (go_at_call 8; apply Calls.mono; (with_reducible exact small_e Hb.out hsm ham); rintro e w' ⟨rfl, x, rfl⟩) | (go_at_call 9; apply Calls.mono; (with_reducible exact awake_p _); rintro e w' ⟨rfl, x, rfl⟩))
    go_ret
    exact ⟨rfl, by (repeat (first | exact Grew.refl _ | refine Grew.over ?_ _ | refine Grew.alloc ?_ _ | refine Grew.drew ?_ | refine Grew.drewN ?_ _))⟩
  have Hb := Lib.hid hb
  clear hb
  by_cases h2 : 50 < f.length
  · go_enter Try.func6, Try.ntmps6
    go_wp2_with (first | (go_at_call 8; apply Calls.mono; (with_reducible exact small_e Hb.out hsm ham); rintro e w' ⟨rfl, x, rfl⟩) | (go_at_call 9; apply Calls.mono; (with_reducible exact awake_p _); rintro e w' ⟨rfl, x, rfl⟩))
    go_ret
    exact ⟨rfl, by (repeat (first | exact Grew.refl _ | refine Grew.over ?_ _ | refine Grew.alloc ?_ _ | refine Grew.drew ?_ | refine Grew.drewN ?_ _))⟩
  obtain ⟨z, hz⟩ : ∃ z, chkS s A f = z := ⟨_, rfl⟩
  have Hz := Lib.hid hz
  by_cases hz0 : z = 0
  case neg =>
    have hz1 : (z != 0) = true := by rw [bne_iff_ne]; exact hz0
    clear hz hz0
    go_enter Try.func6, Try.ntmps6
    go_wp2_with (first | (go_at_call 8; apply Calls.mono; (with_reducible exact small_e Hb.out hsm ham); rintro e w' ⟨rfl, x, rfl⟩) | (go_at_call 13; apply Calls.mono; (with_reducible exact checkr_e Hz.out (HS.out.grew (by (repeat (first | exact Grew.refl _ | refine Grew.over ?_ _ | refine Grew.alloc ?_ _ | refine Grew.drew ?_ | refine Grew.drewN ?_ _)))) (HA.out.grew (by (repeat (first | exact Grew.refl _ | refine Grew.over ?_ _ | refine Grew.alloc ?_ _ | refine Grew.drew ?_ | refine Grew.drewN ?_ _)))) (HF.out.grew (by (repeat (first | exact Grew.refl _ | refine Grew.over ?_ _ | refine Grew.alloc ?_ _ | refine Grew.drew ?_ | refine Grew.drewN ?_ _)))) rfl rfl rfl Hnil.out); rintro e w' ⟨rfl, x, rfl⟩) | (go_at_call 9; apply Calls.mono; (with_reducible exact awake_p _); rintro e w' ⟨rfl, x, rfl⟩))
    go_ret
    exact ⟨rfl, by (repeat (first | exact Grew.refl _ | refine Grew.over ?_ _ | refine Grew.alloc ?_ _ | refine Grew.drew ?_ | refine Grew.drewN ?_ _))⟩
  subst hz0
  have HV := Lib.hid (chk_iff.1 hz).1
  have Hf := Lib.hid (chk_iff.1 hz).2
  clear hz
  go_enter Try.func6, Try.ntmps6
  go_upto_region 3 with (first
    | (go_at_call 8; apply Calls.mono; (with_reducible exact small_e Hb.out hsm ham); rintro e w1 ⟨rfl, hg1⟩; have x0 : w1.cell? ⟨w.heap.size, 0, none⟩ = some (.slice p s.length cp) := Grew.cellEq hg1 (by simp [go_sem]); have x1 : w1.cell? ⟨w.heap.size, 1, none⟩ = some (.slice q A.length cq) := Grew.cellEq hg1 (by simp [go_sem]); have Hg1 : Hid (Grew w w1) := Lib.hid (Grew.trans (by (repeat (first | exact Grew.refl _ | refine Grew.over ?_ _ | refine Grew.alloc ?_ _ | refine Grew.drew ?_ | refine Grew.drewN ?_ _))) hg1); clear hg1)
    | (go_at_call 13; apply Calls.mono; (with_reducible exact checkr_e Hz.out (HS.out.grew Hg1.out) (HA.out.grew Hg1.out) (HF.out.grew Hg1.out) rfl rfl rfl Hnil.out); rintro e w2 ⟨rfl, hg2⟩; have Hg2 := Lib.hid (Hg1.out.trans hg2); replace x0 := hg2.cellEq x0; replace x1 := hg2.cellEq x1; have hbw := cell_lt x0; clear hg2))
  go_upto_region 4 with (go_at_call 18; apply Calls.mono; (with_reducible exact solve_ok HV.out Hf.out (HS.out.grew Hg2.out) (HA.out.grew Hg2.out) rfl rfl Hnil.out); rintro e w3 ⟨hg3, g, h, rfl, hf1, hp1, hO1⟩; have Hg3 := Lib.hid (Hg2.out.trans hg3); replace x0 := hg3.cellEq x0; replace x1 := hg3.cellEq x1; have Hh := Lib.hid hf1; have Hp := Lib.hid hp1; have HI := Lib.hid (own_intsG hO1 (k := 0) rfl hf1.1.l (by have := HV.out.m; omega) (fit_ints HV.out hf1.1)); replace hbw := cell_lt x0; clear hg3 hf1 hp1 hO1)
  have HS3 := Lib.hid (HS.out.grew Hg3.out)
  have HA3 := Lib.hid (HA.out.grew Hg3.out)
  have HF3 := Lib.hid (HF.out.grew Hg3.out)
  obtain ⟨a, ha⟩ : ∃ z, costF A h = z := ⟨_, rfl⟩
  obtain ⟨b, hb⟩ : ∃ z, costF A f = z := ⟨_, rfl⟩
  have Z1 : Hid (cosS s A h = a) := Lib.hid (by rw [cos_flow HV.out Hh.out, ha])
  have Z2 : Hid (cosS s A f = b) := Lib.hid (by rw [cos_flow HV.out Hf.out, hb])
  have K1 : Hid (chkS s A h = 0) := Lib.hid (chk_iff.2 ⟨HV.out, Hh.out⟩)
  have O1 := Lib.hid (opt_flow HV.out Hh.out Hp.out)
  have O2 : Hid (optB s A f = decide (a = b)) := Lib.hid (by rw [← ha, ← hb]; exact optB_least HV.out Hf.out Hh.out Hp.out)
  have hab : a ≤ b := by
    obtain ⟨π, hp⟩ := Hp.out
    have := pot_least HV.out hp Hh.out Hf.out
    omega
  have L1 : Hid (h.length = A.length) := Lib.hid Hh.out.1.l
  clear ha hb
  go_upto_region 6 with (go_at_call 12; apply Calls.mono; (with_reducible exact checkp_e K1.out HS3.out HA3.out HI.out rfl rfl L1.out Hnil.out); rintro e w4 ⟨rfl, hg4⟩; have Hg4 := Lib.hid hg4; replace x0 := hg4.cellEq x0; replace x1 := hg4.cellEq x1; replace hbw := cell_lt x0; clear hg4)
  have HS4 := Lib.hid (HS3.out.grew Hg4.out)
  have HA4 := Lib.hid (HA3.out.grew Hg4.out)
  have HF4 := Lib.hid (HF3.out.grew Hg4.out)
  have HI4 := Lib.hid (HI.out.grew Hg4.out)
  refine wp_region_over (by kernel_rfl) (by kernel_rfl) ?_; (repeat (go_big_quiet_step (first
      | (go_at_call 14; apply over_call; with_reducible exact cost_e Z1.out (HS4.out.grew (by (repeat (first | exact Grew.refl _ | refine Grew.over ?_ _ | refine Grew.alloc ?_ _ | refine Grew.drew ?_ | refine Grew.drewN ?_ _)))) (HA4.out.grew (by (repeat (first | exact Grew.refl _ | refine Grew.over ?_ _ | refine Grew.alloc ?_ _ | refine Grew.drew ?_ | refine Grew.drewN ?_ _)))) (HI4.out.grew (by (repeat (first | exact Grew.refl _ | refine Grew.over ?_ _ | refine Grew.alloc ?_ _ | refine Grew.drew ?_ | refine Grew.drewN ?_ _)))) rfl rfl L1.out)
      | (go_at_call 14; apply over_call; with_reducible exact cost_e Z2.out (HS4.out.grew (by (repeat (first | exact Grew.refl _ | refine Grew.over ?_ _ | refine Grew.alloc ?_ _ | refine Grew.drew ?_ | refine Grew.drewN ?_ _)))) (HA4.out.grew (by (repeat (first | exact Grew.refl _ | refine Grew.over ?_ _ | refine Grew.alloc ?_ _ | refine Grew.drew ?_ | refine Grew.drewN ?_ _)))) (HF4.out.grew (by (repeat (first | exact Grew.refl _ | refine Grew.over ?_ _ | refine Grew.alloc ?_ _ | refine Grew.drew ?_ | refine Grew.drewN ?_ _)))) rfl rfl rfl)))); refine wpQuiet_nil ?_; intro w5 hW; replace hW : Grew _ w5 := hW
  have Hg5 := Lib.hid (Hg4.out.trans hW)
  replace x0 := hW.cellEq x0
  replace x1 := hW.cellEq x1
  replace hbw := cell_lt x0
  have HS5 := Lib.hid (HS4.out.grew hW)
  have HA5 := Lib.hid (HA4.out.grew hW)
  have HF5 := Lib.hid (HF4.out.grew hW)
  have HI5 := Lib.hid (HI4.out.grew hW)
  have Hgw := Lib.hid (Hg3.out.trans Hg5.out)
  clear hW
  by_cases hab2 : a = b
  · subst hab2
    have O3 : Hid (optB s A f = true) := Lib.hid (by rw [O2.out]; simp)
    clear O2
    go_wp2_with (first
      | (go_at_call 16; apply Calls.mono; (with_reducible exact optimal_e O1.out (HS5.out.grew (by (repeat (first | exact Grew.refl _ | refine Grew.over ?_ _ | refine Grew.alloc ?_ _ | refine Grew.drew ?_ | refine Grew.drewN ?_ _)))) (HA5.out.grew (by (repeat (first | exact Grew.refl _ | refine Grew.over ?_ _ | refine Grew.alloc ?_ _ | refine Grew.drew ?_ | refine Grew.drewN ?_ _)))) (HI5.out.grew (by (repeat (first | exact Grew.refl _ | refine Grew.over ?_ _ | refine Grew.alloc ?_ _ | refine Grew.drew ?_ | refine Grew.drewN ?_ _)))) rfl rfl L1.out Hnil.out); rintro e w' ⟨rfl, x, rfl⟩)
      | (go_at_call 16; apply Calls.mono; (with_reducible exact optimal_e O3.out (HS5.out.grew (by (repeat (first | exact Grew.refl _ | refine Grew.over ?_ _ | refine Grew.alloc ?_ _ | refine Grew.drew ?_ | refine Grew.drewN ?_ _)))) (HA5.out.grew (by (repeat (first | exact Grew.refl _ | refine Grew.over ?_ _ | refine Grew.alloc ?_ _ | refine Grew.drew ?_ | refine Grew.drewN ?_ _)))) (HF5.out.grew (by (repeat (first | exact Grew.refl _ | refine Grew.over ?_ _ | refine Grew.alloc ?_ _ | refine Grew.drew ?_ | refine Grew.drewN ?_ _)))) rfl rfl rfl Hnil.out); rintro e w' ⟨rfl, x, rfl⟩)
      | (go_at_call 9; apply Calls.mono; (with_reducible exact awake_p _); rintro e w' ⟨rfl, x, rfl⟩))
    go_ret
    exact ⟨rfl, Hgw.out.trans (by (repeat (first | exact Grew.refl _ | refine Grew.over ?_ _ | refine Grew.alloc ?_ _ | refine Grew.drew ?_ | refine Grew.drewN ?_ _)))⟩
  · have O3 : Hid (optB s A f = false) := Lib.hid (by rw [O2.out]; exact decide_eq_false hab2)
    have hq : (a == b) = false := by rw [beq_eq_false_iff_ne]; exact hab2
    clear O2
    go_wp2_with (first
      | (go_at_call 16; apply Calls.mono; (with_reducible exact optimal_e O1.out (HS5.out.grew (by (repeat (first | exact Grew.refl _ | refine Grew.over ?_ _ | refine Grew.alloc ?_ _ | refine Grew.drew ?_ | refine Grew.drewN ?_ _)))) (HA5.out.grew (by (repeat (first | exact Grew.refl _ | refine Grew.over ?_ _ | refine Grew.alloc ?_ _ | refine Grew.drew ?_ | refine Grew.drewN ?_ _)))) (HI5.out.grew (by (repeat (first | exact Grew.refl _ | refine Grew.over ?_ _ | refine Grew.alloc ?_ _ | refine Grew.drew ?_ | refine Grew.drewN ?_ _)))) rfl rfl L1.out Hnil.out); rintro e w' ⟨rfl, x, rfl⟩)
      | (go_at_call 16; apply Calls.mono; (with_reducible exact optimal_e O3.out (HS5.out.grew (by (repeat (first | exact Grew.refl _ | refine Grew.over ?_ _ | refine Grew.alloc ?_ _ | refine Grew.drew ?_ | refine Grew.drewN ?_ _)))) (HA5.out.grew (by (repeat (first | exact Grew.refl _ | refine Grew.over ?_ _ | refine Grew.alloc ?_ _ | refine Grew.drew ?_ | refine Grew.drewN ?_ _)))) (HF5.out.grew (by (repeat (first | exact Grew.refl _ | refine Grew.over ?_ _ | refine Grew.alloc ?_ _ | refine Grew.drew ?_ | refine Grew.drewN ?_ _)))) rfl rfl rfl Hnil.out); rintro e w' ⟨rfl, x, rfl⟩)
      | (go_at_call 9; apply Calls.mono; (with_reducible exact awake_p _); rintro e w' ⟨rfl, x, rfl⟩))
    go_ret
    exact ⟨rfl, Hgw.out.trans (by (repeat (first | exact Grew.refl _ | refine Grew.over ?_ _ | refine Grew.alloc ?_ _ | refine Grew.drew ?_ | refine Grew.drewN ?_ _)))⟩
end Go.Proofs.Ytnnlhmialmhpfaa
