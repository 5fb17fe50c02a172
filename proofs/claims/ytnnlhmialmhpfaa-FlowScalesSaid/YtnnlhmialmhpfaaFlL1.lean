/- The laws FlowChecks and FlowOptimal. -/
import Derived.Test.YtnnlhmialmhpfaaFlZ
set_option linter.unusedSimpArgs false
set_option linter.unusedVariables false
namespace Go.Proofs.Ytnnlhmialmhpfaa
open Go.RowKit
attribute [local go_sem ↓] Go.wp_at_zero Go.wp_at_succ

def smB (n m : Nat) (k l : Int) : Bool := decide ((n : Int) ≤ k ∧ (m : Int) ≤ l)
set_option maxHeartbeats 1000000 in
theorem small_p (p q : Option Addr) (n cp m cq : Nat) (k l : Int) (w : World) (hn : n ≤ 9223372036854775807) (hm : m ≤ 9223372036854775807) :
    Calls Try.prog 8 #[.agg #[.slice p n cp, .slice q m cq], .int .i64 k, .int .i64 l] w fun e w' => e = .returned (.bool (smB n m k l)) ∧ Grew w w' := by
  have hf : ∀ c, decide ((n : Int) ≤ k ∧ (m : Int) ≤ l) = c → smB n m k l = c := fun c h => h
  have Hf := Lib.hid hf
  clear hf
  by_cases h1 : (n : Int) ≤ k
  · by_cases h2 : (m : Int) ≤ l
    · have He := Lib.hid (Hf.out true (decide_eq_true ⟨h1, h2⟩))
      go_enter Try.func8, Try.ntmps8
      go_wp2
      go_ret
      exact ⟨ret_bool He.out.symm, by (repeat (first | exact Grew.refl _ | refine Grew.over ?_ _ | refine Grew.alloc ?_ _ | refine Grew.drew ?_ | refine Grew.drewN ?_ _))⟩
    · have He := Lib.hid (Hf.out false (decide_eq_false (fun h => h2 h.2)))
      go_enter Try.func8, Try.ntmps8
      go_wp2
      go_ret
      exact ⟨ret_bool He.out.symm, by (repeat (first | exact Grew.refl _ | refine Grew.over ?_ _ | refine Grew.alloc ?_ _ | refine Grew.drew ?_ | refine Grew.drewN ?_ _))⟩
  · have He := Lib.hid (Hf.out false (decide_eq_false (fun h => h1 h.1)))
    go_enter Try.func8, Try.ntmps8
    go_wp2
    go_ret
    exact ⟨ret_bool He.out.symm, by (repeat (first | exact Grew.refl _ | refine Grew.over ?_ _ | refine Grew.alloc ?_ _ | refine Grew.drew ?_ | refine Grew.drewN ?_ _))⟩
theorem small_e {p q : Option Addr} {n cp m cq : Nat} {k l : Int} {w : World} {b : Bool} (h : smB n m k l = b) (hn : n ≤ 9223372036854775807) (hm : m ≤ 9223372036854775807) :
    Calls Try.prog 8 #[.agg #[.slice p n cp, .slice q m cq], .int .i64 k, .int .i64 l] w fun e w' => e = .returned (.bool b) ∧ Grew w w' := h ▸ small_p p q n cp m cq k l w hn hm

set_option maxHeartbeats 8000000 in
theorem checks_l (p q r : Option Addr) (n cp m cq k cr : Nat) (s : List Int) (A : List Ark) (f : List Int) (w : World) (hS : Ints w p s) (hA : Arks w q A) (hF : Ints w r f) (hn : s.length = n) (hm : A.length = m) (hk : f.length = k) (hnil : p = none → n = 0 ∧ cp = 0) :
    Calls Try.prog 3 #[.agg #[.slice p n cp, .slice q m cq], .slice r k cr] w fun e w' => e = .returned (.bool true) ∧ Grew w w' := by
  subst hn hm hk
  have hsm := hS.1
  have ham := hA.1
  have hfm := hF.1
  have HS := Lib.hid hS
  have HA := Lib.hid hA
  have HF := Lib.hid hF
  have Hnil := Lib.hid hnil
  clear hS hA hF hnil
  cases hb : smB s.length A.length 300 2100
  · have Hb := Lib.hid hb
    clear hb
    go_enter Try.func3, Try.ntmps3
    go_wp2_with (first | (go_at_call 8; apply Calls.mono; (with_reducible exact small_e Hb.out hsm ham); rintro e w' ⟨rfl, x, rfl⟩) | (go_at_call 9; apply Calls.mono; (with_reducible exact awake_p _); rintro e w' ⟨rfl, x, rfl⟩))
    go_ret
    exact ⟨rfl, by (repeat (first | exact Grew.refl _ | refine Grew.over ?_ _ | refine Grew.alloc ?_ _ | refine Grew.drew ?_ | refine Grew.drewN ?_ _))⟩
  have Hb := Lib.hid hb
  clear hb
  by_cases h2 : 2100 < f.length
  · go_enter Try.func3, Try.ntmps3
    go_wp2_with (first | (go_at_call 8; apply Calls.mono; (with_reducible exact small_e Hb.out hsm ham); rintro e w' ⟨rfl, x, rfl⟩) | (go_at_call 9; apply Calls.mono; (with_reducible exact awake_p _); rintro e w' ⟨rfl, x, rfl⟩))
    go_ret
    exact ⟨rfl, by (repeat (first | exact Grew.refl _ | refine Grew.over ?_ _ | refine Grew.alloc ?_ _ | refine Grew.drew ?_ | refine Grew.drewN ?_ _))⟩
  obtain ⟨b1, e1⟩ : ∃ b, nB s A = b := ⟨_, rfl⟩
  obtain ⟨c1, e2⟩ : ∃ c, chkS s A f = c := ⟨_, rfl⟩
  obtain ⟨k1, e3⟩ : ∃ c, cosS s A f = c := ⟨_, rfl⟩
  have E1 := Lib.hid e1
  have E2 := Lib.hid e2
  have E3 := Lib.hid e3
  clear e1 e2 e3
  go_enter Try.func3, Try.ntmps3
  go_upto_region 3 with (go_at_call 8; apply Calls.mono; (with_reducible exact small_e Hb.out hsm ham); rintro e w1 ⟨rfl, hg1⟩; have x0 : w1.cell? ⟨w.heap.size, 0, none⟩ = some (.slice p s.length cp) := Grew.cellEq hg1 (by simp [go_sem]); have x1 : w1.cell? ⟨w.heap.size, 1, none⟩ = some (.slice q A.length cq) := Grew.cellEq hg1 (by simp [go_sem]); have Hg1 : Hid (Grew w w1) := Lib.hid (Grew.trans (by (repeat (first | exact Grew.refl _ | refine Grew.over ?_ _ | refine Grew.alloc ?_ _ | refine Grew.drew ?_ | refine Grew.drewN ?_ _))) hg1); clear hg1)
  have hbw := cell_lt x0
  have HS1 := Lib.hid (HS.out.grew Hg1.out)
  have HA1 := Lib.hid (HA.out.grew Hg1.out)
  have HF1 := Lib.hid (HF.out.grew Hg1.out)
  refine wp_region_over (by kernel_rfl) (by kernel_rfl) ?_; (repeat (go_big_quiet_step (first
      | (go_at_call 10; apply over_call; with_reducible exact validp_e E1.out (HS1.out.grew (by (repeat (first | exact Grew.refl _ | refine Grew.over ?_ _ | refine Grew.alloc ?_ _ | refine Grew.drew ?_ | refine Grew.drewN ?_ _)))) (HA1.out.grew (by (repeat (first | exact Grew.refl _ | refine Grew.over ?_ _ | refine Grew.alloc ?_ _ | refine Grew.drew ?_ | refine Grew.drewN ?_ _)))) rfl rfl)
      | (go_at_call 11; apply over_call; with_reducible exact validr_e E1.out (HS1.out.grew (by (repeat (first | exact Grew.refl _ | refine Grew.over ?_ _ | refine Grew.alloc ?_ _ | refine Grew.drew ?_ | refine Grew.drewN ?_ _)))) (HA1.out.grew (by (repeat (first | exact Grew.refl _ | refine Grew.over ?_ _ | refine Grew.alloc ?_ _ | refine Grew.drew ?_ | refine Grew.drewN ?_ _)))) rfl rfl)
      | (go_at_call 12; apply over_call; with_reducible exact checkp_e E2.out (HS1.out.grew (by (repeat (first | exact Grew.refl _ | refine Grew.over ?_ _ | refine Grew.alloc ?_ _ | refine Grew.drew ?_ | refine Grew.drewN ?_ _)))) (HA1.out.grew (by (repeat (first | exact Grew.refl _ | refine Grew.over ?_ _ | refine Grew.alloc ?_ _ | refine Grew.drew ?_ | refine Grew.drewN ?_ _)))) (HF1.out.grew (by (repeat (first | exact Grew.refl _ | refine Grew.over ?_ _ | refine Grew.alloc ?_ _ | refine Grew.drew ?_ | refine Grew.drewN ?_ _)))) rfl rfl rfl Hnil.out)
      | (go_at_call 13; apply over_call; with_reducible exact checkr_e E2.out (HS1.out.grew (by (repeat (first | exact Grew.refl _ | refine Grew.over ?_ _ | refine Grew.alloc ?_ _ | refine Grew.drew ?_ | refine Grew.drewN ?_ _)))) (HA1.out.grew (by (repeat (first | exact Grew.refl _ | refine Grew.over ?_ _ | refine Grew.alloc ?_ _ | refine Grew.drew ?_ | refine Grew.drewN ?_ _)))) (HF1.out.grew (by (repeat (first | exact Grew.refl _ | refine Grew.over ?_ _ | refine Grew.alloc ?_ _ | refine Grew.drew ?_ | refine Grew.drewN ?_ _)))) rfl rfl rfl Hnil.out)
      | (go_at_call 14; apply over_call; with_reducible exact cost_e E3.out (HS1.out.grew (by (repeat (first | exact Grew.refl _ | refine Grew.over ?_ _ | refine Grew.alloc ?_ _ | refine Grew.drew ?_ | refine Grew.drewN ?_ _)))) (HA1.out.grew (by (repeat (first | exact Grew.refl _ | refine Grew.over ?_ _ | refine Grew.alloc ?_ _ | refine Grew.drew ?_ | refine Grew.drewN ?_ _)))) (HF1.out.grew (by (repeat (first | exact Grew.refl _ | refine Grew.over ?_ _ | refine Grew.alloc ?_ _ | refine Grew.drew ?_ | refine Grew.drewN ?_ _)))) rfl rfl rfl)
      | (go_at_call 15; apply over_call; with_reducible exact costr_e E3.out (HS1.out.grew (by (repeat (first | exact Grew.refl _ | refine Grew.over ?_ _ | refine Grew.alloc ?_ _ | refine Grew.drew ?_ | refine Grew.drewN ?_ _)))) (HA1.out.grew (by (repeat (first | exact Grew.refl _ | refine Grew.over ?_ _ | refine Grew.alloc ?_ _ | refine Grew.drew ?_ | refine Grew.drewN ?_ _)))) (HF1.out.grew (by (repeat (first | exact Grew.refl _ | refine Grew.over ?_ _ | refine Grew.alloc ?_ _ | refine Grew.drew ?_ | refine Grew.drewN ?_ _)))) rfl rfl rfl Hnil.out)
      | (go_at_call 9; apply over_call; with_reducible exact awake_p _)))); refine wpQuiet_nil ?_; intro w2 hW; replace hW : Grew _ w2 := hW
  have Hg2 : Hid (Grew w w2) := Lib.hid (Hg1.out.trans hW)
  clear hW
  go_wp2
  go_ret
  exact ⟨rfl, Hg2.out⟩

set_option maxHeartbeats 8000000 in
theorem optimal_l (p q r : Option Addr) (n cp m cq k cr : Nat) (s : List Int) (A : List Ark) (f : List Int) (w : World) (hS : Ints w p s) (hA : Arks w q A) (hF : Ints w r f) (hn : s.length = n) (hm : A.length = m) (hk : f.length = k) (hnil : p = none → n = 0 ∧ cp = 0) :
    Calls Try.prog 4 #[.agg #[.slice p n cp, .slice q m cq], .slice r k cr] w fun e w' => e = .returned (.bool true) ∧ Grew w w' := by
  subst hn hm hk
  have hsm := hS.1
  have ham := hA.1
  have hfm := hF.1
  have HS := Lib.hid hS
  have HA := Lib.hid hA
  have HF := Lib.hid hF
  have Hnil := Lib.hid hnil
  clear hS hA hF hnil
  cases hb : smB s.length A.length 12 40
  · have Hb := Lib.hid hb
    clear hb
    go_enter Try.func4, Try.ntmps4
    go_wp2_with (first | (go_at_call 8; apply Calls.mono; (with_reducible exact small_e Hb.out hsm ham); rintro e w' ⟨rfl, x, rfl⟩) | (go_at_call 9; apply Calls.mono; (with_reducible exact awake_p _); rintro e w' ⟨rfl, x, rfl⟩))
    go_ret
    exact ⟨rfl, by (repeat (first | exact Grew.refl _ | refine Grew.over ?_ _ | refine Grew.alloc ?_ _ | refine Grew.drew ?_ | refine Grew.drewN ?_ _))⟩
  have Hb := Lib.hid hb
  clear hb
  by_cases h2 : 50 < f.length
  · go_enter Try.func4, Try.ntmps4
    go_wp2_with (first | (go_at_call 8; apply Calls.mono; (with_reducible exact small_e Hb.out hsm ham); rintro e w' ⟨rfl, x, rfl⟩) | (go_at_call 9; apply Calls.mono; (with_reducible exact awake_p _); rintro e w' ⟨rfl, x, rfl⟩))
    go_ret
    exact ⟨rfl, by (repeat (first | exact Grew.refl _ | refine Grew.over ?_ _ | refine Grew.alloc ?_ _ | refine Grew.drew ?_ | refine Grew.drewN ?_ _))⟩
  obtain ⟨b1, e1⟩ : ∃ b, optB s A f = b := ⟨_, rfl⟩
  have E1 := Lib.hid e1
  clear e1
  go_enter Try.func4, Try.ntmps4
  go_upto_region 3 with (go_at_call 8; apply Calls.mono; (with_reducible exact small_e Hb.out hsm ham); rintro e w1 ⟨rfl, hg1⟩; have x0 : w1.cell? ⟨w.heap.size, 0, none⟩ = some (.slice p s.length cp) := Grew.cellEq hg1 (by simp [go_sem]); have x1 : w1.cell? ⟨w.heap.size, 1, none⟩ = some (.slice q A.length cq) := Grew.cellEq hg1 (by simp [go_sem]); have Hg1 : Hid (Grew w w1) := Lib.hid (Grew.trans (by (repeat (first | exact Grew.refl _ | refine Grew.over ?_ _ | refine Grew.alloc ?_ _ | refine Grew.drew ?_ | refine Grew.drewN ?_ _))) hg1); clear hg1)
  have hbw := cell_lt x0
  have HS1 := Lib.hid (HS.out.grew Hg1.out)
  have HA1 := Lib.hid (HA.out.grew Hg1.out)
  have HF1 := Lib.hid (HF.out.grew Hg1.out)
  refine wp_region_over (by kernel_rfl) (by kernel_rfl) ?_; (repeat (go_big_quiet_step (first
      | (go_at_call 16; apply over_call; with_reducible exact optimal_e E1.out (HS1.out.grew (by (repeat (first | exact Grew.refl _ | refine Grew.over ?_ _ | refine Grew.alloc ?_ _ | refine Grew.drew ?_ | refine Grew.drewN ?_ _)))) (HA1.out.grew (by (repeat (first | exact Grew.refl _ | refine Grew.over ?_ _ | refine Grew.alloc ?_ _ | refine Grew.drew ?_ | refine Grew.drewN ?_ _)))) (HF1.out.grew (by (repeat (first | exact Grew.refl _ | refine Grew.over ?_ _ | refine Grew.alloc ?_ _ | refine Grew.drew ?_ | refine Grew.drewN ?_ _)))) rfl rfl rfl Hnil.out)
      | (go_at_call 17; apply over_call; with_reducible exact optimalr_e E1.out (HS1.out.grew (by (repeat (first | exact Grew.refl _ | refine Grew.over ?_ _ | refine Grew.alloc ?_ _ | refine Grew.drew ?_ | refine Grew.drewN ?_ _)))) (HA1.out.grew (by (repeat (first | exact Grew.refl _ | refine Grew.over ?_ _ | refine Grew.alloc ?_ _ | refine Grew.drew ?_ | refine Grew.drewN ?_ _)))) (HF1.out.grew (by (repeat (first | exact Grew.refl _ | refine Grew.over ?_ _ | refine Grew.alloc ?_ _ | refine Grew.drew ?_ | refine Grew.drewN ?_ _)))) rfl rfl rfl Hnil.out)
      | (go_at_call 9; apply over_call; with_reducible exact awake_p _)))); refine wpQuiet_nil ?_; intro w2 hW; replace hW : Grew _ w2 := hW
  have Hg2 : Hid (Grew w w2) := Lib.hid (Hg1.out.trans hW)
  clear hW
  go_wp2
  go_ret
  exact ⟨rfl, Hg2.out⟩
end Go.Proofs.Ytnnlhmialmhpfaa
