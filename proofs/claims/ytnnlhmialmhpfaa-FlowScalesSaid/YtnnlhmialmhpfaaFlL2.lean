/- The laws FlowSolves and FlowLeast. -/
import Derived.Test.YtnnlhmialmhpfaaFlL1
set_option linter.unusedSimpArgs false
set_option linter.unusedVariables false
namespace Go.Proofs.Ytnnlhmialmhpfaa
open Go.RowKit
attribute [local go_sem ↓] Go.wp_at_zero Go.wp_at_succ

theorem chk_iff {s : List Int} {A : List Ark} {f : List Int} : chkS s A f = 0 ↔ vN s A ∧ isFlow s A f := by
  constructor
  · intro h
    rcases chk_cases s A f with ⟨g, _⟩ | ⟨_, g⟩
    · obtain ⟨h1, h2⟩ := fitsS_zero g
      refine ⟨h1, h2, fun v hv => ?_⟩
      unfold chkS at h
      rw [if_pos g] at h
      split at h
      · rename_i h3; exact h3 v hv
      · cases h
    · omega
  · rintro ⟨h1, h2, h3⟩
    unfold chkS
    rw [if_pos (fitsS_ok (nB_iff.2 h1) h2), if_pos h3]
theorem cos_flow {s : List Int} {A : List Ark} {f : List Int} (hV : vN s A) (h : isFlow s A f) : cosS s A f = costF A f := if_pos (fitsS_ok (nB_iff.2 hV) h.1)
theorem opt_flow {s : List Int} {A : List Ark} {f : List Int} (hV : vN s A) (h : isFlow s A f) (hp : ∃ π, Pot A f π) : optB s A f = true := optB_iff.2 ⟨chk_iff.2 ⟨hV, h⟩, hp⟩

/-- Solve, as one outcome. -/
inductive Sv (s : List Int) (A : List Ark) : Prop where
  | bad (h : ¬ vN s A)
  | no (hV : vN s A) (h : Cut s A)
  | ok (hV : vN s A) (f : List Int) (h : isFlow s A f) (hp : ∃ π, Pot A f π)

set_option maxHeartbeats 8000000 in
theorem solves_l (p q : Option Addr) (n cp m cq : Nat) (s : List Int) (A : List Ark) (w : World) (hS : Ints w p s) (hA : Arks w q A) (hn : s.length = n) (hm : A.length = m) (hnil : p = none → n = 0 ∧ cp = 0) :
    Calls Try.prog 5 #[.agg #[.slice p n cp, .slice q m cq]] w fun e w' => e = .returned (.bool true) ∧ Grew w w' := by
  subst hn hm
  have hsm := hS.1
  have ham := hA.1
  have HS := Lib.hid hS
  have HA := Lib.hid hA
  have Hnil := Lib.hid hnil
  have Hsp := Lib.hid (fun (W : World) (hg : Grew w W) => solve_p p q s.length cp A.length cq s A W (hS.grew hg) (hA.grew hg) rfl rfl hnil)
  have Hsr := Lib.hid (fun (W : World) (hg : Grew w W) => solve_r p q s.length cp A.length cq s A W (hS.grew hg) (hA.grew hg) rfl rfl hnil)
  clear hS hA hnil
  cases hb : smB s.length A.length 10 24
  · have Hb := Lib.hid hb
    clear hb
    go_enter Try.func5, Try.ntmps5
    go_wp2_with (first | (go_at_call 8; apply Calls.mono; (with_reducible exact small_e Hb.out hsm ham); rintro e w' ⟨rfl, x, rfl⟩) | (go_at_call 9; apply Calls.mono; (with_reducible exact awake_p _); rintro e w' ⟨rfl, x, rfl⟩))
    go_ret
    exact ⟨rfl, by (repeat (first | exact Grew.refl _ | refine Grew.over ?_ _ | refine Grew.alloc ?_ _ | refine Grew.drew ?_ | refine Grew.drewN ?_ _))⟩
  have Hb := Lib.hid hb
  clear hb
  by_cases hV : vN s A
  case neg =>
    have HV := Lib.hid hV
    replace Hsp : Hid (∀ W, Grew w W → Calls Try.prog 18 #[.agg #[.slice p s.length cp, .slice q A.length cq]] W fun e w' => e = .returned (.tuple #[.slice none 0 0, .int .i64 1]) ∧ Grew W w') := Lib.hid (fun W hg => by
      apply Calls.mono; exact Hsp.out W hg
      rintro e w' ⟨hg, ⟨_, h⟩ | ⟨h, _⟩ | ⟨h, _⟩⟩
      · exact ⟨h, hg⟩
      · exact absurd h HV.out
      · exact absurd h HV.out)
    replace Hsr : Hid (∀ W, Grew w W → Calls Try.prog 19 #[.agg #[.slice p s.length cp, .slice q A.length cq]] W fun e w' => e = .returned (.tuple #[.slice none 0 0, .int .i64 1]) ∧ Grew W w') := Lib.hid (fun W hg => by
      apply Calls.mono; exact Hsr.out W hg
      rintro e w' ⟨hg, ⟨_, h⟩ | ⟨h, _⟩ | ⟨h, _⟩⟩
      · exact ⟨h, hg⟩
      · exact absurd h HV.out
      · exact absurd h HV.out)
    clear hV
    go_enter Try.func5, Try.ntmps5
    go_wp2_with (first | (go_at_call 8; apply Calls.mono; (with_reducible exact small_e Hb.out hsm ham); rintro e w' ⟨rfl, x, rfl⟩) | (go_at_call 18; apply Calls.mono; (with_reducible exact Hsp.out _ (by (repeat (first | exact Grew.refl _ | refine Grew.over ?_ _ | refine Grew.alloc ?_ _ | refine Grew.drew ?_ | refine Grew.drewN ?_ _)))); rintro e w' ⟨rfl, x, rfl⟩) | (go_at_call 19; apply Calls.mono; (with_reducible exact Hsr.out _ (by (repeat (first | exact Grew.refl _ | refine Grew.over ?_ _ | refine Grew.alloc ?_ _ | refine Grew.drew ?_ | refine Grew.drewN ?_ _)))); rintro e w' ⟨rfl, x, rfl⟩) | (go_at_call 9; apply Calls.mono; (with_reducible exact awake_p _); rintro e w' ⟨rfl, x, rfl⟩))
    go_ret
    exact ⟨rfl, by (repeat (first | exact Grew.refl _ | refine Grew.over ?_ _ | refine Grew.alloc ?_ _ | refine Grew.drew ?_ | refine Grew.drewN ?_ _))⟩
  have HV := Lib.hid hV
  clear hV
  by_cases hC : Cut s A
  · have Hno := Lib.hid (hC.no HV.out)
    clear hC
    replace Hsp : Hid (∀ W, Grew w W → Calls Try.prog 18 #[.agg #[.slice p s.length cp, .slice q A.length cq]] W fun e w' => e = .returned (.tuple #[.slice none 0 0, .int .i64 15]) ∧ Grew W w') := Lib.hid (fun W hg => by
      apply Calls.mono; exact Hsp.out W hg
      rintro e w' ⟨hg, ⟨h, _⟩ | ⟨_, _, h⟩ | ⟨_, _, f, h, _⟩⟩
      · exact absurd HV.out h
      · exact ⟨h, hg⟩
      · exact absurd h (Hno.out f))
    replace Hsr : Hid (∀ W, Grew w W → Calls Try.prog 19 #[.agg #[.slice p s.length cp, .slice q A.length cq]] W fun e w' => e = .returned (.tuple #[.slice none 0 0, .int .i64 15]) ∧ Grew W w') := Lib.hid (fun W hg => by
      apply Calls.mono; exact Hsr.out W hg
      rintro e w' ⟨hg, ⟨h, _⟩ | ⟨_, _, h⟩ | ⟨_, _, _, f, h, _⟩⟩
      · exact absurd HV.out h
      · exact ⟨h, hg⟩
      · exact absurd h (Hno.out f))
    go_enter Try.func5, Try.ntmps5
    go_wp2_with (first | (go_at_call 8; apply Calls.mono; (with_reducible exact small_e Hb.out hsm ham); rintro e w' ⟨rfl, x, rfl⟩) | (go_at_call 18; apply Calls.mono; (with_reducible exact Hsp.out _ (by (repeat (first | exact Grew.refl _ | refine Grew.over ?_ _ | refine Grew.alloc ?_ _ | refine Grew.drew ?_ | refine Grew.drewN ?_ _)))); rintro e w' ⟨rfl, x, rfl⟩) | (go_at_call 19; apply Calls.mono; (with_reducible exact Hsr.out _ (by (repeat (first | exact Grew.refl _ | refine Grew.over ?_ _ | refine Grew.alloc ?_ _ | refine Grew.drew ?_ | refine Grew.drewN ?_ _)))); rintro e w' ⟨rfl, x, rfl⟩) | (go_at_call 9; apply Calls.mono; (with_reducible exact awake_p _); rintro e w' ⟨rfl, x, rfl⟩))
    go_ret
    exact ⟨rfl, by (repeat (first | exact Grew.refl _ | refine Grew.over ?_ _ | refine Grew.alloc ?_ _ | refine Grew.drew ?_ | refine Grew.drewN ?_ _))⟩
  have HC := Lib.hid hC
  clear hC
  replace Hsp : Hid (∀ W, Grew w W → Calls Try.prog 18 #[.agg #[.slice p s.length cp, .slice q A.length cq]] W fun e w' => Grew W w' ∧ ∃ g f, e = .returned (.tuple #[.slice (some ⟨g, 0, none⟩) A.length A.length, .int .i64 0]) ∧ isFlow s A f ∧ (∃ π, Pot A f π) ∧ Ints w' (some ⟨g, 0, none⟩) f) := Lib.hid (fun W hg => by
    apply Calls.mono; exact Hsp.out W hg
    rintro e w' ⟨hg, ⟨h, _⟩ | ⟨_, h, _⟩ | ⟨_, g, f, h, hp, he, hO⟩⟩
    · exact absurd HV.out h
    · exact absurd h HC.out
    · exact ⟨hg, g, f, he, h, hp, own_intsG hO (k := 0) rfl h.1.l (by have := HV.out.m; omega) (fit_ints HV.out h.1)⟩)
  replace Hsr : Hid (∀ W, Grew w W → Calls Try.prog 19 #[.agg #[.slice p s.length cp, .slice q A.length cq]] W fun e w' => Grew W w' ∧ ∃ po co f, e = .returned (.tuple #[.slice po A.length co, .int .i64 0]) ∧ isFlow s A f ∧ (∃ π, Pot A f π) ∧ Ints w' po f) := Lib.hid (fun W hg => by
    apply Calls.mono; exact Hsr.out W hg
    rintro e w' ⟨hg, ⟨h, _⟩ | ⟨_, h, _⟩ | ⟨_, g, c, f, h, hp, he, hO⟩⟩
    · exact absurd HV.out h
    · exact absurd h HC.out
    · exact ⟨hg, g, c, f, he, h, hp, own_intsG hO (k := 0) rfl h.1.l (by have := HV.out.m; omega) (fit_ints HV.out h.1)⟩)
  go_enter Try.func5, Try.ntmps5
  go_upto_region 3 with (go_at_call 8; apply Calls.mono; (with_reducible exact small_e Hb.out hsm ham); rintro e w1 ⟨rfl, hg1⟩; have x0 : w1.cell? ⟨w.heap.size, 0, none⟩ = some (.slice p s.length cp) := Grew.cellEq hg1 (by simp [go_sem]); have x1 : w1.cell? ⟨w.heap.size, 1, none⟩ = some (.slice q A.length cq) := Grew.cellEq hg1 (by simp [go_sem]); have Hg1 : Hid (Grew w w1) := Lib.hid (Grew.trans (by (repeat (first | exact Grew.refl _ | refine Grew.over ?_ _ | refine Grew.alloc ?_ _ | refine Grew.drew ?_ | refine Grew.drewN ?_ _))) hg1); clear hg1)
  have hbw := cell_lt x0
  go_upto_region 4 with (go_at_call 18; apply Calls.mono; (with_reducible exact Hsp.out _ Hg1.out); rintro e w2 ⟨hg2, g1, f1, rfl, hf1, hp1, hI1⟩; have Hg2 := Lib.hid (Hg1.out.trans hg2); replace x0 := hg2.cellEq x0; replace x1 := hg2.cellEq x1; have Hf1 := Lib.hid hf1; have Hp1 := Lib.hid hp1; have HI1 := Lib.hid hI1; replace hbw := cell_lt x0; clear hg2 hf1 hp1 hI1)
  go_upto_region 5 with (go_at_call 19; apply Calls.mono; (with_reducible exact Hsr.out _ Hg2.out); rintro e w3 ⟨hg3, po, co, f2, rfl, hf2, hp2, hI2⟩; have Hg3 := Lib.hid (Hg2.out.trans hg3); replace x0 := hg3.cellEq x0; replace x1 := hg3.cellEq x1; have HI3 := Lib.hid (HI1.out.grew hg3); have Hf2 := Lib.hid hf2; have Hp2 := Lib.hid hp2; have HI2 := Lib.hid hI2; replace hbw := cell_lt x0; clear hg3 hf2 hp2 hI2)
  have HS3 := Lib.hid (HS.out.grew Hg3.out)
  have HA3 := Lib.hid (HA.out.grew Hg3.out)
  obtain ⟨z, hz⟩ : ∃ z, costF A f1 = z := ⟨_, rfl⟩
  have Z1 : Hid (cosS s A f1 = z) := Lib.hid (by rw [cos_flow HV.out Hf1.out, hz])
  have Z2 : Hid (cosS s A f2 = z) := Lib.hid (by
    rw [cos_flow HV.out Hf2.out, ← hz]
    obtain ⟨π1, h1⟩ := Hp1.out
    obtain ⟨π2, h2⟩ := Hp2.out
    have a1 := pot_least HV.out h1 Hf1.out Hf2.out
    have a2 := pot_least HV.out h2 Hf2.out Hf1.out
    omega)
  have K1 : Hid (chkS s A f1 = 0) := Lib.hid (chk_iff.2 ⟨HV.out, Hf1.out⟩)
  have O1 : Hid (optB s A f1 = true) := Lib.hid (opt_flow HV.out Hf1.out Hp1.out)
  have L1 : Hid (f1.length = A.length) := Lib.hid Hf1.out.1.l
  have L2 : Hid (f2.length = A.length) := Lib.hid Hf2.out.1.l
  clear hz
  go_upto_region 9 with fail
  refine wp_region_over (by kernel_rfl) (by kernel_rfl) ?_; (repeat (go_big_quiet_step (first
      | (go_at_call 13; apply over_call; with_reducible exact checkr_e K1.out (HS3.out.grew (by (repeat (first | exact Grew.refl _ | refine Grew.over ?_ _ | refine Grew.alloc ?_ _ | refine Grew.drew ?_ | refine Grew.drewN ?_ _)))) (HA3.out.grew (by (repeat (first | exact Grew.refl _ | refine Grew.over ?_ _ | refine Grew.alloc ?_ _ | refine Grew.drew ?_ | refine Grew.drewN ?_ _)))) (HI3.out.grew (by (repeat (first | exact Grew.refl _ | refine Grew.over ?_ _ | refine Grew.alloc ?_ _ | refine Grew.drew ?_ | refine Grew.drewN ?_ _)))) rfl rfl L1.out Hnil.out)
      | (go_at_call 17; apply over_call; with_reducible exact optimalr_e O1.out (HS3.out.grew (by (repeat (first | exact Grew.refl _ | refine Grew.over ?_ _ | refine Grew.alloc ?_ _ | refine Grew.drew ?_ | refine Grew.drewN ?_ _)))) (HA3.out.grew (by (repeat (first | exact Grew.refl _ | refine Grew.over ?_ _ | refine Grew.alloc ?_ _ | refine Grew.drew ?_ | refine Grew.drewN ?_ _)))) (HI3.out.grew (by (repeat (first | exact Grew.refl _ | refine Grew.over ?_ _ | refine Grew.alloc ?_ _ | refine Grew.drew ?_ | refine Grew.drewN ?_ _)))) rfl rfl L1.out Hnil.out)
      | (go_at_call 15; apply over_call; with_reducible exact costr_e Z1.out (HS3.out.grew (by (repeat (first | exact Grew.refl _ | refine Grew.over ?_ _ | refine Grew.alloc ?_ _ | refine Grew.drew ?_ | refine Grew.drewN ?_ _)))) (HA3.out.grew (by (repeat (first | exact Grew.refl _ | refine Grew.over ?_ _ | refine Grew.alloc ?_ _ | refine Grew.drew ?_ | refine Grew.drewN ?_ _)))) (HI3.out.grew (by (repeat (first | exact Grew.refl _ | refine Grew.over ?_ _ | refine Grew.alloc ?_ _ | refine Grew.drew ?_ | refine Grew.drewN ?_ _)))) rfl rfl L1.out Hnil.out)
      | (go_at_call 15; apply over_call; with_reducible exact costr_e Z2.out (HS3.out.grew (by (repeat (first | exact Grew.refl _ | refine Grew.over ?_ _ | refine Grew.alloc ?_ _ | refine Grew.drew ?_ | refine Grew.drewN ?_ _)))) (HA3.out.grew (by (repeat (first | exact Grew.refl _ | refine Grew.over ?_ _ | refine Grew.alloc ?_ _ | refine Grew.drew ?_ | refine Grew.drewN ?_ _)))) (HI2.out.grew (by (repeat (first | exact Grew.refl _ | refine Grew.over ?_ _ | refine Grew.alloc ?_ _ | refine Grew.drew ?_ | refine Grew.drewN ?_ _)))) rfl rfl L2.out Hnil.out)
      | (go_at_call 9; apply over_call; with_reducible exact awake_p _)))); refine wpQuiet_nil ?_; intro w4 hW; replace hW : Grew _ w4 := hW
  have Hg4 : Hid (Grew w w4) := Lib.hid (Hg3.out.trans hW)
  clear hW
  go_wp2
  go_ret
  exact ⟨rfl, Hg4.out⟩
end Go.Proofs.Ytnnlhmialmhpfaa
