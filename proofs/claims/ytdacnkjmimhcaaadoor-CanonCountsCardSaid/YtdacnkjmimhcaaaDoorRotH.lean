/- Next. -/
import Derived.Test.YtdacnkjmimhcaaaDoorRotG
set_option linter.unusedSimpArgs false
set_option linter.unusedVariables false
namespace Go.Proofs.YtdacnkjmimhcaaaDoor
open Go.RowKit
attribute [local go_sem ↓] Go.wp_at_zero Go.wp_at_succ

theorem xor_small : ∀ m : Nat, m < 200 → bits BinOp.xor IntKind.i64 (m : Int) 1 = oth m := by decide +kernel
theorem xor_two : ∀ m : Nat, m < 200 → bits BinOp.xor IntKind.i64 ((m : Int) % 2) 1 = oth m % 2 := by decide +kernel
noncomputable def nextF (N : Int) (E : List (Int × Int)) (A : List (List Int)) (d : Int) : Int := if vRotB N E A = true ∧ 0 ≤ d ∧ d < 2 * E.length then sucF A (oth d) else -1

set_option maxHeartbeats 2000000 in
theorem nextr_l (N : Int) (pE pA : Option Addr) (nE nA cE cA : Nat) (E : List (Int × Int)) (A : List (List Int)) (d : Int) (w : World) (hR : RotAt w pE pA E A) (hnE : E.length = nE) (hnA : A.length = nA) :
    Calls Tryd.prog 36 #[.agg #[.int .i64 N, .slice pE nE cE, .slice pA nA cA], .int .i64 d] w fun e w' => e = .returned (.int .i64 (nextF N E A d)) ∧ Grew w w' := by
  subst hnE hnA
  have he1 := hR.e1
  have ha1 := hR.a1
  have HR := Lib.hid hR
  cases hv : vRotB N E A
  case false =>
    have Hf : Hid (nextF N E A d = -1) := Lib.hid (by unfold nextF; simp [hv])
    have Hv := Lib.hid hv
    clear hv hR
    go_enter Tryd.func36, Tryd.ntmps36
    go_wp2_with (go_at_call 46; apply Calls.mono; (with_reducible exact valid_re Hv.out (HR.out.grew (by (repeat (first | exact Grew.refl _ | refine Grew.over ?_ _ | refine Grew.alloc ?_ _ | refine Grew.drew ?_ | refine Grew.drewN ?_ _)))) rfl rfl); rintro e w' ⟨rfl, x, rfl⟩)
    go_ret
    exact ⟨by rw [Hf.out]; rfl, by (repeat (first | exact Grew.refl _ | refine Grew.over ?_ _ | refine Grew.alloc ?_ _ | refine Grew.drew ?_ | refine Grew.drewN ?_ _))⟩
  case true =>
    have Hv := Lib.hid hv
    by_cases h1 : d < 0
    · have Hf : Hid (nextF N E A d = -1) := Lib.hid (by unfold nextF; rw [if_neg (by omega)])
      clear hv hR
      go_enter Tryd.func36, Tryd.ntmps36
      go_wp2_with (go_at_call 46; apply Calls.mono; (with_reducible exact valid_re Hv.out (HR.out.grew (by (repeat (first | exact Grew.refl _ | refine Grew.over ?_ _ | refine Grew.alloc ?_ _ | refine Grew.drew ?_ | refine Grew.drewN ?_ _)))) rfl rfl); rintro e w' ⟨rfl, x, rfl⟩)
      go_ret
      exact ⟨by rw [Hf.out]; rfl, by (repeat (first | exact Grew.refl _ | refine Grew.over ?_ _ | refine Grew.alloc ?_ _ | refine Grew.drew ?_ | refine Grew.drewN ?_ _))⟩
    obtain ⟨m, rfl⟩ := Int.eq_ofNat_of_zero_le (by omega : 0 ≤ d)
    clear h1
    by_cases h2 : 2 * E.length ≤ m
    · have Hf : Hid (nextF N E A m = -1) := Lib.hid (by unfold nextF; rw [if_neg (by omega)])
      clear hv hR
      go_enter Tryd.func36, Tryd.ntmps36
      go_wp2_with (go_at_call 46; apply Calls.mono; (with_reducible exact valid_re Hv.out (HR.out.grew (by (repeat (first | exact Grew.refl _ | refine Grew.over ?_ _ | refine Grew.alloc ?_ _ | refine Grew.drew ?_ | refine Grew.drewN ?_ _)))) rfl rfl); rintro e w' ⟨rfl, x, rfl⟩)
      go_ret
      exact ⟨by rw [Hf.out]; rfl, by (repeat (first | exact Grew.refl _ | refine Grew.over ?_ _ | refine Grew.alloc ?_ _ | refine Grew.drew ?_ | refine Grew.drewN ?_ _))⟩
    have hm : m < 2 * E.length := by omega
    have Hf : Hid (nextF N E A m = sucF A (oth m)) := Lib.hid (by unfold nextF; rw [if_pos ⟨hv, by omega, by omega⟩])
    have hV := vRotB_iff.1 hv
    have HFl := Lib.hid (fun W1 (hg1 : Grew w W1) => follow_r N pE pA E.length A.length cE cA E A W1 (hR.grew hg1) hV rfl rfl)
    obtain ⟨ho1, ho2⟩ := oth_in (d := (m : Int)) (M := E.length) (by omega) (by omega)
    obtain ⟨o, hoe⟩ : ∃ o : Nat, oth m = (o : Int) := ⟨(oth m).toNat, by omega⟩
    have hol : o < 2 * E.length := by omega
    have Ho := Lib.hid (fun W1 : World => (hoe ▸ other_r m W1 (by omega) : Calls Tryd.prog 48 #[.int .i64 m] W1 fun e w' => e = .returned (.int .i64 (o : Int)) ∧ W1 = w'))
    rw [hoe] at Hf
    clear hV hoe ho1 ho2
    clear h2 hv hR
    go_enter Tryd.func36, Tryd.ntmps36
    go_wp2_with (first
      | (go_at_call 46; apply Calls.mono; (with_reducible exact valid_re Hv.out (HR.out.grew (by (repeat (first | exact Grew.refl _ | refine Grew.over ?_ _ | refine Grew.alloc ?_ _ | refine Grew.drew ?_ | refine Grew.drewN ?_ _)))) rfl rfl); rintro e w' ⟨rfl, x, rfl⟩)
      | (go_at_call 47; apply Calls.mono; (with_reducible exact HFl.out _ (by (repeat (first | exact Grew.refl _ | refine Grew.over ?_ _ | refine Grew.alloc ?_ _ | refine Grew.drew ?_ | refine Grew.drewN ?_ _)))); rintro e w3 ⟨hg3, pT, cT, rfl, hT, _⟩; obtain ⟨bT, oT, rfl, lT, cT'⟩ := hT.cells (by rw [folA, tab_length]; omega); have c1 := cT' w3 (Grew.refl _) o (by rw [folA, tab_length]; exact hol); rw [folA, ge_tab _ hol] at c1; have Hg3 : Hid (Grew w w3) := Lib.hid (Grew.trans (by (repeat (first | exact Grew.refl _ | refine Grew.over ?_ _ | refine Grew.alloc ?_ _ | refine Grew.drew ?_ | refine Grew.drewN ?_ _))) hg3); clear hT hg3 cT')
      | (go_at_call 48; apply Calls.mono; (with_reducible exact Ho.out _); rintro e w' ⟨rfl, rfl⟩))
    go_ret
    exact ⟨by rw [Hf.out]; rfl, Hg3.out⟩

set_option maxHeartbeats 2000000 in
theorem nextp_l (N : Int) (pE pA : Option Addr) (nE nA cE cA : Nat) (E : List (Int × Int)) (A : List (List Int)) (d : Int) (w : World) (hR : RotAt w pE pA E A) (hL : Lim w) (hnE : E.length = nE) (hnA : A.length = nA) :
    Calls Tryd.prog 40 #[.agg #[.int .i64 N, .slice pE nE cE, .slice pA nA cA], .int .i64 d] w fun e w' => e = .returned (.int .i64 (nextF N E A d)) ∧ Grew w w' := by
  subst hnE hnA
  have he1 := hR.e1
  have HR := Lib.hid hR
  have HL := Lib.hid hL
  cases hv : vRotB N E A
  case false =>
    have Hf : Hid (nextF N E A d = -1) := Lib.hid (by unfold nextF; simp [hv])
    have Hv := Lib.hid hv
    clear hv hR hL
    go_enter Tryd.func40, Tryd.ntmps40
    go_wp2_with (go_at_call 38; apply Calls.mono; (with_reducible exact valid_pe Hv.out (HR.out.grew (by (repeat (first | exact Grew.refl _ | refine Grew.over ?_ _ | refine Grew.alloc ?_ _ | refine Grew.drew ?_ | refine Grew.drewN ?_ _)))) (HL.out.grew (by (repeat (first | exact Grew.refl _ | refine Grew.over ?_ _ | refine Grew.alloc ?_ _ | refine Grew.drew ?_ | refine Grew.drewN ?_ _)))) rfl rfl); rintro e w' ⟨rfl, x, rfl⟩)
    go_ret
    exact ⟨by rw [Hf.out]; rfl, by (repeat (first | exact Grew.refl _ | refine Grew.over ?_ _ | refine Grew.alloc ?_ _ | refine Grew.drew ?_ | refine Grew.drewN ?_ _))⟩
  case true =>
    have Hv := Lib.hid hv
    by_cases h1 : d < 0
    · have Hf : Hid (nextF N E A d = -1) := Lib.hid (by unfold nextF; rw [if_neg (by omega)])
      clear hv hR hL
      go_enter Tryd.func40, Tryd.ntmps40
      go_wp2_with (go_at_call 38; apply Calls.mono; (with_reducible exact valid_pe Hv.out (HR.out.grew (by (repeat (first | exact Grew.refl _ | refine Grew.over ?_ _ | refine Grew.alloc ?_ _ | refine Grew.drew ?_ | refine Grew.drewN ?_ _)))) (HL.out.grew (by (repeat (first | exact Grew.refl _ | refine Grew.over ?_ _ | refine Grew.alloc ?_ _ | refine Grew.drew ?_ | refine Grew.drewN ?_ _)))) rfl rfl); rintro e w' ⟨rfl, x, rfl⟩)
      go_ret
      exact ⟨by rw [Hf.out]; rfl, by (repeat (first | exact Grew.refl _ | refine Grew.over ?_ _ | refine Grew.alloc ?_ _ | refine Grew.drew ?_ | refine Grew.drewN ?_ _))⟩
    obtain ⟨m, rfl⟩ := Int.eq_ofNat_of_zero_le (by omega : 0 ≤ d)
    clear h1
    by_cases h2 : 2 * E.length ≤ m
    · have Hf : Hid (nextF N E A m = -1) := Lib.hid (by unfold nextF; rw [if_neg (by omega)])
      clear hv hR hL
      go_enter Tryd.func40, Tryd.ntmps40
      go_wp2_with (go_at_call 38; apply Calls.mono; (with_reducible exact valid_pe Hv.out (HR.out.grew (by (repeat (first | exact Grew.refl _ | refine Grew.over ?_ _ | refine Grew.alloc ?_ _ | refine Grew.drew ?_ | refine Grew.drewN ?_ _)))) (HL.out.grew (by (repeat (first | exact Grew.refl _ | refine Grew.over ?_ _ | refine Grew.alloc ?_ _ | refine Grew.drew ?_ | refine Grew.drewN ?_ _)))) rfl rfl); rintro e w' ⟨rfl, x, rfl⟩)
      go_ret
      exact ⟨by rw [Hf.out]; rfl, by (repeat (first | exact Grew.refl _ | refine Grew.over ?_ _ | refine Grew.alloc ?_ _ | refine Grew.drew ?_ | refine Grew.drewN ?_ _))⟩
    have hm : m < 2 * E.length := by omega
    have Hf : Hid (nextF N E A m = sucF A (oth m)) := Lib.hid (by unfold nextF; rw [if_pos ⟨hv, by omega, by omega⟩])
    have hV := vRotB_iff.1 hv
    obtain ⟨ho1, hoq⟩ := oth_in (d := (m : Int)) (M := E.length) (by omega) (by omega)
    obtain ⟨o, hoe⟩ : ∃ o : Nat, oth m = (o : Int) := ⟨(oth m).toNat, by omega⟩
    have hol : o < 2 * E.length := by omega
    clear hoq
    obtain ⟨v, k, hvl, hkl, hge, htl⟩ := dart_pos hV (e := (o : Int)) (by omega) (by omega)
    obtain ⟨j2, hj2⟩ : ∃ j2, (k + 1) % (rowOf A v).length = j2 := ⟨_, rfl⟩
    have hj2l : j2 < (rowOf A v).length := by rw [← hj2]; exact Nat.mod_lt _ (by omega)
    have hsuc := suc_of hV hvl hkl
    rw [hge, hj2] at hsuc
    rw [hoe, hsuc] at Hf
    have hidx := idx_first (v := (o : Int)) k hkl (fun i hi => by rw [← hge]; exact Ne.symm (row_inj hV hvl hi hkl)) hge.symm
    obtain ⟨bA, oA, rp, rc, rfl, lA, cA'⟩ := hR.hA.rows (by omega)
    obtain ⟨a1, a2⟩ := cA' w (Grew.refl _) v hvl
    obtain ⟨rv, hrv⟩ : ∃ rv, rp v = rv := ⟨_, rfl⟩
    rw [hrv] at a1 a2
    have hrl := hR.r1 v hvl
    have HIx := Lib.hid (fun (W1 : World) (hg : Grew w W1) => hidx ▸ index_p rv (rowOf A v).length (rc v) (rowOf A v) (o : Int) W1 (a2.grew hg) rfl)
    obtain ⟨bR, oR, rfl, lR, cR⟩ := a2.cells (by omega)
    have e2 := cR w (Grew.refl _) j2 hj2l
    obtain ⟨bE, oE, rfl, lE, cE'⟩ := hR.hE.cells (by omega)
    obtain ⟨c1, c2⟩ := cE' w (Grew.refl _) (m / 2) (by omega)
    have hm2 : m / 2 < E.length := by omega
    have hem : ((k : Int) + 1) % ((rowOf A v).length : Int) = (j2 : Int) := by rw [← hj2]; push_cast; rfl
    have het : ((k : Int) + 1).tmod ((rowOf A v).length : Int) = (j2 : Int) := by rw [Int.tmod_eq_emod_of_nonneg (by omega)]; exact hem
    have hln0 : ¬ rowOf A v = [] := fun e => by rw [e] at hkl; simp at hkl
    have hwk1 : IntKind.i64.wrap ((k : Int) + 1) = (k : Int) + 1 := IntWalk.i64_in _ ⟨by omega, by omega⟩
    have ho2 : o / 2 = m / 2 := by unfold oth at hoe; split at hoe <;> omega
    have Htx := Lib.hid (fun W1 : World => (by have h := tail_e E o W1; rw [ho2, htl] at h; exact h : Calls Tryd.prog 39 #[.agg #[.int .i64 (pr E (m / 2)).1, .int .i64 (pr E (m / 2)).2], .int .i64 ((o : Int) % 2)] W1 fun e w' => e = .returned (.int .i64 (v : Int)) ∧ Grew W1 w'))
    have hx1 : bits BinOp.xor IntKind.i64 ((m : Int) % 2) 1 = (o : Int) % 2 := by rw [← hoe]; exact xor_two m (by omega)
    have hx2 : bits BinOp.xor IntKind.i64 (m : Int) 1 = (o : Int) := by rw [← hoe]; exact xor_small m (by omega)
    clear ho2 hoe htl ho1
    clear h2 hv cE' hR hL cA' a2 hrv hsuc hidx hge hj2 cR hV
    go_enter Tryd.func40, Tryd.ntmps40
    go_upto_region 3 with (go_at_call 38; apply Calls.mono; (with_reducible exact valid_pe Hv.out (HR.out.grew (by (repeat (first | exact Grew.refl _ | refine Grew.over ?_ _ | refine Grew.alloc ?_ _ | refine Grew.drew ?_ | refine Grew.drewN ?_ _)))) (HL.out.grew (by (repeat (first | exact Grew.refl _ | refine Grew.over ?_ _ | refine Grew.alloc ?_ _ | refine Grew.drew ?_ | refine Grew.drewN ?_ _)))) rfl rfl); rintro e w' ⟨rfl, x, rfl⟩)
    refine wp_region_over (by kernel_rfl) (by kernel_rfl) ?_; (repeat (go_big_quiet_step ((go_at_call 39; apply over_call; with_reducible exact Htx.out _)))); refine wpQuiet_nil ?_; rintro _ ⟨x, rfl⟩
    go_wp2_with (go_at_call 42; apply Calls.mono; (with_reducible exact HIx.out _ (by (repeat (first | exact Grew.refl _ | refine Grew.over ?_ _ | refine Grew.alloc ?_ _ | refine Grew.drew ?_ | refine Grew.drewN ?_ _)))); rintro e w' ⟨rfl, rfl⟩)
    go_ret
    exact ⟨by rw [Hf.out]; rfl, by (repeat (first | exact Grew.refl _ | refine Grew.over ?_ _ | refine Grew.alloc ?_ _ | refine Grew.drew ?_ | refine Grew.drewN ?_ _))⟩

end Go.Proofs.YtdacnkjmimhcaaaDoor
