/- Few, Tail. -/
import Derived.Test.YtdacnkjmimhcaaaDoorRotD
set_option linter.unusedSimpArgs false
set_option linter.unusedVariables false
namespace Go.Proofs.YtdacnkjmimhcaaaDoor
open Go.RowKit
attribute [local go_sem ↓] Go.wp_at_zero Go.wp_at_succ

def fewB (E : List (Int × Int)) (A : List (List Int)) : Bool := decide (E.length ≤ 100 ∧ A.length ≤ 100 ∧ ∀ v, v < A.length → (rowOf A v).length ≤ 100)
theorem few_at {w : World} {pE pA : Option Addr} {E : List (Int × Int)} {A : List (List Int)} (h : fewB E A = true) (hE : Prs w pE E) (hA : Mat w pA A) : RotAt w pE pA E A := by
  unfold fewB at h
  have := of_decide_eq_true h
  exact ⟨hE, hA, this.1, this.2.1, this.2.2⟩

noncomputable def tailF (N : Int) (E : List (Int × Int)) (A : List (List Int)) (d : Int) : Int := if vRotB N E A = true ∧ 0 ≤ d ∧ d < 2 * E.length then tailE E d else -1

theorem valid_pe {N : Int} {pE pA : Option Addr} {nE nA cE cA : Nat} {E : List (Int × Int)} {A : List (List Int)} {w : World} {b : Bool} (h : vRotB N E A = b) (hR : RotAt w pE pA E A) (hL : Lim w) (hnE : E.length = nE) (hnA : A.length = nA) :
    Calls Tryd.prog 38 #[.agg #[.int .i64 N, .slice pE nE cE, .slice pA nA cA]] w fun e w' => e = .returned (.bool b) ∧ Grew w w' := h ▸ valid_p N pE pA nE nA cE cA E A w hR hL hnE hnA
theorem valid_re {N : Int} {pE pA : Option Addr} {nE nA cE cA : Nat} {E : List (Int × Int)} {A : List (List Int)} {w : World} {b : Bool} (h : vRotB N E A = b) (hR : RotAt w pE pA E A) (hnE : E.length = nE) (hnA : A.length = nA) :
    Calls Tryd.prog 46 #[.agg #[.int .i64 N, .slice pE nE cE, .slice pA nA cA]] w fun e w' => e = .returned (.bool b) ∧ Grew w w' := h ▸ valid_r N pE pA nE nA cE cA E A w hR hnE hnA

set_option maxHeartbeats 2000000 in
theorem tailp_l (N : Int) (pE pA : Option Addr) (nE nA cE cA : Nat) (E : List (Int × Int)) (A : List (List Int)) (d : Int) (w : World) (hR : RotAt w pE pA E A) (hL : Lim w) (hnE : E.length = nE) (hnA : A.length = nA) :
    Calls Tryd.prog 25 #[.agg #[.int .i64 N, .slice pE nE cE, .slice pA nA cA], .int .i64 d] w fun e w' => e = .returned (.int .i64 (tailF N E A d)) ∧ Grew w w' := by
  subst hnE hnA
  have he1 := hR.e1
  have HR := Lib.hid hR
  have HL := Lib.hid hL
  cases hv : vRotB N E A
  case false =>
    have Hf : Hid (tailF N E A d = -1) := Lib.hid (by unfold tailF; simp [hv])
    have Hv := Lib.hid hv
    clear hv hR hL
    go_enter Tryd.func25, Tryd.ntmps25
    go_wp2_with (go_at_call 38; apply Calls.mono; (with_reducible exact valid_pe Hv.out (HR.out.grew (by (repeat (first | exact Grew.refl _ | refine Grew.over ?_ _ | refine Grew.alloc ?_ _ | refine Grew.drew ?_ | refine Grew.drewN ?_ _)))) (HL.out.grew (by (repeat (first | exact Grew.refl _ | refine Grew.over ?_ _ | refine Grew.alloc ?_ _ | refine Grew.drew ?_ | refine Grew.drewN ?_ _)))) rfl rfl); rintro e w' ⟨rfl, x, rfl⟩)
    go_ret
    exact ⟨by rw [Hf.out]; rfl, by (repeat (first | exact Grew.refl _ | refine Grew.over ?_ _ | refine Grew.alloc ?_ _ | refine Grew.drew ?_ | refine Grew.drewN ?_ _))⟩
  case true =>
    have Hv := Lib.hid hv
    by_cases h1 : d < 0
    · have Hf : Hid (tailF N E A d = -1) := Lib.hid (by unfold tailF; rw [if_neg (by omega)])
      clear hv hR hL
      go_enter Tryd.func25, Tryd.ntmps25
      go_wp2_with (go_at_call 38; apply Calls.mono; (with_reducible exact valid_pe Hv.out (HR.out.grew (by (repeat (first | exact Grew.refl _ | refine Grew.over ?_ _ | refine Grew.alloc ?_ _ | refine Grew.drew ?_ | refine Grew.drewN ?_ _)))) (HL.out.grew (by (repeat (first | exact Grew.refl _ | refine Grew.over ?_ _ | refine Grew.alloc ?_ _ | refine Grew.drew ?_ | refine Grew.drewN ?_ _)))) rfl rfl); rintro e w' ⟨rfl, x, rfl⟩)
      go_ret
      exact ⟨by rw [Hf.out]; rfl, by (repeat (first | exact Grew.refl _ | refine Grew.over ?_ _ | refine Grew.alloc ?_ _ | refine Grew.drew ?_ | refine Grew.drewN ?_ _))⟩
    obtain ⟨m, rfl⟩ := Int.eq_ofNat_of_zero_le (by omega : 0 ≤ d)
    clear h1
    by_cases h2 : 2 * E.length ≤ m
    · have Hf : Hid (tailF N E A m = -1) := Lib.hid (by unfold tailF; rw [if_neg (by omega)])
      clear hv hR hL
      go_enter Tryd.func25, Tryd.ntmps25
      go_wp2_with (go_at_call 38; apply Calls.mono; (with_reducible exact valid_pe Hv.out (HR.out.grew (by (repeat (first | exact Grew.refl _ | refine Grew.over ?_ _ | refine Grew.alloc ?_ _ | refine Grew.drew ?_ | refine Grew.drewN ?_ _)))) (HL.out.grew (by (repeat (first | exact Grew.refl _ | refine Grew.over ?_ _ | refine Grew.alloc ?_ _ | refine Grew.drew ?_ | refine Grew.drewN ?_ _)))) rfl rfl); rintro e w' ⟨rfl, x, rfl⟩)
      go_ret
      exact ⟨by rw [Hf.out]; rfl, by (repeat (first | exact Grew.refl _ | refine Grew.over ?_ _ | refine Grew.alloc ?_ _ | refine Grew.drew ?_ | refine Grew.drewN ?_ _))⟩
    have hm : m < 2 * E.length := by omega
    have Hf : Hid (tailF N E A m = tailE E m) := Lib.hid (by unfold tailF; rw [if_pos ⟨hv, by omega, by omega⟩])
    clear h2 hv
    obtain ⟨bE, oE, rfl, lE, cE'⟩ := hR.hE.cells (by omega)
    obtain ⟨c1, c2⟩ := cE' w (Grew.refl _) (m / 2) (by omega)
    have hm2 : m / 2 < E.length := by omega
    clear cE' hR hL
    go_enter Tryd.func25, Tryd.ntmps25
    go_wp2_with (first
      | (go_at_call 38; apply Calls.mono; (with_reducible exact valid_pe Hv.out (HR.out.grew (by (repeat (first | exact Grew.refl _ | refine Grew.over ?_ _ | refine Grew.alloc ?_ _ | refine Grew.drew ?_ | refine Grew.drewN ?_ _)))) (HL.out.grew (by (repeat (first | exact Grew.refl _ | refine Grew.over ?_ _ | refine Grew.alloc ?_ _ | refine Grew.drew ?_ | refine Grew.drewN ?_ _)))) rfl rfl); rintro e w' ⟨rfl, x, rfl⟩)
      | (go_at_call 39; apply Calls.mono; (with_reducible exact tail_e E m _); rintro e w' ⟨rfl, x2, rfl⟩))
    go_ret
    exact ⟨by rw [Hf.out]; rfl, by (repeat (first | exact Grew.refl _ | refine Grew.over ?_ _ | refine Grew.alloc ?_ _ | refine Grew.drew ?_ | refine Grew.drewN ?_ _))⟩

set_option maxHeartbeats 2000000 in
theorem tailr_l (N : Int) (pE pA : Option Addr) (nE nA cE cA : Nat) (E : List (Int × Int)) (A : List (List Int)) (d : Int) (w : World) (hR : RotAt w pE pA E A) (hnE : E.length = nE) (hnA : A.length = nA) :
    Calls Tryd.prog 37 #[.agg #[.int .i64 N, .slice pE nE cE, .slice pA nA cA], .int .i64 d] w fun e w' => e = .returned (.int .i64 (tailF N E A d)) ∧ Grew w w' := by
  subst hnE hnA
  have he1 := hR.e1
  have ha1 := hR.a1
  have HR := Lib.hid hR
  cases hv : vRotB N E A
  case false =>
    have Hf : Hid (tailF N E A d = -1) := Lib.hid (by unfold tailF; simp [hv])
    have Hv := Lib.hid hv
    clear hv hR
    go_enter Tryd.func37, Tryd.ntmps37
    go_wp2_with (go_at_call 46; apply Calls.mono; (with_reducible exact valid_re Hv.out (HR.out.grew (by (repeat (first | exact Grew.refl _ | refine Grew.over ?_ _ | refine Grew.alloc ?_ _ | refine Grew.drew ?_ | refine Grew.drewN ?_ _)))) rfl rfl); rintro e w' ⟨rfl, x, rfl⟩)
    go_ret
    exact ⟨by rw [Hf.out]; rfl, by (repeat (first | exact Grew.refl _ | refine Grew.over ?_ _ | refine Grew.alloc ?_ _ | refine Grew.drew ?_ | refine Grew.drewN ?_ _))⟩
  case true =>
    have Hv := Lib.hid hv
    by_cases h1 : d < 0
    · have Hf : Hid (tailF N E A d = -1) := Lib.hid (by unfold tailF; rw [if_neg (by omega)])
      clear hv hR
      go_enter Tryd.func37, Tryd.ntmps37
      go_wp2_with (go_at_call 46; apply Calls.mono; (with_reducible exact valid_re Hv.out (HR.out.grew (by (repeat (first | exact Grew.refl _ | refine Grew.over ?_ _ | refine Grew.alloc ?_ _ | refine Grew.drew ?_ | refine Grew.drewN ?_ _)))) rfl rfl); rintro e w' ⟨rfl, x, rfl⟩)
      go_ret
      exact ⟨by rw [Hf.out]; rfl, by (repeat (first | exact Grew.refl _ | refine Grew.over ?_ _ | refine Grew.alloc ?_ _ | refine Grew.drew ?_ | refine Grew.drewN ?_ _))⟩
    obtain ⟨m, rfl⟩ := Int.eq_ofNat_of_zero_le (by omega : 0 ≤ d)
    clear h1
    by_cases h2 : 2 * E.length ≤ m
    · have Hf : Hid (tailF N E A m = -1) := Lib.hid (by unfold tailF; rw [if_neg (by omega)])
      clear hv hR
      go_enter Tryd.func37, Tryd.ntmps37
      go_wp2_with (go_at_call 46; apply Calls.mono; (with_reducible exact valid_re Hv.out (HR.out.grew (by (repeat (first | exact Grew.refl _ | refine Grew.over ?_ _ | refine Grew.alloc ?_ _ | refine Grew.drew ?_ | refine Grew.drewN ?_ _)))) rfl rfl); rintro e w' ⟨rfl, x, rfl⟩)
      go_ret
      exact ⟨by rw [Hf.out]; rfl, by (repeat (first | exact Grew.refl _ | refine Grew.over ?_ _ | refine Grew.alloc ?_ _ | refine Grew.drew ?_ | refine Grew.drewN ?_ _))⟩
    have hm : m < 2 * E.length := by omega
    have Hf : Hid (tailF N E A m = tailE E m) := Lib.hid (by unfold tailF; rw [if_pos ⟨hv, by omega, by omega⟩])
    have HTl := Lib.hid (fun W1 (hg1 : Grew w W1) => tails_r N pE pA E.length A.length cE cA E W1 (hR.hE.grew hg1) he1 rfl (fun a ha => by
      have hV := vRotB_iff.1 hv
      obtain ⟨t, ht, rfl⟩ := List.getElem_of_mem ha
      have := hV.ed t ht
      have := hV.al
      unfold okEdge at *
      rw [pr_eq E ht] at *
      omega))
    clear h2 hv hR
    go_enter Tryd.func37, Tryd.ntmps37
    go_wp2_with (first
      | (go_at_call 46; apply Calls.mono; (with_reducible exact valid_re Hv.out (HR.out.grew (by (repeat (first | exact Grew.refl _ | refine Grew.over ?_ _ | refine Grew.alloc ?_ _ | refine Grew.drew ?_ | refine Grew.drewN ?_ _)))) rfl rfl); rintro e w' ⟨rfl, x, rfl⟩)
      | (go_at_call 54; apply Calls.mono; (with_reducible exact HTl.out _ (by (repeat (first | exact Grew.refl _ | refine Grew.over ?_ _ | refine Grew.alloc ?_ _ | refine Grew.drew ?_ | refine Grew.drewN ?_ _)))); rintro e w3 ⟨hg3, pT, cT, rfl, hT⟩; obtain ⟨bT, oT, rfl, lT, cT'⟩ := hT.cells (by rw [tailsL_length]; omega); have c1 := cT' w3 (Grew.refl _) m (by rw [tailsL_length]; exact hm); rw [tailsL_get E m hm] at c1; have Hg3 : Hid (Grew w w3) := Lib.hid (Grew.trans (by (repeat (first | exact Grew.refl _ | refine Grew.over ?_ _ | refine Grew.alloc ?_ _ | refine Grew.drew ?_ | refine Grew.drewN ?_ _))) hg3); clear hT hg3 cT'))
    go_ret
    exact ⟨by rw [Hf.out]; rfl, Hg3.out⟩

end Go.Proofs.YtdacnkjmimhcaaaDoor
