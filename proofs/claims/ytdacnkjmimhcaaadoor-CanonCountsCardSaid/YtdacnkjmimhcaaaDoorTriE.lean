/- Triangulated of both. -/
import Derived.Test.YtdacnkjmimhcaaaDoorTriD
import Derived.Test.YtdacnkjmimhcaaaDoorRotS
set_option linter.unusedSimpArgs false
set_option linter.unusedVariables false
namespace Go.Proofs.YtdacnkjmimhcaaaDoor
open Go.RowKit
attribute [local go_sem ↓] Go.wp_at_zero Go.wp_at_succ

theorem valid_pwe {N : Int} {pE pA : Option Addr} {nE nA cE cA : Nat} {E : List (Int × Int)} {A : List (List Int)} {w : World} {b : Bool} (h : vRotB N E A = b) (hR : RotAw w pE pA E A) (hL : Lim w) (hnE : E.length = nE) (hnA : A.length = nA) :
    Calls Tryd.prog 38 #[.agg #[.int .i64 N, .slice pE nE cE, .slice pA nA cA]] w fun e w' => e = .returned (.bool b) ∧ Grew w w' := h ▸ valid_pw N pE pA nE nA cE cA E A w hR hL hnE hnA
theorem valid_rwe {N : Int} {pE pA : Option Addr} {nE nA cE cA : Nat} {E : List (Int × Int)} {A : List (List Int)} {w : World} {b : Bool} (h : vRotB N E A = b) (hR : RotAw w pE pA E A) (hnE : E.length = nE) (hnA : A.length = nA) :
    Calls Tryd.prog 46 #[.agg #[.int .i64 N, .slice pE nE cE, .slice pA nA cA]] w fun e w' => e = .returned (.bool b) ∧ Grew w w' := h ▸ valid_rw N pE pA nE nA cE cA E A w hR hnE hnA
theorem genus_pe {N : Int} {pE pA : Option Addr} {nE nA cE cA : Nat} {E : List (Int × Int)} {A : List (List Int)} {w : World} {b : Int} (h : genusF N E A = b) (hR : RotAt w pE pA E A) (hL : Lim w) (hnE : E.length = nE) (hnA : A.length = nA) :
    Calls Tryd.prog 49 #[.agg #[.int .i64 N, .slice pE nE cE, .slice pA nA cA]] w fun e w' => e = .returned (.int .i64 b) ∧ Grew w w' := h ▸ genus_p N pE pA nE nA cE cA E A w hR hL hnE hnA
set_option maxHeartbeats 2000000 in
theorem genus_rw0 {N : Int} {pE pA : Option Addr} {nE nA cE cA : Nat} {E : List (Int × Int)} {A : List (List Int)} {w : World} (hv : vRotB N E A = false) (hR : RotAw w pE pA E A) (hnE : E.length = nE) (hnA : A.length = nA) :
    Calls Tryd.prog 43 #[.agg #[.int .i64 N, .slice pE nE cE, .slice pA nA cA]] w fun e w' => e = .returned (.int .i64 (-1)) ∧ Grew w w' := by
  have HR := Lib.hid hR
  have Hv := Lib.hid hv
  clear hv hR
  go_enter Tryd.func43, Tryd.ntmps43
  go_wp2_with (go_at_call 46; apply Calls.mono; (with_reducible exact valid_rwe Hv.out (HR.out.grew (by (repeat (first | exact Grew.refl _ | refine Grew.over ?_ _ | refine Grew.alloc ?_ _ | refine Grew.drew ?_ | refine Grew.drewN ?_ _)))) hnE hnA); rintro e w' ⟨rfl, x, rfl⟩)
  go_ret
  exact ⟨rfl, by (repeat (first | exact Grew.refl _ | refine Grew.over ?_ _ | refine Grew.alloc ?_ _ | refine Grew.drew ?_ | refine Grew.drewN ?_ _))⟩
/-- Genus of the reference for rows of any length. -/
theorem genus_re {N : Int} {pE pA : Option Addr} {nE nA cE cA : Nat} {E : List (Int × Int)} {A : List (List Int)} {w : World} {b : Int} (h : genusF N E A = b) (hR : RotAw w pE pA E A) (he : E.length ≤ 50) (hnE : E.length = nE) (hnA : A.length = nA) :
    Calls Tryd.prog 43 #[.agg #[.int .i64 N, .slice pE nE cE, .slice pA nA cA]] w fun e w' => e = .returned (.int .i64 b) ∧ Grew w w' := by
  cases hv : vRotB N E A
  · have hb : b = -1 := by rw [← h]; unfold genusF; simp [hv]
    subst hb
    exact genus_rw0 hv hR hnE hnA
  · exact h ▸ genus_r N pE pA nE nA cE cA E A w (hR.at he hv) hnE hnA

/-! ### check -/
noncomputable def chkC (N : Int) (E : List (Int × Int)) (A : List (List Int)) : Int :=
  if genusF N E A = 0 then if connB E A = true then if simB E = true then if N < 3 then 1 else 0 else 6 else 12 else 13
theorem gen_valid {N : Int} {E : List (Int × Int)} {A : List (List Int)} (h : genusF N E A = 0) : vRot N E A := by
  cases hv : vRotB N E A
  · unfold genusF at h; simp [hv] at h
  · exact vRotB_iff.1 hv

/-- A rotation system in memory with what both of the functions want. -/
structure RotIn (w : World) (pE pA : Option Addr) (cE : Nat) (E : List (Int × Int)) (A : List (List Int)) : Prop extends RotAw w pE pA E A where
  e5 : E.length ≤ 50
  cE1 : E.length ≤ cE
  cE2 : cE ≤ maxLen
theorem RotIn.grew {w w' : World} {pE pA : Option Addr} {cE : Nat} {E : List (Int × Int)} {A : List (List Int)} (h : RotIn w pE pA cE E A) (hg : Grew w w') : RotIn w' pE pA cE E A := ⟨h.toRotAw.grew hg, h.e5, h.cE1, h.cE2⟩

set_option maxHeartbeats 4000000 in
theorem check_p (N : Int) (pE pA : Option Addr) (nE nA cE cA : Nat) (E : List (Int × Int)) (A : List (List Int)) (w : World) (hR : RotIn w pE pA cE E A) (hL : Lim w) (hnE : E.length = nE) (hnA : A.length = nA) :
    Calls Tryd.prog 32 #[.agg #[.int .i64 N, .slice pE nE cE, .slice pA nA cA]] w fun e w' => e = .returned (.int .i64 (chkC N E A)) ∧ Grew w w' := by
  subst hnE hnA
  have HR := Lib.hid hR
  have HL := Lib.hid hL
  clear hR hL
  cases hv : vRotB N E A
  case false =>
    have Hf : Hid (chkC N E A = 13) := Lib.hid (by unfold chkC; rw [if_neg (fun h => by rw [vRotB_iff.2 (gen_valid h)] at hv; cases hv)])
    have Hv := Lib.hid hv
    clear hv
    go_enter Tryd.func32, Tryd.ntmps32
    go_wp2_with (go_at_call 38; apply Calls.mono; (with_reducible exact valid_pwe Hv.out (HR.out.toRotAw.grew (by (repeat (first | exact Grew.refl _ | refine Grew.over ?_ _ | refine Grew.alloc ?_ _ | refine Grew.drew ?_ | refine Grew.drewN ?_ _)))) (HL.out.grew (by (repeat (first | exact Grew.refl _ | refine Grew.over ?_ _ | refine Grew.alloc ?_ _ | refine Grew.drew ?_ | refine Grew.drewN ?_ _)))) rfl rfl); rintro e w' ⟨rfl, x, rfl⟩)
    go_ret
    exact ⟨by rw [Hf.out]; rfl, by (repeat (first | exact Grew.refl _ | refine Grew.over ?_ _ | refine Grew.alloc ?_ _ | refine Grew.drew ?_ | refine Grew.drewN ?_ _))⟩
  case true =>
  have hV := vRotB_iff.1 hv
  have hN : N = A.length := hV.al.symm
  have hNl : N ≤ 16384 := hV.n1
  have HRt := Lib.hid (HR.out.at HR.out.e5 hv)
  have Hv := Lib.hid hv
  have HV := Lib.hid hV
  have he1 := HRt.out.e1
  obtain ⟨g, hg⟩ : ∃ g, genusF N E A = g := ⟨_, rfl⟩
  have Hg := Lib.hid hg
  clear hv hV
  by_cases hg0 : g = 0
  · subst hg0
    clear hg
    cases hc : connB E A
    case false =>
      have Hf : Hid (chkC N E A = 12) := Lib.hid (by unfold chkC; rw [if_pos Hg.out, if_neg (by rw [hc]; simp)])
      have Hc : Hid (∀ W1, Grew w W1 → Calls Tryd.prog 50 #[.agg #[.int .i64 N, .slice pE E.length cE, .slice pA A.length cA]] W1 fun e w' => e = .returned (.bool false) ∧ Grew W1 w') := Lib.hid (fun W1 h1 => by rw [← hc]; exact connected_p _ _ _ _ _ _ _ _ _ _ (HRt.out.grew h1) HV.out rfl rfl)
      clear hc hN hNl
      go_enter Tryd.func32, Tryd.ntmps32
      go_wp2_with (first
        | (go_at_call 38; apply Calls.mono; (with_reducible exact valid_pwe Hv.out (HR.out.toRotAw.grew (by (repeat (first | exact Grew.refl _ | refine Grew.over ?_ _ | refine Grew.alloc ?_ _ | refine Grew.drew ?_ | refine Grew.drewN ?_ _)))) (HL.out.grew (by (repeat (first | exact Grew.refl _ | refine Grew.over ?_ _ | refine Grew.alloc ?_ _ | refine Grew.drew ?_ | refine Grew.drewN ?_ _)))) rfl rfl); rintro e w' ⟨rfl, x, rfl⟩)
        | (go_at_call 49; apply Calls.mono; (with_reducible exact genus_pe Hg.out (HRt.out.grew (by (repeat (first | exact Grew.refl _ | refine Grew.over ?_ _ | refine Grew.alloc ?_ _ | refine Grew.drew ?_ | refine Grew.drewN ?_ _)))) (HL.out.grew (by (repeat (first | exact Grew.refl _ | refine Grew.over ?_ _ | refine Grew.alloc ?_ _ | refine Grew.drew ?_ | refine Grew.drewN ?_ _)))) rfl rfl); rintro e w' ⟨rfl, x, rfl⟩)
        | (go_at_call 50; apply Calls.mono; (with_reducible exact Hc.out _ (by (repeat (first | exact Grew.refl _ | refine Grew.over ?_ _ | refine Grew.alloc ?_ _ | refine Grew.drew ?_ | refine Grew.drewN ?_ _)))); rintro e w' ⟨rfl, x, rfl⟩))
      go_ret
      exact ⟨by rw [Hf.out]; rfl, by (repeat (first | exact Grew.refl _ | refine Grew.over ?_ _ | refine Grew.alloc ?_ _ | refine Grew.drew ?_ | refine Grew.drewN ?_ _))⟩
    case true =>
    have Hc : Hid (∀ W1, Grew w W1 → Calls Tryd.prog 50 #[.agg #[.int .i64 N, .slice pE E.length cE, .slice pA A.length cA]] W1 fun e w' => e = .returned (.bool true) ∧ Grew W1 w') := Lib.hid (fun W1 h1 => by rw [← hc]; exact connected_p _ _ _ _ _ _ _ _ _ _ (HRt.out.grew h1) HV.out rfl rfl)
    obtain ⟨t, ht⟩ : ∃ t, simB E = t := ⟨_, rfl⟩
    have Hs : Hid (∀ W1, Grew w W1 → Calls Tryd.prog 51 #[.agg #[.int .i64 N, .slice pE E.length cE, .slice pA A.length cA]] W1 fun e w' => e = .returned (.bool t) ∧ Grew W1 w') := Lib.hid (fun W1 h1 => by rw [← ht]; exact simple_p _ _ _ _ _ _ _ _ _ (HRt.out.hE.grew h1) he1 rfl hNl HV.out.ed)
    have Hf : Hid (chkC N E A = if t = true then if N < 3 then 1 else 0 else 6) := Lib.hid (by unfold chkC; rw [if_pos Hg.out, if_pos hc, ht])
    clear hc hN hNl ht
    cases t
    case false =>
      go_enter Tryd.func32, Tryd.ntmps32
      go_wp2_with (first
        | (go_at_call 38; apply Calls.mono; (with_reducible exact valid_pwe Hv.out (HR.out.toRotAw.grew (by (repeat (first | exact Grew.refl _ | refine Grew.over ?_ _ | refine Grew.alloc ?_ _ | refine Grew.drew ?_ | refine Grew.drewN ?_ _)))) (HL.out.grew (by (repeat (first | exact Grew.refl _ | refine Grew.over ?_ _ | refine Grew.alloc ?_ _ | refine Grew.drew ?_ | refine Grew.drewN ?_ _)))) rfl rfl); rintro e w' ⟨rfl, x, rfl⟩)
        | (go_at_call 49; apply Calls.mono; (with_reducible exact genus_pe Hg.out (HRt.out.grew (by (repeat (first | exact Grew.refl _ | refine Grew.over ?_ _ | refine Grew.alloc ?_ _ | refine Grew.drew ?_ | refine Grew.drewN ?_ _)))) (HL.out.grew (by (repeat (first | exact Grew.refl _ | refine Grew.over ?_ _ | refine Grew.alloc ?_ _ | refine Grew.drew ?_ | refine Grew.drewN ?_ _)))) rfl rfl); rintro e w' ⟨rfl, x, rfl⟩)
        | (go_at_call 50; apply Calls.mono; (with_reducible exact Hc.out _ (by (repeat (first | exact Grew.refl _ | refine Grew.over ?_ _ | refine Grew.alloc ?_ _ | refine Grew.drew ?_ | refine Grew.drewN ?_ _)))); rintro e w' ⟨rfl, x, rfl⟩)
        | (go_at_call 51; apply Calls.mono; (with_reducible exact Hs.out _ (by (repeat (first | exact Grew.refl _ | refine Grew.over ?_ _ | refine Grew.alloc ?_ _ | refine Grew.drew ?_ | refine Grew.drewN ?_ _)))); rintro e w' ⟨rfl, x, rfl⟩))
      go_ret
      exact ⟨by rw [Hf.out]; rfl, by (repeat (first | exact Grew.refl _ | refine Grew.over ?_ _ | refine Grew.alloc ?_ _ | refine Grew.drew ?_ | refine Grew.drewN ?_ _))⟩
    case true =>
    by_cases h3 : N < 3
    · replace Hf : Hid (chkC N E A = 1) := Lib.hid (by rw [Hf.out, if_pos rfl, if_pos h3])
      go_enter Tryd.func32, Tryd.ntmps32
      go_wp2_with (first
        | (go_at_call 38; apply Calls.mono; (with_reducible exact valid_pwe Hv.out (HR.out.toRotAw.grew (by (repeat (first | exact Grew.refl _ | refine Grew.over ?_ _ | refine Grew.alloc ?_ _ | refine Grew.drew ?_ | refine Grew.drewN ?_ _)))) (HL.out.grew (by (repeat (first | exact Grew.refl _ | refine Grew.over ?_ _ | refine Grew.alloc ?_ _ | refine Grew.drew ?_ | refine Grew.drewN ?_ _)))) rfl rfl); rintro e w' ⟨rfl, x, rfl⟩)
        | (go_at_call 49; apply Calls.mono; (with_reducible exact genus_pe Hg.out (HRt.out.grew (by (repeat (first | exact Grew.refl _ | refine Grew.over ?_ _ | refine Grew.alloc ?_ _ | refine Grew.drew ?_ | refine Grew.drewN ?_ _)))) (HL.out.grew (by (repeat (first | exact Grew.refl _ | refine Grew.over ?_ _ | refine Grew.alloc ?_ _ | refine Grew.drew ?_ | refine Grew.drewN ?_ _)))) rfl rfl); rintro e w' ⟨rfl, x, rfl⟩)
        | (go_at_call 50; apply Calls.mono; (with_reducible exact Hc.out _ (by (repeat (first | exact Grew.refl _ | refine Grew.over ?_ _ | refine Grew.alloc ?_ _ | refine Grew.drew ?_ | refine Grew.drewN ?_ _)))); rintro e w' ⟨rfl, x, rfl⟩)
        | (go_at_call 51; apply Calls.mono; (with_reducible exact Hs.out _ (by (repeat (first | exact Grew.refl _ | refine Grew.over ?_ _ | refine Grew.alloc ?_ _ | refine Grew.drew ?_ | refine Grew.drewN ?_ _)))); rintro e w' ⟨rfl, x, rfl⟩))
      go_ret
      exact ⟨by rw [Hf.out]; rfl, by (repeat (first | exact Grew.refl _ | refine Grew.over ?_ _ | refine Grew.alloc ?_ _ | refine Grew.drew ?_ | refine Grew.drewN ?_ _))⟩
    · replace Hf : Hid (chkC N E A = 0) := Lib.hid (by rw [Hf.out, if_pos rfl, if_neg h3])
      go_enter Tryd.func32, Tryd.ntmps32
      go_wp2_with (first
        | (go_at_call 38; apply Calls.mono; (with_reducible exact valid_pwe Hv.out (HR.out.toRotAw.grew (by (repeat (first | exact Grew.refl _ | refine Grew.over ?_ _ | refine Grew.alloc ?_ _ | refine Grew.drew ?_ | refine Grew.drewN ?_ _)))) (HL.out.grew (by (repeat (first | exact Grew.refl _ | refine Grew.over ?_ _ | refine Grew.alloc ?_ _ | refine Grew.drew ?_ | refine Grew.drewN ?_ _)))) rfl rfl); rintro e w' ⟨rfl, x, rfl⟩)
        | (go_at_call 49; apply Calls.mono; (with_reducible exact genus_pe Hg.out (HRt.out.grew (by (repeat (first | exact Grew.refl _ | refine Grew.over ?_ _ | refine Grew.alloc ?_ _ | refine Grew.drew ?_ | refine Grew.drewN ?_ _)))) (HL.out.grew (by (repeat (first | exact Grew.refl _ | refine Grew.over ?_ _ | refine Grew.alloc ?_ _ | refine Grew.drew ?_ | refine Grew.drewN ?_ _)))) rfl rfl); rintro e w' ⟨rfl, x, rfl⟩)
        | (go_at_call 50; apply Calls.mono; (with_reducible exact Hc.out _ (by (repeat (first | exact Grew.refl _ | refine Grew.over ?_ _ | refine Grew.alloc ?_ _ | refine Grew.drew ?_ | refine Grew.drewN ?_ _)))); rintro e w' ⟨rfl, x, rfl⟩)
        | (go_at_call 51; apply Calls.mono; (with_reducible exact Hs.out _ (by (repeat (first | exact Grew.refl _ | refine Grew.over ?_ _ | refine Grew.alloc ?_ _ | refine Grew.drew ?_ | refine Grew.drewN ?_ _)))); rintro e w' ⟨rfl, x, rfl⟩))
      go_ret
      exact ⟨by rw [Hf.out]; rfl, by (repeat (first | exact Grew.refl _ | refine Grew.over ?_ _ | refine Grew.alloc ?_ _ | refine Grew.drew ?_ | refine Grew.drewN ?_ _))⟩
  · have Hf : Hid (chkC N E A = 13) := Lib.hid (by unfold chkC; rw [if_neg (by rw [Hg.out]; exact hg0)])
    clear hg hN hNl
    go_enter Tryd.func32, Tryd.ntmps32
    go_wp2_with (first
      | (go_at_call 38; apply Calls.mono; (with_reducible exact valid_pwe Hv.out (HR.out.toRotAw.grew (by (repeat (first | exact Grew.refl _ | refine Grew.over ?_ _ | refine Grew.alloc ?_ _ | refine Grew.drew ?_ | refine Grew.drewN ?_ _)))) (HL.out.grew (by (repeat (first | exact Grew.refl _ | refine Grew.over ?_ _ | refine Grew.alloc ?_ _ | refine Grew.drew ?_ | refine Grew.drewN ?_ _)))) rfl rfl); rintro e w' ⟨rfl, x, rfl⟩)
      | (go_at_call 49; apply Calls.mono; (with_reducible exact genus_pe Hg.out (HRt.out.grew (by (repeat (first | exact Grew.refl _ | refine Grew.over ?_ _ | refine Grew.alloc ?_ _ | refine Grew.drew ?_ | refine Grew.drewN ?_ _)))) (HL.out.grew (by (repeat (first | exact Grew.refl _ | refine Grew.over ?_ _ | refine Grew.alloc ?_ _ | refine Grew.drew ?_ | refine Grew.drewN ?_ _)))) rfl rfl); rintro e w' ⟨rfl, x, rfl⟩))
    go_ret
    exact ⟨by rw [Hf.out]; rfl, by (repeat (first | exact Grew.refl _ | refine Grew.over ?_ _ | refine Grew.alloc ?_ _ | refine Grew.drew ?_ | refine Grew.drewN ?_ _))⟩

set_option maxHeartbeats 4000000 in
theorem check_r (N : Int) (pE pA : Option Addr) (nE nA cE cA : Nat) (E : List (Int × Int)) (A : List (List Int)) (w : World) (hR : RotIn w pE pA cE E A) (hnE : E.length = nE) (hnA : A.length = nA) :
    Calls Tryd.prog 30 #[.agg #[.int .i64 N, .slice pE nE cE, .slice pA nA cA]] w fun e w' => e = .returned (.int .i64 (chkC N E A)) ∧ Grew w w' := by
  subst hnE hnA
  have HR := Lib.hid hR
  obtain ⟨g, hg⟩ : ∃ g, genusF N E A = g := ⟨_, rfl⟩
  have Hg := Lib.hid hg
  clear hR hg
  by_cases hg0 : g = 0
  · subst hg0
    have hV := gen_valid Hg.out
    have HV := Lib.hid hV
    have HRt := Lib.hid (HR.out.at HR.out.e5 (vRotB_iff.2 hV))
    have he1 := HRt.out.e1
    have h1 := HRt.out.a1
    have hN : N = A.length := hV.al.symm
    obtain ⟨k, hk⟩ : ∃ k, cntL E A.length = k := ⟨_, rfl⟩
    have hkl : k ≤ 100 := by rw [← hk]; exact Nat.le_trans (cntP_le _ _) h1
    have Hk := Lib.hid hk
    have Hcm : Hid (∀ W1, Grew w W1 → Calls Tryd.prog 44 #[.agg #[.int .i64 N, .slice pE E.length cE, .slice pA A.length cA]] W1 fun e w' => e = .returned (.int .i64 (k : Int)) ∧ Grew W1 w') := Lib.hid (fun W1 h1 => by rw [← hk]; exact comps_r _ _ _ _ _ _ _ _ _ _ (HRt.out.grew h1) HV.out rfl rfl)
    clear hk h1 hV
    by_cases hk1 : k = 1
    · subst hk1
      obtain ⟨t, ht⟩ : ∃ t, simB E = t := ⟨_, rfl⟩
      have Hs : Hid (∀ W1, Grew w W1 → Calls Tryd.prog 45 #[.agg #[.int .i64 N, .slice pE E.length cE, .slice pA A.length cA]] W1 fun e w' => e = .returned (.bool t) ∧ Grew W1 w') := Lib.hid (fun W1 h1 => by rw [← ht]; exact simple_r _ _ _ _ _ _ _ _ _ (HRt.out.hE.grew h1) he1 HR.out.cE1 HR.out.cE2 rfl)
      have Hf : Hid (chkC N E A = if t = true then if N < 3 then 1 else 0 else 6) := Lib.hid (by unfold chkC connB; rw [if_pos Hg.out, if_pos (by rw [Hk.out]; rfl), ht])
      clear hN ht
      cases t
      case false =>
        go_enter Tryd.func30, Tryd.ntmps30
        go_wp2_with (first
          | (go_at_call 43; apply Calls.mono; (with_reducible exact genus_re Hg.out (HR.out.toRotAw.grew (by (repeat (first | exact Grew.refl _ | refine Grew.over ?_ _ | refine Grew.alloc ?_ _ | refine Grew.drew ?_ | refine Grew.drewN ?_ _)))) HR.out.e5 rfl rfl); rintro e w' ⟨rfl, x, rfl⟩)
          | (go_at_call 44; apply Calls.mono; (with_reducible exact Hcm.out _ (by (repeat (first | exact Grew.refl _ | refine Grew.over ?_ _ | refine Grew.alloc ?_ _ | refine Grew.drew ?_ | refine Grew.drewN ?_ _)))); rintro e w' ⟨rfl, x, rfl⟩)
          | (go_at_call 45; apply Calls.mono; (with_reducible exact Hs.out _ (by (repeat (first | exact Grew.refl _ | refine Grew.over ?_ _ | refine Grew.alloc ?_ _ | refine Grew.drew ?_ | refine Grew.drewN ?_ _)))); rintro e w' ⟨rfl, x, rfl⟩))
        go_ret
        exact ⟨by rw [Hf.out]; rfl, by (repeat (first | exact Grew.refl _ | refine Grew.over ?_ _ | refine Grew.alloc ?_ _ | refine Grew.drew ?_ | refine Grew.drewN ?_ _))⟩
      case true =>
      by_cases h3 : N < 3
      · replace Hf : Hid (chkC N E A = 1) := Lib.hid (by rw [Hf.out, if_pos rfl, if_pos h3])
        go_enter Tryd.func30, Tryd.ntmps30
        go_wp2_with (first
          | (go_at_call 43; apply Calls.mono; (with_reducible exact genus_re Hg.out (HR.out.toRotAw.grew (by (repeat (first | exact Grew.refl _ | refine Grew.over ?_ _ | refine Grew.alloc ?_ _ | refine Grew.drew ?_ | refine Grew.drewN ?_ _)))) HR.out.e5 rfl rfl); rintro e w' ⟨rfl, x, rfl⟩)
          | (go_at_call 44; apply Calls.mono; (with_reducible exact Hcm.out _ (by (repeat (first | exact Grew.refl _ | refine Grew.over ?_ _ | refine Grew.alloc ?_ _ | refine Grew.drew ?_ | refine Grew.drewN ?_ _)))); rintro e w' ⟨rfl, x, rfl⟩)
          | (go_at_call 45; apply Calls.mono; (with_reducible exact Hs.out _ (by (repeat (first | exact Grew.refl _ | refine Grew.over ?_ _ | refine Grew.alloc ?_ _ | refine Grew.drew ?_ | refine Grew.drewN ?_ _)))); rintro e w' ⟨rfl, x, rfl⟩))
        go_ret
        exact ⟨by rw [Hf.out]; rfl, by (repeat (first | exact Grew.refl _ | refine Grew.over ?_ _ | refine Grew.alloc ?_ _ | refine Grew.drew ?_ | refine Grew.drewN ?_ _))⟩
      · replace Hf : Hid (chkC N E A = 0) := Lib.hid (by rw [Hf.out, if_pos rfl, if_neg h3])
        go_enter Tryd.func30, Tryd.ntmps30
        go_wp2_with (first
          | (go_at_call 43; apply Calls.mono; (with_reducible exact genus_re Hg.out (HR.out.toRotAw.grew (by (repeat (first | exact Grew.refl _ | refine Grew.over ?_ _ | refine Grew.alloc ?_ _ | refine Grew.drew ?_ | refine Grew.drewN ?_ _)))) HR.out.e5 rfl rfl); rintro e w' ⟨rfl, x, rfl⟩)
          | (go_at_call 44; apply Calls.mono; (with_reducible exact Hcm.out _ (by (repeat (first | exact Grew.refl _ | refine Grew.over ?_ _ | refine Grew.alloc ?_ _ | refine Grew.drew ?_ | refine Grew.drewN ?_ _)))); rintro e w' ⟨rfl, x, rfl⟩)
          | (go_at_call 45; apply Calls.mono; (with_reducible exact Hs.out _ (by (repeat (first | exact Grew.refl _ | refine Grew.over ?_ _ | refine Grew.alloc ?_ _ | refine Grew.drew ?_ | refine Grew.drewN ?_ _)))); rintro e w' ⟨rfl, x, rfl⟩))
        go_ret
        exact ⟨by rw [Hf.out]; rfl, by (repeat (first | exact Grew.refl _ | refine Grew.over ?_ _ | refine Grew.alloc ?_ _ | refine Grew.drew ?_ | refine Grew.drewN ?_ _))⟩
    · have Hf : Hid (chkC N E A = 12) := Lib.hid (by unfold chkC connB; rw [if_pos Hg.out, if_neg (by rw [Hk.out]; simp [hk1])])
      clear hN
      have hki : ¬ (k : Int) = 1 := by omega
      go_enter Tryd.func30, Tryd.ntmps30
      go_wp2_with (first
        | (go_at_call 43; apply Calls.mono; (with_reducible exact genus_re Hg.out (HR.out.toRotAw.grew (by (repeat (first | exact Grew.refl _ | refine Grew.over ?_ _ | refine Grew.alloc ?_ _ | refine Grew.drew ?_ | refine Grew.drewN ?_ _)))) HR.out.e5 rfl rfl); rintro e w' ⟨rfl, x, rfl⟩)
        | (go_at_call 44; apply Calls.mono; (with_reducible exact Hcm.out _ (by (repeat (first | exact Grew.refl _ | refine Grew.over ?_ _ | refine Grew.alloc ?_ _ | refine Grew.drew ?_ | refine Grew.drewN ?_ _)))); rintro e w' ⟨rfl, x, rfl⟩))
      go_ret
      exact ⟨by rw [Hf.out]; rfl, by (repeat (first | exact Grew.refl _ | refine Grew.over ?_ _ | refine Grew.alloc ?_ _ | refine Grew.drew ?_ | refine Grew.drewN ?_ _))⟩
  · have Hf : Hid (chkC N E A = 13) := Lib.hid (by unfold chkC; rw [if_neg (by rw [Hg.out]; exact hg0)])
    go_enter Tryd.func30, Tryd.ntmps30
    go_wp2_with (go_at_call 43; apply Calls.mono; (with_reducible exact genus_re Hg.out (HR.out.toRotAw.grew (by (repeat (first | exact Grew.refl _ | refine Grew.over ?_ _ | refine Grew.alloc ?_ _ | refine Grew.drew ?_ | refine Grew.drewN ?_ _)))) HR.out.e5 rfl rfl); rintro e w' ⟨rfl, x, rfl⟩)
    go_ret
    exact ⟨by rw [Hf.out]; rfl, by (repeat (first | exact Grew.refl _ | refine Grew.over ?_ _ | refine Grew.alloc ?_ _ | refine Grew.drew ?_ | refine Grew.drewN ?_ _))⟩

/-! ### Triangulated -/
noncomputable def trgB (N : Int) (E : List (Int × Int)) (A : List (List Int)) : Bool := decide (chkC N E A = 0) && (facesO N E A).all fun l => decide (l.length = 3)
theorem trg_bad {N : Int} {E : List (Int × Int)} {A : List (List Int)} {i : Nat} (hi : i < (facesO N E A).length) (h : ¬ (rowOf (facesO N E A) i).length = 3) : trgB N E A = false := by
  unfold trgB
  rw [Bool.and_eq_false_iff]
  right
  rw [List.all_eq_false]
  refine ⟨rowOf (facesO N E A) i, ?_, by simp [h]⟩
  unfold rowOf
  rw [List.getD_eq_getElem?_getD, List.getElem?_eq_getElem hi]
  exact List.getElem_mem hi
theorem trg_all {N : Int} {E : List (Int × Int)} {A : List (List Int)} (h0 : chkC N E A = 0) (h : ∀ i, i < (facesO N E A).length → (rowOf (facesO N E A) i).length = 3) : trgB N E A = true := by
  unfold trgB
  rw [Bool.and_eq_true, decide_eq_true_iff, List.all_eq_true]
  refine ⟨h0, fun l hl => ?_⟩
  obtain ⟨i, hi, rfl⟩ := List.getElem_of_mem hl
  have := h i hi
  unfold rowOf at this
  rw [List.getD_eq_getElem?_getD, List.getElem?_eq_getElem hi] at this
  simpa using this
theorem chk_valid {N : Int} {E : List (Int × Int)} {A : List (List Int)} (h : chkC N E A = 0) : vRot N E A := by
  unfold chkC at h
  split at h
  · rename_i hg; exact gen_valid hg
  · cases h
theorem faces_len {N : Int} {E : List (Int × Int)} {A : List (List Int)} (he : E.length ≤ 100) : (facesO N E A).length ≤ 200 := by
  unfold facesO facesF
  split
  · have := facesN_len (M := 2 * E.length) (f := nxF A) (2 * E.length); omega
  · simp

set_option maxHeartbeats 4000000 in
theorem trg_p (N : Int) (pE pA : Option Addr) (nE nA cE cA : Nat) (E : List (Int × Int)) (A : List (List Int)) (w : World) (hR : RotIn w pE pA cE E A) (hL : Lim w) (hnE : E.length = nE) (hnA : A.length = nA) :
    Calls Tryd.prog 19 #[.agg #[.int .i64 N, .slice pE nE cE, .slice pA nA cA]] w fun e w' => e = .returned (.bool (trgB N E A)) ∧ Grew w w' := by
  subst hnE hnA
  have HR := Lib.hid hR
  have HL := Lib.hid hL
  have he1 := hR.e1
  obtain ⟨c, hc⟩ : ∃ c, chkC N E A = c := ⟨_, rfl⟩
  have Hc : Hid (∀ W1, Grew w W1 → Calls Tryd.prog 32 #[.agg #[.int .i64 N, .slice pE E.length cE, .slice pA A.length cA]] W1 fun e w' => e = .returned (.int .i64 c) ∧ Grew W1 w') := Lib.hid (fun W1 h1 => by rw [← hc]; exact check_p _ _ _ _ _ _ _ _ _ _ (HR.out.grew h1) (HL.out.grew h1) rfl rfl)
  clear hR hL
  by_cases hc0 : c = 0
  · subst hc0
    have HV := Lib.hid (chk_valid hc)
    have HRt := Lib.hid (HR.out.at HR.out.e5 (vRotB_iff.2 HV.out))
    have Hc0 := Lib.hid hc
    have hfl := faces_len (N := N) (A := A) he1
    obtain ⟨F, hF⟩ : ∃ F, facesO N E A = F := ⟨_, rfl⟩
    have HF := Lib.hid hF
    rw [hF] at hfl
    clear hc hF
    go_enter Tryd.func19, Tryd.ntmps19
    go_wp2_with (first
      | (go_at_call 32; apply Calls.mono; (with_reducible exact Hc.out _ (by (repeat (first | exact Grew.refl _ | refine Grew.over ?_ _ | refine Grew.alloc ?_ _ | refine Grew.drew ?_ | refine Grew.drewN ?_ _)))); rintro e w' ⟨rfl, x, rfl⟩)
      | (go_at_call 33; apply Calls.mono; (with_reducible exact faces_p _ _ _ _ _ _ _ _ _ _ (HRt.out.grew (by (repeat (first | exact Grew.refl _ | refine Grew.over ?_ _ | refine Grew.alloc ?_ _ | refine Grew.drew ?_ | refine Grew.drewN ?_ _)))) (HL.out.grew (by (repeat (first | exact Grew.refl _ | refine Grew.over ?_ _ | refine Grew.alloc ?_ _ | refine Grew.drew ?_ | refine Grew.drewN ?_ _)))) rfl rfl); rintro e w3 ⟨hg3, qF, cF, rfl, hM3⟩; rw [HF.out] at hM3; rw [HF.out]; have HM := Lib.hid hM3; have Hg3 := Lib.hid ((show Grew w _ by (repeat (first | exact Grew.refl _ | refine Grew.over ?_ _ | refine Grew.alloc ?_ _ | refine Grew.drew ?_ | refine Grew.drewN ?_ _))).trans hg3); clear hM3 hg3))
    go_loop [11] (fun i => ∃ j : Nat, j ≤ F.length ∧ i = .int .i64 j ∧ ∀ t, t < j → (rowOf F t).length = 3) (fun i => F.length - (intOf i).toNat)
    case atStart => exact ⟨0, Nat.zero_le _, rfl, fun t ht => absurd ht (Nat.not_lt_zero _)⟩
    case round =>
      obtain ⟨j, hj, rfl, hok⟩ := hrel
      have Hok := Lib.hid hok
      clear hok
      by_cases hlt : j < F.length
      · obtain ⟨bF, oF, rp, rc, rfl, lF, cF'⟩ := HM.out.rows (by omega)
        obtain ⟨a1, a2⟩ := cF' _ (Grew.refl _) j hlt
        obtain ⟨rv, hrv⟩ : ∃ rv, rp j = rv := ⟨_, rfl⟩
        obtain ⟨rl, hrl⟩ : ∃ rl, (rowOf F j).length = rl := ⟨_, rfl⟩
        have hr9 := a2.1
        have Hrl := Lib.hid hrl
        rw [hrv, hrl] at a1
        rw [hrl] at hr9
        clear cF' hrv hrl a2
        by_cases h3 : rl = 3
        · subst h3
          go_wp2
          go_round
          case rel => exact ⟨j + 1, by omega, by go_num, fun t ht => (by
            by_cases e : t = j
            · rw [e]; exact Hrl.out
            · exact Hok.out t (by omega))⟩
          case measure => simp [intOf]; omega
        · have h3i : ¬ (rl : Int) = 3 := by omega
          have Hf : Hid (trgB N E A = false) := Lib.hid (trg_bad (i := j) (by rw [HF.out]; exact hlt) (by rw [HF.out, Hrl.out]; exact h3))
          go_wp2
          go_ret
          exact ⟨by rw [Hf.out]; rfl, Hg3.out.trans (by (repeat (first | exact Grew.refl _ | refine Grew.over ?_ _ | refine Grew.alloc ?_ _ | refine Grew.drew ?_ | refine Grew.drewN ?_ _)))⟩
      · have Hf : Hid (trgB N E A = true) := Lib.hid (trg_all Hc0.out (by rw [HF.out]; exact fun t ht => Hok.out t (by omega)))
        go_wp2
        go_ret
        exact ⟨by rw [Hf.out]; rfl, Hg3.out.trans (by (repeat (first | exact Grew.refl _ | refine Grew.over ?_ _ | refine Grew.alloc ?_ _ | refine Grew.drew ?_ | refine Grew.drewN ?_ _)))⟩
  · have Hf : Hid (trgB N E A = false) := Lib.hid (by unfold trgB; rw [hc, decide_eq_false hc0]; rfl)
    clear hc
    go_enter Tryd.func19, Tryd.ntmps19
    go_wp2_with (go_at_call 32; apply Calls.mono; (with_reducible exact Hc.out _ (by (repeat (first | exact Grew.refl _ | refine Grew.over ?_ _ | refine Grew.alloc ?_ _ | refine Grew.drew ?_ | refine Grew.drewN ?_ _)))); rintro e w' ⟨rfl, x, rfl⟩)
    go_ret
    exact ⟨by rw [Hf.out]; rfl, by (repeat (first | exact Grew.refl _ | refine Grew.over ?_ _ | refine Grew.alloc ?_ _ | refine Grew.drew ?_ | refine Grew.drewN ?_ _))⟩

set_option maxHeartbeats 4000000 in
theorem trg_r (N : Int) (pE pA : Option Addr) (nE nA cE cA : Nat) (E : List (Int × Int)) (A : List (List Int)) (w : World) (hR : RotIn w pE pA cE E A) (hnE : E.length = nE) (hnA : A.length = nA) :
    Calls Tryd.prog 15 #[.agg #[.int .i64 N, .slice pE nE cE, .slice pA nA cA]] w fun e w' => e = .returned (.bool (trgB N E A)) ∧ Grew w w' := by
  subst hnE hnA
  have HR := Lib.hid hR
  have he1 := hR.e1
  obtain ⟨c, hc⟩ : ∃ c, chkC N E A = c := ⟨_, rfl⟩
  have Hc : Hid (∀ W1, Grew w W1 → Calls Tryd.prog 30 #[.agg #[.int .i64 N, .slice pE E.length cE, .slice pA A.length cA]] W1 fun e w' => e = .returned (.int .i64 c) ∧ Grew W1 w') := Lib.hid (fun W1 h1 => by rw [← hc]; exact check_r _ _ _ _ _ _ _ _ _ _ (HR.out.grew h1) rfl rfl)
  clear hR
  by_cases hc0 : c = 0
  · subst hc0
    have HV := Lib.hid (chk_valid hc)
    have HRt := Lib.hid (HR.out.at HR.out.e5 (vRotB_iff.2 HV.out))
    have Hc0 := Lib.hid hc
    have hfl := faces_len (N := N) (A := A) he1
    obtain ⟨F, hF⟩ : ∃ F, facesO N E A = F := ⟨_, rfl⟩
    have HF := Lib.hid hF
    rw [hF] at hfl
    clear hc hF
    go_enter Tryd.func15, Tryd.ntmps15
    go_wp2_with (first
      | (go_at_call 30; apply Calls.mono; (with_reducible exact Hc.out _ (by (repeat (first | exact Grew.refl _ | refine Grew.over ?_ _ | refine Grew.alloc ?_ _ | refine Grew.drew ?_ | refine Grew.drewN ?_ _)))); rintro e w' ⟨rfl, x, rfl⟩)
      | (go_at_call 31; apply Calls.mono; (with_reducible exact faces_r _ _ _ _ _ _ _ _ _ _ (HRt.out.grew (by (repeat (first | exact Grew.refl _ | refine Grew.over ?_ _ | refine Grew.alloc ?_ _ | refine Grew.drew ?_ | refine Grew.drewN ?_ _)))) rfl rfl); rintro e w3 ⟨hg3, qF, cF, rfl, hM3⟩; rw [HF.out] at hM3; rw [HF.out]; have HM := Lib.hid hM3; have Hg3 := Lib.hid ((show Grew w _ by (repeat (first | exact Grew.refl _ | refine Grew.over ?_ _ | refine Grew.alloc ?_ _ | refine Grew.drew ?_ | refine Grew.drewN ?_ _))).trans hg3); clear hM3 hg3))
    go_loop [4] (fun i => ∃ j : Nat, j ≤ F.length ∧ i = .int .i64 j ∧ ∀ t, t < j → (rowOf F t).length = 3) (fun i => F.length - (intOf i).toNat)
    case atStart => exact ⟨0, Nat.zero_le _, rfl, fun t ht => absurd ht (Nat.not_lt_zero _)⟩
    case round =>
      obtain ⟨j, hj, rfl, hok⟩ := hrel
      have Hok := Lib.hid hok
      clear hok
      by_cases hlt : j < F.length
      · obtain ⟨bF, oF, rp, rc, rfl, lF, cF'⟩ := HM.out.rows (by omega)
        obtain ⟨a1, a2⟩ := cF' _ (Grew.refl _) j hlt
        obtain ⟨rv, hrv⟩ : ∃ rv, rp j = rv := ⟨_, rfl⟩
        obtain ⟨rl, hrl⟩ : ∃ rl, (rowOf F j).length = rl := ⟨_, rfl⟩
        have hr9 := a2.1
        have Hrl := Lib.hid hrl
        rw [hrv, hrl] at a1
        rw [hrl] at hr9
        clear cF' hrv hrl a2
        by_cases h3 : rl = 3
        · subst h3
          go_wp2
          go_round
          case rel => exact ⟨j + 1, by omega, by go_num, fun t ht => (by
            by_cases e : t = j
            · rw [e]; exact Hrl.out
            · exact Hok.out t (by omega))⟩
          case measure => simp [intOf]; omega
        · have h3i : ¬ (rl : Int) = 3 := by omega
          have Hf : Hid (trgB N E A = false) := Lib.hid (trg_bad (i := j) (by rw [HF.out]; exact hlt) (by rw [HF.out, Hrl.out]; exact h3))
          go_wp2
          go_ret
          exact ⟨by rw [Hf.out]; rfl, Hg3.out.trans (by (repeat (first | exact Grew.refl _ | refine Grew.over ?_ _ | refine Grew.alloc ?_ _ | refine Grew.drew ?_ | refine Grew.drewN ?_ _)))⟩
      · have Hf : Hid (trgB N E A = true) := Lib.hid (trg_all Hc0.out (by rw [HF.out]; exact fun t ht => Hok.out t (by omega)))
        go_wp2
        go_ret
        exact ⟨by rw [Hf.out]; rfl, Hg3.out.trans (by (repeat (first | exact Grew.refl _ | refine Grew.over ?_ _ | refine Grew.alloc ?_ _ | refine Grew.drew ?_ | refine Grew.drewN ?_ _)))⟩
  · have Hf : Hid (trgB N E A = false) := Lib.hid (by unfold trgB; rw [hc, decide_eq_false hc0]; rfl)
    clear hc
    go_enter Tryd.func15, Tryd.ntmps15
    go_wp2_with (go_at_call 30; apply Calls.mono; (with_reducible exact Hc.out _ (by (repeat (first | exact Grew.refl _ | refine Grew.over ?_ _ | refine Grew.alloc ?_ _ | refine Grew.drew ?_ | refine Grew.drewN ?_ _)))); rintro e w' ⟨rfl, x, rfl⟩)
    go_ret
    exact ⟨by rw [Hf.out]; rfl, by (repeat (first | exact Grew.refl _ | refine Grew.over ?_ _ | refine Grew.alloc ?_ _ | refine Grew.drew ?_ | refine Grew.drewN ?_ _))⟩

end Go.Proofs.YtdacnkjmimhcaaaDoor
