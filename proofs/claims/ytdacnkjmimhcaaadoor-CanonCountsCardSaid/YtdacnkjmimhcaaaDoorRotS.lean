/- Genus of both. -/
import Derived.Test.YtdacnkjmimhcaaaDoorRotR
set_option linter.unusedSimpArgs false
set_option linter.unusedVariables false
namespace Go.Proofs.YtdacnkjmimhcaaaDoor
open Go.RowKit
attribute [local go_sem ↓] Go.wp_at_zero Go.wp_at_succ

noncomputable def genusF (N : Int) (E : List (Int × Int)) (A : List (List Int)) : Int :=
  if vRotB N E A = true then (cntL E A.length : Int) - (N - E.length + (((facesO N E A).length : Int) + cntP (fun u => (rowOf A u).length = 0) A.length)).tdiv 2 else -1

set_option maxRecDepth 8000 in
set_option maxHeartbeats 8000000 in
theorem genus_p (N : Int) (pE pA : Option Addr) (nE nA cE cA : Nat) (E : List (Int × Int)) (A : List (List Int)) (w : World) (hR : RotAt w pE pA E A) (hL : Lim w) (hnE : E.length = nE) (hnA : A.length = nA) :
    Calls Tryd.prog 49 #[.agg #[.int .i64 N, .slice pE nE cE, .slice pA nA cA]] w fun e w' => e = .returned (.int .i64 (genusF N E A)) ∧ Grew w w' := by
  subst hnE hnA
  have he1 := hR.e1
  have ha1 := hR.a1
  have HR := Lib.hid hR
  have HL := Lib.hid hL
  cases hv : vRotB N E A
  case false =>
    have Hf : Hid (genusF N E A = -1) := Lib.hid (by unfold genusF; simp [hv])
    have Hv := Lib.hid hv
    clear hv hR hL
    go_enter Tryd.func49, Tryd.ntmps49
    go_wp2_with (go_at_call 38; apply Calls.mono; (with_reducible exact valid_pe Hv.out (HR.out.grew (by (repeat (first | exact Grew.refl _ | refine Grew.over ?_ _ | refine Grew.alloc ?_ _ | refine Grew.drew ?_ | refine Grew.drewN ?_ _)))) (HL.out.grew (by (repeat (first | exact Grew.refl _ | refine Grew.over ?_ _ | refine Grew.alloc ?_ _ | refine Grew.drew ?_ | refine Grew.drewN ?_ _)))) rfl rfl); rintro e w' ⟨rfl, x, rfl⟩)
    go_ret
    exact ⟨by rw [Hf.out]; rfl, by (repeat (first | exact Grew.refl _ | refine Grew.over ?_ _ | refine Grew.alloc ?_ _ | refine Grew.drew ?_ | refine Grew.drewN ?_ _))⟩
  case true =>
  have Hv := Lib.hid hv
  have hV := vRotB_iff.1 hv
  have HV := Lib.hid hV
  have hN : N = A.length := hV.al.symm
  subst hN
  obtain ⟨f, hf⟩ : ∃ f, (facesO A.length E A).length = f := ⟨_, rfl⟩
  have hf2 : f ≤ 200 := by
    rw [← hf]
    unfold facesO facesF
    rw [if_pos hv]
    have := facesN_len (M := 2 * E.length) (f := nxF A) (2 * E.length)
    omega
  have Hf : Hid (genusF A.length E A = (cntL E A.length : Int) - ((A.length : Int) - E.length + ((f : Int) + cntP (fun u => (rowOf A u).length = 0) A.length)).tdiv 2) := Lib.hid (by unfold genusF; rw [if_pos hv, hf])
  have hcl : cntL E A.length ≤ A.length := cntP_le _ _
  have HCl := Lib.hid hcl
  have Hlf := Lib.hid hf
  clear hv hV hR hf hcl hL
  go_enter Tryd.func49, Tryd.ntmps49
  go_wp2_with (first
    | (go_at_call 38; apply Calls.mono; (with_reducible exact valid_pe Hv.out (HR.out.grew (by (repeat (first | exact Grew.refl _ | refine Grew.over ?_ _ | refine Grew.alloc ?_ _ | refine Grew.drew ?_ | refine Grew.drewN ?_ _)))) (HL.out.grew (by (repeat (first | exact Grew.refl _ | refine Grew.over ?_ _ | refine Grew.alloc ?_ _ | refine Grew.drew ?_ | refine Grew.drewN ?_ _)))) rfl rfl); rintro e w' ⟨rfl, x, rfl⟩)
    | (go_at_call 33; apply Calls.mono; (with_reducible exact faces_p _ _ _ _ _ _ _ _ _ _ (HR.out.grew (by (repeat (first | exact Grew.refl _ | refine Grew.over ?_ _ | refine Grew.alloc ?_ _ | refine Grew.drew ?_ | refine Grew.drewN ?_ _)))) (HL.out.grew (by (repeat (first | exact Grew.refl _ | refine Grew.over ?_ _ | refine Grew.alloc ?_ _ | refine Grew.drew ?_ | refine Grew.drewN ?_ _)))) rfl rfl); rintro e w3 ⟨hg3, qF, cF, rfl, _⟩; obtain ⟨x3, rfl⟩ := hg3; rw [Hlf.out]))
  go_loop [3, 15] (fun vf i => ∃ v : Nat, v ≤ A.length ∧ i = .int .i64 v ∧ vf = .int .i64 ((f : Int) + cntP (fun u => (rowOf A u).length = 0) v)) (fun _ i => A.length - (intOf i).toNat)
  case atStart => exact ⟨0, Nat.zero_le _, rfl, by simp [cntP]⟩
  case round =>
    obtain ⟨v, hv, rfl, rfl⟩ := hrel
    have hce := cntP_le (fun u => (rowOf A u).length = 0) v
    have Hcs : Hid (cntP (fun u => (rowOf A u).length = 0) (v + 1) = cntP (fun u => (rowOf A u).length = 0) v + if (rowOf A v).length = 0 then 1 else 0) := Lib.hid (by simp only [cntP]; split <;> rename_i h <;> simp [h])
    by_cases hlv : v < A.length
    · obtain ⟨c, hc⟩ : ∃ c, cntP (fun u => (rowOf A u).length = 0) v = c := ⟨_, rfl⟩
      rw [hc] at hce Hcs ⊢
      clear hc
      obtain ⟨bA, oA, rp, rc, rfl, lA, cA'⟩ := HR.out.hA.rows (by omega)
      obtain ⟨a1, _⟩ := cA' w (Grew.refl _) v hlv
      obtain ⟨rv, hrv⟩ : ∃ rv, rp v = rv := ⟨_, rfl⟩
      rw [hrv] at a1
      have hrl := HR.out.r1 v hlv
      clear cA' hrv
      by_cases h0 : rowOf A v = []
      · have Hcs2 : Hid (cntP (fun u => (rowOf A u).length = 0) (v + 1) = c + 1) := Lib.hid (by rw [Hcs.out, if_pos (by rw [h0]; rfl)])
        rw [h0] at a1
        clear h0 hrl
        go_wp2
        go_round
        case rel => exact ⟨v + 1, by omega, by go_num, by rw [Hcs2.out]; go_num⟩
        case measure => simp [intOf]; omega
      · have h0l : 0 < (rowOf A v).length := List.length_pos_iff.2 h0
        have Hcs2 : Hid (cntP (fun u => (rowOf A u).length = 0) (v + 1) = c) := Lib.hid (by rw [Hcs.out, if_neg (by omega)]; rfl)
        go_wp2
        go_round
        case rel => exact ⟨v + 1, by omega, by go_num, by rw [Hcs2.out]⟩
        case measure => simp [intOf]; omega
    · have hve : v = A.length := by omega
      subst hve
      have hce2 := HCl.out
      obtain ⟨c, hc⟩ : ∃ c, cntP (fun u => (rowOf A u).length = 0) A.length = c := ⟨_, rfl⟩
      rw [hc] at hce Hf ⊢
      obtain ⟨cl, hcl⟩ : ∃ cl, cntL E A.length = cl := ⟨_, rfl⟩
      have HC := Lib.hid (fun (W1 : World) (hg : Grew w W1) => (hcl ▸ comps_p A.length pE pA E.length A.length cE cA E A W1 (HR.out.grew hg) HV.out rfl rfl))
      rw [hcl] at Hf hce2
      clear hc hcl Hcs
      go_upto_region 10 with fail
      refine wp_region_over (by kernel_rfl) (by kernel_rfl) ?_; (repeat (go_big_quiet_step ((go_at_call 57; apply over_call; with_reducible exact HC.out _ (by (repeat (first | exact Grew.refl _ | refine Grew.over ?_ _ | refine Grew.alloc ?_ _ | refine Grew.drew ?_ | refine Grew.drewN ?_ _))))))); refine wpQuiet_nil ?_; rintro _ ⟨x, rfl⟩
      have htd : -1000 ≤ ((A.length : Int) - E.length + ((f : Int) + c)).tdiv 2 ∧ ((A.length : Int) - E.length + ((f : Int) + c)).tdiv 2 ≤ 1000 := by
        generalize hX : (A.length : Int) - E.length + ((f : Int) + c) = X
        have : X ≤ 1000 := by omega
        have : -1000 ≤ X := by omega
        have h2 : Int.sign 2 = 1 := rfl
        rw [Int.tdiv_eq_ediv]
        split <;> omega
      have hwr : wrap64 ((cl : Int) - ((A.length : Int) - E.length + ((f : Int) + c)).tdiv 2) = (cl : Int) - ((A.length : Int) - E.length + ((f : Int) + c)).tdiv 2 := IntWalk.wrap64_in _ ⟨by omega, by omega⟩
      have Hwr := Lib.hid (hwr.trans Hf.out.symm)
      clear htd hwr
      go_wp2
      go_ret
      exact ⟨ret_int Hwr.out, by (repeat (first | exact Grew.refl _ | refine Grew.over ?_ _ | refine Grew.alloc ?_ _ | refine Grew.drew ?_ | refine Grew.drewN ?_ _))⟩

set_option maxRecDepth 8000 in
set_option maxHeartbeats 8000000 in
theorem genus_r (N : Int) (pE pA : Option Addr) (nE nA cE cA : Nat) (E : List (Int × Int)) (A : List (List Int)) (w : World) (hR : RotAt w pE pA E A) (hnE : E.length = nE) (hnA : A.length = nA) :
    Calls Tryd.prog 43 #[.agg #[.int .i64 N, .slice pE nE cE, .slice pA nA cA]] w fun e w' => e = .returned (.int .i64 (genusF N E A)) ∧ Grew w w' := by
  subst hnE hnA
  have he1 := hR.e1
  have ha1 := hR.a1
  have HR := Lib.hid hR
  skip
  cases hv : vRotB N E A
  case false =>
    have Hf : Hid (genusF N E A = -1) := Lib.hid (by unfold genusF; simp [hv])
    have Hv := Lib.hid hv
    clear hv hR
    go_enter Tryd.func43, Tryd.ntmps43
    go_wp2_with (go_at_call 46; apply Calls.mono; (with_reducible exact valid_re Hv.out (HR.out.grew (by (repeat (first | exact Grew.refl _ | refine Grew.over ?_ _ | refine Grew.alloc ?_ _ | refine Grew.drew ?_ | refine Grew.drewN ?_ _)))) rfl rfl); rintro e w' ⟨rfl, x, rfl⟩)
    go_ret
    exact ⟨by rw [Hf.out]; rfl, by (repeat (first | exact Grew.refl _ | refine Grew.over ?_ _ | refine Grew.alloc ?_ _ | refine Grew.drew ?_ | refine Grew.drewN ?_ _))⟩
  case true =>
  have Hv := Lib.hid hv
  have hV := vRotB_iff.1 hv
  have HV := Lib.hid hV
  have hN : N = A.length := hV.al.symm
  subst hN
  obtain ⟨f, hf⟩ : ∃ f, (facesO A.length E A).length = f := ⟨_, rfl⟩
  have hf2 : f ≤ 200 := by
    rw [← hf]
    unfold facesO facesF
    rw [if_pos hv]
    have := facesN_len (M := 2 * E.length) (f := nxF A) (2 * E.length)
    omega
  have Hf : Hid (genusF A.length E A = (cntL E A.length : Int) - ((A.length : Int) - E.length + ((f : Int) + cntP (fun u => (rowOf A u).length = 0) A.length)).tdiv 2) := Lib.hid (by unfold genusF; rw [if_pos hv, hf])
  have hcl : cntL E A.length ≤ A.length := cntP_le _ _
  have HCl := Lib.hid hcl
  have Hlf := Lib.hid hf
  clear hv hV hR hf hcl
  go_enter Tryd.func43, Tryd.ntmps43
  go_wp2_with (first
    | (go_at_call 46; apply Calls.mono; (with_reducible exact valid_re Hv.out (HR.out.grew (by (repeat (first | exact Grew.refl _ | refine Grew.over ?_ _ | refine Grew.alloc ?_ _ | refine Grew.drew ?_ | refine Grew.drewN ?_ _)))) rfl rfl); rintro e w' ⟨rfl, x, rfl⟩)
    | (go_at_call 31; apply Calls.mono; (with_reducible exact faces_r _ _ _ _ _ _ _ _ _ _ (HR.out.grew (by (repeat (first | exact Grew.refl _ | refine Grew.over ?_ _ | refine Grew.alloc ?_ _ | refine Grew.drew ?_ | refine Grew.drewN ?_ _)))) rfl rfl); rintro e w3 ⟨hg3, qF, cF, rfl, _⟩; obtain ⟨x3, rfl⟩ := hg3; rw [Hlf.out]))
  go_loop [3, 4] (fun vf i => ∃ v : Nat, v ≤ A.length ∧ i = .int .i64 v ∧ vf = .int .i64 ((f : Int) + cntP (fun u => (rowOf A u).length = 0) v)) (fun _ i => A.length - (intOf i).toNat)
  case atStart => exact ⟨0, Nat.zero_le _, rfl, by simp [cntP]⟩
  case round =>
    obtain ⟨v, hv, rfl, rfl⟩ := hrel
    have hce := cntP_le (fun u => (rowOf A u).length = 0) v
    have Hcs : Hid (cntP (fun u => (rowOf A u).length = 0) (v + 1) = cntP (fun u => (rowOf A u).length = 0) v + if (rowOf A v).length = 0 then 1 else 0) := Lib.hid (by simp only [cntP]; split <;> rename_i h <;> simp [h])
    by_cases hlv : v < A.length
    · obtain ⟨c, hc⟩ : ∃ c, cntP (fun u => (rowOf A u).length = 0) v = c := ⟨_, rfl⟩
      rw [hc] at hce Hcs ⊢
      clear hc
      obtain ⟨bA, oA, rp, rc, rfl, lA, cA'⟩ := HR.out.hA.rows (by omega)
      obtain ⟨a1, _⟩ := cA' w (Grew.refl _) v hlv
      obtain ⟨rv, hrv⟩ : ∃ rv, rp v = rv := ⟨_, rfl⟩
      rw [hrv] at a1
      have hrl := HR.out.r1 v hlv
      clear cA' hrv
      by_cases h0 : rowOf A v = []
      · have Hcs2 : Hid (cntP (fun u => (rowOf A u).length = 0) (v + 1) = c + 1) := Lib.hid (by rw [Hcs.out, if_pos (by rw [h0]; rfl)])
        rw [h0] at a1
        clear h0 hrl
        go_wp2
        go_round
        case rel => exact ⟨v + 1, by omega, by go_num, by rw [Hcs2.out]; go_num⟩
        case measure => simp [intOf]; omega
      · have h0l : 0 < (rowOf A v).length := List.length_pos_iff.2 h0
        have Hcs2 : Hid (cntP (fun u => (rowOf A u).length = 0) (v + 1) = c) := Lib.hid (by rw [Hcs.out, if_neg (by omega)]; rfl)
        go_wp2
        go_round
        case rel => exact ⟨v + 1, by omega, by go_num, by rw [Hcs2.out]⟩
        case measure => simp [intOf]; omega
    · have hve : v = A.length := by omega
      subst hve
      have hce2 := HCl.out
      obtain ⟨c, hc⟩ : ∃ c, cntP (fun u => (rowOf A u).length = 0) A.length = c := ⟨_, rfl⟩
      rw [hc] at hce Hf ⊢
      obtain ⟨cl, hcl⟩ : ∃ cl, cntL E A.length = cl := ⟨_, rfl⟩
      have HC := Lib.hid (fun (W1 : World) (hg : Grew w W1) => (hcl ▸ comps_r A.length pE pA E.length A.length cE cA E A W1 (HR.out.grew hg) HV.out rfl rfl))
      rw [hcl] at Hf hce2
      clear hc hcl Hcs
      go_upto_region 9 with fail
      refine wp_region_over (by kernel_rfl) (by kernel_rfl) ?_; (repeat (go_big_quiet_step ((go_at_call 44; apply over_call; with_reducible exact HC.out _ (by (repeat (first | exact Grew.refl _ | refine Grew.over ?_ _ | refine Grew.alloc ?_ _ | refine Grew.drew ?_ | refine Grew.drewN ?_ _))))))); refine wpQuiet_nil ?_; rintro _ ⟨x, rfl⟩
      have htd : -1000 ≤ ((A.length : Int) - E.length + ((f : Int) + c)).tdiv 2 ∧ ((A.length : Int) - E.length + ((f : Int) + c)).tdiv 2 ≤ 1000 := by
        generalize hX : (A.length : Int) - E.length + ((f : Int) + c) = X
        have : X ≤ 1000 := by omega
        have : -1000 ≤ X := by omega
        have h2 : Int.sign 2 = 1 := rfl
        rw [Int.tdiv_eq_ediv]
        split <;> omega
      have hwr : wrap64 ((cl : Int) - ((A.length : Int) - E.length + ((f : Int) + c)).tdiv 2) = (cl : Int) - ((A.length : Int) - E.length + ((f : Int) + c)).tdiv 2 := IntWalk.wrap64_in _ ⟨by omega, by omega⟩
      have Hwr := Lib.hid (hwr.trans Hf.out.symm)
      clear htd hwr
      go_wp2
      go_ret
      exact ⟨ret_int Hwr.out, by (repeat (first | exact Grew.refl _ | refine Grew.over ?_ _ | refine Grew.alloc ?_ _ | refine Grew.drew ?_ | refine Grew.drewN ?_ _))⟩

end Go.Proofs.YtdacnkjmimhcaaaDoor
