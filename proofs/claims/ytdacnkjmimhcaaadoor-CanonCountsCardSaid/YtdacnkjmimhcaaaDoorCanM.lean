/- CanonChecks, CanonContours: the laws' calls. -/
import Derived.Test.YtdacnkjmimhcaaaDoorCanL
set_option linter.unusedSimpArgs false
set_option linter.unusedVariables false
namespace Go.Proofs.YtdacnkjmimhcaaaDoor
open Go.RowKit
attribute [local go_sem ↓] Go.wp_at_zero Go.wp_at_succ

def smB (N : Int) (nE nA : Nat) : Bool := decide (N ≤ 14) && decide (nE ≤ 40) && decide (nA ≤ 30)
theorem small_l (N : Int) (pE pA : Option Addr) (nE nA cE cA : Nat) (w : World) : Calls Tryd.prog 7 #[.agg #[.int .i64 N, .slice pE nE cE, .slice pA nA cA]] w fun e w' => e = .returned (.bool (smB N nE nA)) ∧ Grew w w' := by
  by_cases h1 : N ≤ 14
  case neg =>
    have hb : smB N nE nA = false := by unfold smB; rw [decide_eq_false h1]; rfl
    have g1 : decide (N ≤ 14) = false := decide_eq_false h1
    rw [hb]
    go_enter Tryd.func7, Tryd.ntmps7
    go_wp2
    go_ret
    exact ⟨rfl, by (repeat (first | exact Grew.refl _ | refine Grew.over ?_ _ | refine Grew.alloc ?_ _ | refine Grew.drew ?_ | refine Grew.drewN ?_ _))⟩
  by_cases h2 : nE ≤ 40
  case neg =>
    have hb : smB N nE nA = false := by unfold smB; rw [decide_eq_false h2]; simp
    have g1 : decide (N ≤ 14) = true := decide_eq_true h1
    have g2 : ¬ (nE : Int) ≤ 40 := by omega
    rw [hb]
    go_enter Tryd.func7, Tryd.ntmps7
    go_wp2
    go_ret
    exact ⟨rfl, by (repeat (first | exact Grew.refl _ | refine Grew.over ?_ _ | refine Grew.alloc ?_ _ | refine Grew.drew ?_ | refine Grew.drewN ?_ _))⟩
  have g1 : decide (N ≤ 14) = true := decide_eq_true h1
  have g2 : (nE : Int) ≤ 40 := by omega
  obtain ⟨b, hb⟩ : ∃ b, decide (nA ≤ 30) = b := ⟨_, rfl⟩
  have hr : smB N nE nA = b := by unfold smB; rw [decide_eq_true h1, decide_eq_true h2, hb]; rfl
  have g3 : decide ((nA : Int) ≤ 30) = b := by rw [← hb]; exact decide_eq_decide.2 (by omega)
  rw [hr]
  clear hr hb
  go_enter Tryd.func7, Tryd.ntmps7
  go_wp2
  go_ret
  exact ⟨rfl, by (repeat (first | exact Grew.refl _ | refine Grew.over ?_ _ | refine Grew.alloc ?_ _ | refine Grew.drew ?_ | refine Grew.drewN ?_ _))⟩

theorem small_le {N : Int} {pE pA : Option Addr} {nE nA cE cA : Nat} {b : Bool} (h : smB N nE nA = b) (w : World) : Calls Tryd.prog 7 #[.agg #[.int .i64 N, .slice pE nE cE, .slice pA nA cA]] w fun e w' => e = .returned (.bool b) ∧ Grew w w' := h ▸ small_l N pE pA nE nA cE cA w
theorem rot_sm {N : Int} {pE pA : Option Addr} {cE : Nat} {E : List (Int × Int)} {A : List (List Int)} {w : World} (h : smB N E.length A.length = true) (hE : Prs w pE E) (hA : Mat w pA A) (c1 : E.length ≤ cE) (c2 : cE ≤ maxLen) : RotIn w pE pA cE E A := by
  unfold smB at h
  simp only [Bool.and_eq_true, decide_eq_true_iff] at h
  exact ⟨⟨hE, hA, by omega, by omega⟩, by omega, c1, c2⟩

set_option maxHeartbeats 4000000 in
theorem checksL (N : Int) (pE pA pO : Option Addr) (nE nA nO cE cA cO : Nat) (E : List (Int × Int)) (A : List (List Int)) (O : List Int) (k : Int) (w : World) (hE : Prs w pE E) (hA : Mat w pA A) (c1 : E.length ≤ cE) (c2 : cE ≤ maxLen) (hO : Ints w pO O)
    (c3 : nO ≤ cO) (c4 : cO ≤ maxLen) (hL : Lim w) (hnE : E.length = nE) (hnA : A.length = nA) (hnO : O.length = nO) :
    Calls Tryd.prog 3 #[.agg #[.int .i64 N, .slice pE nE cE, .slice pA nA cA], .slice pO nO cO, .int .i64 k] w fun e w' => e = .returned (.bool true) ∧ Grew w w' := by
  have HL := Lib.hid hL
  have HO := Lib.hid hO
  have Haw : Hid (∀ W1, Grew w W1 → Calls Tryd.prog 8 #[] W1 fun e w' => e = .returned (.bool true) ∧ Grew W1 w') := Lib.hid (fun W1 h => awake_l W1 (HL.out.grew h))
  obtain ⟨s, hs⟩ : ∃ s, smB N nE nA = s := ⟨_, rfl⟩
  have Hs : Hid (∀ W1, Calls Tryd.prog 7 #[.agg #[.int .i64 N, .slice pE nE cE, .slice pA nA cA]] W1 fun e w' => e = .returned (.bool s) ∧ Grew W1 w') := Lib.hid (fun W1 => small_le hs W1)
  cases s
  case false =>
    clear hs hE hA hO hL
    go_enter Tryd.func3, Tryd.ntmps3
    go_wp2_with (first
      | ((go_at_call 7; apply Calls.mono; (with_reducible exact Hs.out _); rintro e w' ⟨rfl, x, rfl⟩))
      | ((go_at_call 8; apply Calls.mono; (with_reducible exact Haw.out _ (by (repeat (first | exact Grew.refl _ | refine Grew.over ?_ _ | refine Grew.alloc ?_ _ | refine Grew.drew ?_ | refine Grew.drewN ?_ _)))); rintro e w' ⟨rfl, x, rfl⟩)))
    go_ret
    exact ⟨rfl, by (repeat (first | exact Grew.refl _ | refine Grew.over ?_ _ | refine Grew.alloc ?_ _ | refine Grew.drew ?_ | refine Grew.drewN ?_ _))⟩
  case true =>
  have HR := Lib.hid (rot_sm (by rw [hnE, hnA]; exact hs) hE hA c1 c2)
  clear hs hE hA hO hL
  by_cases h30 : 30 < nO
  · have g1 : (30 : Int) < (nO : Int) := by omega
    go_enter Tryd.func3, Tryd.ntmps3
    go_wp2_with (first
      | ((go_at_call 7; apply Calls.mono; (with_reducible exact Hs.out _); rintro e w' ⟨rfl, x, rfl⟩))
      | ((go_at_call 8; apply Calls.mono; (with_reducible exact Haw.out _ (by (repeat (first | exact Grew.refl _ | refine Grew.over ?_ _ | refine Grew.alloc ?_ _ | refine Grew.drew ?_ | refine Grew.drewN ?_ _)))); rintro e w' ⟨rfl, x, rfl⟩)))
    go_ret
    exact ⟨rfl, by (repeat (first | exact Grew.refl _ | refine Grew.over ?_ _ | refine Grew.alloc ?_ _ | refine Grew.drew ?_ | refine Grew.drewN ?_ _))⟩
  have g1 : ¬ (30 : Int) < (nO : Int) := by omega
  obtain ⟨L, hLL⟩ : ∃ L, (contRes N E A O k).1 = L := ⟨_, rfl⟩
  obtain ⟨er, her⟩ : ∃ er, (contRes N E A O k).2 = er := ⟨_, rfl⟩
  obtain ⟨t, ht⟩ : ∃ t, chkO N E A O = t := ⟨_, rfl⟩
  have Hcp : Hid (∀ W1, Grew w W1 → Calls Tryd.prog 9 #[.agg #[.int .i64 N, .slice pE nE cE, .slice pA nA cA], .slice pO nO cO, .int .i64 k] W1 (TwoPost L er W1)) := Lib.hid (fun W1 h => by
    rw [← hLL, ← her]
    exact contour36_p _ _ _ _ _ _ _ _ _ _ _ _ _ _ _ (HR.out.grew h) (HL.out.grew h) (HO.out.grew h) (by omega) c3 c4 hnE hnA hnO)
  have Hcr : Hid (∀ W1, Grew w W1 → Calls Tryd.prog 10 #[.agg #[.int .i64 N, .slice pE nE cE, .slice pA nA cA], .slice pO nO cO, .int .i64 k] W1 (TwoPost L er W1)) := Lib.hid (fun W1 h => by
    rw [← hLL, ← her]
    exact contour36_r _ _ _ _ _ _ _ _ _ _ _ _ _ _ _ (HR.out.grew h) (HO.out.grew h) (by omega) c3 c4 hnE hnA hnO)
  have Hkp : Hid (∀ W1, Grew w W1 → Calls Tryd.prog 11 #[.agg #[.int .i64 N, .slice pE nE cE, .slice pA nA cA], .slice pO nO cO] W1 fun e w' => e = .returned (.bool t) ∧ Grew W1 w') := Lib.hid (fun W1 h => by
    rw [← ht]
    exact check36_p _ _ _ _ _ _ _ _ _ _ _ _ _ _ (HR.out.grew h) (HL.out.grew h) (HO.out.grew h) (by omega) c3 c4 hnE hnA hnO)
  have Hkr : Hid (∀ W1, Grew w W1 → Calls Tryd.prog 12 #[.agg #[.int .i64 N, .slice pE nE cE, .slice pA nA cA], .slice pO nO cO] W1 fun e w' => e = .returned (.bool t) ∧ Grew W1 w') := Lib.hid (fun W1 h => by
    rw [← ht, ← chk_same]
    exact check36_r _ _ _ _ _ _ _ _ _ _ _ _ _ _ (HR.out.grew h) (HO.out.grew h) (by omega) c3 c4 hnE hnA hnO)
  clear hLL her ht
  go_enter Tryd.func3, Tryd.ntmps3
  go_upto_region 5 with (first
    | ((go_at_call 7; apply Calls.mono; (with_reducible exact Hs.out _); rintro e w' ⟨rfl, x, rfl⟩))
    | (go_at_call 9; apply Calls.mono; (with_reducible exact Hcp.out _ (by (repeat (first | exact Grew.refl _ | refine Grew.over ?_ _ | refine Grew.alloc ?_ _ | refine Grew.drew ?_ | refine Grew.drewN ?_ _)))); rintro e wx ⟨⟨xa, rfl⟩, qa, ca, rfl, hIa, _, _⟩; have HIa := Lib.hid hIa; clear hIa)
    | (go_at_call 10; apply Calls.mono; (with_reducible exact Hcr.out _ (by (repeat (first | exact Grew.refl _ | refine Grew.over ?_ _ | refine Grew.alloc ?_ _ | refine Grew.drew ?_ | refine Grew.drewN ?_ _)))); rintro e wx ⟨⟨xb, rfl⟩, qb, cb, rfl, hIb, _, _⟩; have HIb := Lib.hid hIb; clear hIb))
  refine wp_region_over (by kernel_rfl) (by kernel_rfl) ?_; (repeat (go_big_quiet_step (first
      | ((go_at_call 8; apply over_call; with_reducible exact Haw.out _ (by (repeat (first | exact Grew.refl _ | refine Grew.over ?_ _ | refine Grew.alloc ?_ _ | refine Grew.drew ?_ | refine Grew.drewN ?_ _)))))
      | ((go_at_call 11; apply over_call; with_reducible exact Hkp.out _ (by (repeat (first | exact Grew.refl _ | refine Grew.over ?_ _ | refine Grew.alloc ?_ _ | refine Grew.drew ?_ | refine Grew.drewN ?_ _)))))
      | ((go_at_call 12; apply over_call; with_reducible exact Hkr.out _ (by (repeat (first | exact Grew.refl _ | refine Grew.over ?_ _ | refine Grew.alloc ?_ _ | refine Grew.drew ?_ | refine Grew.drewN ?_ _)))))
      | ((go_at_call 13; apply over_call; with_reducible exact same3_l L.length rfl (HIa.out.grew (by (repeat (first | exact Grew.refl _ | refine Grew.over ?_ _ | refine Grew.alloc ?_ _ | refine Grew.drew ?_ | refine Grew.drewN ?_ _)))) (HIb.out.grew (by (repeat (first | exact Grew.refl _ | refine Grew.over ?_ _ | refine Grew.alloc ?_ _ | refine Grew.drew ?_ | refine Grew.drewN ?_ _))))))))); refine wpQuiet_nil ?_; rintro _ ⟨x, rfl⟩
  go_wp2
  go_ret
  exact ⟨rfl, by (repeat (first | exact Grew.refl _ | refine Grew.over ?_ _ | refine Grew.alloc ?_ _ | refine Grew.drew ?_ | refine Grew.drewN ?_ _))⟩

end Go.Proofs.YtdacnkjmimhcaaaDoor
