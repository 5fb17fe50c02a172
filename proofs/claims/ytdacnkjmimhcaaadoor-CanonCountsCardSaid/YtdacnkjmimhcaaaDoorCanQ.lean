/- CanonOrders: the law's walk. -/
import Derived.Test.YtdacnkjmimhcaaaDoorJorAll
import Derived.Test.YtdacnkjmimhcaaaDoorCanM
set_option linter.unusedSimpArgs false
set_option linter.unusedVariables false
namespace Go.Proofs.YtdacnkjmimhcaaaDoor
open Go.RowKit
attribute [local go_sem ↓] Go.wp_at_zero Go.wp_at_succ

set_option maxHeartbeats 1000000 in
theorem order_bad (N : Int) (pE pA : Option Addr) (nE nA cE cA : Nat) (E : List (Int × Int)) (A : List (List Int)) (w : World) (hR : RotIn w pE pA cE E A) (hL : Lim w) (hT : trgB N E A = false) (hnE : E.length = nE) (hnA : A.length = nA) :
    Calls Tryd.prog 14 #[.agg #[.int .i64 N, .slice pE nE cE, .slice pA nA cA]] w (TwoPost [] 13 w) := by
  have HR := Lib.hid hR
  have HL := Lib.hid hL
  clear hR hL
  have Htr : Hid (∀ W1, Grew w W1 → Calls Tryd.prog 19 #[.agg #[.int .i64 N, .slice pE nE cE, .slice pA nA cA]] W1 fun e w' => e = .returned (.bool false) ∧ Grew W1 w') := Lib.hid (fun W1 h => by rw [← hT]; exact trg_p _ _ _ _ _ _ _ _ _ _ (HR.out.grew h) (HL.out.grew h) hnE hnA)
  clear hT
  go_enter Tryd.func14, Tryd.ntmps14
  go_wp2_with ((go_at_call 19; apply Calls.mono; (with_reducible exact Htr.out _ (by (repeat (first | exact Grew.refl _ | refine Grew.over ?_ _ | refine Grew.alloc ?_ _ | refine Grew.drew ?_ | refine Grew.drewN ?_ _)))); rintro e w' ⟨rfl, x, rfl⟩))
  go_ret2
  exact TwoPost.none (by (repeat (first | exact Grew.refl _ | refine Grew.over ?_ _ | refine Grew.alloc ?_ _ | refine Grew.drew ?_ | refine Grew.drewN ?_ _)))
/-- What Order returns. -/
theorem order_any (N : Int) (pE pA : Option Addr) (nE nA cE cA : Nat) (E : List (Int × Int)) (A : List (List Int)) (w : World) (hR : RotIn w pE pA cE E A) (hL : Lim w) (hN : A.length ≤ 40) (hT : trgB N E A = true) (hnE : E.length = nE) (hnA : A.length = nA) :
    ∃ O, chkR N E A O = true ∧ ∀ W1, Grew w W1 → Calls Tryd.prog 14 #[.agg #[.int .i64 N, .slice pE nE cE, .slice pA nA cA]] W1 (TwoPost O 0 W1) := by
  obtain ⟨R, hp, hc⟩ := peel_can hT hN
  exact ⟨_, hc, fun W1 h => order_p _ _ _ _ _ _ _ _ _ 90 R W1 (hR.grew h) (hL.grew h) hT (by omega) hp hnE hnA⟩

set_option maxHeartbeats 2000000 in
theorem ordersL (N : Int) (pE pA : Option Addr) (nE nA cE cA : Nat) (E : List (Int × Int)) (A : List (List Int)) (w : World) (hE : Prs w pE E) (hA : Mat w pA A) (c1 : E.length ≤ cE) (c2 : cE ≤ maxLen) (hL : Lim w) (hnE : E.length = nE) (hnA : A.length = nA) :
    Calls Tryd.prog 4 #[.agg #[.int .i64 N, .slice pE nE cE, .slice pA nA cA]] w fun e w' => e = .returned (.bool true) ∧ Grew w w' := by
  have HL := Lib.hid hL
  have Haw : Hid (∀ W1, Grew w W1 → Calls Tryd.prog 8 #[] W1 fun e w' => e = .returned (.bool true) ∧ Grew W1 w') := Lib.hid (fun W1 h => awake_l W1 (HL.out.grew h))
  obtain ⟨s, hs⟩ : ∃ s, smB N nE nA = s := ⟨_, rfl⟩
  have Hs : Hid (∀ W1, Calls Tryd.prog 7 #[.agg #[.int .i64 N, .slice pE nE cE, .slice pA nA cA]] W1 fun e w' => e = .returned (.bool s) ∧ Grew W1 w') := Lib.hid (fun W1 => small_le hs W1)
  cases s
  case false =>
    clear hs hE hA hL
    go_enter Tryd.func4, Tryd.ntmps4
    go_wp2_with (first
      | ((go_at_call 7; apply Calls.mono; (with_reducible exact Hs.out _); rintro e w' ⟨rfl, x, rfl⟩))
      | ((go_at_call 8; apply Calls.mono; (with_reducible exact Haw.out _ (by (repeat (first | exact Grew.refl _ | refine Grew.over ?_ _ | refine Grew.alloc ?_ _ | refine Grew.drew ?_ | refine Grew.drewN ?_ _)))); rintro e w' ⟨rfl, x, rfl⟩)))
    go_ret
    exact ⟨rfl, by (repeat (first | exact Grew.refl _ | refine Grew.over ?_ _ | refine Grew.alloc ?_ _ | refine Grew.drew ?_ | refine Grew.drewN ?_ _))⟩
  case true =>
  have HR := Lib.hid (rot_sm (by rw [hnE, hnA]; exact hs) hE hA c1 c2)
  have hA30 : nA ≤ 30 := by
    unfold smB at hs
    simp only [Bool.and_eq_true, decide_eq_true_iff] at hs
    exact hs.2
  clear hs hE hA hL
  obtain ⟨t, ht⟩ : ∃ t, trgB N E A = t := ⟨_, rfl⟩
  have Htr : Hid (∀ W1, Grew w W1 → Calls Tryd.prog 15 #[.agg #[.int .i64 N, .slice pE nE cE, .slice pA nA cA]] W1 fun e w' => e = .returned (.bool t) ∧ Grew W1 w') := Lib.hid (fun W1 h => by
    rw [← ht]
    exact trg_r _ _ _ _ _ _ _ _ _ _ (HR.out.grew h) hnE hnA)
  cases t
  case false =>
    have Hob : Hid (∀ W1, Grew w W1 → Calls Tryd.prog 14 #[.agg #[.int .i64 N, .slice pE nE cE, .slice pA nA cA]] W1 (TwoPost [] 13 W1)) := Lib.hid (fun W1 h => order_bad _ _ _ _ _ _ _ _ _ _ (HR.out.grew h) (HL.out.grew h) ht hnE hnA)
    clear ht
    go_enter Tryd.func4, Tryd.ntmps4
    go_wp2_with (first
      | ((go_at_call 7; apply Calls.mono; (with_reducible exact Hs.out _); rintro e w' ⟨rfl, x, rfl⟩))
      | (go_at_call 14; apply Calls.mono; (with_reducible exact Hob.out _ (by (repeat (first | exact Grew.refl _ | refine Grew.over ?_ _ | refine Grew.alloc ?_ _ | refine Grew.drew ?_ | refine Grew.drewN ?_ _)))); rintro e wx ⟨⟨xa, rfl⟩, qa, ca, rfl, hIa, _, _⟩; have HIa := Lib.hid hIa; clear hIa)
      | ((go_at_call 15; apply Calls.mono; (with_reducible exact Htr.out _ (by (repeat (first | exact Grew.refl _ | refine Grew.over ?_ _ | refine Grew.alloc ?_ _ | refine Grew.drew ?_ | refine Grew.drewN ?_ _)))); rintro e w' ⟨rfl, x, rfl⟩))
      | ((go_at_call 8; apply Calls.mono; (with_reducible exact Haw.out _ (by (repeat (first | exact Grew.refl _ | refine Grew.over ?_ _ | refine Grew.alloc ?_ _ | refine Grew.drew ?_ | refine Grew.drewN ?_ _)))); rintro e w' ⟨rfl, x, rfl⟩)))
    go_ret
    exact ⟨rfl, by (repeat (first | exact Grew.refl _ | refine Grew.over ?_ _ | refine Grew.alloc ?_ _ | refine Grew.drew ?_ | refine Grew.drewN ?_ _))⟩
  case true =>
  obtain ⟨O, hO, hcall⟩ := order_any N pE pA nE nA cE cA E A w HR.out HL.out (by omega) ht hnE hnA
  have hOl := (chkR_iff.1 hO).2.1
  have hal := (trg_valid ht).al
  have HO := Lib.hid hO
  have Hcall := Lib.hid hcall
  obtain ⟨n, hn⟩ : ∃ n, O.length = n := ⟨_, rfl⟩
  have Hn := Lib.hid hn
  have hn30 : n ≤ 30 := by omega
  have Ho : Hid (∀ W1, Grew w W1 → Calls Tryd.prog 14 #[.agg #[.int .i64 N, .slice pE nE cE, .slice pA nA cA]] W1 fun e w' => Grew W1 w' ∧ ∃ q cap, e = .returned (.tuple #[.slice q n cap, .int .i64 0]) ∧ Ints w' q O ∧ n ≤ cap ∧ cap ≤ maxLen) := Lib.hid (fun W1 h => by
    have := hcall W1 h
    unfold TwoPost at this
    rw [hn] at this
    exact this)
  have Hck : Hid (∀ (W1 : World) (q : Option Addr) (cap : Nat), Ints W1 q O → n ≤ cap → cap ≤ maxLen → Grew w W1 → Calls Tryd.prog 12 #[.agg #[.int .i64 N, .slice pE nE cE, .slice pA nA cA], .slice q n cap] W1 fun e w' => e = .returned (.bool true) ∧ Grew W1 w') := Lib.hid (fun W1 q cap h1 h2 h3 h4 => by
    rw [← hO]
    exact check36_r _ _ _ _ _ _ _ _ _ _ _ _ _ _ (HR.out.grew h4) h1 (by omega) h2 h3 hnE hnA hn)
  clear hO hcall hOl hal hn ht
  go_enter Tryd.func4, Tryd.ntmps4
  go_wp2_with (first
    | ((go_at_call 7; apply Calls.mono; (with_reducible exact Hs.out _); rintro e w' ⟨rfl, x, rfl⟩))
    | (go_at_call 14; apply Calls.mono; (with_reducible exact Ho.out _ (by (repeat (first | exact Grew.refl _ | refine Grew.over ?_ _ | refine Grew.alloc ?_ _ | refine Grew.drew ?_ | refine Grew.drewN ?_ _)))); rintro e wx ⟨⟨xa, rfl⟩, qa, ca, rfl, hIa, hc1, hc2⟩; have HIa := Lib.hid hIa; clear hIa)
    | ((go_at_call 15; apply Calls.mono; (with_reducible exact Htr.out _ (by (repeat (first | exact Grew.refl _ | refine Grew.over ?_ _ | refine Grew.alloc ?_ _ | refine Grew.drew ?_ | refine Grew.drewN ?_ _)))); rintro e w' ⟨rfl, x, rfl⟩))
    | ((go_at_call 12; apply Calls.mono; (with_reducible exact Hck.out _ _ _ (HIa.out.grew (by (repeat (first | exact Grew.refl _ | refine Grew.over ?_ _ | refine Grew.alloc ?_ _ | refine Grew.drew ?_ | refine Grew.drewN ?_ _)))) hc1 hc2 (by (repeat (first | exact Grew.refl _ | refine Grew.over ?_ _ | refine Grew.alloc ?_ _ | refine Grew.drew ?_ | refine Grew.drewN ?_ _)))); rintro e w' ⟨rfl, x, rfl⟩))
    | ((go_at_call 8; apply Calls.mono; (with_reducible exact Haw.out _ (by (repeat (first | exact Grew.refl _ | refine Grew.over ?_ _ | refine Grew.alloc ?_ _ | refine Grew.drew ?_ | refine Grew.drewN ?_ _)))); rintro e w' ⟨rfl, x, rfl⟩)))
  go_ret
  exact ⟨rfl, by (repeat (first | exact Grew.refl _ | refine Grew.over ?_ _ | refine Grew.alloc ?_ _ | refine Grew.drew ?_ | refine Grew.drewN ?_ _))⟩
end Go.Proofs.YtdacnkjmimhcaaaDoor
