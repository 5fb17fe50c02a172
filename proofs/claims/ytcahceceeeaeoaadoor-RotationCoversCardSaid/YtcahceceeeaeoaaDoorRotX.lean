/- The laws RotationFaces and RotationDarts: walks. -/
import Derived.Test.YtcahceceeeaeoaaDoorRotW
set_option linter.unusedSimpArgs false
set_option linter.unusedVariables false
namespace Go.Proofs.YtcahceceeeaeoaaDoor
open Go.RowKit
attribute [local go_sem ↓] Go.wp_at_zero Go.wp_at_succ

theorem faces_re {N : Int} {pE pA : Option Addr} {nE nA cE cA : Nat} {E : List (Int × Int)} {A : List (List Int)} {w : World} {fs : List (List Int)} (h : facesO N E A = fs) (hR : RotAt w pE pA E A) (hnE : E.length = nE) (hnA : A.length = nA) :
    Calls Tryd.prog 14 #[.agg #[.int .i64 N, .slice pE nE cE, .slice pA nA cA]] w (FacesPost fs w) := h ▸ faces_r N pE pA nE nA cE cA E A w hR hnE hnA
theorem genus_re {N : Int} {pE pA : Option Addr} {nE nA cE cA : Nat} {E : List (Int × Int)} {A : List (List Int)} {w : World} {x : Int} (h : genusF N E A = x) (hR : RotAt w pE pA E A) (hnE : E.length = nE) (hnA : A.length = nA) :
    Calls Tryd.prog 16 #[.agg #[.int .i64 N, .slice pE nE cE, .slice pA nA cA]] w fun e w' => e = .returned (.int .i64 x) ∧ Grew w w' := h ▸ genus_r N pE pA nE nA cE cA E A w hR hnE hnA
theorem few_e {N : Int} {pE pA : Option Addr} {nE nA cE cA : Nat} {E : List (Int × Int)} {A : List (List Int)} {w : World} {b : Bool} (h : fewB E A = b) (hE : Prs w pE E) (hA : Mat w pA A) (hnE : E.length = nE) (hnA : A.length = nA) :
    Calls Tryd.prog 8 #[.agg #[.int .i64 N, .slice pE nE cE, .slice pA nA cA]] w fun e w' => e = .returned (.bool b) ∧ Grew w w' := h ▸ few_l N pE pA nE nA cE cA E A w hE hA hnE hnA
theorem tail_re {N : Int} {pE pA : Option Addr} {nE nA cE cA : Nat} {E : List (Int × Int)} {A : List (List Int)} {d x : Int} {w : World} (h : tailF N E A d = x) (hR : RotAt w pE pA E A) (hnE : E.length = nE) (hnA : A.length = nA) :
    Calls Tryd.prog 18 #[.agg #[.int .i64 N, .slice pE nE cE, .slice pA nA cA], .int .i64 d] w fun e w' => e = .returned (.int .i64 x) ∧ Grew w w' := h ▸ tailr_l N pE pA nE nA cE cA E A d w hR hnE hnA
theorem next_re {N : Int} {pE pA : Option Addr} {nE nA cE cA : Nat} {E : List (Int × Int)} {A : List (List Int)} {d x : Int} {w : World} (h : nextF N E A d = x) (hR : RotAt w pE pA E A) (hnE : E.length = nE) (hnA : A.length = nA) :
    Calls Tryd.prog 20 #[.agg #[.int .i64 N, .slice pE nE cE, .slice pA nA cA], .int .i64 d] w fun e w' => e = .returned (.int .i64 x) ∧ Grew w w' := h ▸ nextr_l N pE pA nE nA cE cA E A d w hR hnE hnA

set_option maxRecDepth 8000 in
set_option maxHeartbeats 4000000 in
theorem facesL (N : Int) (pE pA : Option Addr) (nE nA cE cA : Nat) (E : List (Int × Int)) (A : List (List Int)) (w : World) (hE : Prs w pE E) (hA : Mat w pA A) (hL : Lim w) (hnE : E.length = nE) (hnA : A.length = nA) :
    Calls Tryd.prog 3 #[.agg #[.int .i64 N, .slice pE nE cE, .slice pA nA cA]] w fun e w' => e = .returned (.bool true) ∧ Grew w w' := by
  subst hnE hnA
  have HE := Lib.hid hE
  have HA := Lib.hid hA
  have HL := Lib.hid hL
  clear hE hA hL
  cases hf : fewB E A
  case false =>
    have Hf := Lib.hid hf
    clear hf
    go_enter Tryd.func3, Tryd.ntmps3
    go_wp2_with (first
      | (go_at_call 8; apply Calls.mono; (with_reducible exact few_e Hf.out (HE.out.grew (by (repeat (first | exact Grew.refl _ | refine Grew.over ?_ _ | refine Grew.alloc ?_ _ | refine Grew.drew ?_ | refine Grew.drewN ?_ _)))) (HA.out.grew (by (repeat (first | exact Grew.refl _ | refine Grew.over ?_ _ | refine Grew.alloc ?_ _ | refine Grew.drew ?_ | refine Grew.drewN ?_ _)))) rfl rfl); rintro e w' ⟨rfl, x1, rfl⟩)
      | (go_at_call 9; apply Calls.mono; (with_reducible exact awake_l _ (HL.out.grew (by (repeat (first | exact Grew.refl _ | refine Grew.over ?_ _ | refine Grew.alloc ?_ _ | refine Grew.drew ?_ | refine Grew.drewN ?_ _))))); rintro e w' ⟨rfl, x2, rfl⟩))
    go_ret
    exact ⟨rfl, by (repeat (first | exact Grew.refl _ | refine Grew.over ?_ _ | refine Grew.alloc ?_ _ | refine Grew.drew ?_ | refine Grew.drewN ?_ _))⟩
  case true =>
    have Hf := Lib.hid hf
    have HR := Lib.hid (few_at hf HE.out HA.out)
    clear hf
    obtain ⟨b, hb⟩ : ∃ b, vRotB N E A = b := ⟨_, rfl⟩
    obtain ⟨g, hg⟩ : ∃ g, genusF N E A = g := ⟨_, rfl⟩
    obtain ⟨fs, hfs⟩ : ∃ fs, facesO N E A = fs := ⟨_, rfl⟩
    have Hb := Lib.hid hb
    have Hg := Lib.hid hg
    have Hfs := Lib.hid hfs
    clear hb hg hfs
    go_enter Tryd.func3, Tryd.ntmps3
    go_upto_region 3 with (go_at_call 8; apply Calls.mono; (with_reducible exact few_e Hf.out (HE.out.grew (by (repeat (first | exact Grew.refl _ | refine Grew.over ?_ _ | refine Grew.alloc ?_ _ | refine Grew.drew ?_ | refine Grew.drewN ?_ _)))) (HA.out.grew (by (repeat (first | exact Grew.refl _ | refine Grew.over ?_ _ | refine Grew.alloc ?_ _ | refine Grew.drew ?_ | refine Grew.drewN ?_ _)))) rfl rfl); rintro e w' ⟨rfl, x1, rfl⟩)
    go_region_held (fun w' => w'.cell? ⟨w.heap.size, 0, none⟩ = some (.int .i64 N) ∧ w'.cell? ⟨w.heap.size, 1, none⟩ = some (.slice pE E.length cE) ∧ w'.cell? ⟨w.heap.size, 2, none⟩ = some (.slice pA A.length cA)) (first | (simp [go_sem, ↓IntWalk.iteOmega, *]; done) | go_keep) (first
      | (go_at_call 10; apply Calls.mono; (with_reducible exact valid_pe Hb.out (HR.out.grew (by (repeat (first | exact Grew.refl _ | refine Grew.over ?_ _ | refine Grew.alloc ?_ _ | refine Grew.drew ?_ | refine Grew.drewN ?_ _)))) (HL.out.grew (by (repeat (first | exact Grew.refl _ | refine Grew.over ?_ _ | refine Grew.alloc ?_ _ | refine Grew.drew ?_ | refine Grew.drewN ?_ _)))) rfl rfl); rintro e w' ⟨rfl, x3, rfl⟩)
      | (go_at_call 11; apply Calls.mono; (with_reducible exact valid_re Hb.out (HR.out.grew (by (repeat (first | exact Grew.refl _ | refine Grew.over ?_ _ | refine Grew.alloc ?_ _ | refine Grew.drew ?_ | refine Grew.drewN ?_ _)))) rfl rfl); rintro e w' ⟨rfl, x4, rfl⟩)
      | (go_at_call 13; apply Calls.mono; (with_reducible exact faces_pe Hfs.out (HR.out.grew (by (repeat (first | exact Grew.refl _ | refine Grew.over ?_ _ | refine Grew.alloc ?_ _ | refine Grew.drew ?_ | refine Grew.drewN ?_ _)))) (HL.out.grew (by (repeat (first | exact Grew.refl _ | refine Grew.over ?_ _ | refine Grew.alloc ?_ _ | refine Grew.drew ?_ | refine Grew.drewN ?_ _)))) rfl rfl); rintro e w' ⟨⟨x5, rfl⟩, p1, c1, rfl, hA1⟩)
      | (go_at_call 14; apply Calls.mono; (with_reducible exact faces_re Hfs.out (HR.out.grew (by (repeat (first | exact Grew.refl _ | refine Grew.over ?_ _ | refine Grew.alloc ?_ _ | refine Grew.drew ?_ | refine Grew.drewN ?_ _)))) rfl rfl); rintro e w' ⟨⟨x6, rfl⟩, p2, c2, rfl, hA2⟩)
      | (go_at_call 12; apply Calls.mono; (with_reducible exact lists_e _ _ _ _ _ _ fs fs _ rfl (hA1.grew (by (repeat (first | exact Grew.refl _ | refine Grew.over ?_ _ | refine Grew.alloc ?_ _ | refine Grew.drew ?_ | refine Grew.drewN ?_ _)))) (hA2.grew (by (repeat (first | exact Grew.refl _ | refine Grew.over ?_ _ | refine Grew.alloc ?_ _ | refine Grew.drew ?_ | refine Grew.drewN ?_ _)))) rfl rfl); rintro e w' ⟨rfl, x7, rfl⟩)
      | (go_at_call 15; apply Calls.mono; (with_reducible exact genus_pe Hg.out (HR.out.grew (by (repeat (first | exact Grew.refl _ | refine Grew.over ?_ _ | refine Grew.alloc ?_ _ | refine Grew.drew ?_ | refine Grew.drewN ?_ _)))) (HL.out.grew (by (repeat (first | exact Grew.refl _ | refine Grew.over ?_ _ | refine Grew.alloc ?_ _ | refine Grew.drew ?_ | refine Grew.drewN ?_ _)))) rfl rfl); rintro e w' ⟨rfl, x8, rfl⟩)
      | (go_at_call 16; apply Calls.mono; (with_reducible exact genus_re Hg.out (HR.out.grew (by (repeat (first | exact Grew.refl _ | refine Grew.over ?_ _ | refine Grew.alloc ?_ _ | refine Grew.drew ?_ | refine Grew.drewN ?_ _)))) rfl rfl); rintro e w' ⟨rfl, x9, rfl⟩)
      | (go_at_call 9; apply Calls.mono; (with_reducible exact awake_l _ (HL.out.grew (by (repeat (first | exact Grew.refl _ | refine Grew.over ?_ _ | refine Grew.alloc ?_ _ | refine Grew.drew ?_ | refine Grew.drewN ?_ _))))); rintro e w' ⟨rfl, x2, rfl⟩))
    go_wp2_with fail
    go_ret
    exact ⟨rfl, by (repeat (first | exact Grew.refl _ | refine Grew.over ?_ _ | refine Grew.alloc ?_ _ | refine Grew.drew ?_ | refine Grew.drewN ?_ _))⟩

set_option maxRecDepth 8000 in
set_option maxHeartbeats 4000000 in
theorem dartsL (N : Int) (pE pA : Option Addr) (nE nA cE cA : Nat) (E : List (Int × Int)) (A : List (List Int)) (d : Int) (w : World) (hE : Prs w pE E) (hA : Mat w pA A) (hL : Lim w) (hnE : E.length = nE) (hnA : A.length = nA) :
    Calls Tryd.prog 4 #[.agg #[.int .i64 N, .slice pE nE cE, .slice pA nA cA], .int .i64 d] w fun e w' => e = .returned (.bool true) ∧ Grew w w' := by
  subst hnE hnA
  have HE := Lib.hid hE
  have HA := Lib.hid hA
  have HL := Lib.hid hL
  clear hE hA hL
  cases hf : fewB E A
  case false =>
    have Hf := Lib.hid hf
    clear hf
    go_enter Tryd.func4, Tryd.ntmps4
    go_wp2_with (first
      | (go_at_call 8; apply Calls.mono; (with_reducible exact few_e Hf.out (HE.out.grew (by (repeat (first | exact Grew.refl _ | refine Grew.over ?_ _ | refine Grew.alloc ?_ _ | refine Grew.drew ?_ | refine Grew.drewN ?_ _)))) (HA.out.grew (by (repeat (first | exact Grew.refl _ | refine Grew.over ?_ _ | refine Grew.alloc ?_ _ | refine Grew.drew ?_ | refine Grew.drewN ?_ _)))) rfl rfl); rintro e w' ⟨rfl, x1, rfl⟩)
      | (go_at_call 9; apply Calls.mono; (with_reducible exact awake_l _ (HL.out.grew (by (repeat (first | exact Grew.refl _ | refine Grew.over ?_ _ | refine Grew.alloc ?_ _ | refine Grew.drew ?_ | refine Grew.drewN ?_ _))))); rintro e w' ⟨rfl, x2, rfl⟩))
    go_ret
    exact ⟨rfl, by (repeat (first | exact Grew.refl _ | refine Grew.over ?_ _ | refine Grew.alloc ?_ _ | refine Grew.drew ?_ | refine Grew.drewN ?_ _))⟩
  case true =>
    have Hf := Lib.hid hf
    have HR := Lib.hid (few_at hf HE.out HA.out)
    clear hf
    obtain ⟨t, ht⟩ : ∃ t, tailF N E A d = t := ⟨_, rfl⟩
    obtain ⟨g, hg⟩ : ∃ g, nextF N E A d = g := ⟨_, rfl⟩
    have Ht := Lib.hid ht
    have Hg := Lib.hid hg
    clear ht hg
    go_enter Tryd.func4, Tryd.ntmps4
    go_upto_region 3 with (go_at_call 8; apply Calls.mono; (with_reducible exact few_e Hf.out (HE.out.grew (by (repeat (first | exact Grew.refl _ | refine Grew.over ?_ _ | refine Grew.alloc ?_ _ | refine Grew.drew ?_ | refine Grew.drewN ?_ _)))) (HA.out.grew (by (repeat (first | exact Grew.refl _ | refine Grew.over ?_ _ | refine Grew.alloc ?_ _ | refine Grew.drew ?_ | refine Grew.drewN ?_ _)))) rfl rfl); rintro e w' ⟨rfl, x1, rfl⟩)
    refine wp_region_over (by kernel_rfl) (by kernel_rfl) ?_; (repeat (go_big_quiet_step (first
          | (go_at_call 17; apply over_call; with_reducible exact tail_pe Ht.out (HR.out.grew (by (repeat (first | exact Grew.refl _ | refine Grew.over ?_ _ | refine Grew.alloc ?_ _ | refine Grew.drew ?_ | refine Grew.drewN ?_ _)))) (HL.out.grew (by (repeat (first | exact Grew.refl _ | refine Grew.over ?_ _ | refine Grew.alloc ?_ _ | refine Grew.drew ?_ | refine Grew.drewN ?_ _)))) rfl rfl)
          | (go_at_call 18; apply over_call; with_reducible exact tail_re Ht.out (HR.out.grew (by (repeat (first | exact Grew.refl _ | refine Grew.over ?_ _ | refine Grew.alloc ?_ _ | refine Grew.drew ?_ | refine Grew.drewN ?_ _)))) rfl rfl)
          | (go_at_call 19; apply over_call; with_reducible exact next_pe Hg.out (HR.out.grew (by (repeat (first | exact Grew.refl _ | refine Grew.over ?_ _ | refine Grew.alloc ?_ _ | refine Grew.drew ?_ | refine Grew.drewN ?_ _)))) (HL.out.grew (by (repeat (first | exact Grew.refl _ | refine Grew.over ?_ _ | refine Grew.alloc ?_ _ | refine Grew.drew ?_ | refine Grew.drewN ?_ _)))) rfl rfl)
          | (go_at_call 20; apply over_call; with_reducible exact next_re Hg.out (HR.out.grew (by (repeat (first | exact Grew.refl _ | refine Grew.over ?_ _ | refine Grew.alloc ?_ _ | refine Grew.drew ?_ | refine Grew.drewN ?_ _)))) rfl rfl)
          | (go_at_call 9; apply over_call; with_reducible exact awake_l _ (HL.out.grew (by (repeat (first | exact Grew.refl _ | refine Grew.over ?_ _ | refine Grew.alloc ?_ _ | refine Grew.drew ?_ | refine Grew.drewN ?_ _)))))))); refine wpQuiet_nil ?_; rintro _ ⟨x, rfl⟩
    go_wp2_with fail
    go_ret
    exact ⟨rfl, by (repeat (first | exact Grew.refl _ | refine Grew.over ?_ _ | refine Grew.alloc ?_ _ | refine Grew.drew ?_ | refine Grew.drewN ?_ _))⟩
end Go.Proofs.YtcahceceeeaeoaaDoor
