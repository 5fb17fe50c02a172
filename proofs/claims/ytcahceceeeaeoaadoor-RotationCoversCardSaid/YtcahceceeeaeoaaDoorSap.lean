/- Same of the program. -/
import Derived.Test.YtcahceceeeaeoaaDoorSao
set_option linter.unusedSimpArgs false
set_option linter.unusedVariables false
namespace Go.Proofs.YtcahceceeeaeoaaDoor
open Go.RowKit
attribute [local go_sem ↓] Go.wp_at_zero Go.wp_at_succ

theorem turned_pe {p q : Option Addr} {n k cp cq : Nat} {a b : List Int} {w : World} {r : Bool} (h : cycB a b = r) (hI : Ints w p a) (hJ : Ints w q b) (ha : a.length ≤ 100) (hb : b.length ≤ 100) (hcp : a.length ≤ cp) (hcq : b.length ≤ cq) (hmp : cp ≤ 9223372036854775807) (hmq : cq ≤ 9223372036854775807) (hn : a.length = n) (hk : b.length = k) :
    Calls Tryd.prog 42 #[.slice p n cp, .slice q k cq] w fun e w' => e = .returned (.bool r) ∧ Grew w w' := h ▸ turned_p p q n k cp cq a b w hI hJ ha hb hcp hcq hmp hmq hn hk

open Classical in
noncomputable def rowsB (A A' : List (List Int)) : Bool := decide (A.length = A'.length ∧ ∀ v, v < A.length → cycP (rowOf A v) (rowOf A' v))

theorem rowsB_yes {A A' : List (List Int)} (h : A.length = A'.length ∧ ∀ v, v < A.length → cycP (rowOf A v) (rowOf A' v)) : rowsB A A' = true := by unfold rowsB; exact @decide_eq_true _ (_) h
theorem rowsB_no {A A' : List (List Int)} (h : ¬ (A.length = A'.length ∧ ∀ v, v < A.length → cycP (rowOf A v) (rowOf A' v))) : rowsB A A' = false := by unfold rowsB; exact @decide_eq_false _ (_) h
theorem rowsB_iff {A A' : List (List Int)} : rowsB A A' = true ↔ (A.length = A'.length ∧ ∀ v, v < A.length → cycP (rowOf A v) (rowOf A' v)) := by unfold rowsB; exact @decide_eq_true_iff _ (_)

set_option maxRecDepth 8000 in
set_option maxHeartbeats 4000000 in
theorem eqfunc_p (p q : Option Addr) (n k cp cq : Nat) (A A' : List (List Int)) (w : World) (hM : MatC w p A) (hM' : MatC w q A') (ha : A.length ≤ 100) (hr : ∀ v, v < A.length → (rowOf A v).length ≤ 100) (hr' : ∀ v, v < A'.length → (rowOf A' v).length ≤ 100) (hn : A.length = n) (hk : A'.length = k) :
    Calls Tryd.prog 41 #[.slice p n cp, .slice q k cq, .func (.func 42) #[] #[]] w fun e w' => e = .returned (.bool (rowsB A A')) ∧ Grew w w' := by
  subst hn hk
  have hm1 := hM'.1
  by_cases hl : A.length = A'.length
  case neg =>
    have Hf : Hid (rowsB A A' = false) := Lib.hid (rowsB_no fun h => hl h.1)
    have hl' : ((A.length : Int) != (A'.length : Int)) = true := by rw [bne_iff_ne]; omega
    clear hl hM hM'
    go_enter Tryd.func41, Tryd.ntmps41
    go_wp2
    go_ret
    exact ⟨by rw [Hf.out]; rfl, by (repeat (first | exact Grew.refl _ | refine Grew.over ?_ _ | refine Grew.alloc ?_ _ | refine Grew.drew ?_ | refine Grew.drewN ?_ _))⟩
  have HM := Lib.hid hM
  have HM' := Lib.hid hM'
  have Hl := Lib.hid hl
  have Hr := Lib.hid hr
  have Hr' := Lib.hid hr'
  obtain ⟨L, hL⟩ : ∃ L, A.length = L := ⟨_, rfl⟩
  have hL' : A'.length = L := by omega
  have HL := Lib.hid hL
  have HL' := Lib.hid hL'
  rw [hL] at ha
  rw [hL, hL']
  clear hl hM hM' hL hL' hr hr' hm1
  go_enter Tryd.func41, Tryd.ntmps41
  go_wp2
  go_loopw [7, 8, 9, 17] (fun _ _ _ i wr => ∃ j : Nat, j ≤ L ∧ i = .int .i64 j ∧ (∀ t, t < j → cycP (rowOf A t) (rowOf A' t)) ∧ Grew w wr) (fun _ _ _ i _ => L - (intOf i).toNat)
  case atStart => exact ⟨0, Nat.zero_le _, rfl, fun t ht => absurd ht (Nat.not_lt_zero _), Grew.refl _⟩
  case round =>
    obtain ⟨v, hv, rfl, hall, hg⟩ := hrel
    have Hall := Lib.hid hall
    have Hg := Lib.hid hg
    clear hall hg
    by_cases hlt : v < L
    · obtain ⟨bA, oA, rp, rc, rfl, lA, kA⟩ := HM.out.rows (by rw [HL.out]; omega)
      obtain ⟨bB, oB, sp, sc, rfl, lB, kB⟩ := HM'.out.rows (by rw [HL'.out]; omega)
      obtain ⟨a1, a2, a3, a4⟩ := kA wr Hg.out v (by rw [HL.out]; exact hlt)
      obtain ⟨d1, d2, d3, d4⟩ := kB wr Hg.out v (by rw [HL'.out]; exact hlt)
      have hr1 := Hr.out v (by rw [HL.out]; exact hlt)
      have hr2 := Hr'.out v (by rw [HL'.out]; exact hlt)
      have Ha2 := Lib.hid a2
      have Hd2 := Lib.hid d2
      clear kA kB a2 d2
      cases hc : cycB (rowOf A v) (rowOf A' v)
      · have Hf : Hid (rowsB A A' = false) := Lib.hid (rowsB_no fun h => by
          have := cycB_yes (h.2 v (by rw [HL.out]; exact hlt))
          rw [hc] at this
          cases this)
        have Hc := Lib.hid hc
        clear hc
        go_wp2_with (go_at_call 42; apply Calls.mono; (with_reducible exact turned_pe Hc.out Ha2.out Hd2.out hr1 hr2 a3 d3 a4 d4 rfl rfl); rintro e w' ⟨rfl, x, rfl⟩)
        go_ret
        exact ⟨by rw [Hf.out]; rfl, Hg.out.trans (by (repeat (first | exact Grew.refl _ | refine Grew.over ?_ _ | refine Grew.alloc ?_ _ | refine Grew.drew ?_ | refine Grew.drewN ?_ _)))⟩
      · have Hall2 : Hid (∀ t, t < v + 1 → cycP (rowOf A t) (rowOf A' t)) := Lib.hid (fun t ht => by
          by_cases e : t = v
          · subst e; exact cycB_iff.1 hc
          · exact Hall.out t (by omega))
        have Hc := Lib.hid hc
        clear hc
        go_wp2_with (go_at_call 42; apply Calls.mono; (with_reducible exact turned_pe Hc.out Ha2.out Hd2.out hr1 hr2 a3 d3 a4 d4 rfl rfl); rintro e w' ⟨rfl, x, rfl⟩)
        go_roundw
        case rel => exact ⟨v + 1, by omega, by go_num, Hall2.out, Hg.out.trans (by (repeat (first | exact Grew.refl _ | refine Grew.over ?_ _ | refine Grew.alloc ?_ _ | refine Grew.drew ?_ | refine Grew.drewN ?_ _)))⟩
        case measure => simp [intOf]; omega
    · have Hf : Hid (rowsB A A' = true) := Lib.hid (rowsB_yes ⟨Hl.out, fun t ht => Hall.out t (by rw [HL.out] at ht; omega)⟩)
      go_wp2
      go_ret
      exact ⟨by rw [Hf.out]; rfl, Hg.out.trans (by (repeat (first | exact Grew.refl _ | refine Grew.over ?_ _ | refine Grew.alloc ?_ _ | refine Grew.drew ?_ | refine Grew.drewN ?_ _)))⟩
theorem eqfunc_pe {p q : Option Addr} {n k cp cq : Nat} {A A' : List (List Int)} {w : World} {r : Bool} (h : rowsB A A' = r) (hM : MatC w p A) (hM' : MatC w q A') (ha : A.length ≤ 100) (hr : ∀ v, v < A.length → (rowOf A v).length ≤ 100) (hr' : ∀ v, v < A'.length → (rowOf A' v).length ≤ 100) (hn : A.length = n) (hk : A'.length = k) :
    Calls Tryd.prog 41 #[.slice p n cp, .slice q k cq, .func (.func 42) #[] #[]] w fun e w' => e = .returned (.bool r) ∧ Grew w w' := h ▸ eqfunc_p p q n k cp cq A A' w hM hM' ha hr hr' hn hk
theorem equal_ee {p q : Option Addr} {n k cp cq : Nat} {a b : List (Int × Int)} {w : World} {r : Bool} (h : decide (a = b) = r) (hI : Prs w p a) (hJ : Prs w q b) (hn : a.length = n) (hk : b.length = k) :
    Calls Tryd.prog 40 #[.slice p n cp, .slice q k cq] w fun e w' => e = .returned (.bool r) ∧ Grew w w' := h ▸ equal_e p q n k cp cq a b w hI hJ hn hk

set_option maxRecDepth 8000 in
set_option maxHeartbeats 4000000 in
theorem same_p (N N' : Int) (pE pA pE' pA' : Option Addr) (nE nA cE cA nE' nA' cE' cA' : Nat) (E E' : List (Int × Int)) (A A' : List (List Int)) (w : World) (hR : RotAt w pE pA E A) (hR' : RotAt w pE' pA' E' A') (hM : MatC w pA A) (hM' : MatC w pA' A')
    (hnE : E.length = nE) (hnA : A.length = nA) (hnE' : E'.length = nE') (hnA' : A'.length = nA') :
    Calls Tryd.prog 27 #[.agg #[.int .i64 N, .slice pE nE cE, .slice pA nA cA], .agg #[.int .i64 N', .slice pE' nE' cE', .slice pA' nA' cA']] w fun e w' => e = .returned (.bool (sameB N E A N' E' A')) ∧ Grew w w' := by
  subst hnE hnA hnE' hnA'
  have HR := Lib.hid hR
  have HR' := Lib.hid hR'
  have HM := Lib.hid hM
  have HM' := Lib.hid hM'
  clear hR hR' hM hM'
  by_cases h1 : N = N'
  case neg =>
    have Hf : Hid (sameB N E A N' E' A' = false) := Lib.hid (sameB_no fun h => h1 h.1)
    have h1' : (N == N') = false := beq_eq_false_iff_ne.2 h1
    clear h1
    go_enter Tryd.func27, Tryd.ntmps27
    go_wp2_with fail
    go_ret
    exact ⟨by rw [Hf.out]; rfl, by (repeat (first | exact Grew.refl _ | refine Grew.over ?_ _ | refine Grew.alloc ?_ _ | refine Grew.drew ?_ | refine Grew.drewN ?_ _))⟩
  subst h1
  cases h2 : decide (E = E')
  · have Hf : Hid (sameB N E A N E' A' = false) := Lib.hid (sameB_no fun h => (of_decide_eq_false h2) h.2.1)
    have H2 := Lib.hid h2
    clear h2
    go_enter Tryd.func27, Tryd.ntmps27
    go_wp2_with (go_at_call 40; apply Calls.mono; (with_reducible exact equal_ee H2.out (HR.out.hE.grew (by (repeat (first | exact Grew.refl _ | refine Grew.over ?_ _ | refine Grew.alloc ?_ _ | refine Grew.drew ?_ | refine Grew.drewN ?_ _)))) (HR'.out.hE.grew (by (repeat (first | exact Grew.refl _ | refine Grew.over ?_ _ | refine Grew.alloc ?_ _ | refine Grew.drew ?_ | refine Grew.drewN ?_ _)))) rfl rfl); rintro e w' ⟨rfl, x, rfl⟩)
    go_ret
    exact ⟨by rw [Hf.out]; rfl, by (repeat (first | exact Grew.refl _ | refine Grew.over ?_ _ | refine Grew.alloc ?_ _ | refine Grew.drew ?_ | refine Grew.drewN ?_ _))⟩
  · have H2 := Lib.hid h2
    cases h3 : rowsB A A'
    · have Hf : Hid (sameB N E A N E' A' = false) := Lib.hid (sameB_no fun h => by rw [rowsB_yes h.2.2] at h3; cases h3)
      have H3 := Lib.hid h3
      clear h2 h3
      go_enter Tryd.func27, Tryd.ntmps27
      go_wp2_with (first
        | (go_at_call 40; apply Calls.mono; (with_reducible exact equal_ee H2.out (HR.out.hE.grew (by (repeat (first | exact Grew.refl _ | refine Grew.over ?_ _ | refine Grew.alloc ?_ _ | refine Grew.drew ?_ | refine Grew.drewN ?_ _)))) (HR'.out.hE.grew (by (repeat (first | exact Grew.refl _ | refine Grew.over ?_ _ | refine Grew.alloc ?_ _ | refine Grew.drew ?_ | refine Grew.drewN ?_ _)))) rfl rfl); rintro e w' ⟨rfl, x, rfl⟩)
        | (go_at_call 41; apply Calls.mono; (with_reducible exact eqfunc_pe H3.out (HM.out.grew (by (repeat (first | exact Grew.refl _ | refine Grew.over ?_ _ | refine Grew.alloc ?_ _ | refine Grew.drew ?_ | refine Grew.drewN ?_ _)))) (HM'.out.grew (by (repeat (first | exact Grew.refl _ | refine Grew.over ?_ _ | refine Grew.alloc ?_ _ | refine Grew.drew ?_ | refine Grew.drewN ?_ _)))) HR.out.a1 HR.out.r1 HR'.out.r1 rfl rfl); rintro e w' ⟨rfl, x2, rfl⟩))
      go_ret
      exact ⟨by rw [Hf.out]; rfl, by (repeat (first | exact Grew.refl _ | refine Grew.over ?_ _ | refine Grew.alloc ?_ _ | refine Grew.drew ?_ | refine Grew.drewN ?_ _))⟩
    · have Hf : Hid (sameB N E A N E' A' = true) := Lib.hid (sameB_yes ⟨rfl, of_decide_eq_true h2, (rowsB_iff.1 h3).1, (rowsB_iff.1 h3).2⟩)
      have H3 := Lib.hid h3
      clear h2 h3
      go_enter Tryd.func27, Tryd.ntmps27
      go_wp2_with (first
        | (go_at_call 40; apply Calls.mono; (with_reducible exact equal_ee H2.out (HR.out.hE.grew (by (repeat (first | exact Grew.refl _ | refine Grew.over ?_ _ | refine Grew.alloc ?_ _ | refine Grew.drew ?_ | refine Grew.drewN ?_ _)))) (HR'.out.hE.grew (by (repeat (first | exact Grew.refl _ | refine Grew.over ?_ _ | refine Grew.alloc ?_ _ | refine Grew.drew ?_ | refine Grew.drewN ?_ _)))) rfl rfl); rintro e w' ⟨rfl, x, rfl⟩)
        | (go_at_call 41; apply Calls.mono; (with_reducible exact eqfunc_pe H3.out (HM.out.grew (by (repeat (first | exact Grew.refl _ | refine Grew.over ?_ _ | refine Grew.alloc ?_ _ | refine Grew.drew ?_ | refine Grew.drewN ?_ _)))) (HM'.out.grew (by (repeat (first | exact Grew.refl _ | refine Grew.over ?_ _ | refine Grew.alloc ?_ _ | refine Grew.drew ?_ | refine Grew.drewN ?_ _)))) HR.out.a1 HR.out.r1 HR'.out.r1 rfl rfl); rintro e w' ⟨rfl, x2, rfl⟩))
      go_ret
      exact ⟨by rw [Hf.out]; rfl, by (repeat (first | exact Grew.refl _ | refine Grew.over ?_ _ | refine Grew.alloc ?_ _ | refine Grew.drew ?_ | refine Grew.drewN ?_ _))⟩
end Go.Proofs.YtcahceceeeaeoaaDoor
