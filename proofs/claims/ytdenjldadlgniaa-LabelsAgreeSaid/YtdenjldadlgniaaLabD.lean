/- Valid of the program and of the reference, joined; Cost of both; the reference's fits and Check. -/
import Derived.Test.YtdenjldadlgniaaLabC
set_option linter.unusedSimpArgs false
set_option linter.unusedVariables false
namespace Go.Proofs.Ytdenjldadlgniaa
open Go.RowKit
attribute [local go_sem ↓] Go.wp_at_zero Go.wp_at_succ

def eqL (m : List (List Bx)) (c : List (List Int)) : Bool := decide (m.length = c.length ∧ ∀ u, u < m.length → (bRow m u).length = (rowOf c u).length)
theorem eqL_no {m : List (List Bx)} {c : List (List Int)} (h : ¬ (m.length = c.length ∧ ∀ u, u < m.length → (bRow m u).length = (rowOf c u).length)) : eqL m c = false := decide_eq_false h
def vLB (m : List (List Bx)) (c : List (List Int)) : Bool := cB m && pB c && eqL m c

theorem ends_b {P : Prop} [Decidable P] {b : Bool} (h : P ↔ b = true) : Value.bool b = Value.bool (decide P) := by
  congr 1
  rw [Bool.eq_iff_iff, decide_eq_true_iff]
  exact h.symm

set_option maxHeartbeats 1000000 in
theorem val1_eq (p q : Option Addr) (n cp cq : Nat) (w : World) :
    Calls Try.prog 25 #[.slice p n cp, .slice q n cq] w fun e w' => e = .returned (.bool true) ∧ w = w' := by
  go_enter Try.func25, Try.ntmps25
  go_wp2
  go_ret
  exact ⟨rfl, rfl⟩
set_option maxHeartbeats 1000000 in
theorem val1_ne (p q : Option Addr) (n k cp cq : Nat) (h : n ≠ k) (w : World) :
    Calls Try.prog 25 #[.slice p n cp, .slice q k cq] w fun e w' => e = .returned (.bool false) ∧ w = w' := by
  have h2 : ¬ (n : Int) = k := by omega
  go_enter Try.func25, Try.ntmps25
  go_wp2
  go_ret
  exact ⟨ret_bool (beq_eq_false_iff_ne.2 h2), rfl⟩

set_option maxHeartbeats 4000000 in
theorem equal_p (p q : Option Addr) (n k cp cq : Nat) (m : List (List Bx)) (c : List (List Int)) (w : World) (hM : BMat w p m) (hC : Mat w q c) (hn : m.length = n) (hk : c.length = k) :
    Calls Try.prog 24 #[.slice p n cp, .slice q k cq, .func (.func 25) #[] #[]] w fun e w' => e = .returned (.bool (eqL m c)) ∧ w = w' := by
  subst hn
  subst hk
  have hml := hM.1
  have hcl := hC.1
  by_cases he : m.length = c.length
  case neg =>
    have H := Lib.hid (eqL_no (m := m) (c := c) (fun h => he h.1))
    have he2 : ¬ (m.length : Int) = (c.length : Int) := by omega
    go_enter Try.func24, Try.ntmps24
    go_wp2; go_ret; exact ⟨ret_bool H.out.symm, rfl⟩
  have HM := Lib.hid hM
  have HC := Lib.hid hC
  have He := Lib.hid he
  obtain ⟨N, hN⟩ : ∃ N, m.length = N := ⟨_, rfl⟩
  have hN2 : c.length = N := by omega
  rw [hN, hN2]
  have HN := Lib.hid hN
  have HN2 := Lib.hid hN2
  rw [hN] at hml
  clear hM hC he hcl hN hN2
  go_enter Try.func24, Try.ntmps24
  go_wp2
  go_loop [17] (fun i => ∃ u : Nat, u ≤ N ∧ i = .int .i64 u ∧ (∀ v, v < u → (bRow m v).length = (rowOf c v).length)) (fun i => N - (intOf i).toNat)
  case atStart => exact ⟨0, Nat.zero_le _, rfl, fun v hv => by omega⟩
  case round =>
    obtain ⟨u, hu, rfl, hall⟩ := hrel
    have Hall := Lib.hid hall
    clear hall
    by_cases hlt : u < N
    · obtain ⟨b, o, rp, rc, rfl, hb, c0, hR⟩ := HM.out.row1 (u := u) (by rw [HN.out]; exact hlt)
      obtain ⟨b2, o2, rp2, rc2, rfl, hb2, c2, hR2⟩ := HC.out.row2 (u := u) (by rw [HN2.out]; exact hlt)
      clear hR hR2
      by_cases e : (bRow m u).length = (rowOf c u).length
      · have E := Lib.hid e
        rw [e] at c0
        clear e
        go_wp2_with ((go_at_call 25; apply Calls.mono; (with_reducible exact val1_eq _ _ _ _ _ _); rintro e w' ⟨rfl, rfl⟩))
        go_round
        case rel => exact ⟨u + 1, by omega, by go_num, fun v hv => (by
          by_cases e : v = u
          · rw [e]; exact E.out
          · exact Hall.out v (by omega))⟩
        case measure => simp [intOf]; omega
      · have H := Lib.hid (eqL_no (m := m) (c := c) (fun h => e (h.2 u (by rw [HN.out]; exact hlt))))
        go_wp2_with ((go_at_call 25; apply Calls.mono; (with_reducible exact val1_ne _ _ _ _ _ _ e _); rintro e w' ⟨rfl, rfl⟩))
        go_ret
        exact ⟨ret_bool H.out.symm, rfl⟩
    · have H : Hid (eqL m c = true) := Lib.hid (decide_eq_true ⟨He.out, fun v hv => Hall.out v (by rw [HN.out] at hv; omega)⟩)
      go_wp2; go_ret; exact ⟨ret_bool H.out.symm, rfl⟩
theorem equal_e {p q : Option Addr} {n k cp cq : Nat} {m : List (List Bx)} {c : List (List Int)} {w : World} {b : Bool} (h : eqL m c = b) (hM : BMat w p m) (hC : Mat w q c) (hn : m.length = n) (hk : c.length = k) :
    Calls Try.prog 24 #[.slice p n cp, .slice q k cq, .func (.func 25) #[] #[]] w fun e w' => e = .returned (.bool b) ∧ w = w' := h ▸ equal_p p q n k cp cq m c w hM hC hn hk

set_option maxHeartbeats 4000000 in
theorem valid50_p (p q : Option Addr) (n k cp cq : Nat) (m : List (List Bx)) (c : List (List Int)) (w : World) (hM : BMat w p m) (hC : Mat w q c) (hn : m.length = n) (hk : c.length = k) :
    Calls Try.prog 10 #[.slice p n cp, .slice q k cq] w fun e w' => e = .returned (.bool (vLB m c)) ∧ Grew w w' := by
  have HM := Lib.hid hM
  have HC := Lib.hid hC
  clear hM hC
  obtain ⟨r1, h1⟩ : ∃ r, cB m = r := ⟨_, rfl⟩
  obtain ⟨r2, h2⟩ : ∃ r, pB c = r := ⟨_, rfl⟩
  obtain ⟨r3, h3⟩ : ∃ r, eqL m c = r := ⟨_, rfl⟩
  have H : Hid (vLB m c = (r1 && r2 && r3)) := Lib.hid (by unfold vLB; rw [h1, h2, h3])
  have H1 := Lib.hid h1
  have H2 := Lib.hid h2
  have H3 := Lib.hid h3
  clear h1 h2 h3
  rw [H.out]
  go_enter Try.func10, Try.ntmps10
  cases r1
  · go_wp2_with (first | (go_at_call 22; apply Calls.mono; (with_reducible exact candsp_e H1.out (HM.out.grew (by (repeat (first | exact Grew.refl _ | refine Grew.over ?_ _ | refine Grew.alloc ?_ _ | refine Grew.drew ?_ | refine Grew.drewN ?_ _)))) hn); rintro e w' ⟨rfl, x, rfl⟩))
    go_ret; exact ⟨rfl, by (repeat (first | exact Grew.refl _ | refine Grew.over ?_ _ | refine Grew.alloc ?_ _ | refine Grew.drew ?_ | refine Grew.drewN ?_ _))⟩
  cases r2
  · go_wp2_with (first | (go_at_call 22; apply Calls.mono; (with_reducible exact candsp_e H1.out (HM.out.grew (by (repeat (first | exact Grew.refl _ | refine Grew.over ?_ _ | refine Grew.alloc ?_ _ | refine Grew.drew ?_ | refine Grew.drewN ?_ _)))) hn); rintro e w' ⟨rfl, x, rfl⟩) | (go_at_call 23; apply Calls.mono; (with_reducible exact pricedp_e H2.out (HC.out.grew (by (repeat (first | exact Grew.refl _ | refine Grew.over ?_ _ | refine Grew.alloc ?_ _ | refine Grew.drew ?_ | refine Grew.drewN ?_ _)))) hk); rintro e w' ⟨rfl, rfl⟩))
    go_ret; exact ⟨rfl, by (repeat (first | exact Grew.refl _ | refine Grew.over ?_ _ | refine Grew.alloc ?_ _ | refine Grew.drew ?_ | refine Grew.drewN ?_ _))⟩
  go_wp2_with (first | (go_at_call 22; apply Calls.mono; (with_reducible exact candsp_e H1.out (HM.out.grew (by (repeat (first | exact Grew.refl _ | refine Grew.over ?_ _ | refine Grew.alloc ?_ _ | refine Grew.drew ?_ | refine Grew.drewN ?_ _)))) hn); rintro e w' ⟨rfl, x, rfl⟩) | (go_at_call 23; apply Calls.mono; (with_reducible exact pricedp_e H2.out (HC.out.grew (by (repeat (first | exact Grew.refl _ | refine Grew.over ?_ _ | refine Grew.alloc ?_ _ | refine Grew.drew ?_ | refine Grew.drewN ?_ _)))) hk); rintro e w' ⟨rfl, rfl⟩) | (go_at_call 24; apply Calls.mono; (with_reducible exact equal_e H3.out (HM.out.grew (by (repeat (first | exact Grew.refl _ | refine Grew.over ?_ _ | refine Grew.alloc ?_ _ | refine Grew.drew ?_ | refine Grew.drewN ?_ _)))) (HC.out.grew (by (repeat (first | exact Grew.refl _ | refine Grew.over ?_ _ | refine Grew.alloc ?_ _ | refine Grew.drew ?_ | refine Grew.drewN ?_ _)))) hn hk); rintro e w' ⟨rfl, rfl⟩))
  go_ret; exact ⟨rfl, by (repeat (first | exact Grew.refl _ | refine Grew.over ?_ _ | refine Grew.alloc ?_ _ | refine Grew.drew ?_ | refine Grew.drewN ?_ _))⟩
theorem valid50p_e {p q : Option Addr} {n k cp cq : Nat} {m : List (List Bx)} {c : List (List Int)} {w : World} {b : Bool} (h : vLB m c = b) (hM : BMat w p m) (hC : Mat w q c) (hn : m.length = n) (hk : c.length = k) :
    Calls Try.prog 10 #[.slice p n cp, .slice q k cq] w fun e w' => e = .returned (.bool b) ∧ Grew w w' := h ▸ valid50_p p q n k cp cq m c w hM hC hn hk

theorem vLB_iff {m : List (List Bx)} {c : List (List Int)} : vLB m c = true ↔ vL m c := by
  have hany : ∀ l : List Bx, l.any (fun b => !bvB b) = false ↔ ∀ k, k < l.length → bvB (bK l k) = true := fun l => by
    constructor
    · intro h k hk
      cases e : bvB (bK l k)
      · have := any_bK (l := l) (pr := fun b => !bvB b) |>.2 ⟨k, hk, by simp [e]⟩
        rw [this] at h; cases h
      · rfl
    · intro h
      exact any_none fun k hk => by simp [h k hk]
  have hanyI : ∀ l : List Int, l.any badP = false ↔ ∀ k, k < l.length → 0 ≤ ge l k ∧ ge l k ≤ 1000000 := fun l => by
    constructor
    · intro h k hk
      cases e : badP (ge l k)
      · have := of_decide_eq_false e
        omega
      · have := anyI.2 ⟨k, hk, e⟩
        rw [this] at h; cases h
    · intro h
      exact anyI_none fun k hk => decide_eq_false (by have := h k hk; omega)
  unfold vLB cB pB eqL
  simp only [Bool.and_eq_true, decide_eq_true_eq]
  constructor
  · rintro ⟨⟨⟨h1, h2⟩, h3, h4⟩, h5, h6⟩
    refine ⟨h1, h5.symm, fun u hu => ?_, fun u hu => (h6 u hu).symm, fun u hu k hk => ?_⟩
    · have := h2 u hu
      unfold rcB at this
      rw [Bool.and_eq_true, decide_eq_true_eq, Bool.not_eq_true', hany] at this
      exact this
    · have := h4 u (by omega)
      unfold rpB at this
      rw [Bool.and_eq_true, decide_eq_true_eq, Bool.not_eq_true', hanyI] at this
      exact this.2 k hk
  · rintro ⟨h1, h2, h3, h4, h5⟩
    refine ⟨⟨⟨h1, fun u hu => ?_⟩, by omega, fun u hu => ?_⟩, h2.symm, fun u hu => (h4 u hu).symm⟩
    · unfold rcB
      rw [Bool.and_eq_true, decide_eq_true_eq, Bool.not_eq_true', hany]
      exact h3 u hu
    · unfold rpB
      rw [Bool.and_eq_true, decide_eq_true_eq, Bool.not_eq_true', hanyI]
      exact ⟨by rw [h4 u (by omega)]; exact (h3 u (by omega)).1, h5 u (by omega)⟩
theorem vLB_not {m : List (List Bx)} {c : List (List Int)} (h : vLB m c = false) : ¬ vL m c := fun g => by rw [vLB_iff.2 g] at h; cases h
end Go.Proofs.Ytdenjldadlgniaa
