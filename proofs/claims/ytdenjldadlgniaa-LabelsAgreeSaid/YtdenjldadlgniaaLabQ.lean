/- The law LabelsChecks. -/
import Derived.Test.YtdenjldadlgniaaLabO
set_option linter.unusedSimpArgs false
set_option linter.unusedVariables false
namespace Go.Proofs.Ytdenjldadlgniaa
open Go.RowKit
attribute [local go_sem ↓] Go.wp_at_zero Go.wp_at_succ

def smP (m : List (List Bx)) (c : List (List Int)) : Prop := m.length ≤ 12 ∧ c.length ≤ 20 ∧ (∀ u, u < m.length → (bRow m u).length ≤ 20) ∧ ∀ u, u < c.length → (rowOf c u).length ≤ 80
instance (m : List (List Bx)) (c : List (List Int)) : Decidable (smP m c) := by unfold smP; exact inferInstance
def smB (m : List (List Bx)) (c : List (List Int)) : Bool := decide (smP m c)
theorem smB_no {m : List (List Bx)} {c : List (List Int)} (h : ¬ smP m c) : smB m c = false := decide_eq_false h
set_option maxHeartbeats 4000000 in
theorem small_p (p q : Option Addr) (n k cp cq : Nat) (m : List (List Bx)) (c : List (List Int)) (w : World) (hM : BMat w p m) (hC : Mat w q c) (hn : m.length = n) (hk : c.length = k) :
    Calls Try.prog 8 #[.slice p n cp, .slice q k cq] w fun e w' => e = .returned (.bool (smB m c)) ∧ w = w' := by
  have hmm := hM.1
  have hmc := hC.1
  have HM := Lib.hid hM
  have HC := Lib.hid hC
  rw [hn] at hmm
  rw [hk] at hmc
  have HN := Lib.hid hn
  have HK := Lib.hid hk
  clear hM hC hn hk
  by_cases e1 : n ≤ 12
  case neg =>
    have H := Lib.hid (smB_no (m := m) (c := c) (fun h => e1 (by rw [← HN.out]; exact h.1)))
    go_enter Try.func8, Try.ntmps8
    go_wp2; go_ret; exact ⟨ret_bool H.out.symm, rfl⟩
  by_cases e2 : k ≤ 20
  case neg =>
    have H := Lib.hid (smB_no (m := m) (c := c) (fun h => e2 (by rw [← HK.out]; exact h.2.1)))
    go_enter Try.func8, Try.ntmps8
    go_wp2; go_ret; exact ⟨ret_bool H.out.symm, rfl⟩
  go_enter Try.func8, Try.ntmps8
  go_wp2
  go_loop [5] (fun v => ∃ u : Nat, u ≤ n ∧ v = .int .i64 u ∧ (∀ t, t < u → (bRow m t).length ≤ 20)) (fun v => n - (intOf v).toNat)
  case atStart => exact ⟨0, Nat.zero_le _, rfl, fun t ht => by omega⟩
  case round =>
    obtain ⟨u, hu, rfl, hall⟩ := hrel
    have Hall := Lib.hid hall
    clear hall
    by_cases hlt : u < n
    · obtain ⟨b, o, rp, rc, rfl, hb, c0, hR⟩ := HM.out.row1 (u := u) (by rw [HN.out]; exact hlt)
      have hL63 := hR.1
      clear hR
      obtain ⟨L, hL⟩ : ∃ L, (bRow m u).length = L := ⟨_, rfl⟩
      rw [hL] at c0 hL63
      have HL := Lib.hid hL
      clear hL
      by_cases e3 : L ≤ 20
      · go_wp2
        go_round
        case rel => exact ⟨u + 1, by omega, by go_num, fun t ht => (by
          by_cases e : t = u
          · rw [e, HL.out]; exact e3
          · exact Hall.out t (by omega))⟩
        case measure => simp [intOf]; omega
      · have H := Lib.hid (smB_no (m := m) (c := c) (fun h => e3 (by rw [← HL.out]; exact h.2.2.1 u (by rw [HN.out]; exact hlt))))
        go_wp2; go_ret; exact ⟨ret_bool H.out.symm, rfl⟩
    · have Hm : Hid (∀ t, t < m.length → (bRow m t).length ≤ 20) := Lib.hid (fun t ht => Hall.out t (by rw [HN.out] at ht; omega))
      clear Hall
      go_wp2
      go_loop [6] (fun v => ∃ u : Nat, u ≤ k ∧ v = .int .i64 u ∧ (∀ t, t < u → (rowOf c t).length ≤ 80)) (fun v => k - (intOf v).toNat)
      case atStart => exact ⟨0, Nat.zero_le _, rfl, fun t ht => by omega⟩
      case round =>
        obtain ⟨u, hu, rfl, hall⟩ := hrel
        have Hall := Lib.hid hall
        clear hall
        by_cases hlt : u < k
        · obtain ⟨b, o, rp, rc, rfl, hb, c0, hR⟩ := HC.out.row2 (u := u) (by rw [HK.out]; exact hlt)
          have hL63 := hR.1
          clear hR
          obtain ⟨L, hL⟩ : ∃ L, (rowOf c u).length = L := ⟨_, rfl⟩
          rw [hL] at c0 hL63
          have HL := Lib.hid hL
          clear hL
          by_cases e3 : L ≤ 80
          · go_wp2
            go_round
            case rel => exact ⟨u + 1, by omega, by go_num, fun t ht => (by
              by_cases e : t = u
              · rw [e, HL.out]; exact e3
              · exact Hall.out t (by omega))⟩
            case measure => simp [intOf]; omega
          · have H := Lib.hid (smB_no (m := m) (c := c) (fun h => e3 (by rw [← HL.out]; exact h.2.2.2 u (by rw [HK.out]; exact hlt))))
            go_wp2; go_ret; exact ⟨ret_bool H.out.symm, rfl⟩
        · have H : Hid (smB m c = true) := Lib.hid (decide_eq_true ⟨by rw [HN.out]; exact e1, by rw [HK.out]; exact e2, Hm.out, fun t ht => Hall.out t (by rw [HK.out] at ht; omega)⟩)
          go_wp2; go_ret; exact ⟨ret_bool H.out.symm, rfl⟩
theorem small_e {p q : Option Addr} {n k cp cq : Nat} {m : List (List Bx)} {c : List (List Int)} {w : World} {b : Bool} (h : smB m c = b) (hM : BMat w p m) (hC : Mat w q c) (hn : m.length = n) (hk : c.length = k) :
    Calls Try.prog 8 #[.slice p n cp, .slice q k cq] w fun e w' => e = .returned (.bool b) ∧ w = w' := h ▸ small_p p q n k cp cq m c w hM hC hn hk

set_option maxHeartbeats 8000000 in
theorem checks_l (p q r : Option Addr) (n k j cp cq cr : Nat) (m : List (List Bx)) (c : List (List Int)) (xs : List Int) (w : World) (hM : BMat w p m) (hC : Mat w q c) (hx : Ints w r xs) (hn : m.length = n) (hk : c.length = k) (hj : xs.length = j) (hcr : j ≤ cr) (hcr2 : cr ≤ 9223372036854775807) :
    Calls Try.prog 3 #[.slice p n cp, .slice q k cq, .slice r j cr] w fun e w' => e = .returned (.bool true) ∧ Grew w w' := by
  have hmx := hx.1
  rw [hj] at hmx
  have HM := Lib.hid hM
  have HC := Lib.hid hC
  have HX := Lib.hid hx
  have HN := Lib.hid hn
  have HK := Lib.hid hk
  have HJ := Lib.hid hj
  have Hcr : Hid (xs.length ≤ cr) := Lib.hid (by rw [hj]; exact hcr)
  obtain ⟨b0, h0⟩ : ∃ b, smB m c = b := ⟨_, rfl⟩
  obtain ⟨b1, h1⟩ : ∃ b, vLB m c = b := ⟨_, rfl⟩
  obtain ⟨b2, h2⟩ : ∃ b, chB m xs = b := ⟨_, rfl⟩
  obtain ⟨z, h3⟩ : ∃ z, coS c xs = z := ⟨_, rfl⟩
  have B0 := Lib.hid h0
  have B1 := Lib.hid h1
  have B2 := Lib.hid h2
  have B3 := Lib.hid h3
  clear hM hC hx hn hk hj h0 h1 h2 h3
  cases b0
  · go_enter Try.func3, Try.ntmps3
    go_wp2_with (first
      | (go_at_call 8; apply Calls.mono; (with_reducible exact small_e B0.out HM.out HC.out HN.out HK.out); rintro e w' ⟨rfl, rfl⟩)
      | (go_at_call 9; apply Calls.mono; (with_reducible exact awake_l _); rintro e w' ⟨rfl, x, rfl⟩))
    go_ret
    exact ⟨rfl, by (repeat (first | exact Grew.refl _ | refine Grew.over ?_ _ | refine Grew.alloc ?_ _ | refine Grew.drew ?_ | refine Grew.drewN ?_ _))⟩
  by_cases h30 : 30 < j
  · go_enter Try.func3, Try.ntmps3
    go_wp2_with (first
      | (go_at_call 8; apply Calls.mono; (with_reducible exact small_e B0.out HM.out HC.out HN.out HK.out); rintro e w' ⟨rfl, rfl⟩)
      | (go_at_call 9; apply Calls.mono; (with_reducible exact awake_l _); rintro e w' ⟨rfl, x, rfl⟩))
    go_ret
    exact ⟨rfl, by (repeat (first | exact Grew.refl _ | refine Grew.over ?_ _ | refine Grew.alloc ?_ _ | refine Grew.drew ?_ | refine Grew.drewN ?_ _))⟩
  go_enter Try.func3, Try.ntmps3
  go_wp2_with (first
    | (go_at_call 8; apply Calls.mono; (with_reducible exact small_e B0.out HM.out HC.out HN.out HK.out); rintro e w' ⟨rfl, rfl⟩)
    | (go_at_call 10; apply Calls.mono; (with_reducible exact valid50p_e B1.out (HM.out.grew (by (repeat (first | exact Grew.refl _ | refine Grew.over ?_ _ | refine Grew.alloc ?_ _ | refine Grew.drew ?_ | refine Grew.drewN ?_ _)))) (HC.out.grew (by (repeat (first | exact Grew.refl _ | refine Grew.over ?_ _ | refine Grew.alloc ?_ _ | refine Grew.drew ?_ | refine Grew.drewN ?_ _)))) HN.out HK.out); rintro e w' ⟨rfl, x, rfl⟩)
    | (go_at_call 11; apply Calls.mono; (with_reducible exact valid50r_e B1.out (HM.out.grew (by (repeat (first | exact Grew.refl _ | refine Grew.over ?_ _ | refine Grew.alloc ?_ _ | refine Grew.drew ?_ | refine Grew.drewN ?_ _)))) (HC.out.grew (by (repeat (first | exact Grew.refl _ | refine Grew.over ?_ _ | refine Grew.alloc ?_ _ | refine Grew.drew ?_ | refine Grew.drewN ?_ _)))) HN.out HK.out); rintro e w' ⟨rfl, x, rfl⟩)
    | (go_at_call 12; apply Calls.mono; (with_reducible exact checkp_e B2.out (HM.out.grew (by (repeat (first | exact Grew.refl _ | refine Grew.over ?_ _ | refine Grew.alloc ?_ _ | refine Grew.drew ?_ | refine Grew.drewN ?_ _)))) (HX.out.grew (by (repeat (first | exact Grew.refl _ | refine Grew.over ?_ _ | refine Grew.alloc ?_ _ | refine Grew.drew ?_ | refine Grew.drewN ?_ _)))) HN.out HJ.out); rintro e w' ⟨rfl, x, rfl⟩)
    | (go_at_call 13; apply Calls.mono; (with_reducible exact checkr_e B2.out (HM.out.grew (by (repeat (first | exact Grew.refl _ | refine Grew.over ?_ _ | refine Grew.alloc ?_ _ | refine Grew.drew ?_ | refine Grew.drewN ?_ _)))) (HX.out.grew (by (repeat (first | exact Grew.refl _ | refine Grew.over ?_ _ | refine Grew.alloc ?_ _ | refine Grew.drew ?_ | refine Grew.drewN ?_ _)))) HN.out HJ.out Hcr.out hcr2); rintro e w' ⟨rfl, x, rfl⟩)
    | (go_at_call 14; apply Calls.mono; (with_reducible exact costp_e B3.out (HC.out.grew (by (repeat (first | exact Grew.refl _ | refine Grew.over ?_ _ | refine Grew.alloc ?_ _ | refine Grew.drew ?_ | refine Grew.drewN ?_ _)))) (HX.out.grew (by (repeat (first | exact Grew.refl _ | refine Grew.over ?_ _ | refine Grew.alloc ?_ _ | refine Grew.drew ?_ | refine Grew.drewN ?_ _)))) HK.out HJ.out); rintro e w' ⟨rfl, rfl⟩)
    | (go_at_call 15; apply Calls.mono; (with_reducible exact costr_e B3.out (HC.out.grew (by (repeat (first | exact Grew.refl _ | refine Grew.over ?_ _ | refine Grew.alloc ?_ _ | refine Grew.drew ?_ | refine Grew.drewN ?_ _)))) (HX.out.grew (by (repeat (first | exact Grew.refl _ | refine Grew.over ?_ _ | refine Grew.alloc ?_ _ | refine Grew.drew ?_ | refine Grew.drewN ?_ _)))) HK.out HJ.out); rintro e w' ⟨rfl, x, rfl⟩)
    | (go_at_call 9; apply Calls.mono; (with_reducible exact awake_l _); rintro e w' ⟨rfl, x, rfl⟩))
  go_ret
  exact ⟨rfl, by (repeat (first | exact Grew.refl _ | refine Grew.over ?_ _ | refine Grew.alloc ?_ _ | refine Grew.drew ?_ | refine Grew.drewN ?_ _))⟩
end Go.Proofs.Ytdenjldadlgniaa
