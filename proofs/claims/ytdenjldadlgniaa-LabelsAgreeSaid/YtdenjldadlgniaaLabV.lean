/- The law LabelsPlaces. -/
import Derived.Test.YtdenjldadlgniaaLabU
import Derived.Test.YtdenjldadlgniaaLabT
set_option linter.unusedSimpArgs false
set_option linter.unusedVariables false
namespace Go.Proofs.Ytdenjldadlgniaa
open Go.RowKit
attribute [local go_sem ↓] Go.wp_at_zero Go.wp_at_succ

def PlaceW (m : List (List Bx)) (c : List (List Int)) (w : World) (e : Ending) (w' : World) : Prop :=
  Grew w w' ∧ ((vLB m c = false ∧ e = .returned (.tuple #[.slice none 0 0, .int .i64 0, .int .i64 1])) ∨
    (vLB m c = true ∧ (∀ b, ¬ Cm m b) ∧ e = .returned (.tuple #[.slice none 0 0, .int .i64 0, .int .i64 15])) ∨
    (vLB m c = true ∧ ∃ a q cp, Bst c m.length (Cm m) a ∧ e = .returned (.tuple #[.slice q a.length cp, .int .i64 (lco c a), .int .i64 0]) ∧ Ints w' q (intL a) ∧ a.length ≤ cp))
theorem PlacePost.weak {m : List (List Bx)} {c : List (List Int)} {w w' : World} {e : Ending} (h : PlacePost m c w e w') : PlaceW m c w e w' :=
  ⟨h.1, h.2.imp id fun h => h.imp id fun ⟨h1, a, q, cp, h2, h3, h4, h5, _⟩ => ⟨h1, a, q, cp, h2, h3, h4, h5⟩⟩
theorem place_det (m : List (List Bx)) (c : List (List Int)) : ∃ (L : List Nat) (z er : Int), ∀ w e w', PlaceW m c w e w' → Grew w w' ∧ ∃ q cp, e = .returned (.tuple #[.slice q L.length cp, .int .i64 z, .int .i64 er]) ∧ Ints w' q (intL L) := by
  cases h : vLB m c
  · refine ⟨[], 0, 1, fun w e w' ⟨hg, hp⟩ => ⟨hg, none, 0, ?_, Ints.nil _ _⟩⟩
    rcases hp with ⟨_, g⟩ | ⟨g, _⟩ | ⟨g, _⟩
    · exact g
    all_goals (rw [h] at g; cases g)
  · by_cases hb : ∃ a, Bst c m.length (Cm m) a
    · obtain ⟨a, ha⟩ := hb
      refine ⟨a, lco c a, 0, fun w e w' ⟨hg, hp⟩ => ⟨hg, ?_⟩⟩
      rcases hp with ⟨g, _⟩ | ⟨_, g, _⟩ | ⟨_, a', q, cp, g1, g2, g3, _⟩
      · rw [h] at g; cases g
      · exact absurd ha.1 (g a)
      · have e := g1.unique ha
        subst e
        exact ⟨q, cp, g2, g3⟩
    · refine ⟨[], 0, 15, fun w e w' ⟨hg, hp⟩ => ⟨hg, none, 0, ?_, Ints.nil _ _⟩⟩
      rcases hp with ⟨g, _⟩ | ⟨_, _, g⟩ | ⟨_, a', q, cp, g1, _⟩
      · rw [h] at g; cases g
      · exact g
      · exact absurd ⟨a', g1⟩ hb
theorem placep_d {p q : Option Addr} {n k cp cq : Nat} {m : List (List Bx)} {c : List (List Int)} {w : World} {L : List Nat} {l : Nat} {z er : Int} (hd : ∀ w e w', PlaceW m c w e w' → Grew w w' ∧ ∃ q cp, e = .returned (.tuple #[.slice q l cp, .int .i64 z, .int .i64 er]) ∧ Ints w' q (intL L)) (hM : BMat w p m) (hC : Mat w q c) (hn : m.length = n) (hk : c.length = k) :
    Calls Try.prog 17 #[.slice p n cp, .slice q k cq] w fun e w' => Grew w w' ∧ ∃ q cp, e = .returned (.tuple #[.slice q l cp, .int .i64 z, .int .i64 er]) ∧ Ints w' q (intL L) :=
  (place_p p q n k cp cq m c w hM hC hn hk).mono fun e w' h => hd w e w' h.weak
theorem placer_d {p q : Option Addr} {n k cp cq : Nat} {m : List (List Bx)} {c : List (List Int)} {w : World} {L : List Nat} {l : Nat} {z er : Int} (hd : ∀ w e w', PlaceW m c w e w' → Grew w w' ∧ ∃ q cp, e = .returned (.tuple #[.slice q l cp, .int .i64 z, .int .i64 er]) ∧ Ints w' q (intL L)) (hM : BMat w p m) (hC : Mat w q c) (hn : m.length = n) (hk : c.length = k) :
    Calls Try.prog 18 #[.slice p n cp, .slice q k cq] w fun e w' => Grew w w' ∧ ∃ q cp, e = .returned (.tuple #[.slice q l cp, .int .i64 z, .int .i64 er]) ∧ Ints w' q (intL L) :=
  (place_r p q n k cp cq m c w hM hC hn hk).mono fun e w' h => hd w e w' h

def fwP (m : List (List Bx)) : Prop := ∀ u, u < m.length → ¬ ((3 < (bRow m u).length ∧ 4 < m.length) ∨ 6 < (bRow m u).length)
instance (m : List (List Bx)) : Decidable (fwP m) := by unfold fwP; exact inferInstance
def fwB (m : List (List Bx)) : Bool := decide (fwP m)
theorem fwB_no {m : List (List Bx)} (h : ¬ fwP m) : fwB m = false := decide_eq_false h
set_option maxHeartbeats 4000000 in
theorem few_p (p : Option Addr) (n cp : Nat) (m : List (List Bx)) (w : World) (hM : BMat w p m) (hn : m.length = n) :
    Calls Try.prog 16 #[.slice p n cp] w fun e w' => e = .returned (.bool (fwB m)) ∧ w = w' := by
  have hmm := hM.1
  have HM := Lib.hid hM
  rw [hn] at hmm
  have HN := Lib.hid hn
  clear hM hn
  go_enter Try.func16, Try.ntmps16
  go_wp2
  go_loop [3] (fun v => ∃ u : Nat, u ≤ n ∧ v = .int .i64 u ∧ (∀ t, t < u → ¬ ((3 < (bRow m t).length ∧ 4 < n) ∨ 6 < (bRow m t).length))) (fun v => n - (intOf v).toNat)
  case atStart => exact ⟨0, Nat.zero_le _, rfl, fun t ht => by omega⟩
  case round =>
    obtain ⟨u, hu, rfl, hall⟩ := hrel
    have Hall := Lib.hid hall
    clear hall
    by_cases hlt : u < n
    · obtain ⟨b, o, rp, rc, rfl, hb, c0, hR⟩ := HM.out.row1 (u := u) (by rw [HN.out]; exact hlt)
      have hL63 := hR.1
      clear hR
      have Hno : Hid (((3 < (bRow m u).length ∧ 4 < n) ∨ 6 < (bRow m u).length) → fwB m = false) := Lib.hid (fun h => fwB_no fun g => g u (by rw [HN.out]; exact hlt) (by rw [HN.out]; exact h))
      obtain ⟨L, hL⟩ : ∃ L, (bRow m u).length = L := ⟨_, rfl⟩
      rw [hL] at c0 hL63 Hno
      have HL := Lib.hid hL
      clear hL
      by_cases e1 : 6 < L
      · have H := Lib.hid (Hno.out (Or.inr e1))
        have e0 : 3 < L := by omega
        by_cases e2 : 4 < n
        · go_wp2; go_ret; exact ⟨ret_bool H.out.symm, rfl⟩
        · go_wp2; go_ret; exact ⟨ret_bool H.out.symm, rfl⟩
      by_cases e2 : 3 < L
      · by_cases e3 : 4 < n
        · have H := Lib.hid (Hno.out (Or.inl ⟨e2, e3⟩))
          go_wp2; go_ret; exact ⟨ret_bool H.out.symm, rfl⟩
        · go_wp2
          go_round
          case rel => exact ⟨u + 1, by omega, by go_num, fun t ht => (by
            by_cases e : t = u
            · rw [e, HL.out]; omega
            · exact Hall.out t (by omega))⟩
          case measure => simp [intOf]; omega
      · go_wp2
        go_round
        case rel => exact ⟨u + 1, by omega, by go_num, fun t ht => (by
          by_cases e : t = u
          · rw [e, HL.out]; omega
          · exact Hall.out t (by omega))⟩
        case measure => simp [intOf]; omega
    · have H : Hid (fwB m = true) := Lib.hid (decide_eq_true (fun t ht => by rw [HN.out] at ht ⊢; exact Hall.out t (by omega)))
      go_wp2; go_ret; exact ⟨ret_bool H.out.symm, rfl⟩
theorem few_e {p : Option Addr} {n cp : Nat} {m : List (List Bx)} {w : World} {b : Bool} (h : fwB m = b) (hM : BMat w p m) (hn : m.length = n) :
    Calls Try.prog 16 #[.slice p n cp] w fun e w' => e = .returned (.bool b) ∧ w = w' := h ▸ few_p p n cp m w hM hn
set_option maxHeartbeats 8000000 in
theorem places_l (p q : Option Addr) (n k cp cq : Nat) (m : List (List Bx)) (c : List (List Int)) (w : World) (hM : BMat w p m) (hC : Mat w q c) (hn : m.length = n) (hk : c.length = k) :
    Calls Try.prog 4 #[.slice p n cp, .slice q k cq] w fun e w' => e = .returned (.bool true) ∧ Grew w w' := by
  have HM := Lib.hid hM
  have HC := Lib.hid hC
  have HN := Lib.hid hn
  have HK := Lib.hid hk
  obtain ⟨b0, h0⟩ : ∃ b, smB m c = b := ⟨_, rfl⟩
  obtain ⟨b1, h1⟩ : ∃ b, fwB m = b := ⟨_, rfl⟩
  obtain ⟨b2, h2⟩ : ∃ b, vLB m c = b := ⟨_, rfl⟩
  have B0 := Lib.hid h0
  have B1 := Lib.hid h1
  have B2 := Lib.hid h2
  obtain ⟨L, z, er, hd⟩ := place_det m c
  obtain ⟨l, hl⟩ : ∃ l, L.length = l := ⟨_, rfl⟩
  rw [hl] at hd
  have HL : Hid ((intL L).length = l) := Lib.hid (by rw [intL_length]; exact hl)
  have HD := Lib.hid hd
  clear hM hC hn hk h0 h1 h2 hd hl
  cases b0 <;> cases b1 <;> cases b2
  all_goals (
    go_enter Try.func4, Try.ntmps4
    go_wp2_with (first
      | (go_at_call 8; apply Calls.mono; (with_reducible exact small_e B0.out (HM.out.grew (by (repeat (first | exact Grew.refl _ | refine Grew.over ?_ _ | refine Grew.alloc ?_ _ | refine Grew.drew ?_ | refine Grew.drewN ?_ _)))) (HC.out.grew (by (repeat (first | exact Grew.refl _ | refine Grew.over ?_ _ | refine Grew.alloc ?_ _ | refine Grew.drew ?_ | refine Grew.drewN ?_ _)))) HN.out HK.out); rintro e w' ⟨rfl, rfl⟩)
      | (go_at_call 16; apply Calls.mono; (with_reducible exact few_e B1.out (HM.out.grew (by (repeat (first | exact Grew.refl _ | refine Grew.over ?_ _ | refine Grew.alloc ?_ _ | refine Grew.drew ?_ | refine Grew.drewN ?_ _)))) HN.out); rintro e w' ⟨rfl, rfl⟩)
      | (go_at_call 11; apply Calls.mono; (with_reducible exact valid50r_e B2.out (HM.out.grew (by (repeat (first | exact Grew.refl _ | refine Grew.over ?_ _ | refine Grew.alloc ?_ _ | refine Grew.drew ?_ | refine Grew.drewN ?_ _)))) (HC.out.grew (by (repeat (first | exact Grew.refl _ | refine Grew.over ?_ _ | refine Grew.alloc ?_ _ | refine Grew.drew ?_ | refine Grew.drewN ?_ _)))) HN.out HK.out); rintro e w' ⟨rfl, x, rfl⟩)
      | (go_at_call 17; apply Calls.mono; (with_reducible exact placep_d HD.out (HM.out.grew (by (repeat (first | exact Grew.refl _ | refine Grew.over ?_ _ | refine Grew.alloc ?_ _ | refine Grew.drew ?_ | refine Grew.drewN ?_ _)))) (HC.out.grew (by (repeat (first | exact Grew.refl _ | refine Grew.over ?_ _ | refine Grew.alloc ?_ _ | refine Grew.drew ?_ | refine Grew.drewN ?_ _)))) HN.out HK.out); rintro e w' ⟨⟨x, rfl⟩, q1, c1, rfl, hI1⟩)
      | (go_at_call 18; apply Calls.mono; (with_reducible exact placer_d HD.out (HM.out.grew (by (repeat (first | exact Grew.refl _ | refine Grew.over ?_ _ | refine Grew.alloc ?_ _ | refine Grew.drew ?_ | refine Grew.drewN ?_ _)))) (HC.out.grew (by (repeat (first | exact Grew.refl _ | refine Grew.over ?_ _ | refine Grew.alloc ?_ _ | refine Grew.drew ?_ | refine Grew.drewN ?_ _)))) HN.out HK.out); rintro e w' ⟨⟨x2, rfl⟩, q2, c2, rfl, hI2⟩)
      | (go_at_call 19; apply Calls.mono; (with_reducible exact same_e (r := true) (decide_eq_true rfl) (hI1.grew (by (repeat (first | exact Grew.refl _ | refine Grew.over ?_ _ | refine Grew.alloc ?_ _ | refine Grew.drew ?_ | refine Grew.drewN ?_ _)))) (hI2.grew (by (repeat (first | exact Grew.refl _ | refine Grew.over ?_ _ | refine Grew.alloc ?_ _ | refine Grew.drew ?_ | refine Grew.drewN ?_ _)))) HL.out HL.out); rintro e w' ⟨rfl, x, rfl⟩)
      | (go_at_call 9; apply Calls.mono; (with_reducible exact awake_l _); rintro e w' ⟨rfl, x, rfl⟩))
    go_ret
    exact ⟨rfl, by (repeat (first | exact Grew.refl _ | refine Grew.over ?_ _ | refine Grew.alloc ?_ _ | refine Grew.drew ?_ | refine Grew.drewN ?_ _))⟩)
end Go.Proofs.Ytdenjldadlgniaa
