/- The law LabelsSlots. -/
import Derived.Test.YtdenjldadlgniaaLabS
set_option linter.unusedSimpArgs false
set_option linter.unusedVariables false
namespace Go.Proofs.Ytdenjldadlgniaa
open Go.RowKit
attribute [local go_sem ↓] Go.wp_at_zero Go.wp_at_succ

theorem slots_det (s : List Bx) (c : List (List Int)) : ∃ (L : List Nat) (z er : Int), ∀ w e w', SlotsPost s c w e w' → Grew w w' ∧ ∃ q cp, e = .returned (.tuple #[.slice q L.length cp, .int .i64 z, .int .i64 er]) ∧ Ints w' q (intL L) := by
  cases h : okS s c
  · refine ⟨[], 0, 1, fun w e w' ⟨hg, hp⟩ => ⟨hg, none, 0, ?_, Ints.nil _ _⟩⟩
    rcases hp with ⟨_, g⟩ | ⟨g, _⟩ | ⟨g, _⟩ | ⟨g, _⟩
    · exact g
    all_goals (rw [h] at g; cases g)
  · by_cases hn : NoOv s
    · rcases best_or c with ⟨a, ha⟩ | hno
      · refine ⟨a, costN c a, 0, fun w e w' ⟨hg, hp⟩ => ⟨hg, ?_⟩⟩
        rcases hp with ⟨g, _⟩ | ⟨_, g, _⟩ | ⟨_, _, g, _⟩ | ⟨_, _, a', q, cp, g1, g2, g3, _⟩
        · rw [h] at g; cases g
        · exact absurd hn g
        · exact absurd ha.asg (g a)
        · have e := g1.unique ha
          subst e
          exact ⟨q, cp, g2, g3⟩
      · refine ⟨[], 0, 15, fun w e w' ⟨hg, hp⟩ => ⟨hg, none, 0, ?_, Ints.nil _ _⟩⟩
        rcases hp with ⟨g, _⟩ | ⟨_, g, _⟩ | ⟨_, _, _, g⟩ | ⟨_, _, a', q, cp, g1, _⟩
        · rw [h] at g; cases g
        · exact absurd hn g
        · exact g
        · exact absurd g1.asg (hno a')
    · refine ⟨[], 0, 14, fun w e w' ⟨hg, hp⟩ => ⟨hg, none, 0, ?_, Ints.nil _ _⟩⟩
      rcases hp with ⟨g, _⟩ | ⟨_, _, g⟩ | ⟨_, g, _⟩ | ⟨_, g, _⟩
      · rw [h] at g; cases g
      · exact g
      · exact absurd g hn
      · exact absurd g hn
theorem BMat.nil (w : World) (p : Option Addr) : BMat w p [] := ⟨by simp, 0, 0, fun _ => none, fun _ => 0, fun h => by simp at h, fun i hi => by simp at hi⟩
theorem bnil_len : ([] : List (List Bx)).length = 0 := rfl
theorem slotsp_d {p q : Option Addr} {n k cp cq : Nat} {s : List Bx} {c : List (List Int)} {w : World} {L : List Nat} {l : Nat} {z er : Int} (hd : ∀ w e w', SlotsPost s c w e w' → Grew w w' ∧ ∃ q cp, e = .returned (.tuple #[.slice q l cp, .int .i64 z, .int .i64 er]) ∧ Ints w' q (intL L)) (hI : Bxs w p s) (hC : Mat w q c) (hn : s.length = n) (hk : c.length = k) (hcp : n ≤ cp) (hcp2 : cp ≤ 9223372036854775807) :
    Calls Try.prog 20 #[.slice p n cp, .slice q k cq] w fun e w' => Grew w w' ∧ ∃ q cp, e = .returned (.tuple #[.slice q l cp, .int .i64 z, .int .i64 er]) ∧ Ints w' q (intL L) :=
  (slots_p p q n k cp cq s c w hI hC hn hk hcp hcp2).mono fun e w' h => hd w e w' h
theorem slotsr_d {p q : Option Addr} {n k cp cq : Nat} {s : List Bx} {c : List (List Int)} {w : World} {L : List Nat} {l : Nat} {z er : Int} (hd : ∀ w e w', SlotsPost s c w e w' → Grew w w' ∧ ∃ q cp, e = .returned (.tuple #[.slice q l cp, .int .i64 z, .int .i64 er]) ∧ Ints w' q (intL L)) (hI : Bxs w p s) (hC : Mat w q c) (hn : s.length = n) (hk : c.length = k) :
    Calls Try.prog 21 #[.slice p n cp, .slice q k cq] w fun e w' => Grew w w' ∧ ∃ q cp, e = .returned (.tuple #[.slice q l cp, .int .i64 z, .int .i64 er]) ∧ Ints w' q (intL L) :=
  (slots_r p q n k cp cq s c w hI hC hn hk).mono fun e w' h => hd w e w' h

set_option maxHeartbeats 8000000 in
theorem slots_l (p q : Option Addr) (n k cp cq : Nat) (s : List Bx) (c : List (List Int)) (w : World) (hI : Bxs w p s) (hC : Mat w q c) (hn : s.length = n) (hk : c.length = k) (hcp : n ≤ cp) (hcp2 : cp ≤ 9223372036854775807) :
    Calls Try.prog 5 #[.slice p n cp, .slice q k cq] w fun e w' => e = .returned (.bool true) ∧ Grew w w' := by
  have HI := Lib.hid hI
  have HC := Lib.hid hC
  have hmm := hI.1
  have hmc := hC.1
  rw [hn] at hmm
  rw [hk] at hmc
  have HN := Lib.hid hn
  have HK := Lib.hid hk
  obtain ⟨b0, h0⟩ : ∃ b, smB [] c = b := ⟨_, rfl⟩
  have B0 := Lib.hid h0
  obtain ⟨L, z, er, hd⟩ := slots_det s c
  obtain ⟨l, hl⟩ : ∃ l, L.length = l := ⟨_, rfl⟩
  rw [hl] at hd
  have HL : Hid ((intL L).length = l) := Lib.hid (by rw [intL_length]; exact hl)
  have HD := Lib.hid hd
  clear hI hC hn hk h0 hd hl
  by_cases g1 : 70 < n
  · go_enter Try.func5, Try.ntmps5
    go_wp2_with ((go_at_call 9; apply Calls.mono; (with_reducible exact awake_l _); rintro e w' ⟨rfl, x, rfl⟩))
    go_ret
    exact ⟨rfl, by (repeat (first | exact Grew.refl _ | refine Grew.over ?_ _ | refine Grew.alloc ?_ _ | refine Grew.drew ?_ | refine Grew.drewN ?_ _))⟩
  cases b0
  · go_enter Try.func5, Try.ntmps5
    go_wp2_with (first
      | (go_at_call 8; apply Calls.mono; (with_reducible exact small_e B0.out (BMat.nil _ _) HC.out bnil_len HK.out); rintro e w' ⟨rfl, rfl⟩)
      | (go_at_call 9; apply Calls.mono; (with_reducible exact awake_l _); rintro e w' ⟨rfl, x, rfl⟩))
    go_ret
    exact ⟨rfl, by (repeat (first | exact Grew.refl _ | refine Grew.over ?_ _ | refine Grew.alloc ?_ _ | refine Grew.drew ?_ | refine Grew.drewN ?_ _))⟩
  by_cases g2 : 6 < n ∧ 0 < k
  · obtain ⟨g2, g3⟩ := g2
    go_enter Try.func5, Try.ntmps5
    go_wp2_with (first
      | (go_at_call 8; apply Calls.mono; (with_reducible exact small_e B0.out (BMat.nil _ _) HC.out bnil_len HK.out); rintro e w' ⟨rfl, rfl⟩)
      | (go_at_call 9; apply Calls.mono; (with_reducible exact awake_l _); rintro e w' ⟨rfl, x, rfl⟩))
    go_ret
    exact ⟨rfl, by (repeat (first | exact Grew.refl _ | refine Grew.over ?_ _ | refine Grew.alloc ?_ _ | refine Grew.drew ?_ | refine Grew.drewN ?_ _))⟩
  by_cases g4 : 5 < k
  · have g5 : ¬ 6 < n := fun h => g2 ⟨h, by omega⟩
    clear g2
    go_enter Try.func5, Try.ntmps5
    go_wp2_with (first
      | (go_at_call 8; apply Calls.mono; (with_reducible exact small_e B0.out (BMat.nil _ _) HC.out bnil_len HK.out); rintro e w' ⟨rfl, rfl⟩)
      | (go_at_call 9; apply Calls.mono; (with_reducible exact awake_l _); rintro e w' ⟨rfl, x, rfl⟩))
    go_ret
    exact ⟨rfl, by (repeat (first | exact Grew.refl _ | refine Grew.over ?_ _ | refine Grew.alloc ?_ _ | refine Grew.drew ?_ | refine Grew.drewN ?_ _))⟩
  by_cases g5 : 6 < n
  · have g6 : k = 0 := by
      have : ¬ 0 < k := fun h => g2 ⟨g5, h⟩
      omega
    subst g6
    clear g2
    go_enter Try.func5, Try.ntmps5
    go_wp2_with (first
      | (go_at_call 8; apply Calls.mono; (with_reducible exact small_e B0.out (BMat.nil _ _) HC.out bnil_len HK.out); rintro e w' ⟨rfl, rfl⟩)
      | (go_at_call 20; apply Calls.mono; (with_reducible exact slotsp_d HD.out (HI.out.grew (by (repeat (first | exact Grew.refl _ | refine Grew.over ?_ _ | refine Grew.alloc ?_ _ | refine Grew.drew ?_ | refine Grew.drewN ?_ _)))) (HC.out.grew (by (repeat (first | exact Grew.refl _ | refine Grew.over ?_ _ | refine Grew.alloc ?_ _ | refine Grew.drew ?_ | refine Grew.drewN ?_ _)))) HN.out HK.out hcp hcp2); rintro e w' ⟨⟨x, rfl⟩, q1, c1, rfl, hI1⟩)
      | (go_at_call 21; apply Calls.mono; (with_reducible exact slotsr_d HD.out (HI.out.grew (by (repeat (first | exact Grew.refl _ | refine Grew.over ?_ _ | refine Grew.alloc ?_ _ | refine Grew.drew ?_ | refine Grew.drewN ?_ _)))) (HC.out.grew (by (repeat (first | exact Grew.refl _ | refine Grew.over ?_ _ | refine Grew.alloc ?_ _ | refine Grew.drew ?_ | refine Grew.drewN ?_ _)))) HN.out HK.out); rintro e w' ⟨⟨x2, rfl⟩, q2, c2, rfl, hI2⟩)
      | (go_at_call 19; apply Calls.mono; (with_reducible exact same_e (r := true) (decide_eq_true rfl) (hI1.grew (by (repeat (first | exact Grew.refl _ | refine Grew.over ?_ _ | refine Grew.alloc ?_ _ | refine Grew.drew ?_ | refine Grew.drewN ?_ _)))) (hI2.grew (by (repeat (first | exact Grew.refl _ | refine Grew.over ?_ _ | refine Grew.alloc ?_ _ | refine Grew.drew ?_ | refine Grew.drewN ?_ _)))) HL.out HL.out); rintro e w' ⟨rfl, x, rfl⟩)
      | (go_at_call 9; apply Calls.mono; (with_reducible exact awake_l _); rintro e w' ⟨rfl, x, rfl⟩))
    go_ret
    exact ⟨rfl, by (repeat (first | exact Grew.refl _ | refine Grew.over ?_ _ | refine Grew.alloc ?_ _ | refine Grew.drew ?_ | refine Grew.drewN ?_ _))⟩
  clear g2
  go_enter Try.func5, Try.ntmps5
  go_wp2_with (first
    | (go_at_call 8; apply Calls.mono; (with_reducible exact small_e B0.out (BMat.nil _ _) HC.out bnil_len HK.out); rintro e w' ⟨rfl, rfl⟩)
    | (go_at_call 20; apply Calls.mono; (with_reducible exact slotsp_d HD.out (HI.out.grew (by (repeat (first | exact Grew.refl _ | refine Grew.over ?_ _ | refine Grew.alloc ?_ _ | refine Grew.drew ?_ | refine Grew.drewN ?_ _)))) (HC.out.grew (by (repeat (first | exact Grew.refl _ | refine Grew.over ?_ _ | refine Grew.alloc ?_ _ | refine Grew.drew ?_ | refine Grew.drewN ?_ _)))) HN.out HK.out hcp hcp2); rintro e w' ⟨⟨x, rfl⟩, q1, c1, rfl, hI1⟩)
    | (go_at_call 21; apply Calls.mono; (with_reducible exact slotsr_d HD.out (HI.out.grew (by (repeat (first | exact Grew.refl _ | refine Grew.over ?_ _ | refine Grew.alloc ?_ _ | refine Grew.drew ?_ | refine Grew.drewN ?_ _)))) (HC.out.grew (by (repeat (first | exact Grew.refl _ | refine Grew.over ?_ _ | refine Grew.alloc ?_ _ | refine Grew.drew ?_ | refine Grew.drewN ?_ _)))) HN.out HK.out); rintro e w' ⟨⟨x2, rfl⟩, q2, c2, rfl, hI2⟩)
    | (go_at_call 19; apply Calls.mono; (with_reducible exact same_e (r := true) (decide_eq_true rfl) (hI1.grew (by (repeat (first | exact Grew.refl _ | refine Grew.over ?_ _ | refine Grew.alloc ?_ _ | refine Grew.drew ?_ | refine Grew.drewN ?_ _)))) (hI2.grew (by (repeat (first | exact Grew.refl _ | refine Grew.over ?_ _ | refine Grew.alloc ?_ _ | refine Grew.drew ?_ | refine Grew.drewN ?_ _)))) HL.out HL.out); rintro e w' ⟨rfl, x, rfl⟩)
    | (go_at_call 9; apply Calls.mono; (with_reducible exact awake_l _); rintro e w' ⟨rfl, x, rfl⟩))
  go_ret
  exact ⟨rfl, by (repeat (first | exact Grew.refl _ | refine Grew.over ?_ _ | refine Grew.alloc ?_ _ | refine Grew.drew ?_ | refine Grew.drewN ?_ _))⟩
end Go.Proofs.Ytdenjldadlgniaa
