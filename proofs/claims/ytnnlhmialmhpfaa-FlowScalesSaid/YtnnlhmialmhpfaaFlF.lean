/- Networks in memory; Valid of the program and of the reference. -/
import Derived.Test.YtnnlhmialmhpfaaFlD
import Derived.Test.YtnnlhmialmhpfaaMem
import Derived.Test.YtnnlhmialmhpfaaHeld
import Derived.Deep.DeepCutAuto
import Derived.Deep.LoopGhost
import Derived.Deep.DrawnRows
set_option linter.unusedSimpArgs false
set_option linter.unusedVariables false
namespace Go.Proofs.Ytnnlhmialmhpfaa
open Go.RowKit
attribute [local go_sem ↓] Go.wp_at_zero Go.wp_at_succ

def w64 (x : Int) : Prop := -9223372036854775808 ≤ x ∧ x ≤ 9223372036854775807
/-- A slice of arcs. -/
def Arks (w : World) (q : Option Addr) (A : List Ark) : Prop :=
  A.length ≤ 9223372036854775807 ∧ (∀ i, i < A.length → w64 (aK A i).fr ∧ w64 (aK A i).ed ∧ w64 (aK A i).cap ∧ w64 (aK A i).cost) ∧
  ∃ b o, (0 < A.length → q = some ⟨b, o, none⟩ ∧ b < w.heap.size) ∧ ∀ i, i < A.length → w.cell? ⟨b, o + i * 4, none⟩ = some (.int .i64 (aK A i).fr) ∧ w.cell? ⟨b, o + i * 4 + 1, none⟩ = some (.int .i64 (aK A i).ed) ∧
    w.cell? ⟨b, o + i * 4 + 2, none⟩ = some (.int .i64 (aK A i).cap) ∧ w.cell? ⟨b, o + i * 4 + 3, none⟩ = some (.int .i64 (aK A i).cost)
theorem Arks.grew {w w' : World} {q : Option Addr} {A : List Ark} (h : Arks w q A) (hg : Grew w w') : Arks w' q A := by
  obtain ⟨h1, h2, b, o, h3, h4⟩ := h
  exact ⟨h1, h2, b, o, fun hp => ⟨(h3 hp).1, Nat.lt_of_lt_of_le (h3 hp).2 hg.below.size⟩, fun i hi => ⟨hg.cellEq (h4 i hi).1, hg.cellEq (h4 i hi).2.1, hg.cellEq (h4 i hi).2.2.1, hg.cellEq (h4 i hi).2.2.2⟩⟩
theorem Arks.open {w : World} {q : Option Addr} {A : List Ark} (h : Arks w q A) {i : Nat} (hi : i < A.length) : ∃ b o, q = some ⟨b, o, none⟩ ∧ b < w.heap.size ∧ w.cell? ⟨b, o + i * 4, none⟩ = some (.int .i64 (aK A i).fr) ∧ w.cell? ⟨b, o + i * 4 + 1, none⟩ = some (.int .i64 (aK A i).ed) ∧
    w.cell? ⟨b, o + i * 4 + 2, none⟩ = some (.int .i64 (aK A i).cap) ∧ w.cell? ⟨b, o + i * 4 + 3, none⟩ = some (.int .i64 (aK A i).cost) := by
  obtain ⟨_, _, b, o, h3, h4⟩ := h
  exact ⟨b, o, (h3 (by omega)).1, (h3 (by omega)).2, h4 i hi⟩
theorem Arks.rng {w : World} {q : Option Addr} {A : List Ark} (h : Arks w q A) {i : Nat} (hi : i < A.length) : w64 (aK A i).fr ∧ w64 (aK A i).ed ∧ w64 (aK A i).cap ∧ w64 (aK A i).cost := h.2.1 i hi

def arkOK (n : Nat) (a : Ark) : Prop := (0 ≤ a.fr ∧ a.fr < n) ∧ (0 ≤ a.ed ∧ a.ed < n) ∧ (0 ≤ a.cap ∧ a.cap ≤ 1048576) ∧ (-1000 ≤ a.cost ∧ a.cost ≤ 1000)
instance (n : Nat) (a : Ark) : Decidable (arkOK n a) := by unfold arkOK; exact inferInstance
theorem vN_iff {s : List Int} {A : List Ark} : vN s A ↔ s.length ≤ 256 ∧ A.length ≤ 2048 ∧ (∀ v, v < s.length → -1048576 ≤ ge s v ∧ ge s v ≤ 1048576) ∧ (∀ i, i < A.length → arkOK s.length (aK A i)) ∧ sumN (fun v => ge s v) s.length = 0 :=
  ⟨fun h => ⟨h.n, h.m, h.sb, h.a, h.z⟩, fun h => ⟨h.1, h.2.1, h.2.2.1, h.2.2.2.1, h.2.2.2.2⟩⟩
instance (s : List Int) (A : List Ark) : Decidable (vN s A) := decidable_of_iff' _ vN_iff
def nB (s : List Int) (A : List Ark) : Bool := decide (vN s A)
theorem nB_iff {s : List Int} {A : List Ark} : nB s A = true ↔ vN s A := by unfold nB; simp
theorem nB_not {s : List Int} {A : List Ark} (h : ¬ vN s A) : nB s A = false := by rw [← Bool.not_eq_true, nB_iff]; exact h
theorem sum_bd {s : List Int} : ∀ k, (∀ v, v < k → -1048576 ≤ ge s v ∧ ge s v ≤ 1048576) → -((k : Int) * 1048576) ≤ sumN (fun v => ge s v) k ∧ sumN (fun v => ge s v) k ≤ (k : Int) * 1048576
  | 0, _ => ⟨Int.le_refl _, Int.le_refl _⟩
  | k + 1, h => by
    have ih := sum_bd k (fun v hv => h v (by omega))
    have := h k (by omega)
    rw [sumN]
    omega

set_option maxHeartbeats 1000000 in
theorem within_p (x a b : Int) (w : World) : Calls Try.prog 20 #[.int .i64 x, .int .i64 a, .int .i64 b] w fun e w' => e = .returned (.bool (decide (a ≤ x ∧ x ≤ b))) ∧ w = w' := by
  go_enter Try.func20, Try.ntmps20
  go_wp2
  all_goals
    go_ret
    refine ⟨ret_bool ?_, rfl⟩
    rw [Bool.eq_iff_iff]
    simp
    try omega
theorem within_e {x a b : Int} {w : World} {c : Bool} (h : decide (a ≤ x ∧ x ≤ b) = c) : Calls Try.prog 20 #[.int .i64 x, .int .i64 a, .int .i64 b] w fun e w' => e = .returned (.bool c) ∧ w = w' := h ▸ within_p x a b w

def netV (p : Option Addr) (n cp : Nat) (q : Option Addr) (m cq : Nat) : Value := .agg #[.slice p n cp, .slice q m cq]

set_option maxHeartbeats 8000000 in
theorem valid_p (p q : Option Addr) (n cp m cq : Nat) (s : List Int) (A : List Ark) (w : World) (hS : Ints w p s) (hA : Arks w q A) (hn : s.length = n) (hm : A.length = m) :
    Calls Try.prog 10 #[.agg #[.slice p n cp, .slice q m cq]] w fun e w' => e = .returned (.bool (nB s A)) ∧ Grew w w' := by
  subst hn hm
  have hsm := hS.1
  have ham := hA.1
  by_cases h256 : 256 < s.length
  · have Hf := Lib.hid (nB_not (s := s) (A := A) (fun h => by have := h.n; omega))
    go_enter Try.func10, Try.ntmps10
    go_wp2
    go_ret
    exact ⟨ret_bool Hf.out.symm, by (repeat (first | exact Grew.refl _ | refine Grew.over ?_ _ | refine Grew.alloc ?_ _ | refine Grew.drew ?_ | refine Grew.drewN ?_ _))⟩
  by_cases h2048 : 2048 < A.length
  · have Hf := Lib.hid (nB_not (s := s) (A := A) (fun h => by have := h.m; omega))
    go_enter Try.func10, Try.ntmps10
    go_wp2
    go_ret
    exact ⟨ret_bool Hf.out.symm, by (repeat (first | exact Grew.refl _ | refine Grew.over ?_ _ | refine Grew.alloc ?_ _ | refine Grew.drew ?_ | refine Grew.drewN ?_ _))⟩
  obtain ⟨b, o, h3, h4⟩ := hS.open
  have H4 := Lib.hid h4
  clear h4
  go_enter Try.func10, Try.ntmps10
  go_wp2
  go_loop [3, 5, 21] (fun v3 _ v21 => ∃ k : Nat, k ≤ s.length ∧ v21 = .int .i64 k ∧ v3 = .int .i64 (sumN (fun v => ge s v) k) ∧ ∀ v, v < k → -1048576 ≤ ge s v ∧ ge s v ≤ 1048576) (fun _ _ v21 => s.length - (intOf v21).toNat)
  case atStart => exact ⟨0, Nat.zero_le _, rfl, rfl, fun v hv => by omega⟩
  case round =>
    obtain ⟨k, hk, rfl, rfl, hall⟩ := hrel
    obtain ⟨sb1, sb2⟩ := sum_bd k hall
    have Hall := Lib.hid hall
    clear hall
    obtain ⟨S, hS0⟩ : ∃ S, sumN (fun v => ge s v) k = S := ⟨_, rfl⟩
    rw [hS0] at sb1 sb2 ⊢
    have HS0 := Lib.hid hS0
    clear hS0
    by_cases hlt : k < s.length
    · obtain ⟨rfl, hb⟩ := h3 (by omega)
      have d := H4.out k hlt
      have hsn : sumN (fun v => ge s v) (k + 1) = S + ge s k := by rw [sumN, HS0.out]
      have Hsn := Lib.hid hsn
      clear hsn
      obtain ⟨x, hx⟩ : ∃ x, ge s k = x := ⟨_, rfl⟩
      rw [hx] at d
      have Hx := Lib.hid hx
      clear hx
      by_cases hin : -1048576 ≤ x ∧ x ≤ 1048576
      · have Hin := Lib.hid (decide_eq_true hin)
        obtain ⟨i1, i2⟩ := hin
        go_wp2_with (go_at_call 20; apply Calls.mono; (with_reducible exact within_e Hin.out); rintro e w' ⟨rfl, rfl⟩)
        go_round
        case rel =>
          refine ⟨k + 1, by omega, by go_num, by rw [Hsn.out, Hx.out], fun v hv => ?_⟩
          by_cases e : v = k
          · rw [e, Hx.out]; exact ⟨i1, i2⟩
          · exact Hall.out v (by omega)
        case measure => simp [intOf]; omega
      · have Hin := Lib.hid (decide_eq_false hin)
        have Hf := Lib.hid (nB_not (s := s) (A := A) (fun h => hin (by rw [← Hx.out]; exact h.sb k hlt)))
        clear hin
        go_wp2_with (go_at_call 20; apply Calls.mono; (with_reducible exact within_e Hin.out); rintro e w' ⟨rfl, rfl⟩)
        go_ret
        exact ⟨ret_bool Hf.out.symm, by (repeat (first | exact Grew.refl _ | refine Grew.over ?_ _ | refine Grew.alloc ?_ _ | refine Grew.drew ?_ | refine Grew.drewN ?_ _))⟩
    · have hke : k = s.length := by omega
      subst hke
      go_wp2
      have HA := Lib.hid hA
      have hnn : (s.length : Int) ≤ 256 := by omega
      clear hA
      go_loopw [35] (fun v35 wr => ∃ k : Nat, k ≤ A.length ∧ v35 = .int .i64 k ∧ (∀ i, i < k → arkOK s.length (aK A i)) ∧ Grew w wr ∧ w.heap.size < wr.heap.size ∧ wr.cell? ⟨w.heap.size, 0, none⟩ = some (.slice p s.length cp) ∧ wr.cell? ⟨w.heap.size, 1, none⟩ = some (.slice q A.length cq)) (fun v35 _ => A.length - (intOf v35).toNat)
      case atStart => exact ⟨0, Nat.zero_le _, rfl, fun i hi => by omega, by (repeat (first | exact Grew.refl _ | refine Grew.over ?_ _ | refine Grew.alloc ?_ _ | refine Grew.drew ?_ | refine Grew.drewN ?_ _)), by simp, by simp [go_sem], by simp [go_sem]⟩
      case round =>
        obtain ⟨k, hk, rfl, hall2, hg, hsb, x0, x1⟩ := hrel
        have Hall2 := Lib.hid hall2
        have Hg := Lib.hid hg
        clear hall2 hg
        have hsz := Hg.out.below.size
        by_cases hlt2 : k < A.length
        · obtain ⟨b2, o2, rfl, hb2, c0, c1, c2, c3⟩ := (HA.out.grew Hg.out).open hlt2
          obtain ⟨⟨r1, r2⟩, ⟨r3, r4⟩, ⟨r5, r6⟩, r7, r8⟩ := HA.out.rng hlt2
          obtain ⟨fr, hfr⟩ : ∃ x, (aK A k).fr = x := ⟨_, rfl⟩
          obtain ⟨te, hto⟩ : ∃ x, (aK A k).ed = x := ⟨_, rfl⟩
          obtain ⟨cp', hcp⟩ : ∃ x, (aK A k).cap = x := ⟨_, rfl⟩
          obtain ⟨co, hco⟩ : ∃ x, (aK A k).cost = x := ⟨_, rfl⟩
          rw [hfr] at c0 r1 r2
          rw [hto] at c1 r3 r4
          rw [hcp] at c2 r5 r6
          rw [hco] at c3 r7 r8
          have Hok : Hid (arkOK s.length (aK A k) ↔ (0 ≤ fr ∧ fr ≤ (s.length : Int) - 1) ∧ (0 ≤ te ∧ te ≤ (s.length : Int) - 1) ∧ (0 ≤ cp' ∧ cp' ≤ 1048576) ∧ (-1000 ≤ co ∧ co ≤ 1000)) := Lib.hid (by
            unfold arkOK
            rw [hfr, hto, hcp, hco]
            constructor
            · rintro ⟨⟨a1, a2⟩, ⟨a3, a4⟩, a5, a6⟩; exact ⟨⟨a1, by omega⟩, ⟨a3, by omega⟩, a5, a6⟩
            · rintro ⟨⟨a1, a2⟩, ⟨a3, a4⟩, a5, a6⟩; exact ⟨⟨a1, by omega⟩, ⟨a3, by omega⟩, a5, a6⟩)
          have Hno : Hid (¬ arkOK s.length (aK A k) → nB s A = false) := Lib.hid (fun h => nB_not (fun hv => h (hv.a k hlt2)))
          clear hfr hto hcp hco
          by_cases e1 : 0 ≤ fr ∧ fr ≤ (s.length : Int) - 1
          case neg =>
            have E1 := Lib.hid (decide_eq_false e1)
            have Hf := Lib.hid (Hno.out (fun h => e1 (Hok.out.1 h).1))
            clear e1
            go_wp2_with (go_at_call 20; apply Calls.mono; (with_reducible exact within_e E1.out); rintro e w' ⟨rfl, rfl⟩)
            go_ret
            exact ⟨ret_bool Hf.out.symm, Hg.out.trans (by (repeat (first | exact Grew.refl _ | refine Grew.over ?_ _ | refine Grew.alloc ?_ _ | refine Grew.drew ?_ | refine Grew.drewN ?_ _)))⟩
          by_cases e2 : 0 ≤ te ∧ te ≤ (s.length : Int) - 1
          case neg =>
            have E1 := Lib.hid (decide_eq_true e1)
            have E2 := Lib.hid (decide_eq_false e2)
            have Hf := Lib.hid (Hno.out (fun h => e2 (Hok.out.1 h).2.1))
            clear e1 e2
            go_wp2_with (first | (go_at_call 20; apply Calls.mono; (with_reducible exact within_e E1.out); rintro e w' ⟨rfl, rfl⟩) | (go_at_call 20; apply Calls.mono; (with_reducible exact within_e E2.out); rintro e w' ⟨rfl, rfl⟩))
            go_ret
            exact ⟨ret_bool Hf.out.symm, Hg.out.trans (by (repeat (first | exact Grew.refl _ | refine Grew.over ?_ _ | refine Grew.alloc ?_ _ | refine Grew.drew ?_ | refine Grew.drewN ?_ _)))⟩
          by_cases e3 : 0 ≤ cp' ∧ cp' ≤ 1048576
          case neg =>
            have E1 := Lib.hid (decide_eq_true e1)
            have E2 := Lib.hid (decide_eq_true e2)
            have E3 := Lib.hid (decide_eq_false e3)
            have Hf := Lib.hid (Hno.out (fun h => e3 (Hok.out.1 h).2.2.1))
            clear e1 e2 e3
            go_wp2_with (first | (go_at_call 20; apply Calls.mono; (with_reducible exact within_e E1.out); rintro e w' ⟨rfl, rfl⟩) | (go_at_call 20; apply Calls.mono; (with_reducible exact within_e E2.out); rintro e w' ⟨rfl, rfl⟩) | (go_at_call 20; apply Calls.mono; (with_reducible exact within_e E3.out); rintro e w' ⟨rfl, rfl⟩))
            go_ret
            exact ⟨ret_bool Hf.out.symm, Hg.out.trans (by (repeat (first | exact Grew.refl _ | refine Grew.over ?_ _ | refine Grew.alloc ?_ _ | refine Grew.drew ?_ | refine Grew.drewN ?_ _)))⟩
          by_cases e4 : -1000 ≤ co ∧ co ≤ 1000
          case neg =>
            have E1 := Lib.hid (decide_eq_true e1)
            have E2 := Lib.hid (decide_eq_true e2)
            have E3 := Lib.hid (decide_eq_true e3)
            have E4 := Lib.hid (decide_eq_false e4)
            have Hf := Lib.hid (Hno.out (fun h => e4 (Hok.out.1 h).2.2.2))
            clear e1 e2 e3 e4
            go_wp2_with (first | (go_at_call 20; apply Calls.mono; (with_reducible exact within_e E1.out); rintro e w' ⟨rfl, rfl⟩) | (go_at_call 20; apply Calls.mono; (with_reducible exact within_e E2.out); rintro e w' ⟨rfl, rfl⟩) | (go_at_call 20; apply Calls.mono; (with_reducible exact within_e E3.out); rintro e w' ⟨rfl, rfl⟩) | (go_at_call 20; apply Calls.mono; (with_reducible exact within_e E4.out); rintro e w' ⟨rfl, rfl⟩))
            go_ret
            exact ⟨ret_bool Hf.out.symm, Hg.out.trans (by (repeat (first | exact Grew.refl _ | refine Grew.over ?_ _ | refine Grew.alloc ?_ _ | refine Grew.drew ?_ | refine Grew.drewN ?_ _)))⟩
          have E1 := Lib.hid (decide_eq_true e1)
          have E2 := Lib.hid (decide_eq_true e2)
          have E3 := Lib.hid (decide_eq_true e3)
          have E4 := Lib.hid (decide_eq_true e4)
          have Hk := Lib.hid (Hok.out.2 ⟨e1, e2, e3, e4⟩)
          clear e1 e2 e3 e4
          go_wp2_with (first | (go_at_call 20; apply Calls.mono; (with_reducible exact within_e E1.out); rintro e w' ⟨rfl, rfl⟩) | (go_at_call 20; apply Calls.mono; (with_reducible exact within_e E2.out); rintro e w' ⟨rfl, rfl⟩) | (go_at_call 20; apply Calls.mono; (with_reducible exact within_e E3.out); rintro e w' ⟨rfl, rfl⟩) | (go_at_call 20; apply Calls.mono; (with_reducible exact within_e E4.out); rintro e w' ⟨rfl, rfl⟩))
          go_roundw
          case rel =>
            refine ⟨k + 1, by omega, by go_num, fun i hi => ?_, Hg.out.trans (by (repeat (first | exact Grew.refl _ | refine Grew.over ?_ _ | refine Grew.alloc ?_ _ | refine Grew.drew ?_ | refine Grew.drewN ?_ _))), by simp; omega, Grew.cellEq (by (repeat (first | exact Grew.refl _ | refine Grew.over ?_ _ | refine Grew.alloc ?_ _ | refine Grew.drew ?_ | refine Grew.drewN ?_ _))) x0, Grew.cellEq (by (repeat (first | exact Grew.refl _ | refine Grew.over ?_ _ | refine Grew.alloc ?_ _ | refine Grew.drew ?_ | refine Grew.drewN ?_ _))) x1⟩
            by_cases e : i = k
            · rw [e]; exact Hk.out
            · exact Hall2.out i (by omega)
          case measure => simp [intOf]; omega
        · have hke : k = A.length := by omega
          have Hrest : Hid (nB s A = decide (S = 0)) := Lib.hid (by
            unfold nB
            refine decide_eq_decide.2 ⟨fun h => by rw [← HS0.out]; exact h.z, fun h => vN_iff.2 ⟨by omega, by omega, Hall.out, fun i hi => Hall2.out i (by omega), by rw [HS0.out]; exact h⟩⟩)
          clear hke
          go_wp2
          go_ret
          refine ⟨ret_bool ?_, Hg.out⟩
          rw [Hrest.out, Bool.eq_iff_iff]
          simp
end Go.Proofs.Ytnnlhmialmhpfaa
