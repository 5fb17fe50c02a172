/- Digraphs in memory; Valid of the program and of the reference. -/
import Derived.Test.YtgodoeefgmfpfaaFoB
import Derived.Test.YtgodoeefgmfpfaaLex
import Derived.Test.YtgodoeefgmfpfaaMem
import Derived.Test.YtgodoeefgmfpfaaHeld
import Derived.Deep.DeepCutAuto
import Derived.Deep.LoopGhost
import Derived.Deep.DrawnRows
set_option linter.unusedSimpArgs false
set_option linter.unusedVariables false
namespace Go.Proofs.Ytgodoeefgmfpfaa
open Go.RowKit
attribute [local go_sem ↓] Go.wp_at_zero Go.wp_at_succ

/-- A slice of arcs. -/
def Prs (w : World) (p : Option Addr) (E : List (Int × Int)) : Prop :=
  E.length ≤ 9223372036854775807 ∧ ∃ b o, (0 < E.length → p = some ⟨b, o, none⟩ ∧ b < w.heap.size) ∧ ∀ i, i < E.length → w.cell? ⟨b, o + i * 2, none⟩ = some (.int .i64 (pr E i).1) ∧ w.cell? ⟨b, o + i * 2 + 1, none⟩ = some (.int .i64 (pr E i).2)
theorem Prs.grew {w w' : World} {p : Option Addr} {E : List (Int × Int)} (h : Prs w p E) (hg : Grew w w') : Prs w' p E := by
  obtain ⟨h1, b, o, h3, h4⟩ := h
  exact ⟨h1, b, o, fun hp => ⟨(h3 hp).1, Nat.lt_of_lt_of_le (h3 hp).2 hg.below.size⟩, fun i hi => ⟨hg.cellEq (h4 i hi).1, hg.cellEq (h4 i hi).2⟩⟩
theorem Prs.open {w : World} {p : Option Addr} {E : List (Int × Int)} (h : Prs w p E) {i : Nat} (hi : i < E.length) : ∃ b o, p = some ⟨b, o, none⟩ ∧ b < w.heap.size ∧ w.cell? ⟨b, o + i * 2, none⟩ = some (.int .i64 (pr E i).1) ∧ w.cell? ⟨b, o + i * 2 + 1, none⟩ = some (.int .i64 (pr E i).2) := by
  obtain ⟨_, b, o, h3, h4⟩ := h
  exact ⟨b, o, (h3 (by omega)).1, (h3 (by omega)).2, h4 i hi⟩
def arcOK (N : Int) (a : Int × Int) : Prop := (0 ≤ a.1 ∧ a.1 < N) ∧ (0 ≤ a.2 ∧ a.2 < N)
instance (N : Int) (a : Int × Int) : Decidable (arcOK N a) := by unfold arcOK; exact inferInstance
theorem vD_iff {N : Int} {E : List (Int × Int)} : vD N E ↔ 0 ≤ N ∧ N ≤ 64 ∧ E.length ≤ 256 ∧ ∀ i, i < E.length → arcOK N (pr E i) := ⟨fun h => ⟨h.n0, h.n1, h.m, h.a⟩, fun h => ⟨h.1, h.2.1, h.2.2.1, h.2.2.2⟩⟩
instance (N : Int) (E : List (Int × Int)) : Decidable (vD N E) := decidable_of_iff' _ vD_iff
def dB (N : Int) (E : List (Int × Int)) : Bool := decide (vD N E)
theorem dB_iff {N : Int} {E : List (Int × Int)} : dB N E = true ↔ vD N E := by unfold dB; simp
theorem dB_not {N : Int} {E : List (Int × Int)} (h : ¬ vD N E) : dB N E = false := by rw [← Bool.not_eq_true, dB_iff]; exact h

set_option maxHeartbeats 8000000 in
theorem dvalid_p (N : Int) (q : Option Addr) (m cq : Nat) (E : List (Int × Int)) (w : World) (hE : Prs w q E) (hm : E.length = m) :
    Calls Try.prog 27 #[.agg #[.int .i64 N, .slice q m cq]] w fun e w' => e = .returned (.bool (dB N E)) ∧ Grew w w' := by
  subst hm
  have hem := hE.1
  by_cases h0 : N < 0
  · have Hf := Lib.hid (dB_not (N := N) (E := E) (fun h => by have := h.n0; omega))
    go_enter Try.func27, Try.ntmps27
    go_wp2
    go_ret
    exact ⟨ret_bool Hf.out.symm, by (repeat (first | exact Grew.refl _ | refine Grew.over ?_ _ | refine Grew.alloc ?_ _ | refine Grew.drew ?_ | refine Grew.drewN ?_ _))⟩
  by_cases h64 : 64 < N
  · have Hf := Lib.hid (dB_not (N := N) (E := E) (fun h => by have := h.n1; omega))
    go_enter Try.func27, Try.ntmps27
    go_wp2
    go_ret
    exact ⟨ret_bool Hf.out.symm, by (repeat (first | exact Grew.refl _ | refine Grew.over ?_ _ | refine Grew.alloc ?_ _ | refine Grew.drew ?_ | refine Grew.drewN ?_ _))⟩
  by_cases h256 : 256 < E.length
  · have Hf := Lib.hid (dB_not (N := N) (E := E) (fun h => by have := h.m; omega))
    go_enter Try.func27, Try.ntmps27
    go_wp2
    go_ret
    exact ⟨ret_bool Hf.out.symm, by (repeat (first | exact Grew.refl _ | refine Grew.over ?_ _ | refine Grew.alloc ?_ _ | refine Grew.drew ?_ | refine Grew.drewN ?_ _))⟩
  have HE := Lib.hid hE
  clear hE
  go_enter Try.func27, Try.ntmps27
  go_wp2
  obtain ⟨w0, hw0⟩ : ∃ w0, w.alloc (.cells #[.int .i64 N, .slice q E.length cq] 39) = w0 := ⟨_, rfl⟩
  have x0 : w0.cell? ⟨w.heap.size, 0, none⟩ = some (.int .i64 N) := by rw [← hw0]; simp [go_sem]
  have Hg0 : Hid (Grew w w0) := Lib.hid (by rw [← hw0]; (repeat (first | exact Grew.refl _ | refine Grew.over ?_ _ | refine Grew.alloc ?_ _ | refine Grew.drew ?_ | refine Grew.drewN ?_ _)))
  rw [hw0]
  clear hw0
  go_loopw [22] (fun v22 wr => ∃ k : Nat, k ≤ E.length ∧ v22 = .int .i64 k ∧ (∀ i, i < k → arcOK N (pr E i)) ∧ Grew w wr ∧ wr.cell? ⟨w.heap.size, 0, none⟩ = some (.int .i64 N)) (fun v22 _ => E.length - (intOf v22).toNat)
  case atStart => exact ⟨0, Nat.zero_le _, rfl, fun i hi => by omega, Hg0.out, x0⟩
  case round =>
    clear x0 Hg0
    obtain ⟨k, hk, rfl, hall, hg, x0⟩ := hrel
    have Hall := Lib.hid hall
    have Hg := Lib.hid hg
    have hbw := cell_lt x0
    clear hall hg
    by_cases hlt : k < E.length
    · obtain ⟨b2, o2, rfl, hb2, c0, c1⟩ := (HE.out.grew Hg.out).open hlt
      obtain ⟨⟨x, y⟩, hxy⟩ : ∃ a, pr E k = a := ⟨_, rfl⟩
      rw [hxy] at c0 c1
      dsimp only at c0 c1
      have Hxy := Lib.hid hxy
      clear hxy
      obtain ⟨mn, hmn⟩ : ∃ m, (if y < x then y else x) = m := ⟨_, rfl⟩
      obtain ⟨mx, hmx⟩ : ∃ m, (if x < y then y else x) = m := ⟨_, rfl⟩
      have hok : Hid (arcOK N (x, y) ↔ 0 ≤ mn ∧ mx < N) := Lib.hid (by
        unfold arcOK
        rw [← hmn, ← hmx]
        dsimp only
        split <;> split <;> omega)
      by_cases hmn0 : mn < 0
      · have Hf := Lib.hid (dB_not (N := N) (E := E) (fun h => by have := hok.out.1 (by rw [← Hxy.out]; exact h.a k hlt); omega))
        go_wp2
        go_ret
        exact ⟨ret_bool Hf.out.symm, Hg.out.trans (by (repeat (first | exact Grew.refl _ | refine Grew.over ?_ _ | refine Grew.alloc ?_ _ | refine Grew.drew ?_ | refine Grew.drewN ?_ _)))⟩
      · by_cases hmxN : N ≤ mx
        · have Hf := Lib.hid (dB_not (N := N) (E := E) (fun h => by have := hok.out.1 (by rw [← Hxy.out]; exact h.a k hlt); omega))
          go_wp2
          go_ret
          exact ⟨ret_bool Hf.out.symm, Hg.out.trans (by (repeat (first | exact Grew.refl _ | refine Grew.over ?_ _ | refine Grew.alloc ?_ _ | refine Grew.drew ?_ | refine Grew.drewN ?_ _)))⟩
        · have Ha2 : Hid (∀ i, i < k + 1 → arcOK N (pr E i)) := Lib.hid (fun i hi => by
            by_cases e : i = k
            · rw [e, Hxy.out]; exact hok.out.2 ⟨by omega, by omega⟩
            · exact Hall.out i (by omega))
          go_wp2
          go_roundw
          case rel => exact ⟨k + 1, by omega, by go_num, Ha2.out, Hg.out.trans (by (repeat (first | exact Grew.refl _ | refine Grew.over ?_ _ | refine Grew.alloc ?_ _ | refine Grew.drew ?_ | refine Grew.drewN ?_ _))), Grew.cellEq (by (repeat (first | exact Grew.refl _ | refine Grew.over ?_ _ | refine Grew.alloc ?_ _ | refine Grew.drew ?_ | refine Grew.drewN ?_ _))) x0⟩
          case measure => simp [intOf]; omega
    · have Hf := Lib.hid (dB_iff.2 (vD_iff.2 ⟨by omega, by omega, by omega, fun i hi => Hall.out i (by omega)⟩))
      go_wp2
      go_ret
      exact ⟨ret_bool Hf.out.symm, Hg.out⟩
theorem dvalidp_e {N : Int} {q : Option Addr} {m cq : Nat} {E : List (Int × Int)} {w : World} {b : Bool} (h : dB N E = b) (hE : Prs w q E) (hm : E.length = m) :
    Calls Try.prog 27 #[.agg #[.int .i64 N, .slice q m cq]] w fun e w' => e = .returned (.bool b) ∧ Grew w w' := h ▸ dvalid_p N q m cq E w hE hm

set_option maxHeartbeats 8000000 in
theorem dvalid_r (N : Int) (q : Option Addr) (m cq : Nat) (E : List (Int × Int)) (w : World) (hE : Prs w q E) (hm : E.length = m) :
    Calls Try.prog 29 #[.agg #[.int .i64 N, .slice q m cq]] w fun e w' => e = .returned (.bool (dB N E)) ∧ Grew w w' := by
  subst hm
  have hem := hE.1
  by_cases h0 : N < 0
  · have Hf := Lib.hid (dB_not (N := N) (E := E) (fun h => by have := h.n0; omega))
    go_enter Try.func29, Try.ntmps29
    go_wp2
    go_ret
    exact ⟨ret_bool Hf.out.symm, by (repeat (first | exact Grew.refl _ | refine Grew.over ?_ _ | refine Grew.alloc ?_ _ | refine Grew.drew ?_ | refine Grew.drewN ?_ _))⟩
  by_cases h64 : 64 < N
  · have Hf := Lib.hid (dB_not (N := N) (E := E) (fun h => by have := h.n1; omega))
    go_enter Try.func29, Try.ntmps29
    go_wp2
    go_ret
    exact ⟨ret_bool Hf.out.symm, by (repeat (first | exact Grew.refl _ | refine Grew.over ?_ _ | refine Grew.alloc ?_ _ | refine Grew.drew ?_ | refine Grew.drewN ?_ _))⟩
  by_cases h256 : 256 < E.length
  · have Hf := Lib.hid (dB_not (N := N) (E := E) (fun h => by have := h.m; omega))
    go_enter Try.func29, Try.ntmps29
    go_wp2
    go_ret
    exact ⟨ret_bool Hf.out.symm, by (repeat (first | exact Grew.refl _ | refine Grew.over ?_ _ | refine Grew.alloc ?_ _ | refine Grew.drew ?_ | refine Grew.drewN ?_ _))⟩
  have HE := Lib.hid hE
  clear hE
  go_enter Try.func29, Try.ntmps29
  go_wp2
  obtain ⟨w0, hw0⟩ : ∃ w0, w.alloc (.cells #[.int .i64 N, .slice q E.length cq] 39) = w0 := ⟨_, rfl⟩
  have x0 : w0.cell? ⟨w.heap.size, 0, none⟩ = some (.int .i64 N) := by rw [← hw0]; simp [go_sem]
  have x1 : w0.cell? ⟨w.heap.size, 1, none⟩ = some (.slice q E.length cq) := by rw [← hw0]; simp [go_sem]
  have Hg0 : Hid (Grew w w0) := Lib.hid (by rw [← hw0]; (repeat (first | exact Grew.refl _ | refine Grew.over ?_ _ | refine Grew.alloc ?_ _ | refine Grew.drew ?_ | refine Grew.drewN ?_ _)))
  rw [hw0]
  clear hw0
  go_loopw [3] (fun v3 wr => ∃ k : Nat, k ≤ E.length ∧ v3 = .int .i64 k ∧ (∀ i, i < k → arcOK N (pr E i)) ∧ Grew w wr ∧ wr.cell? ⟨w.heap.size, 0, none⟩ = some (.int .i64 N) ∧ wr.cell? ⟨w.heap.size, 1, none⟩ = some (.slice q E.length cq)) (fun v3 _ => E.length - (intOf v3).toNat)
  case atStart => exact ⟨0, Nat.zero_le _, rfl, fun i hi => by omega, Hg0.out, x0, x1⟩
  case round =>
    clear x0 x1 Hg0
    obtain ⟨k, hk, rfl, hall, hg, x0, x1⟩ := hrel
    have Hall := Lib.hid hall
    have Hg := Lib.hid hg
    have hbw := cell_lt x0
    clear hall hg
    by_cases hlt : k < E.length
    · obtain ⟨b2, o2, rfl, hb2, c0, c1⟩ := (HE.out.grew Hg.out).open hlt
      obtain ⟨⟨x, y⟩, hxy⟩ : ∃ a, pr E k = a := ⟨_, rfl⟩
      rw [hxy] at c0 c1
      dsimp only at c0 c1
      have Hxy := Lib.hid hxy
      clear hxy
      have hno : Hid (¬ arcOK N (x, y) → dB N E = false) := Lib.hid (fun h => dB_not fun hv => h (by rw [← Hxy.out]; exact hv.a k hlt))
      by_cases e1 : x < 0
      · have Hf := Lib.hid (hno.out (fun h => by have := h.1; dsimp only at this; omega))
        go_wp2
        go_ret
        exact ⟨ret_bool Hf.out.symm, Hg.out.trans (by (repeat (first | exact Grew.refl _ | refine Grew.over ?_ _ | refine Grew.alloc ?_ _ | refine Grew.drew ?_ | refine Grew.drewN ?_ _)))⟩
      by_cases e2 : N ≤ x
      · have Hf := Lib.hid (hno.out (fun h => by have := h.1; dsimp only at this; omega))
        go_wp2
        go_ret
        exact ⟨ret_bool Hf.out.symm, Hg.out.trans (by (repeat (first | exact Grew.refl _ | refine Grew.over ?_ _ | refine Grew.alloc ?_ _ | refine Grew.drew ?_ | refine Grew.drewN ?_ _)))⟩
      by_cases e3 : y < 0
      · have Hf := Lib.hid (hno.out (fun h => by have := h.2; dsimp only at this; omega))
        go_wp2
        go_ret
        exact ⟨ret_bool Hf.out.symm, Hg.out.trans (by (repeat (first | exact Grew.refl _ | refine Grew.over ?_ _ | refine Grew.alloc ?_ _ | refine Grew.drew ?_ | refine Grew.drewN ?_ _)))⟩
      by_cases e4 : N ≤ y
      · have Hf := Lib.hid (hno.out (fun h => by have := h.2; dsimp only at this; omega))
        go_wp2
        go_ret
        exact ⟨ret_bool Hf.out.symm, Hg.out.trans (by (repeat (first | exact Grew.refl _ | refine Grew.over ?_ _ | refine Grew.alloc ?_ _ | refine Grew.drew ?_ | refine Grew.drewN ?_ _)))⟩
      have Ha2 : Hid (∀ i, i < k + 1 → arcOK N (pr E i)) := Lib.hid (fun i hi => by
        by_cases e : i = k
        · rw [e, Hxy.out]; exact ⟨⟨by dsimp only; omega, by dsimp only; omega⟩, by dsimp only; omega, by dsimp only; omega⟩
        · exact Hall.out i (by omega))
      go_wp2
      go_roundw
      case rel => exact ⟨k + 1, by omega, by go_num, Ha2.out, Hg.out.trans (by (repeat (first | exact Grew.refl _ | refine Grew.over ?_ _ | refine Grew.alloc ?_ _ | refine Grew.drew ?_ | refine Grew.drewN ?_ _))), Grew.cellEq (by (repeat (first | exact Grew.refl _ | refine Grew.over ?_ _ | refine Grew.alloc ?_ _ | refine Grew.drew ?_ | refine Grew.drewN ?_ _))) x0, Grew.cellEq (by (repeat (first | exact Grew.refl _ | refine Grew.over ?_ _ | refine Grew.alloc ?_ _ | refine Grew.drew ?_ | refine Grew.drewN ?_ _))) x1⟩
      case measure => simp [intOf]; omega
    · have Hf := Lib.hid (dB_iff.2 (vD_iff.2 ⟨by omega, by omega, by omega, fun i hi => Hall.out i (by omega)⟩))
      go_wp2
      go_ret
      exact ⟨ret_bool Hf.out.symm, Hg.out⟩
theorem dvalidr_e {N : Int} {q : Option Addr} {m cq : Nat} {E : List (Int × Int)} {w : World} {b : Bool} (h : dB N E = b) (hE : Prs w q E) (hm : E.length = m) :
    Calls Try.prog 29 #[.agg #[.int .i64 N, .slice q m cq]] w fun e w' => e = .returned (.bool b) ∧ Grew w w' := h ▸ dvalid_r N q m cq E w hE hm
end Go.Proofs.Ytgodoeefgmfpfaa
