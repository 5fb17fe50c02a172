/- Cost of the program and of the reference. -/
import Derived.Test.YtdenjldadlgniaaLabD
set_option linter.unusedSimpArgs false
set_option linter.unusedVariables false
namespace Go.Proofs.Ytdenjldadlgniaa
open Go.RowKit
attribute [local go_sem ↓] Go.wp_at_zero Go.wp_at_succ

def okC (c : List (List Int)) (xs : List Int) : Prop := xs.length = c.length ∧ ∀ i, i < xs.length → 0 ≤ ge xs i ∧ ge xs i < ((rowOf c i).length : Int)
instance (c : List (List Int)) (xs : List Int) : Decidable (okC c xs) := by unfold okC; exact inferInstance
def sumC (c : List (List Int)) (xs : List Int) (j : Nat) : Int := sumN (fun i => at2 c i (ge xs i).toNat) j
def coS (c : List (List Int)) (xs : List Int) : Int := if pB c = true ∧ okC c xs then sumC c xs xs.length else 0
theorem coS_bad {c : List (List Int)} {xs : List Int} (h : pB c = false) : coS c xs = 0 := by unfold coS; rw [if_neg (by simp [h])]
theorem coS_no {c : List (List Int)} {xs : List Int} (h : ¬ okC c xs) : coS c xs = 0 := by unfold coS; rw [if_neg (fun g => h g.2)]
theorem coS_ok {c : List (List Int)} {xs : List Int} (h : pB c = true) (h2 : okC c xs) : coS c xs = sumC c xs xs.length := by unfold coS; rw [if_pos ⟨h, h2⟩]
theorem pB_row {c : List (List Int)} (h : pB c = true) : c.length ≤ 8 ∧ ∀ u, u < c.length → (rowOf c u).length ≤ 16 ∧ ∀ k, k < (rowOf c u).length → 0 ≤ at2 c u k ∧ at2 c u k ≤ 1000000 := by
  obtain ⟨h1, h2⟩ := of_decide_eq_true h
  refine ⟨h1, fun u hu => ?_⟩
  have := h2 u hu
  unfold rpB at this
  rw [Bool.and_eq_true, decide_eq_true_eq, Bool.not_eq_true'] at this
  refine ⟨this.1, fun k hk => ?_⟩
  cases e : badP (at2 c u k)
  · have := of_decide_eq_false e; omega
  · have h3 := anyI.2 ⟨k, hk, e⟩
    rw [h3] at this; cases this.2
theorem sumC_bd {c : List (List Int)} (h : pB c = true) {xs : List Int} (hl : xs.length = c.length) : ∀ j, j ≤ xs.length → (∀ i, i < j → 0 ≤ ge xs i ∧ ge xs i < ((rowOf c i).length : Int)) → 0 ≤ sumC c xs j ∧ sumC c xs j ≤ (j : Int) * 1000000
  | 0, _, _ => ⟨Int.le_refl _, Int.le_refl _⟩
  | j + 1, hj, hp => by
    have ih := sumC_bd h hl j (by omega) (fun i hi => hp i (by omega))
    have e : sumC c xs (j + 1) = sumC c xs j + at2 c j (ge xs j).toNat := rfl
    rw [e]
    have h1 := hp j (by omega)
    have h2 := ((pB_row h).2 j (by omega)).2 (ge xs j).toNat (by omega)
    omega

set_option maxHeartbeats 4000000 in
theorem cost_p50 (p q : Option Addr) (n k cp cq : Nat) (c : List (List Int)) (xs : List Int) (w : World) (hM : Mat w p c) (hx : Ints w q xs) (hn : c.length = n) (hk : xs.length = k) :
    Calls Try.prog 14 #[.slice p n cp, .slice q k cq] w fun e w' => e = .returned (.int .i64 (coS c xs)) ∧ w = w' := by
  subst hn hk
  have hmm := hM.1
  have hmx := hx.1
  cases hv : pB c
  case false =>
    have Hf := Lib.hid (coS_bad (xs := xs) hv)
    have Hv := Lib.hid hv
    go_enter Try.func14, Try.ntmps14
    go_wp2_with ((go_at_call 23; apply Calls.mono; (with_reducible exact pricedp_e Hv.out hM rfl); rintro e w' ⟨rfl, rfl⟩))
    go_ret
    exact ⟨ret_int Hf.out.symm, rfl⟩
  case true =>
  have Hv := Lib.hid hv
  clear hv
  by_cases hl : xs.length = c.length
  case neg =>
    have Hf := Lib.hid (coS_no (c := c) (xs := xs) (fun h => hl h.1))
    have hl' : ((xs.length : Int) != (c.length : Int)) = true := by rw [bne_iff_ne]; omega
    clear hl
    go_enter Try.func14, Try.ntmps14
    go_wp2_with ((go_at_call 23; apply Calls.mono; (with_reducible exact pricedp_e Hv.out hM rfl); rintro e w' ⟨rfl, rfl⟩))
    go_ret
    exact ⟨ret_int Hf.out.symm, rfl⟩
  case pos =>
  have hl' : ((xs.length : Int) != (c.length : Int)) = false := by rw [hl]; simp
  have h8 : xs.length ≤ 8 := by have := (pB_row Hv.out).1; omega
  have Hl := Lib.hid hl
  have HM := Lib.hid hM
  have HX := Lib.hid hx
  clear hl hM hx
  go_enter Try.func14, Try.ntmps14
  go_wp2_with ((go_at_call 23; apply Calls.mono; (with_reducible exact pricedp_e Hv.out HM.out rfl); rintro e w' ⟨rfl, rfl⟩))
  clear hl'
  go_loop [5, 20] (fun s i => ∃ j : Nat, j ≤ xs.length ∧ i = .int .i64 j ∧ s = .int .i64 (sumC c xs j) ∧ (∀ t, t < j → 0 ≤ ge xs t ∧ ge xs t < ((rowOf c t).length : Int))) (fun _ i => xs.length - (intOf i).toNat)
  case atStart => exact ⟨0, Nat.zero_le _, rfl, rfl, fun t ht => by omega⟩
  case round =>
    obtain ⟨j, hj, rfl, rfl, hall⟩ := hrel
    have Hall := Lib.hid hall
    have hbd := sumC_bd Hv.out Hl.out j hj hall
    clear hall
    by_cases hlt : j < xs.length
    · obtain ⟨bx, ox, h1, c1⟩ := HX.out.open
      obtain ⟨rfl, g1⟩ := h1 (by omega)
      have d1 := c1 j hlt
      clear h1 c1
      have hjc : j < c.length := by have := Hl.out; omega
      obtain ⟨b, o, rp, rc, rfl, hb, c0, hR⟩ := HM.out.row2 hjc
      have hS : Hid (sumC c xs (j + 1) = sumC c xs j + ge (rowOf c j) (ge xs j).toNat) := Lib.hid rfl
      obtain ⟨S, hSe⟩ : ∃ S, sumC c xs j = S := ⟨_, rfl⟩
      rw [hSe] at hS hbd ⊢
      clear hSe
      have Hno : Hid (¬ (0 ≤ ge xs j ∧ ge xs j < ((rowOf c j).length : Int)) → coS c xs = 0) := Lib.hid (fun h => coS_no fun g => h (g.2 j hlt))
      have Hrow := Lib.hid ((pB_row Hv.out).2 j hjc)
      obtain ⟨l, hle⟩ : ∃ l, rowOf c j = l := ⟨_, rfl⟩
      rw [hle] at c0 hR hS Hno
      have hl16 : l.length ≤ 16 := by have := Hrow.out.1; rw [hle] at this; exact this
      have Hle := Lib.hid hle
      clear hle
      obtain ⟨x, hxe⟩ : ∃ x, ge xs j = x := ⟨_, rfl⟩
      rw [hxe] at d1 hS Hno
      have Hxe := Lib.hid hxe
      clear hxe
      by_cases e1 : x < 0
      · have Hf := Lib.hid (Hno.out (by omega))
        go_wp2
        go_ret
        exact ⟨ret_int Hf.out.symm, rfl⟩
      by_cases e2 : x < (l.length : Int)
      case neg =>
        have Hf := Lib.hid (Hno.out (by omega))
        have e3 : (l.length : Int) ≤ x := by omega
        have e4 : 0 ≤ x := by omega
        go_wp2
        go_ret
        exact ⟨ret_int Hf.out.symm, rfl⟩
      obtain ⟨X, rfl⟩ : ∃ X : Nat, x = (X : Int) := ⟨x.toNat, by omega⟩
      have hX : X < l.length := by omega
      obtain ⟨bb, oo, h3, h4⟩ := hR.open
      obtain ⟨rfl, hbb⟩ := h3 (by omega)
      have c4 := h4 X hX
      clear h3 h4 e1 e2
      have hv1 : 0 ≤ ge l X ∧ ge l X ≤ 1000000 := by
        have := Hrow.out.2 X (by rw [Hle.out]; exact hX)
        unfold at2 at this
        rw [Hle.out] at this
        exact this
      obtain ⟨v, hve⟩ : ∃ v, ge l X = v := ⟨_, rfl⟩
      rw [hve] at c4 hv1
      have Hve : Hid (sumC c xs (j + 1) = S + v) := Lib.hid (by rw [hS.out, ← hve]; simp)
      clear hve hS
      go_wp2
      go_round
      case rel =>
        refine ⟨j + 1, by omega, by go_num, by rw [Hve.out], fun t ht => ?_⟩
        by_cases h : t = j
        · rw [h, Hxe.out, Hle.out]; omega
        · exact Hall.out t (by omega)
      case measure => simp [intOf]; omega
    · have hje : j = xs.length := by omega
      have Hf : Hid (coS c xs = sumC c xs xs.length) := Lib.hid (by exact coS_ok Hv.out ⟨Hl.out, fun t ht => Hall.out t (by omega)⟩)
      go_wp2
      go_ret
      exact ⟨ret_int (by first | exact Hf.out.symm | rw [Hf.out, hje]), rfl⟩
theorem costp_e {p q : Option Addr} {n k cp cq : Nat} {c : List (List Int)} {xs : List Int} {w : World} {z : Int} (h : coS c xs = z) (hM : Mat w p c) (hx : Ints w q xs) (hn : c.length = n) (hk : xs.length = k) :
    Calls Try.prog 14 #[.slice p n cp, .slice q k cq] w fun e w' => e = .returned (.int .i64 z) ∧ w = w' := h ▸ cost_p50 p q n k cp cq c xs w hM hx hn hk

set_option maxHeartbeats 4000000 in
theorem cost_r50 (p q : Option Addr) (n k cp cq : Nat) (c : List (List Int)) (xs : List Int) (w : World) (hM : Mat w p c) (hx : Ints w q xs) (hn : c.length = n) (hk : xs.length = k) :
    Calls Try.prog 15 #[.slice p n cp, .slice q k cq] w fun e w' => e = .returned (.int .i64 (coS c xs)) ∧ Grew w w' := by
  subst hn hk
  have hmm := hM.1
  have hmx := hx.1
  cases hv : pB c
  case false =>
    have Hf := Lib.hid (coS_bad (xs := xs) hv)
    have Hv := Lib.hid hv
    go_enter Try.func15, Try.ntmps15
    go_wp2_with ((go_at_call 27; apply Calls.mono; (with_reducible exact numbersr_e Hv.out hM rfl); rintro e w' ⟨rfl, rfl⟩))
    go_ret
    exact ⟨ret_int Hf.out.symm, by (repeat (first | exact Grew.refl _ | refine Grew.over ?_ _ | refine Grew.alloc ?_ _ | refine Grew.drew ?_ | refine Grew.drewN ?_ _))⟩
  case true =>
  have Hv := Lib.hid hv
  clear hv
  by_cases hl : xs.length = c.length
  case neg =>
    have Hf := Lib.hid (coS_no (c := c) (xs := xs) (fun h => hl h.1))
    have hl' : ((xs.length : Int) != (c.length : Int)) = true := by rw [bne_iff_ne]; omega
    clear hl
    go_enter Try.func15, Try.ntmps15
    go_wp2_with ((go_at_call 27; apply Calls.mono; (with_reducible exact numbersr_e Hv.out hM rfl); rintro e w' ⟨rfl, rfl⟩))
    go_ret
    exact ⟨ret_int Hf.out.symm, by (repeat (first | exact Grew.refl _ | refine Grew.over ?_ _ | refine Grew.alloc ?_ _ | refine Grew.drew ?_ | refine Grew.drewN ?_ _))⟩
  case pos =>
  have hl' : ((xs.length : Int) != (c.length : Int)) = false := by rw [hl]; simp
  have h8 : xs.length ≤ 8 := by have := (pB_row Hv.out).1; omega
  have Hl := Lib.hid hl
  have HM := Lib.hid hM
  have HX := Lib.hid hx
  clear hl hM hx
  go_enter Try.func15, Try.ntmps15
  go_wp2_with ((go_at_call 27; apply Calls.mono; (with_reducible exact numbersr_e Hv.out HM.out rfl); rintro e w' ⟨rfl, rfl⟩))
  clear hl'
  go_loopw [5, 6] (fun s i wr => ∃ j : Nat, j ≤ xs.length ∧ i = .int .i64 j ∧ s = .int .i64 (sumC c xs j) ∧ (∀ t, t < j → 0 ≤ ge xs t ∧ ge xs t < ((rowOf c t).length : Int)) ∧ Grew w wr) (fun _ i _ => xs.length - (intOf i).toNat)
  case atStart => exact ⟨0, Nat.zero_le _, rfl, rfl, fun t ht => by omega, by (repeat (first | exact Grew.refl _ | refine Grew.over ?_ _ | refine Grew.alloc ?_ _ | refine Grew.drew ?_ | refine Grew.drewN ?_ _))⟩
  case round =>
    obtain ⟨j, hj, rfl, rfl, hall, y, rfl⟩ := hrel
    have Hall := Lib.hid hall
    have hbd := sumC_bd Hv.out Hl.out j hj hall
    clear hall
    by_cases hlt : j < xs.length
    · obtain ⟨bx, ox, h1, c1⟩ := HX.out.open
      obtain ⟨rfl, g1⟩ := h1 (by omega)
      have d1 := c1 j hlt
      clear h1 c1
      have hjc : j < c.length := by have := Hl.out; omega
      obtain ⟨b, o, rp, rc, rfl, hb, c0, hR⟩ := HM.out.row2 hjc
      have hS : Hid (sumC c xs (j + 1) = sumC c xs j + ge (rowOf c j) (ge xs j).toNat) := Lib.hid rfl
      obtain ⟨S, hSe⟩ : ∃ S, sumC c xs j = S := ⟨_, rfl⟩
      rw [hSe] at hS hbd ⊢
      clear hSe
      have Hno : Hid (¬ (0 ≤ ge xs j ∧ ge xs j < ((rowOf c j).length : Int)) → coS c xs = 0) := Lib.hid (fun h => coS_no fun g => h (g.2 j hlt))
      have Hrow := Lib.hid ((pB_row Hv.out).2 j hjc)
      obtain ⟨l, hle⟩ : ∃ l, rowOf c j = l := ⟨_, rfl⟩
      rw [hle] at c0 hR hS Hno
      have hl16 : l.length ≤ 16 := by have := Hrow.out.1; rw [hle] at this; exact this
      have Hle := Lib.hid hle
      clear hle
      obtain ⟨x, hxe⟩ : ∃ x, ge xs j = x := ⟨_, rfl⟩
      rw [hxe] at d1 hS Hno
      have Hxe := Lib.hid hxe
      clear hxe
      by_cases e1 : x < 0
      · have Hf := Lib.hid (Hno.out (by omega))
        go_wp2
        refine wp_region_over (by kernel_rfl) (by kernel_rfl) ?_; (repeat (go_big_quiet_step (fail))); refine wpQuiet_nil ?_; rintro _ ⟨x, rfl⟩
        go_wp2
        go_ret
        exact ⟨ret_int Hf.out.symm, by (repeat (first | exact Grew.refl _ | refine Grew.over ?_ _ | refine Grew.alloc ?_ _ | refine Grew.drew ?_ | refine Grew.drewN ?_ _))⟩
      by_cases e2 : x < (l.length : Int)
      case neg =>
        have Hf := Lib.hid (Hno.out (by omega))
        have e3 : (l.length : Int) ≤ x := by omega
        have e4 : 0 ≤ x := by omega
        have hd1 : decide (x < 0) = false := decide_eq_false e1
        clear e1 e2
        go_wp2
        refine wp_region_over (by kernel_rfl) (by kernel_rfl) ?_; (repeat (go_big_quiet_step (fail))); refine wpQuiet_nil ?_; rintro _ ⟨x, rfl⟩
        go_wp2
        go_ret
        exact ⟨ret_int Hf.out.symm, by (repeat (first | exact Grew.refl _ | refine Grew.over ?_ _ | refine Grew.alloc ?_ _ | refine Grew.drew ?_ | refine Grew.drewN ?_ _))⟩
      obtain ⟨X, rfl⟩ : ∃ X : Nat, x = (X : Int) := ⟨x.toNat, by omega⟩
      have hX : X < l.length := by omega
      obtain ⟨bb, oo, h3, h4⟩ := hR.open
      obtain ⟨rfl, hbb⟩ := h3 (by omega)
      have c4 := h4 X hX
      have hd1 : decide ((X : Int) < 0) = false := decide_eq_false (by omega)
      clear h3 h4 e1 e2
      have hv1 : 0 ≤ ge l X ∧ ge l X ≤ 1000000 := by
        have := Hrow.out.2 X (by rw [Hle.out]; exact hX)
        unfold at2 at this
        rw [Hle.out] at this
        exact this
      obtain ⟨v, hve⟩ : ∃ v, ge l X = v := ⟨_, rfl⟩
      rw [hve] at c4 hv1
      have Hve : Hid (sumC c xs (j + 1) = S + v) := Lib.hid (by rw [hS.out, ← hve]; simp)
      clear hve hS
      go_wp2
      refine wp_region_over (by kernel_rfl) (by kernel_rfl) ?_; (repeat (go_big_quiet_step (fail))); refine wpQuiet_nil ?_; rintro _ ⟨x, rfl⟩
      go_wp2
      refine wp_region_over (by kernel_rfl) (by kernel_rfl) ?_; (repeat (go_big_quiet_step (fail))); refine wpQuiet_nil ?_; rintro _ ⟨x, rfl⟩
      go_wp2
      go_roundw
      case rel =>
        refine ⟨j + 1, by omega, by go_num, by rw [Hve.out], fun t ht => ?_, by (repeat (first | exact Grew.refl _ | refine Grew.over ?_ _ | refine Grew.alloc ?_ _ | refine Grew.drew ?_ | refine Grew.drewN ?_ _))⟩
        by_cases h : t = j
        · rw [h, Hxe.out, Hle.out]; omega
        · exact Hall.out t (by omega)
      case measure => simp [intOf]; omega
    · have hje : j = xs.length := by omega
      have Hf : Hid (coS c xs = sumC c xs xs.length) := Lib.hid (by exact coS_ok Hv.out ⟨Hl.out, fun t ht => Hall.out t (by omega)⟩)
      go_wp2
      go_ret
      exact ⟨ret_int (by first | exact Hf.out.symm | rw [Hf.out, hje]), by (repeat (first | exact Grew.refl _ | refine Grew.over ?_ _ | refine Grew.alloc ?_ _ | refine Grew.drew ?_ | refine Grew.drewN ?_ _))⟩
theorem costr_e {p q : Option Addr} {n k cp cq : Nat} {c : List (List Int)} {xs : List Int} {w : World} {z : Int} (h : coS c xs = z) (hM : Mat w p c) (hx : Ints w q xs) (hn : c.length = n) (hk : xs.length = k) :
    Calls Try.prog 15 #[.slice p n cp, .slice q k cq] w fun e w' => e = .returned (.int .i64 z) ∧ Grew w w' := h ▸ cost_r50 p q n k cp cq c xs w hM hx hn hk
end Go.Proofs.Ytdenjldadlgniaa
