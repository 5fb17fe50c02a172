/- Valid of the reference; fits of the program. -/
import Derived.Test.YtnnlhmialmhpfaaFlF
set_option linter.unusedSimpArgs false
set_option linter.unusedVariables false
namespace Go.Proofs.Ytnnlhmialmhpfaa
open Go.RowKit
attribute [local go_sem ↓] Go.wp_at_zero Go.wp_at_succ

set_option maxHeartbeats 2000000 in
theorem arc_r (fr te ca co : Int) (n : Nat) (w : World) (hn : n ≤ 9223372036854775807) :
    Calls Try.prog 21 #[.agg #[.int .i64 fr, .int .i64 te, .int .i64 ca, .int .i64 co], .int .i64 n] w fun e w' => e = .returned (.bool (decide (arkOK n ⟨fr, te, ca, co⟩))) ∧ Grew w w' := by
  have Hok : Hid (arkOK n ⟨fr, te, ca, co⟩ ↔ 0 ≤ fr ∧ fr < n ∧ 0 ≤ te ∧ te < n ∧ 0 ≤ ca ∧ ca ≤ 1048576 ∧ -1000 ≤ co ∧ co ≤ 1000) := Lib.hid (by
    unfold arkOK
    constructor
    · rintro ⟨⟨a1, a2⟩, ⟨a3, a4⟩, ⟨a5, a6⟩, a7, a8⟩; exact ⟨a1, a2, a3, a4, a5, a6, a7, a8⟩
    · rintro ⟨a1, a2, a3, a4, a5, a6, a7, a8⟩; exact ⟨⟨a1, a2⟩, ⟨a3, a4⟩, ⟨a5, a6⟩, a7, a8⟩)
  go_enter Try.func21, Try.ntmps21
  by_cases e1 : 0 ≤ fr
  case neg => go_wp2; go_ret; exact ⟨ret_bool (decide_eq_false (fun h => by have := Hok.out.1 h; omega)).symm, by (repeat (first | exact Grew.refl _ | refine Grew.over ?_ _ | refine Grew.alloc ?_ _ | refine Grew.drew ?_ | refine Grew.drewN ?_ _))⟩
  by_cases e2 : fr < (n : Int)
  case neg => go_wp2; go_ret; exact ⟨ret_bool (decide_eq_false (fun h => by have := Hok.out.1 h; omega)).symm, by (repeat (first | exact Grew.refl _ | refine Grew.over ?_ _ | refine Grew.alloc ?_ _ | refine Grew.drew ?_ | refine Grew.drewN ?_ _))⟩
  by_cases e3 : 0 ≤ te
  case neg => go_wp2; go_ret; exact ⟨ret_bool (decide_eq_false (fun h => by have := Hok.out.1 h; omega)).symm, by (repeat (first | exact Grew.refl _ | refine Grew.over ?_ _ | refine Grew.alloc ?_ _ | refine Grew.drew ?_ | refine Grew.drewN ?_ _))⟩
  by_cases e4 : te < (n : Int)
  case neg => go_wp2; go_ret; exact ⟨ret_bool (decide_eq_false (fun h => by have := Hok.out.1 h; omega)).symm, by (repeat (first | exact Grew.refl _ | refine Grew.over ?_ _ | refine Grew.alloc ?_ _ | refine Grew.drew ?_ | refine Grew.drewN ?_ _))⟩
  by_cases e5 : 0 ≤ ca
  case neg => go_wp2; go_ret; exact ⟨ret_bool (decide_eq_false (fun h => by have := Hok.out.1 h; omega)).symm, by (repeat (first | exact Grew.refl _ | refine Grew.over ?_ _ | refine Grew.alloc ?_ _ | refine Grew.drew ?_ | refine Grew.drewN ?_ _))⟩
  by_cases e6 : ca ≤ 1048576
  case neg => go_wp2; go_ret; exact ⟨ret_bool (decide_eq_false (fun h => by have := Hok.out.1 h; omega)).symm, by (repeat (first | exact Grew.refl _ | refine Grew.over ?_ _ | refine Grew.alloc ?_ _ | refine Grew.drew ?_ | refine Grew.drewN ?_ _))⟩
  by_cases e7 : -1000 ≤ co
  case neg => go_wp2; go_ret; exact ⟨ret_bool (decide_eq_false (fun h => by have := Hok.out.1 h; omega)).symm, by (repeat (first | exact Grew.refl _ | refine Grew.over ?_ _ | refine Grew.alloc ?_ _ | refine Grew.drew ?_ | refine Grew.drewN ?_ _))⟩
  by_cases e8 : co ≤ 1000
  case neg => go_wp2; go_ret; exact ⟨ret_bool (decide_eq_false (fun h => by have := Hok.out.1 h; omega)).symm, by (repeat (first | exact Grew.refl _ | refine Grew.over ?_ _ | refine Grew.alloc ?_ _ | refine Grew.drew ?_ | refine Grew.drewN ?_ _))⟩
  go_wp2
  go_ret
  exact ⟨ret_bool (decide_eq_true (Hok.out.2 ⟨e1, e2, e3, e4, e5, e6, e7, e8⟩)).symm, by (repeat (first | exact Grew.refl _ | refine Grew.over ?_ _ | refine Grew.alloc ?_ _ | refine Grew.drew ?_ | refine Grew.drewN ?_ _))⟩
theorem arc_e {fr te ca co : Int} {n : Nat} {w : World} {c : Bool} (h : decide (arkOK n ⟨fr, te, ca, co⟩) = c) (hn : n ≤ 9223372036854775807) :
    Calls Try.prog 21 #[.agg #[.int .i64 fr, .int .i64 te, .int .i64 ca, .int .i64 co], .int .i64 n] w fun e w' => e = .returned (.bool c) ∧ Grew w w' := h ▸ arc_r fr te ca co n w hn

set_option maxHeartbeats 8000000 in
theorem valid_r (p q : Option Addr) (n cp m cq : Nat) (s : List Int) (A : List Ark) (w : World) (hS : Ints w p s) (hA : Arks w q A) (hn : s.length = n) (hm : A.length = m) :
    Calls Try.prog 11 #[.agg #[.slice p n cp, .slice q m cq]] w fun e w' => e = .returned (.bool (nB s A)) ∧ Grew w w' := by
  subst hn hm
  have hsm := hS.1
  have ham := hA.1
  by_cases h256 : 256 < s.length
  · have Hf := Lib.hid (nB_not (s := s) (A := A) (fun h => by have := h.n; omega))
    go_enter Try.func11, Try.ntmps11
    go_wp2
    go_ret
    exact ⟨ret_bool Hf.out.symm, by (repeat (first | exact Grew.refl _ | refine Grew.over ?_ _ | refine Grew.alloc ?_ _ | refine Grew.drew ?_ | refine Grew.drewN ?_ _))⟩
  by_cases h2048 : 2048 < A.length
  · have Hf := Lib.hid (nB_not (s := s) (A := A) (fun h => by have := h.m; omega))
    go_enter Try.func11, Try.ntmps11
    go_wp2
    go_ret
    exact ⟨ret_bool Hf.out.symm, by (repeat (first | exact Grew.refl _ | refine Grew.over ?_ _ | refine Grew.alloc ?_ _ | refine Grew.drew ?_ | refine Grew.drewN ?_ _))⟩
  obtain ⟨b, o, h3, h4⟩ := hS.open
  have H4 := Lib.hid h4
  clear h4
  go_enter Try.func11, Try.ntmps11
  go_wp2
  go_loop [3, 4] (fun v3 v4 => ∃ k : Nat, k ≤ s.length ∧ v4 = .int .i64 k ∧ v3 = .int .i64 (sumN (fun v => ge s v) k) ∧ ∀ v, v < k → -1048576 ≤ ge s v ∧ ge s v ≤ 1048576) (fun _ v4 => s.length - (intOf v4).toNat)
  case atStart => exact ⟨0, Nat.zero_le _, rfl, rfl, fun v hv => by omega⟩
  case round =>
    obtain ⟨k, hk, rfl, rfl, hall⟩ := hrel
    obtain ⟨sb1, sb2⟩ := sum_bd k hall
    have Hall := Lib.hid hall
    clear hall
    obtain ⟨S, hS0⟩ : ∃ S, sumN (fun v => ge s v) k = S := ⟨_, rfl⟩
    rw [hS0] at sb1 sb2 ⊢
    have HS0 := Lib.hid hS0
    clear hS0
    by_cases hlt : k < s.length
    · obtain ⟨rfl, hb⟩ := h3 (by omega)
      have d := Grew.cellEq (W := w.alloc (.cells #[.slice (some ⟨b, o, none⟩) s.length cp, .slice q A.length cq] 25)) (by (repeat (first | exact Grew.refl _ | refine Grew.over ?_ _ | refine Grew.alloc ?_ _ | refine Grew.drew ?_ | refine Grew.drewN ?_ _))) (H4.out k hlt)
      have d' := H4.out k hlt
      have hsn : sumN (fun v => ge s v) (k + 1) = S + ge s k := by rw [sumN, HS0.out]
      have Hsn := Lib.hid hsn
      clear hsn d
      obtain ⟨x, hx⟩ : ∃ x, ge s k = x := ⟨_, rfl⟩
      rw [hx] at d'
      have Hx := Lib.hid hx
      clear hx
      by_cases hlo : x < -1048576
      · have Hf := Lib.hid (nB_not (s := s) (A := A) (fun h => by have := h.sb k hlt; rw [Hx.out] at this; omega))
        go_wp2
        go_ret
        exact ⟨ret_bool Hf.out.symm, by (repeat (first | exact Grew.refl _ | refine Grew.over ?_ _ | refine Grew.alloc ?_ _ | refine Grew.drew ?_ | refine Grew.drewN ?_ _))⟩
      · by_cases hhi : 1048576 < x
        · have Hf := Lib.hid (nB_not (s := s) (A := A) (fun h => by have := h.sb k hlt; rw [Hx.out] at this; omega))
          go_wp2
          go_ret
          exact ⟨ret_bool Hf.out.symm, by (repeat (first | exact Grew.refl _ | refine Grew.over ?_ _ | refine Grew.alloc ?_ _ | refine Grew.drew ?_ | refine Grew.drewN ?_ _))⟩
        · go_wp2
          go_round
          case rel =>
            refine ⟨k + 1, by omega, by go_num, by rw [Hsn.out, Hx.out], fun v hv => ?_⟩
            by_cases e : v = k
            · rw [e, Hx.out]; omega
            · exact Hall.out v (by omega)
          case measure => simp [intOf]; omega
    · have hke : k = s.length := by omega
      subst hke
      have HA := Lib.hid hA
      have hnn : (s.length : Int) ≤ 256 := by omega
      clear hA
      go_wp2
      go_loopw [5] (fun v5 wr => ∃ k : Nat, k ≤ A.length ∧ v5 = .int .i64 k ∧ (∀ i, i < k → arkOK s.length (aK A i)) ∧ Grew w wr ∧ w.heap.size < wr.heap.size ∧ wr.cell? ⟨w.heap.size, 0, none⟩ = some (.slice p s.length cp) ∧ wr.cell? ⟨w.heap.size, 1, none⟩ = some (.slice q A.length cq)) (fun v5 _ => A.length - (intOf v5).toNat)
      case atStart => exact ⟨0, Nat.zero_le _, rfl, fun i hi => by omega, by (repeat (first | exact Grew.refl _ | refine Grew.over ?_ _ | refine Grew.alloc ?_ _ | refine Grew.drew ?_ | refine Grew.drewN ?_ _)), by simp, by simp [go_sem], by simp [go_sem]⟩
      case round =>
        obtain ⟨k, hk, rfl, hall2, hg, hsb, x0, x1⟩ := hrel
        have Hall2 := Lib.hid hall2
        have Hg := Lib.hid hg
        clear hall2 hg
        have hsz := Hg.out.below.size
        by_cases hlt2 : k < A.length
        · obtain ⟨b2, o2, rfl, hb2, c0, c1, c2, c3⟩ := (HA.out.grew Hg.out).open hlt2
          obtain ⟨⟨fr, te, ca, co⟩, hak⟩ : ∃ x, aK A k = x := ⟨_, rfl⟩
          rw [hak] at c0 c1 c2 c3
          simp only at c0 c1 c2 c3
          have Hak := Lib.hid hak
          clear hak
          by_cases hok : arkOK s.length ⟨fr, te, ca, co⟩
          · have Hok := Lib.hid (decide_eq_true hok)
            have Hk := Lib.hid hok
            clear hok
            go_wp2
            refine wp_region_over (by kernel_rfl) (by kernel_rfl) ?_; (repeat (go_big_quiet_step ((go_at_call 21; apply over_call; with_reducible exact arc_e Hok.out hsm)))); refine wpQuiet_nil ?_; rintro _ ⟨x, rfl⟩
            go_wp2
            go_roundw
            case rel =>
              refine ⟨k + 1, by omega, by go_num, fun i hi => ?_, Hg.out.trans (by (repeat (first | exact Grew.refl _ | refine Grew.over ?_ _ | refine Grew.alloc ?_ _ | refine Grew.drew ?_ | refine Grew.drewN ?_ _))), Nat.lt_of_lt_of_le hsb (Grew.below (by (repeat (first | exact Grew.refl _ | refine Grew.over ?_ _ | refine Grew.alloc ?_ _ | refine Grew.drew ?_ | refine Grew.drewN ?_ _)))).size, Grew.cellEq (by (repeat (first | exact Grew.refl _ | refine Grew.over ?_ _ | refine Grew.alloc ?_ _ | refine Grew.drew ?_ | refine Grew.drewN ?_ _))) x0, Grew.cellEq (by (repeat (first | exact Grew.refl _ | refine Grew.over ?_ _ | refine Grew.alloc ?_ _ | refine Grew.drew ?_ | refine Grew.drewN ?_ _))) x1⟩
              by_cases e : i = k
              · rw [e, Hak.out]; exact Hk.out
              · exact Hall2.out i (by omega)
            case measure => simp [intOf]; omega
          · have Hok := Lib.hid (decide_eq_false hok)
            have Hf := Lib.hid (nB_not (s := s) (A := A) (fun hv => hok (by have := hv.a k hlt2; rw [← Hak.out]; exact this)))
            clear hok
            go_wp2
            refine wp_region_over (by kernel_rfl) (by kernel_rfl) ?_; (repeat (go_big_quiet_step ((go_at_call 21; apply over_call; with_reducible exact arc_e Hok.out hsm)))); refine wpQuiet_nil ?_; rintro _ ⟨x, rfl⟩
            go_wp2
            go_ret
            exact ⟨ret_bool Hf.out.symm, Hg.out.trans (by (repeat (first | exact Grew.refl _ | refine Grew.over ?_ _ | refine Grew.alloc ?_ _ | refine Grew.drew ?_ | refine Grew.drewN ?_ _)))⟩
        · have hke : k = A.length := by omega
          have Hrest : Hid (nB s A = decide (S = 0)) := Lib.hid (by
            unfold nB
            refine decide_eq_decide.2 ⟨fun h => by rw [← HS0.out]; exact h.z, fun h => vN_iff.2 ⟨by omega, by omega, Hall.out, fun i hi => Hall2.out i (by omega), by rw [HS0.out]; exact h⟩⟩)
          clear hke
          go_wp2
          go_ret
          refine ⟨ret_bool ?_, Hg.out⟩
          rw [Hrest.out, Bool.eq_iff_iff]
          simp
instance (A : List Ark) (f : List Int) : Decidable (Fit A f) := decidable_of_iff (f.length = A.length ∧ ∀ i, i < A.length → 0 ≤ ge f i ∧ ge f i ≤ cap A i) ⟨fun h => ⟨h.1, h.2⟩, fun h => ⟨h.l, h.b⟩⟩
def fitsS (s : List Int) (A : List Ark) (f : List Int) : Int := if nB s A = false then 1 else if Fit A f then 0 else 3
theorem fitsS_bad {s : List Int} {A : List Ark} {f : List Int} (h : nB s A = false) : fitsS s A f = 1 := if_pos h
theorem fitsS_ok {s : List Int} {A : List Ark} {f : List Int} (h : nB s A = true) (hf : Fit A f) : fitsS s A f = 0 := by unfold fitsS; rw [if_neg (by simp [h]), if_pos hf]
theorem fitsS_no {s : List Int} {A : List Ark} {f : List Int} (h : nB s A = true) (hf : ¬ Fit A f) : fitsS s A f = 3 := by unfold fitsS; rw [if_neg (by simp [h]), if_neg hf]
theorem validp_e {p q : Option Addr} {n cp m cq : Nat} {s : List Int} {A : List Ark} {w : World} {b : Bool} (h : nB s A = b) (hS : Ints w p s) (hA : Arks w q A) (hn : s.length = n) (hm : A.length = m) :
    Calls Try.prog 10 #[.agg #[.slice p n cp, .slice q m cq]] w fun e w' => e = .returned (.bool b) ∧ Grew w w' := h ▸ valid_p p q n cp m cq s A w hS hA hn hm
theorem validr_e {p q : Option Addr} {n cp m cq : Nat} {s : List Int} {A : List Ark} {w : World} {b : Bool} (h : nB s A = b) (hS : Ints w p s) (hA : Arks w q A) (hn : s.length = n) (hm : A.length = m) :
    Calls Try.prog 11 #[.agg #[.slice p n cp, .slice q m cq]] w fun e w' => e = .returned (.bool b) ∧ Grew w w' := h ▸ valid_r p q n cp m cq s A w hS hA hn hm

set_option maxHeartbeats 4000000 in
theorem fits_p (p q r : Option Addr) (n cp m cq k cr : Nat) (s : List Int) (A : List Ark) (f : List Int) (w : World) (hS : Ints w p s) (hA : Arks w q A) (hF : Ints w r f) (hn : s.length = n) (hm : A.length = m) (hk : f.length = k) :
    Calls Try.prog 22 #[.agg #[.slice p n cp, .slice q m cq], .slice r k cr] w fun e w' => e = .returned (.int .i64 (fitsS s A f)) ∧ Grew w w' := by
  subst hn hm hk
  have hsm := hS.1
  have ham := hA.1
  have hfm := hF.1
  cases hv : nB s A
  case false =>
    have Hv := Lib.hid hv
    have Hf := Lib.hid (fitsS_bad (f := f) hv)
    clear hv
    go_enter Try.func22, Try.ntmps22
    go_wp2_with (go_at_call 10; apply Calls.mono; (with_reducible exact validp_e Hv.out (hS.grew (by (repeat (first | exact Grew.refl _ | refine Grew.over ?_ _ | refine Grew.alloc ?_ _ | refine Grew.drew ?_ | refine Grew.drewN ?_ _)))) (hA.grew (by (repeat (first | exact Grew.refl _ | refine Grew.over ?_ _ | refine Grew.alloc ?_ _ | refine Grew.drew ?_ | refine Grew.drewN ?_ _)))) rfl rfl); rintro e w' ⟨rfl, x, rfl⟩)
    go_ret
    exact ⟨ret_int Hf.out.symm, by (repeat (first | exact Grew.refl _ | refine Grew.over ?_ _ | refine Grew.alloc ?_ _ | refine Grew.drew ?_ | refine Grew.drewN ?_ _))⟩
  case true =>
  have Hv := Lib.hid hv
  clear hv
  by_cases hl : f.length = A.length
  case neg =>
    have hl' : ((f.length : Int) != (A.length : Int)) = true := by rw [bne_iff_ne]; omega
    have Hf := Lib.hid (fitsS_no (f := f) Hv.out (fun h => hl h.l))
    clear hl
    go_enter Try.func22, Try.ntmps22
    go_wp2_with (go_at_call 10; apply Calls.mono; (with_reducible exact validp_e Hv.out (hS.grew (by (repeat (first | exact Grew.refl _ | refine Grew.over ?_ _ | refine Grew.alloc ?_ _ | refine Grew.drew ?_ | refine Grew.drewN ?_ _)))) (hA.grew (by (repeat (first | exact Grew.refl _ | refine Grew.over ?_ _ | refine Grew.alloc ?_ _ | refine Grew.drew ?_ | refine Grew.drewN ?_ _)))) rfl rfl); rintro e w' ⟨rfl, x, rfl⟩)
    go_ret
    exact ⟨ret_int Hf.out.symm, by (repeat (first | exact Grew.refl _ | refine Grew.over ?_ _ | refine Grew.alloc ?_ _ | refine Grew.drew ?_ | refine Grew.drewN ?_ _))⟩
  have hl' : ((f.length : Int) != (A.length : Int)) = false := by rw [hl]; simp
  have Hl := Lib.hid hl
  obtain ⟨b, o, h3, h4⟩ := hF.open
  have H4 := Lib.hid h4
  have HA := Lib.hid hA
  clear h4 hl
  go_enter Try.func22, Try.ntmps22
  go_wp2_with (go_at_call 10; apply Calls.mono; (with_reducible exact validp_e Hv.out (hS.grew (by (repeat (first | exact Grew.refl _ | refine Grew.over ?_ _ | refine Grew.alloc ?_ _ | refine Grew.drew ?_ | refine Grew.drewN ?_ _)))) (HA.out.grew (by (repeat (first | exact Grew.refl _ | refine Grew.over ?_ _ | refine Grew.alloc ?_ _ | refine Grew.drew ?_ | refine Grew.drewN ?_ _)))) rfl rfl); rintro e w' ⟨rfl, x, rfl⟩)
  clear hl'
  go_loopw [18] (fun v18 wr => ∃ j : Nat, j ≤ f.length ∧ v18 = .int .i64 j ∧ (∀ i, i < j → 0 ≤ ge f i ∧ ge f i ≤ cap A i) ∧ Grew w wr ∧ wr.cell? ⟨w.heap.size, 0, none⟩ = some (.slice p s.length cp) ∧ wr.cell? ⟨w.heap.size, 1, none⟩ = some (.slice q A.length cq)) (fun v18 _ => f.length - (intOf v18).toNat)
  case atStart => exact ⟨0, Nat.zero_le _, rfl, fun i hi => by omega, by (repeat (first | exact Grew.refl _ | refine Grew.over ?_ _ | refine Grew.alloc ?_ _ | refine Grew.drew ?_ | refine Grew.drewN ?_ _)), by simp [go_sem], by simp [go_sem]⟩
  case round =>
    obtain ⟨j, hj, rfl, hall, hg, x0, x1⟩ := hrel
    have Hall := Lib.hid hall
    have Hg := Lib.hid hg
    clear hall hg
    have hsz := Hg.out.below.size
    by_cases hlt : j < f.length
    · obtain ⟨rfl, hb⟩ := h3 (by omega)
      have d := Hg.out.cellEq (H4.out j hlt)
      have hja : j < A.length := by have := Hl.out; omega
      obtain ⟨b2, o2, rfl, hb2, _, _, c2, _⟩ := (HA.out.grew Hg.out).open hja
      obtain ⟨y, hy⟩ : ∃ y, (aK A j).cap = y := ⟨_, rfl⟩
      obtain ⟨x, hx⟩ : ∃ x, ge f j = x := ⟨_, rfl⟩
      rw [hy] at c2
      rw [hx] at d
      have Hc : Hid (cap A j = y) := Lib.hid hy
      have Hx := Lib.hid hx
      clear hy hx
      by_cases hin : 0 ≤ x ∧ x ≤ y
      · have Hin := Lib.hid (decide_eq_true hin)
        have Hin2 := Lib.hid hin
        clear hin
        go_wp2_with (go_at_call 20; apply Calls.mono; (with_reducible exact within_e Hin.out); rintro e w' ⟨rfl, rfl⟩)
        go_roundw
        case rel =>
          refine ⟨j + 1, by omega, by go_num, fun i hi => ?_, Hg.out, x0, x1⟩
          by_cases e : i = j
          · rw [e, Hx.out, Hc.out]; exact Hin2.out
          · exact Hall.out i (by omega)
        case measure => simp [intOf]; omega
      · have Hin := Lib.hid (decide_eq_false hin)
        have Hf := Lib.hid (fitsS_no (f := f) Hv.out (fun h => hin (by have := h.b j hja; rw [Hx.out, Hc.out] at this; exact this)))
        clear hin
        go_wp2_with (go_at_call 20; apply Calls.mono; (with_reducible exact within_e Hin.out); rintro e w' ⟨rfl, rfl⟩)
        go_ret
        exact ⟨ret_int Hf.out.symm, Hg.out⟩
    · have Hf := Lib.hid (fitsS_ok Hv.out (f := f) ⟨Hl.out, fun i hi => Hall.out i (by have := Hl.out; omega)⟩)
      go_wp2
      go_ret
      exact ⟨ret_int Hf.out.symm, Hg.out⟩
end Go.Proofs.Ytnnlhmialmhpfaa
