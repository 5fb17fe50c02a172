/- Check and Cost of the reference. -/
import Derived.Test.YtnnlhmialmhpfaaFlI
set_option linter.unusedSimpArgs false
set_option linter.unusedVariables false
namespace Go.Proofs.Ytnnlhmialmhpfaa
open Go.RowKit
attribute [local go_sem ↓] Go.wp_at_zero Go.wp_at_succ

set_option maxHeartbeats 8000000 in
theorem check_r (p q r : Option Addr) (n cp m cq k cr : Nat) (s : List Int) (A : List Ark) (f : List Int) (w : World) (hS : Ints w p s) (hA : Arks w q A) (hF : Ints w r f) (hn : s.length = n) (hm : A.length = m) (hk : f.length = k) (hnil : p = none → n = 0 ∧ cp = 0) :
    Calls Try.prog 13 #[.agg #[.slice p n cp, .slice q m cq], .slice r k cr] w fun e w' => e = .returned (.int .i64 (chkS s A f)) ∧ Grew w w' := by
  subst hn hm hk
  have hsm := hS.1
  have ham := hA.1
  have hfm := hF.1
  have Hnil := Lib.hid hnil
  have HS := Lib.hid hS
  have HA := Lib.hid hA
  have HF := Lib.hid hF
  clear hnil hS hA hF
  cases hv : nB s A
  case false =>
    have Hv := Lib.hid hv
    have Hf : Hid (chkS s A f = 1) := Lib.hid (by rw [chkS_err (by rw [fitsS_bad hv]; decide), fitsS_bad hv])
    clear hv
    go_enter Try.func13, Try.ntmps13
    go_wp2_with (go_at_call 11; apply Calls.mono; (with_reducible exact validr_e Hv.out (HS.out.grew (by (repeat (first | exact Grew.refl _ | refine Grew.over ?_ _ | refine Grew.alloc ?_ _ | refine Grew.drew ?_ | refine Grew.drewN ?_ _)))) (HA.out.grew (by (repeat (first | exact Grew.refl _ | refine Grew.over ?_ _ | refine Grew.alloc ?_ _ | refine Grew.drew ?_ | refine Grew.drewN ?_ _)))) rfl rfl); rintro e w' ⟨rfl, x, rfl⟩)
    go_ret
    exact ⟨ret_int Hf.out.symm, by (repeat (first | exact Grew.refl _ | refine Grew.over ?_ _ | refine Grew.alloc ?_ _ | refine Grew.drew ?_ | refine Grew.drewN ?_ _))⟩
  case true =>
  have Hv := Lib.hid hv
  have HV := Lib.hid (nB_iff.1 hv)
  clear hv
  have Hno : Hid (¬ Fit A f → chkS s A f = 3) := Lib.hid (fun h => by rw [chkS_err (by rw [fitsS_no Hv.out h]; decide), fitsS_no Hv.out h])
  by_cases hl : f.length = A.length
  case neg =>
    have hl' : ((f.length : Int) != (A.length : Int)) = true := by rw [bne_iff_ne]; omega
    have Hf := Lib.hid (Hno.out (fun h => hl h.l))
    clear hl
    go_enter Try.func13, Try.ntmps13
    go_wp2_with (go_at_call 11; apply Calls.mono; (with_reducible exact validr_e Hv.out (HS.out.grew (by (repeat (first | exact Grew.refl _ | refine Grew.over ?_ _ | refine Grew.alloc ?_ _ | refine Grew.drew ?_ | refine Grew.drewN ?_ _)))) (HA.out.grew (by (repeat (first | exact Grew.refl _ | refine Grew.over ?_ _ | refine Grew.alloc ?_ _ | refine Grew.drew ?_ | refine Grew.drewN ?_ _)))) rfl rfl); rintro e w' ⟨rfl, x, rfl⟩)
    go_ret
    exact ⟨ret_int Hf.out.symm, by (repeat (first | exact Grew.refl _ | refine Grew.over ?_ _ | refine Grew.alloc ?_ _ | refine Grew.drew ?_ | refine Grew.drewN ?_ _))⟩
  have hl' : ((f.length : Int) != (A.length : Int)) = false := by rw [hl]; simp
  have Hl := Lib.hid hl
  have h256 := HV.out.n
  have h2048 := HV.out.m
  obtain ⟨bf, of, h3, h4⟩ := HF.out.open
  have H4 := Lib.hid h4
  clear h4 hl
  go_enter Try.func13, Try.ntmps13
  go_wp2_with (go_at_call 11; apply Calls.mono; (with_reducible exact validr_e Hv.out (HS.out.grew (by (repeat (first | exact Grew.refl _ | refine Grew.over ?_ _ | refine Grew.alloc ?_ _ | refine Grew.drew ?_ | refine Grew.drewN ?_ _)))) (HA.out.grew (by (repeat (first | exact Grew.refl _ | refine Grew.over ?_ _ | refine Grew.alloc ?_ _ | refine Grew.drew ?_ | refine Grew.drewN ?_ _)))) rfl rfl); rintro e w1 ⟨rfl, hg1⟩; have Hg1 : Hid (Grew w w1) := Lib.hid (Grew.trans (by (repeat (first | exact Grew.refl _ | refine Grew.over ?_ _ | refine Grew.alloc ?_ _ | refine Grew.drew ?_ | refine Grew.drewN ?_ _))) hg1); have x0 : w1.cell? ⟨w.heap.size, 0, none⟩ = some (.slice p s.length cp) := Grew.cellEq hg1 (by simp [go_sem]); have x1 : w1.cell? ⟨w.heap.size, 1, none⟩ = some (.slice q A.length cq) := Grew.cellEq hg1 (by simp [go_sem]); have hbw : w.heap.size < w1.heap.size := Nat.lt_of_lt_of_le (by simp) hg1.below.size; clear hg1)
  clear hl'
  go_loopw [5] (fun v5 wr => ∃ j : Nat, j ≤ f.length ∧ v5 = .int .i64 j ∧ (∀ i, i < j → 0 ≤ ge f i ∧ ge f i ≤ cap A i) ∧ Grew w wr ∧ w.heap.size < wr.heap.size ∧ wr.cell? ⟨w.heap.size, 0, none⟩ = some (.slice p s.length cp) ∧ wr.cell? ⟨w.heap.size, 1, none⟩ = some (.slice q A.length cq)) (fun v5 _ => f.length - (intOf v5).toNat)
  case atStart => exact ⟨0, Nat.zero_le _, rfl, fun i hi => by omega, Hg1.out, hbw, x0, x1⟩
  case round =>
    clear x0 x1 Hg1 hbw
    obtain ⟨j, hj, rfl, hall, hg, hbw, x0, x1⟩ := hrel
    have Hall := Lib.hid hall
    have Hg := Lib.hid hg
    clear hall hg
    have hsz := Hg.out.below.size
    by_cases hlt : j < f.length
    · obtain ⟨rfl, hb⟩ := h3 (by omega)
      have d := Hg.out.cellEq (H4.out j hlt)
      have hja : j < A.length := by have := Hl.out; omega
      obtain ⟨b2, o2, rfl, hb2, _, _, c2, _⟩ := (HA.out.grew Hg.out).open hja
      obtain ⟨y, hy⟩ : ∃ y, (aK A j).cap = y := ⟨_, rfl⟩
      obtain ⟨x, hx⟩ : ∃ x, ge f j = x := ⟨_, rfl⟩
      rw [hy] at c2
      rw [hx] at d
      have Hc : Hid (cap A j = y) := Lib.hid hy
      have Hx := Lib.hid hx
      clear hy hx
      by_cases hlo : x < 0
      · have Hf := Lib.hid (Hno.out (fun h => by have := h.b j hja; rw [Hx.out, Hc.out] at this; omega))
        go_wp2
        refine wp_region_over (by kernel_rfl) (by kernel_rfl) ?_; (repeat (go_big_quiet_step (fail))); refine wpQuiet_nil ?_; rintro _ ⟨x, rfl⟩
        go_wp2
        go_ret
        exact ⟨ret_int Hf.out.symm, Hg.out.trans (by (repeat (first | exact Grew.refl _ | refine Grew.over ?_ _ | refine Grew.alloc ?_ _ | refine Grew.drew ?_ | refine Grew.drewN ?_ _)))⟩
      · have hlo2 : decide (x < 0) = false := decide_eq_false hlo
        by_cases hhi : y < x
        · have Hf := Lib.hid (Hno.out (fun h => by have := h.b j hja; rw [Hx.out, Hc.out] at this; omega))
          go_wp2
          refine wp_region_over (by kernel_rfl) (by kernel_rfl) ?_; (repeat (go_big_quiet_step (fail))); refine wpQuiet_nil ?_; rintro _ ⟨x, rfl⟩
          go_wp2
          go_ret
          exact ⟨ret_int Hf.out.symm, Hg.out.trans (by (repeat (first | exact Grew.refl _ | refine Grew.over ?_ _ | refine Grew.alloc ?_ _ | refine Grew.drew ?_ | refine Grew.drewN ?_ _)))⟩
        · have Hin : Hid (0 ≤ x ∧ x ≤ y) := Lib.hid (by omega)
          go_wp2
          refine wp_region_over (by kernel_rfl) (by kernel_rfl) ?_; (repeat (go_big_quiet_step (fail))); refine wpQuiet_nil ?_; intro w3 hW; replace hW : Grew _ w3 := hW
          have Hg3 := Lib.hid (Hg.out.trans hW)
          replace x0 := hW.cellEq x0
          replace x1 := hW.cellEq x1
          have hbw3 := Nat.lt_of_lt_of_le hbw hW.below.size
          clear hW
          go_wp2
          go_roundw
          case rel =>
            refine ⟨j + 1, by omega, by go_num, fun i hi => ?_, Hg3.out, hbw3, x0, x1⟩
            by_cases e : i = j
            · rw [e, Hx.out, Hc.out]; exact Hin.out
            · exact Hall.out i (by omega)
          case measure => simp [intOf]; omega
    · have hfit : Fit A f := ⟨Hl.out, fun i hi => Hall.out i (by have := Hl.out; omega)⟩
      have Hfit := Lib.hid hfit
      have Hchk : Hid (chkS s A f = if ∀ v, v < s.length → exc s A f v = 0 then 0 else 15) := Lib.hid (by unfold chkS; rw [if_pos (fitsS_ok Hv.out hfit)])
      have Hex : Hid (∀ v, v < s.length → ge (exL s A f A.length) v = exc s A f v) := Lib.hid (fun v _ => ge_exL HV.out f A.length (Nat.le_refl _) v)
      have Hlen := Lib.hid (exL_length s A f A.length)
      clear hfit
      go_upto_region 11 with (go_at_call 24; apply Calls.mono; (with_reducible exact excess_r _ _ _ _ _ _ _ _ _ s A f _ (HS.out.grew Hg.out) (HA.out.grew Hg.out) (HF.out.grew Hg.out) rfl rfl rfl Hnil.out HV.out Hfit.out); rintro e w2 ⟨hg2, v6, rfl, hO⟩; have Hg2 := Lib.hid (Hg.out.trans hg2); have HO := Lib.hid hO; clear hg2 hO)
      rcases own_shape HO.out with ⟨rfl, hn0⟩ | ⟨g, c6, rfl, hB6, hs6, hc6⟩
      · have Hr : Hid (chkS s A f = 0) := Lib.hid (by rw [Hchk.out, if_pos (fun v hv => by omega)])
        go_wp2
        go_loop [7] (fun v7 => v7 = .int .i64 0) (fun _ => 0)
        case atStart => exact rfl
        case round =>
          subst hrel
          go_wp2
          go_ret
          exact ⟨ret_int Hr.out.symm, Hg2.out⟩
      go_wp2
      go_loop [7] (fun v7 => ∃ t : Nat, t ≤ s.length ∧ v7 = .int .i64 t ∧ ∀ v, v < t → exc s A f v = 0) (fun v7 => s.length - (intOf v7).toNat)
      case atStart => exact ⟨0, Nat.zero_le _, rfl, fun v hv => by omega⟩
      case round =>
        obtain ⟨t, ht, rfl, hall⟩ := hrel
        have Hall2 := Lib.hid hall
        clear hall
        by_cases hlt2 : t < s.length
        · have e0 := own_atC HO.out (j := 0) rfl (i := t) (by rw [Hlen.out]; exact hlt2)
          rw [Hex.out t hlt2] at e0
          have bg := own_lt HO.out (j := 0) rfl
          obtain ⟨x, hx⟩ : ∃ x, exc s A f t = x := ⟨_, rfl⟩
          rw [hx] at e0
          have Hx := Lib.hid hx
          clear hx
          by_cases h0 : x = 0
          · subst h0
            go_wp2
            go_round
            case rel =>
              refine ⟨t + 1, by omega, by go_num, fun v hv => ?_⟩
              by_cases e : v = t
              · rw [e]; exact Hx.out
              · exact Hall2.out v (by omega)
            case measure => simp [intOf]; omega
          · have hx1 : (x != 0) = true := by rw [bne_iff_ne]; exact h0
            have Hr : Hid (chkS s A f = 15) := Lib.hid (by rw [Hchk.out, if_neg (fun h => h0 (by rw [← Hx.out]; exact h t hlt2))])
            clear h0
            go_wp2
            go_ret
            exact ⟨ret_int Hr.out.symm, Hg2.out⟩
        · have Hr : Hid (chkS s A f = 0) := Lib.hid (by rw [Hchk.out, if_pos (fun v hv => Hall2.out v (by omega))])
          go_wp2
          go_ret
          exact ⟨ret_int Hr.out.symm, Hg2.out⟩

theorem checkr_e {p q r : Option Addr} {n cp m cq k cr : Nat} {s : List Int} {A : List Ark} {f : List Int} {w : World} {z : Int} (hz : chkS s A f = z) (hS : Ints w p s) (hA : Arks w q A) (hF : Ints w r f) (hn : s.length = n) (hm : A.length = m) (hk : f.length = k) (hnil : p = none → n = 0 ∧ cp = 0) :
    Calls Try.prog 13 #[.agg #[.slice p n cp, .slice q m cq], .slice r k cr] w fun e w' => e = .returned (.int .i64 z) ∧ Grew w w' := hz ▸ check_r p q r n cp m cq k cr s A f w hS hA hF hn hm hk hnil
theorem checkp_e {p q r : Option Addr} {n cp m cq k cr : Nat} {s : List Int} {A : List Ark} {f : List Int} {w : World} {z : Int} (hz : chkS s A f = z) (hS : Ints w p s) (hA : Arks w q A) (hF : Ints w r f) (hn : s.length = n) (hm : A.length = m) (hk : f.length = k) (hnil : p = none → n = 0 ∧ cp = 0) :
    Calls Try.prog 12 #[.agg #[.slice p n cp, .slice q m cq], .slice r k cr] w fun e w' => e = .returned (.int .i64 z) ∧ Grew w w' := hz ▸ check_p p q r n cp m cq k cr s A f w hS hA hF hn hm hk hnil
theorem chk_cases (s : List Int) (A : List Ark) (f : List Int) : (fitsS s A f = 0 ∧ (chkS s A f = 0 ∨ chkS s A f = 15)) ∨ (fitsS s A f ≠ 0 ∧ (chkS s A f = 1 ∨ chkS s A f = 3)) := by
  by_cases h : fitsS s A f = 0
  · refine Or.inl ⟨h, ?_⟩
    unfold chkS
    rw [if_pos h]
    split
    · exact Or.inl rfl
    · exact Or.inr rfl
  · refine Or.inr ⟨h, ?_⟩
    rw [chkS_err h]
    cases hv : nB s A
    · exact Or.inl (fitsS_bad hv)
    · by_cases hf : Fit A f
      · exact absurd (fitsS_ok hv hf) h
      · exact Or.inr (fitsS_no hv hf)

set_option maxHeartbeats 4000000 in
theorem cost_r (p q r : Option Addr) (n cp m cq k cr : Nat) (s : List Int) (A : List Ark) (f : List Int) (w : World) (hS : Ints w p s) (hA : Arks w q A) (hF : Ints w r f) (hn : s.length = n) (hm : A.length = m) (hk : f.length = k) (hnil : p = none → n = 0 ∧ cp = 0) :
    Calls Try.prog 15 #[.agg #[.slice p n cp, .slice q m cq], .slice r k cr] w fun e w' => e = .returned (.int .i64 (cosS s A f)) ∧ Grew w w' := by
  subst hn hm hk
  have ham := hA.1
  have hfm := hF.1
  have HS := Lib.hid hS
  have HA := Lib.hid hA
  have HF := Lib.hid hF
  have Hnil := Lib.hid hnil
  clear hS hA hF hnil
  obtain ⟨z, hz⟩ : ∃ z, chkS s A f = z := ⟨_, rfl⟩
  have Hz := Lib.hid hz
  have hcase := chk_cases s A f
  rw [hz] at hcase
  clear hz
  rcases hcase with ⟨hfit0, hz2⟩ | ⟨hfit0, hz2⟩
  case inr =>
    have Hf : Hid (cosS s A f = 0) := Lib.hid (if_neg hfit0)
    clear hfit0
    rcases hz2 with rfl | rfl
    · go_enter Try.func15, Try.ntmps15
      go_wp2_with (go_at_call 13; apply Calls.mono; (with_reducible exact checkr_e Hz.out (HS.out.grew (by (repeat (first | exact Grew.refl _ | refine Grew.over ?_ _ | refine Grew.alloc ?_ _ | refine Grew.drew ?_ | refine Grew.drewN ?_ _)))) (HA.out.grew (by (repeat (first | exact Grew.refl _ | refine Grew.over ?_ _ | refine Grew.alloc ?_ _ | refine Grew.drew ?_ | refine Grew.drewN ?_ _)))) (HF.out.grew (by (repeat (first | exact Grew.refl _ | refine Grew.over ?_ _ | refine Grew.alloc ?_ _ | refine Grew.drew ?_ | refine Grew.drewN ?_ _)))) rfl rfl rfl Hnil.out); rintro e w' ⟨rfl, x, rfl⟩)
      go_ret
      exact ⟨ret_int Hf.out.symm, by (repeat (first | exact Grew.refl _ | refine Grew.over ?_ _ | refine Grew.alloc ?_ _ | refine Grew.drew ?_ | refine Grew.drewN ?_ _))⟩
    · go_enter Try.func15, Try.ntmps15
      go_wp2_with (go_at_call 13; apply Calls.mono; (with_reducible exact checkr_e Hz.out (HS.out.grew (by (repeat (first | exact Grew.refl _ | refine Grew.over ?_ _ | refine Grew.alloc ?_ _ | refine Grew.drew ?_ | refine Grew.drewN ?_ _)))) (HA.out.grew (by (repeat (first | exact Grew.refl _ | refine Grew.over ?_ _ | refine Grew.alloc ?_ _ | refine Grew.drew ?_ | refine Grew.drewN ?_ _)))) (HF.out.grew (by (repeat (first | exact Grew.refl _ | refine Grew.over ?_ _ | refine Grew.alloc ?_ _ | refine Grew.drew ?_ | refine Grew.drewN ?_ _)))) rfl rfl rfl Hnil.out); rintro e w' ⟨rfl, x, rfl⟩)
      go_ret
      exact ⟨ret_int Hf.out.symm, by (repeat (first | exact Grew.refl _ | refine Grew.over ?_ _ | refine Grew.alloc ?_ _ | refine Grew.drew ?_ | refine Grew.drewN ?_ _))⟩
  have hne1 : (z == 1) = false := by rw [beq_eq_false_iff_ne]; omega
  have hne3 : (z == 3) = false := by rw [beq_eq_false_iff_ne]; omega
  have hfit := fitsS_zero hfit0
  have HV := Lib.hid hfit.1
  have Hfit := Lib.hid hfit.2
  have h2048 := hfit.1.m
  have Hl := Lib.hid hfit.2.l
  have hfl : f.length ≤ 2048 := by have := Hl.out; omega
  have Hf : Hid (cosS s A f = sumN (fun i => ge f i * cst A i) A.length) := Lib.hid (if_pos hfit0)
  clear hfit hfit0 hz2
  go_enter Try.func15, Try.ntmps15
  go_wp2_with (go_at_call 13; apply Calls.mono; (with_reducible exact checkr_e Hz.out (HS.out.grew (by (repeat (first | exact Grew.refl _ | refine Grew.over ?_ _ | refine Grew.alloc ?_ _ | refine Grew.drew ?_ | refine Grew.drewN ?_ _)))) (HA.out.grew (by (repeat (first | exact Grew.refl _ | refine Grew.over ?_ _ | refine Grew.alloc ?_ _ | refine Grew.drew ?_ | refine Grew.drewN ?_ _)))) (HF.out.grew (by (repeat (first | exact Grew.refl _ | refine Grew.over ?_ _ | refine Grew.alloc ?_ _ | refine Grew.drew ?_ | refine Grew.drewN ?_ _)))) rfl rfl rfl Hnil.out); rintro e w1 ⟨rfl, hg1⟩; have Hg1 : Hid (Grew w w1) := Lib.hid (Grew.trans (by (repeat (first | exact Grew.refl _ | refine Grew.over ?_ _ | refine Grew.alloc ?_ _ | refine Grew.drew ?_ | refine Grew.drewN ?_ _))) hg1); have x1 : w1.cell? ⟨w.heap.size, 1, none⟩ = some (.slice q A.length cq) := Grew.cellEq hg1 (by simp [go_sem]); have hbw : w.heap.size < w1.heap.size := Nat.lt_of_lt_of_le (by simp) hg1.below.size; clear hg1)
  clear hne1 hne3
  go_loopw [5, 7] (fun v5 v7 wr => ∃ j : Nat, j ≤ f.length ∧ v7 = .int .i64 j ∧ v5 = .int .i64 (sumN (fun i => ge f i * cst A i) j) ∧ Grew w wr ∧ w.heap.size < wr.heap.size ∧ wr.cell? ⟨w.heap.size, 1, none⟩ = some (.slice q A.length cq)) (fun _ v7 _ => f.length - (intOf v7).toNat)
  case atStart => exact ⟨0, Nat.zero_le _, rfl, rfl, Hg1.out, hbw, x1⟩
  case round =>
    clear Hg1 hbw x1
    obtain ⟨j, hj, rfl, rfl, hg, hbw, x1⟩ := hrel
    have Hg := Lib.hid hg
    clear hg
    obtain ⟨sb1, sb2⟩ := cos_bd Hfit.out (fun i hi => ⟨(HV.out.a i hi).2.2.1.2, (HV.out.a i hi).2.2.2⟩) j (by have := Hl.out; omega)
    obtain ⟨S, hS0⟩ : ∃ S, sumN (fun i => ge f i * cst A i) j = S := ⟨_, rfl⟩
    rw [hS0] at sb1 sb2 ⊢
    have HS0 := Lib.hid hS0
    clear hS0
    have hSb : -2147483648000 ≤ S ∧ S ≤ 2147483648000 := by omega
    obtain ⟨hS1, hS2⟩ := hSb
    clear sb1 sb2
    by_cases hlt : j < f.length
    · have hja : j < A.length := by have := Hl.out; omega
      obtain ⟨b2, o2, rfl, hb2, c0, c1, c2, c3⟩ := (HA.out.grew Hg.out).open hja
      obtain ⟨bf, of, hf3, hf4⟩ := (HF.out.grew Hg.out).open
      obtain ⟨rfl, hbf⟩ := hf3 (by omega)
      have df := hf4 j hlt
      have hfb := Hfit.out.b j hja
      have hcb := (HV.out.a j hja).2.2
      have hsn : sumN (fun i => ge f i * cst A i) (j + 1) = S + ge f j * cst A j := by rw [sumN, HS0.out]
      have hprod := mul_bd (X := 1048576) (Y := 1000) hfb.1 (by omega) hcb.2.1 hcb.2.2
      obtain ⟨fj, hfj⟩ : ∃ x, ge f j = x := ⟨_, rfl⟩
      obtain ⟨cj, hcj⟩ : ∃ x, cst A j = x := ⟨_, rfl⟩
      obtain ⟨fc, hfc⟩ : ∃ x, fj * cj = x := ⟨_, rfl⟩
      have hc3 : (aK A j).cost = cj := hcj
      rw [hfj] at df hsn hprod
      rw [hcj] at hsn hprod
      rw [hfc] at hsn hprod
      rw [hc3] at c3
      obtain ⟨hp1, hp2⟩ := hprod
      have hp1' : -1048576000 ≤ fj * cj := by rw [hfc]; omega
      have hp2' : fj * cj ≤ 1048576000 := by rw [hfc]; omega
      have hwr : IntKind.i64.wrap (fj * cj) = fc := by rw [← hfc]; exact IntWalk.i64_in _ ⟨by omega, by omega⟩
      have hwr2 : IntKind.i64.wrap (S + fc) = S + fc := IntWalk.i64_in _ ⟨by omega, by omega⟩
      have Hsn := Lib.hid hsn
      clear hsn hfj hcj hfc hc3 hfb hcb hf3 hf4
      go_wp2
      refine wp_region_over (by kernel_rfl) (by kernel_rfl) ?_; (repeat (go_big_quiet_step (fail))); refine wpQuiet_nil ?_; intro w3 hW; replace hW : Grew _ w3 := hW
      have Hg3 := Lib.hid (Hg.out.trans hW)
      replace x1 := hW.cellEq x1
      have hbw3 := Nat.lt_of_lt_of_le hbw hW.below.size
      clear hW
      go_wp2
      go_roundw
      case rel => exact ⟨j + 1, by omega, by go_num, by rw [Hsn.out], Hg3.out, hbw3, x1⟩
      case measure => simp [intOf]; omega
    · have hje : j = A.length := by have := Hl.out; omega
      have Hf2 : Hid (cosS s A f = S) := Lib.hid (by rw [Hf.out, ← HS0.out, hje])
      clear hje
      go_wp2
      go_ret
      exact ⟨ret_int Hf2.out.symm, Hg.out⟩
end Go.Proofs.Ytnnlhmialmhpfaa
