/- The law LabelsLeast. -/
import Derived.Test.YtdenjldadlgniaaLabQ
set_option linter.unusedSimpArgs false
set_option linter.unusedVariables false
namespace Go.Proofs.Ytdenjldadlgniaa
open Go.RowKit
attribute [local go_sem ↓] Go.wp_at_zero Go.wp_at_succ

theorem ge_intL2 {l : List Nat} {i : Nat} (h : i < l.length) : ge (intL l) i = (gn l i : Int) := by
  rw [ge_eq _ (by rw [intL_length]; exact h), gn_eq l h]
  simp [intL]
theorem intL_natL {xs : List Int} (h : ∀ i, i < xs.length → 0 ≤ ge xs i) : intL (natL xs) = xs := by
  apply List.ext_getElem
  · rw [intL_length, natL_length]
  · intro i h1 h2
    have := h i h2
    rw [ge_eq xs h2] at this
    simp only [intL, natL, List.getElem_map]
    omega
theorem cm_of_chB {m : List (List Bx)} {xs : List Int} (h : chB m xs = true) : ∃ b, xs = intL b ∧ Cm m b := by
  unfold chB at h
  rw [Bool.and_eq_true, decide_eq_true_eq] at h
  obtain ⟨_, hl, hx⟩ := h
  have hb := natL_length xs
  refine ⟨natL xs, (intL_natL fun i hi => (hx i hi).1).symm, ⟨by omega, fun i hi => ?_, fun i hi j hj => ?_⟩, by omega⟩
  · have := hx i (by omega)
    rw [natL_gn]
    have h1 := this.1
    have h2 := this.2.1
    omega
  · rw [natL_gn, natL_gn]
    exact (hx i (by omega)).2.2 j hj
theorem chB_of_cm {m : List (List Bx)} {b : List Nat} (hc : cB m = true) (h : Cm m b) : chB m (intL b) = true := by
  refine chB_ok hc ⟨by rw [intL_length]; exact h.2, fun i hi => ?_⟩
  rw [intL_length] at hi
  have h1 := h.1.lt i hi
  refine ⟨?_, ?_, fun j hj => ?_⟩
  · rw [ge_intL2 hi]; omega
  · rw [ge_intL2 hi]; omega
  · rw [ge_intL, ge_intL]; exact h.1.fr i hi j hj
theorem vL_cB {m : List (List Bx)} {c : List (List Int)} (h : vLB m c = true) : cB m = true ∧ pB c = true := by
  unfold vLB at h
  rw [Bool.and_eq_true, Bool.and_eq_true] at h
  exact h.1
theorem coS_intL {m : List (List Bx)} {c : List (List Int)} (hv : vLB m c = true) {b : List Nat} (h : Cm m b) : coS c (intL b) = lco c b := by
  have hV := vLB_iff.1 hv
  have e : coS c (intL b) = sumC c (intL b) (intL b).length := coS_ok (vL_cB hv).2 ⟨by rw [intL_length, h.2, hV.cn], fun i hi => by
    rw [intL_length] at hi
    have h1 := h.1.lt i hi
    rw [ge_intL2 hi, hV.co i (by rw [← h.2]; exact hi)]
    omega⟩
  rw [e, intL_length]
  unfold sumC lco
  exact sumN_congr fun i _ => by rw [ge_intL]
theorem intL_rng8 {m : List (List Bx)} {c : List (List Int)} (hV : vL m c) {b : List Nat} (h : Cm m b) {i : Nat} (hi : i < b.length) : gn b i < 16 := by
  have h1 := h.1.lt i hi
  have h2 := (hV.bx i (by rw [← h.2]; exact hi)).1
  omega
/-- Place where there is a placement. -/
theorem place_some {p q : Option Addr} {n k cp cq : Nat} {m : List (List Bx)} {c : List (List Int)} {w : World} {b : List Nat} (hM : BMat w p m) (hC : Mat w q c) (hn : m.length = n) (hk : c.length = k) (hv : vLB m c = true) (hb : Cm m b) :
    Calls Try.prog 17 #[.slice p n cp, .slice q k cq] w fun e w' => Grew w w' ∧ ∃ a z q1 c1, e = .returned (.tuple #[.slice q1 n c1, .int .i64 z, .int .i64 0]) ∧ Bst c m.length (Cm m) a ∧ lco c a = z ∧ Ints w' q1 (intL a) ∧ n ≤ c1 ∧ c1 ≤ 9223372036854775807 := by
  refine (place_p p q n k cp cq m c w hM hC hn hk).mono ?_
  rintro e w' ⟨hg, h⟩
  rcases h with ⟨h, _⟩ | ⟨_, h, _⟩ | ⟨_, a, q1, c1, h1, h2, h3, h4, h5⟩
  · rw [hv] at h; cases h
  · exact absurd hb (h b)
  · have hl : a.length = n := by rw [h1.1.2]; exact hn
    rw [hl] at h2 h4
    exact ⟨hg, a, _, q1, c1, h2, h1, rfl, h3, h4, h5⟩
theorem lex_at {n : Nat} {a b : List Nat} (h : a = b ∨ lexN n a b) {i : Nat} (hp : ∀ t, t < i → gn a t = gn b t) (hne : gn a i ≠ gn b i) : gn a i < gn b i := by
  rcases h with rfl | ⟨u, _, h1, h2⟩
  · exact absurd rfl hne
  · rcases Nat.lt_trichotomy u i with g | g | g
    · have := hp u g; omega
    · subst g; exact h2
    · exact absurd (h1 i g) hne

set_option maxHeartbeats 16000000 in
theorem least_l (p q r : Option Addr) (n k j cp cq cr : Nat) (m : List (List Bx)) (c : List (List Int)) (xs : List Int) (w : World) (hM : BMat w p m) (hC : Mat w q c) (hx : Ints w r xs) (hn : m.length = n) (hk : c.length = k) (hj : xs.length = j) (hcr : j ≤ cr) (hcr2 : cr ≤ 9223372036854775807) :
    Calls Try.prog 6 #[.slice p n cp, .slice q k cq, .slice r j cr] w fun e w' => e = .returned (.bool true) ∧ Grew w w' := by
  have hmx := hx.1
  rw [hj] at hmx
  have HM := Lib.hid hM
  have HC := Lib.hid hC
  have HX := Lib.hid hx
  have HN := Lib.hid hn
  have HK := Lib.hid hk
  have HJ := Lib.hid hj
  have Hcr : Hid (xs.length ≤ cr) := Lib.hid (by rw [hj]; exact hcr)
  obtain ⟨b0, h0⟩ : ∃ b, smB m c = b := ⟨_, rfl⟩
  obtain ⟨b1, h1⟩ : ∃ b, vLB m c = b := ⟨_, rfl⟩
  obtain ⟨b2, h2⟩ : ∃ b, chB m xs = b := ⟨_, rfl⟩
  have B0 := Lib.hid h0
  have B1 := Lib.hid h1
  have B2 := Lib.hid h2
  clear hM hC hx hn hk hj h0 h1 h2
  by_cases hskip : b0 = false ∨ 30 < j ∨ b1 = false ∨ b2 = false
  · go_enter Try.func6, Try.ntmps6
    by_cases g0 : b0 = false
    · subst g0
      clear hskip
      go_wp2_with (first
        | (go_at_call 8; apply Calls.mono; (with_reducible exact small_e B0.out HM.out HC.out HN.out HK.out); rintro e w' ⟨rfl, rfl⟩)
        | (go_at_call 9; apply Calls.mono; (with_reducible exact awake_l _); rintro e w' ⟨rfl, x, rfl⟩))
      go_ret
      exact ⟨rfl, by (repeat (first | exact Grew.refl _ | refine Grew.over ?_ _ | refine Grew.alloc ?_ _ | refine Grew.drew ?_ | refine Grew.drewN ?_ _))⟩
    have g0' : b0 = true := by cases b0; exact absurd rfl g0; rfl
    subst g0'
    clear g0
    by_cases g1 : 30 < j
    · clear hskip
      go_wp2_with (first
        | (go_at_call 8; apply Calls.mono; (with_reducible exact small_e B0.out HM.out HC.out HN.out HK.out); rintro e w' ⟨rfl, rfl⟩)
        | (go_at_call 9; apply Calls.mono; (with_reducible exact awake_l _); rintro e w' ⟨rfl, x, rfl⟩))
      go_ret
      exact ⟨rfl, by (repeat (first | exact Grew.refl _ | refine Grew.over ?_ _ | refine Grew.alloc ?_ _ | refine Grew.drew ?_ | refine Grew.drewN ?_ _))⟩
    by_cases g2 : b1 = false
    · subst g2
      clear hskip
      go_wp2_with (first
        | (go_at_call 8; apply Calls.mono; (with_reducible exact small_e B0.out HM.out HC.out HN.out HK.out); rintro e w' ⟨rfl, rfl⟩)
        | (go_at_call 11; apply Calls.mono; (with_reducible exact valid50r_e B1.out (HM.out.grew (by (repeat (first | exact Grew.refl _ | refine Grew.over ?_ _ | refine Grew.alloc ?_ _ | refine Grew.drew ?_ | refine Grew.drewN ?_ _)))) (HC.out.grew (by (repeat (first | exact Grew.refl _ | refine Grew.over ?_ _ | refine Grew.alloc ?_ _ | refine Grew.drew ?_ | refine Grew.drewN ?_ _)))) HN.out HK.out); rintro e w' ⟨rfl, x, rfl⟩)
        | (go_at_call 9; apply Calls.mono; (with_reducible exact awake_l _); rintro e w' ⟨rfl, x, rfl⟩))
      go_ret
      exact ⟨rfl, by (repeat (first | exact Grew.refl _ | refine Grew.over ?_ _ | refine Grew.alloc ?_ _ | refine Grew.drew ?_ | refine Grew.drewN ?_ _))⟩
    have g2' : b1 = true := by cases b1; exact absurd rfl g2; rfl
    subst g2'
    have g3 : b2 = false := by rcases hskip with h | h | h | h <;> first | (cases h; done) | exact absurd h g1 | exact h
    subst g3
    clear hskip g2
    go_wp2_with (first
      | (go_at_call 8; apply Calls.mono; (with_reducible exact small_e B0.out HM.out HC.out HN.out HK.out); rintro e w' ⟨rfl, rfl⟩)
      | (go_at_call 11; apply Calls.mono; (with_reducible exact valid50r_e B1.out (HM.out.grew (by (repeat (first | exact Grew.refl _ | refine Grew.over ?_ _ | refine Grew.alloc ?_ _ | refine Grew.drew ?_ | refine Grew.drewN ?_ _)))) (HC.out.grew (by (repeat (first | exact Grew.refl _ | refine Grew.over ?_ _ | refine Grew.alloc ?_ _ | refine Grew.drew ?_ | refine Grew.drewN ?_ _)))) HN.out HK.out); rintro e w' ⟨rfl, x, rfl⟩)
      | (go_at_call 13; apply Calls.mono; (with_reducible exact checkr_e B2.out (HM.out.grew (by (repeat (first | exact Grew.refl _ | refine Grew.over ?_ _ | refine Grew.alloc ?_ _ | refine Grew.drew ?_ | refine Grew.drewN ?_ _)))) (HX.out.grew (by (repeat (first | exact Grew.refl _ | refine Grew.over ?_ _ | refine Grew.alloc ?_ _ | refine Grew.drew ?_ | refine Grew.drewN ?_ _)))) HN.out HJ.out Hcr.out hcr2); rintro e w' ⟨rfl, x, rfl⟩)
      | (go_at_call 9; apply Calls.mono; (with_reducible exact awake_l _); rintro e w' ⟨rfl, x, rfl⟩))
    go_ret
    exact ⟨rfl, by (repeat (first | exact Grew.refl _ | refine Grew.over ?_ _ | refine Grew.alloc ?_ _ | refine Grew.drew ?_ | refine Grew.drewN ?_ _))⟩
  have g0 : b0 = true := by cases b0; exact absurd (Or.inl rfl) hskip; rfl
  have g1 : ¬ 30 < j := fun h => hskip (Or.inr (Or.inl h))
  have g2 : b1 = true := by cases b1; exact absurd (Or.inr (Or.inr (Or.inl rfl))) hskip; rfl
  have g3 : b2 = true := by cases b2; exact absurd (Or.inr (Or.inr (Or.inr rfl))) hskip; rfl
  subst g0 g2 g3
  clear hskip
  obtain ⟨b, hxb, hb⟩ := cm_of_chB B2.out
  have HV := Lib.hid (vLB_iff.1 B1.out)
  obtain ⟨zb, hzb⟩ : ∃ z, lco c b = z := ⟨_, rfl⟩
  have Bz : Hid (coS c xs = zb) := Lib.hid (by rw [hxb, coS_intL B1.out hb, hzb])
  have Hzb := Lib.hid hzb
  have Hb := Lib.hid hb
  have Hxb := Lib.hid hxb
  have hjn : j = n := by rw [← HJ.out, hxb, intL_length, hb.2, HN.out]
  subst hjn
  clear hb hzb hxb
  have hd30 : decide ((30 : Int) < (j : Int)) = false := decide_eq_false (by omega)
  have hd30' : decide (30 < j) = false := decide_eq_false (by omega)
  go_enter Try.func6, Try.ntmps6
  go_wp2_with (first
    | (go_at_call 8; apply Calls.mono; (with_reducible exact small_e B0.out HM.out HC.out HN.out HK.out); rintro e w' ⟨rfl, rfl⟩)
    | (go_at_call 11; apply Calls.mono; (with_reducible exact valid50r_e B1.out (HM.out.grew (by (repeat (first | exact Grew.refl _ | refine Grew.over ?_ _ | refine Grew.alloc ?_ _ | refine Grew.drew ?_ | refine Grew.drewN ?_ _)))) (HC.out.grew (by (repeat (first | exact Grew.refl _ | refine Grew.over ?_ _ | refine Grew.alloc ?_ _ | refine Grew.drew ?_ | refine Grew.drewN ?_ _)))) HN.out HK.out); rintro e w' ⟨rfl, x, rfl⟩)
    | (go_at_call 13; apply Calls.mono; (with_reducible exact checkr_e B2.out (HM.out.grew (by (repeat (first | exact Grew.refl _ | refine Grew.over ?_ _ | refine Grew.alloc ?_ _ | refine Grew.drew ?_ | refine Grew.drewN ?_ _)))) (HX.out.grew (by (repeat (first | exact Grew.refl _ | refine Grew.over ?_ _ | refine Grew.alloc ?_ _ | refine Grew.drew ?_ | refine Grew.drewN ?_ _)))) HN.out HJ.out Hcr.out hcr2); rintro e w' ⟨rfl, x, rfl⟩)
    | (go_at_call 17; apply Calls.mono; (with_reducible exact place_some (HM.out.grew (by (repeat (first | exact Grew.refl _ | refine Grew.over ?_ _ | refine Grew.alloc ?_ _ | refine Grew.drew ?_ | refine Grew.drewN ?_ _)))) (HC.out.grew (by (repeat (first | exact Grew.refl _ | refine Grew.over ?_ _ | refine Grew.alloc ?_ _ | refine Grew.drew ?_ | refine Grew.drewN ?_ _)))) HN.out HK.out B1.out Hb.out); rintro e w2 ⟨hg2, a, z, q1, c1, rfl, hBst, hz, hI1, hc1, hc2⟩; have HG := Lib.hid (Grew.trans (show Grew w _ by (repeat (first | exact Grew.refl _ | refine Grew.over ?_ _ | refine Grew.alloc ?_ _ | refine Grew.drew ?_ | refine Grew.drewN ?_ _))) hg2); have HA := Lib.hid hBst; have HI1 := Lib.hid hI1; have Hz := Lib.hid hz; have Hla : Hid ((intL a).length = j) := Lib.hid (by rw [intL_length, hBst.1.2, HN.out]); have Hlc : Hid ((intL a).length ≤ c1) := Lib.hid (by rw [Hla.out]; exact hc1); have A2 := Lib.hid (chB_of_cm (vL_cB B1.out).1 hBst.1); have A3 : Hid (coS c (intL a) = z) := Lib.hid (by rw [coS_intL B1.out hBst.1, hz]); have hle : z ≤ zb := (by rw [← hz, ← Hzb.out]; rcases hBst.2 b Hb.out with h | ⟨h, _⟩ <;> omega); clear hg2 hBst hz hI1; by_cases hlt' : z < zb)
    | (go_at_call 13; apply Calls.mono; (with_reducible exact checkr_e A2.out (HM.out.grew (HG.out.trans (by (repeat (first | exact Grew.refl _ | refine Grew.over ?_ _ | refine Grew.alloc ?_ _ | refine Grew.drew ?_ | refine Grew.drewN ?_ _))))) (HI1.out.grew (by (repeat (first | exact Grew.refl _ | refine Grew.over ?_ _ | refine Grew.alloc ?_ _ | refine Grew.drew ?_ | refine Grew.drewN ?_ _)))) HN.out Hla.out Hlc.out hc2); rintro e w' ⟨rfl, x, rfl⟩)
    | (go_at_call 15; apply Calls.mono; (with_reducible exact costr_e A3.out (HC.out.grew (HG.out.trans (by (repeat (first | exact Grew.refl _ | refine Grew.over ?_ _ | refine Grew.alloc ?_ _ | refine Grew.drew ?_ | refine Grew.drewN ?_ _))))) (HI1.out.grew (by (repeat (first | exact Grew.refl _ | refine Grew.over ?_ _ | refine Grew.alloc ?_ _ | refine Grew.drew ?_ | refine Grew.drewN ?_ _)))) HK.out Hla.out); rintro e w' ⟨rfl, x, rfl⟩)
    | (go_at_call 15; apply Calls.mono; (with_reducible exact costr_e Bz.out (HC.out.grew (HG.out.trans (by (repeat (first | exact Grew.refl _ | refine Grew.over ?_ _ | refine Grew.alloc ?_ _ | refine Grew.drew ?_ | refine Grew.drewN ?_ _))))) (HX.out.grew (HG.out.trans (by (repeat (first | exact Grew.refl _ | refine Grew.over ?_ _ | refine Grew.alloc ?_ _ | refine Grew.drew ?_ | refine Grew.drewN ?_ _))))) HK.out HJ.out); rintro e w' ⟨rfl, x, rfl⟩)
    | (go_at_call 9; apply Calls.mono; (with_reducible exact awake_l _); rintro e w' ⟨rfl, x, rfl⟩))
  · go_ret
    exact ⟨rfl, HG.out.trans (by (repeat (first | exact Grew.refl _ | refine Grew.over ?_ _ | refine Grew.alloc ?_ _ | refine Grew.drew ?_ | refine Grew.drewN ?_ _)))⟩
  · go_loopw [10] (fun v wr => ∃ i : Nat, i ≤ j ∧ v = .int .i64 i ∧ (∀ t, t < i → gn a t = gn b t) ∧ Grew w2 wr) (fun v _ => j - (intOf v).toNat)
    case atStart => exact ⟨0, Nat.zero_le _, rfl, fun t ht => by omega, by (repeat (first | exact Grew.refl _ | refine Grew.over ?_ _ | refine Grew.alloc ?_ _ | refine Grew.drew ?_ | refine Grew.drewN ?_ _))⟩
    case round =>
      obtain ⟨i, hi, rfl, hall, hg⟩ := hrel
      have Hall := Lib.hid hall
      have Hg := Lib.hid hg
      clear hall hg
      by_cases hlt : i < j
      · obtain ⟨bx, ox, h1, k1⟩ := (HI1.out.grew Hg.out).open
        obtain ⟨rfl, g1⟩ := h1 (by rw [Hla.out]; omega)
        have d1 := k1 i (by rw [Hla.out]; exact hlt)
        clear h1 k1
        obtain ⟨by1, oy, h1, k1⟩ := (HX.out.grew (HG.out.trans Hg.out)).open
        obtain ⟨rfl, g3⟩ := h1 (by rw [HJ.out]; omega)
        have d2 := k1 i (by rw [HJ.out]; exact hlt)
        clear h1 k1
        have hla : a.length = j := by have := Hla.out; rw [intL_length] at this; exact this
        have hlb : b.length = j := by rw [Hb.out.2, HN.out]
        have hxa := intL_rng8 HV.out HA.out.1 (i := i) (by rw [hla]; exact hlt)
        have hxb := intL_rng8 HV.out Hb.out (i := i) (by rw [hlb]; exact hlt)
        rw [ge_intL2 (by rw [hla]; exact hlt)] at d1
        rw [Hxb.out, ge_intL2 (by rw [hlb]; exact hlt)] at d2
        have Hlex := Lib.hid (show gn a i ≠ gn b i → gn a i < gn b i from fun hne => lex_at (n := m.length) (by
          rcases HA.out.2 b Hb.out with h | ⟨_, h⟩
          · rw [Hz.out, Hzb.out] at h; exact absurd h (by omega)
          · exact h) Hall.out hne)
        clear hla hlb
        obtain ⟨X, hXe⟩ : ∃ X, gn a i = X := ⟨_, rfl⟩
        obtain ⟨Y, hYe⟩ : ∃ Y, gn b i = Y := ⟨_, rfl⟩
        rw [hXe] at d1 hxa
        rw [hYe] at d2 hxb
        rw [hXe, hYe] at Hlex
        have HXe := Lib.hid hXe
        have HYe := Lib.hid hYe
        clear hXe hYe
        by_cases he : X = Y
        · subst he
          go_wp2
          refine wp_region_over (by kernel_rfl) (by kernel_rfl) ?_; (repeat (go_big_quiet_step (fail))); refine wpQuiet_nil ?_; rintro _ ⟨x, rfl⟩
          go_wp2
          go_roundw
          case rel => exact ⟨i + 1, by omega, by go_num, fun t ht => (by
            by_cases h : t = i
            · rw [h, HXe.out, HYe.out]
            · exact Hall.out t (by omega)), Hg.out.trans (by (repeat (first | exact Grew.refl _ | refine Grew.over ?_ _ | refine Grew.alloc ?_ _ | refine Grew.drew ?_ | refine Grew.drewN ?_ _)))⟩
          case measure => simp [intOf]; omega
        · have hXY := Hlex.out he
          have q1' : ((X : Int) != (Y : Int)) = true := by rw [bne_iff_ne]; omega
          have q2 : (X != Y) = true := by rw [bne_iff_ne]; exact he
          have q3 : decide ((X : Int) < (Y : Int)) = true := decide_eq_true (by omega)
          have q4 : decide (X < Y) = true := decide_eq_true hXY
          clear he
          go_wp2
          refine wp_region_over (by kernel_rfl) (by kernel_rfl) ?_; (repeat (go_big_quiet_step (fail))); refine wpQuiet_nil ?_; rintro _ ⟨x, rfl⟩
          go_wp2
          refine wp_region_over (by kernel_rfl) (by kernel_rfl) ?_; (repeat (go_big_quiet_step ((go_at_call 9; apply over_call; with_reducible exact awake_l _)))); refine wpQuiet_nil ?_; rintro _ ⟨x, rfl⟩
          go_wp2
          go_ret
          exact ⟨rfl, HG.out.trans (Hg.out.trans (by (repeat (first | exact Grew.refl _ | refine Grew.over ?_ _ | refine Grew.alloc ?_ _ | refine Grew.drew ?_ | refine Grew.drewN ?_ _))))⟩
      · go_wp2_with (go_at_call 9; apply Calls.mono; (with_reducible exact awake_l _); rintro e w' ⟨rfl, x, rfl⟩)
        go_ret
        exact ⟨rfl, HG.out.trans (Hg.out.trans (by (repeat (first | exact Grew.refl _ | refine Grew.over ?_ _ | refine Grew.alloc ?_ _ | refine Grew.drew ?_ | refine Grew.drewN ?_ _))))⟩
end Go.Proofs.Ytdenjldadlgniaa
