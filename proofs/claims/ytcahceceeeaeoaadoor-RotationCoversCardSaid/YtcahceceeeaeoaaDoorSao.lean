/- turned and Same of the program. -/
import Derived.Test.YtcahceceeeaeoaaDoorSan
set_option linter.unusedSimpArgs false
set_option linter.unusedVariables false
namespace Go.Proofs.YtcahceceeeaeoaaDoor
open Go.RowKit
attribute [local go_sem ↓] Go.wp_at_zero Go.wp_at_succ

theorem equal_ie {p q : Option Addr} {n k cp cq : Nat} {a b : List Int} {w : World} {r : Bool} (h : decide (a = b) = r) (hI : Ints w p a) (hJ : Ints w q b) (hn : a.length = n) (hk : b.length = k) :
    Calls Tryd.prog 45 #[.slice p n cp, .slice q k cq] w fun e w' => e = .returned (.bool r) ∧ Grew w w' := h ▸ equal_i p q n k cp cq a b w hI hJ hn hk

set_option maxRecDepth 8000 in
set_option maxHeartbeats 4000000 in
theorem turned_p (p q : Option Addr) (n k cp cq : Nat) (a b : List Int) (w : World) (hI : Ints w p a) (hJ : Ints w q b) (ha : a.length ≤ 100) (hb : b.length ≤ 100) (hcp : a.length ≤ cp) (hcq : b.length ≤ cq) (hmp : cp ≤ 9223372036854775807) (hmq : cq ≤ 9223372036854775807) (hn : a.length = n) (hk : b.length = k) :
    Calls Tryd.prog 42 #[.slice p n cp, .slice q k cq] w fun e w' => e = .returned (.bool (cycB a b)) ∧ Grew w w' := by
  subst hn hk
  by_cases hl : a.length = b.length
  case neg =>
    have Hf : Hid (cycB a b = false) := Lib.hid (cycB_no fun h => hl h.1)
    have hl' : ((a.length : Int) != (b.length : Int)) = true := by rw [bne_iff_ne]; omega
    clear hl hI hJ
    go_enter Tryd.func42, Tryd.ntmps42
    go_wp2
    go_ret
    exact ⟨by rw [Hf.out]; rfl, by (repeat (first | exact Grew.refl _ | refine Grew.over ?_ _ | refine Grew.alloc ?_ _ | refine Grew.drew ?_ | refine Grew.drewN ?_ _))⟩
  case pos =>
  have HI := Lib.hid hI
  have HJ := Lib.hid hJ
  have Hl := Lib.hid hl
  obtain ⟨L, hL⟩ : ∃ L, a.length = L := ⟨_, rfl⟩
  have hLb : b.length = L := by omega
  have HL := Lib.hid hL
  rw [hL] at hcp ha
  rw [hLb] at hcq
  rw [hL, hLb]
  have HLb := Lib.hid hLb
  clear hI hJ hb hl hL hLb
  go_enter Tryd.func42, Tryd.ntmps42
  go_wp2
  go_loopw [5, 13] (fun _ i wr => ∃ s : Nat, s ≤ L ∧ i = .int .i64 s ∧ (∀ t, t < s → ¬ eqAt a b t) ∧ Grew w wr) (fun _ i _ => L - (intOf i).toNat)
  case atStart => exact ⟨0, Nat.zero_le _, rfl, fun t ht => absurd ht (Nat.not_lt_zero _), Grew.refl _⟩
  case round =>
    obtain ⟨s, hs, rfl, hno, hg⟩ := hrel
    have Hno := Lib.hid hno
    have Hg := Lib.hid hg
    clear hno hg
    by_cases hlt : s < L
    · obtain ⟨bI, oI, rfl, lI, _⟩ := HI.out.cells (by rw [HL.out]; omega)
      obtain ⟨bJ, oJ, rfl, lJ, _⟩ := HJ.out.cells (by rw [HLb.out]; omega)
      have hc1 : ¬ cp = s := by omega
      have hwk1 : IntKind.i64.wrap ((L : Int) - (s : Int)) = (L : Int) - (s : Int) := IntWalk.i64_in _ ⟨by omega, by omega⟩
      obtain ⟨r, hr⟩ : ∃ r : Nat, r + s = L := ⟨L - s, by omega⟩
      have er : (L : Int) - (s : Int) = (r : Int) := by omega
      have hI1 := HI.out.drop s
      have hJ1 := HJ.out.take (L - s)
      have hI2 := HI.out.take s
      have l1 : (a.drop s).length = r := by rw [List.length_drop, HL.out]; omega
      have l2 : (b.take (L - s)).length = r := by rw [List.length_take, HLb.out]; omega
      have l3 : (a.take s).length = s := by rw [List.length_take, HL.out]; omega
      have l4 : (b.drop (L - s)).length = s := by rw [List.length_drop, HLb.out]; omega
      have Hsp := Lib.hid (eqAt_split (a := a) (b := b) HL.out HLb.out hs)
      by_cases e1 : a.drop s = b.take (L - s)
      case neg =>
        have He1 := Lib.hid (decide_eq_false e1)
        have Hno2 : Hid (∀ t, t < s + 1 → ¬ eqAt a b t) := Lib.hid (fun t ht => by
          by_cases e : t = s
          · rw [e]; exact fun h => e1 (Hsp.out.1 h).1
          · exact Hno.out t (by omega))
        have Hl1 : Hid ((a.drop s).length = L - s) := Lib.hid (by rw [List.length_drop, HL.out])
        have HI1 := Lib.hid hI1
        have HJ1 := Lib.hid hJ1
        have Hl2 := Lib.hid l2
        clear e1 hI1 hJ1 hI2 l1 l2 l3 l4
        go_upto_region 6 with fail
        refine wp_region_over (by kernel_rfl) (by kernel_rfl) ?_; (repeat (go_big_quiet_step ((go_at_call 45; apply over_call; with_reducible exact equal_ie He1.out (HI1.out.grew (Hg.out.trans (by (repeat (first | exact Grew.refl _ | refine Grew.over ?_ _ | refine Grew.alloc ?_ _ | refine Grew.drew ?_ | refine Grew.drewN ?_ _))))) (HJ1.out.grew (Hg.out.trans (by (repeat (first | exact Grew.refl _ | refine Grew.over ?_ _ | refine Grew.alloc ?_ _ | refine Grew.drew ?_ | refine Grew.drewN ?_ _))))) Hl1.out Hl2.out)))); refine wpQuiet_nil ?_; rintro _ ⟨x, rfl⟩
        go_wp2
        go_roundw
        case rel => exact ⟨s + 1, by omega, by go_num, Hno2.out, Hg.out.trans (by (repeat (first | exact Grew.refl _ | refine Grew.over ?_ _ | refine Grew.alloc ?_ _ | refine Grew.drew ?_ | refine Grew.drewN ?_ _)))⟩
        case measure => simp [intOf]; omega
      have He1 := Lib.hid (decide_eq_true e1)
      have Hl1 : Hid ((a.drop s).length = L - s) := Lib.hid (by rw [List.length_drop, HL.out])
      have HI1 := Lib.hid hI1
      have HJ1 := Lib.hid hJ1
      have Hl2 := Lib.hid l2
      have HI2 := Lib.hid hI2
      have Hl3 := Lib.hid l3
      have Hl4 := Lib.hid l4
      have HE1 := Lib.hid e1
      have hJd := HJ.out.drop (L - s)
      rw [show L - s = r by omega] at hJd
      have Hr2 : Hid (L - s = r) := Lib.hid (by omega)
      clear e1 hI1 hJ1 hI2 l1 l2 l3 l4
      cases e2 : decide (a.take s = b.drop (L - s))
      · have Hno2 : Hid (∀ t, t < s + 1 → ¬ eqAt a b t) := Lib.hid (fun t ht => by
          by_cases e : t = s
          · rw [e]; exact fun h => (of_decide_eq_false e2) (Hsp.out.1 h).2
          · exact Hno.out t (by omega))
        rw [Hr2.out] at e2
        have He2 := Lib.hid e2
        by_cases hq : cq = r
        · have hs0 : s = 0 := by omega
          have HJ2 : Hid (Ints w (some ⟨bJ, oJ, none⟩) (b.drop r)) := Lib.hid (by
            have : b.drop r = [] := List.eq_nil_of_length_eq_zero (by rw [List.length_drop, HLb.out]; omega)
            rw [this]
            exact Ints.nil _ _)
          have Hl5 : Hid ((b.drop r).length = L - r) := Lib.hid (by rw [List.length_drop, HLb.out])
          clear e2 hJd hs0
          go_upto_region 6 with fail
          refine wp_region_over (by kernel_rfl) (by kernel_rfl) ?_; (repeat (go_big_quiet_step (first
                      | (go_at_call 45; apply over_call; with_reducible exact equal_ie He1.out (HI1.out.grew (Hg.out.trans (by (repeat (first | exact Grew.refl _ | refine Grew.over ?_ _ | refine Grew.alloc ?_ _ | refine Grew.drew ?_ | refine Grew.drewN ?_ _))))) (HJ1.out.grew (Hg.out.trans (by (repeat (first | exact Grew.refl _ | refine Grew.over ?_ _ | refine Grew.alloc ?_ _ | refine Grew.drew ?_ | refine Grew.drewN ?_ _))))) Hl1.out Hl2.out)
                      | (go_at_call 45; apply over_call; with_reducible exact equal_ie He2.out (HI2.out.grew (Hg.out.trans (by (repeat (first | exact Grew.refl _ | refine Grew.over ?_ _ | refine Grew.alloc ?_ _ | refine Grew.drew ?_ | refine Grew.drewN ?_ _))))) (HJ2.out.grew (Hg.out.trans (by (repeat (first | exact Grew.refl _ | refine Grew.over ?_ _ | refine Grew.alloc ?_ _ | refine Grew.drew ?_ | refine Grew.drewN ?_ _))))) Hl3.out Hl5.out)))); refine wpQuiet_nil ?_; rintro _ ⟨x, rfl⟩
          go_wp2
          go_roundw
          case rel => exact ⟨s + 1, by omega, by go_num, Hno2.out, Hg.out.trans (by (repeat (first | exact Grew.refl _ | refine Grew.over ?_ _ | refine Grew.alloc ?_ _ | refine Grew.drew ?_ | refine Grew.drewN ?_ _)))⟩
          case measure => simp [intOf]; omega
        · have HJ2 := Lib.hid hJd
          have Hl5 : Hid ((b.drop r).length = L - r) := Lib.hid (by rw [List.length_drop, HLb.out])
          clear e2 hJd
          go_upto_region 6 with fail
          refine wp_region_over (by kernel_rfl) (by kernel_rfl) ?_; (repeat (go_big_quiet_step (first
                      | (go_at_call 45; apply over_call; with_reducible exact equal_ie He1.out (HI1.out.grew (Hg.out.trans (by (repeat (first | exact Grew.refl _ | refine Grew.over ?_ _ | refine Grew.alloc ?_ _ | refine Grew.drew ?_ | refine Grew.drewN ?_ _))))) (HJ1.out.grew (Hg.out.trans (by (repeat (first | exact Grew.refl _ | refine Grew.over ?_ _ | refine Grew.alloc ?_ _ | refine Grew.drew ?_ | refine Grew.drewN ?_ _))))) Hl1.out Hl2.out)
                      | (go_at_call 45; apply over_call; with_reducible exact equal_ie He2.out (HI2.out.grew (Hg.out.trans (by (repeat (first | exact Grew.refl _ | refine Grew.over ?_ _ | refine Grew.alloc ?_ _ | refine Grew.drew ?_ | refine Grew.drewN ?_ _))))) (HJ2.out.grew (Hg.out.trans (by (repeat (first | exact Grew.refl _ | refine Grew.over ?_ _ | refine Grew.alloc ?_ _ | refine Grew.drew ?_ | refine Grew.drewN ?_ _))))) Hl3.out Hl5.out)))); refine wpQuiet_nil ?_; rintro _ ⟨x, rfl⟩
          go_wp2
          go_roundw
          case rel => exact ⟨s + 1, by omega, by go_num, Hno2.out, Hg.out.trans (by (repeat (first | exact Grew.refl _ | refine Grew.over ?_ _ | refine Grew.alloc ?_ _ | refine Grew.drew ?_ | refine Grew.drewN ?_ _)))⟩
          case measure => simp [intOf]; omega
      · have Hf : Hid (cycB a b = true) := Lib.hid (cycB_yes ⟨Hl.out, Or.inr ⟨s, by rw [HL.out]; exact hlt, Hsp.out.2 ⟨HE1.out, of_decide_eq_true e2⟩⟩⟩)
        rw [Hr2.out] at e2
        have He2 := Lib.hid e2
        by_cases hq : cq = r
        · have hs0 : s = 0 := by omega
          have HJ2 : Hid (Ints w (some ⟨bJ, oJ, none⟩) (b.drop r)) := Lib.hid (by
            have : b.drop r = [] := List.eq_nil_of_length_eq_zero (by rw [List.length_drop, HLb.out]; omega)
            rw [this]
            exact Ints.nil _ _)
          have Hl5 : Hid ((b.drop r).length = L - r) := Lib.hid (by rw [List.length_drop, HLb.out])
          clear e2 hJd hs0
          go_upto_region 6 with fail
          refine wp_region_over (by kernel_rfl) (by kernel_rfl) ?_; (repeat (go_big_quiet_step (first
                      | (go_at_call 45; apply over_call; with_reducible exact equal_ie He1.out (HI1.out.grew (Hg.out.trans (by (repeat (first | exact Grew.refl _ | refine Grew.over ?_ _ | refine Grew.alloc ?_ _ | refine Grew.drew ?_ | refine Grew.drewN ?_ _))))) (HJ1.out.grew (Hg.out.trans (by (repeat (first | exact Grew.refl _ | refine Grew.over ?_ _ | refine Grew.alloc ?_ _ | refine Grew.drew ?_ | refine Grew.drewN ?_ _))))) Hl1.out Hl2.out)
                      | (go_at_call 45; apply over_call; with_reducible exact equal_ie He2.out (HI2.out.grew (Hg.out.trans (by (repeat (first | exact Grew.refl _ | refine Grew.over ?_ _ | refine Grew.alloc ?_ _ | refine Grew.drew ?_ | refine Grew.drewN ?_ _))))) (HJ2.out.grew (Hg.out.trans (by (repeat (first | exact Grew.refl _ | refine Grew.over ?_ _ | refine Grew.alloc ?_ _ | refine Grew.drew ?_ | refine Grew.drewN ?_ _))))) Hl3.out Hl5.out)))); refine wpQuiet_nil ?_; rintro _ ⟨x, rfl⟩
          go_wp2
          go_ret
          exact ⟨by rw [Hf.out]; rfl, Hg.out.trans (by (repeat (first | exact Grew.refl _ | refine Grew.over ?_ _ | refine Grew.alloc ?_ _ | refine Grew.drew ?_ | refine Grew.drewN ?_ _)))⟩
        · have HJ2 := Lib.hid hJd
          have Hl5 : Hid ((b.drop r).length = L - r) := Lib.hid (by rw [List.length_drop, HLb.out])
          clear e2 hJd
          go_upto_region 6 with fail
          refine wp_region_over (by kernel_rfl) (by kernel_rfl) ?_; (repeat (go_big_quiet_step (first
                      | (go_at_call 45; apply over_call; with_reducible exact equal_ie He1.out (HI1.out.grew (Hg.out.trans (by (repeat (first | exact Grew.refl _ | refine Grew.over ?_ _ | refine Grew.alloc ?_ _ | refine Grew.drew ?_ | refine Grew.drewN ?_ _))))) (HJ1.out.grew (Hg.out.trans (by (repeat (first | exact Grew.refl _ | refine Grew.over ?_ _ | refine Grew.alloc ?_ _ | refine Grew.drew ?_ | refine Grew.drewN ?_ _))))) Hl1.out Hl2.out)
                      | (go_at_call 45; apply over_call; with_reducible exact equal_ie He2.out (HI2.out.grew (Hg.out.trans (by (repeat (first | exact Grew.refl _ | refine Grew.over ?_ _ | refine Grew.alloc ?_ _ | refine Grew.drew ?_ | refine Grew.drewN ?_ _))))) (HJ2.out.grew (Hg.out.trans (by (repeat (first | exact Grew.refl _ | refine Grew.over ?_ _ | refine Grew.alloc ?_ _ | refine Grew.drew ?_ | refine Grew.drewN ?_ _))))) Hl3.out Hl5.out)))); refine wpQuiet_nil ?_; rintro _ ⟨x, rfl⟩
          go_wp2
          go_ret
          exact ⟨by rw [Hf.out]; rfl, Hg.out.trans (by (repeat (first | exact Grew.refl _ | refine Grew.over ?_ _ | refine Grew.alloc ?_ _ | refine Grew.drew ?_ | refine Grew.drewN ?_ _)))⟩
    · by_cases h0 : L = 0
      · have Hf : Hid (cycB a b = true) := Lib.hid (cycB_yes ⟨Hl.out, Or.inl (by rw [HL.out]; exact h0)⟩)
        have h0' : ((L : Int) == 0) = true := by rw [beq_iff_eq]; omega
        clear h0
        go_wp2
        go_ret
        exact ⟨by rw [Hf.out]; rfl, Hg.out.trans (by (repeat (first | exact Grew.refl _ | refine Grew.over ?_ _ | refine Grew.alloc ?_ _ | refine Grew.drew ?_ | refine Grew.drewN ?_ _)))⟩
      · have Hf : Hid (cycB a b = false) := Lib.hid (cycB_no fun h => by
          rcases h.2 with h | ⟨t, ht, h⟩
          · rw [HL.out] at h; exact h0 h
          · exact Hno.out t (by rw [HL.out] at ht; omega) h)
        have h0' : ((L : Int) == 0) = false := by rw [beq_eq_false_iff_ne]; omega
        clear h0
        go_wp2
        go_ret
        exact ⟨by rw [Hf.out]; rfl, Hg.out.trans (by (repeat (first | exact Grew.refl _ | refine Grew.over ?_ _ | refine Grew.alloc ?_ _ | refine Grew.drew ?_ | refine Grew.drewN ?_ _)))⟩
end Go.Proofs.YtcahceceeeaeoaaDoor
