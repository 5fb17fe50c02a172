/- Same of the reference and of the program (printed by gen_polm.py). -/
import Derived.Test.YtmljfjcebfonaaaPolC
set_option linter.unusedSimpArgs false
set_option linter.unusedVariables false
namespace Go.Proofs.Ytmljfjcebfonaaa
open Go.RowKit
attribute [local go_sem ↓] Go.wp_at_zero Go.wp_at_succ

set_option maxHeartbeats 2000000 in
theorem same_r (p q : Option Addr) (n k c d : Nat) (A B : List (Int × Int)) (w : World) (hP : Prs w p A) (hQ : Prs w q B) (hn : A.length = n) (hk : B.length = k) :
    Calls Try.prog 19 #[.slice p n c, .slice q k d] w fun e w' => e = .returned (.bool (decide (A = B))) ∧ Grew w w' := by
  subst hn hk
  by_cases hl : A.length = B.length
  case neg =>
    have Hf : Hid (decide (A = B) = false) := Lib.hid (decide_eq_false fun h => hl (by rw [h]))
    have hl' : ((A.length : Int) != (B.length : Int)) = true := by rw [bne_iff_ne]; omega
    clear hl hP hQ
    go_enter Try.func19, Try.ntmps19
    go_wp2
    go_ret
    exact ⟨by rw [Hf.out]; rfl, Grew.refl _⟩
  have hmx := hP.1
  have HP := Lib.hid hP
  have HQ := Lib.hid hQ
  have Hl := Lib.hid hl
  obtain ⟨L, hL⟩ : ∃ L, A.length = L := ⟨_, rfl⟩
  have hLB : B.length = L := by omega
  have HL := Lib.hid hL
  have HLB := Lib.hid hLB
  rw [hL] at hmx
  rw [hL, hLB]
  clear hP hQ hl hL hLB
  go_enter Try.func19, Try.ntmps19
  go_wp2
  go_loopw [5] (fun i wr => ∃ j : Nat, j ≤ L ∧ i = .int .i64 j ∧ (∀ t, t < j → pr A t = pr B t) ∧ Grew w wr) (fun i _ => L - (intOf i).toNat)
  case atStart => exact ⟨0, Nat.zero_le _, rfl, fun t ht => absurd ht (Nat.not_lt_zero _), Grew.refl _⟩
  case round =>
    obtain ⟨j, hj, rfl, hall, hg⟩ := hrel
    have Hall := Lib.hid hall
    have Hg := Lib.hid hg
    clear hall hg
    by_cases hlt : j < L
    · obtain ⟨b, o, rfl, hb, hc⟩ := HP.out.cells (by rw [HL.out]; omega)
      obtain ⟨b', o', rfl, hb', hc'⟩ := HQ.out.cells (by rw [HLB.out]; omega)
      obtain ⟨c1, c2⟩ := hc wr Hg.out j (by rw [HL.out]; exact hlt)
      obtain ⟨d1, d2⟩ := hc' wr Hg.out j (by rw [HLB.out]; exact hlt)
      have hsz := Hg.out.below.size
      clear hc hc'
      go_upto_region 6 with fail
      refine wp_region_over (by kernel_rfl) (by kernel_rfl) ?_; (repeat (go_big_quiet_step (fail))); refine wpQuiet_nil ?_; rintro _ ⟨x, rfl⟩
      by_cases he : pr A j = pr B j
      · have he' := eqb_yes he
        have He := Lib.hid he
        rw [he']
        clear he
        go_wp2
        go_roundw
        case rel => exact ⟨j + 1, by omega, by go_num, (fun t ht => by
          by_cases e : t = j
          · subst e; exact He.out
          · exact Hall.out t (by omega)), Hg.out.trans (by (repeat (first | exact Grew.refl _ | refine Grew.over ?_ _ | refine Grew.alloc ?_ _ | refine Grew.drew ?_ | refine Grew.drewN ?_ _)))⟩
        case measure => simp [intOf]; omega
      · have he' := eqb_no he
        have Hf : Hid (decide (A = B) = false) := Lib.hid (decide_eq_false fun h => he (by rw [h]))
        rw [he']
        clear he
        go_wp2
        go_ret
        exact ⟨by rw [Hf.out]; rfl, Hg.out.trans (by (repeat (first | exact Grew.refl _ | refine Grew.over ?_ _ | refine Grew.alloc ?_ _ | refine Grew.drew ?_ | refine Grew.drewN ?_ _)))⟩
    · have Hf : Hid (decide (A = B) = true) := Lib.hid (decide_eq_true (prs_ext Hl.out fun i hi => Hall.out i (by rw [HL.out] at hi; omega)))
      go_wp2
      go_ret
      exact ⟨by rw [Hf.out]; rfl, Hg.out⟩

set_option maxHeartbeats 2000000 in
theorem equal_p (p q : Option Addr) (n k c d : Nat) (A B : List (Int × Int)) (w : World) (hP : Prs w p A) (hQ : Prs w q B) (hn : A.length = n) (hk : B.length = k) :
    Calls Try.prog 38 #[.slice p n c, .slice q k d] w fun e w' => e = .returned (.bool (decide (A = B))) ∧ Grew w w' := by
  subst hn hk
  by_cases hl : A.length = B.length
  case neg =>
    have Hf : Hid (decide (A = B) = false) := Lib.hid (decide_eq_false fun h => hl (by rw [h]))
    have hl' : ((A.length : Int) != (B.length : Int)) = true := by rw [bne_iff_ne]; omega
    clear hl hP hQ
    go_enter Try.func38, Try.ntmps38
    go_wp2
    go_ret
    exact ⟨by rw [Hf.out]; rfl, Grew.refl _⟩
  have hmx := hP.1
  have HP := Lib.hid hP
  have HQ := Lib.hid hQ
  have Hl := Lib.hid hl
  obtain ⟨L, hL⟩ : ∃ L, A.length = L := ⟨_, rfl⟩
  have hLB : B.length = L := by omega
  have HL := Lib.hid hL
  have HLB := Lib.hid hLB
  rw [hL] at hmx
  rw [hL, hLB]
  clear hP hQ hl hL hLB
  go_enter Try.func38, Try.ntmps38
  go_wp2
  go_loopw [13] (fun i wr => ∃ j : Nat, j ≤ L ∧ i = .int .i64 j ∧ (∀ t, t < j → pr A t = pr B t) ∧ Grew w wr) (fun i _ => L - (intOf i).toNat)
  case atStart => exact ⟨0, Nat.zero_le _, rfl, fun t ht => absurd ht (Nat.not_lt_zero _), Grew.refl _⟩
  case round =>
    obtain ⟨j, hj, rfl, hall, hg⟩ := hrel
    have Hall := Lib.hid hall
    have Hg := Lib.hid hg
    clear hall hg
    by_cases hlt : j < L
    · obtain ⟨b, o, rfl, hb, hc⟩ := HP.out.cells (by rw [HL.out]; omega)
      obtain ⟨b', o', rfl, hb', hc'⟩ := HQ.out.cells (by rw [HLB.out]; omega)
      obtain ⟨c1, c2⟩ := hc wr Hg.out j (by rw [HL.out]; exact hlt)
      obtain ⟨d1, d2⟩ := hc' wr Hg.out j (by rw [HLB.out]; exact hlt)
      have hsz := Hg.out.below.size
      clear hc hc'
      go_upto_region 6 with fail
      refine wp_region_over (by kernel_rfl) (by kernel_rfl) ?_; (repeat (go_big_quiet_step (fail))); refine wpQuiet_nil ?_; rintro _ ⟨x, rfl⟩
      by_cases he : pr A j = pr B j
      · have he' := eqb_yes he
        have He := Lib.hid he
        rw [he']
        clear he
        go_wp2
        go_roundw
        case rel => exact ⟨j + 1, by omega, by go_num, (fun t ht => by
          by_cases e : t = j
          · subst e; exact He.out
          · exact Hall.out t (by omega)), Hg.out.trans (by (repeat (first | exact Grew.refl _ | refine Grew.over ?_ _ | refine Grew.alloc ?_ _ | refine Grew.drew ?_ | refine Grew.drewN ?_ _)))⟩
        case measure => simp [intOf]; omega
      · have he' := eqb_no he
        have Hf : Hid (decide (A = B) = false) := Lib.hid (decide_eq_false fun h => he (by rw [h]))
        rw [he']
        clear he
        go_wp2
        go_ret
        exact ⟨by rw [Hf.out]; rfl, Hg.out.trans (by (repeat (first | exact Grew.refl _ | refine Grew.over ?_ _ | refine Grew.alloc ?_ _ | refine Grew.drew ?_ | refine Grew.drewN ?_ _)))⟩
    · have Hf : Hid (decide (A = B) = true) := Lib.hid (decide_eq_true (prs_ext Hl.out fun i hi => Hall.out i (by rw [HL.out] at hi; omega)))
      go_wp2
      go_ret
      exact ⟨by rw [Hf.out]; rfl, Hg.out⟩

theorem same_l (p q : Option Addr) (n k c d : Nat) (A B : List (Int × Int)) (w : World) (hP : Prs w p A) (hQ : Prs w q B) (hn : A.length = n) (hk : B.length = k) :
    Calls Try.prog 25 #[.slice p n c, .slice q k d] w fun e w' => e = .returned (.bool (decide (A = B))) ∧ Grew w w' := by
  have HC := Lib.hid (equal_p p q n k c d A B w hP hQ hn hk)
  clear hP hQ hn hk
  go_enter Try.func25, Try.ntmps25
  go_wp2_with (go_at_call 38; apply Calls.mono; (with_reducible exact HC.out); rintro e w' ⟨rfl, x, rfl⟩)
  go_ret
  exact ⟨rfl, by (repeat (first | exact Grew.refl _ | refine Grew.over ?_ _ | refine Grew.alloc ?_ _ | refine Grew.drew ?_ | refine Grew.drewN ?_ _))⟩
theorem same_re {p q : Option Addr} {n k c d : Nat} {A B : List (Int × Int)} {w : World} {r : Bool} (h : decide (A = B) = r) (hP : Prs w p A) (hQ : Prs w q B) (hn : A.length = n) (hk : B.length = k) :
    Calls Try.prog 19 #[.slice p n c, .slice q k d] w fun e w' => e = .returned (.bool r) ∧ Grew w w' := h ▸ same_r p q n k c d A B w hP hQ hn hk
theorem same_pe {p q : Option Addr} {n k c d : Nat} {A B : List (Int × Int)} {w : World} {r : Bool} (h : decide (A = B) = r) (hP : Prs w p A) (hQ : Prs w q B) (hn : A.length = n) (hk : B.length = k) :
    Calls Try.prog 25 #[.slice p n c, .slice q k d] w fun e w' => e = .returned (.bool r) ∧ Grew w w' := h ▸ same_l p q n k c d A B w hP hQ hn hk
end Go.Proofs.Ytmljfjcebfonaaa
